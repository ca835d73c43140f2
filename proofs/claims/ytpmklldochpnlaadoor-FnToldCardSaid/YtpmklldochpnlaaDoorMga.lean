/- Several texts in one: The number below 1000 with given words: both programs. Steps applied, plainly. -/
import Derived.Test.YtpmklldochpnlaaDoorRwP
import Derived.Test.YtpmklldochpnlaaDoorNumW2
import Derived.Deep.LoopGhost
import Derived.Test.YtpmklldochpnlaaDoorMem

namespace Go.Proofs.YtpmklldochpnlaaDoor
open Go.RowKit
set_option linter.unusedVariables false
set_option maxRecDepth 100000 in
set_option maxHeartbeats 1000000 in
theorem iBelow_any (t : ByteArray) (ht : t.size ≤ maxLen) (w : World) :
    Calls Tryd.prog 28 #[.string t] w fun e w' => e = .returned (.tuple #[.int .i64 (go0 (sm t) : Nat), .bool (sm t).isSome]) ∧ Below w.heap.size w w' := by
  unfold maxLen at ht
  obtain ⟨S, hS⟩ : ∃ S, S = sm t := ⟨_, rfl⟩
  rw [← hS]
  have HS := Lib.hid hS; clear hS
  go_enter Tryd.func28, Tryd.ntmps28
  go_wp2_with fail
  go_loopg [5] 1000 (fun m n wr => ∃ k : Nat, n = .int .i64 k ∧ k ≤ 1000 ∧ 1000 ≤ m + k ∧ Hid (smF t (1000 - k) k = S) ∧ Below w.heap.size w wr)
  case atStart => exact ⟨0, rfl, by omega, by omega, HS.out.symm, Below.refl _ _⟩
  case round =>
    obtain ⟨k, rfl, hk, hm, HR, hb⟩ := hrel
    by_cases hlt : k < 1000
    · obtain ⟨f, hf⟩ : ∃ f : Nat, 1000 - k = f + 1 := ⟨1000 - k - 1, by omega⟩
      have HF := Lib.hid hf; clear hf
      have hN := nw1000_any (k : Int) (by omega) (by omega)
      simp only [Int.toNat_natCast] at hN
      by_cases he : w1000 k = t
      · have he' := str_eq he
        have HE : Hid (S = some k) := by show _ = _; rw [← HR.out, HF.out, smF_here he]
        clear he
        go_wp2_with (first | (go_at_call 27; refine (hN _).mono ?_; rintro e w1 ⟨rfl, hb1⟩; clear hN))
        go_ret2
        exact ⟨by rw [HE.out]; rfl, hb.trans (hb1.mono hb.size)⟩
      · have he' := str_ne he
        have HE : Hid (smF t (1000 - (k + 1)) (k + 1) = S) := by show _ = _; rw [← HR.out, HF.out, smF_next he, show 1000 - (k + 1) = f from by have := HF.out; omega]
        clear he
        go_wp2_with (first | (go_at_call 27; refine (hN _).mono ?_; rintro e w1 ⟨rfl, hb1⟩; clear hN))
        go_roundg (gk - 1)
        case measure => omega
        case rel => exact ⟨k + 1, by go_num, by omega, by omega, HE, hb.trans (hb1.mono hb.size)⟩
    · obtain rfl : k = 1000 := by omega
      have HE : Hid (S = none) := by show _ = _; rw [← HR.out]; rfl
      go_wp2_with fail
      go_ret2
      exact ⟨by rw [HE.out]; rfl, hb⟩
end Go.Proofs.YtpmklldochpnlaaDoor


namespace Go.Proofs.YtpmklldochpnlaaDoor
open Go.PlainAid
set_option linter.unusedVariables false
/-- Byte k of a string; 0 behind its end. -/
def b8 (s : ByteArray) (k : Nat) : UInt8 := if h : k < s.size then s[k]'h else 0
theorem get_b8 (s : ByteArray) : ∀ (n : Nat) (h : n < s.size), s[n]'h = b8 s n := fun n h => by unfold b8; rw [dif_pos h]
def apStep (a b : ByteArray) (c : UInt8) (i k : Nat) : Option (Nat × Nat) :=
  if c = 61 then (if i = a.size ∨ k = b.size ∨ b8 a i ≠ b8 b k then none else some (i + 1, k + 1))
  else if c = 33 then (if i = a.size ∨ k = b.size then none else some (i + 1, k + 1))
  else if c = 45 then (if i = a.size then none else some (i + 1, k))
  else if c = 43 then (if k = b.size then none else some (i, k + 1))
  else none
def apRun (a b s : ByteArray) : Nat → Nat → Nat → Nat → Bool
  | 0, _, i, k => decide (a.size ≤ i ∧ b.size ≤ k)
  | f + 1, t, i, k => match apStep a b (b8 s t) i k with
    | none => false
    | some p => apRun a b s f (t + 1) p.1 p.2
theorem apRun_no {a b s : ByteArray} {n t i k : Nat} (ht : t < n) (h : apStep a b (b8 s t) i k = none) : apRun a b s (n - t) t i k = false := by
  obtain ⟨f, hf⟩ : ∃ f, n - t = f + 1 := ⟨n - t - 1, by omega⟩
  rw [hf, apRun, h]
theorem apRun_yes {a b s : ByteArray} {n t i k i' k' : Nat} (ht : t < n) (h : apStep a b (b8 s t) i k = some (i', k')) : apRun a b s (n - t) t i k = apRun a b s (n - (t + 1)) (t + 1) i' k' := by
  obtain ⟨f, hf⟩ : ∃ f, n - t = f + 1 := ⟨n - t - 1, by omega⟩
  rw [hf, apRun, h, show n - (t + 1) = f from by omega]
end Go.Proofs.YtpmklldochpnlaaDoor
