/- The number below 1000 with given words: both programs. -/
import Derived.Test.YtpmklldochpnlaaRwP
import Derived.Test.YtpmklldochpnlaaNumW2
import Derived.Deep.LoopGhost
namespace Go.Proofs.Ytpmklldochpnlaa
open Go.RowKit
set_option linter.unusedVariables false
set_option maxRecDepth 100000 in
set_option maxHeartbeats 1000000 in
theorem iBelow_any (t : ByteArray) (ht : t.size ≤ maxLen) (w : World) :
    Calls Try.prog 70 #[.string t] w fun e w' => e = .returned (.tuple #[.int .i64 (go0 (sm t) : Nat), .bool (sm t).isSome]) ∧ Below w.heap.size w w' := by
  unfold maxLen at ht
  obtain ⟨S, hS⟩ : ∃ S, S = sm t := ⟨_, rfl⟩
  rw [← hS]
  have HS := Lib.hid hS; clear hS
  go_enter Try.func70, Try.ntmps70
  go_wp2_with fail
  go_loopg [5] 1000 (fun m n wr => ∃ k : Nat, n = .int .i64 k ∧ k ≤ 1000 ∧ 1000 ≤ m + k ∧ Hid (smF t (1000 - k) k = S) ∧ Below w.heap.size w wr)
  case atStart => exact ⟨0, rfl, by omega, by omega, HS.out.symm, Below.refl _ _⟩
  case round =>
    obtain ⟨k, rfl, hk, hm, HR, hb⟩ := hrel
    by_cases hlt : k < 1000
    · obtain ⟨f, hf⟩ : ∃ f : Nat, 1000 - k = f + 1 := ⟨1000 - k - 1, by omega⟩
      have HF := Lib.hid hf; clear hf
      have hN := nw1000_any (k : Int) (by omega) (by omega)
      simp only [Int.toNat_natCast] at hN
      by_cases he : w1000 k = t
      · have he' := str_eq he
        have HE : Hid (S = some k) := by show _ = _; rw [← HR.out, HF.out, smF_here he]
        clear he
        go_wp2_with (first | (go_at_call 72; refine (hN _).mono ?_; rintro e w1 ⟨rfl, hb1⟩; clear hN))
        go_ret2
        exact ⟨by rw [HE.out]; rfl, hb.trans (hb1.mono hb.size)⟩
      · have he' := str_ne he
        have HE : Hid (smF t (1000 - (k + 1)) (k + 1) = S) := by show _ = _; rw [← HR.out, HF.out, smF_next he, show 1000 - (k + 1) = f from by have := HF.out; omega]
        clear he
        go_wp2_with (first | (go_at_call 72; refine (hN _).mono ?_; rintro e w1 ⟨rfl, hb1⟩; clear hN))
        go_roundg (gk - 1)
        case measure => omega
        case rel => exact ⟨k + 1, by go_num, by omega, by omega, HE, hb.trans (hb1.mono hb.size)⟩
    · obtain rfl : k = 1000 := by omega
      have HE : Hid (S = none) := by show _ = _; rw [← HR.out]; rfl
      go_wp2_with fail
      go_ret2
      exact ⟨by rw [HE.out]; rfl, hb⟩
set_option maxRecDepth 100000 in
set_option maxHeartbeats 1000000 in
theorem sSmaller_any (t : ByteArray) (ht : t.size ≤ maxLen) (w : World) :
    Calls Try.prog 69 #[.string t] w fun e w' => e = .returned (.tuple #[.int .i64 (go0 (sm t) : Nat), .bool (sm t).isSome]) ∧ Below w.heap.size w w' := by
  unfold maxLen at ht
  obtain ⟨S, hS⟩ : ∃ S, S = sm t := ⟨_, rfl⟩
  rw [← hS]
  have HS := Lib.hid hS; clear hS
  go_enter Try.func69, Try.ntmps69
  go_wp2_with fail
  go_loopg [4] 1000 (fun m n wr => ∃ k : Nat, n = .int .i64 k ∧ k ≤ 1000 ∧ 1000 ≤ m + k ∧ Hid (smF t (1000 - k) k = S) ∧ Below w.heap.size w wr)
  case atStart => exact ⟨0, rfl, by omega, by omega, HS.out.symm, Below.refl _ _⟩
  case round =>
    obtain ⟨k, rfl, hk, hm, HR, hb⟩ := hrel
    by_cases hlt : k < 1000
    · obtain ⟨f, hf⟩ : ∃ f : Nat, 1000 - k = f + 1 := ⟨1000 - k - 1, by omega⟩
      have HF := Lib.hid hf; clear hf
      have hN := sSmall_any (k : Int) (by omega) (by omega)
      simp only [Int.toNat_natCast] at hN
      by_cases he : w1000 k = t
      · have he' := str_eq he
        have HE : Hid (S = some k) := by show _ = _; rw [← HR.out, HF.out, smF_here he]
        clear he
        go_wp2_with (first | (go_at_call 89; refine (hN _).mono ?_; rintro e w1 ⟨rfl, hb1⟩; clear hN))
        go_ret2
        exact ⟨by rw [HE.out]; rfl, hb.trans (hb1.mono hb.size)⟩
      · have he' := str_ne he
        have HE : Hid (smF t (1000 - (k + 1)) (k + 1) = S) := by show _ = _; rw [← HR.out, HF.out, smF_next he, show 1000 - (k + 1) = f from by have := HF.out; omega]
        clear he
        go_wp2_with (first | (go_at_call 89; refine (hN _).mono ?_; rintro e w1 ⟨rfl, hb1⟩; clear hN))
        go_roundg (gk - 1)
        case measure => omega
        case rel => exact ⟨k + 1, by go_num, by omega, by omega, HE, hb.trans (hb1.mono hb.size)⟩
    · obtain rfl : k = 1000 := by omega
      have HE : Hid (S = none) := by show _ = _; rw [← HR.out]; rfl
      go_wp2_with fail
      go_ret2
      exact ⟨by rw [HE.out]; rfl, hb⟩
end Go.Proofs.Ytpmklldochpnlaa
