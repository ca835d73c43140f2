/- Several texts in one: Steps applied, plainly. Reading texts of three letters from bytes (R8Text). -/
import Derived.Test.YtkfmjnefbimecaaMem
import Derived.Test.YtkfmjnefbimecaaSrM
import Derived.Deep.LoopGhost

namespace Go.Proofs.Ytkfmjnefbimecaa
open Go.PlainAid
set_option linter.unusedVariables false
/-- Byte k of a string; 0 behind its end. -/
def b8 (s : ByteArray) (k : Nat) : UInt8 := if h : k < s.size then s[k]'h else 0
theorem get_b8 (s : ByteArray) : ∀ (n : Nat) (h : n < s.size), s[n]'h = b8 s n := fun n h => by unfold b8; rw [dif_pos h]
def apStep (a b : ByteArray) (c : UInt8) (i k : Nat) : Option (Nat × Nat) :=
  if c = 61 then (if i = a.size ∨ k = b.size ∨ b8 a i ≠ b8 b k then none else some (i + 1, k + 1))
  else if c = 33 then (if i = a.size ∨ k = b.size then none else some (i + 1, k + 1))
  else if c = 45 then (if i = a.size then none else some (i + 1, k))
  else if c = 43 then (if k = b.size then none else some (i, k + 1))
  else none
def apRun (a b s : ByteArray) : Nat → Nat → Nat → Nat → Bool
  | 0, _, i, k => decide (a.size ≤ i ∧ b.size ≤ k)
  | f + 1, t, i, k => match apStep a b (b8 s t) i k with
    | none => false
    | some p => apRun a b s f (t + 1) p.1 p.2
theorem apRun_no {a b s : ByteArray} {n t i k : Nat} (ht : t < n) (h : apStep a b (b8 s t) i k = none) : apRun a b s (n - t) t i k = false := by
  obtain ⟨f, hf⟩ : ∃ f, n - t = f + 1 := ⟨n - t - 1, by omega⟩
  rw [hf, apRun, h]
theorem apRun_yes {a b s : ByteArray} {n t i k i' k' : Nat} (ht : t < n) (h : apStep a b (b8 s t) i k = some (i', k')) : apRun a b s (n - t) t i k = apRun a b s (n - (t + 1)) (t + 1) i' k' := by
  obtain ⟨f, hf⟩ : ∃ f, n - t = f + 1 := ⟨n - t - 1, by omega⟩
  rw [hf, apRun, h, show n - (t + 1) = f from by omega]
end Go.Proofs.Ytkfmjnefbimecaa


namespace Go.Proofs.Ytkfmjnefbimecaa
open Go.RowKit
set_option linter.unusedVariables false
def ABC (s : ByteArray) : Prop := ∀ j, j < s.size → b8 s j = 97 ∨ b8 s j = 98 ∨ b8 s j = 99
def abcL : List Value := [.string ⟨#[97]⟩, .string ⟨#[98]⟩, .string ⟨#[99]⟩]
theorem abc_at {x : Int} (h0 : 0 ≤ x) (h1 : x < (3 : Nat)) : ∃ s, abcL[x.toNat]? = some (.string s) ∧ s.size = 1 ∧ ABC s := by
  have hx : x = 0 ∨ x = 1 ∨ x = 2 := by omega
  rcases hx with rfl | rfl | rfl
  · refine ⟨⟨#[97]⟩, rfl, rfl, fun j hj => ?_⟩
    obtain rfl : j = 0 := by have : j < 1 := hj; omega
    exact .inl rfl
  · refine ⟨⟨#[98]⟩, rfl, rfl, fun j hj => ?_⟩
    obtain rfl : j = 0 := by have : j < 1 := hj; omega
    exact .inr (.inl rfl)
  · refine ⟨⟨#[99]⟩, rfl, rfl, fun j hj => ?_⟩
    obtain rfl : j = 0 := by have : j < 1 := hj; omega
    exact .inr (.inr rfl)
theorem ABC.app {s t : ByteArray} (h : ABC s) (h' : ABC t) : ABC (s ++ t) := fun j hj => by
  rw [ByteArray.size_append] at hj
  by_cases e : j < s.size
  · rw [show b8 (s ++ t) j = b8 s j by unfold b8; rw [dif_pos (by rw [ByteArray.size_append]; omega), dif_pos e]; exact ByteArray.getElem_append_left e]
    exact h j e
  · rw [show b8 (s ++ t) j = b8 t (j - s.size) by unfold b8; rw [dif_pos (by rw [ByteArray.size_append]; omega), dif_pos (by omega)]; exact ByteArray.getElem_append_right (by omega)]
    exact h' _ (by omega)
def TxtOut (w : World) (lo g : Nat) (a : Option Addr) (n c : Nat) (z : List Int) (i : Nat) (e : Ending) (w' : World) : Prop :=
  ∃ (s : ByteArray) (j : Nat) (sd : Int), s.size = 1 ∧ ABC s ∧ j ≤ i + 2 ∧ e = .returned (.string s) ∧ Src w' lo g a n c z j sd ∧ Below g w w' ∧ w'.heap.size = w.heap.size ∧ ∀ k, k ≠ g → w'.heap[k]? = w.heap[k]?
set_option maxHeartbeats 1000000 in
theorem text_any (w : World) (lo g q : Nat) (a : Option Addr) (n c : Nat) (z : List Int) (i : Nat) (sd : Int) (h : Src w lo g a n c z i sd) (hi : i ≤ 1000000) (hn : n ≤ maxLen) (T : TypeId) (hq : Row w q T abcL) (hqg : q ≠ g) :
    Calls Try.prog 78 #[.pointer (some ⟨g, 0, none⟩), .slice (some ⟨q, 0, none⟩) 3 3] w (TxtOut w lo g a n c z i) := by
  have hP := pick3_any w lo g a n c z i sd h hi hn 3 (by omega) (by omega)
  have HQ := Lib.hid hq
  clear h hq
  go_enter Try.func78, Try.ntmps78
  go_wp2_with fail
  refine hP.mono ?_; rintro e w1 ⟨x, j, sd', x0, x1, hj, rfl, hs, hb, hz, hk⟩
  obtain ⟨s, hs1, hs2, hs3⟩ := abc_at x0 x1
  have hr : Row w1 q T abcL := (hk q hqg).trans HQ.out
  have hc : w1.cell? ⟨q, x.toNat, none⟩ = some (.string s) := by rw [hr.cell, hs1]
  have HZ := Lib.hid hz; have HK := Lib.hid hk; have HS := Lib.hid hs2; clear hz hP hk hs1 hs2 hr
  have x2 : x < 3 := by omega
  go_wp2_with fail
  go_ret
  exact ⟨s, j, sd', HS.out, hs3, hj, rfl, hs, hb, HZ.out, HK.out⟩
set_option maxHeartbeats 1000000 in
theorem r8Text_any (w : World) (a : Option Addr) (n c : Nat) (z : List Int) (hz : SlY w w.heap.size a n z) (hn : n ≤ maxLen) (m : Nat) (hm : m ≤ 1000) :
    Calls Try.prog 29 #[.slice a n c, .int .i64 m] w fun e w' => ∃ s : ByteArray, e = .returned (.string s) ∧ s.size = m ∧ ABC s ∧ Below w.heap.size w w' := by
  have hF := from_any w a n c z hz
  have HZ := Lib.hid hz; clear hz
  go_enter Try.func29, Try.ntmps29
  go_wp2_with fail
  refine hF.mono ?_; rintro e w1 ⟨rfl, hs, hb, hsz⟩
  clear hF
  obtain ⟨g, hg⟩ : ∃ g, g = w.heap.size := ⟨_, rfl⟩
  rw [← hg] at hs hb hsz
  have HSZ := Lib.hid hsz; have HG := Lib.hid hg; clear hsz
  rw [← hg]
  clear hg
  go_wp2_with fail
  go_loopg [1, 6] m (fun f n' t wr => ∃ (k i : Nat) (sd : Int) (s : ByteArray), n' = .int .i64 ((m - k : Nat) : Int) ∧ k ≤ m ∧ m ≤ f + k ∧ i ≤ 2 * k ∧ t = .string s ∧ s.size = k ∧ ABC s ∧ Src wr g g a n c z i sd ∧ Below g w wr ∧ g < wr.heap.size)
  case atStart => exact ⟨0, 0, 0, ByteArray.empty, by simp, by omega, by omega, by omega, rfl, rfl, fun j hj => absurd hj (by simp), hs, hb, by rw [HSZ.out]; omega⟩
  case round =>
    obtain ⟨k, i, sd, s, rfl, hk, hf, hi, rfl, hss, habc, hsr, hbw, hgs⟩ := hrel
    obtain ⟨wo, rfl⟩ : ∃ x : World, x = wr := ⟨_, rfl⟩
    have HSS := Lib.hid hss
    have HA := Lib.hid habc
    have HSR := Lib.hid hsr
    have hs1 : s.size ≤ 1000 := by omega
    clear hss habc hsr
    by_cases hlt : k < m
    · have q1 : (0 : Int) < ((m - k : Nat) : Int) := by omega
      have q2 : ((m - k : Nat) : Int) ≤ 1000 := by omega
      go_wp2_with fail
      refine (text_any _ g g _ a n c z i sd (HSR.out.keep ((Below.refl _ _).alloc (Nat.le_refl _) _) hgs) (by omega) hn _ (Row.new _ _ _) (by omega)).mono ?_
      rintro e w2 ⟨t, j, sd', ht, htabc, hj, rfl, hs2, hb2, hz2, hk2⟩
      have HT := Lib.hid ht
      have hs3 : s.size + t.size ≤ 2000 := by omega
      have HK2 := Lib.hid hk2
      have HZ2 := Lib.hid hz2
      clear ht hk2 hz2
      go_wp2_with fail
      go_roundg (gk - 1)
      case measure => omega
      case rel => exact ⟨k + 1, j, sd', s ++ t, by go_num, by omega, by omega, by omega, rfl, by rw [ByteArray.size_append, HSS.out, HT.out], HA.out.app htabc, hs2, (hbw.alloc (by omega) _).trans hb2, by rw [HZ2.out]; simp; omega⟩
    · have q1 : ((m - k : Nat) : Int) ≤ 0 := by omega
      have q2 : (0 : Int) ≤ ((m - k : Nat) : Int) := by omega
      go_wp2_with fail
      go_ret
      exact ⟨s, rfl, by rw [HSS.out]; omega, HA.out, by rw [← HG.out]; exact hbw⟩
end Go.Proofs.Ytkfmjnefbimecaa
