/- Numbers in words: the recursion of the program and of the reference. -/
import Derived.Test.YtpmklldochpnlaaDoorNumW

namespace Go.Proofs.YtpmklldochpnlaaDoor
open Go.RowKit
set_option linter.unusedVariables false

set_option maxHeartbeats 400000 in
theorem nw100_any (x : Int) (h0 : 0 ≤ x) (h1 : x < 100) (w : World) :
    Calls Tryd.prog 27 #[.int .i64 x] w fun e w' => e = .returned (.string (w100 x.toNat)) ∧ Below w.heap.size w w' := by
  go_enter Tryd.func27, Tryd.ntmps27
  go_wp2_with (go_at_call 41; refine (below100_any _ (by omega) (by omega) _).mono ?_; rintro e w1 ⟨rfl, hb1⟩)
  go_ret
  exact ⟨rfl, hb1⟩

theorem withRest_gen (N : Nat → ByteArray) (m : Int) (hN : ∀ n, (N n).size ≤ 1000)
    (hc : ∀ (x : Int) (h0 : 0 ≤ x) (h1 : x < m) (w : World), Calls Tryd.prog 27 #[.int .i64 x] w fun e w' => e = .returned (.string (N x.toNat)) ∧ Below w.heap.size w w')
    (s : ByteArray) (hs : s.size ≤ 1000) (r : Int) (h0 : 0 ≤ r) (h1 : r < m) (w : World) :
    Calls Tryd.prog 42 #[.string s, .int .i64 r] w fun e w' => e = .returned (.string (if r = 0 then s else s ++ ⟨#[32]⟩ ++ N r.toNat)) ∧ Below w.heap.size w w' := by
  have HC := Lib.hid hc; clear hc
  have s1 := hN r.toNat
  have HN := Lib.hid hN; clear hN
  by_cases h : r = 0
  · have hz : (r == 0) = true := by simp [h]
    have H := Lib.hid h; clear h
    go_enter Tryd.func42, Tryd.ntmps42
    go_wp2
    go_ret
    exact ⟨rfl, Below.refl _ _⟩
  · have hz : (r == 0) = false := by simp [h]
    have H := Lib.hid h; clear h
    go_enter Tryd.func42, Tryd.ntmps42
    go_wp2_with (go_at_call 27; refine (HC.out _ h0 h1 _).mono ?_; rintro e w1 ⟨rfl, hb1⟩)
    go_ret
    exact ⟨rfl, hb1⟩

set_option maxHeartbeats 400000 in
theorem nw1000_any (x : Int) (h0 : 0 ≤ x) (h1 : x < 1000) (w : World) :
    Calls Tryd.prog 27 #[.int .i64 x] w fun e w' => e = .returned (.string (w1000 x.toNat)) ∧ Below w.heap.size w w' := by
  by_cases h : x < 100
  · refine (nw100_any x h0 h w).mono fun e w' ⟨he, hb⟩ => ⟨?_, hb⟩
    rw [he]
    exact ret_str (if_pos (by omega)).symm
  · have s1 := w100_small (x / 100).toNat
    have s2 := w100_small (x % 100).toNat
    have e8 : hundred.size = 8 := rfl
    have hR : Hid (w1000 x.toNat = if x % 100 = 0 then w100 (x / 100).toNat ++ hundred else w100 (x / 100).toNat ++ hundred ++ ⟨#[32]⟩ ++ w100 (x % 100).toNat) := by
      show w1000 x.toNat = _
      unfold w1000
      rw [if_neg (by omega), show (x / 100).toNat = x.toNat / 100 from by omega, show (x % 100).toNat = x.toNat % 100 from by omega]
      by_cases hz : x % 100 = 0
      · rw [if_pos (by omega), if_pos hz]
      · rw [if_neg (by omega), if_neg hz]
    clear e8
    have h' : 100 ≤ x := by omega
    clear h
    go_enter Tryd.func27, Tryd.ntmps27
    go_wp2_with fail
    refine (below100_any _ (by omega) (by omega) _).mono ?_; rintro e w1 ⟨rfl, hb1⟩
    go_wp2_with fail
    refine (withRest_gen w100 100 (fun n => by have := w100_small n; omega) nw100_any _ ?_ _ (by omega) (by omega) _).mono ?_
    · rw [ByteArray.size_append]; have : (⟨#[32, 104, 117, 110, 100, 114, 101, 100]⟩ : ByteArray).size = 8 := rfl; omega
    rintro e w2 ⟨rfl, hb2⟩
    have HB := Lib.hid (hb1.trans (hb2.mono hb1.size)); clear hb1 hb2
    go_wp2
    all_goals go_ret
    all_goals refine ⟨ret_str (Eq.trans ?_ hR.out.symm), HB.out⟩
    all_goals first | (rw [if_pos ‹_›]; rfl) | (rw [if_neg ‹_›]; rfl) | rfl

set_option maxHeartbeats 400000 in
theorem nwAll_any (x : Int) (h0 : 0 ≤ x) (h1 : x < 1000000) (w : World) :
    Calls Tryd.prog 27 #[.int .i64 x] w fun e w' => e = .returned (.string (wAll x.toNat)) ∧ Below w.heap.size w w' := by
  by_cases h : x < 1000
  · refine (nw1000_any x h0 h w).mono fun e w' ⟨he, hb⟩ => ⟨?_, hb⟩
    rw [he]
    exact ret_str (if_pos (by omega)).symm
  · have s1 := w1000_small (x / 1000).toNat
    have s2 := w1000_small (x % 1000).toNat
    have hR : Hid (wAll x.toNat = if x % 1000 = 0 then w1000 (x / 1000).toNat ++ thousand else w1000 (x / 1000).toNat ++ thousand ++ ⟨#[32]⟩ ++ w1000 (x % 1000).toNat) := by
      show wAll x.toNat = _
      unfold wAll
      rw [if_neg (by omega), show (x / 1000).toNat = x.toNat / 1000 from by omega, show (x % 1000).toNat = x.toNat % 1000 from by omega]
      by_cases hz : x % 1000 = 0
      · rw [if_pos (by omega), if_pos hz]
      · rw [if_neg (by omega), if_neg hz]
    have h' : 1000 ≤ x := by omega
    clear h
    go_enter Tryd.func27, Tryd.ntmps27
    go_wp2_with fail
    refine (nw1000_any _ (by omega) (by omega) _).mono ?_; rintro e w1 ⟨rfl, hb1⟩
    go_wp2_with fail
    refine (withRest_gen w1000 1000 (fun n => by have := w1000_small n; omega) nw1000_any _ ?_ _ (by omega) (by omega) _).mono ?_
    · rw [ByteArray.size_append]; have : (⟨#[32, 116, 104, 111, 117, 115, 97, 110, 100]⟩ : ByteArray).size = 9 := rfl; omega
    rintro e w2 ⟨rfl, hb2⟩
    have HB := Lib.hid (hb1.trans (hb2.mono hb1.size)); clear hb1 hb2
    go_wp2
    all_goals go_ret
    all_goals refine ⟨ret_str (Eq.trans ?_ hR.out.symm), HB.out⟩
    all_goals first | (rw [if_pos ‹_›]; rfl) | (rw [if_neg ‹_›]; rfl) | rfl

theorem small_ten {n : Nat} (h : n < 10) : w100 n = ones n := if_pos (by omega)
/-- What both return. -/
def numOut (n : Int) : ByteArray := if inB n 0 999999 then wAll n.toNat else ⟨#[]⟩
set_option maxHeartbeats 400000 in
theorem iNumberWords_any (n : Int) (w : World) :
    Calls Tryd.prog 12 #[.int .i64 n] w fun e w' => e = .returned (.tuple #[.string (numOut n), .bool (inB n 0 999999)]) ∧ Below w.heap.size w w' := by
  by_cases h : inB n 0 999999 = true
  · have hb := inB_true h
    have hR := Lib.hid (show numOut n = wAll n.toNat from if_pos h)
    go_enter Tryd.func12, Tryd.ntmps12
    go_wp2_with (first | (go_at_call 26; refine (iIn_any _ _ _ _).mono ?_; rintro e w' ⟨rfl, rfl⟩) | (go_at_call 27; refine (nwAll_any _ (by omega) (by omega) _).mono ?_; rintro e w1 ⟨rfl, hb1⟩))
    go_ret2
    exact ⟨by rw [hR.out, h]; rfl, hb1⟩
  · have hR := Lib.hid (show numOut n = ⟨#[]⟩ from if_neg h)
    have hf : inB n 0 999999 = false := by simpa using h
    go_enter Tryd.func12, Tryd.ntmps12
    go_wp2_with (first | (go_at_call 26; refine (iIn_any _ _ _ _).mono ?_; rintro e w' ⟨rfl, rfl⟩))
    go_ret2
    exact ⟨by rw [hR.out, hf]; rfl, Below.refl _ _⟩
end Go.Proofs.YtpmklldochpnlaaDoor
