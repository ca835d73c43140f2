/- NearShared of both programs. -/
import Derived.Test.YtpmklldochpnlaaNr
namespace Go.Proofs.Ytpmklldochpnlaa
open Go.RowKit Go.PlainAid
set_option linter.unusedVariables false
def nshB (ss : List ByteArray) (t : ByteArray) (k : Int) : Bool := nsB ss t && inB k 1 8
theorem lt_parts {ss : List ByteArray} (h : ltB ss = true) : ss.length ≤ 32 ∧ ss.all txtB = true := by
  have h' : (decide (ss.length ≤ 32) && ss.all txtB) = true := h
  rw [Bool.and_eq_true] at h'
  exact ⟨of_decide_eq_true h'.1, h'.2⟩
set_option maxHeartbeats 1000000 in
theorem sNearShared_any (A : Option Addr) (n c : Nat) (ss : List ByteArray) (t : ByteArray) (k : Int) (w : World) (h : SlS w w.heap.size A n ss) (hn : n ≤ maxLen) (wt : t.size ≤ maxLen) :
    Calls Try.prog 23 #[.slice A n c, .string t, .int .i64 k] w fun e w' => ∃ v, e = .returned (.tuple #[v, .bool (nshB ss t k)]) ∧ NsOut w' w.heap.size v (nshB ss t k) (nrs ss t) ∧ Below w.heap.size w w' := by
  have hl := Lib.hid h.len
  have hL := sList_any A n c ss w w.heap.size h hn
  have H := Lib.hid h; clear h
  by_cases h1 : ltB ss = true
  · rw [h1] at hL
    have hp := lt_parts h1
    have h32 : n ≤ 32 := by rw [← hl.out]; exact hp.1
    have HP := Lib.hid hp.2
    clear hp
    by_cases h2 : txtB t = true
    · have ht := txtB_true h2
      by_cases h3 : inB k 1 8 = true
      · have hB := Lib.hid (show nshB ss t k = true by rw [nshB, nsB, h1, h2, h3]; rfl)
        clear h1
        go_enter Try.func23, Try.ntmps23
        go_wp2_with (first | (go_at_call 55; refine hL.mono ?_; rintro e w' ⟨rfl, hw⟩; obtain rfl := hw.symm; clear hL) | (go_at_call 58; refine (sText_any _ wt _).mono ?_; rintro e w' ⟨rfl, hw⟩; subst hw) | (go_at_call 59; refine (sIn_any _ _ _ _).mono ?_; rintro e w' ⟨rfl, hw⟩; subst hw) | (go_at_call 62; refine (sNears_any A n c ss t w H.out h32 HP.out ht).mono ?_; rintro e w2 ⟨v, rfl, hv, hb2⟩))
        go_ret2
        exact ⟨v, by rw [hB.out]; rfl, by rw [NsOut, hB.out]; exact hv, hb2⟩
      · have h3' : inB k 1 8 = false := by simpa using h3
        have hB := Lib.hid (show nshB ss t k = false by rw [nshB, h3', Bool.and_false])
        clear h1 h3
        go_enter Try.func23, Try.ntmps23
        go_wp2_with (first | (go_at_call 55; refine hL.mono ?_; rintro e w' ⟨rfl, hw⟩; obtain rfl := hw.symm; clear hL) | (go_at_call 58; refine (sText_any _ wt _).mono ?_; rintro e w' ⟨rfl, hw⟩; subst hw) | (go_at_call 59; refine (sIn_any _ _ _ _).mono ?_; rintro e w' ⟨rfl, hw⟩; subst hw))
        go_ret2
        exact ⟨_, by rw [hB.out]; rfl, by rw [NsOut, hB.out]; rfl, Below.refl _ _⟩
    · have h2' : txtB t = false := by simpa using h2
      have hB := Lib.hid (show nshB ss t k = false by rw [nshB, nsB, h2', Bool.and_false, Bool.false_and])
      clear h1 h2
      go_enter Try.func23, Try.ntmps23
      go_wp2_with (first | (go_at_call 55; refine hL.mono ?_; rintro e w' ⟨rfl, hw⟩; obtain rfl := hw.symm; clear hL) | (go_at_call 58; refine (sText_any _ wt _).mono ?_; rintro e w' ⟨rfl, hw⟩; subst hw))
      go_ret2
      exact ⟨_, by rw [hB.out]; rfl, by rw [NsOut, hB.out]; rfl, Below.refl _ _⟩
  · have h1' : ltB ss = false := by simpa using h1
    have hB := Lib.hid (show nshB ss t k = false by rw [nshB, nsB, h1', Bool.false_and, Bool.false_and])
    rw [h1'] at hL
    clear h1 h1'
    go_enter Try.func23, Try.ntmps23
    go_wp2_with (first | (go_at_call 55; refine hL.mono ?_; rintro e w' ⟨rfl, hw⟩; obtain rfl := hw.symm; clear hL))
    go_ret2
    exact ⟨_, by rw [hB.out]; rfl, by rw [NsOut, hB.out]; rfl, Below.refl _ _⟩
set_option maxHeartbeats 1000000 in
theorem iNearShared_any (A : Option Addr) (n c : Nat) (ss : List ByteArray) (t : ByteArray) (k : Int) (w : World) (h : SlS w w.heap.size A n ss) (hn : n ≤ maxLen) (wt : t.size ≤ maxLen) :
    Calls Try.prog 24 #[.slice A n c, .string t, .int .i64 k] w fun e w' => ∃ v, e = .returned (.tuple #[v, .bool (nshB ss t k)]) ∧ NsOut w' w.heap.size v (nshB ss t k) (nrs ss t) ∧ Below w.heap.size w w' := by
  have hS := iSwapCosts_any A n c ss t w h hn wt
  clear h
  by_cases h3 : inB k 1 8 = true
  · have hB := Lib.hid (show nshB ss t k = nsB ss t by rw [nshB, h3, Bool.and_true])
    go_enter Try.func24, Try.ntmps24
    go_wp2_with (first | (go_at_call 60; refine (iIn_any _ _ _ _).mono ?_; rintro e w' ⟨rfl, hw⟩; subst hw) | (go_at_call 63; refine hS.mono ?_; rintro e w2 ⟨v, rfl, hv, hb2⟩; clear hS))
    go_ret2
    exact ⟨v, by rw [hB.out]; rfl, by rw [hB.out]; exact hv, hb2⟩
  · have h3' : inB k 1 8 = false := by simpa using h3
    have hB := Lib.hid (show nshB ss t k = false by rw [nshB, h3', Bool.and_false])
    clear h3 hS
    go_enter Try.func24, Try.ntmps24
    go_wp2_with (first | (go_at_call 60; refine (iIn_any _ _ _ _).mono ?_; rintro e w' ⟨rfl, hw⟩; subst hw))
    go_ret2
    exact ⟨_, by rw [hB.out]; rfl, by rw [NsOut, hB.out]; rfl, Below.refl _ _⟩
end Go.Proofs.Ytpmklldochpnlaa
