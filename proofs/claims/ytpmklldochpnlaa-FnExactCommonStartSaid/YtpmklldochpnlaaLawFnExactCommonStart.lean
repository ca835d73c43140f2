/- FnExactCommonStart: the walk: the law returns true. -/
import Derived.Test.YtpmklldochpnlaaCsC
namespace Go.Proofs.Ytpmklldochpnlaa.fnExactCommonStart
open Go.RowKit
set_option linter.unusedVariables false
set_option maxHeartbeats 1000000 in
theorem walk (a0 : Option Addr) (n c : Nat) (z0 : List ByteArray) (w : World) (w0 : IsRowS w a0 n c z0) :
    Calls Try.prog 5 #[.slice a0 n c] w fun e w' => e = .returned (.bool true) ∧ Below w.heap.size w w' := by
  have hL := w0.lens
  have hS := w0.sl
  have hnm : n ≤ maxLen := Nat.le_trans hL.1 hL.2.1
  obtain ⟨ss, hss⟩ : ∃ ss, ss = z0.take n := ⟨_, rfl⟩
  rw [← hss] at hS
  clear hss hL w0
  have HS := Lib.hid hS; clear hS
  go_enter Try.func5, Try.ntmps5
  go_wp2_with fail
  refine (szStringS_any a0 n c ss 1048576 w w.heap.size HS.out (by omega) (by omega) hnm).mono ?_
  rintro e w' ⟨z, rfl, hz0, hz1, hzn, hw⟩
  obtain rfl := hw
  by_cases hneg : z < 0
  · clear hzn
    go_wp2_with fail
    go_ret
    exact ⟨rfl, Below.refl _ _⟩
  · have hn : n ≤ 1048576 := hzn (by omega)
    have hz : 0 ≤ z := by omega
    clear hzn hneg
    have hn4 : n ≤ 4294967296 := by omega
    go_wp2_with fail
    refine (toStringS_any a0 n c ss w HS.out hn4).mono ?_
    rintro e w1 ⟨g1, rfl, hg1, hr1, hb1⟩
    have H1 := Lib.hid (RowS.sl hr1 HS.out.len HS.out.2)
    clear hr1
    go_wp2_with fail
    refine (sCommonStart_any _ n n ss w1 H1.out hnm).mono ?_
    rintro e w2 ⟨rfl, hb2⟩
    have h12 := hb1.trans (hb2.mono hb1.size)
    go_wp2_with fail
    refine (toStringS_any a0 n c ss w2 ((HS.out.below h12 (Nat.le_refl _)).more h12.size) hn4).mono ?_
    rintro e w3 ⟨g3, rfl, hg3, hr3, hb3⟩
    have h13 := h12.trans (hb3.mono h12.size)
    have H3 := Lib.hid (RowS.sl hr3 HS.out.len HS.out.2)
    clear hr3
    go_wp2_with fail
    refine (iCommonStart_any _ n n ss w3 H3.out hnm).mono ?_
    rintro e w4 ⟨rfl, hb4⟩
    have h14 := h13.trans (hb4.mono h13.size)
    go_wp2_with fail
    refine (toStringS_any a0 n c ss w4 ((HS.out.below h14 (Nat.le_refl _)).more h14.size) hn4).mono ?_
    rintro e w5 ⟨g5, rfl, hg5, hr5, hb5⟩
    have h15 := h14.trans (hb5.mono h14.size)
    have H5 := Lib.hid (RowS.sl hr5 HS.out.len HS.out.2)
    clear hr5
    have H35 := Lib.hid ((H3.out.below hb4 (Nat.le_refl _)).below hb5 hb4.size)
    go_wp2_with fail
    refine (eqStringS_any _ n n ss _ n n ss w5 _ _ H35.out H5.out hn4 hn4).mono ?_
    rintro e w6 ⟨rfl, hb6⟩
    have h16 := h15.trans (hb6.mono h15.size)
    have hd : decide (ss = ss) = true := decide_eq_true rfl
    go_wp2_with fail
    go_ret
    exact ⟨rfl, h16⟩
end Go.Proofs.Ytpmklldochpnlaa.fnExactCommonStart
