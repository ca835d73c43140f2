/- FnExactStemOf: the walk: the law returns true. -/
import Derived.Test.YtpmklldochpnlaaStC
namespace Go.Proofs.Ytpmklldochpnlaa.fnExactStemOf
open Go.RowKit
set_option linter.unusedVariables false
set_option maxHeartbeats 2000000 in
theorem walk (t : ByteArray) (a1 : Option Addr) (n1 c1 : Nat) (z1 : List ByteArray) (a2 : Option Addr) (n2 c2 : Nat) (z2 : List ByteArray) (least : Int) (w : World) (wt : t.size ≤ maxLen) (w1 : IsRowS w a1 n1 c1 z1) (w2 : IsRowS w a2 n2 c2 z2) (wl : (Lit.int .i64 least).wf = true) :
    Calls Try.prog 6 #[.string t, .slice a1 n1 c1, .slice a2 n2 c2, .int .i64 least] w fun e w' => e = .returned (.bool true) ∧ Below w.heap.size w w' := by
  have hL1 := w1.lens
  have hS1 := w1.sl
  have hL2 := w2.lens
  have hS2 := w2.sl
  have hnm1 : n1 ≤ maxLen := Nat.le_trans hL1.1 hL1.2.1
  have hnm2 : n2 ≤ maxLen := Nat.le_trans hL2.1 hL2.2.1
  obtain ⟨es, hes⟩ : ∃ ss, ss = z1.take n1 := ⟨_, rfl⟩
  obtain ⟨is, his⟩ : ∃ ss, ss = z2.take n2 := ⟨_, rfl⟩
  rw [← hes] at hS1
  rw [← his] at hS2
  clear hes his hL1 hL2 w1 w2
  have HS := Lib.hid hS1; clear hS1
  have IS := Lib.hid hS2; clear hS2
  have wt' := wt; unfold maxLen at wt'
  by_cases hts : t.size ≤ 1048576
  · go_enter Try.func6, Try.ntmps6
    go_wp2_with fail
    refine (szStringS_any a1 n1 c1 es 1048576 w w.heap.size HS.out (by omega) (by omega) hnm1).mono ?_
    rintro e w' ⟨z, rfl, hz0, hz1, hzn, hw⟩
    obtain rfl := hw
    by_cases hneg : z < 0
    · clear hzn
      go_wp2_with fail
      go_ret
      exact ⟨rfl, Below.refl _ _⟩
    · have hn1 : n1 ≤ 1048576 := hzn (by omega)
      have hz : 0 ≤ z := by omega
      clear hzn hneg
      go_wp2_with fail
      refine (szStringS_any a2 n2 c2 is z w w.heap.size IS.out hz (by omega) hnm2).mono ?_
      rintro e w' ⟨y, rfl, hy0, hy1, hyn, hw⟩
      obtain rfl := hw
      by_cases hneg : y < 0
      · clear hyn
        go_wp2_with fail
        go_ret
        exact ⟨rfl, Below.refl _ _⟩
      · have hn2 : n2 ≤ 1048576 := by have := hyn (by omega); omega
        have hy : 0 ≤ y := by omega
        clear hyn hneg
        have h14 : n1 ≤ 4294967296 := by omega
        have h24 : n2 ≤ 4294967296 := by omega
        go_wp2_with fail
        refine (toStringS_any a1 n1 c1 es w HS.out h14).mono ?_
        rintro e w1 ⟨g1, rfl, hg1, hr1, hb1⟩
        have H1 := Lib.hid (RowS.sl hr1 HS.out.len HS.out.2)
        clear hr1
        go_wp2_with fail
        refine (toStringS_any a2 n2 c2 is w1 ((IS.out.below hb1 (Nat.le_refl _)).more hb1.size) h24).mono ?_
        rintro e w2 ⟨g2, rfl, hg2, hr2, hb2⟩
        have H2 := Lib.hid (RowS.sl hr2 IS.out.len IS.out.2)
        have H12 := Lib.hid ((H1.out.below hb2 (Nat.le_refl _)).more hb2.size)
        have h2 := hb1.trans (hb2.mono hb1.size)
        clear hr2
        go_wp2_with fail
        refine (sStemOf_any t _ n1 n1 es _ n2 n2 is least w2 H12.out H2.out hnm1 hnm2 wt).mono ?_
        rintro e w3 ⟨rfl, hb3⟩
        have h3 := h2.trans (hb3.mono h2.size)
        go_wp2_with fail
        refine (toStringS_any a1 n1 c1 es w3 ((HS.out.below h3 (Nat.le_refl _)).more h3.size) h14).mono ?_
        rintro e w4 ⟨g4, rfl, hg4, hr4, hb4⟩
        have h4 := h3.trans (hb4.mono h3.size)
        have H4 := Lib.hid (RowS.sl hr4 HS.out.len HS.out.2)
        clear hr4
        go_wp2_with fail
        refine (toStringS_any a2 n2 c2 is w4 ((IS.out.below h4 (Nat.le_refl _)).more h4.size) h24).mono ?_
        rintro e w5 ⟨g5, rfl, hg5, hr5, hb5⟩
        have h5 := h4.trans (hb5.mono h4.size)
        have H5 := Lib.hid (RowS.sl hr5 IS.out.len IS.out.2)
        have H45 := Lib.hid ((H4.out.below hb5 (Nat.le_refl _)).more hb5.size)
        clear hr5
        go_wp2_with fail
        refine (iStemOf_any t _ n1 n1 es _ n2 n2 is least w5 H45.out H5.out hnm1 hnm2 wt).mono ?_
        rintro e w6 ⟨rfl, hb6⟩
        have h6 := h5.trans (hb6.mono h5.size)
        have s46 := hb5.trans (hb6.mono hb5.size)
        go_wp2_with fail
        refine (toStringS_any a1 n1 c1 es w6 ((HS.out.below h6 (Nat.le_refl _)).more h6.size) h14).mono ?_
        rintro e w7 ⟨g7, rfl, hg7, hr7, hb7⟩
        have h7 := h6.trans (hb7.mono h6.size)
        have s47 := s46.trans (hb7.mono s46.size)
        have H7 := Lib.hid (RowS.sl hr7 HS.out.len HS.out.2)
        clear hr7
        go_wp2_with fail
        refine (eqStringS_any _ n1 n1 es _ n1 n1 es w7 _ _ (H4.out.below s47 (Nat.le_refl _)) H7.out h14 h14).mono ?_
        rintro e w8 ⟨rfl, hb8⟩
        have h8 := h7.trans (hb8.mono h7.size)
        have hd : decide (es = es) = true := decide_eq_true rfl
        have s58 := (hb6.trans (hb7.mono hb6.size)).trans (hb8.mono (Nat.le_trans hb6.size hb7.size))
        go_wp2_with fail
        refine (toStringS_any a2 n2 c2 is w8 ((IS.out.below h8 (Nat.le_refl _)).more h8.size) h24).mono ?_
        rintro e w9 ⟨g9, rfl, hg9, hr9, hb9⟩
        have h9 := h8.trans (hb9.mono h8.size)
        have s59 := s58.trans (hb9.mono s58.size)
        have H9 := Lib.hid (RowS.sl hr9 IS.out.len IS.out.2)
        clear hr9
        go_wp2_with fail
        refine (eqStringS_any _ n2 n2 is _ n2 n2 is w9 _ _ (H5.out.below s59 (Nat.le_refl _)) H9.out h24 h24).mono ?_
        rintro e w10 ⟨rfl, hb10⟩
        have h10 := h9.trans (hb10.mono h9.size)
        have hd2 : decide (is = is) = true := decide_eq_true rfl
        go_wp2_with fail
        go_ret
        exact ⟨rfl, h10⟩
  · have hts' : 1048576 < t.size := by omega
    clear hts
    go_enter Try.func6, Try.ntmps6
    go_wp2_with fail
    go_ret
    exact ⟨rfl, Below.refl _ _⟩
end Go.Proofs.Ytpmklldochpnlaa.fnExactStemOf
