/- FnExactWithFeatures: the walk: the law returns true. -/
import Derived.Test.YtcmnhnapnnpbdaaWf
namespace Go.Proofs.Ytcmnhnapnnpbdaa.fnExactWithFeatures
open Go.RowKit
set_option linter.unusedVariables false
def nout (ok : Bool) (r : List Int) : List Int := if ok then r else []
theorem out_row {w : World} {base : Nat} {v : Value} {ok : Bool} {r : List Int} (h : FOut w base v ok r) : RowI w base 2 v (nout ok r) := by
  cases ok
  · have hv : v = .slice none 0 0 := h
    subst hv; exact RowI.nil _ _ _
  · exact h
theorem out_len {fs : List Int} {need ban : Int} {n : Nat} : (nout (wfB fs need ban) (fx (wfL fs need ban n))).length ≤ n := by
  unfold nout
  split
  · rw [fx_len]; exact wfL_len _ _ _ _
  · simp
set_option maxHeartbeats 2000000 in
theorem walk (a0 : Option Addr) (n c : Nat) (z0 : List Int) (need ban : Int) (w : World) (w0 : IsRow .i64 w a0 n c z0) (w1 : (Lit.int .i64 need).wf = true) (w2 : (Lit.int .i64 ban).wf = true) :
    Calls Try.prog 5 #[.slice a0 n c, .int .i64 need, .int .i64 ban] w fun e w' => e = .returned (.bool true) ∧ Below w.heap.size w w' := by
  have hL := w0.lens
  have hS := w0.sl
  have hnm : n ≤ maxLen := Nat.le_trans hL.1 hL.2.1
  obtain ⟨fs, hfs⟩ : ∃ ss, ss = z0.take n := ⟨_, rfl⟩
  rw [← hfs] at hS
  clear hfs hL w0
  have HS := Lib.hid hS; clear hS
  have hm' := hnm; unfold maxLen at hm'
  by_cases hn : n ≤ 1048576
  · have hn4 : n ≤ 4294967296 := by omega
    have hOL := @out_len fs need ban n
    obtain ⟨ok, hok⟩ : ∃ ok, ok = wfB fs need ban := ⟨_, rfl⟩
    rw [← hok] at hOL
    obtain ⟨r, hr⟩ : ∃ r, r = nout ok (fx (wfL fs need ban n)) := ⟨_, rfl⟩
    rw [← hr] at hOL
    have hOL4 : r.length ≤ 4294967296 := by omega
    have HOK := Lib.hid hok; have HRR := Lib.hid hr
    clear hok hr
    go_enter Try.func5, Try.ntmps5
    go_wp2_with fail
    refine (toInt64S_any a0 n c fs w HS.out hn4).mono ?_
    rintro e w1 ⟨g1, rfl, hg1, hr1, hb1⟩
    have H1 := Lib.hid (show SlI w1 w1.heap.size (some ⟨g1, 0, none⟩) n fs by have := hr1.sl; rw [iv_length, HS.out.len] at this; exact this)
    clear hr1
    go_wp2_with fail
    refine (sWith_any _ n n fs need ban w1 H1.out hn4 (Nat.le_refl _)).mono ?_
    rintro e w2 ⟨v2, rfl, hv2, hb2⟩
    have hR2 := Lib.hid (out_row hv2); clear hv2
    rw [← HOK.out] at hR2 ⊢
    rw [← HRR.out] at hR2
    have h2 := hb1.trans (hb2.mono hb1.size)
    go_wp2_with fail
    refine (toInt64S_any a0 n c fs w2 ((HS.out.below h2 (Nat.le_refl _)).more h2.size) hn4).mono ?_
    rintro e w3 ⟨g3, rfl, hg3, hr3, hb3⟩
    have h3 := h2.trans (hb3.mono h2.size)
    have H3 := Lib.hid (show SlI w3 w3.heap.size (some ⟨g3, 0, none⟩) n fs by have := hr3.sl; rw [iv_length, HS.out.len] at this; exact this)
    have N3 : Hid (RowN w3 g3 2 n) := ⟨iv fs, by rw [iv_length]; exact HS.out.len, hr3⟩
    have g3lt := hr3.lt
    clear hr3
    go_wp2_with fail
    refine (iWith_any _ n n fs need ban w3 H3.out hn4 (Nat.le_refl _)).mono ?_
    rintro e w4 ⟨v4, rfl, hv4, hb4⟩
    have hR4 := Lib.hid (out_row hv4); clear hv4
    rw [← HOK.out] at hR4 ⊢
    rw [← HRR.out] at hR4
    have h4 := h3.trans (hb4.mono h3.size)
    have s24 := hb3.trans (hb4.mono hb3.size)
    go_wp2_with fail
    refine (eqOwn v4 v2 r _ _ w4 hR4.out (hR2.out.keep s24 (Nat.le_refl _)) hOL4).mono ?_
    rintro e w5 ⟨rfl, hb5⟩
    have h5 := h4.trans (hb5.mono h4.size)
    have s25 := s24.trans (hb5.mono s24.size)
    have s35 := hb4.trans (hb5.mono hb4.size)
    go_wp2_with fail
    refine (toInt64S_any a0 n c fs w5 ((HS.out.below h5 (Nat.le_refl _)).more h5.size) hn4).mono ?_
    rintro e w6 ⟨g6, rfl, hg6, hr6, hb6⟩
    have H6 := Lib.hid (show SlI w6 w6.heap.size (some ⟨g6, 0, none⟩) n fs by have := hr6.sl; rw [iv_length, HS.out.len] at this; exact this)
    clear hr6
    have h6 := h5.trans (hb6.mono h5.size)
    have s26 := s25.trans (hb6.mono s25.size)
    have s36 := s35.trans (hb6.mono s35.size)
    go_wp2_with fail
    refine (eqInt64S_any _ n n fs _ n n fs w6 _ _ (H3.out.below s36 (Nat.le_refl _)) H6.out hn4 hn4).mono ?_
    rintro e w7 ⟨rfl, hb7⟩
    have hd : decide (fs = fs) = true := decide_eq_true rfl
    have h7 := h6.trans (hb7.mono h6.size)
    have s27 := s26.trans (hb7.mono s26.size)
    have s37 := s36.trans (hb7.mono s36.size)
    have s47 := (hb5.trans (hb6.mono hb5.size)).trans (hb7.mono (Nat.le_trans hb5.size hb6.size))
    go_wp2_with fail
    refine (markInt64S_any g3 n n n 1 w7 (N3.out.below s37 g3lt) (Nat.le_refl _) hn4 (by omega) (by omega)).mono ?_
    rintro e w8 ⟨rfl, -, hbut⟩
    have g3w7 : g3 < w7.heap.size := Nat.lt_of_lt_of_le g3lt s37.size
    have s28 := s27.trans (hbut.below' hg3 g3w7)
    have h8 := h7.trans (hbut.below' (Nat.le_trans h2.size hg3) g3w7)
    have hR8 := Lib.hid ((hR4.out.keep s47 (Nat.le_refl _)).but hbut g3lt)
    have q1 : (0 : Int) ≤ 1 + (n : Int) := by omega
    go_wp2_with fail
    refine (eqOwn v4 v2 r _ _ w8 hR8.out (hR2.out.keep s28 (Nat.le_refl _)) hOL4).mono ?_
    rintro e w9 ⟨rfl, hb9⟩
    have h9 := h8.trans (hb9.mono h8.size)
    have s29 := s28.trans (hb9.mono s28.size)
    have hR9 := Lib.hid (hR8.out.keep hb9 (Nat.le_refl _))
    have hsz39 : w3.heap.size ≤ w9.heap.size := Nat.le_trans s37.size (Nat.le_trans hbut.2.2.2.1 hb9.size)
    go_wp2_with fail
    refine (markOwn w3.heap.size v4 r 1 w9 hR9.out hsz39 hOL4 (by omega) (by omega)).mono ?_
    rintro e w10 ⟨rfl, hmk, hb10⟩
    have HM := Lib.hid hmk; clear hmk
    have h10 := h9.trans (hb10.mono h3.size)
    have s2a := s29.trans (hb10.mono hb3.size)
    go_wp2_with fail
    refine (heldOwn v4 r.length 1 w10 HM.out hOL4 (by omega) (by omega)).mono ?_
    rintro e w11 ⟨rfl, hw11⟩
    obtain rfl := hw11
    have q2 : (0 : Int) ≤ 1 + (r.length : Int) := by omega
    go_wp2_with fail
    refine (toInt64S_any a0 n c fs w10 ((HS.out.below h10 (Nat.le_refl _)).more h10.size) hn4).mono ?_
    rintro e w12 ⟨g12, rfl, hg12, hr12, hb12⟩
    have H12 := Lib.hid (show SlI w12 w12.heap.size (some ⟨g12, 0, none⟩) n fs by have := hr12.sl; rw [iv_length, HS.out.len] at this; exact this)
    clear hr12
    have h12 := h10.trans (hb12.mono h10.size)
    have s2c := s2a.trans (hb12.mono s2a.size)
    go_wp2_with fail
    refine (iWith_any _ n n fs need ban w12 H12.out hn4 (Nat.le_refl _)).mono ?_
    rintro e w13 ⟨v13, rfl, hv13, hb13⟩
    have hR13 := Lib.hid (out_row hv13); clear hv13
    rw [← HOK.out] at hR13 ⊢
    rw [← HRR.out] at hR13
    have h13 := h12.trans (hb13.mono h12.size)
    have s2d := s2c.trans (hb13.mono s2c.size)
    go_wp2_with fail
    refine (eqOwn v13 v2 r _ _ w13 hR13.out (hR2.out.keep s2d (Nat.le_refl _)) hOL4).mono ?_
    rintro e w14 ⟨rfl, hb14⟩
    have h14 := h13.trans (hb14.mono h13.size)
    have sae := (hb12.trans (hb13.mono hb12.size)).trans (hb14.mono (Nat.le_trans hb12.size hb13.size))
    go_wp2_with fail
    refine (heldOwn v4 r.length 1 w14 (HM.out.below sae (Nat.le_refl _)) hOL4 (by omega) (by omega)).mono ?_
    rintro e w15 ⟨rfl, hw15⟩
    obtain rfl := hw15
    go_wp2_with fail
    go_ret
    exact ⟨rfl, h14⟩
  · have hts' : 1048576 < n := by omega
    clear hn
    go_enter Try.func5, Try.ntmps5
    go_wp2_with fail
    go_ret
    exact ⟨rfl, Below.refl _ _⟩
end Go.Proofs.Ytcmnhnapnnpbdaa.fnExactWithFeatures
