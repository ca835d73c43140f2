/- FnExactShiftFeatures: the walk: the law returns true. -/
import Derived.Test.YtcmnhnapnnpbdaaSf
import Derived.Test.YtcmnhnapnnpbdaaKp
namespace Go.Proofs.Ytcmnhnapnnpbdaa.fnExactShiftFeatures
open Go.RowKit
set_option linter.unusedVariables false
def nout (ok : Bool) (r : List Int) : List Int := if ok then r else []
theorem out_row {w : World} {base : Nat} {v : Value} {ok : Bool} {r : List Int} (h : FOut w base v ok r) : RowI w base 2 v (nout ok r) := by
  cases ok
  · have hv : v = .slice none 0 0 := h
    subst hv; exact RowI.nil _ _ _
  · exact h
theorem out_len {fs ws : List Int} {need set clear : Int} (hlen0 : fs.length ≤ 1048576) (hlen1 : ws.length ≤ 1048576) : (nout (shB fs ws need set clear) (sfL fs ws need set clear)).length ≤ 1048576 := by
  unfold nout
  split
  · rw [sfL, List.length_map]; exact hlen1
  · simp
set_option maxHeartbeats 4000000 in
theorem walk (a0 : Option Addr) (n0 c0 : Nat) (z0 : List Int) (a1 : Option Addr) (n1 c1 : Nat) (z1 : List Int) (need : Int) (set : Int) (clear : Int) (w : World) (wf0 : IsRow .i64 w a0 n0 c0 z0) (wf1 : IsRow .i64 w a1 n1 c1 z1) (wf2 : (Lit.int .i64 need).wf = true) (wf3 : (Lit.int .i64 set).wf = true) (wf4 : (Lit.int .i64 clear).wf = true) :
    Calls Try.prog 6 #[.slice a0 n0 c0, .slice a1 n1 c1, .int .i64 need, .int .i64 set, .int .i64 clear] w fun e w' => e = .returned (.bool true) ∧ Below w.heap.size w w' := by
  have hL0 := wf0.lens
  have hS0 := wf0.sl
  have hx0 : n0 ≤ 9223372036854775807 := by have := Nat.le_trans hL0.1 hL0.2.1; unfold maxLen at this; omega
  obtain ⟨fs, he0⟩ : ∃ ss, ss = z0.take n0 := ⟨_, rfl⟩
  rw [← he0] at hS0
  clear he0 hL0 wf0
  have HS0 := Lib.hid hS0; clear hS0
  have hL1 := wf1.lens
  have hS1 := wf1.sl
  have hx1 : n1 ≤ 9223372036854775807 := by have := Nat.le_trans hL1.1 hL1.2.1; unfold maxLen at this; omega
  obtain ⟨ws, he1⟩ : ∃ ss, ss = z1.take n1 := ⟨_, rfl⟩
  rw [← he1] at hS1
  clear he1 hL1 wf1
  have HS1 := Lib.hid hS1; clear hS1
  by_cases hn0 : n0 ≤ 1048576
  · have hm0 : n0 ≤ 4294967296 := by omega
    by_cases hn1 : n1 ≤ 1048576
    · have hm1 : n1 ≤ 4294967296 := by omega
      go_enter Try.func6, Try.ntmps6
      have hOL := @out_len fs ws need set clear (by rw [HS0.out.len]; exact hn0) (by rw [HS1.out.len]; exact hn1)
      obtain ⟨ok, hok⟩ : ∃ ok, ok = shB fs ws need set clear := ⟨_, rfl⟩
      rw [← hok] at hOL
      obtain ⟨r, hr⟩ : ∃ r, r = nout ok (sfL fs ws need set clear) := ⟨_, rfl⟩
      rw [← hr] at hOL
      have hOL4 : r.length ≤ 4294967296 := by omega
      have HOK := Lib.hid hok; have HRR := Lib.hid hr
      clear hok hr
      go_wp2_with fail
      refine (toInt64S_any a0 n0 c0 fs w HS0.out hm0).mono ?_
      rintro e w1 ⟨g1, rfl, hg1, hr1, hb1⟩
      have H1 := Lib.hid (show SlI w1 w1.heap.size (some ⟨g1, 0, none⟩) n0 fs by have := hr1.sl; rw [iv_length, HS0.out.len] at this; exact this)
      have N1 : Hid (RowN w1 g1 2 n0) := ⟨iv fs, by rw [iv_length]; exact HS0.out.len, hr1⟩
      have gl1 := hr1.lt
      clear hr1
      go_wp2_with fail
      have s0_1 := hb1
      refine (toInt64S_any a1 n1 c1 ws w1 ((HS1.out.below s0_1 (Nat.le_refl _)).more s0_1.size) hm1).mono ?_
      rintro e w2 ⟨g2, rfl, hg2, hr2, hb2⟩
      have H2 := Lib.hid (show SlI w2 w2.heap.size (some ⟨g2, 0, none⟩) n1 ws by have := hr2.sl; rw [iv_length, HS1.out.len] at this; exact this)
      have N2 : Hid (RowN w2 g2 2 n1) := ⟨iv ws, by rw [iv_length]; exact HS1.out.len, hr2⟩
      have gl2 := hr2.lt
      clear hr2
      go_wp2_with fail
      have s1_2 := hb2
      refine (sShift_any g1 0 n0 n0 g2 0 n1 n1 fs ws need set clear w2 ((H1.out.below s1_2 (Nat.le_refl _)).more s1_2.size) H2.out hm0 hm1 (Nat.le_refl _)).mono ?_
      rintro e w3 ⟨v_3, rfl, hv3, hb3⟩
      have hR3 := Lib.hid (out_row hv3); clear hv3
      rw [← HOK.out] at hR3 ⊢
      rw [← HRR.out] at hR3
      go_wp2_with fail
      have s0_2 := s0_1.trans (hb2.mono s0_1.size)
      have s0_3 := s0_2.trans (hb3.mono s0_2.size)
      refine (toInt64S_any a0 n0 c0 fs w3 ((HS0.out.below s0_3 (Nat.le_refl _)).more s0_3.size) hm0).mono ?_
      rintro e w4 ⟨g4, rfl, hg4, hr4, hb4⟩
      have H4 := Lib.hid (show SlI w4 w4.heap.size (some ⟨g4, 0, none⟩) n0 fs by have := hr4.sl; rw [iv_length, HS0.out.len] at this; exact this)
      have N4 : Hid (RowN w4 g4 2 n0) := ⟨iv fs, by rw [iv_length]; exact HS0.out.len, hr4⟩
      have gl4 := hr4.lt
      clear hr4
      go_wp2_with fail
      have s0_4 := s0_3.trans (hb4.mono s0_3.size)
      refine (toInt64S_any a1 n1 c1 ws w4 ((HS1.out.below s0_4 (Nat.le_refl _)).more s0_4.size) hm1).mono ?_
      rintro e w5 ⟨g5, rfl, hg5, hr5, hb5⟩
      have H5 := Lib.hid (show SlI w5 w5.heap.size (some ⟨g5, 0, none⟩) n1 ws by have := hr5.sl; rw [iv_length, HS1.out.len] at this; exact this)
      have N5 : Hid (RowN w5 g5 2 n1) := ⟨iv ws, by rw [iv_length]; exact HS1.out.len, hr5⟩
      have gl5 := hr5.lt
      clear hr5
      go_wp2_with fail
      have s4_5 := hb5
      refine (iShift_any g4 0 n0 n0 g5 0 n1 n1 fs ws need set clear w5 ((H4.out.below s4_5 (Nat.le_refl _)).more s4_5.size) H5.out hm0 hm1 (Nat.le_refl _)).mono ?_
      rintro e w6 ⟨v_6, rfl, hv6, hb6⟩
      have hR6 := Lib.hid (out_row hv6); clear hv6
      rw [← HOK.out] at hR6 ⊢
      rw [← HRR.out] at hR6
      have s3_4 := hb4
      have s3_5 := s3_4.trans (hb5.mono s3_4.size)
      have s3_6 := s3_5.trans (hb6.mono s3_5.size)
      go_wp2_with fail
      refine (eqOwn v_6 v_3 r _ _ w6 hR6.out (hR3.out.keep s3_6 (Nat.le_refl _)) hOL4).mono ?_
      rintro e w7 ⟨rfl, hb7⟩
      go_wp2_with fail
      have s0_5 := s0_4.trans (hb5.mono s0_4.size)
      have s0_6 := s0_5.trans (hb6.mono s0_5.size)
      have s0_7 := s0_6.trans (hb7.mono s0_6.size)
      refine (toInt64S_any a0 n0 c0 fs w7 ((HS0.out.below s0_7 (Nat.le_refl _)).more s0_7.size) hm0).mono ?_
      rintro e w8 ⟨g8, rfl, hg8, hr8, hb8⟩
      have H8 := Lib.hid (show SlI w8 w8.heap.size (some ⟨g8, 0, none⟩) n0 fs by have := hr8.sl; rw [iv_length, HS0.out.len] at this; exact this)
      have N8 : Hid (RowN w8 g8 2 n0) := ⟨iv fs, by rw [iv_length]; exact HS0.out.len, hr8⟩
      have gl8 := hr8.lt
      clear hr8
      go_wp2_with fail
      have s4_6 := s4_5.trans (hb6.mono s4_5.size)
      have s4_7 := s4_6.trans (hb7.mono s4_6.size)
      have s4_8 := s4_7.trans (hb8.mono s4_7.size)
      refine (eqInt64S_any _ n0 n0 fs _ n0 n0 fs w8 _ _ (H4.out.below s4_8 (Nat.le_refl _)) H8.out hm0 hm0).mono ?_
      rintro e w9 ⟨rfl, hb9⟩
      have hd9 : decide (fs = fs) = true := decide_eq_true rfl
      go_wp2_with fail
      have s0_8 := s0_7.trans (hb8.mono s0_7.size)
      have s0_9 := s0_8.trans (hb9.mono s0_8.size)
      refine (toInt64S_any a1 n1 c1 ws w9 ((HS1.out.below s0_9 (Nat.le_refl _)).more s0_9.size) hm1).mono ?_
      rintro e w10 ⟨g10, rfl, hg10, hr10, hb10⟩
      have H10 := Lib.hid (show SlI w10 w10.heap.size (some ⟨g10, 0, none⟩) n1 ws by have := hr10.sl; rw [iv_length, HS1.out.len] at this; exact this)
      have N10 : Hid (RowN w10 g10 2 n1) := ⟨iv ws, by rw [iv_length]; exact HS1.out.len, hr10⟩
      have gl10 := hr10.lt
      clear hr10
      go_wp2_with fail
      have s5_6 := hb6
      have s5_7 := s5_6.trans (hb7.mono s5_6.size)
      have s5_8 := s5_7.trans (hb8.mono s5_7.size)
      have s5_9 := s5_8.trans (hb9.mono s5_8.size)
      have s5_10 := s5_9.trans (hb10.mono s5_9.size)
      refine (eqInt64S_any _ n1 n1 ws _ n1 n1 ws w10 _ _ (H5.out.below s5_10 (Nat.le_refl _)) H10.out hm1 hm1).mono ?_
      rintro e w11 ⟨rfl, hb11⟩
      have hd11 : decide (ws = ws) = true := decide_eq_true rfl
      have s4_9 := s4_8.trans (hb9.mono s4_8.size)
      have s4_10 := s4_9.trans (hb10.mono s4_9.size)
      have s4_11 := s4_10.trans (hb11.mono s4_10.size)
      have M4 := Lib.hid (N4.out.below s4_11 gl4)
      have s5_11 := s5_10.trans (hb11.mono s5_10.size)
      have M5 := Lib.hid (N5.out.below s5_11 gl5)
      have s6_7 := hb7
      have s6_8 := s6_7.trans (hb8.mono s6_7.size)
      have s6_9 := s6_8.trans (hb9.mono s6_8.size)
      have s6_10 := s6_9.trans (hb10.mono s6_9.size)
      have s6_11 := s6_10.trans (hb11.mono s6_10.size)
      have hRm := Lib.hid (hR6.out.keep s6_11 (Nat.le_refl _))
      go_wp2_with fail
      refine (markInt64S_any g4 n0 n0 n0 (1) w11 M4.out (Nat.le_refl _) hm0 (by omega) (by omega)).mono ?_
      rintro e w12 ⟨rfl, -, hbut12⟩
      have hk12 : Kp w3.heap.size w4.heap.size w11 w12 := hbut12.kp hg4 gl4
      have hkb12 := (hk12.below (Nat.le_trans (Nat.le_trans (Nat.le_trans (Nat.le_trans (Nat.le_trans (Nat.le_trans (Nat.le_trans hb4.size hb5.size) hb6.size) hb7.size) hb8.size) hb9.size) hb10.size) hb11.size)).mono (Nat.le_refl _)
      have M5 := Lib.hid (M5.out.kp hk12 (.inr (Nat.le_trans (Nat.le_refl _) hg5)))
      have hRm := Lib.hid (hRm.out.kp hk12 hb5.size)
      go_wp2_with fail
      refine (markInt64S_any g5 n1 n1 n1 (1 + (n0 : Int)) w12 M5.out (Nat.le_refl _) hm1 (by omega) (by omega)).mono ?_
      rintro e w13 ⟨rfl, -, hbut13⟩
      have hk13 : Kp w4.heap.size w5.heap.size w12 w13 := hbut13.kp hg5 gl5
      have hkb13 := (hk13.below (Nat.le_trans (Nat.le_trans (Nat.le_trans (Nat.le_trans (Nat.le_trans (Nat.le_trans (Nat.le_trans hb5.size hb6.size) hb7.size) hb8.size) hb9.size) hb10.size) hb11.size) hk12.2.2.2.1)).mono hb4.size
      have hRm := Lib.hid (hRm.out.kp hk13 (Nat.le_refl _))
      have q1 : (0 : Int) ≤ 1 + (n0 : Int) + (n1 : Int) := by omega
      have s3_7 := s3_6.trans (hb7.mono s3_6.size)
      have s3_8 := s3_7.trans (hb8.mono s3_7.size)
      have s3_9 := s3_8.trans (hb9.mono s3_8.size)
      have s3_10 := s3_9.trans (hb10.mono s3_9.size)
      have s3_11 := s3_10.trans (hb11.mono s3_10.size)
      have s3_12 := s3_11.trans (hkb12.mono (Nat.le_refl _))
      have s3_13 := s3_12.trans (hkb13.mono (Nat.le_refl _))
      go_wp2_with fail
      refine (eqOwn v_6 v_3 r _ _ w13 hRm.out (hR3.out.keep s3_13 (Nat.le_refl _)) hOL4).mono ?_
      rintro e w14 ⟨rfl, hb14⟩
      have hRm := Lib.hid (hRm.out.keep hb14 (Nat.le_refl _))
      have hszq : w5.heap.size ≤ w14.heap.size := (Nat.le_trans (Nat.le_trans (Nat.le_trans (Nat.le_trans (Nat.le_trans (Nat.le_trans (Nat.le_trans (Nat.le_trans hb6.size hb7.size) hb8.size) hb9.size) hb10.size) hb11.size) hk12.2.2.2.1) hk13.2.2.2.1) hb14.size)
      go_wp2_with fail
      refine (markOwn w5.heap.size v_6 r 1 w14 hRm.out hszq hOL4 (by omega) (by omega)).mono ?_
      rintro e w15 ⟨rfl, hmk, hkb15⟩
      have HM := Lib.hid hmk; clear hmk
      have hkb15 := hkb15.mono (Nat.le_trans hb4.size hb5.size)
      go_wp2_with fail
      refine (heldOwn v_6 r.length 1 w15 HM.out hOL4 (by omega) (by omega)).mono ?_
      rintro e wq ⟨rfl, hwq⟩
      obtain rfl := hwq
      have q2 : (0 : Int) ≤ 1 + (r.length : Int) := by omega
      go_wp2_with fail
      have s0_10 := s0_9.trans (hb10.mono s0_9.size)
      have s0_11 := s0_10.trans (hb11.mono s0_10.size)
      have s0_12 := s0_11.trans (hkb12.mono s0_3.size)
      have s0_13 := s0_12.trans (hkb13.mono s0_3.size)
      have s0_14 := s0_13.trans (hb14.mono s0_13.size)
      have s0_15 := s0_14.trans (hkb15.mono s0_3.size)
      refine (toInt64S_any a0 n0 c0 fs w15 ((HS0.out.below s0_15 (Nat.le_refl _)).more s0_15.size) hm0).mono ?_
      rintro e w16 ⟨g16, rfl, hg16, hr16, hb16⟩
      have H16 := Lib.hid (show SlI w16 w16.heap.size (some ⟨g16, 0, none⟩) n0 fs by have := hr16.sl; rw [iv_length, HS0.out.len] at this; exact this)
      have N16 : Hid (RowN w16 g16 2 n0) := ⟨iv fs, by rw [iv_length]; exact HS0.out.len, hr16⟩
      have gl16 := hr16.lt
      clear hr16
      go_wp2_with fail
      have s0_16 := s0_15.trans (hb16.mono s0_15.size)
      refine (toInt64S_any a1 n1 c1 ws w16 ((HS1.out.below s0_16 (Nat.le_refl _)).more s0_16.size) hm1).mono ?_
      rintro e w17 ⟨g17, rfl, hg17, hr17, hb17⟩
      have H17 := Lib.hid (show SlI w17 w17.heap.size (some ⟨g17, 0, none⟩) n1 ws by have := hr17.sl; rw [iv_length, HS1.out.len] at this; exact this)
      have N17 : Hid (RowN w17 g17 2 n1) := ⟨iv ws, by rw [iv_length]; exact HS1.out.len, hr17⟩
      have gl17 := hr17.lt
      clear hr17
      go_wp2_with fail
      have s16_17 := hb17
      refine (iShift_any g16 0 n0 n0 g17 0 n1 n1 fs ws need set clear w17 ((H16.out.below s16_17 (Nat.le_refl _)).more s16_17.size) H17.out hm0 hm1 (Nat.le_refl _)).mono ?_
      rintro e w18 ⟨v_18, rfl, hv18, hb18⟩
      have hR18 := Lib.hid (out_row hv18); clear hv18
      rw [← HOK.out] at hR18 ⊢
      rw [← HRR.out] at hR18
      have s3_14 := s3_13.trans (hb14.mono s3_13.size)
      have s3_15 := s3_14.trans (hkb15.mono (Nat.le_refl _))
      have s3_16 := s3_15.trans (hb16.mono s3_15.size)
      have s3_17 := s3_16.trans (hb17.mono s3_16.size)
      have s3_18 := s3_17.trans (hb18.mono s3_17.size)
      go_wp2_with fail
      refine (eqOwn v_18 v_3 r _ _ w18 hR18.out (hR3.out.keep s3_18 (Nat.le_refl _)) hOL4).mono ?_
      rintro e w19 ⟨rfl, hb19⟩
      go_wp2_with fail
      have s15_16 := hb16
      have s15_17 := s15_16.trans (hb17.mono s15_16.size)
      have s15_18 := s15_17.trans (hb18.mono s15_17.size)
      have s15_19 := s15_18.trans (hb19.mono s15_18.size)
      refine (heldOwn v_6 r.length 1 w19 (HM.out.below s15_19 (Nat.le_refl _)) hOL4 (by omega) (by omega)).mono ?_
      rintro e wq ⟨rfl, hwq⟩
      obtain rfl := hwq
      go_wp2_with fail
      go_ret
      have s0_17 := s0_16.trans (hb17.mono s0_16.size)
      have s0_18 := s0_17.trans (hb18.mono s0_17.size)
      have s0_19 := s0_18.trans (hb19.mono s0_18.size)
      exact ⟨rfl, s0_19⟩
    · have ht1 : 1048576 < n1 := by omega
      clear hn1
      go_enter Try.func6, Try.ntmps6
      go_wp2_with fail
      go_ret
      exact ⟨rfl, Below.refl _ _⟩
  · have ht0 : 1048576 < n0 := by omega
    clear hn0
    go_enter Try.func6, Try.ntmps6
    go_wp2_with fail
    go_ret
    exact ⟨rfl, Below.refl _ _⟩
end Go.Proofs.Ytcmnhnapnnpbdaa.fnExactShiftFeatures
