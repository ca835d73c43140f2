/- FnExactLeastFit: the walk: the law returns true. -/
import Derived.Test.YtchacfienafhlaaLfL
import Derived.Test.YtchacfienafhlaaKp
import Derived.Test.YtchacfienafhlaaPlainOw
namespace Go.Proofs.Ytchacfienafhlaa.fnExactLeastFit
open Go.RowKit
set_option linter.unusedVariables false
set_option maxHeartbeats 4000000 in
theorem walk (T : Int) (a1 : Option Addr) (n1 c1 : Nat) (ws : List (List Int)) (a2 : Option Addr) (n2 c2 : Nat) (vs : List (List Int)) (w : World) (wf0 : (Lit.int .i64 T).wf = true) (wf1 : n1 ≤ 9223372036854775807 ∧ SlL w w.heap.size a1 n1 ws) (wf2 : n2 ≤ 9223372036854775807 ∧ SlL w w.heap.size a2 n2 vs) :
    Calls Try.prog 4 #[.int .i64 T, .slice a1 n1 c1, .slice a2 n2 c2] w fun e w' => e = .returned (.bool true) ∧ Below w.heap.size w w' := by
  obtain ⟨hx1, hS1⟩ := wf1
  have HS1 := Lib.hid hS1; clear hS1
  obtain ⟨hx2, hS2⟩ := wf2
  have HS2 := Lib.hid hS2; clear hS2
  go_enter Try.func4, Try.ntmps4
  go_wp2_with fail
  refine (szInt64SS_any a1 n1 c1 ws 1048576 w HS1.out (by omega) (by omega) hx1).mono ?_
  rintro e w1 ⟨y1, rfl, hy0_1, hy1_1, hyn1, hb1⟩
  have s0_1 := hb1
  by_cases hneg : y1 < 0
  · clear hyn1
    go_wp2_with fail
    go_ret
    exact ⟨rfl, s0_1⟩
  have hyq1 : 0 ≤ y1 := by omega
  obtain ⟨hn1, hs1⟩ := hyn1 hyq1
  have hm1 : n1 ≤ 4294967296 := by omega
  have HQ1 : Hid (∀ r ∈ ws, r.length ≤ 4294967296) := fun r hr => by have := sumL_mem hr; omega
  clear hyn1 hneg
  go_wp2_with fail
  refine (szInt64SS_any a2 n2 c2 vs y1 w1 ((HS2.out.below s0_1 (Nat.le_refl _)).more s0_1.size) (by omega) (by omega) hx2).mono ?_
  rintro e w2 ⟨y2, rfl, hy0_2, hy1_2, hyn2, hb2⟩
  have s0_2 := s0_1.trans (hb2.mono s0_1.size)
  by_cases hneg : y2 < 0
  · clear hyn2
    go_wp2_with fail
    go_ret
    exact ⟨rfl, s0_2⟩
  have hyq2 : 0 ≤ y2 := by omega
  obtain ⟨hn2, hs2⟩ := hyn2 hyq2
  have hm2 : n2 ≤ 4294967296 := by omega
  have HQ2 : Hid (∀ r ∈ vs, r.length ≤ 4294967296) := fun r hr => by have := sumL_mem hr; omega
  clear hyn2 hneg
  obtain ⟨rv0_0, hrv0_0⟩ : ∃ x, x = lfS (lfRes T ws vs) := ⟨_, rfl⟩
  obtain ⟨rv0_1, hrv0_1⟩ : ∃ x, x = lfT T (lfRes T ws vs) := ⟨_, rfl⟩
  have hOB0_2 : (lfP T (lfRes T ws vs)).length ≤ 1048576 := lfP_len T ws vs
  obtain ⟨rv0_2, hrv0_2⟩ : ∃ x, x = lfP T (lfRes T ws vs) := ⟨_, rfl⟩
  rw [← hrv0_2] at hOB0_2
  have hOB0_3 : (lfE T ws (lfRes T ws vs)).length ≤ 1048576 := lfE_len T ws vs
  obtain ⟨rv0_3, hrv0_3⟩ : ∃ x, x = lfE T ws (lfRes T ws vs) := ⟨_, rfl⟩
  rw [← hrv0_3] at hOB0_3
  obtain ⟨rv1, hrv1⟩ : ∃ x, x = (lfRes T ws vs).isSome := ⟨_, rfl⟩
  have Hrv0_0 := Lib.hid hrv0_0; clear hrv0_0
  have Hrv0_1 := Lib.hid hrv0_1; clear hrv0_1
  have Hrv0_2 := Lib.hid hrv0_2; clear hrv0_2
  have Hrv0_3 := Lib.hid hrv0_3; clear hrv0_3
  have Hrv1 := Lib.hid hrv1; clear hrv1
  go_wp2_with fail
  refine (toInt64SS_any a1 n1 c1 ws w2 ((HS1.out.below s0_2 (Nat.le_refl _)).more s0_2.size) hm1 HQ1.out).mono ?_
  rintro e w3 ⟨g3, rfl, hg3, hn_, hs_, hb3⟩
  have H3 := Lib.hid hs_
  have N3 := Lib.hid hn_
  clear hn_ hs_
  go_wp2_with fail
  have s0_3 := s0_2.trans (hb3.mono s0_2.size)
  refine (toInt64SS_any a2 n2 c2 vs w3 ((HS2.out.below s0_3 (Nat.le_refl _)).more s0_3.size) hm2 HQ2.out).mono ?_
  rintro e w4 ⟨g4, rfl, hg4, hn_, hs_, hb4⟩
  have H4 := Lib.hid hs_
  have N4 := Lib.hid hn_
  clear hn_ hs_
  go_wp2_with fail
  have s3_4 := hb4
  refine (sLeastL_any T (some ⟨g3, 0, none⟩) n1 n1 ws (some ⟨g4, 0, none⟩) n2 n2 vs w4 ((H3.out.below s3_4 (Nat.le_refl _)).more s3_4.size) H4.out hn1 hn2 hs1 hs2).mono ?_
  rintro e w5 ⟨v_5_0, rfl, hv5_0, hb5⟩
  have hR5_0 := Lib.hid hv5_0; clear hv5_0
  rw [← Hrv0_0.out, ← Hrv0_1.out, ← Hrv0_2.out, ← Hrv0_3.out] at hR5_0
  rw [← Hrv1.out]
  obtain ⟨rA5_2, rC5_2, rA5_3, rC5_3, hu⟩ := hR5_0.out.shape
  subst hu
  go_wp2_with fail
  obtain ⟨w6, hwb⟩ : ∃ x, x = w5.alloc (.cells ([.int .i64 rv0_0, .int .i64 rv0_1, .slice rA5_2 rv0_2.length rC5_2, .slice rA5_3 rv0_3.length rC5_3] : List Value).toArray 30) := ⟨_, rfl⟩
  have bq := Row.new w5 30 [.int .i64 rv0_0, .int .i64 rv0_1, .slice rA5_2 rv0_2.length rC5_2, .slice rA5_3 rv0_3.length rC5_3]
  have hb6 : Below w5.heap.size w5 (w5.alloc (.cells ([.int .i64 rv0_0, .int .i64 rv0_1, .slice rA5_2 rv0_2.length rC5_2, .slice rA5_3 rv0_3.length rC5_3] : List Value).toArray 30)) := (Below.refl _ _).alloc (Nat.le_refl _) _
  rw [← hwb] at bq hb6
  change Calls _ _ _ (w5.alloc (.cells ([.int .i64 rv0_0, .int .i64 rv0_1, .slice rA5_2 rv0_2.length rC5_2, .slice rA5_3 rv0_3.length rC5_3] : List Value).toArray 30)) _
  rw [← hwb]
  clear hwb
  have BXx5 := Lib.hid bq; clear bq
  have s0_4 := s0_3.trans (hb4.mono s0_3.size)
  have s0_5 := s0_4.trans (hb5.mono s0_4.size)
  have s0_6 := s0_5.trans (hb6.mono s0_5.size)
  refine (toInt64SS_any a1 n1 c1 ws w6 ((HS1.out.below s0_6 (Nat.le_refl _)).more s0_6.size) hm1 HQ1.out).mono ?_
  rintro e w7 ⟨g7, rfl, hg7, hn_, hs_, hb7⟩
  have H7 := Lib.hid hs_
  have N7 := Lib.hid hn_
  clear hn_ hs_
  go_wp2_with fail
  have s0_7 := s0_6.trans (hb7.mono s0_6.size)
  refine (toInt64SS_any a2 n2 c2 vs w7 ((HS2.out.below s0_7 (Nat.le_refl _)).more s0_7.size) hm2 HQ2.out).mono ?_
  rintro e w8 ⟨g8, rfl, hg8, hn_, hs_, hb8⟩
  have H8 := Lib.hid hs_
  have N8 := Lib.hid hn_
  clear hn_ hs_
  go_wp2_with fail
  have s7_8 := hb8
  refine (iLeastL_any T (some ⟨g7, 0, none⟩) n1 n1 ws (some ⟨g8, 0, none⟩) n2 n2 vs w8 ((H7.out.below s7_8 (Nat.le_refl _)).more s7_8.size) H8.out hn1 hn2 hs1 hs2).mono ?_
  rintro e w9 ⟨v_9_0, rfl, hv9_0, hb9⟩
  have hR9_0 := Lib.hid hv9_0; clear hv9_0
  rw [← Hrv0_0.out, ← Hrv0_1.out, ← Hrv0_2.out, ← Hrv0_3.out] at hR9_0
  rw [← Hrv1.out]
  obtain ⟨rA9_2, rC9_2, rA9_3, rC9_3, hu⟩ := hR9_0.out.shape
  subst hu
  obtain ⟨w10, hwb⟩ : ∃ x, x = w9.alloc (.cells ([.int .i64 rv0_0, .int .i64 rv0_1, .slice rA9_2 rv0_2.length rC9_2, .slice rA9_3 rv0_3.length rC9_3] : List Value).toArray 30) := ⟨_, rfl⟩
  have bq := Row.new w9 30 [.int .i64 rv0_0, .int .i64 rv0_1, .slice rA9_2 rv0_2.length rC9_2, .slice rA9_3 rv0_3.length rC9_3]
  have hb10 : Below w9.heap.size w9 (w9.alloc (.cells ([.int .i64 rv0_0, .int .i64 rv0_1, .slice rA9_2 rv0_2.length rC9_2, .slice rA9_3 rv0_3.length rC9_3] : List Value).toArray 30)) := (Below.refl _ _).alloc (Nat.le_refl _) _
  rw [← hwb] at bq hb10
  have BXx9 := Lib.hid bq; clear bq
  have s6_7 := hb7
  have s6_8 := s6_7.trans (hb8.mono s6_7.size)
  have s6_9 := s6_8.trans (hb9.mono s6_8.size)
  have s6_10 := s6_9.trans (hb10.mono s6_9.size)
  have kx5_0 := (BXx5.out.below s6_10 BXx5.out.lt).cell 0
  have kx5_1 := (BXx5.out.below s6_10 BXx5.out.lt).cell 1
  have kx5_2 := (BXx5.out.below s6_10 BXx5.out.lt).cell 2
  have kx5_3 := (BXx5.out.below s6_10 BXx5.out.lt).cell 3
  rw [hwb] at kx5_0 kx5_1 kx5_2 kx5_3
  go_wp2_with fail
  clear kx5_0 kx5_1 kx5_2 kx5_3
  change Calls _ _ _ (w9.alloc (.cells ([.int .i64 rv0_0, .int .i64 rv0_1, .slice rA9_2 rv0_2.length rC9_2, .slice rA9_3 rv0_3.length rC9_3] : List Value).toArray 30)) _
  rw [← hwb]
  clear hwb
  have s9_10 := hb10
  have s5_6 := hb6
  have s5_7 := s5_6.trans (hb7.mono s5_6.size)
  have s5_8 := s5_7.trans (hb8.mono s5_7.size)
  have s5_9 := s5_8.trans (hb9.mono s5_8.size)
  have s5_10 := s5_9.trans (hb10.mono s5_9.size)
  have hOB0_24 : rv0_2.length ≤ 4294967296 := by omega
  have hOB0_34 : rv0_3.length ≤ 4294967296 := by omega
  refine (eqOwnPlain (.agg #[.int .i64 rv0_0, .int .i64 rv0_1, .slice rA9_2 rv0_2.length rC9_2, .slice rA9_3 rv0_3.length rC9_3]) (.agg #[.int .i64 rv0_0, .int .i64 rv0_1, .slice rA5_2 rv0_2.length rC5_2, .slice rA5_3 rv0_3.length rC5_3]) rv0_0 rv0_1 rv0_2 rv0_3 _ _ _ _ w10 (hR9_0.out.below s9_10 (Nat.le_refl _)) (hR5_0.out.below s5_10 (Nat.le_refl _)) hOB0_24 hOB0_34).mono ?_
  rintro e w11 ⟨rfl, hb11⟩
  go_wp2_with fail
  have s0_8 := s0_7.trans (hb8.mono s0_7.size)
  have s0_9 := s0_8.trans (hb9.mono s0_8.size)
  have s0_10 := s0_9.trans (hb10.mono s0_9.size)
  have s0_11 := s0_10.trans (hb11.mono s0_10.size)
  refine (toInt64SS_any a1 n1 c1 ws w11 ((HS1.out.below s0_11 (Nat.le_refl _)).more s0_11.size) hm1 HQ1.out).mono ?_
  rintro e w12 ⟨g12, rfl, hg12, hn_, hs_, hb12⟩
  have H12 := Lib.hid hs_
  have N12 := Lib.hid hn_
  clear hn_ hs_
  go_wp2_with fail
  have s7_9 := s7_8.trans (hb9.mono s7_8.size)
  have s7_10 := s7_9.trans (hb10.mono s7_9.size)
  have s7_11 := s7_10.trans (hb11.mono s7_10.size)
  have s7_12 := s7_11.trans (hb12.mono s7_11.size)
  refine (eqInt64SS_any _ n1 n1 ws _ n1 n1 ws w12 ((H7.out.below s7_12 (Nat.le_refl _)).more s7_12.size) H12.out hm1 hm1 HQ1.out HQ1.out).mono ?_
  rintro e w13 ⟨rfl, hb13⟩
  have hd13 : decide (ws = ws) = true := decide_eq_true rfl
  go_wp2_with fail
  have s0_12 := s0_11.trans (hb12.mono s0_11.size)
  have s0_13 := s0_12.trans (hb13.mono s0_12.size)
  refine (toInt64SS_any a2 n2 c2 vs w13 ((HS2.out.below s0_13 (Nat.le_refl _)).more s0_13.size) hm2 HQ2.out).mono ?_
  rintro e w14 ⟨g14, rfl, hg14, hn_, hs_, hb14⟩
  have H14 := Lib.hid hs_
  have N14 := Lib.hid hn_
  clear hn_ hs_
  go_wp2_with fail
  have s8_9 := hb9
  have s8_10 := s8_9.trans (hb10.mono s8_9.size)
  have s8_11 := s8_10.trans (hb11.mono s8_10.size)
  have s8_12 := s8_11.trans (hb12.mono s8_11.size)
  have s8_13 := s8_12.trans (hb13.mono s8_12.size)
  have s8_14 := s8_13.trans (hb14.mono s8_13.size)
  refine (eqInt64SS_any _ n2 n2 vs _ n2 n2 vs w14 ((H8.out.below s8_14 (Nat.le_refl _)).more s8_14.size) H14.out hm2 hm2 HQ2.out HQ2.out).mono ?_
  rintro e w15 ⟨rfl, hb15⟩
  have hd15 : decide (vs = vs) = true := decide_eq_true rfl
  have s7_13 := s7_12.trans (hb13.mono s7_12.size)
  have s7_14 := s7_13.trans (hb14.mono s7_13.size)
  have s7_15 := s7_14.trans (hb15.mono s7_14.size)
  have M7 := Lib.hid (N7.out.below s7_15 (Nat.le_refl _))
  have s8_15 := s8_14.trans (hb15.mono s8_14.size)
  have M8 := Lib.hid (N8.out.below s8_15 (Nat.le_refl _))
  have s9_11 := s9_10.trans (hb11.mono s9_10.size)
  have s9_12 := s9_11.trans (hb12.mono s9_11.size)
  have s9_13 := s9_12.trans (hb13.mono s9_12.size)
  have s9_14 := s9_13.trans (hb14.mono s9_13.size)
  have s9_15 := s9_14.trans (hb15.mono s9_14.size)
  have hRm0 := Lib.hid (hR9_0.out.below s9_15 (Nat.le_refl _))
  go_wp2_with fail
  refine (markInt64SS_any g7 n1 n1 ws (1) w15 w6.heap.size w7.heap.size M7.out (HS1.out.len) hs1 (by omega) (by omega) hm1 hg7).mono ?_
  rintro e w16 ⟨rfl, hk16⟩
  have hkb16 := (hk16.below (Nat.le_trans (Nat.le_trans (Nat.le_trans (Nat.le_trans (Nat.le_trans (Nat.le_trans (Nat.le_trans (Nat.le_trans hb7.size hb8.size) hb9.size) hb10.size) hb11.size) hb12.size) hb13.size) hb14.size) hb15.size)).mono (Nat.le_refl _)
  have M8 := Lib.hid (M8.out.kp hk16 (Nat.le_trans (Nat.le_refl _) hg8))
  have hRm0 := Lib.hid (hRm0.out.kp hk16 (.inl hb8.size))
  have s6_11 := s6_10.trans (hb11.mono s6_10.size)
  have s6_12 := s6_11.trans (hb12.mono s6_11.size)
  have s6_13 := s6_12.trans (hb13.mono s6_12.size)
  have s6_14 := s6_13.trans (hb14.mono s6_13.size)
  have s6_15 := s6_14.trans (hb15.mono s6_14.size)
  have BY5_16 := Lib.hid (Row.kp (BXx5.out.below s6_15 BXx5.out.lt) hk16 (.inl (Nat.lt_of_lt_of_le BXx5.out.lt (Nat.le_refl _))))
  have s10_11 := hb11
  have s10_12 := s10_11.trans (hb12.mono s10_11.size)
  have s10_13 := s10_12.trans (hb13.mono s10_12.size)
  have s10_14 := s10_13.trans (hb14.mono s10_13.size)
  have s10_15 := s10_14.trans (hb15.mono s10_14.size)
  have BY9_16 := Lib.hid (Row.kp (BXx9.out.below s10_15 BXx9.out.lt) hk16 (.inr (Nat.le_trans hb8.size hb9.size)))
  go_wp2_with fail
  refine (markInt64SS_any g8 n2 n2 vs (1 + (sumL ws : Int)) w16 w7.heap.size w8.heap.size M8.out (HS2.out.len) hs2 (by omega) (by omega) hm2 hg8).mono ?_
  rintro e w17 ⟨rfl, hk17⟩
  have hkb17 := (hk17.below (Nat.le_trans (Nat.le_trans (Nat.le_trans (Nat.le_trans (Nat.le_trans (Nat.le_trans (Nat.le_trans (Nat.le_trans hb8.size hb9.size) hb10.size) hb11.size) hb12.size) hb13.size) hb14.size) hb15.size) hk16.2.2.2.1)).mono hb7.size
  have hRm0 := Lib.hid (hRm0.out.kp hk17 (.inl (Nat.le_refl _)))
  have BY5_17 := Lib.hid (Row.kp BY5_16.out hk17 (.inl (Nat.lt_of_lt_of_le BXx5.out.lt hb7.size)))
  have BY9_17 := Lib.hid (Row.kp BY9_16.out hk17 (.inr hb9.size))
  have q1 : (0 : Int) ≤ 1 + (sumL ws : Int) + (sumL vs : Int) := by omega
  have kx9_0 := BY9_17.out.cell 0
  have kx9_1 := BY9_17.out.cell 1
  have kx9_2 := BY9_17.out.cell 2
  have kx9_3 := BY9_17.out.cell 3
  have kx5_0 := BY5_17.out.cell 0
  have kx5_1 := BY5_17.out.cell 1
  have kx5_2 := BY5_17.out.cell 2
  have kx5_3 := BY5_17.out.cell 3
  go_wp2_with fail
  clear kx9_0 kx9_1 kx9_2 kx9_3 kx5_0 kx5_1 kx5_2 kx5_3
  have s5_11 := s5_10.trans (hb11.mono s5_10.size)
  have s5_12 := s5_11.trans (hb12.mono s5_11.size)
  have s5_13 := s5_12.trans (hb13.mono s5_12.size)
  have s5_14 := s5_13.trans (hb14.mono s5_13.size)
  have s5_15 := s5_14.trans (hb15.mono s5_14.size)
  have s5_16 := s5_15.trans (hkb16.mono s5_6.size)
  have s5_17 := s5_16.trans (hkb17.mono s5_6.size)
  refine (eqOwnPlain (.agg #[.int .i64 rv0_0, .int .i64 rv0_1, .slice rA9_2 rv0_2.length rC9_2, .slice rA9_3 rv0_3.length rC9_3]) (.agg #[.int .i64 rv0_0, .int .i64 rv0_1, .slice rA5_2 rv0_2.length rC5_2, .slice rA5_3 rv0_3.length rC5_3]) rv0_0 rv0_1 rv0_2 rv0_3 _ _ _ _ w17 hRm0.out (hR5_0.out.below s5_17 (Nat.le_refl _)) hOB0_24 hOB0_34).mono ?_
  rintro e w18 ⟨rfl, hb18⟩
  have hRm0 := Lib.hid (hRm0.out.below hb18 (Nat.le_trans (Nat.le_trans (Nat.le_trans (Nat.le_trans (Nat.le_trans (Nat.le_trans (Nat.le_trans hb10.size hb11.size) hb12.size) hb13.size) hb14.size) hb15.size) hk16.2.2.2.1) hk17.2.2.2.1))
  have hszq : w8.heap.size ≤ w18.heap.size := (Nat.le_trans (Nat.le_trans (Nat.le_trans (Nat.le_trans (Nat.le_trans (Nat.le_trans (Nat.le_trans (Nat.le_trans (Nat.le_trans hb9.size hb10.size) hb11.size) hb12.size) hb13.size) hb14.size) hb15.size) hk16.2.2.2.1) hk17.2.2.2.1) hb18.size)
  have s17_18 := hb18
  have kx9_0 := (BY9_17.out.below s17_18 BY9_17.out.lt).cell 0
  have kx9_1 := (BY9_17.out.below s17_18 BY9_17.out.lt).cell 1
  have kx9_2 := (BY9_17.out.below s17_18 BY9_17.out.lt).cell 2
  have kx9_3 := (BY9_17.out.below s17_18 BY9_17.out.lt).cell 3
  go_wp2_with fail
  clear kx9_0 kx9_1 kx9_2 kx9_3
  refine (markPlain_any (.agg #[.int .i64 rv0_0, .int .i64 rv0_1, .slice rA9_2 rv0_2.length rC9_2, .slice rA9_3 rv0_3.length rC9_3]) rv0_0 rv0_1 rv0_2 rv0_3 w8.heap.size w9.heap.size 1 w18 hRm0.out hOB0_2 hOB0_3 (by omega) (by omega) (Nat.le_trans (Nat.le_trans (Nat.le_trans (Nat.le_trans (Nat.le_trans (Nat.le_trans (Nat.le_trans (Nat.le_trans hb10.size hb11.size) hb12.size) hb13.size) hb14.size) hb15.size) hk16.2.2.2.1) hk17.2.2.2.1) hb18.size)).mono ?_
  rintro e w19 ⟨rfl, hmk, hk19⟩
  have HM := Lib.hid hmk; clear hmk
  have hkb19 := hk19.below hszq
  have BY5_19 := Lib.hid (Row.kp (BY5_17.out.below s17_18 BY5_17.out.lt) hk19 (.inl (Nat.lt_of_lt_of_le BXx5.out.lt (Nat.le_trans hb7.size hb8.size))))
  have BY9_19 := Lib.hid (Row.kp (BY9_17.out.below s17_18 BY9_17.out.lt) hk19 (.inr (Nat.le_refl _)))
  have hkb19 := hkb19.mono (Nat.le_trans (Nat.le_trans hb6.size hb7.size) hb8.size)
  have kx9_0 := BY9_19.out.cell 0
  have kx9_1 := BY9_19.out.cell 1
  have kx9_2 := BY9_19.out.cell 2
  have kx9_3 := BY9_19.out.cell 3
  go_wp2_with fail
  clear kx9_0 kx9_1 kx9_2 kx9_3
  refine (heldPlain_any (.agg #[.int .i64 rv0_0, .int .i64 rv0_1, .slice rA9_2 rv0_2.length rC9_2, .slice rA9_3 rv0_3.length rC9_3]) rv0_2 rv0_3 1 w19 HM.out hOB0_2 hOB0_3 (by omega) (by omega)).mono ?_
  rintro e w20 ⟨rfl, hb20⟩
  have q2 : (0 : Int) ≤ 1 + (rv0_2.length : Int) + (rv0_3.length : Int) := by omega
  go_wp2_with fail
  have s0_14 := s0_13.trans (hb14.mono s0_13.size)
  have s0_15 := s0_14.trans (hb15.mono s0_14.size)
  have s0_16 := s0_15.trans (hkb16.mono s0_6.size)
  have s0_17 := s0_16.trans (hkb17.mono s0_6.size)
  have s0_18 := s0_17.trans (hb18.mono s0_17.size)
  have s0_19 := s0_18.trans (hkb19.mono s0_5.size)
  have s0_20 := s0_19.trans (hb20.mono s0_19.size)
  refine (toInt64SS_any a1 n1 c1 ws w20 ((HS1.out.below s0_20 (Nat.le_refl _)).more s0_20.size) hm1 HQ1.out).mono ?_
  rintro e w21 ⟨g21, rfl, hg21, hn_, hs_, hb21⟩
  have H21 := Lib.hid hs_
  have N21 := Lib.hid hn_
  clear hn_ hs_
  go_wp2_with fail
  have s0_21 := s0_20.trans (hb21.mono s0_20.size)
  refine (toInt64SS_any a2 n2 c2 vs w21 ((HS2.out.below s0_21 (Nat.le_refl _)).more s0_21.size) hm2 HQ2.out).mono ?_
  rintro e w22 ⟨g22, rfl, hg22, hn_, hs_, hb22⟩
  have H22 := Lib.hid hs_
  have N22 := Lib.hid hn_
  clear hn_ hs_
  go_wp2_with fail
  have s21_22 := hb22
  refine (iLeastL_any T (some ⟨g21, 0, none⟩) n1 n1 ws (some ⟨g22, 0, none⟩) n2 n2 vs w22 ((H21.out.below s21_22 (Nat.le_refl _)).more s21_22.size) H22.out hn1 hn2 hs1 hs2).mono ?_
  rintro e w23 ⟨v_23_0, rfl, hv23_0, hb23⟩
  have hR23_0 := Lib.hid hv23_0; clear hv23_0
  rw [← Hrv0_0.out, ← Hrv0_1.out, ← Hrv0_2.out, ← Hrv0_3.out] at hR23_0
  rw [← Hrv1.out]
  obtain ⟨rA23_2, rC23_2, rA23_3, rC23_3, hu⟩ := hR23_0.out.shape
  subst hu
  obtain ⟨w24, hwb⟩ : ∃ x, x = w23.alloc (.cells ([.int .i64 rv0_0, .int .i64 rv0_1, .slice rA23_2 rv0_2.length rC23_2, .slice rA23_3 rv0_3.length rC23_3] : List Value).toArray 30) := ⟨_, rfl⟩
  have bq := Row.new w23 30 [.int .i64 rv0_0, .int .i64 rv0_1, .slice rA23_2 rv0_2.length rC23_2, .slice rA23_3 rv0_3.length rC23_3]
  have hb24 : Below w23.heap.size w23 (w23.alloc (.cells ([.int .i64 rv0_0, .int .i64 rv0_1, .slice rA23_2 rv0_2.length rC23_2, .slice rA23_3 rv0_3.length rC23_3] : List Value).toArray 30)) := (Below.refl _ _).alloc (Nat.le_refl _) _
  rw [← hwb] at bq hb24
  have BXx23 := Lib.hid bq; clear bq
  have s19_20 := hb20
  have s19_21 := s19_20.trans (hb21.mono s19_20.size)
  have s19_22 := s19_21.trans (hb22.mono s19_21.size)
  have s19_23 := s19_22.trans (hb23.mono s19_22.size)
  have s19_24 := s19_23.trans (hb24.mono s19_23.size)
  have kx5_0 := (BY5_19.out.below s19_24 BY5_19.out.lt).cell 0
  have kx5_1 := (BY5_19.out.below s19_24 BY5_19.out.lt).cell 1
  have kx5_2 := (BY5_19.out.below s19_24 BY5_19.out.lt).cell 2
  have kx5_3 := (BY5_19.out.below s19_24 BY5_19.out.lt).cell 3
  rw [hwb] at kx5_0 kx5_1 kx5_2 kx5_3
  go_wp2_with fail
  clear kx5_0 kx5_1 kx5_2 kx5_3
  change Calls _ _ _ (w23.alloc (.cells ([.int .i64 rv0_0, .int .i64 rv0_1, .slice rA23_2 rv0_2.length rC23_2, .slice rA23_3 rv0_3.length rC23_3] : List Value).toArray 30)) _
  rw [← hwb]
  clear hwb
  have s23_24 := hb24
  have s5_18 := s5_17.trans (hb18.mono s5_17.size)
  have s5_19 := s5_18.trans (hkb19.mono (Nat.le_refl _))
  have s5_20 := s5_19.trans (hb20.mono s5_19.size)
  have s5_21 := s5_20.trans (hb21.mono s5_20.size)
  have s5_22 := s5_21.trans (hb22.mono s5_21.size)
  have s5_23 := s5_22.trans (hb23.mono s5_22.size)
  have s5_24 := s5_23.trans (hb24.mono s5_23.size)
  refine (eqOwnPlain (.agg #[.int .i64 rv0_0, .int .i64 rv0_1, .slice rA23_2 rv0_2.length rC23_2, .slice rA23_3 rv0_3.length rC23_3]) (.agg #[.int .i64 rv0_0, .int .i64 rv0_1, .slice rA5_2 rv0_2.length rC5_2, .slice rA5_3 rv0_3.length rC5_3]) rv0_0 rv0_1 rv0_2 rv0_3 _ _ _ _ w24 (hR23_0.out.below s23_24 (Nat.le_refl _)) (hR5_0.out.below s5_24 (Nat.le_refl _)) hOB0_24 hOB0_34).mono ?_
  rintro e w25 ⟨rfl, hb25⟩
  have s19_25 := s19_24.trans (hb25.mono s19_24.size)
  have kx9_0 := (BY9_19.out.below s19_25 BY9_19.out.lt).cell 0
  have kx9_1 := (BY9_19.out.below s19_25 BY9_19.out.lt).cell 1
  have kx9_2 := (BY9_19.out.below s19_25 BY9_19.out.lt).cell 2
  have kx9_3 := (BY9_19.out.below s19_25 BY9_19.out.lt).cell 3
  go_wp2_with fail
  clear kx9_0 kx9_1 kx9_2 kx9_3
  refine (heldPlain_any (.agg #[.int .i64 rv0_0, .int .i64 rv0_1, .slice rA9_2 rv0_2.length rC9_2, .slice rA9_3 rv0_3.length rC9_3]) rv0_2 rv0_3 1 w25 (HM.out.below s19_25 (Nat.le_refl _)) hOB0_2 hOB0_3 (by omega) (by omega)).mono ?_
  rintro e w26 ⟨rfl, hb26⟩
  go_wp2_with fail
  go_ret
  have s0_22 := s0_21.trans (hb22.mono s0_21.size)
  have s0_23 := s0_22.trans (hb23.mono s0_22.size)
  have s0_24 := s0_23.trans (hb24.mono s0_23.size)
  have s0_25 := s0_24.trans (hb25.mono s0_24.size)
  have s0_26 := s0_25.trans (hb26.mono s0_25.size)
  exact ⟨rfl, s0_26⟩
end Go.Proofs.Ytchacfienafhlaa.fnExactLeastFit
