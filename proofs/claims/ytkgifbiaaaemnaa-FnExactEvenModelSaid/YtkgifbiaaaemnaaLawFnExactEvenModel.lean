/- FnExactEvenModel: the walk: the law returns true. -/
import Derived.Test.YtkgifbiaaaemnaaEv
import Derived.Test.YtkgifbiaaaemnaaKp
import Derived.Test.YtkgifbiaaaemnaaModelOw
namespace Go.Proofs.Ytkgifbiaaaemnaa.fnExactEvenModel
open Go.RowKit
set_option linter.unusedVariables false
set_option maxHeartbeats 4000000 in
theorem walk (S : Int) (T : Int) (w : World) (wf0 : (Lit.int .i64 S).wf = true) (wf1 : (Lit.int .i64 T).wf = true) :
    Calls Try.prog 6 #[.int .i64 S, .int .i64 T] w fun e w' => e = .returned (.bool true) ∧ Below w.heap.size w w' := by
  go_enter Try.func6, Try.ntmps6
  obtain ⟨rv0_0, hrv0_0⟩ : ∃ x, x = ckI (evOk S T) S := ⟨_, rfl⟩
  obtain ⟨rv0_1, hrv0_1⟩ : ∃ x, x = ckI (evOk S T) T := ⟨_, rfl⟩
  have hOB0_2 : (ckL (evOk S T) (evR S.toNat S.toNat)).length ≤ 1048576 := evP_len S T
  obtain ⟨rv0_2, hrv0_2⟩ : ∃ x, x = ckL (evOk S T) (evR S.toNat S.toNat) := ⟨_, rfl⟩
  rw [← hrv0_2] at hOB0_2
  have hOB0_3 : (ckL (evOk S T) (evR (S.toNat * S.toNat) S.toNat)).length ≤ 1048576 := evQ_len S T
  obtain ⟨rv0_3, hrv0_3⟩ : ∃ x, x = ckL (evOk S T) (evR (S.toNat * S.toNat) S.toNat) := ⟨_, rfl⟩
  rw [← hrv0_3] at hOB0_3
  have hOB0_4 : (ckL (evOk S T) (evR (S.toNat * T.toNat) T.toNat)).length ≤ 1048576 := evS_len S T
  obtain ⟨rv0_4, hrv0_4⟩ : ∃ x, x = ckL (evOk S T) (evR (S.toNat * T.toNat) T.toNat) := ⟨_, rfl⟩
  rw [← hrv0_4] at hOB0_4
  obtain ⟨rv1, hrv1⟩ : ∃ x, x = evOk S T := ⟨_, rfl⟩
  have Hrv0_0 := Lib.hid hrv0_0; clear hrv0_0
  have Hrv0_1 := Lib.hid hrv0_1; clear hrv0_1
  have Hrv0_2 := Lib.hid hrv0_2; clear hrv0_2
  have Hrv0_3 := Lib.hid hrv0_3; clear hrv0_3
  have Hrv0_4 := Lib.hid hrv0_4; clear hrv0_4
  have Hrv1 := Lib.hid hrv1; clear hrv1
  go_wp2_with fail
  refine (sEvenL_any S T w).mono ?_
  rintro e w1 ⟨v_1_0, rfl, hv1_0, hb1⟩
  have hR1_0 := Lib.hid hv1_0; clear hv1_0
  rw [← Hrv0_0.out, ← Hrv0_1.out, ← Hrv0_2.out, ← Hrv0_3.out, ← Hrv0_4.out] at hR1_0
  rw [← Hrv1.out]
  obtain ⟨rA1_2, rC1_2, rA1_3, rC1_3, rA1_4, rC1_4, hu⟩ := hR1_0.out.shape
  subst hu
  go_wp2_with fail
  obtain ⟨w2, hwb⟩ : ∃ x, x = w1.alloc (.cells ([.int .i64 rv0_0, .int .i64 rv0_1, .slice rA1_2 rv0_2.length rC1_2, .slice rA1_3 rv0_3.length rC1_3, .slice rA1_4 rv0_4.length rC1_4] : List Value).toArray 27) := ⟨_, rfl⟩
  have bq := Row.new w1 27 [.int .i64 rv0_0, .int .i64 rv0_1, .slice rA1_2 rv0_2.length rC1_2, .slice rA1_3 rv0_3.length rC1_3, .slice rA1_4 rv0_4.length rC1_4]
  have hb2 : Below w1.heap.size w1 (w1.alloc (.cells ([.int .i64 rv0_0, .int .i64 rv0_1, .slice rA1_2 rv0_2.length rC1_2, .slice rA1_3 rv0_3.length rC1_3, .slice rA1_4 rv0_4.length rC1_4] : List Value).toArray 27)) := (Below.refl _ _).alloc (Nat.le_refl _) _
  rw [← hwb] at bq hb2
  change Calls _ _ _ (w1.alloc (.cells ([.int .i64 rv0_0, .int .i64 rv0_1, .slice rA1_2 rv0_2.length rC1_2, .slice rA1_3 rv0_3.length rC1_3, .slice rA1_4 rv0_4.length rC1_4] : List Value).toArray 27)) _
  rw [← hwb]
  clear hwb
  have BXx1 := Lib.hid bq; clear bq
  refine (iEvenL_any S T w2).mono ?_
  rintro e w3 ⟨v_3_0, rfl, hv3_0, hb3⟩
  have hR3_0 := Lib.hid hv3_0; clear hv3_0
  rw [← Hrv0_0.out, ← Hrv0_1.out, ← Hrv0_2.out, ← Hrv0_3.out, ← Hrv0_4.out] at hR3_0
  rw [← Hrv1.out]
  obtain ⟨rA3_2, rC3_2, rA3_3, rC3_3, rA3_4, rC3_4, hu⟩ := hR3_0.out.shape
  subst hu
  obtain ⟨w4, hwb⟩ : ∃ x, x = w3.alloc (.cells ([.int .i64 rv0_0, .int .i64 rv0_1, .slice rA3_2 rv0_2.length rC3_2, .slice rA3_3 rv0_3.length rC3_3, .slice rA3_4 rv0_4.length rC3_4] : List Value).toArray 27) := ⟨_, rfl⟩
  have bq := Row.new w3 27 [.int .i64 rv0_0, .int .i64 rv0_1, .slice rA3_2 rv0_2.length rC3_2, .slice rA3_3 rv0_3.length rC3_3, .slice rA3_4 rv0_4.length rC3_4]
  have hb4 : Below w3.heap.size w3 (w3.alloc (.cells ([.int .i64 rv0_0, .int .i64 rv0_1, .slice rA3_2 rv0_2.length rC3_2, .slice rA3_3 rv0_3.length rC3_3, .slice rA3_4 rv0_4.length rC3_4] : List Value).toArray 27)) := (Below.refl _ _).alloc (Nat.le_refl _) _
  rw [← hwb] at bq hb4
  have BXx3 := Lib.hid bq; clear bq
  have s2_3 := hb3
  have s2_4 := s2_3.trans (hb4.mono s2_3.size)
  have kx1_0 := (BXx1.out.below s2_4 BXx1.out.lt).cell 0
  have kx1_1 := (BXx1.out.below s2_4 BXx1.out.lt).cell 1
  have kx1_2 := (BXx1.out.below s2_4 BXx1.out.lt).cell 2
  have kx1_3 := (BXx1.out.below s2_4 BXx1.out.lt).cell 3
  have kx1_4 := (BXx1.out.below s2_4 BXx1.out.lt).cell 4
  rw [hwb] at kx1_0 kx1_1 kx1_2 kx1_3 kx1_4
  go_wp2_with fail
  clear kx1_0 kx1_1 kx1_2 kx1_3 kx1_4
  change Calls _ _ _ (w3.alloc (.cells ([.int .i64 rv0_0, .int .i64 rv0_1, .slice rA3_2 rv0_2.length rC3_2, .slice rA3_3 rv0_3.length rC3_3, .slice rA3_4 rv0_4.length rC3_4] : List Value).toArray 27)) _
  rw [← hwb]
  clear hwb
  have s3_4 := hb4
  have s1_2 := hb2
  have s1_3 := s1_2.trans (hb3.mono s1_2.size)
  have s1_4 := s1_3.trans (hb4.mono s1_3.size)
  have hOB0_24 : rv0_2.length ≤ 4294967296 := by omega
  have hOB0_34 : rv0_3.length ≤ 4294967296 := by omega
  have hOB0_44 : rv0_4.length ≤ 4294967296 := by omega
  refine (eqOwnModel (.agg #[.int .i64 rv0_0, .int .i64 rv0_1, .slice rA3_2 rv0_2.length rC3_2, .slice rA3_3 rv0_3.length rC3_3, .slice rA3_4 rv0_4.length rC3_4]) (.agg #[.int .i64 rv0_0, .int .i64 rv0_1, .slice rA1_2 rv0_2.length rC1_2, .slice rA1_3 rv0_3.length rC1_3, .slice rA1_4 rv0_4.length rC1_4]) rv0_0 rv0_1 rv0_2 rv0_3 rv0_4 _ _ _ _ w4 (hR3_0.out.below s3_4 (Nat.le_refl _)) (hR1_0.out.below s1_4 (Nat.le_refl _)) hOB0_24 hOB0_34 hOB0_44).mono ?_
  rintro e w5 ⟨rfl, hb5⟩
  have s3_5 := s3_4.trans (hb5.mono s3_4.size)
  have hRm0 := Lib.hid (hR3_0.out.below s3_5 (Nat.le_refl _))
  have q1 : (0 : Int) ≤ 1 := by omega
  have hszq : w2.heap.size ≤ w5.heap.size := (Nat.le_trans (Nat.le_trans hb3.size hb4.size) hb5.size)
  have s4_5 := hb5
  have kx3_0 := (BXx3.out.below s4_5 BXx3.out.lt).cell 0
  have kx3_1 := (BXx3.out.below s4_5 BXx3.out.lt).cell 1
  have kx3_2 := (BXx3.out.below s4_5 BXx3.out.lt).cell 2
  have kx3_3 := (BXx3.out.below s4_5 BXx3.out.lt).cell 3
  have kx3_4 := (BXx3.out.below s4_5 BXx3.out.lt).cell 4
  go_wp2_with fail
  clear kx3_0 kx3_1 kx3_2 kx3_3 kx3_4
  refine (markModel_any (.agg #[.int .i64 rv0_0, .int .i64 rv0_1, .slice rA3_2 rv0_2.length rC3_2, .slice rA3_3 rv0_3.length rC3_3, .slice rA3_4 rv0_4.length rC3_4]) rv0_0 rv0_1 rv0_2 rv0_3 rv0_4 w2.heap.size w3.heap.size 1 w5 hRm0.out hOB0_2 hOB0_3 hOB0_4 (by omega) (by omega) (Nat.le_trans hb4.size hb5.size)).mono ?_
  rintro e w6 ⟨rfl, hmk, hk6⟩
  have HM := Lib.hid hmk; clear hmk
  have hkb6 := hk6.below hszq
  have s2_5 := s2_4.trans (hb5.mono s2_4.size)
  have BY1_6 := Lib.hid (Row.kp (BXx1.out.below s2_5 BXx1.out.lt) hk6 (.inl (Nat.lt_of_lt_of_le BXx1.out.lt (Nat.le_refl _))))
  have BY3_6 := Lib.hid (Row.kp (BXx3.out.below s4_5 BXx3.out.lt) hk6 (.inr (Nat.le_refl _)))
  have hkb6 := hkb6.mono hb2.size
  have kx3_0 := BY3_6.out.cell 0
  have kx3_1 := BY3_6.out.cell 1
  have kx3_2 := BY3_6.out.cell 2
  have kx3_3 := BY3_6.out.cell 3
  have kx3_4 := BY3_6.out.cell 4
  go_wp2_with fail
  clear kx3_0 kx3_1 kx3_2 kx3_3 kx3_4
  refine (heldModel_any (.agg #[.int .i64 rv0_0, .int .i64 rv0_1, .slice rA3_2 rv0_2.length rC3_2, .slice rA3_3 rv0_3.length rC3_3, .slice rA3_4 rv0_4.length rC3_4]) rv0_2 rv0_3 rv0_4 1 w6 HM.out hOB0_2 hOB0_3 hOB0_4 (by omega) (by omega)).mono ?_
  rintro e w7 ⟨rfl, hb7⟩
  have q2 : (0 : Int) ≤ 1 + (rv0_2.length : Int) + (rv0_3.length : Int) + (rv0_4.length : Int) := by omega
  go_wp2_with fail
  refine (iEvenL_any S T w7).mono ?_
  rintro e w8 ⟨v_8_0, rfl, hv8_0, hb8⟩
  have hR8_0 := Lib.hid hv8_0; clear hv8_0
  rw [← Hrv0_0.out, ← Hrv0_1.out, ← Hrv0_2.out, ← Hrv0_3.out, ← Hrv0_4.out] at hR8_0
  rw [← Hrv1.out]
  obtain ⟨rA8_2, rC8_2, rA8_3, rC8_3, rA8_4, rC8_4, hu⟩ := hR8_0.out.shape
  subst hu
  obtain ⟨w9, hwb⟩ : ∃ x, x = w8.alloc (.cells ([.int .i64 rv0_0, .int .i64 rv0_1, .slice rA8_2 rv0_2.length rC8_2, .slice rA8_3 rv0_3.length rC8_3, .slice rA8_4 rv0_4.length rC8_4] : List Value).toArray 27) := ⟨_, rfl⟩
  have bq := Row.new w8 27 [.int .i64 rv0_0, .int .i64 rv0_1, .slice rA8_2 rv0_2.length rC8_2, .slice rA8_3 rv0_3.length rC8_3, .slice rA8_4 rv0_4.length rC8_4]
  have hb9 : Below w8.heap.size w8 (w8.alloc (.cells ([.int .i64 rv0_0, .int .i64 rv0_1, .slice rA8_2 rv0_2.length rC8_2, .slice rA8_3 rv0_3.length rC8_3, .slice rA8_4 rv0_4.length rC8_4] : List Value).toArray 27)) := (Below.refl _ _).alloc (Nat.le_refl _) _
  rw [← hwb] at bq hb9
  have BXx8 := Lib.hid bq; clear bq
  have s6_7 := hb7
  have s6_8 := s6_7.trans (hb8.mono s6_7.size)
  have s6_9 := s6_8.trans (hb9.mono s6_8.size)
  have kx1_0 := (BY1_6.out.below s6_9 BY1_6.out.lt).cell 0
  have kx1_1 := (BY1_6.out.below s6_9 BY1_6.out.lt).cell 1
  have kx1_2 := (BY1_6.out.below s6_9 BY1_6.out.lt).cell 2
  have kx1_3 := (BY1_6.out.below s6_9 BY1_6.out.lt).cell 3
  have kx1_4 := (BY1_6.out.below s6_9 BY1_6.out.lt).cell 4
  rw [hwb] at kx1_0 kx1_1 kx1_2 kx1_3 kx1_4
  go_wp2_with fail
  clear kx1_0 kx1_1 kx1_2 kx1_3 kx1_4
  change Calls _ _ _ (w8.alloc (.cells ([.int .i64 rv0_0, .int .i64 rv0_1, .slice rA8_2 rv0_2.length rC8_2, .slice rA8_3 rv0_3.length rC8_3, .slice rA8_4 rv0_4.length rC8_4] : List Value).toArray 27)) _
  rw [← hwb]
  clear hwb
  have s8_9 := hb9
  have s1_5 := s1_4.trans (hb5.mono s1_4.size)
  have s1_6 := s1_5.trans (hkb6.mono (Nat.le_refl _))
  have s1_7 := s1_6.trans (hb7.mono s1_6.size)
  have s1_8 := s1_7.trans (hb8.mono s1_7.size)
  have s1_9 := s1_8.trans (hb9.mono s1_8.size)
  refine (eqOwnModel (.agg #[.int .i64 rv0_0, .int .i64 rv0_1, .slice rA8_2 rv0_2.length rC8_2, .slice rA8_3 rv0_3.length rC8_3, .slice rA8_4 rv0_4.length rC8_4]) (.agg #[.int .i64 rv0_0, .int .i64 rv0_1, .slice rA1_2 rv0_2.length rC1_2, .slice rA1_3 rv0_3.length rC1_3, .slice rA1_4 rv0_4.length rC1_4]) rv0_0 rv0_1 rv0_2 rv0_3 rv0_4 _ _ _ _ w9 (hR8_0.out.below s8_9 (Nat.le_refl _)) (hR1_0.out.below s1_9 (Nat.le_refl _)) hOB0_24 hOB0_34 hOB0_44).mono ?_
  rintro e w10 ⟨rfl, hb10⟩
  have s6_10 := s6_9.trans (hb10.mono s6_9.size)
  have kx3_0 := (BY3_6.out.below s6_10 BY3_6.out.lt).cell 0
  have kx3_1 := (BY3_6.out.below s6_10 BY3_6.out.lt).cell 1
  have kx3_2 := (BY3_6.out.below s6_10 BY3_6.out.lt).cell 2
  have kx3_3 := (BY3_6.out.below s6_10 BY3_6.out.lt).cell 3
  have kx3_4 := (BY3_6.out.below s6_10 BY3_6.out.lt).cell 4
  go_wp2_with fail
  clear kx3_0 kx3_1 kx3_2 kx3_3 kx3_4
  refine (heldModel_any (.agg #[.int .i64 rv0_0, .int .i64 rv0_1, .slice rA3_2 rv0_2.length rC3_2, .slice rA3_3 rv0_3.length rC3_3, .slice rA3_4 rv0_4.length rC3_4]) rv0_2 rv0_3 rv0_4 1 w10 (HM.out.below s6_10 (Nat.le_refl _)) hOB0_2 hOB0_3 hOB0_4 (by omega) (by omega)).mono ?_
  rintro e w11 ⟨rfl, hb11⟩
  go_wp2_with fail
  go_ret
  have s0_1 := hb1
  have s0_2 := s0_1.trans (hb2.mono s0_1.size)
  have s0_3 := s0_2.trans (hb3.mono s0_2.size)
  have s0_4 := s0_3.trans (hb4.mono s0_3.size)
  have s0_5 := s0_4.trans (hb5.mono s0_4.size)
  have s0_6 := s0_5.trans (hkb6.mono s0_1.size)
  have s0_7 := s0_6.trans (hb7.mono s0_6.size)
  have s0_8 := s0_7.trans (hb8.mono s0_7.size)
  have s0_9 := s0_8.trans (hb9.mono s0_8.size)
  have s0_10 := s0_9.trans (hb10.mono s0_9.size)
  have s0_11 := s0_10.trans (hb11.mono s0_10.size)
  exact ⟨rfl, s0_11⟩
end Go.Proofs.Ytkgifbiaaaemnaa.fnExactEvenModel
