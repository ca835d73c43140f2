/- FnExactJoinStates: the walk: the law returns true. -/
import Derived.Test.YtomofghiafcefaaJsL
import Derived.Test.YtomofghiafcefaaModelSt
import Derived.Test.YtomofghiafcefaaMgb
import Derived.Test.YtomofghiafcefaaModelOw
import Derived.Deep.RegionHeld3
import Derived.Deep.RegionWith

namespace Go.Proofs.Ytomofghiafcefaa.fnExactJoinStates
open Go.RowKit
set_option linter.unusedVariables false
set_option maxHeartbeats 4000000 in
theorem walk (cS : Int) (cT : Int) (a0_2 : Option Addr) (n0_2 c0_2 : Nat) (cP : List F32) (a0_3 : Option Addr) (n0_3 c0_3 : Nat) (cQ : List F32) (a0_4 : Option Addr) (n0_4 c0_4 : Nat) (cR : List F32) (i : Int) (k : Int) (w : World) (wf0_0 : (Lit.int .i64 cS).wf = true) (wf0_1 : (Lit.int .i64 cT).wf = true) (wf0_2 : n0_2 ≤ 9223372036854775807 ∧ SlF w w.heap.size a0_2 n0_2 cP) (wf0_3 : n0_3 ≤ 9223372036854775807 ∧ SlF w w.heap.size a0_3 n0_3 cQ) (wf0_4 : n0_4 ≤ 9223372036854775807 ∧ SlF w w.heap.size a0_4 n0_4 cR) (wf1 : (Lit.int .i64 i).wf = true) (wf2 : (Lit.int .i64 k).wf = true) :
    Calls Try.prog 4 #[.agg #[.int .i64 cS, .int .i64 cT, .slice a0_2 n0_2 c0_2, .slice a0_3 n0_3 c0_3, .slice a0_4 n0_4 c0_4], .int .i64 i, .int .i64 k] w fun e w' => e = .returned (.bool true) ∧ Below w.heap.size w w' := by
  obtain ⟨hx0_2, hS0_2⟩ := wf0_2
  have hy0_2 := hS0_2.len
  obtain ⟨hx0_3, hS0_3⟩ := wf0_3
  have hy0_3 := hS0_3.len
  obtain ⟨hx0_4, hS0_4⟩ := wf0_4
  have hy0_4 := hS0_4.len
  have hC0 : Md w w.heap.size (.agg #[.int .i64 cS, .int .i64 cT, .slice a0_2 n0_2 c0_2, .slice a0_3 n0_3 c0_3, .slice a0_4 n0_4 c0_4]) cS cT cP cQ cR := ⟨_, _, _, _, _, _, _, _, _, rfl, hS0_2, hS0_3, hS0_4⟩
  rw [← hy0_2] at hx0_2
  rw [← hy0_3] at hx0_3
  rw [← hy0_4] at hx0_4
  clear hS0_2 hy0_2 hS0_3 hy0_3 hS0_4 hy0_4
  have HS0 := Lib.hid hC0; clear hC0
  have bx0 := Row.new (w) 24 [.int .i64 cS, .int .i64 cT, .slice a0_2 n0_2 c0_2, .slice a0_3 n0_3 c0_3, .slice a0_4 n0_4 c0_4]
  have bxb : Below w.heap.size w ((w).alloc (.cells ([.int .i64 cS, .int .i64 cT, .slice a0_2 n0_2 c0_2, .slice a0_3 n0_3 c0_3, .slice a0_4 n0_4 c0_4] : List Value).toArray 24)) := (Below.refl _ _).alloc (Nat.le_refl _) _
  have BX0 := Lib.hid bx0; clear bx0
  have BXB := Lib.hid bxb; clear bxb
  go_enter Try.func4, Try.ntmps4
  go_wp2_with fail
  obtain ⟨wb, hwb⟩ : ∃ x, x = (w).alloc (.cells ([.int .i64 cS, .int .i64 cT, .slice a0_2 n0_2 c0_2, .slice a0_3 n0_3 c0_3, .slice a0_4 n0_4 c0_4] : List Value).toArray 24) := ⟨_, rfl⟩
  rw [← hwb] at BX0
  rw [← hwb] at BXB
  change Calls _ _ _ ((w).alloc (.cells ([.int .i64 cS, .int .i64 cT, .slice a0_2 n0_2 c0_2, .slice a0_3 n0_3 c0_3, .slice a0_4 n0_4 c0_4] : List Value).toArray 24)) _
  rw [← hwb]
  clear hwb
  have HS0' := Lib.hid ((HS0.out.below BXB.out (Nat.le_refl _)).more BXB.out.size)
  refine (szModel_any (.agg #[.int .i64 cS, .int .i64 cT, .slice a0_2 n0_2 c0_2, .slice a0_3 n0_3 c0_3, .slice a0_4 n0_4 c0_4]) cS cT cP cQ cR 1048576 wb HS0'.out (by omega) (by omega) hx0_2 hx0_3 hx0_4).mono ?_
  rintro e w1 ⟨y0, rfl, hy0_0, hy1_0, hyn0, hb1⟩
  have s0_1 := hb1
  by_cases hneg : y0 < 0
  · clear hyn0
    go_wp2_with fail
    go_ret
    exact ⟨rfl, BXB.out.trans (s0_1.mono BXB.out.size)⟩
  have hyq0 : 0 ≤ y0 := by omega
  obtain ⟨hs0_2, hs0_3, hs0_4⟩ := hyn0 hyq0
  have hm0_2 : cP.length ≤ 4294967296 := by omega
  have hm0_3 : cQ.length ≤ 4294967296 := by omega
  have hm0_4 : cR.length ≤ 4294967296 := by omega
  clear hyn0 hneg
  obtain ⟨rv0_0, hrv0_0⟩ : ∃ x, x = ckI (jsOk cS cT cP cQ cR i k) (cS - 1) := ⟨_, rfl⟩
  obtain ⟨rv0_1, hrv0_1⟩ : ∃ x, x = ckI (jsOk cS cT cP cQ cR i k) cT := ⟨_, rfl⟩
  have hOB0_2 : (ckL (jsOk cS cT cP cQ cR i k) (jsP cS cP i k)).length ≤ 1048576 := jsP_len cS cT cP cQ cR i k
  obtain ⟨rv0_2, hrv0_2⟩ : ∃ x, x = ckL (jsOk cS cT cP cQ cR i k) (jsP cS cP i k) := ⟨_, rfl⟩
  rw [← hrv0_2] at hOB0_2
  have hOB0_3 : (ckL (jsOk cS cT cP cQ cR i k) (jsQ cS cT cP cQ cR i k)).length ≤ 1048576 := jsQ_len cS cT cP cQ cR i k
  obtain ⟨rv0_3, hrv0_3⟩ : ∃ x, x = ckL (jsOk cS cT cP cQ cR i k) (jsQ cS cT cP cQ cR i k) := ⟨_, rfl⟩
  rw [← hrv0_3] at hOB0_3
  have hOB0_4 : (ckL (jsOk cS cT cP cQ cR i k) (jsR cS cT cP cQ cR i k)).length ≤ 1048576 := jsR_len cS cT cP cQ cR i k
  obtain ⟨rv0_4, hrv0_4⟩ : ∃ x, x = ckL (jsOk cS cT cP cQ cR i k) (jsR cS cT cP cQ cR i k) := ⟨_, rfl⟩
  rw [← hrv0_4] at hOB0_4
  obtain ⟨rv1, hrv1⟩ : ∃ x, x = jsOk cS cT cP cQ cR i k := ⟨_, rfl⟩
  have Hrv0_0 := Lib.hid hrv0_0; clear hrv0_0
  have Hrv0_1 := Lib.hid hrv0_1; clear hrv0_1
  have Hrv0_2 := Lib.hid hrv0_2; clear hrv0_2
  have Hrv0_3 := Lib.hid hrv0_3; clear hrv0_3
  have Hrv0_4 := Lib.hid hrv0_4; clear hrv0_4
  have Hrv1 := Lib.hid hrv1; clear hrv1
  have kc0_0 := (BX0.out.below s0_1 BX0.out.lt).cell 0
  have kc0_1 := (BX0.out.below s0_1 BX0.out.lt).cell 1
  have kc0_2 := (BX0.out.below s0_1 BX0.out.lt).cell 2
  have kc0_3 := (BX0.out.below s0_1 BX0.out.lt).cell 3
  have kc0_4 := (BX0.out.below s0_1 BX0.out.lt).cell 4
  go_wp2_with fail
  clear kc0_0 kc0_1 kc0_2 kc0_3 kc0_4
  refine (toModel_any (.agg #[.int .i64 cS, .int .i64 cT, .slice a0_2 n0_2 c0_2, .slice a0_3 n0_3 c0_3, .slice a0_4 n0_4 c0_4]) cS cT cP cQ cR w1 ((HS0'.out.below s0_1 (Nat.le_refl _)).more s0_1.size) hm0_2 hm0_3 hm0_4).mono ?_
  rintro e w2 ⟨u2, rfl, hr2, hb2⟩
  obtain ⟨ga2_2, ga2_3, ga2_4, hu⟩ := hr2.shape
  subst hu
  have H2 := Lib.hid hr2.cg
  have N2 := Lib.hid (hr2.cgm hm0_2 hm0_3 hm0_4); clear hr2
  go_wp2_with fail
  refine (sJoinL_any _ cS cT cP cQ cR i k w2 H2.out ⟨_, _, _, _, _, _, _, _, _, _, _, rfl, Nat.le_refl _, Nat.le_trans hm0_2 (by decide), Nat.le_refl _, Nat.le_trans hm0_3 (by decide), Nat.le_refl _, Nat.le_trans hm0_4 (by decide)⟩).mono ?_
  rintro e w3 ⟨v_3_0, rfl, hv3_0, hb3⟩
  have hR3_0 := Lib.hid hv3_0; clear hv3_0
  rw [← Hrv0_0.out, ← Hrv0_1.out, ← Hrv0_2.out, ← Hrv0_3.out, ← Hrv0_4.out] at hR3_0
  rw [← Hrv1.out]
  obtain ⟨rA3_2, rC3_2, rA3_3, rC3_3, rA3_4, rC3_4, hu⟩ := hR3_0.out.shape
  subst hu
  obtain ⟨w4, hwb⟩ : ∃ x, x = w3.alloc (.cells ([.int .i64 rv0_0, .int .i64 rv0_1, .slice rA3_2 rv0_2.length rC3_2, .slice rA3_3 rv0_3.length rC3_3, .slice rA3_4 rv0_4.length rC3_4] : List Value).toArray 29) := ⟨_, rfl⟩
  have bq := Row.new w3 29 [.int .i64 rv0_0, .int .i64 rv0_1, .slice rA3_2 rv0_2.length rC3_2, .slice rA3_3 rv0_3.length rC3_3, .slice rA3_4 rv0_4.length rC3_4]
  have hb4 : Below w3.heap.size w3 (w3.alloc (.cells ([.int .i64 rv0_0, .int .i64 rv0_1, .slice rA3_2 rv0_2.length rC3_2, .slice rA3_3 rv0_3.length rC3_3, .slice rA3_4 rv0_4.length rC3_4] : List Value).toArray 29)) := (Below.refl _ _).alloc (Nat.le_refl _) _
  rw [← hwb] at bq hb4
  have BXx3 := Lib.hid bq; clear bq
  have s0_2 := s0_1.trans (hb2.mono s0_1.size)
  have s0_3 := s0_2.trans (hb3.mono s0_2.size)
  have s0_4 := s0_3.trans (hb4.mono s0_3.size)
  have kc0_0 := (BX0.out.below s0_4 BX0.out.lt).cell 0
  have kc0_1 := (BX0.out.below s0_4 BX0.out.lt).cell 1
  have kc0_2 := (BX0.out.below s0_4 BX0.out.lt).cell 2
  have kc0_3 := (BX0.out.below s0_4 BX0.out.lt).cell 3
  have kc0_4 := (BX0.out.below s0_4 BX0.out.lt).cell 4
  rw [hwb] at kc0_0 kc0_1 kc0_2 kc0_3 kc0_4
  go_wp2_with fail
  clear kc0_0 kc0_1 kc0_2 kc0_3 kc0_4
  change Calls _ _ _ (w3.alloc (.cells ([.int .i64 rv0_0, .int .i64 rv0_1, .slice rA3_2 rv0_2.length rC3_2, .slice rA3_3 rv0_3.length rC3_3, .slice rA3_4 rv0_4.length rC3_4] : List Value).toArray 29)) _
  rw [← hwb]
  clear hwb
  refine (toModel_any (.agg #[.int .i64 cS, .int .i64 cT, .slice a0_2 n0_2 c0_2, .slice a0_3 n0_3 c0_3, .slice a0_4 n0_4 c0_4]) cS cT cP cQ cR w4 ((HS0'.out.below s0_4 (Nat.le_refl _)).more s0_4.size) hm0_2 hm0_3 hm0_4).mono ?_
  rintro e w5 ⟨u5, rfl, hr5, hb5⟩
  obtain ⟨ga5_2, ga5_3, ga5_4, hu⟩ := hr5.shape
  subst hu
  have H5 := Lib.hid hr5.cg
  have N5 := Lib.hid (hr5.cgm hm0_2 hm0_3 hm0_4); clear hr5
  go_wp2_with fail
  obtain ⟨w6, hwb⟩ : ∃ x, x = w5.alloc (.cells ([.int .i64 cS, .int .i64 cT, .slice (some ⟨ga5_2, 0, none⟩) cP.length cP.length, .slice (some ⟨ga5_3, 0, none⟩) cQ.length cQ.length, .slice (some ⟨ga5_4, 0, none⟩) cR.length cR.length] : List Value).toArray 29) := ⟨_, rfl⟩
  have bq := Row.new w5 29 [.int .i64 cS, .int .i64 cT, .slice (some ⟨ga5_2, 0, none⟩) cP.length cP.length, .slice (some ⟨ga5_3, 0, none⟩) cQ.length cQ.length, .slice (some ⟨ga5_4, 0, none⟩) cR.length cR.length]
  have hb6 : Below w5.heap.size w5 (w5.alloc (.cells ([.int .i64 cS, .int .i64 cT, .slice (some ⟨ga5_2, 0, none⟩) cP.length cP.length, .slice (some ⟨ga5_3, 0, none⟩) cQ.length cQ.length, .slice (some ⟨ga5_4, 0, none⟩) cR.length cR.length] : List Value).toArray 29)) := (Below.refl _ _).alloc (Nat.le_refl _) _
  rw [← hwb] at bq hb6
  change Calls _ _ _ (w5.alloc (.cells ([.int .i64 cS, .int .i64 cT, .slice (some ⟨ga5_2, 0, none⟩) cP.length cP.length, .slice (some ⟨ga5_3, 0, none⟩) cQ.length cQ.length, .slice (some ⟨ga5_4, 0, none⟩) cR.length cR.length] : List Value).toArray 29)) _
  rw [← hwb]
  clear hwb
  have BXx5 := Lib.hid bq; clear bq
  have s5_6 := hb6
  refine (iJoinL_any _ cS cT cP cQ cR i k w6 ((H5.out.below s5_6 (Nat.le_refl _)).more s5_6.size) ⟨_, _, _, _, _, _, _, _, _, _, _, rfl, Nat.le_refl _, Nat.le_trans hm0_2 (by decide), Nat.le_refl _, Nat.le_trans hm0_3 (by decide), Nat.le_refl _, Nat.le_trans hm0_4 (by decide)⟩).mono ?_
  rintro e w7 ⟨v_7_0, rfl, hv7_0, hb7⟩
  have hR7_0 := Lib.hid hv7_0; clear hv7_0
  rw [← Hrv0_0.out, ← Hrv0_1.out, ← Hrv0_2.out, ← Hrv0_3.out, ← Hrv0_4.out] at hR7_0
  rw [← Hrv1.out]
  obtain ⟨rA7_2, rC7_2, rA7_3, rC7_3, rA7_4, rC7_4, hu⟩ := hR7_0.out.shape
  subst hu
  obtain ⟨w8, hwb⟩ : ∃ x, x = w7.alloc (.cells ([.int .i64 rv0_0, .int .i64 rv0_1, .slice rA7_2 rv0_2.length rC7_2, .slice rA7_3 rv0_3.length rC7_3, .slice rA7_4 rv0_4.length rC7_4] : List Value).toArray 29) := ⟨_, rfl⟩
  have bq := Row.new w7 29 [.int .i64 rv0_0, .int .i64 rv0_1, .slice rA7_2 rv0_2.length rC7_2, .slice rA7_3 rv0_3.length rC7_3, .slice rA7_4 rv0_4.length rC7_4]
  have hb8 : Below w7.heap.size w7 (w7.alloc (.cells ([.int .i64 rv0_0, .int .i64 rv0_1, .slice rA7_2 rv0_2.length rC7_2, .slice rA7_3 rv0_3.length rC7_3, .slice rA7_4 rv0_4.length rC7_4] : List Value).toArray 29)) := (Below.refl _ _).alloc (Nat.le_refl _) _
  rw [← hwb] at bq hb8
  have BXx7 := Lib.hid bq; clear bq
  have s4_5 := hb5
  have s4_6 := s4_5.trans (hb6.mono s4_5.size)
  have s4_7 := s4_6.trans (hb7.mono s4_6.size)
  have s4_8 := s4_7.trans (hb8.mono s4_7.size)
  have kx3_0 := (BXx3.out.below s4_8 BXx3.out.lt).cell 0
  have kx3_1 := (BXx3.out.below s4_8 BXx3.out.lt).cell 1
  have kx3_2 := (BXx3.out.below s4_8 BXx3.out.lt).cell 2
  have kx3_3 := (BXx3.out.below s4_8 BXx3.out.lt).cell 3
  have kx3_4 := (BXx3.out.below s4_8 BXx3.out.lt).cell 4
  rw [hwb] at kx3_0 kx3_1 kx3_2 kx3_3 kx3_4
  go_wp2_with fail
  clear kx3_0 kx3_1 kx3_2 kx3_3 kx3_4
  change Calls _ _ _ (w7.alloc (.cells ([.int .i64 rv0_0, .int .i64 rv0_1, .slice rA7_2 rv0_2.length rC7_2, .slice rA7_3 rv0_3.length rC7_3, .slice rA7_4 rv0_4.length rC7_4] : List Value).toArray 29)) _
  rw [← hwb]
  clear hwb
  have s7_8 := hb8
  have s3_4 := hb4
  have s3_5 := s3_4.trans (hb5.mono s3_4.size)
  have s3_6 := s3_5.trans (hb6.mono s3_5.size)
  have s3_7 := s3_6.trans (hb7.mono s3_6.size)
  have s3_8 := s3_7.trans (hb8.mono s3_7.size)
  have hOB0_24 : rv0_2.length ≤ 4294967296 := by omega
  have hOB0_34 : rv0_3.length ≤ 4294967296 := by omega
  have hOB0_44 : rv0_4.length ≤ 4294967296 := by omega
  refine (eqOwnModel (.agg #[.int .i64 rv0_0, .int .i64 rv0_1, .slice rA7_2 rv0_2.length rC7_2, .slice rA7_3 rv0_3.length rC7_3, .slice rA7_4 rv0_4.length rC7_4]) (.agg #[.int .i64 rv0_0, .int .i64 rv0_1, .slice rA3_2 rv0_2.length rC3_2, .slice rA3_3 rv0_3.length rC3_3, .slice rA3_4 rv0_4.length rC3_4]) rv0_0 rv0_1 rv0_2 rv0_3 rv0_4 _ _ _ _ w8 (hR7_0.out.below s7_8 (Nat.le_refl _)) (hR3_0.out.below s3_8 (Nat.le_refl _)) hOB0_24 hOB0_34 hOB0_44).mono ?_
  rintro e w9 ⟨rfl, hb9⟩
  have s0_5 := s0_4.trans (hb5.mono s0_4.size)
  have s0_6 := s0_5.trans (hb6.mono s0_5.size)
  have s0_7 := s0_6.trans (hb7.mono s0_6.size)
  have s0_8 := s0_7.trans (hb8.mono s0_7.size)
  have s0_9 := s0_8.trans (hb9.mono s0_8.size)
  have kc0_0 := (BX0.out.below s0_9 BX0.out.lt).cell 0
  have kc0_1 := (BX0.out.below s0_9 BX0.out.lt).cell 1
  have kc0_2 := (BX0.out.below s0_9 BX0.out.lt).cell 2
  have kc0_3 := (BX0.out.below s0_9 BX0.out.lt).cell 3
  have kc0_4 := (BX0.out.below s0_9 BX0.out.lt).cell 4
  have s6_7 := hb7
  have s6_8 := s6_7.trans (hb8.mono s6_7.size)
  have s6_9 := s6_8.trans (hb9.mono s6_8.size)
  have kx5_0 := (BXx5.out.below s6_9 BXx5.out.lt).cell 0
  have kx5_1 := (BXx5.out.below s6_9 BXx5.out.lt).cell 1
  have kx5_2 := (BXx5.out.below s6_9 BXx5.out.lt).cell 2
  have kx5_3 := (BXx5.out.below s6_9 BXx5.out.lt).cell 3
  have kx5_4 := (BXx5.out.below s6_9 BXx5.out.lt).cell 4
  go_wp2_with fail
  have s5_7 := s5_6.trans (hb7.mono s5_6.size)
  have s5_8 := s5_7.trans (hb8.mono s5_7.size)
  have s5_9 := s5_8.trans (hb9.mono s5_8.size)
  have hsrc := Lib.hid ((HS0'.out.below s0_9 (Nat.le_refl _)).more s0_9.size)
  have hcop := Lib.hid ((H5.out.below s5_9 (Nat.le_refl _)).more s5_9.size)
  have hcells : ∀ x : World, Below w9.heap.size w9 x → (x.cell? ⟨w.heap.size, 0, none⟩ = some (.int .i64 cS) ∧ x.cell? ⟨w.heap.size, 1, none⟩ = some (.int .i64 cT) ∧ x.cell? ⟨w.heap.size, 2, none⟩ = some (.slice a0_2 n0_2 c0_2) ∧ x.cell? ⟨w.heap.size, 3, none⟩ = some (.slice a0_3 n0_3 c0_3) ∧ x.cell? ⟨w.heap.size, 4, none⟩ = some (.slice a0_4 n0_4 c0_4) ∧ x.cell? ⟨w5.heap.size, 0, none⟩ = some (.int .i64 cS) ∧ x.cell? ⟨w5.heap.size, 1, none⟩ = some (.int .i64 cT) ∧ x.cell? ⟨w5.heap.size, 2, none⟩ = some (.slice (some ⟨ga5_2, 0, none⟩) cP.length cP.length) ∧ x.cell? ⟨w5.heap.size, 3, none⟩ = some (.slice (some ⟨ga5_3, 0, none⟩) cQ.length cQ.length) ∧ x.cell? ⟨w5.heap.size, 4, none⟩ = some (.slice (some ⟨ga5_4, 0, none⟩) cR.length cR.length)) := by
    intro x hx
    have ra := (BX0.out.below s0_9 BX0.out.lt)
    have rx := (BXx5.out.below s6_9 BXx5.out.lt)
    have ra' := ra.below hx ra.lt
    have rx' := rx.below hx rx.lt
    exact ⟨ra'.cell 0, ra'.cell 1, ra'.cell 2, ra'.cell 3, ra'.cell 4, rx'.cell 0, rx'.cell 1, rx'.cell 2, rx'.cell 3, rx'.cell 4⟩
  have hcells := Lib.hid hcells
  have hkeep : Hid (∀ x y : World, Below w9.heap.size w9 x → Below x.heap.size x y → (Below w9.heap.size w9 y ∧ y.cell? ⟨w.heap.size, 0, none⟩ = some (.int .i64 cS) ∧ y.cell? ⟨w.heap.size, 1, none⟩ = some (.int .i64 cT) ∧ y.cell? ⟨w.heap.size, 2, none⟩ = some (.slice a0_2 n0_2 c0_2) ∧ y.cell? ⟨w.heap.size, 3, none⟩ = some (.slice a0_3 n0_3 c0_3) ∧ y.cell? ⟨w.heap.size, 4, none⟩ = some (.slice a0_4 n0_4 c0_4) ∧ y.cell? ⟨w5.heap.size, 0, none⟩ = some (.int .i64 cS) ∧ y.cell? ⟨w5.heap.size, 1, none⟩ = some (.int .i64 cT) ∧ y.cell? ⟨w5.heap.size, 2, none⟩ = some (.slice (some ⟨ga5_2, 0, none⟩) cP.length cP.length) ∧ y.cell? ⟨w5.heap.size, 3, none⟩ = some (.slice (some ⟨ga5_3, 0, none⟩) cQ.length cQ.length) ∧ y.cell? ⟨w5.heap.size, 4, none⟩ = some (.slice (some ⟨ga5_4, 0, none⟩) cR.length cR.length))) := by
    intro x y h1 h2
    have h3 := h1.trans (h2.mono h1.size)
    exact ⟨h3, hcells.out y h3⟩
  have hfrom := hcells.out w9 (Below.refl _ _)
  have hdr : Below w9.heap.size w9 w9.drew := Below.drew (Below.refl _ _)
  go_region_held3 (fun x => Below w9.heap.size w9 x ∧ x.cell? ⟨w.heap.size, 0, none⟩ = some (.int .i64 cS) ∧ x.cell? ⟨w.heap.size, 1, none⟩ = some (.int .i64 cT) ∧ x.cell? ⟨w.heap.size, 2, none⟩ = some (.slice a0_2 n0_2 c0_2) ∧ x.cell? ⟨w.heap.size, 3, none⟩ = some (.slice a0_3 n0_3 c0_3) ∧ x.cell? ⟨w.heap.size, 4, none⟩ = some (.slice a0_4 n0_4 c0_4) ∧ x.cell? ⟨w5.heap.size, 0, none⟩ = some (.int .i64 cS) ∧ x.cell? ⟨w5.heap.size, 1, none⟩ = some (.int .i64 cT) ∧ x.cell? ⟨w5.heap.size, 2, none⟩ = some (.slice (some ⟨ga5_2, 0, none⟩) cP.length cP.length) ∧ x.cell? ⟨w5.heap.size, 3, none⟩ = some (.slice (some ⟨ga5_3, 0, none⟩) cQ.length cQ.length) ∧ x.cell? ⟨w5.heap.size, 4, none⟩ = some (.slice (some ⟨ga5_4, 0, none⟩) cR.length cR.length)) (first | assumption | go_keep)
    (first
      | (go_at_call 7; refine (toModel_any _ cS cT cP cQ cR _ ?_ hm0_2 hm0_3 hm0_4).mono ?_; (exact (hsrc.out.below (by first | assumption | (apply And.left; assumption)) (Nat.le_refl _)).more (Below.size (by first | assumption | (apply And.left; assumption)))); rintro e wz ⟨uz, rfl, hrz, hbz⟩; have hkz := (fun h => hkeep.out _ _ h hbz) (by first | assumption | (apply And.left; assumption)); obtain ⟨gb2, gb3, gb4, hu⟩ := hrz.shape; subst hu; have HCz := Lib.hid hrz.cg; clear hrz)
      | (go_at_call 10; refine (eqModel_same _ _ cS cT cP cQ cR _ ?_ ?_ hm0_2 hm0_3 hm0_4).mono ?_; (exact (hcop.out.below (by first | assumption | (apply And.left; assumption)) (Nat.le_refl _)).more (Below.size (by first | assumption | (apply And.left; assumption)))); (exact HCz.out); rintro e w10 ⟨rfl, hbz2⟩; have hk2 := (fun h => hkeep.out _ _ h hbz2) (by first | assumption | (apply And.left; assumption))))
  have hb10 : Below w9.heap.size w9 w10 := (by first | assumption | (apply And.left; assumption))
  clear hfrom hdr hkeep hcells hsrc hcop kc0_0 kc0_1 kc0_2 kc0_3 kc0_4 kx5_0 kx5_1 kx5_2 kx5_3 kx5_4
  have s5_10 := s5_9.trans (hb10.mono s5_9.size)
  have M5 := Lib.hid (N5.out.below s5_10 (Nat.le_refl _))
  have s7_9 := s7_8.trans (hb9.mono s7_8.size)
  have s7_10 := s7_9.trans (hb10.mono s7_9.size)
  have hRm0 := Lib.hid (hR7_0.out.below s7_10 (Nat.le_refl _))
  have s6_10 := s6_9.trans (hb10.mono s6_9.size)
  have kx5_0 := (BXx5.out.below s6_10 BXx5.out.lt).cell 0
  have kx5_1 := (BXx5.out.below s6_10 BXx5.out.lt).cell 1
  have kx5_2 := (BXx5.out.below s6_10 BXx5.out.lt).cell 2
  have kx5_3 := (BXx5.out.below s6_10 BXx5.out.lt).cell 3
  have kx5_4 := (BXx5.out.below s6_10 BXx5.out.lt).cell 4
  go_wp2_with fail
  clear kx5_0 kx5_1 kx5_2 kx5_3 kx5_4
  refine (markModel_any _ cS cT cP cQ cR w4.heap.size w5.heap.size (1) w10 M5.out hs0_2 hs0_3 hs0_4 (by omega) (by omega) (Nat.le_trans (Nat.le_trans (Nat.le_trans (Nat.le_trans hb6.size hb7.size) hb8.size) hb9.size) hb10.size)).mono ?_
  rintro e w11 ⟨rfl, -, hk11⟩
  have hkb11 := (hk11.below (Nat.le_trans (Nat.le_trans (Nat.le_trans (Nat.le_trans (Nat.le_trans hb5.size hb6.size) hb7.size) hb8.size) hb9.size) hb10.size)).mono (Nat.le_refl _)
  have hRm0 := Lib.hid (hRm0.out.kp hk11 (.inl hb6.size))
  have s4_9 := s4_8.trans (hb9.mono s4_8.size)
  have s4_10 := s4_9.trans (hb10.mono s4_9.size)
  have BY3_11 := Lib.hid (Row.kp (BXx3.out.below s4_10 BXx3.out.lt) hk11 (.inl (Nat.lt_of_lt_of_le BXx3.out.lt (Nat.le_refl _))))
  have BY5_11 := Lib.hid (Row.kp (BXx5.out.below s6_10 BXx5.out.lt) hk11 (.inr (Nat.le_refl _)))
  have s8_9 := hb9
  have s8_10 := s8_9.trans (hb10.mono s8_9.size)
  have BY7_11 := Lib.hid (Row.kp (BXx7.out.below s8_10 BXx7.out.lt) hk11 (.inr (Nat.le_trans hb6.size hb7.size)))
  have q1 : (0 : Int) ≤ 1 + (cP.length : Int) + (cQ.length : Int) + (cR.length : Int) := by omega
  have kx7_0 := BY7_11.out.cell 0
  have kx7_1 := BY7_11.out.cell 1
  have kx7_2 := BY7_11.out.cell 2
  have kx7_3 := BY7_11.out.cell 3
  have kx7_4 := BY7_11.out.cell 4
  have kx3_0 := BY3_11.out.cell 0
  have kx3_1 := BY3_11.out.cell 1
  have kx3_2 := BY3_11.out.cell 2
  have kx3_3 := BY3_11.out.cell 3
  have kx3_4 := BY3_11.out.cell 4
  go_wp2_with fail
  clear kx7_0 kx7_1 kx7_2 kx7_3 kx7_4 kx3_0 kx3_1 kx3_2 kx3_3 kx3_4
  have s3_9 := s3_8.trans (hb9.mono s3_8.size)
  have s3_10 := s3_9.trans (hb10.mono s3_9.size)
  have s3_11 := s3_10.trans (hkb11.mono s3_4.size)
  refine (eqOwnModel (.agg #[.int .i64 rv0_0, .int .i64 rv0_1, .slice rA7_2 rv0_2.length rC7_2, .slice rA7_3 rv0_3.length rC7_3, .slice rA7_4 rv0_4.length rC7_4]) (.agg #[.int .i64 rv0_0, .int .i64 rv0_1, .slice rA3_2 rv0_2.length rC3_2, .slice rA3_3 rv0_3.length rC3_3, .slice rA3_4 rv0_4.length rC3_4]) rv0_0 rv0_1 rv0_2 rv0_3 rv0_4 _ _ _ _ w11 hRm0.out (hR3_0.out.below s3_11 (Nat.le_refl _)) hOB0_24 hOB0_34 hOB0_44).mono ?_
  rintro e w12 ⟨rfl, hb12⟩
  have hRm0 := Lib.hid (hRm0.out.below hb12 (Nat.le_trans (Nat.le_trans (Nat.le_trans hb8.size hb9.size) hb10.size) hk11.2.2.2.1))
  have hszq : w6.heap.size ≤ w12.heap.size := (Nat.le_trans (Nat.le_trans (Nat.le_trans (Nat.le_trans (Nat.le_trans hb7.size hb8.size) hb9.size) hb10.size) hk11.2.2.2.1) hb12.size)
  have s11_12 := hb12
  have kx7_0 := (BY7_11.out.below s11_12 BY7_11.out.lt).cell 0
  have kx7_1 := (BY7_11.out.below s11_12 BY7_11.out.lt).cell 1
  have kx7_2 := (BY7_11.out.below s11_12 BY7_11.out.lt).cell 2
  have kx7_3 := (BY7_11.out.below s11_12 BY7_11.out.lt).cell 3
  have kx7_4 := (BY7_11.out.below s11_12 BY7_11.out.lt).cell 4
  go_wp2_with fail
  clear kx7_0 kx7_1 kx7_2 kx7_3 kx7_4
  refine (markModel_any (.agg #[.int .i64 rv0_0, .int .i64 rv0_1, .slice rA7_2 rv0_2.length rC7_2, .slice rA7_3 rv0_3.length rC7_3, .slice rA7_4 rv0_4.length rC7_4]) rv0_0 rv0_1 rv0_2 rv0_3 rv0_4 w6.heap.size w7.heap.size 1 w12 hRm0.out hOB0_2 hOB0_3 hOB0_4 (by omega) (by omega) (Nat.le_trans (Nat.le_trans (Nat.le_trans (Nat.le_trans hb8.size hb9.size) hb10.size) hk11.2.2.2.1) hb12.size)).mono ?_
  rintro e w13 ⟨rfl, hmk, hk13⟩
  have HM := Lib.hid hmk; clear hmk
  have hkb13 := hk13.below hszq
  have BY3_13 := Lib.hid (Row.kp (BY3_11.out.below s11_12 BY3_11.out.lt) hk13 (.inl (Nat.lt_of_lt_of_le BXx3.out.lt (Nat.le_trans hb5.size hb6.size))))
  have BY5_13 := Lib.hid (Row.kp (BY5_11.out.below s11_12 BY5_11.out.lt) hk13 (.inl (Nat.lt_of_lt_of_le BXx5.out.lt (Nat.le_refl _))))
  have BY7_13 := Lib.hid (Row.kp (BY7_11.out.below s11_12 BY7_11.out.lt) hk13 (.inr (Nat.le_refl _)))
  have hkb13 := hkb13.mono (Nat.le_trans (Nat.le_trans hb4.size hb5.size) hb6.size)
  have kx7_0 := BY7_13.out.cell 0
  have kx7_1 := BY7_13.out.cell 1
  have kx7_2 := BY7_13.out.cell 2
  have kx7_3 := BY7_13.out.cell 3
  have kx7_4 := BY7_13.out.cell 4
  go_wp2_with fail
  clear kx7_0 kx7_1 kx7_2 kx7_3 kx7_4
  refine (heldModel_any (.agg #[.int .i64 rv0_0, .int .i64 rv0_1, .slice rA7_2 rv0_2.length rC7_2, .slice rA7_3 rv0_3.length rC7_3, .slice rA7_4 rv0_4.length rC7_4]) rv0_2 rv0_3 rv0_4 1 w13 HM.out hOB0_2 hOB0_3 hOB0_4 (by omega) (by omega)).mono ?_
  rintro e w14 ⟨rfl, hb14⟩
  have q2 : (0 : Int) ≤ 1 + (rv0_2.length : Int) + (rv0_3.length : Int) + (rv0_4.length : Int) := by omega
  have s0_10 := s0_9.trans (hb10.mono s0_9.size)
  have s0_11 := s0_10.trans (hkb11.mono s0_4.size)
  have s0_12 := s0_11.trans (hb12.mono s0_11.size)
  have s0_13 := s0_12.trans (hkb13.mono s0_3.size)
  have s0_14 := s0_13.trans (hb14.mono s0_13.size)
  have kc0_0 := (BX0.out.below s0_14 BX0.out.lt).cell 0
  have kc0_1 := (BX0.out.below s0_14 BX0.out.lt).cell 1
  have kc0_2 := (BX0.out.below s0_14 BX0.out.lt).cell 2
  have kc0_3 := (BX0.out.below s0_14 BX0.out.lt).cell 3
  have kc0_4 := (BX0.out.below s0_14 BX0.out.lt).cell 4
  go_wp2_with fail
  clear kc0_0 kc0_1 kc0_2 kc0_3 kc0_4
  refine (toModel_any (.agg #[.int .i64 cS, .int .i64 cT, .slice a0_2 n0_2 c0_2, .slice a0_3 n0_3 c0_3, .slice a0_4 n0_4 c0_4]) cS cT cP cQ cR w14 ((HS0'.out.below s0_14 (Nat.le_refl _)).more s0_14.size) hm0_2 hm0_3 hm0_4).mono ?_
  rintro e w15 ⟨u15, rfl, hr15, hb15⟩
  obtain ⟨ga15_2, ga15_3, ga15_4, hu⟩ := hr15.shape
  subst hu
  have H15 := Lib.hid hr15.cg
  have N15 := Lib.hid (hr15.cgm hm0_2 hm0_3 hm0_4); clear hr15
  go_wp2_with fail
  refine (iJoinL_any _ cS cT cP cQ cR i k w15 H15.out ⟨_, _, _, _, _, _, _, _, _, _, _, rfl, Nat.le_refl _, Nat.le_trans hm0_2 (by decide), Nat.le_refl _, Nat.le_trans hm0_3 (by decide), Nat.le_refl _, Nat.le_trans hm0_4 (by decide)⟩).mono ?_
  rintro e w16 ⟨v_16_0, rfl, hv16_0, hb16⟩
  have hR16_0 := Lib.hid hv16_0; clear hv16_0
  rw [← Hrv0_0.out, ← Hrv0_1.out, ← Hrv0_2.out, ← Hrv0_3.out, ← Hrv0_4.out] at hR16_0
  rw [← Hrv1.out]
  obtain ⟨rA16_2, rC16_2, rA16_3, rC16_3, rA16_4, rC16_4, hu⟩ := hR16_0.out.shape
  subst hu
  obtain ⟨w17, hwb⟩ : ∃ x, x = w16.alloc (.cells ([.int .i64 rv0_0, .int .i64 rv0_1, .slice rA16_2 rv0_2.length rC16_2, .slice rA16_3 rv0_3.length rC16_3, .slice rA16_4 rv0_4.length rC16_4] : List Value).toArray 29) := ⟨_, rfl⟩
  have bq := Row.new w16 29 [.int .i64 rv0_0, .int .i64 rv0_1, .slice rA16_2 rv0_2.length rC16_2, .slice rA16_3 rv0_3.length rC16_3, .slice rA16_4 rv0_4.length rC16_4]
  have hb17 : Below w16.heap.size w16 (w16.alloc (.cells ([.int .i64 rv0_0, .int .i64 rv0_1, .slice rA16_2 rv0_2.length rC16_2, .slice rA16_3 rv0_3.length rC16_3, .slice rA16_4 rv0_4.length rC16_4] : List Value).toArray 29)) := (Below.refl _ _).alloc (Nat.le_refl _) _
  rw [← hwb] at bq hb17
  have BXx16 := Lib.hid bq; clear bq
  have s13_14 := hb14
  have s13_15 := s13_14.trans (hb15.mono s13_14.size)
  have s13_16 := s13_15.trans (hb16.mono s13_15.size)
  have s13_17 := s13_16.trans (hb17.mono s13_16.size)
  have kx3_0 := (BY3_13.out.below s13_17 BY3_13.out.lt).cell 0
  have kx3_1 := (BY3_13.out.below s13_17 BY3_13.out.lt).cell 1
  have kx3_2 := (BY3_13.out.below s13_17 BY3_13.out.lt).cell 2
  have kx3_3 := (BY3_13.out.below s13_17 BY3_13.out.lt).cell 3
  have kx3_4 := (BY3_13.out.below s13_17 BY3_13.out.lt).cell 4
  rw [hwb] at kx3_0 kx3_1 kx3_2 kx3_3 kx3_4
  go_wp2_with fail
  clear kx3_0 kx3_1 kx3_2 kx3_3 kx3_4
  change Calls _ _ _ (w16.alloc (.cells ([.int .i64 rv0_0, .int .i64 rv0_1, .slice rA16_2 rv0_2.length rC16_2, .slice rA16_3 rv0_3.length rC16_3, .slice rA16_4 rv0_4.length rC16_4] : List Value).toArray 29)) _
  rw [← hwb]
  clear hwb
  have s16_17 := hb17
  have s3_12 := s3_11.trans (hb12.mono s3_11.size)
  have s3_13 := s3_12.trans (hkb13.mono (Nat.le_refl _))
  have s3_14 := s3_13.trans (hb14.mono s3_13.size)
  have s3_15 := s3_14.trans (hb15.mono s3_14.size)
  have s3_16 := s3_15.trans (hb16.mono s3_15.size)
  have s3_17 := s3_16.trans (hb17.mono s3_16.size)
  refine (eqOwnModel (.agg #[.int .i64 rv0_0, .int .i64 rv0_1, .slice rA16_2 rv0_2.length rC16_2, .slice rA16_3 rv0_3.length rC16_3, .slice rA16_4 rv0_4.length rC16_4]) (.agg #[.int .i64 rv0_0, .int .i64 rv0_1, .slice rA3_2 rv0_2.length rC3_2, .slice rA3_3 rv0_3.length rC3_3, .slice rA3_4 rv0_4.length rC3_4]) rv0_0 rv0_1 rv0_2 rv0_3 rv0_4 _ _ _ _ w17 (hR16_0.out.below s16_17 (Nat.le_refl _)) (hR3_0.out.below s3_17 (Nat.le_refl _)) hOB0_24 hOB0_34 hOB0_44).mono ?_
  rintro e w18 ⟨rfl, hb18⟩
  have s13_18 := s13_17.trans (hb18.mono s13_17.size)
  have kx7_0 := (BY7_13.out.below s13_18 BY7_13.out.lt).cell 0
  have kx7_1 := (BY7_13.out.below s13_18 BY7_13.out.lt).cell 1
  have kx7_2 := (BY7_13.out.below s13_18 BY7_13.out.lt).cell 2
  have kx7_3 := (BY7_13.out.below s13_18 BY7_13.out.lt).cell 3
  have kx7_4 := (BY7_13.out.below s13_18 BY7_13.out.lt).cell 4
  go_wp2_with fail
  clear kx7_0 kx7_1 kx7_2 kx7_3 kx7_4
  refine (heldModel_any (.agg #[.int .i64 rv0_0, .int .i64 rv0_1, .slice rA7_2 rv0_2.length rC7_2, .slice rA7_3 rv0_3.length rC7_3, .slice rA7_4 rv0_4.length rC7_4]) rv0_2 rv0_3 rv0_4 1 w18 (HM.out.below s13_18 (Nat.le_refl _)) hOB0_2 hOB0_3 hOB0_4 (by omega) (by omega)).mono ?_
  rintro e w19 ⟨rfl, hb19⟩
  go_wp2_with fail
  go_ret
  have s0_15 := s0_14.trans (hb15.mono s0_14.size)
  have s0_16 := s0_15.trans (hb16.mono s0_15.size)
  have s0_17 := s0_16.trans (hb17.mono s0_16.size)
  have s0_18 := s0_17.trans (hb18.mono s0_17.size)
  have s0_19 := s0_18.trans (hb19.mono s0_18.size)
  exact ⟨rfl, BXB.out.trans (s0_19.mono BXB.out.size)⟩
end Go.Proofs.Ytomofghiafcefaa.fnExactJoinStates
