/- FnExactFitLetters: the walk: the law returns true. -/
import Derived.Test.YtkfmjnefbimecaaFiX
import Derived.Test.YtkfmjnefbimecaaModelSt
import Derived.Test.YtkfmjnefbimecaaKp
import Derived.Test.YtkfmjnefbimecaaModelOw
import Derived.Deep.RegionHeld3
import Derived.Deep.RegionWith
namespace Go.Proofs.Ytkfmjnefbimecaa.fnExactFitLetters
open Go.RowKit
set_option linter.unusedVariables false
set_option maxHeartbeats 4000000 in
theorem walk (cS : Int) (cT : Int) (a0_2 : Option Addr) (n0_2 c0_2 : Nat) (cP : List F32) (a0_3 : Option Addr) (n0_3 c0_3 : Nat) (cQ : List F32) (a0_4 : Option Addr) (n0_4 c0_4 : Nat) (cR : List F32) (a1 : Option Addr) (n1 c1 : Nat) (ws : List (List Int)) (a2 : Option Addr) (n2 c2 : Nat) (vs : List (List Int)) (w : World) (wf0_0 : (Lit.int .i64 cS).wf = true) (wf0_1 : (Lit.int .i64 cT).wf = true) (wf0_2 : n0_2 ≤ 9223372036854775807 ∧ SlF w w.heap.size a0_2 n0_2 cP) (wf0_3 : n0_3 ≤ 9223372036854775807 ∧ SlF w w.heap.size a0_3 n0_3 cQ) (wf0_4 : n0_4 ≤ 9223372036854775807 ∧ SlF w w.heap.size a0_4 n0_4 cR) (wf1 : n1 ≤ 9223372036854775807 ∧ SlL w w.heap.size a1 n1 ws) (wf2 : n2 ≤ 9223372036854775807 ∧ SlL w w.heap.size a2 n2 vs) :
    Calls Try.prog 4 #[.agg #[.int .i64 cS, .int .i64 cT, .slice a0_2 n0_2 c0_2, .slice a0_3 n0_3 c0_3, .slice a0_4 n0_4 c0_4], .slice a1 n1 c1, .slice a2 n2 c2] w fun e w' => e = .returned (.bool true) ∧ Below w.heap.size w w' := by
  obtain ⟨hx0_2, hS0_2⟩ := wf0_2
  have hy0_2 := hS0_2.len
  obtain ⟨hx0_3, hS0_3⟩ := wf0_3
  have hy0_3 := hS0_3.len
  obtain ⟨hx0_4, hS0_4⟩ := wf0_4
  have hy0_4 := hS0_4.len
  have hC0 : Md w w.heap.size (.agg #[.int .i64 cS, .int .i64 cT, .slice a0_2 n0_2 c0_2, .slice a0_3 n0_3 c0_3, .slice a0_4 n0_4 c0_4]) cS cT cP cQ cR := ⟨_, _, _, _, _, _, _, _, _, rfl, hS0_2, hS0_3, hS0_4⟩
  rw [← hy0_2] at hx0_2
  rw [← hy0_3] at hx0_3
  rw [← hy0_4] at hx0_4
  clear hS0_2 hy0_2 hS0_3 hy0_3 hS0_4 hy0_4
  have HS0 := Lib.hid hC0; clear hC0
  obtain ⟨hx1, hS1⟩ := wf1
  have HS1 := Lib.hid hS1; clear hS1
  obtain ⟨hx2, hS2⟩ := wf2
  have HS2 := Lib.hid hS2; clear hS2
  have bx0 := Row.new (w) 44 [.int .i64 cS, .int .i64 cT, .slice a0_2 n0_2 c0_2, .slice a0_3 n0_3 c0_3, .slice a0_4 n0_4 c0_4]
  have bxb : Below w.heap.size w ((w).alloc (.cells ([.int .i64 cS, .int .i64 cT, .slice a0_2 n0_2 c0_2, .slice a0_3 n0_3 c0_3, .slice a0_4 n0_4 c0_4] : List Value).toArray 44)) := (Below.refl _ _).alloc (Nat.le_refl _) _
  have BX0 := Lib.hid bx0; clear bx0
  have BXB := Lib.hid bxb; clear bxb
  go_enter Try.func4, Try.ntmps4
  go_wp2_with fail
  obtain ⟨wb, hwb⟩ : ∃ x, x = (w).alloc (.cells ([.int .i64 cS, .int .i64 cT, .slice a0_2 n0_2 c0_2, .slice a0_3 n0_3 c0_3, .slice a0_4 n0_4 c0_4] : List Value).toArray 44) := ⟨_, rfl⟩
  rw [← hwb] at BX0
  rw [← hwb] at BXB
  change Calls _ _ _ ((w).alloc (.cells ([.int .i64 cS, .int .i64 cT, .slice a0_2 n0_2 c0_2, .slice a0_3 n0_3 c0_3, .slice a0_4 n0_4 c0_4] : List Value).toArray 44)) _
  rw [← hwb]
  clear hwb
  have HS0' := Lib.hid ((HS0.out.below BXB.out (Nat.le_refl _)).more BXB.out.size)
  have HS1' := Lib.hid ((HS1.out.below BXB.out (Nat.le_refl _)).more BXB.out.size)
  have HS2' := Lib.hid ((HS2.out.below BXB.out (Nat.le_refl _)).more BXB.out.size)
  refine (szModel_any (.agg #[.int .i64 cS, .int .i64 cT, .slice a0_2 n0_2 c0_2, .slice a0_3 n0_3 c0_3, .slice a0_4 n0_4 c0_4]) cS cT cP cQ cR 1048576 wb HS0'.out (by omega) (by omega) hx0_2 hx0_3 hx0_4).mono ?_
  rintro e w1 ⟨y0, rfl, hy0_0, hy1_0, hyn0, hb1⟩
  have s0_1 := hb1
  by_cases hneg : y0 < 0
  · clear hyn0
    go_wp2_with fail
    go_ret
    exact ⟨rfl, BXB.out.trans (s0_1.mono BXB.out.size)⟩
  have hyq0 : 0 ≤ y0 := by omega
  obtain ⟨hs0_2, hs0_3, hs0_4⟩ := hyn0 hyq0
  have hm0_2 : cP.length ≤ 4294967296 := by omega
  have hm0_3 : cQ.length ≤ 4294967296 := by omega
  have hm0_4 : cR.length ≤ 4294967296 := by omega
  clear hyn0 hneg
  go_wp2_with fail
  refine (szInt64SS_any a1 n1 c1 ws y0 w1 ((HS1'.out.below s0_1 (Nat.le_refl _)).more s0_1.size) (by omega) (by omega) hx1).mono ?_
  rintro e w2 ⟨y1, rfl, hy0_1, hy1_1, hyn1, hb2⟩
  have s0_2 := s0_1.trans (hb2.mono s0_1.size)
  by_cases hneg : y1 < 0
  · clear hyn1
    go_wp2_with fail
    go_ret
    exact ⟨rfl, BXB.out.trans (s0_2.mono BXB.out.size)⟩
  have hyq1 : 0 ≤ y1 := by omega
  obtain ⟨hn1, hs1⟩ := hyn1 hyq1
  have hm1 : n1 ≤ 4294967296 := by omega
  have HQ1 : Hid (∀ r ∈ ws, r.length ≤ 4294967296) := fun r hr => by have := sumL_mem hr; omega
  clear hyn1 hneg
  go_wp2_with fail
  refine (szInt64SS_any a2 n2 c2 vs y1 w2 ((HS2'.out.below s0_2 (Nat.le_refl _)).more s0_2.size) (by omega) (by omega) hx2).mono ?_
  rintro e w3 ⟨y2, rfl, hy0_2, hy1_2, hyn2, hb3⟩
  have s0_3 := s0_2.trans (hb3.mono s0_2.size)
  by_cases hneg : y2 < 0
  · clear hyn2
    go_wp2_with fail
    go_ret
    exact ⟨rfl, BXB.out.trans (s0_3.mono BXB.out.size)⟩
  have hyq2 : 0 ≤ y2 := by omega
  obtain ⟨hn2, hs2⟩ := hyn2 hyq2
  have hm2 : n2 ≤ 4294967296 := by omega
  have HQ2 : Hid (∀ r ∈ vs, r.length ≤ 4294967296) := fun r hr => by have := sumL_mem hr; omega
  clear hyn2 hneg
  obtain ⟨rv0_0, hrv0_0⟩ : ∃ x, x = ckI (fitOk cS cT cP cQ cR ws vs) cS := ⟨_, rfl⟩
  obtain ⟨rv0_1, hrv0_1⟩ : ∃ x, x = ckI (fitOk cS cT cP cQ cR ws vs) cT := ⟨_, rfl⟩
  have hOB0_2 : (ckL (fitOk cS cT cP cQ cR ws vs) (fitP cS cT cP ws vs)).length ≤ 1048576 := fitP_ck
  obtain ⟨rv0_2, hrv0_2⟩ : ∃ x, x = ckL (fitOk cS cT cP cQ cR ws vs) (fitP cS cT cP ws vs) := ⟨_, rfl⟩
  rw [← hrv0_2] at hOB0_2
  have hOB0_3 : (ckL (fitOk cS cT cP cQ cR ws vs) (fitQ cS cT cQ ws vs)).length ≤ 1048576 := fitQ_ck
  obtain ⟨rv0_3, hrv0_3⟩ : ∃ x, x = ckL (fitOk cS cT cP cQ cR ws vs) (fitQ cS cT cQ ws vs) := ⟨_, rfl⟩
  rw [← hrv0_3] at hOB0_3
  have hOB0_4 : (ckL (fitOk cS cT cP cQ cR ws vs) (fitR cS cT cR ws vs)).length ≤ 1048576 := fitR_ck
  obtain ⟨rv0_4, hrv0_4⟩ : ∃ x, x = ckL (fitOk cS cT cP cQ cR ws vs) (fitR cS cT cR ws vs) := ⟨_, rfl⟩
  rw [← hrv0_4] at hOB0_4
  obtain ⟨rv1, hrv1⟩ : ∃ x, x = fitOk cS cT cP cQ cR ws vs := ⟨_, rfl⟩
  have Hrv0_0 := Lib.hid hrv0_0; clear hrv0_0
  have Hrv0_1 := Lib.hid hrv0_1; clear hrv0_1
  have Hrv0_2 := Lib.hid hrv0_2; clear hrv0_2
  have Hrv0_3 := Lib.hid hrv0_3; clear hrv0_3
  have Hrv0_4 := Lib.hid hrv0_4; clear hrv0_4
  have Hrv1 := Lib.hid hrv1; clear hrv1
  have kc0_0 := (BX0.out.below s0_3 BX0.out.lt).cell 0
  have kc0_1 := (BX0.out.below s0_3 BX0.out.lt).cell 1
  have kc0_2 := (BX0.out.below s0_3 BX0.out.lt).cell 2
  have kc0_3 := (BX0.out.below s0_3 BX0.out.lt).cell 3
  have kc0_4 := (BX0.out.below s0_3 BX0.out.lt).cell 4
  go_wp2_with fail
  clear kc0_0 kc0_1 kc0_2 kc0_3 kc0_4
  refine (toModel_any (.agg #[.int .i64 cS, .int .i64 cT, .slice a0_2 n0_2 c0_2, .slice a0_3 n0_3 c0_3, .slice a0_4 n0_4 c0_4]) cS cT cP cQ cR w3 ((HS0'.out.below s0_3 (Nat.le_refl _)).more s0_3.size) hm0_2 hm0_3 hm0_4).mono ?_
  rintro e w4 ⟨u4, rfl, hr4, hb4⟩
  obtain ⟨ga4_2, ga4_3, ga4_4, hu⟩ := hr4.shape
  subst hu
  have H4 := Lib.hid hr4.cg
  have N4 := Lib.hid (hr4.cgm hm0_2 hm0_3 hm0_4); clear hr4
  go_wp2_with fail
  have s0_4 := s0_3.trans (hb4.mono s0_3.size)
  refine (toInt64SS_any a1 n1 c1 ws w4 ((HS1'.out.below s0_4 (Nat.le_refl _)).more s0_4.size) hm1 HQ1.out).mono ?_
  rintro e w5 ⟨g5, rfl, hg5, hn_, hs_, hb5⟩
  have H5 := Lib.hid hs_
  have N5 := Lib.hid hn_
  clear hn_ hs_
  go_wp2_with fail
  have s0_5 := s0_4.trans (hb5.mono s0_4.size)
  refine (toInt64SS_any a2 n2 c2 vs w5 ((HS2'.out.below s0_5 (Nat.le_refl _)).more s0_5.size) hm2 HQ2.out).mono ?_
  rintro e w6 ⟨g6, rfl, hg6, hn_, hs_, hb6⟩
  have H6 := Lib.hid hs_
  have N6 := Lib.hid hn_
  clear hn_ hs_
  go_wp2_with fail
  have s4_5 := hb5
  have s4_6 := s4_5.trans (hb6.mono s4_5.size)
  have s5_6 := hb6
  refine (sFitL_any _ _ _ _ _ _ cS cT cP cQ cR (some ⟨g5, 0, none⟩) n1 n1 ws (some ⟨g6, 0, none⟩) n2 n2 vs w6 ((H4.out.below s4_6 (Nat.le_refl _)).more s4_6.size) ⟨_, _, _, _, _, _, _, _, _, _, _, rfl, Nat.le_refl _, Nat.le_trans hm0_2 (by decide), Nat.le_refl _, Nat.le_trans hm0_3 (by decide), Nat.le_refl _, Nat.le_trans hm0_4 (by decide)⟩ ((H5.out.below s5_6 (Nat.le_refl _)).more s5_6.size) H6.out hn1 hn2 hs1 hs2).mono ?_
  rintro e w7 ⟨v_7_0, rfl, hv7_0, hb7⟩
  have hR7_0 := Lib.hid hv7_0; clear hv7_0
  rw [← Hrv0_0.out, ← Hrv0_1.out, ← Hrv0_2.out, ← Hrv0_3.out, ← Hrv0_4.out] at hR7_0
  rw [← Hrv1.out]
  obtain ⟨rA7_2, rC7_2, rA7_3, rC7_3, rA7_4, rC7_4, hu⟩ := hR7_0.out.shape
  subst hu
  obtain ⟨w8, hwb⟩ : ∃ x, x = w7.alloc (.cells ([.int .i64 rv0_0, .int .i64 rv0_1, .slice rA7_2 rv0_2.length rC7_2, .slice rA7_3 rv0_3.length rC7_3, .slice rA7_4 rv0_4.length rC7_4] : List Value).toArray 48) := ⟨_, rfl⟩
  have bq := Row.new w7 48 [.int .i64 rv0_0, .int .i64 rv0_1, .slice rA7_2 rv0_2.length rC7_2, .slice rA7_3 rv0_3.length rC7_3, .slice rA7_4 rv0_4.length rC7_4]
  have hb8 : Below w7.heap.size w7 (w7.alloc (.cells ([.int .i64 rv0_0, .int .i64 rv0_1, .slice rA7_2 rv0_2.length rC7_2, .slice rA7_3 rv0_3.length rC7_3, .slice rA7_4 rv0_4.length rC7_4] : List Value).toArray 48)) := (Below.refl _ _).alloc (Nat.le_refl _) _
  rw [← hwb] at bq hb8
  have BXx7 := Lib.hid bq; clear bq
  have s0_6 := s0_5.trans (hb6.mono s0_5.size)
  have s0_7 := s0_6.trans (hb7.mono s0_6.size)
  have s0_8 := s0_7.trans (hb8.mono s0_7.size)
  have kc0_0 := (BX0.out.below s0_8 BX0.out.lt).cell 0
  have kc0_1 := (BX0.out.below s0_8 BX0.out.lt).cell 1
  have kc0_2 := (BX0.out.below s0_8 BX0.out.lt).cell 2
  have kc0_3 := (BX0.out.below s0_8 BX0.out.lt).cell 3
  have kc0_4 := (BX0.out.below s0_8 BX0.out.lt).cell 4
  rw [hwb] at kc0_0 kc0_1 kc0_2 kc0_3 kc0_4
  go_wp2_with fail
  clear kc0_0 kc0_1 kc0_2 kc0_3 kc0_4
  change Calls _ _ _ (w7.alloc (.cells ([.int .i64 rv0_0, .int .i64 rv0_1, .slice rA7_2 rv0_2.length rC7_2, .slice rA7_3 rv0_3.length rC7_3, .slice rA7_4 rv0_4.length rC7_4] : List Value).toArray 48)) _
  rw [← hwb]
  clear hwb
  refine (toModel_any (.agg #[.int .i64 cS, .int .i64 cT, .slice a0_2 n0_2 c0_2, .slice a0_3 n0_3 c0_3, .slice a0_4 n0_4 c0_4]) cS cT cP cQ cR w8 ((HS0'.out.below s0_8 (Nat.le_refl _)).more s0_8.size) hm0_2 hm0_3 hm0_4).mono ?_
  rintro e w9 ⟨u9, rfl, hr9, hb9⟩
  obtain ⟨ga9_2, ga9_3, ga9_4, hu⟩ := hr9.shape
  subst hu
  have H9 := Lib.hid hr9.cg
  have N9 := Lib.hid (hr9.cgm hm0_2 hm0_3 hm0_4); clear hr9
  go_wp2_with fail
  obtain ⟨w10, hwb⟩ : ∃ x, x = w9.alloc (.cells ([.int .i64 cS, .int .i64 cT, .slice (some ⟨ga9_2, 0, none⟩) cP.length cP.length, .slice (some ⟨ga9_3, 0, none⟩) cQ.length cQ.length, .slice (some ⟨ga9_4, 0, none⟩) cR.length cR.length] : List Value).toArray 48) := ⟨_, rfl⟩
  have bq := Row.new w9 48 [.int .i64 cS, .int .i64 cT, .slice (some ⟨ga9_2, 0, none⟩) cP.length cP.length, .slice (some ⟨ga9_3, 0, none⟩) cQ.length cQ.length, .slice (some ⟨ga9_4, 0, none⟩) cR.length cR.length]
  have hb10 : Below w9.heap.size w9 (w9.alloc (.cells ([.int .i64 cS, .int .i64 cT, .slice (some ⟨ga9_2, 0, none⟩) cP.length cP.length, .slice (some ⟨ga9_3, 0, none⟩) cQ.length cQ.length, .slice (some ⟨ga9_4, 0, none⟩) cR.length cR.length] : List Value).toArray 48)) := (Below.refl _ _).alloc (Nat.le_refl _) _
  rw [← hwb] at bq hb10
  change Calls _ _ _ (w9.alloc (.cells ([.int .i64 cS, .int .i64 cT, .slice (some ⟨ga9_2, 0, none⟩) cP.length cP.length, .slice (some ⟨ga9_3, 0, none⟩) cQ.length cQ.length, .slice (some ⟨ga9_4, 0, none⟩) cR.length cR.length] : List Value).toArray 48)) _
  rw [← hwb]
  clear hwb
  have BXx9 := Lib.hid bq; clear bq
  have s0_9 := s0_8.trans (hb9.mono s0_8.size)
  have s0_10 := s0_9.trans (hb10.mono s0_9.size)
  refine (toInt64SS_any a1 n1 c1 ws w10 ((HS1'.out.below s0_10 (Nat.le_refl _)).more s0_10.size) hm1 HQ1.out).mono ?_
  rintro e w11 ⟨g11, rfl, hg11, hn_, hs_, hb11⟩
  have H11 := Lib.hid hs_
  have N11 := Lib.hid hn_
  clear hn_ hs_
  go_wp2_with fail
  have s0_11 := s0_10.trans (hb11.mono s0_10.size)
  refine (toInt64SS_any a2 n2 c2 vs w11 ((HS2'.out.below s0_11 (Nat.le_refl _)).more s0_11.size) hm2 HQ2.out).mono ?_
  rintro e w12 ⟨g12, rfl, hg12, hn_, hs_, hb12⟩
  have H12 := Lib.hid hs_
  have N12 := Lib.hid hn_
  clear hn_ hs_
  have s10_11 := hb11
  have s10_12 := s10_11.trans (hb12.mono s10_11.size)
  have kx9_0 := (BXx9.out.below s10_12 BXx9.out.lt).cell 0
  have kx9_1 := (BXx9.out.below s10_12 BXx9.out.lt).cell 1
  have kx9_2 := (BXx9.out.below s10_12 BXx9.out.lt).cell 2
  have kx9_3 := (BXx9.out.below s10_12 BXx9.out.lt).cell 3
  have kx9_4 := (BXx9.out.below s10_12 BXx9.out.lt).cell 4
  go_wp2_with fail
  clear kx9_0 kx9_1 kx9_2 kx9_3 kx9_4
  have s9_10 := hb10
  have s9_11 := s9_10.trans (hb11.mono s9_10.size)
  have s9_12 := s9_11.trans (hb12.mono s9_11.size)
  have s11_12 := hb12
  refine (iFitL_any _ _ _ _ _ _ cS cT cP cQ cR (some ⟨g11, 0, none⟩) n1 n1 ws (some ⟨g12, 0, none⟩) n2 n2 vs w12 ((H9.out.below s9_12 (Nat.le_refl _)).more s9_12.size) ⟨_, _, _, _, _, _, _, _, _, _, _, rfl, Nat.le_refl _, Nat.le_trans hm0_2 (by decide), Nat.le_refl _, Nat.le_trans hm0_3 (by decide), Nat.le_refl _, Nat.le_trans hm0_4 (by decide)⟩ ((H11.out.below s11_12 (Nat.le_refl _)).more s11_12.size) H12.out hn1 hn2 hs1 hs2).mono ?_
  rintro e w13 ⟨v_13_0, rfl, hv13_0, hb13⟩
  have hR13_0 := Lib.hid hv13_0; clear hv13_0
  rw [← Hrv0_0.out, ← Hrv0_1.out, ← Hrv0_2.out, ← Hrv0_3.out, ← Hrv0_4.out] at hR13_0
  rw [← Hrv1.out]
  obtain ⟨rA13_2, rC13_2, rA13_3, rC13_3, rA13_4, rC13_4, hu⟩ := hR13_0.out.shape
  subst hu
  obtain ⟨w14, hwb⟩ : ∃ x, x = w13.alloc (.cells ([.int .i64 rv0_0, .int .i64 rv0_1, .slice rA13_2 rv0_2.length rC13_2, .slice rA13_3 rv0_3.length rC13_3, .slice rA13_4 rv0_4.length rC13_4] : List Value).toArray 48) := ⟨_, rfl⟩
  have bq := Row.new w13 48 [.int .i64 rv0_0, .int .i64 rv0_1, .slice rA13_2 rv0_2.length rC13_2, .slice rA13_3 rv0_3.length rC13_3, .slice rA13_4 rv0_4.length rC13_4]
  have hb14 : Below w13.heap.size w13 (w13.alloc (.cells ([.int .i64 rv0_0, .int .i64 rv0_1, .slice rA13_2 rv0_2.length rC13_2, .slice rA13_3 rv0_3.length rC13_3, .slice rA13_4 rv0_4.length rC13_4] : List Value).toArray 48)) := (Below.refl _ _).alloc (Nat.le_refl _) _
  rw [← hwb] at bq hb14
  have BXx13 := Lib.hid bq; clear bq
  have s8_9 := hb9
  have s8_10 := s8_9.trans (hb10.mono s8_9.size)
  have s8_11 := s8_10.trans (hb11.mono s8_10.size)
  have s8_12 := s8_11.trans (hb12.mono s8_11.size)
  have s8_13 := s8_12.trans (hb13.mono s8_12.size)
  have s8_14 := s8_13.trans (hb14.mono s8_13.size)
  have kx7_0 := (BXx7.out.below s8_14 BXx7.out.lt).cell 0
  have kx7_1 := (BXx7.out.below s8_14 BXx7.out.lt).cell 1
  have kx7_2 := (BXx7.out.below s8_14 BXx7.out.lt).cell 2
  have kx7_3 := (BXx7.out.below s8_14 BXx7.out.lt).cell 3
  have kx7_4 := (BXx7.out.below s8_14 BXx7.out.lt).cell 4
  rw [hwb] at kx7_0 kx7_1 kx7_2 kx7_3 kx7_4
  go_wp2_with fail
  clear kx7_0 kx7_1 kx7_2 kx7_3 kx7_4
  change Calls _ _ _ (w13.alloc (.cells ([.int .i64 rv0_0, .int .i64 rv0_1, .slice rA13_2 rv0_2.length rC13_2, .slice rA13_3 rv0_3.length rC13_3, .slice rA13_4 rv0_4.length rC13_4] : List Value).toArray 48)) _
  rw [← hwb]
  clear hwb
  have s13_14 := hb14
  have s7_8 := hb8
  have s7_9 := s7_8.trans (hb9.mono s7_8.size)
  have s7_10 := s7_9.trans (hb10.mono s7_9.size)
  have s7_11 := s7_10.trans (hb11.mono s7_10.size)
  have s7_12 := s7_11.trans (hb12.mono s7_11.size)
  have s7_13 := s7_12.trans (hb13.mono s7_12.size)
  have s7_14 := s7_13.trans (hb14.mono s7_13.size)
  have hOB0_24 : rv0_2.length ≤ 4294967296 := by omega
  have hOB0_34 : rv0_3.length ≤ 4294967296 := by omega
  have hOB0_44 : rv0_4.length ≤ 4294967296 := by omega
  refine (eqOwnModel (.agg #[.int .i64 rv0_0, .int .i64 rv0_1, .slice rA13_2 rv0_2.length rC13_2, .slice rA13_3 rv0_3.length rC13_3, .slice rA13_4 rv0_4.length rC13_4]) (.agg #[.int .i64 rv0_0, .int .i64 rv0_1, .slice rA7_2 rv0_2.length rC7_2, .slice rA7_3 rv0_3.length rC7_3, .slice rA7_4 rv0_4.length rC7_4]) rv0_0 rv0_1 rv0_2 rv0_3 rv0_4 _ _ _ _ w14 (hR13_0.out.below s13_14 (Nat.le_refl _)) (hR7_0.out.below s7_14 (Nat.le_refl _)) hOB0_24 hOB0_34 hOB0_44).mono ?_
  rintro e w15 ⟨rfl, hb15⟩
  have s0_12 := s0_11.trans (hb12.mono s0_11.size)
  have s0_13 := s0_12.trans (hb13.mono s0_12.size)
  have s0_14 := s0_13.trans (hb14.mono s0_13.size)
  have s0_15 := s0_14.trans (hb15.mono s0_14.size)
  have kc0_0 := (BX0.out.below s0_15 BX0.out.lt).cell 0
  have kc0_1 := (BX0.out.below s0_15 BX0.out.lt).cell 1
  have kc0_2 := (BX0.out.below s0_15 BX0.out.lt).cell 2
  have kc0_3 := (BX0.out.below s0_15 BX0.out.lt).cell 3
  have kc0_4 := (BX0.out.below s0_15 BX0.out.lt).cell 4
  have s10_13 := s10_12.trans (hb13.mono s10_12.size)
  have s10_14 := s10_13.trans (hb14.mono s10_13.size)
  have s10_15 := s10_14.trans (hb15.mono s10_14.size)
  have kx9_0 := (BXx9.out.below s10_15 BXx9.out.lt).cell 0
  have kx9_1 := (BXx9.out.below s10_15 BXx9.out.lt).cell 1
  have kx9_2 := (BXx9.out.below s10_15 BXx9.out.lt).cell 2
  have kx9_3 := (BXx9.out.below s10_15 BXx9.out.lt).cell 3
  have kx9_4 := (BXx9.out.below s10_15 BXx9.out.lt).cell 4
  go_wp2_with fail
  have s9_13 := s9_12.trans (hb13.mono s9_12.size)
  have s9_14 := s9_13.trans (hb14.mono s9_13.size)
  have s9_15 := s9_14.trans (hb15.mono s9_14.size)
  have hsrc := Lib.hid ((HS0'.out.below s0_15 (Nat.le_refl _)).more s0_15.size)
  have hcop := Lib.hid ((H9.out.below s9_15 (Nat.le_refl _)).more s9_15.size)
  have hcells : ∀ x : World, Below w15.heap.size w15 x → (x.cell? ⟨w.heap.size, 0, none⟩ = some (.int .i64 cS) ∧ x.cell? ⟨w.heap.size, 1, none⟩ = some (.int .i64 cT) ∧ x.cell? ⟨w.heap.size, 2, none⟩ = some (.slice a0_2 n0_2 c0_2) ∧ x.cell? ⟨w.heap.size, 3, none⟩ = some (.slice a0_3 n0_3 c0_3) ∧ x.cell? ⟨w.heap.size, 4, none⟩ = some (.slice a0_4 n0_4 c0_4) ∧ x.cell? ⟨w9.heap.size, 0, none⟩ = some (.int .i64 cS) ∧ x.cell? ⟨w9.heap.size, 1, none⟩ = some (.int .i64 cT) ∧ x.cell? ⟨w9.heap.size, 2, none⟩ = some (.slice (some ⟨ga9_2, 0, none⟩) cP.length cP.length) ∧ x.cell? ⟨w9.heap.size, 3, none⟩ = some (.slice (some ⟨ga9_3, 0, none⟩) cQ.length cQ.length) ∧ x.cell? ⟨w9.heap.size, 4, none⟩ = some (.slice (some ⟨ga9_4, 0, none⟩) cR.length cR.length)) := by
    intro x hx
    have ra := (BX0.out.below s0_15 BX0.out.lt)
    have rx := (BXx9.out.below s10_15 BXx9.out.lt)
    have ra' := ra.below hx ra.lt
    have rx' := rx.below hx rx.lt
    exact ⟨ra'.cell 0, ra'.cell 1, ra'.cell 2, ra'.cell 3, ra'.cell 4, rx'.cell 0, rx'.cell 1, rx'.cell 2, rx'.cell 3, rx'.cell 4⟩
  have hcells := Lib.hid hcells
  have hkeep : Hid (∀ x y : World, Below w15.heap.size w15 x → Below x.heap.size x y → (Below w15.heap.size w15 y ∧ y.cell? ⟨w.heap.size, 0, none⟩ = some (.int .i64 cS) ∧ y.cell? ⟨w.heap.size, 1, none⟩ = some (.int .i64 cT) ∧ y.cell? ⟨w.heap.size, 2, none⟩ = some (.slice a0_2 n0_2 c0_2) ∧ y.cell? ⟨w.heap.size, 3, none⟩ = some (.slice a0_3 n0_3 c0_3) ∧ y.cell? ⟨w.heap.size, 4, none⟩ = some (.slice a0_4 n0_4 c0_4) ∧ y.cell? ⟨w9.heap.size, 0, none⟩ = some (.int .i64 cS) ∧ y.cell? ⟨w9.heap.size, 1, none⟩ = some (.int .i64 cT) ∧ y.cell? ⟨w9.heap.size, 2, none⟩ = some (.slice (some ⟨ga9_2, 0, none⟩) cP.length cP.length) ∧ y.cell? ⟨w9.heap.size, 3, none⟩ = some (.slice (some ⟨ga9_3, 0, none⟩) cQ.length cQ.length) ∧ y.cell? ⟨w9.heap.size, 4, none⟩ = some (.slice (some ⟨ga9_4, 0, none⟩) cR.length cR.length))) := by
    intro x y h1 h2
    have h3 := h1.trans (h2.mono h1.size)
    exact ⟨h3, hcells.out y h3⟩
  have hfrom := hcells.out w15 (Below.refl _ _)
  have hdr : Below w15.heap.size w15 w15.drew := Below.drew (Below.refl _ _)
  go_region_held3 (fun x => Below w15.heap.size w15 x ∧ x.cell? ⟨w.heap.size, 0, none⟩ = some (.int .i64 cS) ∧ x.cell? ⟨w.heap.size, 1, none⟩ = some (.int .i64 cT) ∧ x.cell? ⟨w.heap.size, 2, none⟩ = some (.slice a0_2 n0_2 c0_2) ∧ x.cell? ⟨w.heap.size, 3, none⟩ = some (.slice a0_3 n0_3 c0_3) ∧ x.cell? ⟨w.heap.size, 4, none⟩ = some (.slice a0_4 n0_4 c0_4) ∧ x.cell? ⟨w9.heap.size, 0, none⟩ = some (.int .i64 cS) ∧ x.cell? ⟨w9.heap.size, 1, none⟩ = some (.int .i64 cT) ∧ x.cell? ⟨w9.heap.size, 2, none⟩ = some (.slice (some ⟨ga9_2, 0, none⟩) cP.length cP.length) ∧ x.cell? ⟨w9.heap.size, 3, none⟩ = some (.slice (some ⟨ga9_3, 0, none⟩) cQ.length cQ.length) ∧ x.cell? ⟨w9.heap.size, 4, none⟩ = some (.slice (some ⟨ga9_4, 0, none⟩) cR.length cR.length)) (first | assumption | go_keep)
    (first
      | (go_at_call 21; refine (toModel_any _ cS cT cP cQ cR _ ?_ hm0_2 hm0_3 hm0_4).mono ?_; (exact (hsrc.out.below (by first | assumption | (apply And.left; assumption)) (Nat.le_refl _)).more (Below.size (by first | assumption | (apply And.left; assumption)))); rintro e wz ⟨uz, rfl, hrz, hbz⟩; have hkz := (fun h => hkeep.out _ _ h hbz) (by first | assumption | (apply And.left; assumption)); obtain ⟨gb2, gb3, gb4, hu⟩ := hrz.shape; subst hu; have HCz := Lib.hid hrz.cg; clear hrz)
      | (go_at_call 24; refine (eqModel_same _ _ cS cT cP cQ cR _ ?_ ?_ hm0_2 hm0_3 hm0_4).mono ?_; (exact (hcop.out.below (by first | assumption | (apply And.left; assumption)) (Nat.le_refl _)).more (Below.size (by first | assumption | (apply And.left; assumption)))); (exact HCz.out); rintro e w16 ⟨rfl, hbz2⟩; have hk2 := (fun h => hkeep.out _ _ h hbz2) (by first | assumption | (apply And.left; assumption))))
  have hb16 : Below w15.heap.size w15 w16 := (by first | assumption | (apply And.left; assumption))
  clear hfrom hdr hkeep hcells hsrc hcop kc0_0 kc0_1 kc0_2 kc0_3 kc0_4 kx9_0 kx9_1 kx9_2 kx9_3 kx9_4
  go_wp2_with fail
  have s0_16 := s0_15.trans (hb16.mono s0_15.size)
  refine (toInt64SS_any a1 n1 c1 ws w16 ((HS1'.out.below s0_16 (Nat.le_refl _)).more s0_16.size) hm1 HQ1.out).mono ?_
  rintro e w17 ⟨g17, rfl, hg17, hn_, hs_, hb17⟩
  have H17 := Lib.hid hs_
  have N17 := Lib.hid hn_
  clear hn_ hs_
  go_wp2_with fail
  have s11_13 := s11_12.trans (hb13.mono s11_12.size)
  have s11_14 := s11_13.trans (hb14.mono s11_13.size)
  have s11_15 := s11_14.trans (hb15.mono s11_14.size)
  have s11_16 := s11_15.trans (hb16.mono s11_15.size)
  have s11_17 := s11_16.trans (hb17.mono s11_16.size)
  refine (eqInt64SS_any _ n1 n1 ws _ n1 n1 ws w17 ((H11.out.below s11_17 (Nat.le_refl _)).more s11_17.size) H17.out hm1 hm1 HQ1.out HQ1.out).mono ?_
  rintro e w18 ⟨rfl, hb18⟩
  have hd18 : decide (ws = ws) = true := decide_eq_true rfl
  go_wp2_with fail
  have s0_17 := s0_16.trans (hb17.mono s0_16.size)
  have s0_18 := s0_17.trans (hb18.mono s0_17.size)
  refine (toInt64SS_any a2 n2 c2 vs w18 ((HS2'.out.below s0_18 (Nat.le_refl _)).more s0_18.size) hm2 HQ2.out).mono ?_
  rintro e w19 ⟨g19, rfl, hg19, hn_, hs_, hb19⟩
  have H19 := Lib.hid hs_
  have N19 := Lib.hid hn_
  clear hn_ hs_
  go_wp2_with fail
  have s12_13 := hb13
  have s12_14 := s12_13.trans (hb14.mono s12_13.size)
  have s12_15 := s12_14.trans (hb15.mono s12_14.size)
  have s12_16 := s12_15.trans (hb16.mono s12_15.size)
  have s12_17 := s12_16.trans (hb17.mono s12_16.size)
  have s12_18 := s12_17.trans (hb18.mono s12_17.size)
  have s12_19 := s12_18.trans (hb19.mono s12_18.size)
  refine (eqInt64SS_any _ n2 n2 vs _ n2 n2 vs w19 ((H12.out.below s12_19 (Nat.le_refl _)).more s12_19.size) H19.out hm2 hm2 HQ2.out HQ2.out).mono ?_
  rintro e w20 ⟨rfl, hb20⟩
  have hd20 : decide (vs = vs) = true := decide_eq_true rfl
  have s9_16 := s9_15.trans (hb16.mono s9_15.size)
  have s9_17 := s9_16.trans (hb17.mono s9_16.size)
  have s9_18 := s9_17.trans (hb18.mono s9_17.size)
  have s9_19 := s9_18.trans (hb19.mono s9_18.size)
  have s9_20 := s9_19.trans (hb20.mono s9_19.size)
  have M9 := Lib.hid (N9.out.below s9_20 (Nat.le_refl _))
  have s11_18 := s11_17.trans (hb18.mono s11_17.size)
  have s11_19 := s11_18.trans (hb19.mono s11_18.size)
  have s11_20 := s11_19.trans (hb20.mono s11_19.size)
  have M11 := Lib.hid (N11.out.below s11_20 (Nat.le_refl _))
  have s12_20 := s12_19.trans (hb20.mono s12_19.size)
  have M12 := Lib.hid (N12.out.below s12_20 (Nat.le_refl _))
  have s13_15 := s13_14.trans (hb15.mono s13_14.size)
  have s13_16 := s13_15.trans (hb16.mono s13_15.size)
  have s13_17 := s13_16.trans (hb17.mono s13_16.size)
  have s13_18 := s13_17.trans (hb18.mono s13_17.size)
  have s13_19 := s13_18.trans (hb19.mono s13_18.size)
  have s13_20 := s13_19.trans (hb20.mono s13_19.size)
  have hRm0 := Lib.hid (hR13_0.out.below s13_20 (Nat.le_refl _))
  have s10_16 := s10_15.trans (hb16.mono s10_15.size)
  have s10_17 := s10_16.trans (hb17.mono s10_16.size)
  have s10_18 := s10_17.trans (hb18.mono s10_17.size)
  have s10_19 := s10_18.trans (hb19.mono s10_18.size)
  have s10_20 := s10_19.trans (hb20.mono s10_19.size)
  have kx9_0 := (BXx9.out.below s10_20 BXx9.out.lt).cell 0
  have kx9_1 := (BXx9.out.below s10_20 BXx9.out.lt).cell 1
  have kx9_2 := (BXx9.out.below s10_20 BXx9.out.lt).cell 2
  have kx9_3 := (BXx9.out.below s10_20 BXx9.out.lt).cell 3
  have kx9_4 := (BXx9.out.below s10_20 BXx9.out.lt).cell 4
  go_wp2_with fail
  clear kx9_0 kx9_1 kx9_2 kx9_3 kx9_4
  refine (markModel_any _ cS cT cP cQ cR w8.heap.size w9.heap.size (1) w20 M9.out hs0_2 hs0_3 hs0_4 (by omega) (by omega) (Nat.le_trans (Nat.le_trans (Nat.le_trans (Nat.le_trans (Nat.le_trans (Nat.le_trans (Nat.le_trans (Nat.le_trans (Nat.le_trans (Nat.le_trans hb10.size hb11.size) hb12.size) hb13.size) hb14.size) hb15.size) hb16.size) hb17.size) hb18.size) hb19.size) hb20.size)).mono ?_
  rintro e w21 ⟨rfl, -, hk21⟩
  have hkb21 := (hk21.below (Nat.le_trans (Nat.le_trans (Nat.le_trans (Nat.le_trans (Nat.le_trans (Nat.le_trans (Nat.le_trans (Nat.le_trans (Nat.le_trans (Nat.le_trans (Nat.le_trans hb9.size hb10.size) hb11.size) hb12.size) hb13.size) hb14.size) hb15.size) hb16.size) hb17.size) hb18.size) hb19.size) hb20.size)).mono (Nat.le_refl _)
  have M11 := Lib.hid (M11.out.kp hk21 (Nat.le_trans hb10.size hg11))
  have M12 := Lib.hid (M12.out.kp hk21 (Nat.le_trans (Nat.le_trans hb10.size hb11.size) hg12))
  have hRm0 := Lib.hid (hRm0.out.kp hk21 (.inl (Nat.le_trans (Nat.le_trans hb10.size hb11.size) hb12.size)))
  have s8_15 := s8_14.trans (hb15.mono s8_14.size)
  have s8_16 := s8_15.trans (hb16.mono s8_15.size)
  have s8_17 := s8_16.trans (hb17.mono s8_16.size)
  have s8_18 := s8_17.trans (hb18.mono s8_17.size)
  have s8_19 := s8_18.trans (hb19.mono s8_18.size)
  have s8_20 := s8_19.trans (hb20.mono s8_19.size)
  have BY7_21 := Lib.hid (Row.kp (BXx7.out.below s8_20 BXx7.out.lt) hk21 (.inl (Nat.lt_of_lt_of_le BXx7.out.lt (Nat.le_refl _))))
  have BY9_21 := Lib.hid (Row.kp (BXx9.out.below s10_20 BXx9.out.lt) hk21 (.inr (Nat.le_refl _)))
  have s14_15 := hb15
  have s14_16 := s14_15.trans (hb16.mono s14_15.size)
  have s14_17 := s14_16.trans (hb17.mono s14_16.size)
  have s14_18 := s14_17.trans (hb18.mono s14_17.size)
  have s14_19 := s14_18.trans (hb19.mono s14_18.size)
  have s14_20 := s14_19.trans (hb20.mono s14_19.size)
  have BY13_21 := Lib.hid (Row.kp (BXx13.out.below s14_20 BXx13.out.lt) hk21 (.inr (Nat.le_trans (Nat.le_trans (Nat.le_trans hb10.size hb11.size) hb12.size) hb13.size)))
  go_wp2_with fail
  refine (markInt64SS_any g11 n1 n1 ws (1 + (cP.length : Int) + (cQ.length : Int) + (cR.length : Int)) w21 w10.heap.size w11.heap.size M11.out (HS1.out.len) hs1 (by omega) (by omega) hm1 hg11).mono ?_
  rintro e w22 ⟨rfl, hk22⟩
  have hkb22 := (hk22.below (Nat.le_trans (Nat.le_trans (Nat.le_trans (Nat.le_trans (Nat.le_trans (Nat.le_trans (Nat.le_trans (Nat.le_trans (Nat.le_trans (Nat.le_trans hb11.size hb12.size) hb13.size) hb14.size) hb15.size) hb16.size) hb17.size) hb18.size) hb19.size) hb20.size) hk21.2.2.2.1)).mono (Nat.le_trans hb9.size hb10.size)
  have M12 := Lib.hid (M12.out.kp hk22 (Nat.le_trans (Nat.le_refl _) hg12))
  have hRm0 := Lib.hid (hRm0.out.kp hk22 (.inl hb12.size))
  have BY7_22 := Lib.hid (Row.kp BY7_21.out hk22 (.inl (Nat.lt_of_lt_of_le BXx7.out.lt (Nat.le_trans hb9.size hb10.size))))
  have BY9_22 := Lib.hid (Row.kp BY9_21.out hk22 (.inl (Nat.lt_of_lt_of_le BXx9.out.lt (Nat.le_refl _))))
  have BY13_22 := Lib.hid (Row.kp BY13_21.out hk22 (.inr (Nat.le_trans hb12.size hb13.size)))
  go_wp2_with fail
  refine (markInt64SS_any g12 n2 n2 vs (1 + (cP.length : Int) + (cQ.length : Int) + (cR.length : Int) + (sumL ws : Int)) w22 w11.heap.size w12.heap.size M12.out (HS2.out.len) hs2 (by omega) (by omega) hm2 hg12).mono ?_
  rintro e w23 ⟨rfl, hk23⟩
  have hkb23 := (hk23.below (Nat.le_trans (Nat.le_trans (Nat.le_trans (Nat.le_trans (Nat.le_trans (Nat.le_trans (Nat.le_trans (Nat.le_trans (Nat.le_trans (Nat.le_trans hb12.size hb13.size) hb14.size) hb15.size) hb16.size) hb17.size) hb18.size) hb19.size) hb20.size) hk21.2.2.2.1) hk22.2.2.2.1)).mono (Nat.le_trans (Nat.le_trans hb9.size hb10.size) hb11.size)
  have hRm0 := Lib.hid (hRm0.out.kp hk23 (.inl (Nat.le_refl _)))
  have BY7_23 := Lib.hid (Row.kp BY7_22.out hk23 (.inl (Nat.lt_of_lt_of_le BXx7.out.lt (Nat.le_trans (Nat.le_trans hb9.size hb10.size) hb11.size))))
  have BY9_23 := Lib.hid (Row.kp BY9_22.out hk23 (.inl (Nat.lt_of_lt_of_le BXx9.out.lt hb11.size)))
  have BY13_23 := Lib.hid (Row.kp BY13_22.out hk23 (.inr hb13.size))
  have q1 : (0 : Int) ≤ 1 + (cP.length : Int) + (cQ.length : Int) + (cR.length : Int) + (sumL ws : Int) + (sumL vs : Int) := by omega
  have kx13_0 := BY13_23.out.cell 0
  have kx13_1 := BY13_23.out.cell 1
  have kx13_2 := BY13_23.out.cell 2
  have kx13_3 := BY13_23.out.cell 3
  have kx13_4 := BY13_23.out.cell 4
  have kx7_0 := BY7_23.out.cell 0
  have kx7_1 := BY7_23.out.cell 1
  have kx7_2 := BY7_23.out.cell 2
  have kx7_3 := BY7_23.out.cell 3
  have kx7_4 := BY7_23.out.cell 4
  go_wp2_with fail
  clear kx13_0 kx13_1 kx13_2 kx13_3 kx13_4 kx7_0 kx7_1 kx7_2 kx7_3 kx7_4
  have s7_15 := s7_14.trans (hb15.mono s7_14.size)
  have s7_16 := s7_15.trans (hb16.mono s7_15.size)
  have s7_17 := s7_16.trans (hb17.mono s7_16.size)
  have s7_18 := s7_17.trans (hb18.mono s7_17.size)
  have s7_19 := s7_18.trans (hb19.mono s7_18.size)
  have s7_20 := s7_19.trans (hb20.mono s7_19.size)
  have s7_21 := s7_20.trans (hkb21.mono s7_8.size)
  have s7_22 := s7_21.trans (hkb22.mono s7_8.size)
  have s7_23 := s7_22.trans (hkb23.mono s7_8.size)
  refine (eqOwnModel (.agg #[.int .i64 rv0_0, .int .i64 rv0_1, .slice rA13_2 rv0_2.length rC13_2, .slice rA13_3 rv0_3.length rC13_3, .slice rA13_4 rv0_4.length rC13_4]) (.agg #[.int .i64 rv0_0, .int .i64 rv0_1, .slice rA7_2 rv0_2.length rC7_2, .slice rA7_3 rv0_3.length rC7_3, .slice rA7_4 rv0_4.length rC7_4]) rv0_0 rv0_1 rv0_2 rv0_3 rv0_4 _ _ _ _ w23 hRm0.out (hR7_0.out.below s7_23 (Nat.le_refl _)) hOB0_24 hOB0_34 hOB0_44).mono ?_
  rintro e w24 ⟨rfl, hb24⟩
  have hRm0 := Lib.hid (hRm0.out.below hb24 (Nat.le_trans (Nat.le_trans (Nat.le_trans (Nat.le_trans (Nat.le_trans (Nat.le_trans (Nat.le_trans (Nat.le_trans (Nat.le_trans hb14.size hb15.size) hb16.size) hb17.size) hb18.size) hb19.size) hb20.size) hk21.2.2.2.1) hk22.2.2.2.1) hk23.2.2.2.1))
  have hszq : w12.heap.size ≤ w24.heap.size := (Nat.le_trans (Nat.le_trans (Nat.le_trans (Nat.le_trans (Nat.le_trans (Nat.le_trans (Nat.le_trans (Nat.le_trans (Nat.le_trans (Nat.le_trans (Nat.le_trans hb13.size hb14.size) hb15.size) hb16.size) hb17.size) hb18.size) hb19.size) hb20.size) hk21.2.2.2.1) hk22.2.2.2.1) hk23.2.2.2.1) hb24.size)
  have s23_24 := hb24
  have kx13_0 := (BY13_23.out.below s23_24 BY13_23.out.lt).cell 0
  have kx13_1 := (BY13_23.out.below s23_24 BY13_23.out.lt).cell 1
  have kx13_2 := (BY13_23.out.below s23_24 BY13_23.out.lt).cell 2
  have kx13_3 := (BY13_23.out.below s23_24 BY13_23.out.lt).cell 3
  have kx13_4 := (BY13_23.out.below s23_24 BY13_23.out.lt).cell 4
  go_wp2_with fail
  clear kx13_0 kx13_1 kx13_2 kx13_3 kx13_4
  refine (markModel_any (.agg #[.int .i64 rv0_0, .int .i64 rv0_1, .slice rA13_2 rv0_2.length rC13_2, .slice rA13_3 rv0_3.length rC13_3, .slice rA13_4 rv0_4.length rC13_4]) rv0_0 rv0_1 rv0_2 rv0_3 rv0_4 w12.heap.size w13.heap.size 1 w24 hRm0.out hOB0_2 hOB0_3 hOB0_4 (by omega) (by omega) (Nat.le_trans (Nat.le_trans (Nat.le_trans (Nat.le_trans (Nat.le_trans (Nat.le_trans (Nat.le_trans (Nat.le_trans (Nat.le_trans (Nat.le_trans hb14.size hb15.size) hb16.size) hb17.size) hb18.size) hb19.size) hb20.size) hk21.2.2.2.1) hk22.2.2.2.1) hk23.2.2.2.1) hb24.size)).mono ?_
  rintro e w25 ⟨rfl, hmk, hk25⟩
  have HM := Lib.hid hmk; clear hmk
  have hkb25 := hk25.below hszq
  have BY7_25 := Lib.hid (Row.kp (BY7_23.out.below s23_24 BY7_23.out.lt) hk25 (.inl (Nat.lt_of_lt_of_le BXx7.out.lt (Nat.le_trans (Nat.le_trans (Nat.le_trans hb9.size hb10.size) hb11.size) hb12.size))))
  have BY9_25 := Lib.hid (Row.kp (BY9_23.out.below s23_24 BY9_23.out.lt) hk25 (.inl (Nat.lt_of_lt_of_le BXx9.out.lt (Nat.le_trans hb11.size hb12.size))))
  have BY13_25 := Lib.hid (Row.kp (BY13_23.out.below s23_24 BY13_23.out.lt) hk25 (.inr (Nat.le_refl _)))
  have hkb25 := hkb25.mono (Nat.le_trans (Nat.le_trans (Nat.le_trans (Nat.le_trans hb8.size hb9.size) hb10.size) hb11.size) hb12.size)
  have kx13_0 := BY13_25.out.cell 0
  have kx13_1 := BY13_25.out.cell 1
  have kx13_2 := BY13_25.out.cell 2
  have kx13_3 := BY13_25.out.cell 3
  have kx13_4 := BY13_25.out.cell 4
  go_wp2_with fail
  clear kx13_0 kx13_1 kx13_2 kx13_3 kx13_4
  refine (heldModel_any (.agg #[.int .i64 rv0_0, .int .i64 rv0_1, .slice rA13_2 rv0_2.length rC13_2, .slice rA13_3 rv0_3.length rC13_3, .slice rA13_4 rv0_4.length rC13_4]) rv0_2 rv0_3 rv0_4 1 w25 HM.out hOB0_2 hOB0_3 hOB0_4 (by omega) (by omega)).mono ?_
  rintro e w26 ⟨rfl, hb26⟩
  have q2 : (0 : Int) ≤ 1 + (rv0_2.length : Int) + (rv0_3.length : Int) + (rv0_4.length : Int) := by omega
  have s0_19 := s0_18.trans (hb19.mono s0_18.size)
  have s0_20 := s0_19.trans (hb20.mono s0_19.size)
  have s0_21 := s0_20.trans (hkb21.mono s0_8.size)
  have s0_22 := s0_21.trans (hkb22.mono s0_8.size)
  have s0_23 := s0_22.trans (hkb23.mono s0_8.size)
  have s0_24 := s0_23.trans (hb24.mono s0_23.size)
  have s0_25 := s0_24.trans (hkb25.mono s0_7.size)
  have s0_26 := s0_25.trans (hb26.mono s0_25.size)
  have kc0_0 := (BX0.out.below s0_26 BX0.out.lt).cell 0
  have kc0_1 := (BX0.out.below s0_26 BX0.out.lt).cell 1
  have kc0_2 := (BX0.out.below s0_26 BX0.out.lt).cell 2
  have kc0_3 := (BX0.out.below s0_26 BX0.out.lt).cell 3
  have kc0_4 := (BX0.out.below s0_26 BX0.out.lt).cell 4
  go_wp2_with fail
  clear kc0_0 kc0_1 kc0_2 kc0_3 kc0_4
  refine (toModel_any (.agg #[.int .i64 cS, .int .i64 cT, .slice a0_2 n0_2 c0_2, .slice a0_3 n0_3 c0_3, .slice a0_4 n0_4 c0_4]) cS cT cP cQ cR w26 ((HS0'.out.below s0_26 (Nat.le_refl _)).more s0_26.size) hm0_2 hm0_3 hm0_4).mono ?_
  rintro e w27 ⟨u27, rfl, hr27, hb27⟩
  obtain ⟨ga27_2, ga27_3, ga27_4, hu⟩ := hr27.shape
  subst hu
  have H27 := Lib.hid hr27.cg
  have N27 := Lib.hid (hr27.cgm hm0_2 hm0_3 hm0_4); clear hr27
  go_wp2_with fail
  have s0_27 := s0_26.trans (hb27.mono s0_26.size)
  refine (toInt64SS_any a1 n1 c1 ws w27 ((HS1'.out.below s0_27 (Nat.le_refl _)).more s0_27.size) hm1 HQ1.out).mono ?_
  rintro e w28 ⟨g28, rfl, hg28, hn_, hs_, hb28⟩
  have H28 := Lib.hid hs_
  have N28 := Lib.hid hn_
  clear hn_ hs_
  go_wp2_with fail
  have s0_28 := s0_27.trans (hb28.mono s0_27.size)
  refine (toInt64SS_any a2 n2 c2 vs w28 ((HS2'.out.below s0_28 (Nat.le_refl _)).more s0_28.size) hm2 HQ2.out).mono ?_
  rintro e w29 ⟨g29, rfl, hg29, hn_, hs_, hb29⟩
  have H29 := Lib.hid hs_
  have N29 := Lib.hid hn_
  clear hn_ hs_
  go_wp2_with fail
  have s27_28 := hb28
  have s27_29 := s27_28.trans (hb29.mono s27_28.size)
  have s28_29 := hb29
  refine (iFitL_any _ _ _ _ _ _ cS cT cP cQ cR (some ⟨g28, 0, none⟩) n1 n1 ws (some ⟨g29, 0, none⟩) n2 n2 vs w29 ((H27.out.below s27_29 (Nat.le_refl _)).more s27_29.size) ⟨_, _, _, _, _, _, _, _, _, _, _, rfl, Nat.le_refl _, Nat.le_trans hm0_2 (by decide), Nat.le_refl _, Nat.le_trans hm0_3 (by decide), Nat.le_refl _, Nat.le_trans hm0_4 (by decide)⟩ ((H28.out.below s28_29 (Nat.le_refl _)).more s28_29.size) H29.out hn1 hn2 hs1 hs2).mono ?_
  rintro e w30 ⟨v_30_0, rfl, hv30_0, hb30⟩
  have hR30_0 := Lib.hid hv30_0; clear hv30_0
  rw [← Hrv0_0.out, ← Hrv0_1.out, ← Hrv0_2.out, ← Hrv0_3.out, ← Hrv0_4.out] at hR30_0
  rw [← Hrv1.out]
  obtain ⟨rA30_2, rC30_2, rA30_3, rC30_3, rA30_4, rC30_4, hu⟩ := hR30_0.out.shape
  subst hu
  obtain ⟨w31, hwb⟩ : ∃ x, x = w30.alloc (.cells ([.int .i64 rv0_0, .int .i64 rv0_1, .slice rA30_2 rv0_2.length rC30_2, .slice rA30_3 rv0_3.length rC30_3, .slice rA30_4 rv0_4.length rC30_4] : List Value).toArray 48) := ⟨_, rfl⟩
  have bq := Row.new w30 48 [.int .i64 rv0_0, .int .i64 rv0_1, .slice rA30_2 rv0_2.length rC30_2, .slice rA30_3 rv0_3.length rC30_3, .slice rA30_4 rv0_4.length rC30_4]
  have hb31 : Below w30.heap.size w30 (w30.alloc (.cells ([.int .i64 rv0_0, .int .i64 rv0_1, .slice rA30_2 rv0_2.length rC30_2, .slice rA30_3 rv0_3.length rC30_3, .slice rA30_4 rv0_4.length rC30_4] : List Value).toArray 48)) := (Below.refl _ _).alloc (Nat.le_refl _) _
  rw [← hwb] at bq hb31
  have BXx30 := Lib.hid bq; clear bq
  have s25_26 := hb26
  have s25_27 := s25_26.trans (hb27.mono s25_26.size)
  have s25_28 := s25_27.trans (hb28.mono s25_27.size)
  have s25_29 := s25_28.trans (hb29.mono s25_28.size)
  have s25_30 := s25_29.trans (hb30.mono s25_29.size)
  have s25_31 := s25_30.trans (hb31.mono s25_30.size)
  have kx7_0 := (BY7_25.out.below s25_31 BY7_25.out.lt).cell 0
  have kx7_1 := (BY7_25.out.below s25_31 BY7_25.out.lt).cell 1
  have kx7_2 := (BY7_25.out.below s25_31 BY7_25.out.lt).cell 2
  have kx7_3 := (BY7_25.out.below s25_31 BY7_25.out.lt).cell 3
  have kx7_4 := (BY7_25.out.below s25_31 BY7_25.out.lt).cell 4
  rw [hwb] at kx7_0 kx7_1 kx7_2 kx7_3 kx7_4
  go_wp2_with fail
  clear kx7_0 kx7_1 kx7_2 kx7_3 kx7_4
  change Calls _ _ _ (w30.alloc (.cells ([.int .i64 rv0_0, .int .i64 rv0_1, .slice rA30_2 rv0_2.length rC30_2, .slice rA30_3 rv0_3.length rC30_3, .slice rA30_4 rv0_4.length rC30_4] : List Value).toArray 48)) _
  rw [← hwb]
  clear hwb
  have s30_31 := hb31
  have s7_24 := s7_23.trans (hb24.mono s7_23.size)
  have s7_25 := s7_24.trans (hkb25.mono (Nat.le_refl _))
  have s7_26 := s7_25.trans (hb26.mono s7_25.size)
  have s7_27 := s7_26.trans (hb27.mono s7_26.size)
  have s7_28 := s7_27.trans (hb28.mono s7_27.size)
  have s7_29 := s7_28.trans (hb29.mono s7_28.size)
  have s7_30 := s7_29.trans (hb30.mono s7_29.size)
  have s7_31 := s7_30.trans (hb31.mono s7_30.size)
  refine (eqOwnModel (.agg #[.int .i64 rv0_0, .int .i64 rv0_1, .slice rA30_2 rv0_2.length rC30_2, .slice rA30_3 rv0_3.length rC30_3, .slice rA30_4 rv0_4.length rC30_4]) (.agg #[.int .i64 rv0_0, .int .i64 rv0_1, .slice rA7_2 rv0_2.length rC7_2, .slice rA7_3 rv0_3.length rC7_3, .slice rA7_4 rv0_4.length rC7_4]) rv0_0 rv0_1 rv0_2 rv0_3 rv0_4 _ _ _ _ w31 (hR30_0.out.below s30_31 (Nat.le_refl _)) (hR7_0.out.below s7_31 (Nat.le_refl _)) hOB0_24 hOB0_34 hOB0_44).mono ?_
  rintro e w32 ⟨rfl, hb32⟩
  have s25_32 := s25_31.trans (hb32.mono s25_31.size)
  have kx13_0 := (BY13_25.out.below s25_32 BY13_25.out.lt).cell 0
  have kx13_1 := (BY13_25.out.below s25_32 BY13_25.out.lt).cell 1
  have kx13_2 := (BY13_25.out.below s25_32 BY13_25.out.lt).cell 2
  have kx13_3 := (BY13_25.out.below s25_32 BY13_25.out.lt).cell 3
  have kx13_4 := (BY13_25.out.below s25_32 BY13_25.out.lt).cell 4
  go_wp2_with fail
  clear kx13_0 kx13_1 kx13_2 kx13_3 kx13_4
  refine (heldModel_any (.agg #[.int .i64 rv0_0, .int .i64 rv0_1, .slice rA13_2 rv0_2.length rC13_2, .slice rA13_3 rv0_3.length rC13_3, .slice rA13_4 rv0_4.length rC13_4]) rv0_2 rv0_3 rv0_4 1 w32 (HM.out.below s25_32 (Nat.le_refl _)) hOB0_2 hOB0_3 hOB0_4 (by omega) (by omega)).mono ?_
  rintro e w33 ⟨rfl, hb33⟩
  go_wp2_with fail
  go_ret
  have s0_29 := s0_28.trans (hb29.mono s0_28.size)
  have s0_30 := s0_29.trans (hb30.mono s0_29.size)
  have s0_31 := s0_30.trans (hb31.mono s0_30.size)
  have s0_32 := s0_31.trans (hb32.mono s0_31.size)
  have s0_33 := s0_32.trans (hb33.mono s0_32.size)
  exact ⟨rfl, BXB.out.trans (s0_33.mono BXB.out.size)⟩
end Go.Proofs.Ytkfmjnefbimecaa.fnExactFitLetters
