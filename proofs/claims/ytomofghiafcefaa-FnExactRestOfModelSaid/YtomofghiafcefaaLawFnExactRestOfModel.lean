/- FnExactRestOfModel: the walk: the law returns true. -/
import Derived.Test.YtomofghiafcefaaRsL
import Derived.Test.YtomofghiafcefaaModelSt
import Derived.Test.YtomofghiafcefaaKp
import Derived.Test.YtomofghiafcefaaModelOw
import Derived.Deep.RegionHeld3
import Derived.Deep.RegionWith
namespace Go.Proofs.Ytomofghiafcefaa.fnExactRestOfModel
open Go.RowKit
set_option linter.unusedVariables false
set_option maxHeartbeats 4000000 in
theorem walk (cS : Int) (cT : Int) (a0_2 : Option Addr) (n0_2 c0_2 : Nat) (cP : List F32) (a0_3 : Option Addr) (n0_3 c0_3 : Nat) (cQ : List F32) (a0_4 : Option Addr) (n0_4 c0_4 : Nat) (cR : List F32) (nearN : Nat) (most : Int) (w : World) (wf0_0 : (Lit.int .i64 cS).wf = true) (wf0_1 : (Lit.int .i64 cT).wf = true) (wf0_2 : n0_2 ≤ 9223372036854775807 ∧ SlF w w.heap.size a0_2 n0_2 cP) (wf0_3 : n0_3 ≤ 9223372036854775807 ∧ SlF w w.heap.size a0_3 n0_3 cQ) (wf0_4 : n0_4 ≤ 9223372036854775807 ∧ SlF w w.heap.size a0_4 n0_4 cR) (wf1 : (Lit.float .f32 nearN).wf = true) (wf2 : (Lit.int .i64 most).wf = true) :
    Calls Try.prog 3 #[.agg #[.int .i64 cS, .int .i64 cT, .slice a0_2 n0_2 c0_2, .slice a0_3 n0_3 c0_3, .slice a0_4 n0_4 c0_4], .float .f32 nearN, .int .i64 most] w fun e w' => e = .returned (.bool true) ∧ Below w.heap.size w w' := by
  obtain ⟨near, rfl⟩ : ∃ x : F32, x.b = nearN := ⟨⟨nearN, by simpa [Lit.wf] using wf1⟩, rfl⟩
  obtain ⟨hx0_2, hS0_2⟩ := wf0_2
  have hy0_2 := hS0_2.len
  obtain ⟨hx0_3, hS0_3⟩ := wf0_3
  have hy0_3 := hS0_3.len
  obtain ⟨hx0_4, hS0_4⟩ := wf0_4
  have hy0_4 := hS0_4.len
  have hC0 : Md w w.heap.size (.agg #[.int .i64 cS, .int .i64 cT, .slice a0_2 n0_2 c0_2, .slice a0_3 n0_3 c0_3, .slice a0_4 n0_4 c0_4]) cS cT cP cQ cR := ⟨_, _, _, _, _, _, _, _, _, rfl, hS0_2, hS0_3, hS0_4⟩
  rw [← hy0_2] at hx0_2
  rw [← hy0_3] at hx0_3
  rw [← hy0_4] at hx0_4
  clear hS0_2 hy0_2 hS0_3 hy0_3 hS0_4 hy0_4
  have HS0 := Lib.hid hC0; clear hC0
  have bx0 := Row.new (w) 24 [.int .i64 cS, .int .i64 cT, .slice a0_2 n0_2 c0_2, .slice a0_3 n0_3 c0_3, .slice a0_4 n0_4 c0_4]
  have bxb : Below w.heap.size w ((w).alloc (.cells ([.int .i64 cS, .int .i64 cT, .slice a0_2 n0_2 c0_2, .slice a0_3 n0_3 c0_3, .slice a0_4 n0_4 c0_4] : List Value).toArray 24)) := (Below.refl _ _).alloc (Nat.le_refl _) _
  have BX0 := Lib.hid bx0; clear bx0
  have BXB := Lib.hid bxb; clear bxb
  go_enter Try.func3, Try.ntmps3
  go_wp2_with fail
  obtain ⟨wb, hwb⟩ : ∃ x, x = (w).alloc (.cells ([.int .i64 cS, .int .i64 cT, .slice a0_2 n0_2 c0_2, .slice a0_3 n0_3 c0_3, .slice a0_4 n0_4 c0_4] : List Value).toArray 24) := ⟨_, rfl⟩
  rw [← hwb] at BX0
  rw [← hwb] at BXB
  change Calls _ _ _ ((w).alloc (.cells ([.int .i64 cS, .int .i64 cT, .slice a0_2 n0_2 c0_2, .slice a0_3 n0_3 c0_3, .slice a0_4 n0_4 c0_4] : List Value).toArray 24)) _
  rw [← hwb]
  clear hwb
  have HS0' := Lib.hid ((HS0.out.below BXB.out (Nat.le_refl _)).more BXB.out.size)
  refine (szModel_any (.agg #[.int .i64 cS, .int .i64 cT, .slice a0_2 n0_2 c0_2, .slice a0_3 n0_3 c0_3, .slice a0_4 n0_4 c0_4]) cS cT cP cQ cR 1048576 wb HS0'.out (by omega) (by omega) hx0_2 hx0_3 hx0_4).mono ?_
  rintro e w1 ⟨y0, rfl, hy0_0, hy1_0, hyn0, hb1⟩
  have s0_1 := hb1
  by_cases hneg : y0 < 0
  · clear hyn0
    go_wp2_with fail
    go_ret
    exact ⟨rfl, BXB.out.trans (s0_1.mono BXB.out.size)⟩
  have hyq0 : 0 ≤ y0 := by omega
  obtain ⟨hs0_2, hs0_3, hs0_4⟩ := hyn0 hyq0
  have hm0_2 : cP.length ≤ 4294967296 := by omega
  have hm0_3 : cQ.length ≤ 4294967296 := by omega
  have hm0_4 : cR.length ≤ 4294967296 := by omega
  clear hyn0 hneg
  have hOB0 : (roL (rsR cS cT cP cQ cR near most)).length ≤ 1048576 := roL_len cS cT cP cQ cR near most
  obtain ⟨rv0, hrv0⟩ : ∃ x, x = roL (rsR cS cT cP cQ cR near most) := ⟨_, rfl⟩
  rw [← hrv0] at hOB0
  obtain ⟨rv1, hrv1⟩ : ∃ x, x = roK (rsR cS cT cP cQ cR near most) := ⟨_, rfl⟩
  obtain ⟨rv2, hrv2⟩ : ∃ x, x = roB (rsR cS cT cP cQ cR near most) := ⟨_, rfl⟩
  have Hrv0 := Lib.hid hrv0; clear hrv0
  have Hrv1 := Lib.hid hrv1; clear hrv1
  have Hrv2 := Lib.hid hrv2; clear hrv2
  have kc0_0 := (BX0.out.below s0_1 BX0.out.lt).cell 0
  have kc0_1 := (BX0.out.below s0_1 BX0.out.lt).cell 1
  have kc0_2 := (BX0.out.below s0_1 BX0.out.lt).cell 2
  have kc0_3 := (BX0.out.below s0_1 BX0.out.lt).cell 3
  have kc0_4 := (BX0.out.below s0_1 BX0.out.lt).cell 4
  go_wp2_with fail
  clear kc0_0 kc0_1 kc0_2 kc0_3 kc0_4
  refine (toModel_any (.agg #[.int .i64 cS, .int .i64 cT, .slice a0_2 n0_2 c0_2, .slice a0_3 n0_3 c0_3, .slice a0_4 n0_4 c0_4]) cS cT cP cQ cR w1 ((HS0'.out.below s0_1 (Nat.le_refl _)).more s0_1.size) hm0_2 hm0_3 hm0_4).mono ?_
  rintro e w2 ⟨u2, rfl, hr2, hb2⟩
  obtain ⟨ga2_2, ga2_3, ga2_4, hu⟩ := hr2.shape
  subst hu
  have H2 := Lib.hid hr2.cg
  have N2 := Lib.hid (hr2.cgm hm0_2 hm0_3 hm0_4); clear hr2
  go_wp2_with fail
  refine (sRestL_any _ cS cT cP cQ cR near most w2 H2.out ⟨_, _, _, _, _, _, _, _, _, _, _, rfl, Nat.le_refl _, Nat.le_trans hm0_2 (by decide), Nat.le_refl _, Nat.le_trans hm0_3 (by decide), Nat.le_refl _, Nat.le_trans hm0_4 (by decide)⟩).mono ?_
  rintro e w3 ⟨v_3_0, rfl, hv3_0, hb3⟩
  have hR3_0 := Lib.hid hv3_0; clear hv3_0
  rw [← Hrv0.out] at hR3_0
  rw [← Hrv1.out]
  rw [← Hrv2.out]
  have s0_2 := s0_1.trans (hb2.mono s0_1.size)
  have s0_3 := s0_2.trans (hb3.mono s0_2.size)
  have kc0_0 := (BX0.out.below s0_3 BX0.out.lt).cell 0
  have kc0_1 := (BX0.out.below s0_3 BX0.out.lt).cell 1
  have kc0_2 := (BX0.out.below s0_3 BX0.out.lt).cell 2
  have kc0_3 := (BX0.out.below s0_3 BX0.out.lt).cell 3
  have kc0_4 := (BX0.out.below s0_3 BX0.out.lt).cell 4
  go_wp2_with fail
  clear kc0_0 kc0_1 kc0_2 kc0_3 kc0_4
  refine (toModel_any (.agg #[.int .i64 cS, .int .i64 cT, .slice a0_2 n0_2 c0_2, .slice a0_3 n0_3 c0_3, .slice a0_4 n0_4 c0_4]) cS cT cP cQ cR w3 ((HS0'.out.below s0_3 (Nat.le_refl _)).more s0_3.size) hm0_2 hm0_3 hm0_4).mono ?_
  rintro e w4 ⟨u4, rfl, hr4, hb4⟩
  obtain ⟨ga4_2, ga4_3, ga4_4, hu⟩ := hr4.shape
  subst hu
  have H4 := Lib.hid hr4.cg
  have N4 := Lib.hid (hr4.cgm hm0_2 hm0_3 hm0_4); clear hr4
  go_wp2_with fail
  obtain ⟨w5, hwb⟩ : ∃ x, x = w4.alloc (.cells ([.int .i64 cS, .int .i64 cT, .slice (some ⟨ga4_2, 0, none⟩) cP.length cP.length, .slice (some ⟨ga4_3, 0, none⟩) cQ.length cQ.length, .slice (some ⟨ga4_4, 0, none⟩) cR.length cR.length] : List Value).toArray 29) := ⟨_, rfl⟩
  have bq := Row.new w4 29 [.int .i64 cS, .int .i64 cT, .slice (some ⟨ga4_2, 0, none⟩) cP.length cP.length, .slice (some ⟨ga4_3, 0, none⟩) cQ.length cQ.length, .slice (some ⟨ga4_4, 0, none⟩) cR.length cR.length]
  have hb5 : Below w4.heap.size w4 (w4.alloc (.cells ([.int .i64 cS, .int .i64 cT, .slice (some ⟨ga4_2, 0, none⟩) cP.length cP.length, .slice (some ⟨ga4_3, 0, none⟩) cQ.length cQ.length, .slice (some ⟨ga4_4, 0, none⟩) cR.length cR.length] : List Value).toArray 29)) := (Below.refl _ _).alloc (Nat.le_refl _) _
  rw [← hwb] at bq hb5
  change Calls _ _ _ (w4.alloc (.cells ([.int .i64 cS, .int .i64 cT, .slice (some ⟨ga4_2, 0, none⟩) cP.length cP.length, .slice (some ⟨ga4_3, 0, none⟩) cQ.length cQ.length, .slice (some ⟨ga4_4, 0, none⟩) cR.length cR.length] : List Value).toArray 29)) _
  rw [← hwb]
  clear hwb
  have BXx4 := Lib.hid bq; clear bq
  have s4_5 := hb5
  refine (iRestL_any _ cS cT cP cQ cR near most w5 ((H4.out.below s4_5 (Nat.le_refl _)).more s4_5.size) ⟨_, _, _, _, _, _, _, _, _, _, _, rfl, Nat.le_refl _, Nat.le_trans hm0_2 (by decide), Nat.le_refl _, Nat.le_trans hm0_3 (by decide), Nat.le_refl _, Nat.le_trans hm0_4 (by decide)⟩).mono ?_
  rintro e w6 ⟨v_6_0, rfl, hv6_0, hb6⟩
  have hR6_0 := Lib.hid hv6_0; clear hv6_0
  rw [← Hrv0.out] at hR6_0
  rw [← Hrv1.out]
  rw [← Hrv2.out]
  go_wp2_with fail
  have s3_4 := hb4
  have s3_5 := s3_4.trans (hb5.mono s3_4.size)
  have s3_6 := s3_5.trans (hb6.mono s3_5.size)
  have hOB04 : rv0.length ≤ 4294967296 := by omega
  refine (eqOwnF v_6_0 v_3_0 rv0 _ _ w6 hR6_0.out (hR3_0.out.keep s3_6 (Nat.le_refl _)) hOB04).mono ?_
  rintro e w7 ⟨rfl, hb7⟩
  have s0_4 := s0_3.trans (hb4.mono s0_3.size)
  have s0_5 := s0_4.trans (hb5.mono s0_4.size)
  have s0_6 := s0_5.trans (hb6.mono s0_5.size)
  have s0_7 := s0_6.trans (hb7.mono s0_6.size)
  have kc0_0 := (BX0.out.below s0_7 BX0.out.lt).cell 0
  have kc0_1 := (BX0.out.below s0_7 BX0.out.lt).cell 1
  have kc0_2 := (BX0.out.below s0_7 BX0.out.lt).cell 2
  have kc0_3 := (BX0.out.below s0_7 BX0.out.lt).cell 3
  have kc0_4 := (BX0.out.below s0_7 BX0.out.lt).cell 4
  have s5_6 := hb6
  have s5_7 := s5_6.trans (hb7.mono s5_6.size)
  have kx4_0 := (BXx4.out.below s5_7 BXx4.out.lt).cell 0
  have kx4_1 := (BXx4.out.below s5_7 BXx4.out.lt).cell 1
  have kx4_2 := (BXx4.out.below s5_7 BXx4.out.lt).cell 2
  have kx4_3 := (BXx4.out.below s5_7 BXx4.out.lt).cell 3
  have kx4_4 := (BXx4.out.below s5_7 BXx4.out.lt).cell 4
  go_wp2_with fail
  have s4_6 := s4_5.trans (hb6.mono s4_5.size)
  have s4_7 := s4_6.trans (hb7.mono s4_6.size)
  have hsrc := Lib.hid ((HS0'.out.below s0_7 (Nat.le_refl _)).more s0_7.size)
  have hcop := Lib.hid ((H4.out.below s4_7 (Nat.le_refl _)).more s4_7.size)
  have hcells : ∀ x : World, Below w7.heap.size w7 x → (x.cell? ⟨w.heap.size, 0, none⟩ = some (.int .i64 cS) ∧ x.cell? ⟨w.heap.size, 1, none⟩ = some (.int .i64 cT) ∧ x.cell? ⟨w.heap.size, 2, none⟩ = some (.slice a0_2 n0_2 c0_2) ∧ x.cell? ⟨w.heap.size, 3, none⟩ = some (.slice a0_3 n0_3 c0_3) ∧ x.cell? ⟨w.heap.size, 4, none⟩ = some (.slice a0_4 n0_4 c0_4) ∧ x.cell? ⟨w4.heap.size, 0, none⟩ = some (.int .i64 cS) ∧ x.cell? ⟨w4.heap.size, 1, none⟩ = some (.int .i64 cT) ∧ x.cell? ⟨w4.heap.size, 2, none⟩ = some (.slice (some ⟨ga4_2, 0, none⟩) cP.length cP.length) ∧ x.cell? ⟨w4.heap.size, 3, none⟩ = some (.slice (some ⟨ga4_3, 0, none⟩) cQ.length cQ.length) ∧ x.cell? ⟨w4.heap.size, 4, none⟩ = some (.slice (some ⟨ga4_4, 0, none⟩) cR.length cR.length)) := by
    intro x hx
    have ra := (BX0.out.below s0_7 BX0.out.lt)
    have rx := (BXx4.out.below s5_7 BXx4.out.lt)
    have ra' := ra.below hx ra.lt
    have rx' := rx.below hx rx.lt
    exact ⟨ra'.cell 0, ra'.cell 1, ra'.cell 2, ra'.cell 3, ra'.cell 4, rx'.cell 0, rx'.cell 1, rx'.cell 2, rx'.cell 3, rx'.cell 4⟩
  have hcells := Lib.hid hcells
  have hkeep : Hid (∀ x y : World, Below w7.heap.size w7 x → Below x.heap.size x y → (Below w7.heap.size w7 y ∧ y.cell? ⟨w.heap.size, 0, none⟩ = some (.int .i64 cS) ∧ y.cell? ⟨w.heap.size, 1, none⟩ = some (.int .i64 cT) ∧ y.cell? ⟨w.heap.size, 2, none⟩ = some (.slice a0_2 n0_2 c0_2) ∧ y.cell? ⟨w.heap.size, 3, none⟩ = some (.slice a0_3 n0_3 c0_3) ∧ y.cell? ⟨w.heap.size, 4, none⟩ = some (.slice a0_4 n0_4 c0_4) ∧ y.cell? ⟨w4.heap.size, 0, none⟩ = some (.int .i64 cS) ∧ y.cell? ⟨w4.heap.size, 1, none⟩ = some (.int .i64 cT) ∧ y.cell? ⟨w4.heap.size, 2, none⟩ = some (.slice (some ⟨ga4_2, 0, none⟩) cP.length cP.length) ∧ y.cell? ⟨w4.heap.size, 3, none⟩ = some (.slice (some ⟨ga4_3, 0, none⟩) cQ.length cQ.length) ∧ y.cell? ⟨w4.heap.size, 4, none⟩ = some (.slice (some ⟨ga4_4, 0, none⟩) cR.length cR.length))) := by
    intro x y h1 h2
    have h3 := h1.trans (h2.mono h1.size)
    exact ⟨h3, hcells.out y h3⟩
  have hfrom := hcells.out w7 (Below.refl _ _)
  have hdr : Below w7.heap.size w7 w7.drew := Below.drew (Below.refl _ _)
  go_region_held3 (fun x => Below w7.heap.size w7 x ∧ x.cell? ⟨w.heap.size, 0, none⟩ = some (.int .i64 cS) ∧ x.cell? ⟨w.heap.size, 1, none⟩ = some (.int .i64 cT) ∧ x.cell? ⟨w.heap.size, 2, none⟩ = some (.slice a0_2 n0_2 c0_2) ∧ x.cell? ⟨w.heap.size, 3, none⟩ = some (.slice a0_3 n0_3 c0_3) ∧ x.cell? ⟨w.heap.size, 4, none⟩ = some (.slice a0_4 n0_4 c0_4) ∧ x.cell? ⟨w4.heap.size, 0, none⟩ = some (.int .i64 cS) ∧ x.cell? ⟨w4.heap.size, 1, none⟩ = some (.int .i64 cT) ∧ x.cell? ⟨w4.heap.size, 2, none⟩ = some (.slice (some ⟨ga4_2, 0, none⟩) cP.length cP.length) ∧ x.cell? ⟨w4.heap.size, 3, none⟩ = some (.slice (some ⟨ga4_3, 0, none⟩) cQ.length cQ.length) ∧ x.cell? ⟨w4.heap.size, 4, none⟩ = some (.slice (some ⟨ga4_4, 0, none⟩) cR.length cR.length)) (first | assumption | go_keep)
    (first
      | (go_at_call 7; refine (toModel_any _ cS cT cP cQ cR _ ?_ hm0_2 hm0_3 hm0_4).mono ?_; (exact (hsrc.out.below (by first | assumption | (apply And.left; assumption)) (Nat.le_refl _)).more (Below.size (by first | assumption | (apply And.left; assumption)))); rintro e wz ⟨uz, rfl, hrz, hbz⟩; have hkz := (fun h => hkeep.out _ _ h hbz) (by first | assumption | (apply And.left; assumption)); obtain ⟨gb2, gb3, gb4, hu⟩ := hrz.shape; subst hu; have HCz := Lib.hid hrz.cg; clear hrz)
      | (go_at_call 10; refine (eqModel_same _ _ cS cT cP cQ cR _ ?_ ?_ hm0_2 hm0_3 hm0_4).mono ?_; (exact (hcop.out.below (by first | assumption | (apply And.left; assumption)) (Nat.le_refl _)).more (Below.size (by first | assumption | (apply And.left; assumption)))); (exact HCz.out); rintro e w8 ⟨rfl, hbz2⟩; have hk2 := (fun h => hkeep.out _ _ h hbz2) (by first | assumption | (apply And.left; assumption))))
  have hb8 : Below w7.heap.size w7 w8 := (by first | assumption | (apply And.left; assumption))
  clear hfrom hdr hkeep hcells hsrc hcop kc0_0 kc0_1 kc0_2 kc0_3 kc0_4 kx4_0 kx4_1 kx4_2 kx4_3 kx4_4
  have s4_8 := s4_7.trans (hb8.mono s4_7.size)
  have M4 := Lib.hid (N4.out.below s4_8 (Nat.le_refl _))
  have s6_7 := hb7
  have s6_8 := s6_7.trans (hb8.mono s6_7.size)
  have hRm0 := Lib.hid (hR6_0.out.keep s6_8 (Nat.le_refl _))
  have s5_8 := s5_7.trans (hb8.mono s5_7.size)
  have kx4_0 := (BXx4.out.below s5_8 BXx4.out.lt).cell 0
  have kx4_1 := (BXx4.out.below s5_8 BXx4.out.lt).cell 1
  have kx4_2 := (BXx4.out.below s5_8 BXx4.out.lt).cell 2
  have kx4_3 := (BXx4.out.below s5_8 BXx4.out.lt).cell 3
  have kx4_4 := (BXx4.out.below s5_8 BXx4.out.lt).cell 4
  go_wp2_with fail
  clear kx4_0 kx4_1 kx4_2 kx4_3 kx4_4
  refine (markModel_any _ cS cT cP cQ cR w3.heap.size w4.heap.size (1) w8 M4.out hs0_2 hs0_3 hs0_4 (by omega) (by omega) (Nat.le_trans (Nat.le_trans (Nat.le_trans hb5.size hb6.size) hb7.size) hb8.size)).mono ?_
  rintro e w9 ⟨rfl, -, hk9⟩
  have hkb9 := (hk9.below (Nat.le_trans (Nat.le_trans (Nat.le_trans (Nat.le_trans hb4.size hb5.size) hb6.size) hb7.size) hb8.size)).mono (Nat.le_refl _)
  have hRm0 := Lib.hid (hRm0.out.kp hk9 hb5.size)
  have BY4_9 := Lib.hid (Row.kp (BXx4.out.below s5_8 BXx4.out.lt) hk9 (.inr (Nat.le_refl _)))
  have q1 : (0 : Int) ≤ 1 + (cP.length : Int) + (cQ.length : Int) + (cR.length : Int) := by omega
  go_wp2_with fail
  have s3_7 := s3_6.trans (hb7.mono s3_6.size)
  have s3_8 := s3_7.trans (hb8.mono s3_7.size)
  have s3_9 := s3_8.trans (hkb9.mono (Nat.le_refl _))
  refine (eqOwnF v_6_0 v_3_0 rv0 _ _ w9 hRm0.out (hR3_0.out.keep s3_9 (Nat.le_refl _)) hOB04).mono ?_
  rintro e w10 ⟨rfl, hb10⟩
  have hRm0 := Lib.hid (hRm0.out.keep hb10 (Nat.le_refl _))
  have hszq : w5.heap.size ≤ w10.heap.size := (Nat.le_trans (Nat.le_trans (Nat.le_trans (Nat.le_trans hb6.size hb7.size) hb8.size) hk9.2.2.2.1) hb10.size)
  go_wp2_with fail
  refine (markOwnF w5.heap.size v_6_0 rv0 1 w10 hRm0.out hszq hOB0 (by omega) (by omega)).mono ?_
  rintro e w11 ⟨rfl, hmk, hkb11⟩
  have HM := Lib.hid hmk; clear hmk
  have hkb11 := hkb11.mono (Nat.le_trans hb4.size hb5.size)
  go_wp2_with fail
  refine (heldOwnF v_6_0 rv0.length 1 w11 HM.out hOB0 (by omega) (by omega)).mono ?_
  rintro e wq ⟨rfl, hwq⟩
  obtain rfl := hwq
  have q2 : (0 : Int) ≤ 1 + (rv0.length : Int) := by omega
  have s0_8 := s0_7.trans (hb8.mono s0_7.size)
  have s0_9 := s0_8.trans (hkb9.mono s0_3.size)
  have s0_10 := s0_9.trans (hb10.mono s0_9.size)
  have s0_11 := s0_10.trans (hkb11.mono s0_3.size)
  have kc0_0 := (BX0.out.below s0_11 BX0.out.lt).cell 0
  have kc0_1 := (BX0.out.below s0_11 BX0.out.lt).cell 1
  have kc0_2 := (BX0.out.below s0_11 BX0.out.lt).cell 2
  have kc0_3 := (BX0.out.below s0_11 BX0.out.lt).cell 3
  have kc0_4 := (BX0.out.below s0_11 BX0.out.lt).cell 4
  go_wp2_with fail
  clear kc0_0 kc0_1 kc0_2 kc0_3 kc0_4
  refine (toModel_any (.agg #[.int .i64 cS, .int .i64 cT, .slice a0_2 n0_2 c0_2, .slice a0_3 n0_3 c0_3, .slice a0_4 n0_4 c0_4]) cS cT cP cQ cR w11 ((HS0'.out.below s0_11 (Nat.le_refl _)).more s0_11.size) hm0_2 hm0_3 hm0_4).mono ?_
  rintro e w12 ⟨u12, rfl, hr12, hb12⟩
  obtain ⟨ga12_2, ga12_3, ga12_4, hu⟩ := hr12.shape
  subst hu
  have H12 := Lib.hid hr12.cg
  have N12 := Lib.hid (hr12.cgm hm0_2 hm0_3 hm0_4); clear hr12
  go_wp2_with fail
  refine (iRestL_any _ cS cT cP cQ cR near most w12 H12.out ⟨_, _, _, _, _, _, _, _, _, _, _, rfl, Nat.le_refl _, Nat.le_trans hm0_2 (by decide), Nat.le_refl _, Nat.le_trans hm0_3 (by decide), Nat.le_refl _, Nat.le_trans hm0_4 (by decide)⟩).mono ?_
  rintro e w13 ⟨v_13_0, rfl, hv13_0, hb13⟩
  have hR13_0 := Lib.hid hv13_0; clear hv13_0
  rw [← Hrv0.out] at hR13_0
  rw [← Hrv1.out]
  rw [← Hrv2.out]
  go_wp2_with fail
  have s3_10 := s3_9.trans (hb10.mono s3_9.size)
  have s3_11 := s3_10.trans (hkb11.mono (Nat.le_refl _))
  have s3_12 := s3_11.trans (hb12.mono s3_11.size)
  have s3_13 := s3_12.trans (hb13.mono s3_12.size)
  refine (eqOwnF v_13_0 v_3_0 rv0 _ _ w13 hR13_0.out (hR3_0.out.keep s3_13 (Nat.le_refl _)) hOB04).mono ?_
  rintro e w14 ⟨rfl, hb14⟩
  go_wp2_with fail
  have s11_12 := hb12
  have s11_13 := s11_12.trans (hb13.mono s11_12.size)
  have s11_14 := s11_13.trans (hb14.mono s11_13.size)
  refine (heldOwnF v_6_0 rv0.length 1 w14 (HM.out.below s11_14 (Nat.le_refl _)) hOB0 (by omega) (by omega)).mono ?_
  rintro e wq ⟨rfl, hwq⟩
  obtain rfl := hwq
  go_wp2_with fail
  go_ret
  have s0_12 := s0_11.trans (hb12.mono s0_11.size)
  have s0_13 := s0_12.trans (hb13.mono s0_12.size)
  have s0_14 := s0_13.trans (hb14.mono s0_13.size)
  exact ⟨rfl, BXB.out.trans (s0_14.mono BXB.out.size)⟩
end Go.Proofs.Ytomofghiafcefaa.fnExactRestOfModel
