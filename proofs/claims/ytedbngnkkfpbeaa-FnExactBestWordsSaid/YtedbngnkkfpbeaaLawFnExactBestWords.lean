/- FnExactBestWords: the walk: the law returns true. -/
import Derived.Test.YtedbngnkkfpbeaaBsX
import Derived.Test.YtedbngnkkfpbeaaMachineSt
import Derived.Test.YtedbngnkkfpbeaaMgb
import Derived.Test.YtedbngnkkfpbeaaMachineOw
import Derived.Deep.RegionHeld3
import Derived.Deep.RegionWith

namespace Go.Proofs.Ytedbngnkkfpbeaa.fnExactBestWords
open Go.RowKit
set_option linter.unusedVariables false
set_option maxRecDepth 100000 in
set_option maxHeartbeats 4000000 in
theorem walk (cS : Int) (cT : Int) (a0_2 : Option Addr) (n0_2 c0_2 : Nat) (cL : List A4) (a0_3 : Option Addr) (n0_3 c0_3 : Nat) (z0_3 : List Int) (a0_4 : Option Addr) (n0_4 c0_4 : Nat) (z0_4 : List Int) (most : Int) (count : Int) (w : World) (wf0_0 : (Lit.int .i64 cS).wf = true) (wf0_1 : (Lit.int .i64 cT).wf = true) (wf0_2 : n0_2 ≤ 9223372036854775807 ∧ SlA w w.heap.size a0_2 n0_2 cL) (wf0_3 : IsRow .i64 w a0_3 n0_3 c0_3 z0_3) (wf0_4 : IsRow .i64 w a0_4 n0_4 c0_4 z0_4) (wf1 : (Lit.int .i64 most).wf = true) (wf2 : (Lit.int .i64 count).wf = true) :
    Calls Try.prog 4 #[.agg #[.int .i64 cS, .int .i64 cT, .slice a0_2 n0_2 c0_2, .slice a0_3 n0_3 c0_3, .slice a0_4 n0_4 c0_4], .int .i64 most, .int .i64 count] w fun e w' => e = .returned (.bool true) ∧ Below w.heap.size w w' := by
  obtain ⟨hx0_2, hS0_2⟩ := wf0_2
  have hy0_2 := hS0_2.len
  have hL0_3 := wf0_3.lens
  have hS0_3 := wf0_3.sl
  have hx0_3 : n0_3 ≤ 9223372036854775807 := by have := Nat.le_trans hL0_3.1 hL0_3.2.1; unfold maxLen at this; omega
  obtain ⟨cP, he0_3⟩ : ∃ ss, ss = z0_3.take n0_3 := ⟨_, rfl⟩
  rw [← he0_3] at hS0_3
  have hy0_3 := hS0_3.len
  clear he0_3 hL0_3 wf0_3
  have hL0_4 := wf0_4.lens
  have hS0_4 := wf0_4.sl
  have hx0_4 : n0_4 ≤ 9223372036854775807 := by have := Nat.le_trans hL0_4.1 hL0_4.2.1; unfold maxLen at this; omega
  obtain ⟨cE, he0_4⟩ : ∃ ss, ss = z0_4.take n0_4 := ⟨_, rfl⟩
  rw [← he0_4] at hS0_4
  have hy0_4 := hS0_4.len
  clear he0_4 hL0_4 wf0_4
  have hC0 : Mc w w.heap.size (.agg #[.int .i64 cS, .int .i64 cT, .slice a0_2 n0_2 c0_2, .slice a0_3 n0_3 c0_3, .slice a0_4 n0_4 c0_4]) cS cT cL cP cE := ⟨_, _, _, _, _, _, _, _, _, rfl, hS0_2, hS0_3, hS0_4⟩
  rw [← hy0_2] at hx0_2
  rw [← hy0_3] at hx0_3
  rw [← hy0_4] at hx0_4
  clear hS0_2 hy0_2 hS0_3 hy0_3 hS0_4 hy0_4
  have HS0 := Lib.hid hC0; clear hC0
  have bx0 := Row.new (w) 41 [.int .i64 cS, .int .i64 cT, .slice a0_2 n0_2 c0_2, .slice a0_3 n0_3 c0_3, .slice a0_4 n0_4 c0_4]
  have bxb : Below w.heap.size w ((w).alloc (.cells ([.int .i64 cS, .int .i64 cT, .slice a0_2 n0_2 c0_2, .slice a0_3 n0_3 c0_3, .slice a0_4 n0_4 c0_4] : List Value).toArray 41)) := (Below.refl _ _).alloc (Nat.le_refl _) _
  have BX0 := Lib.hid bx0; clear bx0
  have BXB := Lib.hid bxb; clear bxb
  go_enter Try.func4, Try.ntmps4
  go_wp2_with fail
  obtain ⟨wb, hwb⟩ : ∃ x, x = (w).alloc (.cells ([.int .i64 cS, .int .i64 cT, .slice a0_2 n0_2 c0_2, .slice a0_3 n0_3 c0_3, .slice a0_4 n0_4 c0_4] : List Value).toArray 41) := ⟨_, rfl⟩
  rw [← hwb] at BX0
  rw [← hwb] at BXB
  change Calls _ _ _ ((w).alloc (.cells ([.int .i64 cS, .int .i64 cT, .slice a0_2 n0_2 c0_2, .slice a0_3 n0_3 c0_3, .slice a0_4 n0_4 c0_4] : List Value).toArray 41)) _
  rw [← hwb]
  clear hwb
  have HS0' := Lib.hid ((HS0.out.below BXB.out (Nat.le_refl _)).more BXB.out.size)
  refine (szMachine_any (.agg #[.int .i64 cS, .int .i64 cT, .slice a0_2 n0_2 c0_2, .slice a0_3 n0_3 c0_3, .slice a0_4 n0_4 c0_4]) cS cT cL cP cE 1048576 wb HS0'.out (by omega) (by omega) hx0_2 hx0_3 hx0_4).mono ?_
  rintro e w1 ⟨y0, rfl, hy0_0, hy1_0, hyn0, hb1⟩
  have s0_1 := hb1
  by_cases hneg : y0 < 0
  · clear hyn0
    go_wp2_with fail
    go_ret
    exact ⟨rfl, BXB.out.trans (s0_1.mono BXB.out.size)⟩
  have hyq0 : 0 ≤ y0 := by omega
  obtain ⟨hs0_2, hs0_3, hs0_4⟩ := hyn0 hyq0
  have hm0_2 : cL.length ≤ 4294967296 := by omega
  have hm0_3 : cP.length ≤ 4294967296 := by omega
  have hm0_4 : cE.length ≤ 4294967296 := by omega
  clear hyn0 hneg
  have hOB0 : ((bwsR cS cT most count cL cP cE).map Prod.fst).length ≤ 1048576 := bwsW_len cS cT most count cL cP cE
  have hOS0 : sumL ((bwsR cS cT most count cL cP cE).map Prod.fst) ≤ 1048576 := bwsW_sum cS cT most count cL cP cE
  obtain ⟨rv0, hrv0⟩ : ∃ x, x = (bwsR cS cT most count cL cP cE).map Prod.fst := ⟨_, rfl⟩
  rw [← hrv0] at hOB0 hOS0
  have hOB1 : ((bwsR cS cT most count cL cP cE).map Prod.snd).length ≤ 1048576 := bwsC_len cS cT most count cL cP cE
  obtain ⟨rv1, hrv1⟩ : ∃ x, x = (bwsR cS cT most count cL cP cE).map Prod.snd := ⟨_, rfl⟩
  rw [← hrv1] at hOB1
  obtain ⟨rv2, hrv2⟩ : ∃ x, x = bwsB cS cT most count cL cP cE := ⟨_, rfl⟩
  have Hrv0 := Lib.hid hrv0; clear hrv0
  have Hrv1 := Lib.hid hrv1; clear hrv1
  have Hrv2 := Lib.hid hrv2; clear hrv2
  have kc0_0 := (BX0.out.below s0_1 BX0.out.lt).cell 0
  have kc0_1 := (BX0.out.below s0_1 BX0.out.lt).cell 1
  have kc0_2 := (BX0.out.below s0_1 BX0.out.lt).cell 2
  have kc0_3 := (BX0.out.below s0_1 BX0.out.lt).cell 3
  have kc0_4 := (BX0.out.below s0_1 BX0.out.lt).cell 4
  go_wp2_with fail
  clear kc0_0 kc0_1 kc0_2 kc0_3 kc0_4
  refine (toMachine_any (.agg #[.int .i64 cS, .int .i64 cT, .slice a0_2 n0_2 c0_2, .slice a0_3 n0_3 c0_3, .slice a0_4 n0_4 c0_4]) cS cT cL cP cE w1 ((HS0'.out.below s0_1 (Nat.le_refl _)).more s0_1.size) hm0_2 hm0_3 hm0_4).mono ?_
  rintro e w2 ⟨u2, rfl, hr2, hb2⟩
  obtain ⟨ga2_2, ga2_3, ga2_4, hu⟩ := hr2.shape
  subst hu
  have H2 := Lib.hid hr2.cg
  have N2 := Lib.hid (hr2.cgm hm0_2 hm0_3 hm0_4); clear hr2
  go_wp2_with fail
  refine (sBwsL_any _ cS cT most count cL cP cE w2 H2.out hs0_2 hs0_3 hs0_4).mono ?_
  rintro e w3 ⟨v_3_0, v_3_1, rfl, hv3_0, hv3_1, hb3⟩
  have hR3_0 := Lib.hid hv3_0; clear hv3_0
  have hR3_1 := Lib.hid hv3_1; clear hv3_1
  rw [← Hrv0.out] at hR3_0
  rw [← Hrv1.out] at hR3_1
  rw [← Hrv2.out]
  have s0_2 := s0_1.trans (hb2.mono s0_1.size)
  have s0_3 := s0_2.trans (hb3.mono s0_2.size)
  have kc0_0 := (BX0.out.below s0_3 BX0.out.lt).cell 0
  have kc0_1 := (BX0.out.below s0_3 BX0.out.lt).cell 1
  have kc0_2 := (BX0.out.below s0_3 BX0.out.lt).cell 2
  have kc0_3 := (BX0.out.below s0_3 BX0.out.lt).cell 3
  have kc0_4 := (BX0.out.below s0_3 BX0.out.lt).cell 4
  go_wp2_with fail
  clear kc0_0 kc0_1 kc0_2 kc0_3 kc0_4
  refine (toMachine_any (.agg #[.int .i64 cS, .int .i64 cT, .slice a0_2 n0_2 c0_2, .slice a0_3 n0_3 c0_3, .slice a0_4 n0_4 c0_4]) cS cT cL cP cE w3 ((HS0'.out.below s0_3 (Nat.le_refl _)).more s0_3.size) hm0_2 hm0_3 hm0_4).mono ?_
  rintro e w4 ⟨u4, rfl, hr4, hb4⟩
  obtain ⟨ga4_2, ga4_3, ga4_4, hu⟩ := hr4.shape
  subst hu
  have H4 := Lib.hid hr4.cg
  have N4 := Lib.hid (hr4.cgm hm0_2 hm0_3 hm0_4); clear hr4
  go_wp2_with fail
  obtain ⟨w5, hwb⟩ : ∃ x, x = w4.alloc (.cells ([.int .i64 cS, .int .i64 cT, .slice (some ⟨ga4_2, 0, none⟩) cL.length cL.length, .slice (some ⟨ga4_3, 0, none⟩) cP.length cP.length, .slice (some ⟨ga4_4, 0, none⟩) cE.length cE.length] : List Value).toArray 28) := ⟨_, rfl⟩
  have bq := Row.new w4 28 [.int .i64 cS, .int .i64 cT, .slice (some ⟨ga4_2, 0, none⟩) cL.length cL.length, .slice (some ⟨ga4_3, 0, none⟩) cP.length cP.length, .slice (some ⟨ga4_4, 0, none⟩) cE.length cE.length]
  have hb5 : Below w4.heap.size w4 (w4.alloc (.cells ([.int .i64 cS, .int .i64 cT, .slice (some ⟨ga4_2, 0, none⟩) cL.length cL.length, .slice (some ⟨ga4_3, 0, none⟩) cP.length cP.length, .slice (some ⟨ga4_4, 0, none⟩) cE.length cE.length] : List Value).toArray 28)) := (Below.refl _ _).alloc (Nat.le_refl _) _
  rw [← hwb] at bq hb5
  change Calls _ _ _ (w4.alloc (.cells ([.int .i64 cS, .int .i64 cT, .slice (some ⟨ga4_2, 0, none⟩) cL.length cL.length, .slice (some ⟨ga4_3, 0, none⟩) cP.length cP.length, .slice (some ⟨ga4_4, 0, none⟩) cE.length cE.length] : List Value).toArray 28)) _
  rw [← hwb]
  clear hwb
  have BXx4 := Lib.hid bq; clear bq
  have s4_5 := hb5
  refine (iBwsL_any _ cS cT most count cL cP cE w5 ((H4.out.below s4_5 (Nat.le_refl _)).more s4_5.size) hs0_2 hs0_3 hs0_4).mono ?_
  rintro e w6 ⟨v_6_0, v_6_1, B_6, rfl, hv6_0, hv6_1, hdj6, hb6⟩
  have hR6_0 := Lib.hid hv6_0; clear hv6_0
  have hR6_1 := Lib.hid hv6_1; clear hv6_1
  rw [← Hrv0.out] at hR6_0
  rw [← Hrv1.out] at hR6_1
  rw [← Hrv2.out]
  go_wp2_with fail
  have s3_4 := hb4
  have s3_5 := s3_4.trans (hb5.mono s3_4.size)
  have s3_6 := s3_5.trans (hb6.mono s3_5.size)
  have hOB04 : rv0.length ≤ 4294967296 := by omega
  refine (eqTab v_6_0 v_3_0 rv0 _ _ w6 hR6_0.out.tabI (hR3_0.out.keep s3_6 (Nat.le_refl _)) hOB04 hOS0).mono ?_
  rintro e w7 ⟨rfl, hb7⟩
  go_wp2_with fail
  have s6_7 := hb7
  have s3_7 := s3_6.trans (hb7.mono s3_6.size)
  have hOB14 : rv1.length ≤ 4294967296 := by omega
  refine (eqOwn v_6_1 v_3_1 rv1 _ _ w7 (hR6_1.out.keep s6_7 (Nat.le_refl _)) (hR3_1.out.keep s3_7 (Nat.le_refl _)) hOB14).mono ?_
  rintro e w8 ⟨rfl, hb8⟩
  have s0_4 := s0_3.trans (hb4.mono s0_3.size)
  have s0_5 := s0_4.trans (hb5.mono s0_4.size)
  have s0_6 := s0_5.trans (hb6.mono s0_5.size)
  have s0_7 := s0_6.trans (hb7.mono s0_6.size)
  have s0_8 := s0_7.trans (hb8.mono s0_7.size)
  have kc0_0 := (BX0.out.below s0_8 BX0.out.lt).cell 0
  have kc0_1 := (BX0.out.below s0_8 BX0.out.lt).cell 1
  have kc0_2 := (BX0.out.below s0_8 BX0.out.lt).cell 2
  have kc0_3 := (BX0.out.below s0_8 BX0.out.lt).cell 3
  have kc0_4 := (BX0.out.below s0_8 BX0.out.lt).cell 4
  have s5_6 := hb6
  have s5_7 := s5_6.trans (hb7.mono s5_6.size)
  have s5_8 := s5_7.trans (hb8.mono s5_7.size)
  have kx4_0 := (BXx4.out.below s5_8 BXx4.out.lt).cell 0
  have kx4_1 := (BXx4.out.below s5_8 BXx4.out.lt).cell 1
  have kx4_2 := (BXx4.out.below s5_8 BXx4.out.lt).cell 2
  have kx4_3 := (BXx4.out.below s5_8 BXx4.out.lt).cell 3
  have kx4_4 := (BXx4.out.below s5_8 BXx4.out.lt).cell 4
  go_wp2_with fail
  have s4_6 := s4_5.trans (hb6.mono s4_5.size)
  have s4_7 := s4_6.trans (hb7.mono s4_6.size)
  have s4_8 := s4_7.trans (hb8.mono s4_7.size)
  have hsrc := Lib.hid ((HS0'.out.below s0_8 (Nat.le_refl _)).more s0_8.size)
  have hcop := Lib.hid ((H4.out.below s4_8 (Nat.le_refl _)).more s4_8.size)
  have hcells : ∀ x : World, Below w8.heap.size w8 x → (x.cell? ⟨w.heap.size, 0, none⟩ = some (.int .i64 cS) ∧ x.cell? ⟨w.heap.size, 1, none⟩ = some (.int .i64 cT) ∧ x.cell? ⟨w.heap.size, 2, none⟩ = some (.slice a0_2 n0_2 c0_2) ∧ x.cell? ⟨w.heap.size, 3, none⟩ = some (.slice a0_3 n0_3 c0_3) ∧ x.cell? ⟨w.heap.size, 4, none⟩ = some (.slice a0_4 n0_4 c0_4) ∧ x.cell? ⟨w4.heap.size, 0, none⟩ = some (.int .i64 cS) ∧ x.cell? ⟨w4.heap.size, 1, none⟩ = some (.int .i64 cT) ∧ x.cell? ⟨w4.heap.size, 2, none⟩ = some (.slice (some ⟨ga4_2, 0, none⟩) cL.length cL.length) ∧ x.cell? ⟨w4.heap.size, 3, none⟩ = some (.slice (some ⟨ga4_3, 0, none⟩) cP.length cP.length) ∧ x.cell? ⟨w4.heap.size, 4, none⟩ = some (.slice (some ⟨ga4_4, 0, none⟩) cE.length cE.length)) := by
    intro x hx
    have ra := (BX0.out.below s0_8 BX0.out.lt)
    have rx := (BXx4.out.below s5_8 BXx4.out.lt)
    have ra' := ra.below hx ra.lt
    have rx' := rx.below hx rx.lt
    exact ⟨ra'.cell 0, ra'.cell 1, ra'.cell 2, ra'.cell 3, ra'.cell 4, rx'.cell 0, rx'.cell 1, rx'.cell 2, rx'.cell 3, rx'.cell 4⟩
  have hcells := Lib.hid hcells
  have hkeep : Hid (∀ x y : World, Below w8.heap.size w8 x → Below x.heap.size x y → (Below w8.heap.size w8 y ∧ y.cell? ⟨w.heap.size, 0, none⟩ = some (.int .i64 cS) ∧ y.cell? ⟨w.heap.size, 1, none⟩ = some (.int .i64 cT) ∧ y.cell? ⟨w.heap.size, 2, none⟩ = some (.slice a0_2 n0_2 c0_2) ∧ y.cell? ⟨w.heap.size, 3, none⟩ = some (.slice a0_3 n0_3 c0_3) ∧ y.cell? ⟨w.heap.size, 4, none⟩ = some (.slice a0_4 n0_4 c0_4) ∧ y.cell? ⟨w4.heap.size, 0, none⟩ = some (.int .i64 cS) ∧ y.cell? ⟨w4.heap.size, 1, none⟩ = some (.int .i64 cT) ∧ y.cell? ⟨w4.heap.size, 2, none⟩ = some (.slice (some ⟨ga4_2, 0, none⟩) cL.length cL.length) ∧ y.cell? ⟨w4.heap.size, 3, none⟩ = some (.slice (some ⟨ga4_3, 0, none⟩) cP.length cP.length) ∧ y.cell? ⟨w4.heap.size, 4, none⟩ = some (.slice (some ⟨ga4_4, 0, none⟩) cE.length cE.length))) := by
    intro x y h1 h2
    have h3 := h1.trans (h2.mono h1.size)
    exact ⟨h3, hcells.out y h3⟩
  have hfrom := hcells.out w8 (Below.refl _ _)
  have hdr : Below w8.heap.size w8 w8.drew := Below.drew (Below.refl _ _)
  go_region_held3 (fun x => Below w8.heap.size w8 x ∧ x.cell? ⟨w.heap.size, 0, none⟩ = some (.int .i64 cS) ∧ x.cell? ⟨w.heap.size, 1, none⟩ = some (.int .i64 cT) ∧ x.cell? ⟨w.heap.size, 2, none⟩ = some (.slice a0_2 n0_2 c0_2) ∧ x.cell? ⟨w.heap.size, 3, none⟩ = some (.slice a0_3 n0_3 c0_3) ∧ x.cell? ⟨w.heap.size, 4, none⟩ = some (.slice a0_4 n0_4 c0_4) ∧ x.cell? ⟨w4.heap.size, 0, none⟩ = some (.int .i64 cS) ∧ x.cell? ⟨w4.heap.size, 1, none⟩ = some (.int .i64 cT) ∧ x.cell? ⟨w4.heap.size, 2, none⟩ = some (.slice (some ⟨ga4_2, 0, none⟩) cL.length cL.length) ∧ x.cell? ⟨w4.heap.size, 3, none⟩ = some (.slice (some ⟨ga4_3, 0, none⟩) cP.length cP.length) ∧ x.cell? ⟨w4.heap.size, 4, none⟩ = some (.slice (some ⟨ga4_4, 0, none⟩) cE.length cE.length)) (first | assumption | go_keep)
    (first
      | (go_at_call 16; refine (toMachine_any _ cS cT cL cP cE _ ?_ hm0_2 hm0_3 hm0_4).mono ?_; (exact (hsrc.out.below (by first | assumption | (apply And.left; assumption)) (Nat.le_refl _)).more (Below.size (by first | assumption | (apply And.left; assumption)))); rintro e wz ⟨uz, rfl, hrz, hbz⟩; have hkz := (fun h => hkeep.out _ _ h hbz) (by first | assumption | (apply And.left; assumption)); obtain ⟨gb2, gb3, gb4, hu⟩ := hrz.shape; subst hu; have HCz := Lib.hid hrz.cg; clear hrz)
      | (go_at_call 19; refine (eqMachine_same _ _ cS cT cL cP cE _ ?_ ?_ hm0_2 hm0_3 hm0_4).mono ?_; (exact (hcop.out.below (by first | assumption | (apply And.left; assumption)) (Nat.le_refl _)).more (Below.size (by first | assumption | (apply And.left; assumption)))); (exact HCz.out); rintro e w9 ⟨rfl, hbz2⟩; have hk2 := (fun h => hkeep.out _ _ h hbz2) (by first | assumption | (apply And.left; assumption))))
  have hb9 : Below w8.heap.size w8 w9 := (by first | assumption | (apply And.left; assumption))
  clear hfrom hdr hkeep hcells hsrc hcop kc0_0 kc0_1 kc0_2 kc0_3 kc0_4 kx4_0 kx4_1 kx4_2 kx4_3 kx4_4
  have s4_9 := s4_8.trans (hb9.mono s4_8.size)
  have M4 := Lib.hid (N4.out.below s4_9 (Nat.le_refl _))
  have s6_8 := s6_7.trans (hb8.mono s6_7.size)
  have s6_9 := s6_8.trans (hb9.mono s6_8.size)
  have hRm0 := Lib.hid (hR6_0.out.keep s6_9 (Nat.le_refl _))
  have hRm1 := Lib.hid (hR6_1.out.keep s6_9 (Nat.le_refl _))
  have s5_9 := s5_8.trans (hb9.mono s5_8.size)
  have kx4_0 := (BXx4.out.below s5_9 BXx4.out.lt).cell 0
  have kx4_1 := (BXx4.out.below s5_9 BXx4.out.lt).cell 1
  have kx4_2 := (BXx4.out.below s5_9 BXx4.out.lt).cell 2
  have kx4_3 := (BXx4.out.below s5_9 BXx4.out.lt).cell 3
  have kx4_4 := (BXx4.out.below s5_9 BXx4.out.lt).cell 4
  go_wp2_with fail
  clear kx4_0 kx4_1 kx4_2 kx4_3 kx4_4
  refine (markMachine_any _ cS cT cL cP cE w3.heap.size w4.heap.size (1) w9 M4.out hs0_2 hs0_3 hs0_4 (by omega) (by omega) (Nat.le_trans (Nat.le_trans (Nat.le_trans (Nat.le_trans hb5.size hb6.size) hb7.size) hb8.size) hb9.size)).mono ?_
  rintro e w10 ⟨rfl, -, hk10⟩
  have hkb10 := (hk10.below (Nat.le_trans (Nat.le_trans (Nat.le_trans (Nat.le_trans (Nat.le_trans hb4.size hb5.size) hb6.size) hb7.size) hb8.size) hb9.size)).mono (Nat.le_refl _)
  have hRm0 := Lib.hid (hRm0.out.kp hk10 hb5.size)
  have hRm1 := Lib.hid (hRm1.out.kp hk10 hb5.size)
  have BY4_10 := Lib.hid (Row.kp (BXx4.out.below s5_9 BXx4.out.lt) hk10 (.inr (Nat.le_refl _)))
  have q1 : (0 : Int) ≤ 1 + 4 * (cL.length : Int) + (cP.length : Int) + (cE.length : Int) := by omega
  go_wp2_with fail
  have s3_8 := s3_7.trans (hb8.mono s3_7.size)
  have s3_9 := s3_8.trans (hb9.mono s3_8.size)
  have s3_10 := s3_9.trans (hkb10.mono (Nat.le_refl _))
  refine (eqTab v_6_0 v_3_0 rv0 _ _ w10 hRm0.out.tabI (hR3_0.out.keep s3_10 (Nat.le_refl _)) hOB04 hOS0).mono ?_
  rintro e w11 ⟨rfl, hb11⟩
  have hRm0 := Lib.hid (hRm0.out.keep hb11 (Nat.le_refl _))
  have hRm1 := Lib.hid (hRm1.out.keep hb11 (Nat.le_refl _))
  go_wp2_with fail
  have s3_11 := s3_10.trans (hb11.mono s3_10.size)
  refine (eqOwn v_6_1 v_3_1 rv1 _ _ w11 hRm1.out (hR3_1.out.keep s3_11 (Nat.le_refl _)) hOB14).mono ?_
  rintro e w12 ⟨rfl, hb12⟩
  have hRm0 := Lib.hid (hRm0.out.keep hb12 (Nat.le_refl _))
  have hRm1 := Lib.hid (hRm1.out.keep hb12 (Nat.le_refl _))
  have hszq : w5.heap.size ≤ w12.heap.size := (Nat.le_trans (Nat.le_trans (Nat.le_trans (Nat.le_trans (Nat.le_trans (Nat.le_trans hb6.size hb7.size) hb8.size) hb9.size) hk10.2.2.2.1) hb11.size) hb12.size)
  go_wp2_with fail
  have q5 : (0 : Int) ≤ 1 := by omega
  refine (markTab w5.heap.size v_6_0 rv0 B_6 (1) w12 hRm0.out hOB04 hOS0 (by omega) (by omega)).mono ?_
  rintro e w13 ⟨rfl, hmk, hkb13, hout13⟩
  have hszq := Nat.le_trans hszq hkb13.size
  have HM0 := Lib.hid hmk; clear hmk
  have hRm1 := Lib.hid (hRm1.out.moveT hout13 (fun b e => (hdj6 b e).1))
  have hkb13 := hkb13.mono (Nat.le_trans hb4.size hb5.size)
  go_wp2_with fail
  have q6 : (0 : Int) ≤ 1 + (sumL rv0 : Int) := by omega
  refine (markOwn2 w5.heap.size v_6_1 rv1 (1 + (sumL rv0 : Int)) w13 hRm1.out hszq hOB14 (by omega) (by omega)).mono ?_
  rintro e w14 ⟨rfl, hmk, hkb14, hout14⟩
  have hszq := Nat.le_trans hszq hkb14.size
  have HM1 := Lib.hid hmk; clear hmk
  have HM0 := Lib.hid (HM0.out.move hkb14.size (fun q hq e => hout14 q hq (fun e2 => (hdj6 q e2).2 e)) (fun b hb hB => hout14 b hb (fun e2 => (hdj6 b e2).1 hB)))
  have hkb14 := hkb14.mono (Nat.le_trans hb4.size hb5.size)
  have q7 : (0 : Int) ≤ 1 + (sumL rv0 : Int) + (rv1.length : Int) := by omega
  go_wp2_with fail
  refine (heldTab v_6_0 rv0 B_6 (1) w14 HM0.out hOB04 hOS0 (by omega) (by omega)).mono ?_
  rintro e wq ⟨rfl, hwq⟩
  obtain rfl := hwq
  go_wp2_with fail
  refine (heldOwn v_6_1 rv1.length (1 + (sumL rv0 : Int)) w14 HM1.out hOB14 (by omega) (by omega)).mono ?_
  rintro e wq ⟨rfl, hwq⟩
  obtain rfl := hwq
  have s0_9 := s0_8.trans (hb9.mono s0_8.size)
  have s0_10 := s0_9.trans (hkb10.mono s0_3.size)
  have s0_11 := s0_10.trans (hb11.mono s0_10.size)
  have s0_12 := s0_11.trans (hb12.mono s0_11.size)
  have s0_13 := s0_12.trans (hkb13.mono s0_3.size)
  have s0_14 := s0_13.trans (hkb14.mono s0_3.size)
  have kc0_0 := (BX0.out.below s0_14 BX0.out.lt).cell 0
  have kc0_1 := (BX0.out.below s0_14 BX0.out.lt).cell 1
  have kc0_2 := (BX0.out.below s0_14 BX0.out.lt).cell 2
  have kc0_3 := (BX0.out.below s0_14 BX0.out.lt).cell 3
  have kc0_4 := (BX0.out.below s0_14 BX0.out.lt).cell 4
  go_wp2_with fail
  clear kc0_0 kc0_1 kc0_2 kc0_3 kc0_4
  refine (toMachine_any (.agg #[.int .i64 cS, .int .i64 cT, .slice a0_2 n0_2 c0_2, .slice a0_3 n0_3 c0_3, .slice a0_4 n0_4 c0_4]) cS cT cL cP cE w14 ((HS0'.out.below s0_14 (Nat.le_refl _)).more s0_14.size) hm0_2 hm0_3 hm0_4).mono ?_
  rintro e w15 ⟨u15, rfl, hr15, hb15⟩
  obtain ⟨ga15_2, ga15_3, ga15_4, hu⟩ := hr15.shape
  subst hu
  have H15 := Lib.hid hr15.cg
  have N15 := Lib.hid (hr15.cgm hm0_2 hm0_3 hm0_4); clear hr15
  go_wp2_with fail
  refine (iBwsL_any _ cS cT most count cL cP cE w15 H15.out hs0_2 hs0_3 hs0_4).mono ?_
  rintro e w16 ⟨v_16_0, v_16_1, B_16, rfl, hv16_0, hv16_1, hdj16, hb16⟩
  have hR16_0 := Lib.hid hv16_0; clear hv16_0
  have hR16_1 := Lib.hid hv16_1; clear hv16_1
  rw [← Hrv0.out] at hR16_0
  rw [← Hrv1.out] at hR16_1
  rw [← Hrv2.out]
  go_wp2_with fail
  have s3_12 := s3_11.trans (hb12.mono s3_11.size)
  have s3_13 := s3_12.trans (hkb13.mono (Nat.le_refl _))
  have s3_14 := s3_13.trans (hkb14.mono (Nat.le_refl _))
  have s3_15 := s3_14.trans (hb15.mono s3_14.size)
  have s3_16 := s3_15.trans (hb16.mono s3_15.size)
  refine (eqTab v_16_0 v_3_0 rv0 _ _ w16 hR16_0.out.tabI (hR3_0.out.keep s3_16 (Nat.le_refl _)) hOB04 hOS0).mono ?_
  rintro e w17 ⟨rfl, hb17⟩
  go_wp2_with fail
  have s16_17 := hb17
  have s3_17 := s3_16.trans (hb17.mono s3_16.size)
  refine (eqOwn v_16_1 v_3_1 rv1 _ _ w17 (hR16_1.out.keep s16_17 (Nat.le_refl _)) (hR3_1.out.keep s3_17 (Nat.le_refl _)) hOB14).mono ?_
  rintro e w18 ⟨rfl, hb18⟩
  go_wp2_with fail
  have s14_15 := hb15
  have s14_16 := s14_15.trans (hb16.mono s14_15.size)
  have s14_17 := s14_16.trans (hb17.mono s14_16.size)
  have s14_18 := s14_17.trans (hb18.mono s14_17.size)
  refine (heldTab v_6_0 rv0 B_6 (1) w18 (HM0.out.below s14_18 (Nat.le_refl _)) hOB04 hOS0 (by omega) (by omega)).mono ?_
  rintro e wq ⟨rfl, hwq⟩
  obtain rfl := hwq
  go_wp2_with fail
  refine (heldOwn v_6_1 rv1.length (1 + (sumL rv0 : Int)) w18 (HM1.out.below s14_18 (Nat.le_refl _)) hOB14 (by omega) (by omega)).mono ?_
  rintro e wq ⟨rfl, hwq⟩
  obtain rfl := hwq
  go_wp2_with fail
  go_ret
  have s0_15 := s0_14.trans (hb15.mono s0_14.size)
  have s0_16 := s0_15.trans (hb16.mono s0_15.size)
  have s0_17 := s0_16.trans (hb17.mono s0_16.size)
  have s0_18 := s0_17.trans (hb18.mono s0_17.size)
  exact ⟨rfl, BXB.out.trans (s0_18.mono BXB.out.size)⟩
end Go.Proofs.Ytedbngnkkfpbeaa.fnExactBestWords
