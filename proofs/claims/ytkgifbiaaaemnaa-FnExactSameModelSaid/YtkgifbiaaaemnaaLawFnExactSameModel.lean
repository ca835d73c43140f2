/- FnExactSameModel: the walk: the law returns true. -/
import Derived.Test.YtkgifbiaaaemnaaSm
import Derived.Test.YtkgifbiaaaemnaaModelSt
import Derived.Test.YtkgifbiaaaemnaaKp
import Derived.Deep.RegionHeld3
import Derived.Deep.RegionWith
namespace Go.Proofs.Ytkgifbiaaaemnaa.fnExactSameModel
open Go.RowKit
set_option linter.unusedVariables false
set_option maxHeartbeats 4000000 in
theorem walk (cS : Int) (cT : Int) (a0_2 : Option Addr) (n0_2 c0_2 : Nat) (cP : List F32) (a0_3 : Option Addr) (n0_3 c0_3 : Nat) (cQ : List F32) (a0_4 : Option Addr) (n0_4 c0_4 : Nat) (cR : List F32) (dS : Int) (dT : Int) (a1_2 : Option Addr) (n1_2 c1_2 : Nat) (dP : List F32) (a1_3 : Option Addr) (n1_3 c1_3 : Nat) (dQ : List F32) (a1_4 : Option Addr) (n1_4 c1_4 : Nat) (dR : List F32) (w : World) (wf0_0 : (Lit.int .i64 cS).wf = true) (wf0_1 : (Lit.int .i64 cT).wf = true) (wf0_2 : n0_2 ≤ 9223372036854775807 ∧ SlF w w.heap.size a0_2 n0_2 cP) (wf0_3 : n0_3 ≤ 9223372036854775807 ∧ SlF w w.heap.size a0_3 n0_3 cQ) (wf0_4 : n0_4 ≤ 9223372036854775807 ∧ SlF w w.heap.size a0_4 n0_4 cR) (wf1_0 : (Lit.int .i64 dS).wf = true) (wf1_1 : (Lit.int .i64 dT).wf = true) (wf1_2 : n1_2 ≤ 9223372036854775807 ∧ SlF w w.heap.size a1_2 n1_2 dP) (wf1_3 : n1_3 ≤ 9223372036854775807 ∧ SlF w w.heap.size a1_3 n1_3 dQ) (wf1_4 : n1_4 ≤ 9223372036854775807 ∧ SlF w w.heap.size a1_4 n1_4 dR) :
    Calls Try.prog 3 #[.agg #[.int .i64 cS, .int .i64 cT, .slice a0_2 n0_2 c0_2, .slice a0_3 n0_3 c0_3, .slice a0_4 n0_4 c0_4], .agg #[.int .i64 dS, .int .i64 dT, .slice a1_2 n1_2 c1_2, .slice a1_3 n1_3 c1_3, .slice a1_4 n1_4 c1_4]] w fun e w' => e = .returned (.bool true) ∧ Below w.heap.size w w' := by
  obtain ⟨hx0_2, hS0_2⟩ := wf0_2
  have hy0_2 := hS0_2.len
  obtain ⟨hx0_3, hS0_3⟩ := wf0_3
  have hy0_3 := hS0_3.len
  obtain ⟨hx0_4, hS0_4⟩ := wf0_4
  have hy0_4 := hS0_4.len
  have hC0 : Md w w.heap.size (.agg #[.int .i64 cS, .int .i64 cT, .slice a0_2 n0_2 c0_2, .slice a0_3 n0_3 c0_3, .slice a0_4 n0_4 c0_4]) cS cT cP cQ cR := ⟨_, _, _, _, _, _, _, _, _, rfl, hS0_2, hS0_3, hS0_4⟩
  rw [← hy0_2] at hx0_2
  rw [← hy0_3] at hx0_3
  rw [← hy0_4] at hx0_4
  clear hS0_2 hy0_2 hS0_3 hy0_3 hS0_4 hy0_4
  have HS0 := Lib.hid hC0; clear hC0
  obtain ⟨hx1_2, hS1_2⟩ := wf1_2
  have hy1_2 := hS1_2.len
  obtain ⟨hx1_3, hS1_3⟩ := wf1_3
  have hy1_3 := hS1_3.len
  obtain ⟨hx1_4, hS1_4⟩ := wf1_4
  have hy1_4 := hS1_4.len
  have hC1 : Md w w.heap.size (.agg #[.int .i64 dS, .int .i64 dT, .slice a1_2 n1_2 c1_2, .slice a1_3 n1_3 c1_3, .slice a1_4 n1_4 c1_4]) dS dT dP dQ dR := ⟨_, _, _, _, _, _, _, _, _, rfl, hS1_2, hS1_3, hS1_4⟩
  rw [← hy1_2] at hx1_2
  rw [← hy1_3] at hx1_3
  rw [← hy1_4] at hx1_4
  clear hS1_2 hy1_2 hS1_3 hy1_3 hS1_4 hy1_4
  have HS1 := Lib.hid hC1; clear hC1
  have bx0 := Row.new (w) 24 [.int .i64 cS, .int .i64 cT, .slice a0_2 n0_2 c0_2, .slice a0_3 n0_3 c0_3, .slice a0_4 n0_4 c0_4]
  have bx1 := Row.new ((w).alloc (.cells ([.int .i64 cS, .int .i64 cT, .slice a0_2 n0_2 c0_2, .slice a0_3 n0_3 c0_3, .slice a0_4 n0_4 c0_4] : List Value).toArray 24)) 24 [.int .i64 dS, .int .i64 dT, .slice a1_2 n1_2 c1_2, .slice a1_3 n1_3 c1_3, .slice a1_4 n1_4 c1_4]
  rw [show ((w).alloc (.cells ([.int .i64 cS, .int .i64 cT, .slice a0_2 n0_2 c0_2, .slice a0_3 n0_3 c0_3, .slice a0_4 n0_4 c0_4] : List Value).toArray 24)).heap.size = w.heap.size + 1 by simp] at bx1
  have bxb : Below w.heap.size w (((w).alloc (.cells ([.int .i64 cS, .int .i64 cT, .slice a0_2 n0_2 c0_2, .slice a0_3 n0_3 c0_3, .slice a0_4 n0_4 c0_4] : List Value).toArray 24)).alloc (.cells ([.int .i64 dS, .int .i64 dT, .slice a1_2 n1_2 c1_2, .slice a1_3 n1_3 c1_3, .slice a1_4 n1_4 c1_4] : List Value).toArray 24)) := ((Below.refl _ _).alloc (Nat.le_refl _) _).alloc (by simp) _
  have bx0 := bx0.alloc (.cells ([.int .i64 dS, .int .i64 dT, .slice a1_2 n1_2 c1_2, .slice a1_3 n1_3 c1_3, .slice a1_4 n1_4 c1_4] : List Value).toArray 24)
  have BX0 := Lib.hid bx0; clear bx0
  have BX1 := Lib.hid bx1; clear bx1
  have BXB := Lib.hid bxb; clear bxb
  go_enter Try.func3, Try.ntmps3
  go_wp2_with fail
  obtain ⟨wb, hwb⟩ : ∃ x, x = ((w).alloc (.cells ([.int .i64 cS, .int .i64 cT, .slice a0_2 n0_2 c0_2, .slice a0_3 n0_3 c0_3, .slice a0_4 n0_4 c0_4] : List Value).toArray 24)).alloc (.cells ([.int .i64 dS, .int .i64 dT, .slice a1_2 n1_2 c1_2, .slice a1_3 n1_3 c1_3, .slice a1_4 n1_4 c1_4] : List Value).toArray 24) := ⟨_, rfl⟩
  rw [← hwb] at BX0
  rw [← hwb] at BX1
  rw [← hwb] at BXB
  change Calls _ _ _ (((w).alloc (.cells ([.int .i64 cS, .int .i64 cT, .slice a0_2 n0_2 c0_2, .slice a0_3 n0_3 c0_3, .slice a0_4 n0_4 c0_4] : List Value).toArray 24)).alloc (.cells ([.int .i64 dS, .int .i64 dT, .slice a1_2 n1_2 c1_2, .slice a1_3 n1_3 c1_3, .slice a1_4 n1_4 c1_4] : List Value).toArray 24)) _
  rw [← hwb]
  clear hwb
  have HS0' := Lib.hid ((HS0.out.below BXB.out (Nat.le_refl _)).more BXB.out.size)
  have HS1' := Lib.hid ((HS1.out.below BXB.out (Nat.le_refl _)).more BXB.out.size)
  refine (szModel_any (.agg #[.int .i64 cS, .int .i64 cT, .slice a0_2 n0_2 c0_2, .slice a0_3 n0_3 c0_3, .slice a0_4 n0_4 c0_4]) cS cT cP cQ cR 1048576 wb HS0'.out (by omega) (by omega) hx0_2 hx0_3 hx0_4).mono ?_
  rintro e w1 ⟨y0, rfl, hy0_0, hy1_0, hyn0, hb1⟩
  have s0_1 := hb1
  by_cases hneg : y0 < 0
  · clear hyn0
    go_wp2_with fail
    go_ret
    exact ⟨rfl, BXB.out.trans (s0_1.mono BXB.out.size)⟩
  have hyq0 : 0 ≤ y0 := by omega
  obtain ⟨hs0_2, hs0_3, hs0_4⟩ := hyn0 hyq0
  have hm0_2 : cP.length ≤ 4294967296 := by omega
  have hm0_3 : cQ.length ≤ 4294967296 := by omega
  have hm0_4 : cR.length ≤ 4294967296 := by omega
  clear hyn0 hneg
  have kc1_0 := (BX1.out.below s0_1 BX1.out.lt).cell 0
  have kc1_1 := (BX1.out.below s0_1 BX1.out.lt).cell 1
  have kc1_2 := (BX1.out.below s0_1 BX1.out.lt).cell 2
  have kc1_3 := (BX1.out.below s0_1 BX1.out.lt).cell 3
  have kc1_4 := (BX1.out.below s0_1 BX1.out.lt).cell 4
  go_wp2_with fail
  clear kc1_0 kc1_1 kc1_2 kc1_3 kc1_4
  refine (szModel_any (.agg #[.int .i64 dS, .int .i64 dT, .slice a1_2 n1_2 c1_2, .slice a1_3 n1_3 c1_3, .slice a1_4 n1_4 c1_4]) dS dT dP dQ dR y0 w1 ((HS1'.out.below s0_1 (Nat.le_refl _)).more s0_1.size) (by omega) (by omega) hx1_2 hx1_3 hx1_4).mono ?_
  rintro e w2 ⟨y1, rfl, hy0_1, hy1_1, hyn1, hb2⟩
  have s0_2 := s0_1.trans (hb2.mono s0_1.size)
  by_cases hneg : y1 < 0
  · clear hyn1
    go_wp2_with fail
    go_ret
    exact ⟨rfl, BXB.out.trans (s0_2.mono BXB.out.size)⟩
  have hyq1 : 0 ≤ y1 := by omega
  obtain ⟨hs1_2, hs1_3, hs1_4⟩ := hyn1 hyq1
  have hm1_2 : dP.length ≤ 4294967296 := by omega
  have hm1_3 : dQ.length ≤ 4294967296 := by omega
  have hm1_4 : dR.length ≤ 4294967296 := by omega
  clear hyn1 hneg
  obtain ⟨ok, hok⟩ : ∃ ok, ok = smM cS cT cP cQ cR dS dT dP dQ dR := ⟨_, rfl⟩
  have kc0_0 := (BX0.out.below s0_2 BX0.out.lt).cell 0
  have kc0_1 := (BX0.out.below s0_2 BX0.out.lt).cell 1
  have kc0_2 := (BX0.out.below s0_2 BX0.out.lt).cell 2
  have kc0_3 := (BX0.out.below s0_2 BX0.out.lt).cell 3
  have kc0_4 := (BX0.out.below s0_2 BX0.out.lt).cell 4
  have kc1_0 := (BX1.out.below s0_2 BX1.out.lt).cell 0
  have kc1_1 := (BX1.out.below s0_2 BX1.out.lt).cell 1
  have kc1_2 := (BX1.out.below s0_2 BX1.out.lt).cell 2
  have kc1_3 := (BX1.out.below s0_2 BX1.out.lt).cell 3
  have kc1_4 := (BX1.out.below s0_2 BX1.out.lt).cell 4
  go_wp2_with fail
  have hsrc0 := Lib.hid ((HS0'.out.below s0_2 (Nat.le_refl _)).more s0_2.size)
  have hsrc1 := Lib.hid ((HS1'.out.below s0_2 (Nat.le_refl _)).more s0_2.size)
  have hcells : ∀ x : World, Below w2.heap.size w2 x → (x.cell? ⟨w.heap.size, 0, none⟩ = some (.int .i64 cS) ∧ x.cell? ⟨w.heap.size, 1, none⟩ = some (.int .i64 cT) ∧ x.cell? ⟨w.heap.size, 2, none⟩ = some (.slice a0_2 n0_2 c0_2) ∧ x.cell? ⟨w.heap.size, 3, none⟩ = some (.slice a0_3 n0_3 c0_3) ∧ x.cell? ⟨w.heap.size, 4, none⟩ = some (.slice a0_4 n0_4 c0_4) ∧ x.cell? ⟨w.heap.size + 1, 0, none⟩ = some (.int .i64 dS) ∧ x.cell? ⟨w.heap.size + 1, 1, none⟩ = some (.int .i64 dT) ∧ x.cell? ⟨w.heap.size + 1, 2, none⟩ = some (.slice a1_2 n1_2 c1_2) ∧ x.cell? ⟨w.heap.size + 1, 3, none⟩ = some (.slice a1_3 n1_3 c1_3) ∧ x.cell? ⟨w.heap.size + 1, 4, none⟩ = some (.slice a1_4 n1_4 c1_4)) := by
    intro x hx
    have r0 := (BX0.out.below s0_2 BX0.out.lt)
    have r0 := r0.below hx r0.lt
    have r1 := (BX1.out.below s0_2 BX1.out.lt)
    have r1 := r1.below hx r1.lt
    exact ⟨r0.cell 0, r0.cell 1, r0.cell 2, r0.cell 3, r0.cell 4, r1.cell 0, r1.cell 1, r1.cell 2, r1.cell 3, r1.cell 4⟩
  have hcells := Lib.hid hcells
  have hkeep : Hid (∀ x y : World, Below w2.heap.size w2 x → Below x.heap.size x y → (Below w2.heap.size w2 y ∧ y.cell? ⟨w.heap.size, 0, none⟩ = some (.int .i64 cS) ∧ y.cell? ⟨w.heap.size, 1, none⟩ = some (.int .i64 cT) ∧ y.cell? ⟨w.heap.size, 2, none⟩ = some (.slice a0_2 n0_2 c0_2) ∧ y.cell? ⟨w.heap.size, 3, none⟩ = some (.slice a0_3 n0_3 c0_3) ∧ y.cell? ⟨w.heap.size, 4, none⟩ = some (.slice a0_4 n0_4 c0_4) ∧ y.cell? ⟨w.heap.size + 1, 0, none⟩ = some (.int .i64 dS) ∧ y.cell? ⟨w.heap.size + 1, 1, none⟩ = some (.int .i64 dT) ∧ y.cell? ⟨w.heap.size + 1, 2, none⟩ = some (.slice a1_2 n1_2 c1_2) ∧ y.cell? ⟨w.heap.size + 1, 3, none⟩ = some (.slice a1_3 n1_3 c1_3) ∧ y.cell? ⟨w.heap.size + 1, 4, none⟩ = some (.slice a1_4 n1_4 c1_4))) := by
    intro x y h1 h2
    have h3 := h1.trans (h2.mono h1.size)
    exact ⟨h3, hcells.out y h3⟩
  have hfrom := hcells.out w2 (Below.refl _ _)
  have hdr : Below w2.heap.size w2 w2.drew := Below.drew (Below.refl _ _)
  go_region_held3 (fun x => Below w2.heap.size w2 x ∧ x.cell? ⟨w.heap.size, 0, none⟩ = some (.int .i64 cS) ∧ x.cell? ⟨w.heap.size, 1, none⟩ = some (.int .i64 cT) ∧ x.cell? ⟨w.heap.size, 2, none⟩ = some (.slice a0_2 n0_2 c0_2) ∧ x.cell? ⟨w.heap.size, 3, none⟩ = some (.slice a0_3 n0_3 c0_3) ∧ x.cell? ⟨w.heap.size, 4, none⟩ = some (.slice a0_4 n0_4 c0_4) ∧ x.cell? ⟨w.heap.size + 1, 0, none⟩ = some (.int .i64 dS) ∧ x.cell? ⟨w.heap.size + 1, 1, none⟩ = some (.int .i64 dT) ∧ x.cell? ⟨w.heap.size + 1, 2, none⟩ = some (.slice a1_2 n1_2 c1_2) ∧ x.cell? ⟨w.heap.size + 1, 3, none⟩ = some (.slice a1_3 n1_3 c1_3) ∧ x.cell? ⟨w.heap.size + 1, 4, none⟩ = some (.slice a1_4 n1_4 c1_4)) (first | assumption | go_keep)
    (first
      | (go_at_call_of 16 (Value.slice a0_2 n0_2 c0_2); refine (toModel_any _ cS cT cP cQ cR _ ?_ hm0_2 hm0_3 hm0_4).mono ?_; (exact (hsrc0.out.below (by first | assumption | (apply And.left; assumption)) (Nat.le_refl _)).more (Below.size (by first | assumption | (apply And.left; assumption)))); rintro e wz0 ⟨uz, rfl, hrz, hbz0⟩; have hkz0 := (fun h => hkeep.out _ _ h hbz0) (by first | assumption | (apply And.left; assumption)); obtain ⟨gb0_2, gb0_3, gb0_4, hu⟩ := hrz.shape; subst hu; have HCz0 := Lib.hid hrz.cg; clear hrz)
      | (go_at_call_of 16 (Value.slice a1_2 n1_2 c1_2); refine (toModel_any _ dS dT dP dQ dR _ ?_ hm1_2 hm1_3 hm1_4).mono ?_; (exact (hsrc1.out.below (by first | assumption | (apply And.left; assumption)) (Nat.le_refl _)).more (Below.size (by first | assumption | (apply And.left; assumption)))); rintro e wz1 ⟨uz, rfl, hrz, hbz1⟩; have hkz1 := (fun h => hkeep.out _ _ h hbz1) (by first | assumption | (apply And.left; assumption)); obtain ⟨gb1_2, gb1_3, gb1_4, hu⟩ := hrz.shape; subst hu; have HCz1 := Lib.hid hrz.cg; clear hrz; have HCz0 := Lib.hid ((HCz0.out.below hbz1 (Nat.le_refl _)).more hbz1.size))
      | (go_at_call 15; refine (sSameModel_any _ _ cS cT cP cQ cR dS dT dP dQ dR _ HCz0.out HCz1.out hm0_2 hm0_3 hm0_4 hm1_2 hm1_3 hm1_4).mono ?_; rintro e w3 ⟨rfl, hbz9⟩; have hk9 := (fun h => hkeep.out _ _ h hbz9) (by first | assumption | (apply And.left; assumption))))
  have hb3 : Below w2.heap.size w2 w3 := (by first | assumption | (apply And.left; assumption))
  clear hfrom hdr hkeep hcells hsrc0 hsrc1 kc0_0 kc0_1 kc0_2 kc0_3 kc0_4 kc1_0 kc1_1 kc1_2 kc1_3 kc1_4
  rw [← hok]
  have s0_3 := s0_2.trans (hb3.mono s0_2.size)
  have kc0_0 := (BX0.out.below s0_3 BX0.out.lt).cell 0
  have kc0_1 := (BX0.out.below s0_3 BX0.out.lt).cell 1
  have kc0_2 := (BX0.out.below s0_3 BX0.out.lt).cell 2
  have kc0_3 := (BX0.out.below s0_3 BX0.out.lt).cell 3
  have kc0_4 := (BX0.out.below s0_3 BX0.out.lt).cell 4
  go_wp2_with fail
  clear kc0_0 kc0_1 kc0_2 kc0_3 kc0_4
  refine (toModel_any (.agg #[.int .i64 cS, .int .i64 cT, .slice a0_2 n0_2 c0_2, .slice a0_3 n0_3 c0_3, .slice a0_4 n0_4 c0_4]) cS cT cP cQ cR w3 ((HS0'.out.below s0_3 (Nat.le_refl _)).more s0_3.size) hm0_2 hm0_3 hm0_4).mono ?_
  rintro e w4 ⟨u4, rfl, hr4, hb4⟩
  obtain ⟨ga4_2, ga4_3, ga4_4, hu⟩ := hr4.shape
  subst hu
  have H4 := Lib.hid hr4.cg
  clear hr4
  obtain ⟨w5, hwb⟩ : ∃ x, x = w4.alloc (.cells ([.int .i64 cS, .int .i64 cT, .slice (some ⟨ga4_2, 0, none⟩) cP.length cP.length, .slice (some ⟨ga4_3, 0, none⟩) cQ.length cQ.length, .slice (some ⟨ga4_4, 0, none⟩) cR.length cR.length] : List Value).toArray 27) := ⟨_, rfl⟩
  have bq := Row.new w4 27 [.int .i64 cS, .int .i64 cT, .slice (some ⟨ga4_2, 0, none⟩) cP.length cP.length, .slice (some ⟨ga4_3, 0, none⟩) cQ.length cQ.length, .slice (some ⟨ga4_4, 0, none⟩) cR.length cR.length]
  have hb5 : Below w4.heap.size w4 (w4.alloc (.cells ([.int .i64 cS, .int .i64 cT, .slice (some ⟨ga4_2, 0, none⟩) cP.length cP.length, .slice (some ⟨ga4_3, 0, none⟩) cQ.length cQ.length, .slice (some ⟨ga4_4, 0, none⟩) cR.length cR.length] : List Value).toArray 27)) := (Below.refl _ _).alloc (Nat.le_refl _) _
  rw [← hwb] at bq hb5
  have BXx4 := Lib.hid bq; clear bq
  have s0_4 := s0_3.trans (hb4.mono s0_3.size)
  have s0_5 := s0_4.trans (hb5.mono s0_4.size)
  have kc1_0 := (BX1.out.below s0_5 BX1.out.lt).cell 0
  have kc1_1 := (BX1.out.below s0_5 BX1.out.lt).cell 1
  have kc1_2 := (BX1.out.below s0_5 BX1.out.lt).cell 2
  have kc1_3 := (BX1.out.below s0_5 BX1.out.lt).cell 3
  have kc1_4 := (BX1.out.below s0_5 BX1.out.lt).cell 4
  rw [hwb] at kc1_0 kc1_1 kc1_2 kc1_3 kc1_4
  go_wp2_with fail
  clear kc1_0 kc1_1 kc1_2 kc1_3 kc1_4
  change Calls _ _ _ (w4.alloc (.cells ([.int .i64 cS, .int .i64 cT, .slice (some ⟨ga4_2, 0, none⟩) cP.length cP.length, .slice (some ⟨ga4_3, 0, none⟩) cQ.length cQ.length, .slice (some ⟨ga4_4, 0, none⟩) cR.length cR.length] : List Value).toArray 27)) _
  rw [← hwb]
  clear hwb
  refine (toModel_any (.agg #[.int .i64 dS, .int .i64 dT, .slice a1_2 n1_2 c1_2, .slice a1_3 n1_3 c1_3, .slice a1_4 n1_4 c1_4]) dS dT dP dQ dR w5 ((HS1'.out.below s0_5 (Nat.le_refl _)).more s0_5.size) hm1_2 hm1_3 hm1_4).mono ?_
  rintro e w6 ⟨u6, rfl, hr6, hb6⟩
  obtain ⟨ga6_2, ga6_3, ga6_4, hu⟩ := hr6.shape
  subst hu
  have H6 := Lib.hid hr6.cg
  clear hr6
  obtain ⟨w7, hwb⟩ : ∃ x, x = w6.alloc (.cells ([.int .i64 dS, .int .i64 dT, .slice (some ⟨ga6_2, 0, none⟩) dP.length dP.length, .slice (some ⟨ga6_3, 0, none⟩) dQ.length dQ.length, .slice (some ⟨ga6_4, 0, none⟩) dR.length dR.length] : List Value).toArray 27) := ⟨_, rfl⟩
  have bq := Row.new w6 27 [.int .i64 dS, .int .i64 dT, .slice (some ⟨ga6_2, 0, none⟩) dP.length dP.length, .slice (some ⟨ga6_3, 0, none⟩) dQ.length dQ.length, .slice (some ⟨ga6_4, 0, none⟩) dR.length dR.length]
  have hb7 : Below w6.heap.size w6 (w6.alloc (.cells ([.int .i64 dS, .int .i64 dT, .slice (some ⟨ga6_2, 0, none⟩) dP.length dP.length, .slice (some ⟨ga6_3, 0, none⟩) dQ.length dQ.length, .slice (some ⟨ga6_4, 0, none⟩) dR.length dR.length] : List Value).toArray 27)) := (Below.refl _ _).alloc (Nat.le_refl _) _
  rw [← hwb] at bq hb7
  have BXx6 := Lib.hid bq; clear bq
  have s5_6 := hb6
  have s5_7 := s5_6.trans (hb7.mono s5_6.size)
  have kx4_0 := (BXx4.out.below s5_7 BXx4.out.lt).cell 0
  have kx4_1 := (BXx4.out.below s5_7 BXx4.out.lt).cell 1
  have kx4_2 := (BXx4.out.below s5_7 BXx4.out.lt).cell 2
  have kx4_3 := (BXx4.out.below s5_7 BXx4.out.lt).cell 3
  have kx4_4 := (BXx4.out.below s5_7 BXx4.out.lt).cell 4
  rw [hwb] at kx4_0 kx4_1 kx4_2 kx4_3 kx4_4
  go_wp2_with fail
  clear kx4_0 kx4_1 kx4_2 kx4_3 kx4_4
  change Calls _ _ _ (w6.alloc (.cells ([.int .i64 dS, .int .i64 dT, .slice (some ⟨ga6_2, 0, none⟩) dP.length dP.length, .slice (some ⟨ga6_3, 0, none⟩) dQ.length dQ.length, .slice (some ⟨ga6_4, 0, none⟩) dR.length dR.length] : List Value).toArray 27)) _
  rw [← hwb]
  clear hwb
  have s4_5 := hb5
  have s4_6 := s4_5.trans (hb6.mono s4_5.size)
  have s4_7 := s4_6.trans (hb7.mono s4_6.size)
  have s6_7 := hb7
  refine (iSameModel_any _ _ cS cT cP cQ cR dS dT dP dQ dR w7 ((H4.out.below s4_7 (Nat.le_refl _)).more s4_7.size) ((H6.out.below s6_7 (Nat.le_refl _)).more s6_7.size) hm0_2 hm0_3 hm0_4 hm1_2 hm1_3 hm1_4).mono ?_
  rintro e w8 ⟨rfl, hb8⟩
  rw [← hok]
  have s0_6 := s0_5.trans (hb6.mono s0_5.size)
  have s0_7 := s0_6.trans (hb7.mono s0_6.size)
  have s0_8 := s0_7.trans (hb8.mono s0_7.size)
  have kc0_0 := (BX0.out.below s0_8 BX0.out.lt).cell 0
  have kc0_1 := (BX0.out.below s0_8 BX0.out.lt).cell 1
  have kc0_2 := (BX0.out.below s0_8 BX0.out.lt).cell 2
  have kc0_3 := (BX0.out.below s0_8 BX0.out.lt).cell 3
  have kc0_4 := (BX0.out.below s0_8 BX0.out.lt).cell 4
  have s5_8 := s5_7.trans (hb8.mono s5_7.size)
  have kx4_0 := (BXx4.out.below s5_8 BXx4.out.lt).cell 0
  have kx4_1 := (BXx4.out.below s5_8 BXx4.out.lt).cell 1
  have kx4_2 := (BXx4.out.below s5_8 BXx4.out.lt).cell 2
  have kx4_3 := (BXx4.out.below s5_8 BXx4.out.lt).cell 3
  have kx4_4 := (BXx4.out.below s5_8 BXx4.out.lt).cell 4
  go_wp2_with fail
  have s4_8 := s4_7.trans (hb8.mono s4_7.size)
  have hsrc := Lib.hid ((HS0'.out.below s0_8 (Nat.le_refl _)).more s0_8.size)
  have hcop := Lib.hid ((H4.out.below s4_8 (Nat.le_refl _)).more s4_8.size)
  have hcells : ∀ x : World, Below w8.heap.size w8 x → (x.cell? ⟨w.heap.size, 0, none⟩ = some (.int .i64 cS) ∧ x.cell? ⟨w.heap.size, 1, none⟩ = some (.int .i64 cT) ∧ x.cell? ⟨w.heap.size, 2, none⟩ = some (.slice a0_2 n0_2 c0_2) ∧ x.cell? ⟨w.heap.size, 3, none⟩ = some (.slice a0_3 n0_3 c0_3) ∧ x.cell? ⟨w.heap.size, 4, none⟩ = some (.slice a0_4 n0_4 c0_4) ∧ x.cell? ⟨w4.heap.size, 0, none⟩ = some (.int .i64 cS) ∧ x.cell? ⟨w4.heap.size, 1, none⟩ = some (.int .i64 cT) ∧ x.cell? ⟨w4.heap.size, 2, none⟩ = some (.slice (some ⟨ga4_2, 0, none⟩) cP.length cP.length) ∧ x.cell? ⟨w4.heap.size, 3, none⟩ = some (.slice (some ⟨ga4_3, 0, none⟩) cQ.length cQ.length) ∧ x.cell? ⟨w4.heap.size, 4, none⟩ = some (.slice (some ⟨ga4_4, 0, none⟩) cR.length cR.length)) := by
    intro x hx
    have ra := (BX0.out.below s0_8 BX0.out.lt)
    have rx := (BXx4.out.below s5_8 BXx4.out.lt)
    have ra' := ra.below hx ra.lt
    have rx' := rx.below hx rx.lt
    exact ⟨ra'.cell 0, ra'.cell 1, ra'.cell 2, ra'.cell 3, ra'.cell 4, rx'.cell 0, rx'.cell 1, rx'.cell 2, rx'.cell 3, rx'.cell 4⟩
  have hcells := Lib.hid hcells
  have hkeep : Hid (∀ x y : World, Below w8.heap.size w8 x → Below x.heap.size x y → (Below w8.heap.size w8 y ∧ y.cell? ⟨w.heap.size, 0, none⟩ = some (.int .i64 cS) ∧ y.cell? ⟨w.heap.size, 1, none⟩ = some (.int .i64 cT) ∧ y.cell? ⟨w.heap.size, 2, none⟩ = some (.slice a0_2 n0_2 c0_2) ∧ y.cell? ⟨w.heap.size, 3, none⟩ = some (.slice a0_3 n0_3 c0_3) ∧ y.cell? ⟨w.heap.size, 4, none⟩ = some (.slice a0_4 n0_4 c0_4) ∧ y.cell? ⟨w4.heap.size, 0, none⟩ = some (.int .i64 cS) ∧ y.cell? ⟨w4.heap.size, 1, none⟩ = some (.int .i64 cT) ∧ y.cell? ⟨w4.heap.size, 2, none⟩ = some (.slice (some ⟨ga4_2, 0, none⟩) cP.length cP.length) ∧ y.cell? ⟨w4.heap.size, 3, none⟩ = some (.slice (some ⟨ga4_3, 0, none⟩) cQ.length cQ.length) ∧ y.cell? ⟨w4.heap.size, 4, none⟩ = some (.slice (some ⟨ga4_4, 0, none⟩) cR.length cR.length))) := by
    intro x y h1 h2
    have h3 := h1.trans (h2.mono h1.size)
    exact ⟨h3, hcells.out y h3⟩
  have hfrom := hcells.out w8 (Below.refl _ _)
  have hdr : Below w8.heap.size w8 w8.drew := Below.drew (Below.refl _ _)
  go_region_held3 (fun x => Below w8.heap.size w8 x ∧ x.cell? ⟨w.heap.size, 0, none⟩ = some (.int .i64 cS) ∧ x.cell? ⟨w.heap.size, 1, none⟩ = some (.int .i64 cT) ∧ x.cell? ⟨w.heap.size, 2, none⟩ = some (.slice a0_2 n0_2 c0_2) ∧ x.cell? ⟨w.heap.size, 3, none⟩ = some (.slice a0_3 n0_3 c0_3) ∧ x.cell? ⟨w.heap.size, 4, none⟩ = some (.slice a0_4 n0_4 c0_4) ∧ x.cell? ⟨w4.heap.size, 0, none⟩ = some (.int .i64 cS) ∧ x.cell? ⟨w4.heap.size, 1, none⟩ = some (.int .i64 cT) ∧ x.cell? ⟨w4.heap.size, 2, none⟩ = some (.slice (some ⟨ga4_2, 0, none⟩) cP.length cP.length) ∧ x.cell? ⟨w4.heap.size, 3, none⟩ = some (.slice (some ⟨ga4_3, 0, none⟩) cQ.length cQ.length) ∧ x.cell? ⟨w4.heap.size, 4, none⟩ = some (.slice (some ⟨ga4_4, 0, none⟩) cR.length cR.length)) (first | assumption | go_keep)
    (first
      | (go_at_call 16; refine (toModel_any _ cS cT cP cQ cR _ ?_ hm0_2 hm0_3 hm0_4).mono ?_; (exact (hsrc.out.below (by first | assumption | (apply And.left; assumption)) (Nat.le_refl _)).more (Below.size (by first | assumption | (apply And.left; assumption)))); rintro e wz ⟨uz, rfl, hrz, hbz⟩; have hkz := (fun h => hkeep.out _ _ h hbz) (by first | assumption | (apply And.left; assumption)); obtain ⟨gb2, gb3, gb4, hu⟩ := hrz.shape; subst hu; have HCz := Lib.hid hrz.cg; clear hrz)
      | (go_at_call 18; refine (eqModel_same _ _ cS cT cP cQ cR _ ?_ ?_ hm0_2 hm0_3 hm0_4).mono ?_; (exact (hcop.out.below (by first | assumption | (apply And.left; assumption)) (Nat.le_refl _)).more (Below.size (by first | assumption | (apply And.left; assumption)))); (exact HCz.out); rintro e w9 ⟨rfl, hbz2⟩; have hk2 := (fun h => hkeep.out _ _ h hbz2) (by first | assumption | (apply And.left; assumption))))
  have hb9 : Below w8.heap.size w8 w9 := (by first | assumption | (apply And.left; assumption))
  clear hfrom hdr hkeep hcells hsrc hcop kc0_0 kc0_1 kc0_2 kc0_3 kc0_4 kx4_0 kx4_1 kx4_2 kx4_3 kx4_4
  have s0_9 := s0_8.trans (hb9.mono s0_8.size)
  have kc1_0 := (BX1.out.below s0_9 BX1.out.lt).cell 0
  have kc1_1 := (BX1.out.below s0_9 BX1.out.lt).cell 1
  have kc1_2 := (BX1.out.below s0_9 BX1.out.lt).cell 2
  have kc1_3 := (BX1.out.below s0_9 BX1.out.lt).cell 3
  have kc1_4 := (BX1.out.below s0_9 BX1.out.lt).cell 4
  have s7_8 := hb8
  have s7_9 := s7_8.trans (hb9.mono s7_8.size)
  have kx6_0 := (BXx6.out.below s7_9 BXx6.out.lt).cell 0
  have kx6_1 := (BXx6.out.below s7_9 BXx6.out.lt).cell 1
  have kx6_2 := (BXx6.out.below s7_9 BXx6.out.lt).cell 2
  have kx6_3 := (BXx6.out.below s7_9 BXx6.out.lt).cell 3
  have kx6_4 := (BXx6.out.below s7_9 BXx6.out.lt).cell 4
  go_wp2_with fail
  have s6_8 := s6_7.trans (hb8.mono s6_7.size)
  have s6_9 := s6_8.trans (hb9.mono s6_8.size)
  have hsrc := Lib.hid ((HS1'.out.below s0_9 (Nat.le_refl _)).more s0_9.size)
  have hcop := Lib.hid ((H6.out.below s6_9 (Nat.le_refl _)).more s6_9.size)
  have hcells : ∀ x : World, Below w9.heap.size w9 x → (x.cell? ⟨w.heap.size + 1, 0, none⟩ = some (.int .i64 dS) ∧ x.cell? ⟨w.heap.size + 1, 1, none⟩ = some (.int .i64 dT) ∧ x.cell? ⟨w.heap.size + 1, 2, none⟩ = some (.slice a1_2 n1_2 c1_2) ∧ x.cell? ⟨w.heap.size + 1, 3, none⟩ = some (.slice a1_3 n1_3 c1_3) ∧ x.cell? ⟨w.heap.size + 1, 4, none⟩ = some (.slice a1_4 n1_4 c1_4) ∧ x.cell? ⟨w6.heap.size, 0, none⟩ = some (.int .i64 dS) ∧ x.cell? ⟨w6.heap.size, 1, none⟩ = some (.int .i64 dT) ∧ x.cell? ⟨w6.heap.size, 2, none⟩ = some (.slice (some ⟨ga6_2, 0, none⟩) dP.length dP.length) ∧ x.cell? ⟨w6.heap.size, 3, none⟩ = some (.slice (some ⟨ga6_3, 0, none⟩) dQ.length dQ.length) ∧ x.cell? ⟨w6.heap.size, 4, none⟩ = some (.slice (some ⟨ga6_4, 0, none⟩) dR.length dR.length)) := by
    intro x hx
    have ra := (BX1.out.below s0_9 BX1.out.lt)
    have rx := (BXx6.out.below s7_9 BXx6.out.lt)
    have ra' := ra.below hx ra.lt
    have rx' := rx.below hx rx.lt
    exact ⟨ra'.cell 0, ra'.cell 1, ra'.cell 2, ra'.cell 3, ra'.cell 4, rx'.cell 0, rx'.cell 1, rx'.cell 2, rx'.cell 3, rx'.cell 4⟩
  have hcells := Lib.hid hcells
  have hkeep : Hid (∀ x y : World, Below w9.heap.size w9 x → Below x.heap.size x y → (Below w9.heap.size w9 y ∧ y.cell? ⟨w.heap.size + 1, 0, none⟩ = some (.int .i64 dS) ∧ y.cell? ⟨w.heap.size + 1, 1, none⟩ = some (.int .i64 dT) ∧ y.cell? ⟨w.heap.size + 1, 2, none⟩ = some (.slice a1_2 n1_2 c1_2) ∧ y.cell? ⟨w.heap.size + 1, 3, none⟩ = some (.slice a1_3 n1_3 c1_3) ∧ y.cell? ⟨w.heap.size + 1, 4, none⟩ = some (.slice a1_4 n1_4 c1_4) ∧ y.cell? ⟨w6.heap.size, 0, none⟩ = some (.int .i64 dS) ∧ y.cell? ⟨w6.heap.size, 1, none⟩ = some (.int .i64 dT) ∧ y.cell? ⟨w6.heap.size, 2, none⟩ = some (.slice (some ⟨ga6_2, 0, none⟩) dP.length dP.length) ∧ y.cell? ⟨w6.heap.size, 3, none⟩ = some (.slice (some ⟨ga6_3, 0, none⟩) dQ.length dQ.length) ∧ y.cell? ⟨w6.heap.size, 4, none⟩ = some (.slice (some ⟨ga6_4, 0, none⟩) dR.length dR.length))) := by
    intro x y h1 h2
    have h3 := h1.trans (h2.mono h1.size)
    exact ⟨h3, hcells.out y h3⟩
  have hfrom := hcells.out w9 (Below.refl _ _)
  have hdr : Below w9.heap.size w9 w9.drew := Below.drew (Below.refl _ _)
  go_region_held3 (fun x => Below w9.heap.size w9 x ∧ x.cell? ⟨w.heap.size + 1, 0, none⟩ = some (.int .i64 dS) ∧ x.cell? ⟨w.heap.size + 1, 1, none⟩ = some (.int .i64 dT) ∧ x.cell? ⟨w.heap.size + 1, 2, none⟩ = some (.slice a1_2 n1_2 c1_2) ∧ x.cell? ⟨w.heap.size + 1, 3, none⟩ = some (.slice a1_3 n1_3 c1_3) ∧ x.cell? ⟨w.heap.size + 1, 4, none⟩ = some (.slice a1_4 n1_4 c1_4) ∧ x.cell? ⟨w6.heap.size, 0, none⟩ = some (.int .i64 dS) ∧ x.cell? ⟨w6.heap.size, 1, none⟩ = some (.int .i64 dT) ∧ x.cell? ⟨w6.heap.size, 2, none⟩ = some (.slice (some ⟨ga6_2, 0, none⟩) dP.length dP.length) ∧ x.cell? ⟨w6.heap.size, 3, none⟩ = some (.slice (some ⟨ga6_3, 0, none⟩) dQ.length dQ.length) ∧ x.cell? ⟨w6.heap.size, 4, none⟩ = some (.slice (some ⟨ga6_4, 0, none⟩) dR.length dR.length)) (first | assumption | go_keep)
    (first
      | (go_at_call 16; refine (toModel_any _ dS dT dP dQ dR _ ?_ hm1_2 hm1_3 hm1_4).mono ?_; (exact (hsrc.out.below (by first | assumption | (apply And.left; assumption)) (Nat.le_refl _)).more (Below.size (by first | assumption | (apply And.left; assumption)))); rintro e wz ⟨uz, rfl, hrz, hbz⟩; have hkz := (fun h => hkeep.out _ _ h hbz) (by first | assumption | (apply And.left; assumption)); obtain ⟨gb2, gb3, gb4, hu⟩ := hrz.shape; subst hu; have HCz := Lib.hid hrz.cg; clear hrz)
      | (go_at_call 18; refine (eqModel_same _ _ dS dT dP dQ dR _ ?_ ?_ hm1_2 hm1_3 hm1_4).mono ?_; (exact (hcop.out.below (by first | assumption | (apply And.left; assumption)) (Nat.le_refl _)).more (Below.size (by first | assumption | (apply And.left; assumption)))); (exact HCz.out); rintro e w10 ⟨rfl, hbz2⟩; have hk2 := (fun h => hkeep.out _ _ h hbz2) (by first | assumption | (apply And.left; assumption))))
  have hb10 : Below w9.heap.size w9 w10 := (by first | assumption | (apply And.left; assumption))
  clear hfrom hdr hkeep hcells hsrc hcop kc1_0 kc1_1 kc1_2 kc1_3 kc1_4 kx6_0 kx6_1 kx6_2 kx6_3 kx6_4
  go_wp2_with fail
  go_ret
  have s0_10 := s0_9.trans (hb10.mono s0_9.size)
  exact ⟨rfl, BXB.out.trans (s0_10.mono BXB.out.size)⟩
end Go.Proofs.Ytkgifbiaaaemnaa.fnExactSameModel
