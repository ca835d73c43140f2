/- FnExactValidChange: the walk: the law returns true. -/
import Derived.Test.YtcmnhnapnnpbdaaVc
import Derived.Test.YtcmnhnapnnpbdaaChg
import Derived.Test.YtcmnhnapnnpbdaaKp
import Derived.Deep.RegionHeld3
namespace Go.Proofs.Ytcmnhnapnnpbdaa.fnExactValidChange
open Go.RowKit
set_option linter.unusedVariables false
set_option maxHeartbeats 4000000 in
theorem walk (a0_0 : Option Addr) (n0_0 c0_0 : Nat) (z0_0 : List Int) (a0_1 : Option Addr) (n0_1 c0_1 : Nat) (z0_1 : List Int) (a0_2 : Option Addr) (n0_2 c0_2 : Nat) (z0_2 : List Int) (a0_3 : Option Addr) (n0_3 c0_3 : Nat) (z0_3 : List Int) (letters : Int) (w : World) (wf0_0 : IsRow .i64 w a0_0 n0_0 c0_0 z0_0) (wf0_1 : IsRow .i64 w a0_1 n0_1 c0_1 z0_1) (wf0_2 : IsRow .i64 w a0_2 n0_2 c0_2 z0_2) (wf0_3 : IsRow .i64 w a0_3 n0_3 c0_3 z0_3) (wf1 : (Lit.int .i64 letters).wf = true) :
    Calls Try.prog 4 #[.agg #[.slice a0_0 n0_0 c0_0, .slice a0_1 n0_1 c0_1, .slice a0_2 n0_2 c0_2, .slice a0_3 n0_3 c0_3], .int .i64 letters] w fun e w' => e = .returned (.bool true) ∧ Below w.heap.size w w' := by
  have hL0_0 := wf0_0.lens
  have hS0_0 := wf0_0.sl
  have hx0_0 : n0_0 ≤ 9223372036854775807 := by have := Nat.le_trans hL0_0.1 hL0_0.2.1; unfold maxLen at this; omega
  obtain ⟨cL, he0_0⟩ : ∃ ss, ss = z0_0.take n0_0 := ⟨_, rfl⟩
  rw [← he0_0] at hS0_0
  have hy0_0 := hS0_0.len
  clear he0_0 hL0_0 wf0_0
  have hL0_1 := wf0_1.lens
  have hS0_1 := wf0_1.sl
  have hx0_1 : n0_1 ≤ 9223372036854775807 := by have := Nat.le_trans hL0_1.1 hL0_1.2.1; unfold maxLen at this; omega
  obtain ⟨cF, he0_1⟩ : ∃ ss, ss = z0_1.take n0_1 := ⟨_, rfl⟩
  rw [← he0_1] at hS0_1
  have hy0_1 := hS0_1.len
  clear he0_1 hL0_1 wf0_1
  have hL0_2 := wf0_2.lens
  have hS0_2 := wf0_2.sl
  have hx0_2 : n0_2 ≤ 9223372036854775807 := by have := Nat.le_trans hL0_2.1 hL0_2.2.1; unfold maxLen at this; omega
  obtain ⟨cG, he0_2⟩ : ∃ ss, ss = z0_2.take n0_2 := ⟨_, rfl⟩
  rw [← he0_2] at hS0_2
  have hy0_2 := hS0_2.len
  clear he0_2 hL0_2 wf0_2
  have hL0_3 := wf0_3.lens
  have hS0_3 := wf0_3.sl
  have hx0_3 : n0_3 ≤ 9223372036854775807 := by have := Nat.le_trans hL0_3.1 hL0_3.2.1; unfold maxLen at this; omega
  obtain ⟨cR, he0_3⟩ : ∃ ss, ss = z0_3.take n0_3 := ⟨_, rfl⟩
  rw [← he0_3] at hS0_3
  have hy0_3 := hS0_3.len
  clear he0_3 hL0_3 wf0_3
  have hC0 : Cg w w.heap.size (.agg #[.slice a0_0 n0_0 c0_0, .slice a0_1 n0_1 c0_1, .slice a0_2 n0_2 c0_2, .slice a0_3 n0_3 c0_3]) cL cF cG cR := ⟨_, _, _, _, _, _, _, _, _, _, _, _, rfl, hS0_0, hS0_1, hS0_2, hS0_3⟩
  rw [← hy0_0] at hx0_0
  rw [← hy0_1] at hx0_1
  rw [← hy0_2] at hx0_2
  rw [← hy0_3] at hx0_3
  clear hS0_0 hy0_0 hS0_1 hy0_1 hS0_2 hy0_2 hS0_3 hy0_3
  have HS0 := Lib.hid hC0; clear hC0
  have bx0 := Row.new (w) 24 [.slice a0_0 n0_0 c0_0, .slice a0_1 n0_1 c0_1, .slice a0_2 n0_2 c0_2, .slice a0_3 n0_3 c0_3]
  have bxb : Below w.heap.size w ((w).alloc (.cells ([.slice a0_0 n0_0 c0_0, .slice a0_1 n0_1 c0_1, .slice a0_2 n0_2 c0_2, .slice a0_3 n0_3 c0_3] : List Value).toArray 24)) := (Below.refl _ _).alloc (Nat.le_refl _) _
  have BX0 := Lib.hid bx0; clear bx0
  have BXB := Lib.hid bxb; clear bxb
  go_enter Try.func4, Try.ntmps4
  go_wp2_with fail
  obtain ⟨wb, hwb⟩ : ∃ x, x = (w).alloc (.cells ([.slice a0_0 n0_0 c0_0, .slice a0_1 n0_1 c0_1, .slice a0_2 n0_2 c0_2, .slice a0_3 n0_3 c0_3] : List Value).toArray 24) := ⟨_, rfl⟩
  rw [← hwb] at BX0
  rw [← hwb] at BXB
  change Calls _ _ _ ((w).alloc (.cells ([.slice a0_0 n0_0 c0_0, .slice a0_1 n0_1 c0_1, .slice a0_2 n0_2 c0_2, .slice a0_3 n0_3 c0_3] : List Value).toArray 24)) _
  rw [← hwb]
  clear hwb
  have HS0' := Lib.hid ((HS0.out.below BXB.out (Nat.le_refl _)).more BXB.out.size)
  refine (szChange_any (.agg #[.slice a0_0 n0_0 c0_0, .slice a0_1 n0_1 c0_1, .slice a0_2 n0_2 c0_2, .slice a0_3 n0_3 c0_3]) cL cF cG cR 1048576 wb HS0'.out (by omega) (by omega) hx0_0 hx0_1 hx0_2 hx0_3).mono ?_
  rintro e w1 ⟨y0, rfl, hy0_0, hy1_0, hyn0, hb1⟩
  have s0_1 := hb1
  by_cases hneg : y0 < 0
  · clear hyn0
    go_wp2_with fail
    go_ret
    exact ⟨rfl, BXB.out.trans (s0_1.mono BXB.out.size)⟩
  have hyq0 : 0 ≤ y0 := by omega
  obtain ⟨hs0_0, hs0_1, hs0_2, hs0_3⟩ := hyn0 hyq0
  have hm0_0 : cL.length ≤ 4294967296 := by omega
  have hm0_1 : cF.length ≤ 4294967296 := by omega
  have hm0_2 : cG.length ≤ 4294967296 := by omega
  have hm0_3 : cR.length ≤ 4294967296 := by omega
  clear hyn0 hneg
  obtain ⟨ok, hok⟩ : ∃ ok, ok = vcB cL cF cG cR letters := ⟨_, rfl⟩
  have kc0 := (BX0.out.below s0_1 BX0.out.lt).cell 0
  have kc1 := (BX0.out.below s0_1 BX0.out.lt).cell 1
  have kc2 := (BX0.out.below s0_1 BX0.out.lt).cell 2
  have kc3 := (BX0.out.below s0_1 BX0.out.lt).cell 3
  go_wp2_with fail
  clear kc0 kc1 kc2 kc3
  refine (toChange_any (.agg #[.slice a0_0 n0_0 c0_0, .slice a0_1 n0_1 c0_1, .slice a0_2 n0_2 c0_2, .slice a0_3 n0_3 c0_3]) cL cF cG cR w1 ((HS0'.out.below s0_1 (Nat.le_refl _)).more s0_1.size) hm0_0 hm0_1 hm0_2 hm0_3).mono ?_
  rintro e w2 ⟨u2, rfl, hr2, hb2⟩
  obtain ⟨ga2_0, ga2_1, ga2_2, ga2_3, hu⟩ := hr2.shape
  subst hu
  have H2 := Lib.hid hr2.cg
  have N2 := Lib.hid hr2.cgm; clear hr2
  go_wp2_with fail
  refine (sValid_any _ cL cF cG cR letters w2 H2.out hm0_0 hm0_1 hm0_2 hm0_3).mono ?_
  rintro e w3 ⟨rfl, hb3⟩
  rw [← hok]
  have s0_2 := s0_1.trans (hb2.mono s0_1.size)
  have s0_3 := s0_2.trans (hb3.mono s0_2.size)
  have kc0 := (BX0.out.below s0_3 BX0.out.lt).cell 0
  have kc1 := (BX0.out.below s0_3 BX0.out.lt).cell 1
  have kc2 := (BX0.out.below s0_3 BX0.out.lt).cell 2
  have kc3 := (BX0.out.below s0_3 BX0.out.lt).cell 3
  go_wp2_with fail
  clear kc0 kc1 kc2 kc3
  refine (toChange_any (.agg #[.slice a0_0 n0_0 c0_0, .slice a0_1 n0_1 c0_1, .slice a0_2 n0_2 c0_2, .slice a0_3 n0_3 c0_3]) cL cF cG cR w3 ((HS0'.out.below s0_3 (Nat.le_refl _)).more s0_3.size) hm0_0 hm0_1 hm0_2 hm0_3).mono ?_
  rintro e w4 ⟨u4, rfl, hr4, hb4⟩
  obtain ⟨ga4_0, ga4_1, ga4_2, ga4_3, hu⟩ := hr4.shape
  subst hu
  have H4 := Lib.hid hr4.cg
  have N4 := Lib.hid hr4.cgm; clear hr4
  go_wp2_with fail
  obtain ⟨w5, hwb⟩ : ∃ x, x = w4.alloc (.cells ([.slice (some ⟨ga4_0, 0, none⟩) cL.length cL.length, .slice (some ⟨ga4_1, 0, none⟩) cF.length cF.length, .slice (some ⟨ga4_2, 0, none⟩) cG.length cG.length, .slice (some ⟨ga4_3, 0, none⟩) cR.length cR.length] : List Value).toArray 27) := ⟨_, rfl⟩
  have bq := Row.new w4 27 [.slice (some ⟨ga4_0, 0, none⟩) cL.length cL.length, .slice (some ⟨ga4_1, 0, none⟩) cF.length cF.length, .slice (some ⟨ga4_2, 0, none⟩) cG.length cG.length, .slice (some ⟨ga4_3, 0, none⟩) cR.length cR.length]
  have hb5 : Below w4.heap.size w4 (w4.alloc (.cells ([.slice (some ⟨ga4_0, 0, none⟩) cL.length cL.length, .slice (some ⟨ga4_1, 0, none⟩) cF.length cF.length, .slice (some ⟨ga4_2, 0, none⟩) cG.length cG.length, .slice (some ⟨ga4_3, 0, none⟩) cR.length cR.length] : List Value).toArray 27)) := (Below.refl _ _).alloc (Nat.le_refl _) _
  rw [← hwb] at bq hb5
  change Calls _ _ _ (w4.alloc (.cells ([.slice (some ⟨ga4_0, 0, none⟩) cL.length cL.length, .slice (some ⟨ga4_1, 0, none⟩) cF.length cF.length, .slice (some ⟨ga4_2, 0, none⟩) cG.length cG.length, .slice (some ⟨ga4_3, 0, none⟩) cR.length cR.length] : List Value).toArray 27)) _
  rw [← hwb]
  clear hwb
  have BXx4 := Lib.hid bq; clear bq
  have s4_5 := hb5
  refine (iValid_any _ cL cF cG cR letters w5 ((H4.out.below s4_5 (Nat.le_refl _)).more s4_5.size) hm0_0 hm0_1 hm0_2 hm0_3).mono ?_
  rintro e w6 ⟨rfl, hb6⟩
  rw [← hok]
  have s0_4 := s0_3.trans (hb4.mono s0_3.size)
  have s0_5 := s0_4.trans (hb5.mono s0_4.size)
  have s0_6 := s0_5.trans (hb6.mono s0_5.size)
  have kc0 := (BX0.out.below s0_6 BX0.out.lt).cell 0
  have kc1 := (BX0.out.below s0_6 BX0.out.lt).cell 1
  have kc2 := (BX0.out.below s0_6 BX0.out.lt).cell 2
  have kc3 := (BX0.out.below s0_6 BX0.out.lt).cell 3
  have s5_6 := hb6
  have kx0 := (BXx4.out.below s5_6 BXx4.out.lt).cell 0
  have kx1 := (BXx4.out.below s5_6 BXx4.out.lt).cell 1
  have kx2 := (BXx4.out.below s5_6 BXx4.out.lt).cell 2
  have kx3 := (BXx4.out.below s5_6 BXx4.out.lt).cell 3
  go_wp2_with fail
  have s4_6 := s4_5.trans (hb6.mono s4_5.size)
  have hsrc := Lib.hid ((HS0'.out.below s0_6 (Nat.le_refl _)).more s0_6.size)
  have hcop := Lib.hid ((H4.out.below s4_6 (Nat.le_refl _)).more s4_6.size)
  have hcells : ∀ x : World, Below w6.heap.size w6 x → (x.cell? ⟨w.heap.size, 0, none⟩ = some (.slice a0_0 n0_0 c0_0) ∧ x.cell? ⟨w.heap.size, 1, none⟩ = some (.slice a0_1 n0_1 c0_1) ∧ x.cell? ⟨w.heap.size, 2, none⟩ = some (.slice a0_2 n0_2 c0_2) ∧ x.cell? ⟨w.heap.size, 3, none⟩ = some (.slice a0_3 n0_3 c0_3) ∧ x.cell? ⟨w4.heap.size, 0, none⟩ = some (.slice (some ⟨ga4_0, 0, none⟩) cL.length cL.length) ∧ x.cell? ⟨w4.heap.size, 1, none⟩ = some (.slice (some ⟨ga4_1, 0, none⟩) cF.length cF.length) ∧ x.cell? ⟨w4.heap.size, 2, none⟩ = some (.slice (some ⟨ga4_2, 0, none⟩) cG.length cG.length) ∧ x.cell? ⟨w4.heap.size, 3, none⟩ = some (.slice (some ⟨ga4_3, 0, none⟩) cR.length cR.length)) := by
    intro x hx
    have ra := (BX0.out.below s0_6 BX0.out.lt)
    have rx := (BXx4.out.below s5_6 BXx4.out.lt)
    have ra' := ra.below hx ra.lt
    have rx' := rx.below hx rx.lt
    exact ⟨ra'.cell 0, ra'.cell 1, ra'.cell 2, ra'.cell 3, rx'.cell 0, rx'.cell 1, rx'.cell 2, rx'.cell 3⟩
  have hcells := Lib.hid hcells
  have hkeep : Hid (∀ x y : World, Below w6.heap.size w6 x → Below x.heap.size x y → (Below w6.heap.size w6 y ∧ y.cell? ⟨w.heap.size, 0, none⟩ = some (.slice a0_0 n0_0 c0_0) ∧ y.cell? ⟨w.heap.size, 1, none⟩ = some (.slice a0_1 n0_1 c0_1) ∧ y.cell? ⟨w.heap.size, 2, none⟩ = some (.slice a0_2 n0_2 c0_2) ∧ y.cell? ⟨w.heap.size, 3, none⟩ = some (.slice a0_3 n0_3 c0_3) ∧ y.cell? ⟨w4.heap.size, 0, none⟩ = some (.slice (some ⟨ga4_0, 0, none⟩) cL.length cL.length) ∧ y.cell? ⟨w4.heap.size, 1, none⟩ = some (.slice (some ⟨ga4_1, 0, none⟩) cF.length cF.length) ∧ y.cell? ⟨w4.heap.size, 2, none⟩ = some (.slice (some ⟨ga4_2, 0, none⟩) cG.length cG.length) ∧ y.cell? ⟨w4.heap.size, 3, none⟩ = some (.slice (some ⟨ga4_3, 0, none⟩) cR.length cR.length))) := by
    intro x y h1 h2
    have h3 := h1.trans (h2.mono h1.size)
    exact ⟨h3, hcells.out y h3⟩
  have hfrom := hcells.out w6 (Below.refl _ _)
  have hdr : Below w6.heap.size w6 w6.drew := Below.drew (Below.refl _ _)
  go_region_held3 (fun x => Below w6.heap.size w6 x ∧ x.cell? ⟨w.heap.size, 0, none⟩ = some (.slice a0_0 n0_0 c0_0) ∧ x.cell? ⟨w.heap.size, 1, none⟩ = some (.slice a0_1 n0_1 c0_1) ∧ x.cell? ⟨w.heap.size, 2, none⟩ = some (.slice a0_2 n0_2 c0_2) ∧ x.cell? ⟨w.heap.size, 3, none⟩ = some (.slice a0_3 n0_3 c0_3) ∧ x.cell? ⟨w4.heap.size, 0, none⟩ = some (.slice (some ⟨ga4_0, 0, none⟩) cL.length cL.length) ∧ x.cell? ⟨w4.heap.size, 1, none⟩ = some (.slice (some ⟨ga4_1, 0, none⟩) cF.length cF.length) ∧ x.cell? ⟨w4.heap.size, 2, none⟩ = some (.slice (some ⟨ga4_2, 0, none⟩) cG.length cG.length) ∧ x.cell? ⟨w4.heap.size, 3, none⟩ = some (.slice (some ⟨ga4_3, 0, none⟩) cR.length cR.length)) (first | assumption | go_keep)
    (first
      | (go_at_call 16; refine (toChange_any _ cL cF cG cR _ ?_ hm0_0 hm0_1 hm0_2 hm0_3).mono ?_; (exact (hsrc.out.below (by first | assumption | (apply And.left; assumption)) (Nat.le_refl _)).more (Below.size (by first | assumption | (apply And.left; assumption)))); rintro e wz ⟨uz, rfl, hrz, hbz⟩; have hkz := (fun h => hkeep.out _ _ h hbz) (by first | assumption | (apply And.left; assumption)); obtain ⟨gb0, gb1, gb2, gb3, hu⟩ := hrz.shape; subst hu; have HCz := Lib.hid hrz.cg; clear hrz)
      | (go_at_call 18; refine (eqChange_same _ _ cL cF cG cR _ ?_ ?_ hm0_0 hm0_1 hm0_2 hm0_3).mono ?_; (exact (hcop.out.below (by first | assumption | (apply And.left; assumption)) (Nat.le_refl _)).more (Below.size (by first | assumption | (apply And.left; assumption)))); (exact HCz.out); rintro e w7 ⟨rfl, hbz2⟩; have hk2 := (fun h => hkeep.out _ _ h hbz2) (by first | assumption | (apply And.left; assumption))))
  have hb7 : Below w6.heap.size w6 w7 := (by first | assumption | (apply And.left; assumption))
  clear hfrom hdr hkeep hcells hsrc hcop kc0 kc1 kc2 kc3 kx0 kx1 kx2 kx3
  go_wp2_with fail
  go_ret
  have s0_7 := s0_6.trans (hb7.mono s0_6.size)
  exact ⟨rfl, BXB.out.trans (s0_7.mono BXB.out.size)⟩
end Go.Proofs.Ytcmnhnapnnpbdaa.fnExactValidChange
