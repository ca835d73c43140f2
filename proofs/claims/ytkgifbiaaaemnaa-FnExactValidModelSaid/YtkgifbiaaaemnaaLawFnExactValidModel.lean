/- FnExactValidModel: the walk: the law returns true. -/
import Derived.Test.YtkgifbiaaaemnaaVd
import Derived.Test.YtkgifbiaaaemnaaModelSt
import Derived.Test.YtkgifbiaaaemnaaKp
import Derived.Deep.RegionHeld3
import Derived.Deep.RegionWith
namespace Go.Proofs.Ytkgifbiaaaemnaa.fnExactValidModel
open Go.RowKit
set_option linter.unusedVariables false
set_option maxHeartbeats 4000000 in
theorem walk (cS : Int) (cT : Int) (a0_2 : Option Addr) (n0_2 c0_2 : Nat) (cP : List F32) (a0_3 : Option Addr) (n0_3 c0_3 : Nat) (cQ : List F32) (a0_4 : Option Addr) (n0_4 c0_4 : Nat) (cR : List F32) (w : World) (wf0_0 : (Lit.int .i64 cS).wf = true) (wf0_1 : (Lit.int .i64 cT).wf = true) (wf0_2 : n0_2 ≤ 9223372036854775807 ∧ SlF w w.heap.size a0_2 n0_2 cP) (wf0_3 : n0_3 ≤ 9223372036854775807 ∧ SlF w w.heap.size a0_3 n0_3 cQ) (wf0_4 : n0_4 ≤ 9223372036854775807 ∧ SlF w w.heap.size a0_4 n0_4 cR) :
    Calls Try.prog 4 #[.agg #[.int .i64 cS, .int .i64 cT, .slice a0_2 n0_2 c0_2, .slice a0_3 n0_3 c0_3, .slice a0_4 n0_4 c0_4]] w fun e w' => e = .returned (.bool true) ∧ Below w.heap.size w w' := by
  obtain ⟨hx0_2, hS0_2⟩ := wf0_2
  have hy0_2 := hS0_2.len
  obtain ⟨hx0_3, hS0_3⟩ := wf0_3
  have hy0_3 := hS0_3.len
  obtain ⟨hx0_4, hS0_4⟩ := wf0_4
  have hy0_4 := hS0_4.len
  have hC0 : Md w w.heap.size (.agg #[.int .i64 cS, .int .i64 cT, .slice a0_2 n0_2 c0_2, .slice a0_3 n0_3 c0_3, .slice a0_4 n0_4 c0_4]) cS cT cP cQ cR := ⟨_, _, _, _, _, _, _, _, _, rfl, hS0_2, hS0_3, hS0_4⟩
  rw [← hy0_2] at hx0_2
  rw [← hy0_3] at hx0_3
  rw [← hy0_4] at hx0_4
  clear hS0_2 hy0_2 hS0_3 hy0_3 hS0_4 hy0_4
  have HS0 := Lib.hid hC0; clear hC0
  have bx0 := Row.new (w) 24 [.int .i64 cS, .int .i64 cT, .slice a0_2 n0_2 c0_2, .slice a0_3 n0_3 c0_3, .slice a0_4 n0_4 c0_4]
  have bxb : Below w.heap.size w ((w).alloc (.cells ([.int .i64 cS, .int .i64 cT, .slice a0_2 n0_2 c0_2, .slice a0_3 n0_3 c0_3, .slice a0_4 n0_4 c0_4] : List Value).toArray 24)) := (Below.refl _ _).alloc (Nat.le_refl _) _
  have BX0 := Lib.hid bx0; clear bx0
  have BXB := Lib.hid bxb; clear bxb
  go_enter Try.func4, Try.ntmps4
  go_wp2_with fail
  obtain ⟨wb, hwb⟩ : ∃ x, x = (w).alloc (.cells ([.int .i64 cS, .int .i64 cT, .slice a0_2 n0_2 c0_2, .slice a0_3 n0_3 c0_3, .slice a0_4 n0_4 c0_4] : List Value).toArray 24) := ⟨_, rfl⟩
  rw [← hwb] at BX0
  rw [← hwb] at BXB
  change Calls _ _ _ ((w).alloc (.cells ([.int .i64 cS, .int .i64 cT, .slice a0_2 n0_2 c0_2, .slice a0_3 n0_3 c0_3, .slice a0_4 n0_4 c0_4] : List Value).toArray 24)) _
  rw [← hwb]
  clear hwb
  have HS0' := Lib.hid ((HS0.out.below BXB.out (Nat.le_refl _)).more BXB.out.size)
  refine (szModel_any (.agg #[.int .i64 cS, .int .i64 cT, .slice a0_2 n0_2 c0_2, .slice a0_3 n0_3 c0_3, .slice a0_4 n0_4 c0_4]) cS cT cP cQ cR 1048576 wb HS0'.out (by omega) (by omega) hx0_2 hx0_3 hx0_4).mono ?_
  rintro e w1 ⟨y0, rfl, hy0_0, hy1_0, hyn0, hb1⟩
  have s0_1 := hb1
  by_cases hneg : y0 < 0
  · clear hyn0
    go_wp2_with fail
    go_ret
    exact ⟨rfl, BXB.out.trans (s0_1.mono BXB.out.size)⟩
  have hyq0 : 0 ≤ y0 := by omega
  obtain ⟨hs0_2, hs0_3, hs0_4⟩ := hyn0 hyq0
  have hm0_2 : cP.length ≤ 4294967296 := by omega
  have hm0_3 : cQ.length ≤ 4294967296 := by omega
  have hm0_4 : cR.length ≤ 4294967296 := by omega
  clear hyn0 hneg
  obtain ⟨ok, hok⟩ : ∃ ok, ok = vdM cS cT cP cQ cR := ⟨_, rfl⟩
  have kc0_0 := (BX0.out.below s0_1 BX0.out.lt).cell 0
  have kc0_1 := (BX0.out.below s0_1 BX0.out.lt).cell 1
  have kc0_2 := (BX0.out.below s0_1 BX0.out.lt).cell 2
  have kc0_3 := (BX0.out.below s0_1 BX0.out.lt).cell 3
  have kc0_4 := (BX0.out.below s0_1 BX0.out.lt).cell 4
  go_wp2_with fail
  clear kc0_0 kc0_1 kc0_2 kc0_3 kc0_4
  refine (toModel_any (.agg #[.int .i64 cS, .int .i64 cT, .slice a0_2 n0_2 c0_2, .slice a0_3 n0_3 c0_3, .slice a0_4 n0_4 c0_4]) cS cT cP cQ cR w1 ((HS0'.out.below s0_1 (Nat.le_refl _)).more s0_1.size) hm0_2 hm0_3 hm0_4).mono ?_
  rintro e w2 ⟨u2, rfl, hr2, hb2⟩
  obtain ⟨ga2_2, ga2_3, ga2_4, hu⟩ := hr2.shape
  subst hu
  have H2 := Lib.hid hr2.cg
  clear hr2
  go_wp2_with fail
  refine (sValidModel_any _ cS cT cP cQ cR w2 H2.out ⟨_, _, _, _, _, _, _, _, _, _, _, rfl, Nat.le_refl _, Nat.le_trans hm0_2 (by decide), Nat.le_refl _, Nat.le_trans hm0_3 (by decide), Nat.le_refl _, Nat.le_trans hm0_4 (by decide)⟩).mono ?_
  rintro e w3 ⟨rfl, hb3⟩
  rw [← hok]
  have s0_2 := s0_1.trans (hb2.mono s0_1.size)
  have s0_3 := s0_2.trans (hb3.mono s0_2.size)
  have kc0_0 := (BX0.out.below s0_3 BX0.out.lt).cell 0
  have kc0_1 := (BX0.out.below s0_3 BX0.out.lt).cell 1
  have kc0_2 := (BX0.out.below s0_3 BX0.out.lt).cell 2
  have kc0_3 := (BX0.out.below s0_3 BX0.out.lt).cell 3
  have kc0_4 := (BX0.out.below s0_3 BX0.out.lt).cell 4
  go_wp2_with fail
  clear kc0_0 kc0_1 kc0_2 kc0_3 kc0_4
  refine (toModel_any (.agg #[.int .i64 cS, .int .i64 cT, .slice a0_2 n0_2 c0_2, .slice a0_3 n0_3 c0_3, .slice a0_4 n0_4 c0_4]) cS cT cP cQ cR w3 ((HS0'.out.below s0_3 (Nat.le_refl _)).more s0_3.size) hm0_2 hm0_3 hm0_4).mono ?_
  rintro e w4 ⟨u4, rfl, hr4, hb4⟩
  obtain ⟨ga4_2, ga4_3, ga4_4, hu⟩ := hr4.shape
  subst hu
  have H4 := Lib.hid hr4.cg
  clear hr4
  go_wp2_with fail
  obtain ⟨w5, hwb⟩ : ∃ x, x = w4.alloc (.cells ([.int .i64 cS, .int .i64 cT, .slice (some ⟨ga4_2, 0, none⟩) cP.length cP.length, .slice (some ⟨ga4_3, 0, none⟩) cQ.length cQ.length, .slice (some ⟨ga4_4, 0, none⟩) cR.length cR.length] : List Value).toArray 27) := ⟨_, rfl⟩
  have bq := Row.new w4 27 [.int .i64 cS, .int .i64 cT, .slice (some ⟨ga4_2, 0, none⟩) cP.length cP.length, .slice (some ⟨ga4_3, 0, none⟩) cQ.length cQ.length, .slice (some ⟨ga4_4, 0, none⟩) cR.length cR.length]
  have hb5 : Below w4.heap.size w4 (w4.alloc (.cells ([.int .i64 cS, .int .i64 cT, .slice (some ⟨ga4_2, 0, none⟩) cP.length cP.length, .slice (some ⟨ga4_3, 0, none⟩) cQ.length cQ.length, .slice (some ⟨ga4_4, 0, none⟩) cR.length cR.length] : List Value).toArray 27)) := (Below.refl _ _).alloc (Nat.le_refl _) _
  rw [← hwb] at bq hb5
  change Calls _ _ _ (w4.alloc (.cells ([.int .i64 cS, .int .i64 cT, .slice (some ⟨ga4_2, 0, none⟩) cP.length cP.length, .slice (some ⟨ga4_3, 0, none⟩) cQ.length cQ.length, .slice (some ⟨ga4_4, 0, none⟩) cR.length cR.length] : List Value).toArray 27)) _
  rw [← hwb]
  clear hwb
  have BXx4 := Lib.hid bq; clear bq
  have s4_5 := hb5
  refine (iValidModel_any _ cS cT cP cQ cR w5 ((H4.out.below s4_5 (Nat.le_refl _)).more s4_5.size) ⟨_, _, _, _, _, _, _, _, _, _, _, rfl, Nat.le_refl _, Nat.le_trans hm0_2 (by decide), Nat.le_refl _, Nat.le_trans hm0_3 (by decide), Nat.le_refl _, Nat.le_trans hm0_4 (by decide)⟩).mono ?_
  rintro e w6 ⟨rfl, hb6⟩
  rw [← hok]
  have s0_4 := s0_3.trans (hb4.mono s0_3.size)
  have s0_5 := s0_4.trans (hb5.mono s0_4.size)
  have s0_6 := s0_5.trans (hb6.mono s0_5.size)
  have kc0_0 := (BX0.out.below s0_6 BX0.out.lt).cell 0
  have kc0_1 := (BX0.out.below s0_6 BX0.out.lt).cell 1
  have kc0_2 := (BX0.out.below s0_6 BX0.out.lt).cell 2
  have kc0_3 := (BX0.out.below s0_6 BX0.out.lt).cell 3
  have kc0_4 := (BX0.out.below s0_6 BX0.out.lt).cell 4
  have s5_6 := hb6
  have kx4_0 := (BXx4.out.below s5_6 BXx4.out.lt).cell 0
  have kx4_1 := (BXx4.out.below s5_6 BXx4.out.lt).cell 1
  have kx4_2 := (BXx4.out.below s5_6 BXx4.out.lt).cell 2
  have kx4_3 := (BXx4.out.below s5_6 BXx4.out.lt).cell 3
  have kx4_4 := (BXx4.out.below s5_6 BXx4.out.lt).cell 4
  go_wp2_with fail
  have s4_6 := s4_5.trans (hb6.mono s4_5.size)
  have hsrc := Lib.hid ((HS0'.out.below s0_6 (Nat.le_refl _)).more s0_6.size)
  have hcop := Lib.hid ((H4.out.below s4_6 (Nat.le_refl _)).more s4_6.size)
  have hcells : ∀ x : World, Below w6.heap.size w6 x → (x.cell? ⟨w.heap.size, 0, none⟩ = some (.int .i64 cS) ∧ x.cell? ⟨w.heap.size, 1, none⟩ = some (.int .i64 cT) ∧ x.cell? ⟨w.heap.size, 2, none⟩ = some (.slice a0_2 n0_2 c0_2) ∧ x.cell? ⟨w.heap.size, 3, none⟩ = some (.slice a0_3 n0_3 c0_3) ∧ x.cell? ⟨w.heap.size, 4, none⟩ = some (.slice a0_4 n0_4 c0_4) ∧ x.cell? ⟨w4.heap.size, 0, none⟩ = some (.int .i64 cS) ∧ x.cell? ⟨w4.heap.size, 1, none⟩ = some (.int .i64 cT) ∧ x.cell? ⟨w4.heap.size, 2, none⟩ = some (.slice (some ⟨ga4_2, 0, none⟩) cP.length cP.length) ∧ x.cell? ⟨w4.heap.size, 3, none⟩ = some (.slice (some ⟨ga4_3, 0, none⟩) cQ.length cQ.length) ∧ x.cell? ⟨w4.heap.size, 4, none⟩ = some (.slice (some ⟨ga4_4, 0, none⟩) cR.length cR.length)) := by
    intro x hx
    have ra := (BX0.out.below s0_6 BX0.out.lt)
    have rx := (BXx4.out.below s5_6 BXx4.out.lt)
    have ra' := ra.below hx ra.lt
    have rx' := rx.below hx rx.lt
    exact ⟨ra'.cell 0, ra'.cell 1, ra'.cell 2, ra'.cell 3, ra'.cell 4, rx'.cell 0, rx'.cell 1, rx'.cell 2, rx'.cell 3, rx'.cell 4⟩
  have hcells := Lib.hid hcells
  have hkeep : Hid (∀ x y : World, Below w6.heap.size w6 x → Below x.heap.size x y → (Below w6.heap.size w6 y ∧ y.cell? ⟨w.heap.size, 0, none⟩ = some (.int .i64 cS) ∧ y.cell? ⟨w.heap.size, 1, none⟩ = some (.int .i64 cT) ∧ y.cell? ⟨w.heap.size, 2, none⟩ = some (.slice a0_2 n0_2 c0_2) ∧ y.cell? ⟨w.heap.size, 3, none⟩ = some (.slice a0_3 n0_3 c0_3) ∧ y.cell? ⟨w.heap.size, 4, none⟩ = some (.slice a0_4 n0_4 c0_4) ∧ y.cell? ⟨w4.heap.size, 0, none⟩ = some (.int .i64 cS) ∧ y.cell? ⟨w4.heap.size, 1, none⟩ = some (.int .i64 cT) ∧ y.cell? ⟨w4.heap.size, 2, none⟩ = some (.slice (some ⟨ga4_2, 0, none⟩) cP.length cP.length) ∧ y.cell? ⟨w4.heap.size, 3, none⟩ = some (.slice (some ⟨ga4_3, 0, none⟩) cQ.length cQ.length) ∧ y.cell? ⟨w4.heap.size, 4, none⟩ = some (.slice (some ⟨ga4_4, 0, none⟩) cR.length cR.length))) := by
    intro x y h1 h2
    have h3 := h1.trans (h2.mono h1.size)
    exact ⟨h3, hcells.out y h3⟩
  have hfrom := hcells.out w6 (Below.refl _ _)
  have hdr : Below w6.heap.size w6 w6.drew := Below.drew (Below.refl _ _)
  go_region_held3 (fun x => Below w6.heap.size w6 x ∧ x.cell? ⟨w.heap.size, 0, none⟩ = some (.int .i64 cS) ∧ x.cell? ⟨w.heap.size, 1, none⟩ = some (.int .i64 cT) ∧ x.cell? ⟨w.heap.size, 2, none⟩ = some (.slice a0_2 n0_2 c0_2) ∧ x.cell? ⟨w.heap.size, 3, none⟩ = some (.slice a0_3 n0_3 c0_3) ∧ x.cell? ⟨w.heap.size, 4, none⟩ = some (.slice a0_4 n0_4 c0_4) ∧ x.cell? ⟨w4.heap.size, 0, none⟩ = some (.int .i64 cS) ∧ x.cell? ⟨w4.heap.size, 1, none⟩ = some (.int .i64 cT) ∧ x.cell? ⟨w4.heap.size, 2, none⟩ = some (.slice (some ⟨ga4_2, 0, none⟩) cP.length cP.length) ∧ x.cell? ⟨w4.heap.size, 3, none⟩ = some (.slice (some ⟨ga4_3, 0, none⟩) cQ.length cQ.length) ∧ x.cell? ⟨w4.heap.size, 4, none⟩ = some (.slice (some ⟨ga4_4, 0, none⟩) cR.length cR.length)) (first | assumption | go_keep)
    (first
      | (go_at_call 16; refine (toModel_any _ cS cT cP cQ cR _ ?_ hm0_2 hm0_3 hm0_4).mono ?_; (exact (hsrc.out.below (by first | assumption | (apply And.left; assumption)) (Nat.le_refl _)).more (Below.size (by first | assumption | (apply And.left; assumption)))); rintro e wz ⟨uz, rfl, hrz, hbz⟩; have hkz := (fun h => hkeep.out _ _ h hbz) (by first | assumption | (apply And.left; assumption)); obtain ⟨gb2, gb3, gb4, hu⟩ := hrz.shape; subst hu; have HCz := Lib.hid hrz.cg; clear hrz)
      | (go_at_call 18; refine (eqModel_same _ _ cS cT cP cQ cR _ ?_ ?_ hm0_2 hm0_3 hm0_4).mono ?_; (exact (hcop.out.below (by first | assumption | (apply And.left; assumption)) (Nat.le_refl _)).more (Below.size (by first | assumption | (apply And.left; assumption)))); (exact HCz.out); rintro e w7 ⟨rfl, hbz2⟩; have hk2 := (fun h => hkeep.out _ _ h hbz2) (by first | assumption | (apply And.left; assumption))))
  have hb7 : Below w6.heap.size w6 w7 := (by first | assumption | (apply And.left; assumption))
  clear hfrom hdr hkeep hcells hsrc hcop kc0_0 kc0_1 kc0_2 kc0_3 kc0_4 kx4_0 kx4_1 kx4_2 kx4_3 kx4_4
  go_wp2_with fail
  go_ret
  have s0_7 := s0_6.trans (hb7.mono s0_6.size)
  exact ⟨rfl, BXB.out.trans (s0_7.mono BXB.out.size)⟩
end Go.Proofs.Ytkgifbiaaaemnaa.fnExactValidModel
