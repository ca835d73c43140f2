/- FnExactCostOf: the walk: the law returns true. -/
import Derived.Test.YtlmhccnkganpcaaCoL
import Derived.Test.YtlmhccnkganpcaaMachineSt
import Derived.Test.YtlmhccnkganpcaaKp
import Derived.Deep.RegionHeld3
import Derived.Deep.RegionWith
namespace Go.Proofs.Ytlmhccnkganpcaa.fnExactCostOf
open Go.RowKit
set_option linter.unusedVariables false
set_option maxHeartbeats 4000000 in
theorem walk (cS : Int) (cT : Int) (a0_2 : Option Addr) (n0_2 c0_2 : Nat) (cL : List A4) (a0_3 : Option Addr) (n0_3 c0_3 : Nat) (z0_3 : List Int) (a0_4 : Option Addr) (n0_4 c0_4 : Nat) (z0_4 : List Int) (a1 : Option Addr) (n1 c1 : Nat) (z1 : List Int) (w : World) (wf0_0 : (Lit.int .i64 cS).wf = true) (wf0_1 : (Lit.int .i64 cT).wf = true) (wf0_2 : n0_2 ≤ 9223372036854775807 ∧ SlA w w.heap.size a0_2 n0_2 cL) (wf0_3 : IsRow .i64 w a0_3 n0_3 c0_3 z0_3) (wf0_4 : IsRow .i64 w a0_4 n0_4 c0_4 z0_4) (wf1 : IsRow .i64 w a1 n1 c1 z1) :
    Calls Try.prog 6 #[.agg #[.int .i64 cS, .int .i64 cT, .slice a0_2 n0_2 c0_2, .slice a0_3 n0_3 c0_3, .slice a0_4 n0_4 c0_4], .slice a1 n1 c1] w fun e w' => e = .returned (.bool true) ∧ Below w.heap.size w w' := by
  obtain ⟨hx0_2, hS0_2⟩ := wf0_2
  have hy0_2 := hS0_2.len
  have hL0_3 := wf0_3.lens
  have hS0_3 := wf0_3.sl
  have hx0_3 : n0_3 ≤ 9223372036854775807 := by have := Nat.le_trans hL0_3.1 hL0_3.2.1; unfold maxLen at this; omega
  obtain ⟨cP, he0_3⟩ : ∃ ss, ss = z0_3.take n0_3 := ⟨_, rfl⟩
  rw [← he0_3] at hS0_3
  have hy0_3 := hS0_3.len
  clear he0_3 hL0_3 wf0_3
  have hL0_4 := wf0_4.lens
  have hS0_4 := wf0_4.sl
  have hx0_4 : n0_4 ≤ 9223372036854775807 := by have := Nat.le_trans hL0_4.1 hL0_4.2.1; unfold maxLen at this; omega
  obtain ⟨cE, he0_4⟩ : ∃ ss, ss = z0_4.take n0_4 := ⟨_, rfl⟩
  rw [← he0_4] at hS0_4
  have hy0_4 := hS0_4.len
  clear he0_4 hL0_4 wf0_4
  have hC0 : Mc w w.heap.size (.agg #[.int .i64 cS, .int .i64 cT, .slice a0_2 n0_2 c0_2, .slice a0_3 n0_3 c0_3, .slice a0_4 n0_4 c0_4]) cS cT cL cP cE := ⟨_, _, _, _, _, _, _, _, _, rfl, hS0_2, hS0_3, hS0_4⟩
  rw [← hy0_2] at hx0_2
  rw [← hy0_3] at hx0_3
  rw [← hy0_4] at hx0_4
  clear hS0_2 hy0_2 hS0_3 hy0_3 hS0_4 hy0_4
  have HS0 := Lib.hid hC0; clear hC0
  have hL1 := wf1.lens
  have hS1 := wf1.sl
  have hx1 : n1 ≤ 9223372036854775807 := by have := Nat.le_trans hL1.1 hL1.2.1; unfold maxLen at this; omega
  obtain ⟨xs, he1⟩ : ∃ ss, ss = z1.take n1 := ⟨_, rfl⟩
  rw [← he1] at hS1
  clear he1 hL1 wf1
  have HS1 := Lib.hid hS1; clear hS1
  by_cases hn1 : n1 ≤ 1048576
  · have hm1 : n1 ≤ 4294967296 := by omega
    have bx0 := Row.new (w) 25 [.int .i64 cS, .int .i64 cT, .slice a0_2 n0_2 c0_2, .slice a0_3 n0_3 c0_3, .slice a0_4 n0_4 c0_4]
    have bxb : Below w.heap.size w ((w).alloc (.cells ([.int .i64 cS, .int .i64 cT, .slice a0_2 n0_2 c0_2, .slice a0_3 n0_3 c0_3, .slice a0_4 n0_4 c0_4] : List Value).toArray 25)) := (Below.refl _ _).alloc (Nat.le_refl _) _
    have BX0 := Lib.hid bx0; clear bx0
    have BXB := Lib.hid bxb; clear bxb
    go_enter Try.func6, Try.ntmps6
    go_wp2_with fail
    obtain ⟨wb, hwb⟩ : ∃ x, x = (w).alloc (.cells ([.int .i64 cS, .int .i64 cT, .slice a0_2 n0_2 c0_2, .slice a0_3 n0_3 c0_3, .slice a0_4 n0_4 c0_4] : List Value).toArray 25) := ⟨_, rfl⟩
    rw [← hwb] at BX0
    rw [← hwb] at BXB
    change Calls _ _ _ ((w).alloc (.cells ([.int .i64 cS, .int .i64 cT, .slice a0_2 n0_2 c0_2, .slice a0_3 n0_3 c0_3, .slice a0_4 n0_4 c0_4] : List Value).toArray 25)) _
    rw [← hwb]
    clear hwb
    have HS0' := Lib.hid ((HS0.out.below BXB.out (Nat.le_refl _)).more BXB.out.size)
    have HS1' := Lib.hid ((HS1.out.below BXB.out (Nat.le_refl _)).more BXB.out.size)
    refine (szMachine_any (.agg #[.int .i64 cS, .int .i64 cT, .slice a0_2 n0_2 c0_2, .slice a0_3 n0_3 c0_3, .slice a0_4 n0_4 c0_4]) cS cT cL cP cE 1048576 wb HS0'.out (by omega) (by omega) hx0_2 hx0_3 hx0_4).mono ?_
    rintro e w1 ⟨y0, rfl, hy0_0, hy1_0, hyn0, hb1⟩
    have s0_1 := hb1
    by_cases hneg : y0 < 0
    · clear hyn0
      go_wp2_with fail
      go_ret
      exact ⟨rfl, BXB.out.trans (s0_1.mono BXB.out.size)⟩
    have hyq0 : 0 ≤ y0 := by omega
    obtain ⟨hs0_2, hs0_3, hs0_4⟩ := hyn0 hyq0
    have hm0_2 : cL.length ≤ 4294967296 := by omega
    have hm0_3 : cP.length ≤ 4294967296 := by omega
    have hm0_4 : cE.length ≤ 4294967296 := by omega
    clear hyn0 hneg
    obtain ⟨rv0, hrv0⟩ : ∃ x, x = coR 1099511627776 cS cT cL cP cE xs := ⟨_, rfl⟩
    obtain ⟨rv1, hrv1⟩ : ∃ x, x = coB cS cT cL cP cE xs := ⟨_, rfl⟩
    have Hrv0 := Lib.hid hrv0; clear hrv0
    have Hrv1 := Lib.hid hrv1; clear hrv1
    have kc0_0 := (BX0.out.below s0_1 BX0.out.lt).cell 0
    have kc0_1 := (BX0.out.below s0_1 BX0.out.lt).cell 1
    have kc0_2 := (BX0.out.below s0_1 BX0.out.lt).cell 2
    have kc0_3 := (BX0.out.below s0_1 BX0.out.lt).cell 3
    have kc0_4 := (BX0.out.below s0_1 BX0.out.lt).cell 4
    go_wp2_with fail
    clear kc0_0 kc0_1 kc0_2 kc0_3 kc0_4
    refine (toMachine_any (.agg #[.int .i64 cS, .int .i64 cT, .slice a0_2 n0_2 c0_2, .slice a0_3 n0_3 c0_3, .slice a0_4 n0_4 c0_4]) cS cT cL cP cE w1 ((HS0'.out.below s0_1 (Nat.le_refl _)).more s0_1.size) hm0_2 hm0_3 hm0_4).mono ?_
    rintro e w2 ⟨u2, rfl, hr2, hb2⟩
    obtain ⟨ga2_2, ga2_3, ga2_4, hu⟩ := hr2.shape
    subst hu
    have H2 := Lib.hid hr2.cg
    clear hr2
    go_wp2_with fail
    have s0_2 := s0_1.trans (hb2.mono s0_1.size)
    refine (toInt64S_any a1 n1 c1 xs w2 ((HS1'.out.below s0_2 (Nat.le_refl _)).more s0_2.size) hm1).mono ?_
    rintro e w3 ⟨g3, rfl, hg3, hr3, hb3⟩
    have H3 := Lib.hid (show SlI w3 w3.heap.size (some ⟨g3, 0, none⟩) n1 xs by have := hr3.sl; rw [iv_length, HS1'.out.len] at this; exact this)
    have N3 : Hid (RowN w3 g3 2 n1) := ⟨iv xs, by rw [iv_length]; exact HS1'.out.len, hr3⟩
    have gl3 := hr3.lt
    clear hr3
    go_wp2_with fail
    have s2_3 := hb3
    refine (sCostOfL_any _ g3 0 n1 n1 cS cT cL cP cE xs w3 ((H2.out.below s2_3 (Nat.le_refl _)).more s2_3.size) H3.out hs0_2 hs0_3 hs0_4 hn1).mono ?_
    rintro e w4 ⟨rfl, hb4⟩
    rw [← Hrv0.out]
    rw [← Hrv1.out]
    have s0_3 := s0_2.trans (hb3.mono s0_2.size)
    have s0_4 := s0_3.trans (hb4.mono s0_3.size)
    have kc0_0 := (BX0.out.below s0_4 BX0.out.lt).cell 0
    have kc0_1 := (BX0.out.below s0_4 BX0.out.lt).cell 1
    have kc0_2 := (BX0.out.below s0_4 BX0.out.lt).cell 2
    have kc0_3 := (BX0.out.below s0_4 BX0.out.lt).cell 3
    have kc0_4 := (BX0.out.below s0_4 BX0.out.lt).cell 4
    go_wp2_with fail
    clear kc0_0 kc0_1 kc0_2 kc0_3 kc0_4
    refine (toMachine_any (.agg #[.int .i64 cS, .int .i64 cT, .slice a0_2 n0_2 c0_2, .slice a0_3 n0_3 c0_3, .slice a0_4 n0_4 c0_4]) cS cT cL cP cE w4 ((HS0'.out.below s0_4 (Nat.le_refl _)).more s0_4.size) hm0_2 hm0_3 hm0_4).mono ?_
    rintro e w5 ⟨u5, rfl, hr5, hb5⟩
    obtain ⟨ga5_2, ga5_3, ga5_4, hu⟩ := hr5.shape
    subst hu
    have H5 := Lib.hid hr5.cg
    clear hr5
    go_wp2_with fail
    obtain ⟨w6, hwb⟩ : ∃ x, x = w5.alloc (.cells ([.int .i64 cS, .int .i64 cT, .slice (some ⟨ga5_2, 0, none⟩) cL.length cL.length, .slice (some ⟨ga5_3, 0, none⟩) cP.length cP.length, .slice (some ⟨ga5_4, 0, none⟩) cE.length cE.length] : List Value).toArray 29) := ⟨_, rfl⟩
    have bq := Row.new w5 29 [.int .i64 cS, .int .i64 cT, .slice (some ⟨ga5_2, 0, none⟩) cL.length cL.length, .slice (some ⟨ga5_3, 0, none⟩) cP.length cP.length, .slice (some ⟨ga5_4, 0, none⟩) cE.length cE.length]
    have hb6 : Below w5.heap.size w5 (w5.alloc (.cells ([.int .i64 cS, .int .i64 cT, .slice (some ⟨ga5_2, 0, none⟩) cL.length cL.length, .slice (some ⟨ga5_3, 0, none⟩) cP.length cP.length, .slice (some ⟨ga5_4, 0, none⟩) cE.length cE.length] : List Value).toArray 29)) := (Below.refl _ _).alloc (Nat.le_refl _) _
    rw [← hwb] at bq hb6
    change Calls _ _ _ (w5.alloc (.cells ([.int .i64 cS, .int .i64 cT, .slice (some ⟨ga5_2, 0, none⟩) cL.length cL.length, .slice (some ⟨ga5_3, 0, none⟩) cP.length cP.length, .slice (some ⟨ga5_4, 0, none⟩) cE.length cE.length] : List Value).toArray 29)) _
    rw [← hwb]
    clear hwb
    have BXx5 := Lib.hid bq; clear bq
    have s0_5 := s0_4.trans (hb5.mono s0_4.size)
    have s0_6 := s0_5.trans (hb6.mono s0_5.size)
    refine (toInt64S_any a1 n1 c1 xs w6 ((HS1'.out.below s0_6 (Nat.le_refl _)).more s0_6.size) hm1).mono ?_
    rintro e w7 ⟨g7, rfl, hg7, hr7, hb7⟩
    have H7 := Lib.hid (show SlI w7 w7.heap.size (some ⟨g7, 0, none⟩) n1 xs by have := hr7.sl; rw [iv_length, HS1'.out.len] at this; exact this)
    have N7 : Hid (RowN w7 g7 2 n1) := ⟨iv xs, by rw [iv_length]; exact HS1'.out.len, hr7⟩
    have gl7 := hr7.lt
    clear hr7
    have s6_7 := hb7
    have kx5_0 := (BXx5.out.below s6_7 BXx5.out.lt).cell 0
    have kx5_1 := (BXx5.out.below s6_7 BXx5.out.lt).cell 1
    have kx5_2 := (BXx5.out.below s6_7 BXx5.out.lt).cell 2
    have kx5_3 := (BXx5.out.below s6_7 BXx5.out.lt).cell 3
    have kx5_4 := (BXx5.out.below s6_7 BXx5.out.lt).cell 4
    go_wp2_with fail
    clear kx5_0 kx5_1 kx5_2 kx5_3 kx5_4
    have s5_6 := hb6
    have s5_7 := s5_6.trans (hb7.mono s5_6.size)
    refine (iCostOfL_any _ g7 0 n1 n1 cS cT cL cP cE xs w7 ((H5.out.below s5_7 (Nat.le_refl _)).more s5_7.size) H7.out hs0_2 hs0_3 hs0_4 hn1).mono ?_
    rintro e w8 ⟨rfl, hb8⟩
    rw [← Hrv0.out]
    rw [← Hrv1.out]
    have s0_7 := s0_6.trans (hb7.mono s0_6.size)
    have s0_8 := s0_7.trans (hb8.mono s0_7.size)
    have kc0_0 := (BX0.out.below s0_8 BX0.out.lt).cell 0
    have kc0_1 := (BX0.out.below s0_8 BX0.out.lt).cell 1
    have kc0_2 := (BX0.out.below s0_8 BX0.out.lt).cell 2
    have kc0_3 := (BX0.out.below s0_8 BX0.out.lt).cell 3
    have kc0_4 := (BX0.out.below s0_8 BX0.out.lt).cell 4
    have s6_8 := s6_7.trans (hb8.mono s6_7.size)
    have kx5_0 := (BXx5.out.below s6_8 BXx5.out.lt).cell 0
    have kx5_1 := (BXx5.out.below s6_8 BXx5.out.lt).cell 1
    have kx5_2 := (BXx5.out.below s6_8 BXx5.out.lt).cell 2
    have kx5_3 := (BXx5.out.below s6_8 BXx5.out.lt).cell 3
    have kx5_4 := (BXx5.out.below s6_8 BXx5.out.lt).cell 4
    go_wp2_with fail
    have s5_8 := s5_7.trans (hb8.mono s5_7.size)
    have hsrc := Lib.hid ((HS0'.out.below s0_8 (Nat.le_refl _)).more s0_8.size)
    have hcop := Lib.hid ((H5.out.below s5_8 (Nat.le_refl _)).more s5_8.size)
    have hcells : ∀ x : World, Below w8.heap.size w8 x → (x.cell? ⟨w.heap.size, 0, none⟩ = some (.int .i64 cS) ∧ x.cell? ⟨w.heap.size, 1, none⟩ = some (.int .i64 cT) ∧ x.cell? ⟨w.heap.size, 2, none⟩ = some (.slice a0_2 n0_2 c0_2) ∧ x.cell? ⟨w.heap.size, 3, none⟩ = some (.slice a0_3 n0_3 c0_3) ∧ x.cell? ⟨w.heap.size, 4, none⟩ = some (.slice a0_4 n0_4 c0_4) ∧ x.cell? ⟨w5.heap.size, 0, none⟩ = some (.int .i64 cS) ∧ x.cell? ⟨w5.heap.size, 1, none⟩ = some (.int .i64 cT) ∧ x.cell? ⟨w5.heap.size, 2, none⟩ = some (.slice (some ⟨ga5_2, 0, none⟩) cL.length cL.length) ∧ x.cell? ⟨w5.heap.size, 3, none⟩ = some (.slice (some ⟨ga5_3, 0, none⟩) cP.length cP.length) ∧ x.cell? ⟨w5.heap.size, 4, none⟩ = some (.slice (some ⟨ga5_4, 0, none⟩) cE.length cE.length)) := by
      intro x hx
      have ra := (BX0.out.below s0_8 BX0.out.lt)
      have rx := (BXx5.out.below s6_8 BXx5.out.lt)
      have ra' := ra.below hx ra.lt
      have rx' := rx.below hx rx.lt
      exact ⟨ra'.cell 0, ra'.cell 1, ra'.cell 2, ra'.cell 3, ra'.cell 4, rx'.cell 0, rx'.cell 1, rx'.cell 2, rx'.cell 3, rx'.cell 4⟩
    have hcells := Lib.hid hcells
    have hkeep : Hid (∀ x y : World, Below w8.heap.size w8 x → Below x.heap.size x y → (Below w8.heap.size w8 y ∧ y.cell? ⟨w.heap.size, 0, none⟩ = some (.int .i64 cS) ∧ y.cell? ⟨w.heap.size, 1, none⟩ = some (.int .i64 cT) ∧ y.cell? ⟨w.heap.size, 2, none⟩ = some (.slice a0_2 n0_2 c0_2) ∧ y.cell? ⟨w.heap.size, 3, none⟩ = some (.slice a0_3 n0_3 c0_3) ∧ y.cell? ⟨w.heap.size, 4, none⟩ = some (.slice a0_4 n0_4 c0_4) ∧ y.cell? ⟨w5.heap.size, 0, none⟩ = some (.int .i64 cS) ∧ y.cell? ⟨w5.heap.size, 1, none⟩ = some (.int .i64 cT) ∧ y.cell? ⟨w5.heap.size, 2, none⟩ = some (.slice (some ⟨ga5_2, 0, none⟩) cL.length cL.length) ∧ y.cell? ⟨w5.heap.size, 3, none⟩ = some (.slice (some ⟨ga5_3, 0, none⟩) cP.length cP.length) ∧ y.cell? ⟨w5.heap.size, 4, none⟩ = some (.slice (some ⟨ga5_4, 0, none⟩) cE.length cE.length))) := by
      intro x y h1 h2
      have h3 := h1.trans (h2.mono h1.size)
      exact ⟨h3, hcells.out y h3⟩
    have hfrom := hcells.out w8 (Below.refl _ _)
    have hdr : Below w8.heap.size w8 w8.drew := Below.drew (Below.refl _ _)
    go_region_held3 (fun x => Below w8.heap.size w8 x ∧ x.cell? ⟨w.heap.size, 0, none⟩ = some (.int .i64 cS) ∧ x.cell? ⟨w.heap.size, 1, none⟩ = some (.int .i64 cT) ∧ x.cell? ⟨w.heap.size, 2, none⟩ = some (.slice a0_2 n0_2 c0_2) ∧ x.cell? ⟨w.heap.size, 3, none⟩ = some (.slice a0_3 n0_3 c0_3) ∧ x.cell? ⟨w.heap.size, 4, none⟩ = some (.slice a0_4 n0_4 c0_4) ∧ x.cell? ⟨w5.heap.size, 0, none⟩ = some (.int .i64 cS) ∧ x.cell? ⟨w5.heap.size, 1, none⟩ = some (.int .i64 cT) ∧ x.cell? ⟨w5.heap.size, 2, none⟩ = some (.slice (some ⟨ga5_2, 0, none⟩) cL.length cL.length) ∧ x.cell? ⟨w5.heap.size, 3, none⟩ = some (.slice (some ⟨ga5_3, 0, none⟩) cP.length cP.length) ∧ x.cell? ⟨w5.heap.size, 4, none⟩ = some (.slice (some ⟨ga5_4, 0, none⟩) cE.length cE.length)) (first | assumption | go_keep)
      (first
        | (go_at_call 17; refine (toMachine_any _ cS cT cL cP cE _ ?_ hm0_2 hm0_3 hm0_4).mono ?_; (exact (hsrc.out.below (by first | assumption | (apply And.left; assumption)) (Nat.le_refl _)).more (Below.size (by first | assumption | (apply And.left; assumption)))); rintro e wz ⟨uz, rfl, hrz, hbz⟩; have hkz := (fun h => hkeep.out _ _ h hbz) (by first | assumption | (apply And.left; assumption)); obtain ⟨gb2, gb3, gb4, hu⟩ := hrz.shape; subst hu; have HCz := Lib.hid hrz.cg; clear hrz)
        | (go_at_call 19; refine (eqMachine_same _ _ cS cT cL cP cE _ ?_ ?_ hm0_2 hm0_3 hm0_4).mono ?_; (exact (hcop.out.below (by first | assumption | (apply And.left; assumption)) (Nat.le_refl _)).more (Below.size (by first | assumption | (apply And.left; assumption)))); (exact HCz.out); rintro e w9 ⟨rfl, hbz2⟩; have hk2 := (fun h => hkeep.out _ _ h hbz2) (by first | assumption | (apply And.left; assumption))))
    have hb9 : Below w8.heap.size w8 w9 := (by first | assumption | (apply And.left; assumption))
    clear hfrom hdr hkeep hcells hsrc hcop kc0_0 kc0_1 kc0_2 kc0_3 kc0_4 kx5_0 kx5_1 kx5_2 kx5_3 kx5_4
    go_wp2_with fail
    have s0_9 := s0_8.trans (hb9.mono s0_8.size)
    refine (toInt64S_any a1 n1 c1 xs w9 ((HS1'.out.below s0_9 (Nat.le_refl _)).more s0_9.size) hm1).mono ?_
    rintro e w10 ⟨g10, rfl, hg10, hr10, hb10⟩
    have H10 := Lib.hid (show SlI w10 w10.heap.size (some ⟨g10, 0, none⟩) n1 xs by have := hr10.sl; rw [iv_length, HS1'.out.len] at this; exact this)
    have N10 : Hid (RowN w10 g10 2 n1) := ⟨iv xs, by rw [iv_length]; exact HS1'.out.len, hr10⟩
    have gl10 := hr10.lt
    clear hr10
    go_wp2_with fail
    have s7_8 := hb8
    have s7_9 := s7_8.trans (hb9.mono s7_8.size)
    have s7_10 := s7_9.trans (hb10.mono s7_9.size)
    refine (eqInt64S_any _ n1 n1 xs _ n1 n1 xs w10 _ _ (H7.out.below s7_10 (Nat.le_refl _)) H10.out hm1 hm1).mono ?_
    rintro e w11 ⟨rfl, hb11⟩
    have hd11 : decide (xs = xs) = true := decide_eq_true rfl
    go_wp2_with fail
    go_ret
    have s0_10 := s0_9.trans (hb10.mono s0_9.size)
    have s0_11 := s0_10.trans (hb11.mono s0_10.size)
    exact ⟨rfl, BXB.out.trans (s0_11.mono BXB.out.size)⟩
  · have ht1 : 1048576 < n1 := by omega
    clear hn1
    go_enter Try.func6, Try.ntmps6
    go_wp2_with fail
    go_ret
    exact ⟨rfl, (Below.refl _ _).alloc (Nat.le_refl _) _⟩
end Go.Proofs.Ytlmhccnkganpcaa.fnExactCostOf
