/- FnExactWordsShared: the walk: the law returns true. -/
import Derived.Test.YtchacfienafhlaaWs
import Derived.Test.YtchacfienafhlaaMachineSt
import Derived.Test.YtchacfienafhlaaKp
import Derived.Test.YtchacfienafhlaaMachineOw
import Derived.Deep.RegionHeld3
import Derived.Deep.RegionWith
namespace Go.Proofs.Ytchacfienafhlaa.fnExactWordsShared
open Go.RowKit
set_option linter.unusedVariables false
set_option maxHeartbeats 4000000 in
theorem walk (cS : Int) (cT : Int) (a0_2 : Option Addr) (n0_2 c0_2 : Nat) (cL : List A4) (a0_3 : Option Addr) (n0_3 c0_3 : Nat) (z0_3 : List Int) (a0_4 : Option Addr) (n0_4 c0_4 : Nat) (z0_4 : List Int) (a1 : Option Addr) (n1 c1 : Nat) (ws : List (List Int)) (k : Int) (w : World) (wf0_0 : (Lit.int .i64 cS).wf = true) (wf0_1 : (Lit.int .i64 cT).wf = true) (wf0_2 : n0_2 ≤ 9223372036854775807 ∧ SlA w w.heap.size a0_2 n0_2 cL) (wf0_3 : IsRow .i64 w a0_3 n0_3 c0_3 z0_3) (wf0_4 : IsRow .i64 w a0_4 n0_4 c0_4 z0_4) (wf1 : n1 ≤ 9223372036854775807 ∧ SlL w w.heap.size a1 n1 ws) (wf2 : (Lit.int .i64 k).wf = true) :
    Calls Try.prog 6 #[.agg #[.int .i64 cS, .int .i64 cT, .slice a0_2 n0_2 c0_2, .slice a0_3 n0_3 c0_3, .slice a0_4 n0_4 c0_4], .slice a1 n1 c1, .int .i64 k] w fun e w' => e = .returned (.bool true) ∧ Below w.heap.size w w' := by
  obtain ⟨hx0_2, hS0_2⟩ := wf0_2
  have hy0_2 := hS0_2.len
  have hL0_3 := wf0_3.lens
  have hS0_3 := wf0_3.sl
  have hx0_3 : n0_3 ≤ 9223372036854775807 := by have := Nat.le_trans hL0_3.1 hL0_3.2.1; unfold maxLen at this; omega
  obtain ⟨cP, he0_3⟩ : ∃ ss, ss = z0_3.take n0_3 := ⟨_, rfl⟩
  rw [← he0_3] at hS0_3
  have hy0_3 := hS0_3.len
  clear he0_3 hL0_3 wf0_3
  have hL0_4 := wf0_4.lens
  have hS0_4 := wf0_4.sl
  have hx0_4 : n0_4 ≤ 9223372036854775807 := by have := Nat.le_trans hL0_4.1 hL0_4.2.1; unfold maxLen at this; omega
  obtain ⟨cE, he0_4⟩ : ∃ ss, ss = z0_4.take n0_4 := ⟨_, rfl⟩
  rw [← he0_4] at hS0_4
  have hy0_4 := hS0_4.len
  clear he0_4 hL0_4 wf0_4
  have hC0 : Mc w w.heap.size (.agg #[.int .i64 cS, .int .i64 cT, .slice a0_2 n0_2 c0_2, .slice a0_3 n0_3 c0_3, .slice a0_4 n0_4 c0_4]) cS cT cL cP cE := ⟨_, _, _, _, _, _, _, _, _, rfl, hS0_2, hS0_3, hS0_4⟩
  rw [← hy0_2] at hx0_2
  rw [← hy0_3] at hx0_3
  rw [← hy0_4] at hx0_4
  clear hS0_2 hy0_2 hS0_3 hy0_3 hS0_4 hy0_4
  have HS0 := Lib.hid hC0; clear hC0
  obtain ⟨hx1, hS1⟩ := wf1
  have HS1 := Lib.hid hS1; clear hS1
  have bx0 := Row.new (w) 54 [.int .i64 cS, .int .i64 cT, .slice a0_2 n0_2 c0_2, .slice a0_3 n0_3 c0_3, .slice a0_4 n0_4 c0_4]
  have bxb : Below w.heap.size w ((w).alloc (.cells ([.int .i64 cS, .int .i64 cT, .slice a0_2 n0_2 c0_2, .slice a0_3 n0_3 c0_3, .slice a0_4 n0_4 c0_4] : List Value).toArray 54)) := (Below.refl _ _).alloc (Nat.le_refl _) _
  have BX0 := Lib.hid bx0; clear bx0
  have BXB := Lib.hid bxb; clear bxb
  go_enter Try.func6, Try.ntmps6
  go_wp2_with fail
  obtain ⟨wb, hwb⟩ : ∃ x, x = (w).alloc (.cells ([.int .i64 cS, .int .i64 cT, .slice a0_2 n0_2 c0_2, .slice a0_3 n0_3 c0_3, .slice a0_4 n0_4 c0_4] : List Value).toArray 54) := ⟨_, rfl⟩
  rw [← hwb] at BX0
  rw [← hwb] at BXB
  change Calls _ _ _ ((w).alloc (.cells ([.int .i64 cS, .int .i64 cT, .slice a0_2 n0_2 c0_2, .slice a0_3 n0_3 c0_3, .slice a0_4 n0_4 c0_4] : List Value).toArray 54)) _
  rw [← hwb]
  clear hwb
  have HS0' := Lib.hid ((HS0.out.below BXB.out (Nat.le_refl _)).more BXB.out.size)
  have HS1' := Lib.hid ((HS1.out.below BXB.out (Nat.le_refl _)).more BXB.out.size)
  refine (szMachine_any (.agg #[.int .i64 cS, .int .i64 cT, .slice a0_2 n0_2 c0_2, .slice a0_3 n0_3 c0_3, .slice a0_4 n0_4 c0_4]) cS cT cL cP cE 1048576 wb HS0'.out (by omega) (by omega) hx0_2 hx0_3 hx0_4).mono ?_
  rintro e w1 ⟨y0, rfl, hy0_0, hy1_0, hyn0, hb1⟩
  have s0_1 := hb1
  by_cases hneg : y0 < 0
  · clear hyn0
    go_wp2_with fail
    go_ret
    exact ⟨rfl, BXB.out.trans (s0_1.mono BXB.out.size)⟩
  have hyq0 : 0 ≤ y0 := by omega
  obtain ⟨hs0_2, hs0_3, hs0_4⟩ := hyn0 hyq0
  have hm0_2 : cL.length ≤ 4294967296 := by omega
  have hm0_3 : cP.length ≤ 4294967296 := by omega
  have hm0_4 : cE.length ≤ 4294967296 := by omega
  clear hyn0 hneg
  go_wp2_with fail
  refine (szInt64SS_any a1 n1 c1 ws y0 w1 ((HS1'.out.below s0_1 (Nat.le_refl _)).more s0_1.size) (by omega) (by omega) hx1).mono ?_
  rintro e w2 ⟨y1, rfl, hy0_1, hy1_1, hyn1, hb2⟩
  have s0_2 := s0_1.trans (hb2.mono s0_1.size)
  by_cases hneg : y1 < 0
  · clear hyn1
    go_wp2_with fail
    go_ret
    exact ⟨rfl, BXB.out.trans (s0_2.mono BXB.out.size)⟩
  have hyq1 : 0 ≤ y1 := by omega
  obtain ⟨hn1, hs1⟩ := hyn1 hyq1
  have hm1 : n1 ≤ 4294967296 := by omega
  have HQ1 : Hid (∀ r ∈ ws, r.length ≤ 4294967296) := fun r hr => by have := sumL_mem hr; omega
  clear hyn1 hneg
  have hOB0 : (wsO (wsB cS cT cL cP cE ws k) (wsR cL cP cE ws)).length ≤ 1048576 := wsR_len hn1 (HS1.out.len) cS cT cL cP cE k
  obtain ⟨rv0, hrv0⟩ : ∃ x, x = wsO (wsB cS cT cL cP cE ws k) (wsR cL cP cE ws) := ⟨_, rfl⟩
  rw [← hrv0] at hOB0
  obtain ⟨rv1, hrv1⟩ : ∃ x, x = wsB cS cT cL cP cE ws k := ⟨_, rfl⟩
  have Hrv0 := Lib.hid hrv0; clear hrv0
  have Hrv1 := Lib.hid hrv1; clear hrv1
  have kc0_0 := (BX0.out.below s0_2 BX0.out.lt).cell 0
  have kc0_1 := (BX0.out.below s0_2 BX0.out.lt).cell 1
  have kc0_2 := (BX0.out.below s0_2 BX0.out.lt).cell 2
  have kc0_3 := (BX0.out.below s0_2 BX0.out.lt).cell 3
  have kc0_4 := (BX0.out.below s0_2 BX0.out.lt).cell 4
  go_wp2_with fail
  clear kc0_0 kc0_1 kc0_2 kc0_3 kc0_4
  refine (toMachine_any (.agg #[.int .i64 cS, .int .i64 cT, .slice a0_2 n0_2 c0_2, .slice a0_3 n0_3 c0_3, .slice a0_4 n0_4 c0_4]) cS cT cL cP cE w2 ((HS0'.out.below s0_2 (Nat.le_refl _)).more s0_2.size) hm0_2 hm0_3 hm0_4).mono ?_
  rintro e w3 ⟨u3, rfl, hr3, hb3⟩
  obtain ⟨ga3_2, ga3_3, ga3_4, hu⟩ := hr3.shape
  subst hu
  have H3 := Lib.hid hr3.cg
  have N3 := Lib.hid (hr3.cgm hm0_2 hm0_3 hm0_4); clear hr3
  go_wp2_with fail
  have s0_3 := s0_2.trans (hb3.mono s0_2.size)
  refine (toInt64SS_any a1 n1 c1 ws w3 ((HS1'.out.below s0_3 (Nat.le_refl _)).more s0_3.size) hm1 HQ1.out).mono ?_
  rintro e w4 ⟨g4, rfl, hg4, hn_, hs_, hb4⟩
  have H4 := Lib.hid hs_
  have N4 := Lib.hid hn_
  clear hn_ hs_
  go_wp2_with fail
  have s3_4 := hb4
  refine (sShared_any _ g4 n1 n1 cS cT cL cP cE ws k w4 ((H3.out.below s3_4 (Nat.le_refl _)).more s3_4.size) H4.out hs0_2 hs0_3 hs0_4 hn1 hs1).mono ?_
  rintro e w5 ⟨v_5_0, rfl, hv5_0, hb5⟩
  have hR5_0 := Lib.hid hv5_0; clear hv5_0
  rw [← Hrv0.out] at hR5_0
  rw [← Hrv1.out]
  have s0_4 := s0_3.trans (hb4.mono s0_3.size)
  have s0_5 := s0_4.trans (hb5.mono s0_4.size)
  have kc0_0 := (BX0.out.below s0_5 BX0.out.lt).cell 0
  have kc0_1 := (BX0.out.below s0_5 BX0.out.lt).cell 1
  have kc0_2 := (BX0.out.below s0_5 BX0.out.lt).cell 2
  have kc0_3 := (BX0.out.below s0_5 BX0.out.lt).cell 3
  have kc0_4 := (BX0.out.below s0_5 BX0.out.lt).cell 4
  go_wp2_with fail
  clear kc0_0 kc0_1 kc0_2 kc0_3 kc0_4
  refine (toMachine_any (.agg #[.int .i64 cS, .int .i64 cT, .slice a0_2 n0_2 c0_2, .slice a0_3 n0_3 c0_3, .slice a0_4 n0_4 c0_4]) cS cT cL cP cE w5 ((HS0'.out.below s0_5 (Nat.le_refl _)).more s0_5.size) hm0_2 hm0_3 hm0_4).mono ?_
  rintro e w6 ⟨u6, rfl, hr6, hb6⟩
  obtain ⟨ga6_2, ga6_3, ga6_4, hu⟩ := hr6.shape
  subst hu
  have H6 := Lib.hid hr6.cg
  have N6 := Lib.hid (hr6.cgm hm0_2 hm0_3 hm0_4); clear hr6
  go_wp2_with fail
  obtain ⟨w7, hwb⟩ : ∃ x, x = w6.alloc (.cells ([.int .i64 cS, .int .i64 cT, .slice (some ⟨ga6_2, 0, none⟩) cL.length cL.length, .slice (some ⟨ga6_3, 0, none⟩) cP.length cP.length, .slice (some ⟨ga6_4, 0, none⟩) cE.length cE.length] : List Value).toArray 60) := ⟨_, rfl⟩
  have bq := Row.new w6 60 [.int .i64 cS, .int .i64 cT, .slice (some ⟨ga6_2, 0, none⟩) cL.length cL.length, .slice (some ⟨ga6_3, 0, none⟩) cP.length cP.length, .slice (some ⟨ga6_4, 0, none⟩) cE.length cE.length]
  have hb7 : Below w6.heap.size w6 (w6.alloc (.cells ([.int .i64 cS, .int .i64 cT, .slice (some ⟨ga6_2, 0, none⟩) cL.length cL.length, .slice (some ⟨ga6_3, 0, none⟩) cP.length cP.length, .slice (some ⟨ga6_4, 0, none⟩) cE.length cE.length] : List Value).toArray 60)) := (Below.refl _ _).alloc (Nat.le_refl _) _
  rw [← hwb] at bq hb7
  change Calls _ _ _ (w6.alloc (.cells ([.int .i64 cS, .int .i64 cT, .slice (some ⟨ga6_2, 0, none⟩) cL.length cL.length, .slice (some ⟨ga6_3, 0, none⟩) cP.length cP.length, .slice (some ⟨ga6_4, 0, none⟩) cE.length cE.length] : List Value).toArray 60)) _
  rw [← hwb]
  clear hwb
  have BXx6 := Lib.hid bq; clear bq
  have s0_6 := s0_5.trans (hb6.mono s0_5.size)
  have s0_7 := s0_6.trans (hb7.mono s0_6.size)
  refine (toInt64SS_any a1 n1 c1 ws w7 ((HS1'.out.below s0_7 (Nat.le_refl _)).more s0_7.size) hm1 HQ1.out).mono ?_
  rintro e w8 ⟨g8, rfl, hg8, hn_, hs_, hb8⟩
  have H8 := Lib.hid hs_
  have N8 := Lib.hid hn_
  clear hn_ hs_
  have s7_8 := hb8
  have kx6_0 := (BXx6.out.below s7_8 BXx6.out.lt).cell 0
  have kx6_1 := (BXx6.out.below s7_8 BXx6.out.lt).cell 1
  have kx6_2 := (BXx6.out.below s7_8 BXx6.out.lt).cell 2
  have kx6_3 := (BXx6.out.below s7_8 BXx6.out.lt).cell 3
  have kx6_4 := (BXx6.out.below s7_8 BXx6.out.lt).cell 4
  go_wp2_with fail
  clear kx6_0 kx6_1 kx6_2 kx6_3 kx6_4
  have s6_7 := hb7
  have s6_8 := s6_7.trans (hb8.mono s6_7.size)
  refine (iShared_any _ g8 n1 n1 cS cT cL cP cE ws k w8 ((H6.out.below s6_8 (Nat.le_refl _)).more s6_8.size) H8.out hs0_2 hs0_3 hs0_4 hn1 hs1).mono ?_
  rintro e w9 ⟨v_9_0, rfl, hv9_0, hb9⟩
  have hR9_0 := Lib.hid hv9_0; clear hv9_0
  rw [← Hrv0.out] at hR9_0
  rw [← Hrv1.out]
  go_wp2_with fail
  have s5_6 := hb6
  have s5_7 := s5_6.trans (hb7.mono s5_6.size)
  have s5_8 := s5_7.trans (hb8.mono s5_7.size)
  have s5_9 := s5_8.trans (hb9.mono s5_8.size)
  have hOB04 : rv0.length ≤ 4294967296 := by omega
  refine (eqOwn v_9_0 v_5_0 rv0 _ _ w9 hR9_0.out (hR5_0.out.keep s5_9 (Nat.le_refl _)) hOB04).mono ?_
  rintro e w10 ⟨rfl, hb10⟩
  have s0_8 := s0_7.trans (hb8.mono s0_7.size)
  have s0_9 := s0_8.trans (hb9.mono s0_8.size)
  have s0_10 := s0_9.trans (hb10.mono s0_9.size)
  have kc0_0 := (BX0.out.below s0_10 BX0.out.lt).cell 0
  have kc0_1 := (BX0.out.below s0_10 BX0.out.lt).cell 1
  have kc0_2 := (BX0.out.below s0_10 BX0.out.lt).cell 2
  have kc0_3 := (BX0.out.below s0_10 BX0.out.lt).cell 3
  have kc0_4 := (BX0.out.below s0_10 BX0.out.lt).cell 4
  have s7_9 := s7_8.trans (hb9.mono s7_8.size)
  have s7_10 := s7_9.trans (hb10.mono s7_9.size)
  have kx6_0 := (BXx6.out.below s7_10 BXx6.out.lt).cell 0
  have kx6_1 := (BXx6.out.below s7_10 BXx6.out.lt).cell 1
  have kx6_2 := (BXx6.out.below s7_10 BXx6.out.lt).cell 2
  have kx6_3 := (BXx6.out.below s7_10 BXx6.out.lt).cell 3
  have kx6_4 := (BXx6.out.below s7_10 BXx6.out.lt).cell 4
  go_wp2_with fail
  have s6_9 := s6_8.trans (hb9.mono s6_8.size)
  have s6_10 := s6_9.trans (hb10.mono s6_9.size)
  have hsrc := Lib.hid ((HS0'.out.below s0_10 (Nat.le_refl _)).more s0_10.size)
  have hcop := Lib.hid ((H6.out.below s6_10 (Nat.le_refl _)).more s6_10.size)
  have hcells : ∀ x : World, Below w10.heap.size w10 x → (x.cell? ⟨w.heap.size, 0, none⟩ = some (.int .i64 cS) ∧ x.cell? ⟨w.heap.size, 1, none⟩ = some (.int .i64 cT) ∧ x.cell? ⟨w.heap.size, 2, none⟩ = some (.slice a0_2 n0_2 c0_2) ∧ x.cell? ⟨w.heap.size, 3, none⟩ = some (.slice a0_3 n0_3 c0_3) ∧ x.cell? ⟨w.heap.size, 4, none⟩ = some (.slice a0_4 n0_4 c0_4) ∧ x.cell? ⟨w6.heap.size, 0, none⟩ = some (.int .i64 cS) ∧ x.cell? ⟨w6.heap.size, 1, none⟩ = some (.int .i64 cT) ∧ x.cell? ⟨w6.heap.size, 2, none⟩ = some (.slice (some ⟨ga6_2, 0, none⟩) cL.length cL.length) ∧ x.cell? ⟨w6.heap.size, 3, none⟩ = some (.slice (some ⟨ga6_3, 0, none⟩) cP.length cP.length) ∧ x.cell? ⟨w6.heap.size, 4, none⟩ = some (.slice (some ⟨ga6_4, 0, none⟩) cE.length cE.length)) := by
    intro x hx
    have ra := (BX0.out.below s0_10 BX0.out.lt)
    have rx := (BXx6.out.below s7_10 BXx6.out.lt)
    have ra' := ra.below hx ra.lt
    have rx' := rx.below hx rx.lt
    exact ⟨ra'.cell 0, ra'.cell 1, ra'.cell 2, ra'.cell 3, ra'.cell 4, rx'.cell 0, rx'.cell 1, rx'.cell 2, rx'.cell 3, rx'.cell 4⟩
  have hcells := Lib.hid hcells
  have hkeep : Hid (∀ x y : World, Below w10.heap.size w10 x → Below x.heap.size x y → (Below w10.heap.size w10 y ∧ y.cell? ⟨w.heap.size, 0, none⟩ = some (.int .i64 cS) ∧ y.cell? ⟨w.heap.size, 1, none⟩ = some (.int .i64 cT) ∧ y.cell? ⟨w.heap.size, 2, none⟩ = some (.slice a0_2 n0_2 c0_2) ∧ y.cell? ⟨w.heap.size, 3, none⟩ = some (.slice a0_3 n0_3 c0_3) ∧ y.cell? ⟨w.heap.size, 4, none⟩ = some (.slice a0_4 n0_4 c0_4) ∧ y.cell? ⟨w6.heap.size, 0, none⟩ = some (.int .i64 cS) ∧ y.cell? ⟨w6.heap.size, 1, none⟩ = some (.int .i64 cT) ∧ y.cell? ⟨w6.heap.size, 2, none⟩ = some (.slice (some ⟨ga6_2, 0, none⟩) cL.length cL.length) ∧ y.cell? ⟨w6.heap.size, 3, none⟩ = some (.slice (some ⟨ga6_3, 0, none⟩) cP.length cP.length) ∧ y.cell? ⟨w6.heap.size, 4, none⟩ = some (.slice (some ⟨ga6_4, 0, none⟩) cE.length cE.length))) := by
    intro x y h1 h2
    have h3 := h1.trans (h2.mono h1.size)
    exact ⟨h3, hcells.out y h3⟩
  have hfrom := hcells.out w10 (Below.refl _ _)
  have hdr : Below w10.heap.size w10 w10.drew := Below.drew (Below.refl _ _)
  go_region_held3 (fun x => Below w10.heap.size w10 x ∧ x.cell? ⟨w.heap.size, 0, none⟩ = some (.int .i64 cS) ∧ x.cell? ⟨w.heap.size, 1, none⟩ = some (.int .i64 cT) ∧ x.cell? ⟨w.heap.size, 2, none⟩ = some (.slice a0_2 n0_2 c0_2) ∧ x.cell? ⟨w.heap.size, 3, none⟩ = some (.slice a0_3 n0_3 c0_3) ∧ x.cell? ⟨w.heap.size, 4, none⟩ = some (.slice a0_4 n0_4 c0_4) ∧ x.cell? ⟨w6.heap.size, 0, none⟩ = some (.int .i64 cS) ∧ x.cell? ⟨w6.heap.size, 1, none⟩ = some (.int .i64 cT) ∧ x.cell? ⟨w6.heap.size, 2, none⟩ = some (.slice (some ⟨ga6_2, 0, none⟩) cL.length cL.length) ∧ x.cell? ⟨w6.heap.size, 3, none⟩ = some (.slice (some ⟨ga6_3, 0, none⟩) cP.length cP.length) ∧ x.cell? ⟨w6.heap.size, 4, none⟩ = some (.slice (some ⟨ga6_4, 0, none⟩) cE.length cE.length)) (first | assumption | go_keep)
    (first
      | (go_at_call 27; refine (toMachine_any _ cS cT cL cP cE _ ?_ hm0_2 hm0_3 hm0_4).mono ?_; (exact (hsrc.out.below (by first | assumption | (apply And.left; assumption)) (Nat.le_refl _)).more (Below.size (by first | assumption | (apply And.left; assumption)))); rintro e wz ⟨uz, rfl, hrz, hbz⟩; have hkz := (fun h => hkeep.out _ _ h hbz) (by first | assumption | (apply And.left; assumption)); obtain ⟨gb2, gb3, gb4, hu⟩ := hrz.shape; subst hu; have HCz := Lib.hid hrz.cg; clear hrz)
      | (go_at_call 29; refine (eqMachine_same _ _ cS cT cL cP cE _ ?_ ?_ hm0_2 hm0_3 hm0_4).mono ?_; (exact (hcop.out.below (by first | assumption | (apply And.left; assumption)) (Nat.le_refl _)).more (Below.size (by first | assumption | (apply And.left; assumption)))); (exact HCz.out); rintro e w11 ⟨rfl, hbz2⟩; have hk2 := (fun h => hkeep.out _ _ h hbz2) (by first | assumption | (apply And.left; assumption))))
  have hb11 : Below w10.heap.size w10 w11 := (by first | assumption | (apply And.left; assumption))
  clear hfrom hdr hkeep hcells hsrc hcop kc0_0 kc0_1 kc0_2 kc0_3 kc0_4 kx6_0 kx6_1 kx6_2 kx6_3 kx6_4
  go_wp2_with fail
  have s0_11 := s0_10.trans (hb11.mono s0_10.size)
  refine (toInt64SS_any a1 n1 c1 ws w11 ((HS1'.out.below s0_11 (Nat.le_refl _)).more s0_11.size) hm1 HQ1.out).mono ?_
  rintro e w12 ⟨g12, rfl, hg12, hn_, hs_, hb12⟩
  have H12 := Lib.hid hs_
  have N12 := Lib.hid hn_
  clear hn_ hs_
  go_wp2_with fail
  have s8_9 := hb9
  have s8_10 := s8_9.trans (hb10.mono s8_9.size)
  have s8_11 := s8_10.trans (hb11.mono s8_10.size)
  have s8_12 := s8_11.trans (hb12.mono s8_11.size)
  refine (eqInt64SS_any _ n1 n1 ws _ n1 n1 ws w12 ((H8.out.below s8_12 (Nat.le_refl _)).more s8_12.size) H12.out hm1 hm1 HQ1.out HQ1.out).mono ?_
  rintro e w13 ⟨rfl, hb13⟩
  have hd13 : decide (ws = ws) = true := decide_eq_true rfl
  have s6_11 := s6_10.trans (hb11.mono s6_10.size)
  have s6_12 := s6_11.trans (hb12.mono s6_11.size)
  have s6_13 := s6_12.trans (hb13.mono s6_12.size)
  have M6 := Lib.hid (N6.out.below s6_13 (Nat.le_refl _))
  have s8_13 := s8_12.trans (hb13.mono s8_12.size)
  have M8 := Lib.hid (N8.out.below s8_13 (Nat.le_refl _))
  have s9_10 := hb10
  have s9_11 := s9_10.trans (hb11.mono s9_10.size)
  have s9_12 := s9_11.trans (hb12.mono s9_11.size)
  have s9_13 := s9_12.trans (hb13.mono s9_12.size)
  have hRm0 := Lib.hid (hR9_0.out.keep s9_13 (Nat.le_refl _))
  have s7_11 := s7_10.trans (hb11.mono s7_10.size)
  have s7_12 := s7_11.trans (hb12.mono s7_11.size)
  have s7_13 := s7_12.trans (hb13.mono s7_12.size)
  have kx6_0 := (BXx6.out.below s7_13 BXx6.out.lt).cell 0
  have kx6_1 := (BXx6.out.below s7_13 BXx6.out.lt).cell 1
  have kx6_2 := (BXx6.out.below s7_13 BXx6.out.lt).cell 2
  have kx6_3 := (BXx6.out.below s7_13 BXx6.out.lt).cell 3
  have kx6_4 := (BXx6.out.below s7_13 BXx6.out.lt).cell 4
  go_wp2_with fail
  clear kx6_0 kx6_1 kx6_2 kx6_3 kx6_4
  refine (markMachine_any _ cS cT cL cP cE w5.heap.size w6.heap.size (1) w13 M6.out hs0_2 hs0_3 hs0_4 (by omega) (by omega) (Nat.le_trans (Nat.le_trans (Nat.le_trans (Nat.le_trans (Nat.le_trans (Nat.le_trans hb7.size hb8.size) hb9.size) hb10.size) hb11.size) hb12.size) hb13.size)).mono ?_
  rintro e w14 ⟨rfl, -, hk14⟩
  have hkb14 := (hk14.below (Nat.le_trans (Nat.le_trans (Nat.le_trans (Nat.le_trans (Nat.le_trans (Nat.le_trans (Nat.le_trans hb6.size hb7.size) hb8.size) hb9.size) hb10.size) hb11.size) hb12.size) hb13.size)).mono (Nat.le_refl _)
  have M8 := Lib.hid (M8.out.kp hk14 (Nat.le_trans hb7.size hg8))
  have hRm0 := Lib.hid (hRm0.out.kp hk14 (Nat.le_trans hb7.size hb8.size))
  have BY6_14 := Lib.hid (Row.kp (BXx6.out.below s7_13 BXx6.out.lt) hk14 (.inr (Nat.le_refl _)))
  go_wp2_with fail
  refine (markInt64SS_any g8 n1 n1 ws (1 + 4 * (cL.length : Int) + (cP.length : Int) + (cE.length : Int)) w14 w7.heap.size w8.heap.size M8.out (HS1.out.len) hs1 (by omega) (by omega) hm1 hg8).mono ?_
  rintro e w15 ⟨rfl, hk15⟩
  have hkb15 := (hk15.below (Nat.le_trans (Nat.le_trans (Nat.le_trans (Nat.le_trans (Nat.le_trans (Nat.le_trans hb8.size hb9.size) hb10.size) hb11.size) hb12.size) hb13.size) hk14.2.2.2.1)).mono (Nat.le_trans hb6.size hb7.size)
  have hRm0 := Lib.hid (hRm0.out.kp hk15 (Nat.le_refl _))
  have BY6_15 := Lib.hid (Row.kp BY6_14.out hk15 (.inl (Nat.lt_of_lt_of_le BXx6.out.lt (Nat.le_refl _))))
  have q1 : (0 : Int) ≤ 1 + 4 * (cL.length : Int) + (cP.length : Int) + (cE.length : Int) + (sumL ws : Int) := by omega
  go_wp2_with fail
  have s5_10 := s5_9.trans (hb10.mono s5_9.size)
  have s5_11 := s5_10.trans (hb11.mono s5_10.size)
  have s5_12 := s5_11.trans (hb12.mono s5_11.size)
  have s5_13 := s5_12.trans (hb13.mono s5_12.size)
  have s5_14 := s5_13.trans (hkb14.mono (Nat.le_refl _))
  have s5_15 := s5_14.trans (hkb15.mono (Nat.le_refl _))
  refine (eqOwn v_9_0 v_5_0 rv0 _ _ w15 hRm0.out (hR5_0.out.keep s5_15 (Nat.le_refl _)) hOB04).mono ?_
  rintro e w16 ⟨rfl, hb16⟩
  have hRm0 := Lib.hid (hRm0.out.keep hb16 (Nat.le_refl _))
  have hszq : w8.heap.size ≤ w16.heap.size := (Nat.le_trans (Nat.le_trans (Nat.le_trans (Nat.le_trans (Nat.le_trans (Nat.le_trans (Nat.le_trans hb9.size hb10.size) hb11.size) hb12.size) hb13.size) hk14.2.2.2.1) hk15.2.2.2.1) hb16.size)
  go_wp2_with fail
  refine (markOwn w8.heap.size v_9_0 rv0 1 w16 hRm0.out hszq hOB04 (by omega) (by omega)).mono ?_
  rintro e w17 ⟨rfl, hmk, hkb17⟩
  have HM := Lib.hid hmk; clear hmk
  have hkb17 := hkb17.mono (Nat.le_trans (Nat.le_trans hb6.size hb7.size) hb8.size)
  go_wp2_with fail
  refine (heldOwn v_9_0 rv0.length 1 w17 HM.out hOB04 (by omega) (by omega)).mono ?_
  rintro e wq ⟨rfl, hwq⟩
  obtain rfl := hwq
  have q2 : (0 : Int) ≤ 1 + (rv0.length : Int) := by omega
  have s0_12 := s0_11.trans (hb12.mono s0_11.size)
  have s0_13 := s0_12.trans (hb13.mono s0_12.size)
  have s0_14 := s0_13.trans (hkb14.mono s0_5.size)
  have s0_15 := s0_14.trans (hkb15.mono s0_5.size)
  have s0_16 := s0_15.trans (hb16.mono s0_15.size)
  have s0_17 := s0_16.trans (hkb17.mono s0_5.size)
  have kc0_0 := (BX0.out.below s0_17 BX0.out.lt).cell 0
  have kc0_1 := (BX0.out.below s0_17 BX0.out.lt).cell 1
  have kc0_2 := (BX0.out.below s0_17 BX0.out.lt).cell 2
  have kc0_3 := (BX0.out.below s0_17 BX0.out.lt).cell 3
  have kc0_4 := (BX0.out.below s0_17 BX0.out.lt).cell 4
  go_wp2_with fail
  clear kc0_0 kc0_1 kc0_2 kc0_3 kc0_4
  refine (toMachine_any (.agg #[.int .i64 cS, .int .i64 cT, .slice a0_2 n0_2 c0_2, .slice a0_3 n0_3 c0_3, .slice a0_4 n0_4 c0_4]) cS cT cL cP cE w17 ((HS0'.out.below s0_17 (Nat.le_refl _)).more s0_17.size) hm0_2 hm0_3 hm0_4).mono ?_
  rintro e w18 ⟨u18, rfl, hr18, hb18⟩
  obtain ⟨ga18_2, ga18_3, ga18_4, hu⟩ := hr18.shape
  subst hu
  have H18 := Lib.hid hr18.cg
  have N18 := Lib.hid (hr18.cgm hm0_2 hm0_3 hm0_4); clear hr18
  go_wp2_with fail
  have s0_18 := s0_17.trans (hb18.mono s0_17.size)
  refine (toInt64SS_any a1 n1 c1 ws w18 ((HS1'.out.below s0_18 (Nat.le_refl _)).more s0_18.size) hm1 HQ1.out).mono ?_
  rintro e w19 ⟨g19, rfl, hg19, hn_, hs_, hb19⟩
  have H19 := Lib.hid hs_
  have N19 := Lib.hid hn_
  clear hn_ hs_
  go_wp2_with fail
  have s18_19 := hb19
  refine (iShared_any _ g19 n1 n1 cS cT cL cP cE ws k w19 ((H18.out.below s18_19 (Nat.le_refl _)).more s18_19.size) H19.out hs0_2 hs0_3 hs0_4 hn1 hs1).mono ?_
  rintro e w20 ⟨v_20_0, rfl, hv20_0, hb20⟩
  have hR20_0 := Lib.hid hv20_0; clear hv20_0
  rw [← Hrv0.out] at hR20_0
  rw [← Hrv1.out]
  go_wp2_with fail
  have s5_16 := s5_15.trans (hb16.mono s5_15.size)
  have s5_17 := s5_16.trans (hkb17.mono (Nat.le_refl _))
  have s5_18 := s5_17.trans (hb18.mono s5_17.size)
  have s5_19 := s5_18.trans (hb19.mono s5_18.size)
  have s5_20 := s5_19.trans (hb20.mono s5_19.size)
  refine (eqOwn v_20_0 v_5_0 rv0 _ _ w20 hR20_0.out (hR5_0.out.keep s5_20 (Nat.le_refl _)) hOB04).mono ?_
  rintro e w21 ⟨rfl, hb21⟩
  go_wp2_with fail
  have s17_18 := hb18
  have s17_19 := s17_18.trans (hb19.mono s17_18.size)
  have s17_20 := s17_19.trans (hb20.mono s17_19.size)
  have s17_21 := s17_20.trans (hb21.mono s17_20.size)
  refine (heldOwn v_9_0 rv0.length 1 w21 (HM.out.below s17_21 (Nat.le_refl _)) hOB04 (by omega) (by omega)).mono ?_
  rintro e wq ⟨rfl, hwq⟩
  obtain rfl := hwq
  go_wp2_with fail
  go_ret
  have s0_19 := s0_18.trans (hb19.mono s0_18.size)
  have s0_20 := s0_19.trans (hb20.mono s0_19.size)
  have s0_21 := s0_20.trans (hb21.mono s0_20.size)
  exact ⟨rfl, BXB.out.trans (s0_21.mono BXB.out.size)⟩
end Go.Proofs.Ytchacfienafhlaa.fnExactWordsShared
