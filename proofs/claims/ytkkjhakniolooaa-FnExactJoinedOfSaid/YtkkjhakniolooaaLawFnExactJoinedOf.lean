/- FnExactJoinedOf: the walk: the law returns true. -/
import Derived.Test.YtkkjhakniolooaaJoL
import Derived.Test.YtkkjhakniolooaaMachineSt
import Derived.Test.YtkkjhakniolooaaKp
import Derived.Test.YtkkjhakniolooaaPr
import Derived.Test.YtkkjhakniolooaaMachineOw
import Derived.Deep.RegionHeld3
import Derived.Deep.RegionWith
import Derived.Deep.CutRange
namespace Go.Proofs.Ytkkjhakniolooaa.fnExactJoinedOf
open Go.RowKit
set_option linter.unusedVariables false
set_option maxHeartbeats 40000000 in
theorem walk (cS : Int) (cT : Int) (a0_2 : Option Addr) (n0_2 c0_2 : Nat) (cL : List A4) (a0_3 : Option Addr) (n0_3 c0_3 : Nat) (z0_3 : List Int) (a0_4 : Option Addr) (n0_4 c0_4 : Nat) (z0_4 : List Int) (dS : Int) (dT : Int) (a1_2 : Option Addr) (n1_2 c1_2 : Nat) (dL : List A4) (a1_3 : Option Addr) (n1_3 c1_3 : Nat) (z1_3 : List Int) (a1_4 : Option Addr) (n1_4 c1_4 : Nat) (z1_4 : List Int) (w : World) (wf0_0 : (Lit.int .i64 cS).wf = true) (wf0_1 : (Lit.int .i64 cT).wf = true) (wf0_2 : n0_2 ≤ 9223372036854775807 ∧ SlA w w.heap.size a0_2 n0_2 cL) (wf0_3 : IsRow .i64 w a0_3 n0_3 c0_3 z0_3) (wf0_4 : IsRow .i64 w a0_4 n0_4 c0_4 z0_4) (wf1_0 : (Lit.int .i64 dS).wf = true) (wf1_1 : (Lit.int .i64 dT).wf = true) (wf1_2 : n1_2 ≤ 9223372036854775807 ∧ SlA w w.heap.size a1_2 n1_2 dL) (wf1_3 : IsRow .i64 w a1_3 n1_3 c1_3 z1_3) (wf1_4 : IsRow .i64 w a1_4 n1_4 c1_4 z1_4) :
    Calls Try.prog 4 #[.agg #[.int .i64 cS, .int .i64 cT, .slice a0_2 n0_2 c0_2, .slice a0_3 n0_3 c0_3, .slice a0_4 n0_4 c0_4], .agg #[.int .i64 dS, .int .i64 dT, .slice a1_2 n1_2 c1_2, .slice a1_3 n1_3 c1_3, .slice a1_4 n1_4 c1_4]] w fun e w' => e = .returned (.bool true) ∧ Below w.heap.size w w' := by
  obtain ⟨hx0_2, hS0_2⟩ := wf0_2
  have hy0_2 := hS0_2.len
  have hL0_3 := wf0_3.lens
  have hS0_3 := wf0_3.sl
  have hx0_3 : n0_3 ≤ 9223372036854775807 := by have := Nat.le_trans hL0_3.1 hL0_3.2.1; unfold maxLen at this; omega
  obtain ⟨cP, he0_3⟩ : ∃ ss, ss = z0_3.take n0_3 := ⟨_, rfl⟩
  rw [← he0_3] at hS0_3
  have hy0_3 := hS0_3.len
  clear he0_3 hL0_3 wf0_3
  have hL0_4 := wf0_4.lens
  have hS0_4 := wf0_4.sl
  have hx0_4 : n0_4 ≤ 9223372036854775807 := by have := Nat.le_trans hL0_4.1 hL0_4.2.1; unfold maxLen at this; omega
  obtain ⟨cE, he0_4⟩ : ∃ ss, ss = z0_4.take n0_4 := ⟨_, rfl⟩
  rw [← he0_4] at hS0_4
  have hy0_4 := hS0_4.len
  clear he0_4 hL0_4 wf0_4
  have hC0 : Mc w w.heap.size (.agg #[.int .i64 cS, .int .i64 cT, .slice a0_2 n0_2 c0_2, .slice a0_3 n0_3 c0_3, .slice a0_4 n0_4 c0_4]) cS cT cL cP cE := ⟨_, _, _, _, _, _, _, _, _, rfl, hS0_2, hS0_3, hS0_4⟩
  rw [← hy0_2] at hx0_2
  rw [← hy0_3] at hx0_3
  rw [← hy0_4] at hx0_4
  clear hS0_2 hy0_2 hS0_3 hy0_3 hS0_4 hy0_4
  have HS0 := Lib.hid hC0; clear hC0
  obtain ⟨hx1_2, hS1_2⟩ := wf1_2
  have hy1_2 := hS1_2.len
  have hL1_3 := wf1_3.lens
  have hS1_3 := wf1_3.sl
  have hx1_3 : n1_3 ≤ 9223372036854775807 := by have := Nat.le_trans hL1_3.1 hL1_3.2.1; unfold maxLen at this; omega
  obtain ⟨dP, he1_3⟩ : ∃ ss, ss = z1_3.take n1_3 := ⟨_, rfl⟩
  rw [← he1_3] at hS1_3
  have hy1_3 := hS1_3.len
  clear he1_3 hL1_3 wf1_3
  have hL1_4 := wf1_4.lens
  have hS1_4 := wf1_4.sl
  have hx1_4 : n1_4 ≤ 9223372036854775807 := by have := Nat.le_trans hL1_4.1 hL1_4.2.1; unfold maxLen at this; omega
  obtain ⟨dE, he1_4⟩ : ∃ ss, ss = z1_4.take n1_4 := ⟨_, rfl⟩
  rw [← he1_4] at hS1_4
  have hy1_4 := hS1_4.len
  clear he1_4 hL1_4 wf1_4
  have hC1 : Mc w w.heap.size (.agg #[.int .i64 dS, .int .i64 dT, .slice a1_2 n1_2 c1_2, .slice a1_3 n1_3 c1_3, .slice a1_4 n1_4 c1_4]) dS dT dL dP dE := ⟨_, _, _, _, _, _, _, _, _, rfl, hS1_2, hS1_3, hS1_4⟩
  rw [← hy1_2] at hx1_2
  rw [← hy1_3] at hx1_3
  rw [← hy1_4] at hx1_4
  clear hS1_2 hy1_2 hS1_3 hy1_3 hS1_4 hy1_4
  have HS1 := Lib.hid hC1; clear hC1
  have bx0 := Row.new (w) 25 [.int .i64 cS, .int .i64 cT, .slice a0_2 n0_2 c0_2, .slice a0_3 n0_3 c0_3, .slice a0_4 n0_4 c0_4]
  have bx1 := Row.new ((w).alloc (.cells ([.int .i64 cS, .int .i64 cT, .slice a0_2 n0_2 c0_2, .slice a0_3 n0_3 c0_3, .slice a0_4 n0_4 c0_4] : List Value).toArray 25)) 25 [.int .i64 dS, .int .i64 dT, .slice a1_2 n1_2 c1_2, .slice a1_3 n1_3 c1_3, .slice a1_4 n1_4 c1_4]
  rw [show ((w).alloc (.cells ([.int .i64 cS, .int .i64 cT, .slice a0_2 n0_2 c0_2, .slice a0_3 n0_3 c0_3, .slice a0_4 n0_4 c0_4] : List Value).toArray 25)).heap.size = w.heap.size + 1 by simp] at bx1
  have bxb : Below w.heap.size w (((w).alloc (.cells ([.int .i64 cS, .int .i64 cT, .slice a0_2 n0_2 c0_2, .slice a0_3 n0_3 c0_3, .slice a0_4 n0_4 c0_4] : List Value).toArray 25)).alloc (.cells ([.int .i64 dS, .int .i64 dT, .slice a1_2 n1_2 c1_2, .slice a1_3 n1_3 c1_3, .slice a1_4 n1_4 c1_4] : List Value).toArray 25)) := ((Below.refl _ _).alloc (Nat.le_refl _) _).alloc (by simp) _
  have bx0 := bx0.alloc (.cells ([.int .i64 dS, .int .i64 dT, .slice a1_2 n1_2 c1_2, .slice a1_3 n1_3 c1_3, .slice a1_4 n1_4 c1_4] : List Value).toArray 25)
  have BX0 := Lib.hid bx0; clear bx0
  have BX1 := Lib.hid bx1; clear bx1
  have BXB := Lib.hid bxb; clear bxb
  go_enter Try.func4, Try.ntmps4
  go_upto_region 2 with fail
  obtain ⟨wb, hwb⟩ : ∃ x, x = ((w).alloc (.cells ([.int .i64 cS, .int .i64 cT, .slice a0_2 n0_2 c0_2, .slice a0_3 n0_3 c0_3, .slice a0_4 n0_4 c0_4] : List Value).toArray 25)).alloc (.cells ([.int .i64 dS, .int .i64 dT, .slice a1_2 n1_2 c1_2, .slice a1_3 n1_3 c1_3, .slice a1_4 n1_4 c1_4] : List Value).toArray 25) := ⟨_, rfl⟩
  rw [← hwb] at BX0
  rw [← hwb] at BX1
  rw [← hwb] at BXB
  rw [← hwb]
  clear hwb
  have kc_0 := BX0.out.cell 0
  have kc_1 := BX0.out.cell 1
  have kc_2 := BX0.out.cell 2
  have kc_3 := BX0.out.cell 3
  have kc_4 := BX0.out.cell 4
  go_wp2_with fail
  clear kc_0 kc_1 kc_2 kc_3 kc_4
  have HS0' := Lib.hid ((HS0.out.below BXB.out (Nat.le_refl _)).more BXB.out.size)
  have HS1' := Lib.hid ((HS1.out.below BXB.out (Nat.le_refl _)).more BXB.out.size)
  refine (szMachine_any (.agg #[.int .i64 cS, .int .i64 cT, .slice a0_2 n0_2 c0_2, .slice a0_3 n0_3 c0_3, .slice a0_4 n0_4 c0_4]) cS cT cL cP cE 1048576 wb HS0'.out (by omega) (by omega) hx0_2 hx0_3 hx0_4).mono ?_
  rintro e w1 ⟨y0, rfl, hy0_0, hy1_0, hyn0, hb1⟩
  have s0_1 := hb1
  by_cases hneg : y0 < 0
  · clear hyn0
    go_wp2_with fail
    go_ret
    exact ⟨rfl, BXB.out.trans (s0_1.mono BXB.out.size)⟩
  have hyq0 : 0 ≤ y0 := by omega
  obtain ⟨hs0_2, hs0_3, hs0_4⟩ := hyn0 hyq0
  have hm0_2 : cL.length ≤ 4294967296 := by omega
  have hm0_3 : cP.length ≤ 4294967296 := by omega
  have hm0_4 : cE.length ≤ 4294967296 := by omega
  clear hyn0 hneg
  have kc1_0 := (BX1.out.below s0_1 BX1.out.lt).cell 0
  have kc1_1 := (BX1.out.below s0_1 BX1.out.lt).cell 1
  have kc1_2 := (BX1.out.below s0_1 BX1.out.lt).cell 2
  have kc1_3 := (BX1.out.below s0_1 BX1.out.lt).cell 3
  have kc1_4 := (BX1.out.below s0_1 BX1.out.lt).cell 4
  go_wp2_with fail
  clear kc1_0 kc1_1 kc1_2 kc1_3 kc1_4
  refine (szMachine_any (.agg #[.int .i64 dS, .int .i64 dT, .slice a1_2 n1_2 c1_2, .slice a1_3 n1_3 c1_3, .slice a1_4 n1_4 c1_4]) dS dT dL dP dE y0 w1 ((HS1'.out.below s0_1 (Nat.le_refl _)).more s0_1.size) (by omega) (by omega) hx1_2 hx1_3 hx1_4).mono ?_
  rintro e w2 ⟨y1, rfl, hy0_1, hy1_1, hyn1, hb2⟩
  have s0_2 := s0_1.trans (hb2.mono s0_1.size)
  by_cases hneg : y1 < 0
  · clear hyn1
    go_wp2_with fail
    go_ret
    exact ⟨rfl, BXB.out.trans (s0_2.mono BXB.out.size)⟩
  have hyq1 : 0 ≤ y1 := by omega
  obtain ⟨hs1_2, hs1_3, hs1_4⟩ := hyn1 hyq1
  have hm1_2 : dL.length ≤ 4294967296 := by omega
  have hm1_3 : dP.length ≤ 4294967296 := by omega
  have hm1_4 : dE.length ≤ 4294967296 := by omega
  clear hyn1 hneg
  obtain ⟨rv0_0, hrv0_0⟩ : ∃ x, x = ckI (joOk cS cT cL cP cE dS dT dL dP dE) (cS + dS) := ⟨_, rfl⟩
  obtain ⟨rv0_1, hrv0_1⟩ : ∃ x, x = ckI (joOk cS cT cL cP cE dS dT dL dP dE) cT := ⟨_, rfl⟩
  have hOB0_2 : (ckL (joOk cS cT cL cP cE dS dT dL dP dE) (joA cS cL dL dP cE)).length ≤ 1048576 := joA_ck
  obtain ⟨rv0_2, hrv0_2⟩ : ∃ x, x = ckL (joOk cS cT cL cP cE dS dT dL dP dE) (joA cS cL dL dP cE) := ⟨_, rfl⟩
  rw [← hrv0_2] at hOB0_2
  have hOB0_3 : (ckL (joOk cS cT cL cP cE dS dT dL dP dE) (joS cP dP)).length ≤ 1048576 := joS_ck
  obtain ⟨rv0_3, hrv0_3⟩ : ∃ x, x = ckL (joOk cS cT cL cP cE dS dT dL dP dE) (joS cP dP) := ⟨_, rfl⟩
  rw [← hrv0_3] at hOB0_3
  have hOB0_4 : (ckL (joOk cS cT cL cP cE dS dT dL dP dE) (joE cP dE)).length ≤ 1048576 := joE_ck
  obtain ⟨rv0_4, hrv0_4⟩ : ∃ x, x = ckL (joOk cS cT cL cP cE dS dT dL dP dE) (joE cP dE) := ⟨_, rfl⟩
  rw [← hrv0_4] at hOB0_4
  obtain ⟨rv1, hrv1⟩ : ∃ x, x = joOk cS cT cL cP cE dS dT dL dP dE := ⟨_, rfl⟩
  have Hrv0_0 := Lib.hid hrv0_0; clear hrv0_0
  have Hrv0_1 := Lib.hid hrv0_1; clear hrv0_1
  have Hrv0_2 := Lib.hid hrv0_2; clear hrv0_2
  have Hrv0_3 := Lib.hid hrv0_3; clear hrv0_3
  have Hrv0_4 := Lib.hid hrv0_4; clear hrv0_4
  have Hrv1 := Lib.hid hrv1; clear hrv1
  go_upto_region 8 with fail
  go_cut [6, 7] from 27 to 34 (fun p6 p7 wx => PrE w2 p6 p7 rv1 rv0_0 rv0_1 rv0_2 rv0_3 rv0_4 wx)
  case first =>
    have hsrc0 := Lib.hid ((HS0'.out.below s0_2 (Nat.le_refl _)).more s0_2.size)
    have hsrc1 := Lib.hid ((HS1'.out.below s0_2 (Nat.le_refl _)).more s0_2.size)
    have hcells : ∀ x : World, Below w2.heap.size w2 x → (Below w2.heap.size w2 x ∧ x.cell? ⟨w.heap.size, 0, none⟩ = some (.int .i64 cS) ∧ x.cell? ⟨w.heap.size, 1, none⟩ = some (.int .i64 cT) ∧ x.cell? ⟨w.heap.size, 2, none⟩ = some (.slice a0_2 n0_2 c0_2) ∧ x.cell? ⟨w.heap.size, 3, none⟩ = some (.slice a0_3 n0_3 c0_3) ∧ x.cell? ⟨w.heap.size, 4, none⟩ = some (.slice a0_4 n0_4 c0_4) ∧ x.cell? ⟨w.heap.size + 1, 0, none⟩ = some (.int .i64 dS) ∧ x.cell? ⟨w.heap.size + 1, 1, none⟩ = some (.int .i64 dT) ∧ x.cell? ⟨w.heap.size + 1, 2, none⟩ = some (.slice a1_2 n1_2 c1_2) ∧ x.cell? ⟨w.heap.size + 1, 3, none⟩ = some (.slice a1_3 n1_3 c1_3) ∧ x.cell? ⟨w.heap.size + 1, 4, none⟩ = some (.slice a1_4 n1_4 c1_4)) := by
      intro x hx
      have r0 := (BX0.out.below s0_2 BX0.out.lt)
      have r0 := r0.below hx r0.lt
      have r1 := (BX1.out.below s0_2 BX1.out.lt)
      have r1 := r1.below hx r1.lt
      exact ⟨hx, r0.cell 0, r0.cell 1, r0.cell 2, r0.cell 3, r0.cell 4, r1.cell 0, r1.cell 1, r1.cell 2, r1.cell 3, r1.cell 4⟩
    have hcells := Lib.hid hcells
    have hkeep : Hid (∀ x y : World, Below w2.heap.size w2 x → Below x.heap.size x y → (Below w2.heap.size w2 y ∧ y.cell? ⟨w.heap.size, 0, none⟩ = some (.int .i64 cS) ∧ y.cell? ⟨w.heap.size, 1, none⟩ = some (.int .i64 cT) ∧ y.cell? ⟨w.heap.size, 2, none⟩ = some (.slice a0_2 n0_2 c0_2) ∧ y.cell? ⟨w.heap.size, 3, none⟩ = some (.slice a0_3 n0_3 c0_3) ∧ y.cell? ⟨w.heap.size, 4, none⟩ = some (.slice a0_4 n0_4 c0_4) ∧ y.cell? ⟨w.heap.size + 1, 0, none⟩ = some (.int .i64 dS) ∧ y.cell? ⟨w.heap.size + 1, 1, none⟩ = some (.int .i64 dT) ∧ y.cell? ⟨w.heap.size + 1, 2, none⟩ = some (.slice a1_2 n1_2 c1_2) ∧ y.cell? ⟨w.heap.size + 1, 3, none⟩ = some (.slice a1_3 n1_3 c1_3) ∧ y.cell? ⟨w.heap.size + 1, 4, none⟩ = some (.slice a1_4 n1_4 c1_4))) := fun x y h1 h2 => hcells.out y (h1.trans (h2.mono h1.size))
    have hkeepA : Hid (∀ (x : World) (o : Obj), Below w2.heap.size w2 x → (Below w2.heap.size w2 (x.alloc o) ∧ (x.alloc o).cell? ⟨w.heap.size, 0, none⟩ = some (.int .i64 cS) ∧ (x.alloc o).cell? ⟨w.heap.size, 1, none⟩ = some (.int .i64 cT) ∧ (x.alloc o).cell? ⟨w.heap.size, 2, none⟩ = some (.slice a0_2 n0_2 c0_2) ∧ (x.alloc o).cell? ⟨w.heap.size, 3, none⟩ = some (.slice a0_3 n0_3 c0_3) ∧ (x.alloc o).cell? ⟨w.heap.size, 4, none⟩ = some (.slice a0_4 n0_4 c0_4) ∧ (x.alloc o).cell? ⟨w.heap.size + 1, 0, none⟩ = some (.int .i64 dS) ∧ (x.alloc o).cell? ⟨w.heap.size + 1, 1, none⟩ = some (.int .i64 dT) ∧ (x.alloc o).cell? ⟨w.heap.size + 1, 2, none⟩ = some (.slice a1_2 n1_2 c1_2) ∧ (x.alloc o).cell? ⟨w.heap.size + 1, 3, none⟩ = some (.slice a1_3 n1_3 c1_3) ∧ (x.alloc o).cell? ⟨w.heap.size + 1, 4, none⟩ = some (.slice a1_4 n1_4 c1_4))) := fun x o h1 => hcells.out _ (h1.alloc h1.size o)
    have hkeepD : Hid (∀ (x : World) (o : Obj), Below w2.heap.size w2 x.drew → (Below w2.heap.size w2 ((x.alloc o).drew) ∧ ((x.alloc o).drew).cell? ⟨w.heap.size, 0, none⟩ = some (.int .i64 cS) ∧ ((x.alloc o).drew).cell? ⟨w.heap.size, 1, none⟩ = some (.int .i64 cT) ∧ ((x.alloc o).drew).cell? ⟨w.heap.size, 2, none⟩ = some (.slice a0_2 n0_2 c0_2) ∧ ((x.alloc o).drew).cell? ⟨w.heap.size, 3, none⟩ = some (.slice a0_3 n0_3 c0_3) ∧ ((x.alloc o).drew).cell? ⟨w.heap.size, 4, none⟩ = some (.slice a0_4 n0_4 c0_4) ∧ ((x.alloc o).drew).cell? ⟨w.heap.size + 1, 0, none⟩ = some (.int .i64 dS) ∧ ((x.alloc o).drew).cell? ⟨w.heap.size + 1, 1, none⟩ = some (.int .i64 dT) ∧ ((x.alloc o).drew).cell? ⟨w.heap.size + 1, 2, none⟩ = some (.slice a1_2 n1_2 c1_2) ∧ ((x.alloc o).drew).cell? ⟨w.heap.size + 1, 3, none⟩ = some (.slice a1_3 n1_3 c1_3) ∧ ((x.alloc o).drew).cell? ⟨w.heap.size + 1, 4, none⟩ = some (.slice a1_4 n1_4 c1_4))) := fun x o h1 => hcells.out _ (show Below w2.heap.size w2 (x.alloc o).drew from h1.alloc h1.size o)
    have hkeepS : Hid (∀ (x : World) (G : Nat) (u0 u1 u2 u3 u4 : Value), w2.heap.size ≤ G → Below w2.heap.size w2 x → (Below w2.heap.size w2 (((((x.setCell ⟨G, 0, none⟩ u0).setCell ⟨G, 1, none⟩ u1).setCell ⟨G, 2, none⟩ u2).setCell ⟨G, 3, none⟩ u3).setCell ⟨G, 4, none⟩ u4) ∧ (((((x.setCell ⟨G, 0, none⟩ u0).setCell ⟨G, 1, none⟩ u1).setCell ⟨G, 2, none⟩ u2).setCell ⟨G, 3, none⟩ u3).setCell ⟨G, 4, none⟩ u4).cell? ⟨w.heap.size, 0, none⟩ = some (.int .i64 cS) ∧ (((((x.setCell ⟨G, 0, none⟩ u0).setCell ⟨G, 1, none⟩ u1).setCell ⟨G, 2, none⟩ u2).setCell ⟨G, 3, none⟩ u3).setCell ⟨G, 4, none⟩ u4).cell? ⟨w.heap.size, 1, none⟩ = some (.int .i64 cT) ∧ (((((x.setCell ⟨G, 0, none⟩ u0).setCell ⟨G, 1, none⟩ u1).setCell ⟨G, 2, none⟩ u2).setCell ⟨G, 3, none⟩ u3).setCell ⟨G, 4, none⟩ u4).cell? ⟨w.heap.size, 2, none⟩ = some (.slice a0_2 n0_2 c0_2) ∧ (((((x.setCell ⟨G, 0, none⟩ u0).setCell ⟨G, 1, none⟩ u1).setCell ⟨G, 2, none⟩ u2).setCell ⟨G, 3, none⟩ u3).setCell ⟨G, 4, none⟩ u4).cell? ⟨w.heap.size, 3, none⟩ = some (.slice a0_3 n0_3 c0_3) ∧ (((((x.setCell ⟨G, 0, none⟩ u0).setCell ⟨G, 1, none⟩ u1).setCell ⟨G, 2, none⟩ u2).setCell ⟨G, 3, none⟩ u3).setCell ⟨G, 4, none⟩ u4).cell? ⟨w.heap.size, 4, none⟩ = some (.slice a0_4 n0_4 c0_4) ∧ (((((x.setCell ⟨G, 0, none⟩ u0).setCell ⟨G, 1, none⟩ u1).setCell ⟨G, 2, none⟩ u2).setCell ⟨G, 3, none⟩ u3).setCell ⟨G, 4, none⟩ u4).cell? ⟨w.heap.size + 1, 0, none⟩ = some (.int .i64 dS) ∧ (((((x.setCell ⟨G, 0, none⟩ u0).setCell ⟨G, 1, none⟩ u1).setCell ⟨G, 2, none⟩ u2).setCell ⟨G, 3, none⟩ u3).setCell ⟨G, 4, none⟩ u4).cell? ⟨w.heap.size + 1, 1, none⟩ = some (.int .i64 dT) ∧ (((((x.setCell ⟨G, 0, none⟩ u0).setCell ⟨G, 1, none⟩ u1).setCell ⟨G, 2, none⟩ u2).setCell ⟨G, 3, none⟩ u3).setCell ⟨G, 4, none⟩ u4).cell? ⟨w.heap.size + 1, 2, none⟩ = some (.slice a1_2 n1_2 c1_2) ∧ (((((x.setCell ⟨G, 0, none⟩ u0).setCell ⟨G, 1, none⟩ u1).setCell ⟨G, 2, none⟩ u2).setCell ⟨G, 3, none⟩ u3).setCell ⟨G, 4, none⟩ u4).cell? ⟨w.heap.size + 1, 3, none⟩ = some (.slice a1_3 n1_3 c1_3) ∧ (((((x.setCell ⟨G, 0, none⟩ u0).setCell ⟨G, 1, none⟩ u1).setCell ⟨G, 2, none⟩ u2).setCell ⟨G, 3, none⟩ u3).setCell ⟨G, 4, none⟩ u4).cell? ⟨w.heap.size + 1, 4, none⟩ = some (.slice a1_4 n1_4 c1_4))) := fun x G u0 u1 u2 u3 u4 hG h1 => hcells.out _ (Below.setCell (p := ⟨G, 4, none⟩) (Below.setCell (p := ⟨G, 3, none⟩) (Below.setCell (p := ⟨G, 2, none⟩) (Below.setCell (p := ⟨G, 1, none⟩) (Below.setCell (p := ⟨G, 0, none⟩) h1 hG u0) hG u1) hG u2) hG u3) hG u4)
    have hfrom := hcells.out w2.drew (Below.drew (Below.refl _ _))
    go_region_held3 (fun x => Below w2.heap.size w2 x ∧ x.cell? ⟨w.heap.size, 0, none⟩ = some (.int .i64 cS) ∧ x.cell? ⟨w.heap.size, 1, none⟩ = some (.int .i64 cT) ∧ x.cell? ⟨w.heap.size, 2, none⟩ = some (.slice a0_2 n0_2 c0_2) ∧ x.cell? ⟨w.heap.size, 3, none⟩ = some (.slice a0_3 n0_3 c0_3) ∧ x.cell? ⟨w.heap.size, 4, none⟩ = some (.slice a0_4 n0_4 c0_4) ∧ x.cell? ⟨w.heap.size + 1, 0, none⟩ = some (.int .i64 dS) ∧ x.cell? ⟨w.heap.size + 1, 1, none⟩ = some (.int .i64 dT) ∧ x.cell? ⟨w.heap.size + 1, 2, none⟩ = some (.slice a1_2 n1_2 c1_2) ∧ x.cell? ⟨w.heap.size + 1, 3, none⟩ = some (.slice a1_3 n1_3 c1_3) ∧ x.cell? ⟨w.heap.size + 1, 4, none⟩ = some (.slice a1_4 n1_4 c1_4)) (first | (with_reducible assumption) | ((with_reducible refine hkeepA.out _ _ ?_); (first | (with_reducible assumption) | (apply And.left; with_reducible assumption))) | ((with_reducible refine hkeepD.out _ _ ?_); (first | (with_reducible assumption) | (apply And.left; with_reducible assumption))) | ((with_reducible refine hkeepS.out _ _ _ _ _ _ _ ?_ ?_); (first | exact Nat.le_refl _ | exact Below.size (by first | (with_reducible assumption) | (apply And.left; with_reducible assumption))); (first | (with_reducible assumption) | (apply And.left; with_reducible assumption))) | go_keep)
      (first
        | (go_at_call_of 7 (Value.slice a0_2 n0_2 c0_2); refine (toMachine_any _ cS cT cL cP cE _ ?_ hm0_2 hm0_3 hm0_4).mono ?_; (exact (hsrc0.out.below (by first | (with_reducible assumption) | (apply And.left; with_reducible assumption)) (Nat.le_refl _)).more (Below.size (by first | (with_reducible assumption) | (apply And.left; with_reducible assumption)))); rintro e wa0 ⟨ua, rfl, hra, hba0⟩; have hka0 := (fun h => hkeep.out _ _ h hba0) (by first | (with_reducible assumption) | (apply And.left; with_reducible assumption)); obtain ⟨gb0_2, gb0_3, gb0_4, hu⟩ := hra.shape; subst hu; have HCA0 := Lib.hid hra.cg; clear hra; skip)
        | (go_at_call_of 7 (Value.slice a1_2 n1_2 c1_2); refine (toMachine_any _ dS dT dL dP dE _ ?_ hm1_2 hm1_3 hm1_4).mono ?_; (exact (hsrc1.out.below (by first | (with_reducible assumption) | (apply And.left; with_reducible assumption)) (Nat.le_refl _)).more (Below.size (by first | (with_reducible assumption) | (apply And.left; with_reducible assumption)))); rintro e wa1 ⟨ua, rfl, hra, hba1⟩; have hka1 := (fun h => hkeep.out _ _ h hba1) (by first | (with_reducible assumption) | (apply And.left; with_reducible assumption)); obtain ⟨gb1_2, gb1_3, gb1_4, hu⟩ := hra.shape; subst hu; have HCA1 := Lib.hid hra.cg; clear hra; skip)
        | (go_at_call 12; refine (sJoinedL_any _ _ _ _ _ _ _ _ _ _ _ _ cS cT cL cP cE dS dT dL dP dE _ ?_ ?_ hs0_2 hs0_3 hs0_4 hs1_2 hs1_3 hs1_4).mono ?_; (exact (HCA0.out.below (by repeat (first | (with_reducible exact Below.refl _ _) | (with_reducible refine bl_keepD ?_) | (with_reducible refine bl_keepA _ ?_) | (with_reducible refine bl_keepH hba0 ?_) | (with_reducible refine bl_keepH hba1 ?_))) (Nat.le_refl _)).more (bl_sz (by repeat (first | (with_reducible exact Below.refl _ _) | (with_reducible refine bl_keepD ?_) | (with_reducible refine bl_keepA _ ?_) | (with_reducible refine bl_keepH hba0 ?_) | (with_reducible refine bl_keepH hba1 ?_))))); (exact (HCA1.out.below (by repeat (first | (with_reducible exact Below.refl _ _) | (with_reducible refine bl_keepD ?_) | (with_reducible refine bl_keepA _ ?_) | (with_reducible refine bl_keepH hba0 ?_) | (with_reducible refine bl_keepH hba1 ?_))) (Nat.le_refl _)).more (bl_sz (by repeat (first | (with_reducible exact Below.refl _ _) | (with_reducible refine bl_keepD ?_) | (with_reducible refine bl_keepA _ ?_) | (with_reducible refine bl_keepH hba0 ?_) | (with_reducible refine bl_keepH hba1 ?_))))); rintro e wS ⟨vS, rfl, hR_, hbS⟩; have HBX := Lib.hid (bl_size (w := w2) hbS (by first | (with_reducible assumption) | (apply And.left; with_reducible assumption)) rfl); have hkS := (fun h => hkeep.out _ _ h hbS) (by first | (with_reducible assumption) | (apply And.left; with_reducible assumption)); rw [← Hrv0_0.out, ← Hrv0_1.out, ← Hrv0_2.out, ← Hrv0_3.out, ← Hrv0_4.out] at hR_; rw [← Hrv1.out]; obtain ⟨rA3_2, rC3_2, rA3_3, rC3_3, rA3_4, rC3_4, hu⟩ := hR_.shape; subst hu; have HR := Lib.hid hR_; clear hR_; (first | ((first | (with_reducible have hz := row_two hbS (row_keepH hba1 (row_keepH hba0 (Row.new _ 29 [.int .i64 0, .int .i64 0, .slice none 0 0, .slice none 0 0, .slice none 0 0])))) | (with_reducible have hz := row_two hbS (row_keepH hba1 (Row.new wa0 29 [.int .i64 0, .int .i64 0, .slice none 0 0, .slice none 0 0, .slice none 0 0]))) | (with_reducible have hz := row_two hbS (Row.new wa1 29 [.int .i64 0, .int .i64 0, .slice none 0 0, .slice none 0 0, .slice none 0 0])) | (with_reducible have hz := row_two hbS (row_keepH hba1 (row_keepH hba0 (row_keepD (Row.new _ 29 [.int .i64 0, .int .i64 0, .slice none 0 0, .slice none 0 0, .slice none 0 0]))))) | (with_reducible have hz := row_two hbS (row_keepH hba1 (row_keepD (Row.new wa0 29 [.int .i64 0, .int .i64 0, .slice none 0 0, .slice none 0 0, .slice none 0 0])))) | (with_reducible have hz := row_two hbS (row_keepD (Row.new wa1 29 [.int .i64 0, .int .i64 0, .slice none 0 0, .slice none 0 0, .slice none 0 0])))); have HLT := Lib.hid hz.2; have HZ := Lib.hid hz.1; clear hz; have z0 := HZ.out.cell 0; have z1 := HZ.out.cell 1; have z2 := HZ.out.cell 2; have z3 := HZ.out.cell 3; have z4 := HZ.out.cell 4; have y0 := HZ.out.frozen 0; have y1 := HZ.out.frozen 1; have y2 := HZ.out.frozen 2; have y3 := HZ.out.frozen 3; have y4 := HZ.out.frozen 4) | skip)))
    all_goals
      go_wp2_with fail
      go_meet
      first
        | ((with_reducible refine pair_end2 (B := ?_) ?_ ?_ ?_ ?_ ?_ ?_); rotate_left; exact HR.out; exact hkS.1; exact HBX.out; exact HZ.out; exact (by first | exact Nat.le_refl _ | exact Below.size hka0.1 | exact Below.size hka1.1); exact HLT.out)
        | exact pair_end1 HR.out hkS.1 HBX.out
  case rest =>
  obtain ⟨b3, rA3_2, rC3_2, rA3_3, rC3_3, rA3_4, rC3_4, rfl, rfl, bq, hR_, hb3⟩ := hcut
  obtain ⟨w3, rfl⟩ : ∃ x : World, x = wc := ⟨_, rfl⟩
  have BXx3 := Lib.hid bq; have hR3_0 := Lib.hid hR_; clear bq hR_
  have s0_3 := s0_2.trans (hb3.mono s0_2.size)
  have kc0_0 := (BX0.out.below s0_3 BX0.out.lt).cell 0
  have kc0_1 := (BX0.out.below s0_3 BX0.out.lt).cell 1
  have kc0_2 := (BX0.out.below s0_3 BX0.out.lt).cell 2
  have kc0_3 := (BX0.out.below s0_3 BX0.out.lt).cell 3
  have kc0_4 := (BX0.out.below s0_3 BX0.out.lt).cell 4
  go_wp2_with fail
  clear kc0_0 kc0_1 kc0_2 kc0_3 kc0_4
  refine (toMachine_any (.agg #[.int .i64 cS, .int .i64 cT, .slice a0_2 n0_2 c0_2, .slice a0_3 n0_3 c0_3, .slice a0_4 n0_4 c0_4]) cS cT cL cP cE w3 ((HS0'.out.below s0_3 (Nat.le_refl _)).more s0_3.size) hm0_2 hm0_3 hm0_4).mono ?_
  rintro e w4 ⟨u4, rfl, hr4, hb4⟩
  obtain ⟨ga4_2, ga4_3, ga4_4, hu⟩ := hr4.shape
  subst hu
  have H4 := Lib.hid hr4.cg
  have N4 := Lib.hid (hr4.cgm hm0_2 hm0_3 hm0_4); clear hr4
  obtain ⟨w5, hwb⟩ : ∃ x, x = w4.alloc (.cells ([.int .i64 cS, .int .i64 cT, .slice (some ⟨ga4_2, 0, none⟩) cL.length cL.length, .slice (some ⟨ga4_3, 0, none⟩) cP.length cP.length, .slice (some ⟨ga4_4, 0, none⟩) cE.length cE.length] : List Value).toArray 29) := ⟨_, rfl⟩
  have bq := Row.new w4 29 [.int .i64 cS, .int .i64 cT, .slice (some ⟨ga4_2, 0, none⟩) cL.length cL.length, .slice (some ⟨ga4_3, 0, none⟩) cP.length cP.length, .slice (some ⟨ga4_4, 0, none⟩) cE.length cE.length]
  have hb5 : Below w4.heap.size w4 (w4.alloc (.cells ([.int .i64 cS, .int .i64 cT, .slice (some ⟨ga4_2, 0, none⟩) cL.length cL.length, .slice (some ⟨ga4_3, 0, none⟩) cP.length cP.length, .slice (some ⟨ga4_4, 0, none⟩) cE.length cE.length] : List Value).toArray 29)) := (Below.refl _ _).alloc (Nat.le_refl _) _
  rw [← hwb] at bq hb5
  have BXx4 := Lib.hid bq; clear bq
  have s0_4 := s0_3.trans (hb4.mono s0_3.size)
  have s0_5 := s0_4.trans (hb5.mono s0_4.size)
  have kc1_0 := (BX1.out.below s0_5 BX1.out.lt).cell 0
  have kc1_1 := (BX1.out.below s0_5 BX1.out.lt).cell 1
  have kc1_2 := (BX1.out.below s0_5 BX1.out.lt).cell 2
  have kc1_3 := (BX1.out.below s0_5 BX1.out.lt).cell 3
  have kc1_4 := (BX1.out.below s0_5 BX1.out.lt).cell 4
  rw [hwb] at kc1_0 kc1_1 kc1_2 kc1_3 kc1_4
  go_wp2_with fail
  clear kc1_0 kc1_1 kc1_2 kc1_3 kc1_4
  change Calls _ _ _ (w4.alloc (.cells ([.int .i64 cS, .int .i64 cT, .slice (some ⟨ga4_2, 0, none⟩) cL.length cL.length, .slice (some ⟨ga4_3, 0, none⟩) cP.length cP.length, .slice (some ⟨ga4_4, 0, none⟩) cE.length cE.length] : List Value).toArray 29)) _
  rw [← hwb]
  clear hwb
  refine (toMachine_any (.agg #[.int .i64 dS, .int .i64 dT, .slice a1_2 n1_2 c1_2, .slice a1_3 n1_3 c1_3, .slice a1_4 n1_4 c1_4]) dS dT dL dP dE w5 ((HS1'.out.below s0_5 (Nat.le_refl _)).more s0_5.size) hm1_2 hm1_3 hm1_4).mono ?_
  rintro e w6 ⟨u6, rfl, hr6, hb6⟩
  obtain ⟨ga6_2, ga6_3, ga6_4, hu⟩ := hr6.shape
  subst hu
  have H6 := Lib.hid hr6.cg
  have N6 := Lib.hid (hr6.cgm hm1_2 hm1_3 hm1_4); clear hr6
  obtain ⟨w7, hwb⟩ : ∃ x, x = w6.alloc (.cells ([.int .i64 dS, .int .i64 dT, .slice (some ⟨ga6_2, 0, none⟩) dL.length dL.length, .slice (some ⟨ga6_3, 0, none⟩) dP.length dP.length, .slice (some ⟨ga6_4, 0, none⟩) dE.length dE.length] : List Value).toArray 29) := ⟨_, rfl⟩
  have bq := Row.new w6 29 [.int .i64 dS, .int .i64 dT, .slice (some ⟨ga6_2, 0, none⟩) dL.length dL.length, .slice (some ⟨ga6_3, 0, none⟩) dP.length dP.length, .slice (some ⟨ga6_4, 0, none⟩) dE.length dE.length]
  have hb7 : Below w6.heap.size w6 (w6.alloc (.cells ([.int .i64 dS, .int .i64 dT, .slice (some ⟨ga6_2, 0, none⟩) dL.length dL.length, .slice (some ⟨ga6_3, 0, none⟩) dP.length dP.length, .slice (some ⟨ga6_4, 0, none⟩) dE.length dE.length] : List Value).toArray 29)) := (Below.refl _ _).alloc (Nat.le_refl _) _
  rw [← hwb] at bq hb7
  have BXx6 := Lib.hid bq; clear bq
  have s5_6 := hb6
  have s5_7 := s5_6.trans (hb7.mono s5_6.size)
  have kx4_0 := (BXx4.out.below s5_7 BXx4.out.lt).cell 0
  have kx4_1 := (BXx4.out.below s5_7 BXx4.out.lt).cell 1
  have kx4_2 := (BXx4.out.below s5_7 BXx4.out.lt).cell 2
  have kx4_3 := (BXx4.out.below s5_7 BXx4.out.lt).cell 3
  have kx4_4 := (BXx4.out.below s5_7 BXx4.out.lt).cell 4
  rw [hwb] at kx4_0 kx4_1 kx4_2 kx4_3 kx4_4
  go_wp2_with fail
  clear kx4_0 kx4_1 kx4_2 kx4_3 kx4_4
  change Calls _ _ _ (w6.alloc (.cells ([.int .i64 dS, .int .i64 dT, .slice (some ⟨ga6_2, 0, none⟩) dL.length dL.length, .slice (some ⟨ga6_3, 0, none⟩) dP.length dP.length, .slice (some ⟨ga6_4, 0, none⟩) dE.length dE.length] : List Value).toArray 29)) _
  rw [← hwb]
  clear hwb
  have s4_5 := hb5
  have s4_6 := s4_5.trans (hb6.mono s4_5.size)
  have s4_7 := s4_6.trans (hb7.mono s4_6.size)
  have s6_7 := hb7
  refine (iJoinedL_any _ _ _ _ _ _ _ _ _ _ _ _ cS cT cL cP cE dS dT dL dP dE w7 ((H4.out.below s4_7 (Nat.le_refl _)).more s4_7.size) ((H6.out.below s6_7 (Nat.le_refl _)).more s6_7.size) hs0_2 hs0_3 hs0_4 hs1_2 hs1_3 hs1_4).mono ?_
  rintro e w8 ⟨v_8_0, rfl, hv8_0, hb8⟩
  have hR8_0 := Lib.hid hv8_0; clear hv8_0
  rw [← Hrv0_0.out, ← Hrv0_1.out, ← Hrv0_2.out, ← Hrv0_3.out, ← Hrv0_4.out] at hR8_0
  rw [← Hrv1.out]
  obtain ⟨rA8_2, rC8_2, rA8_3, rC8_3, rA8_4, rC8_4, hu⟩ := hR8_0.out.shape
  subst hu
  obtain ⟨w9, hwb⟩ : ∃ x, x = w8.alloc (.cells ([.int .i64 rv0_0, .int .i64 rv0_1, .slice rA8_2 rv0_2.length rC8_2, .slice rA8_3 rv0_3.length rC8_3, .slice rA8_4 rv0_4.length rC8_4] : List Value).toArray 29) := ⟨_, rfl⟩
  have bq := Row.new w8 29 [.int .i64 rv0_0, .int .i64 rv0_1, .slice rA8_2 rv0_2.length rC8_2, .slice rA8_3 rv0_3.length rC8_3, .slice rA8_4 rv0_4.length rC8_4]
  have hb9 : Below w8.heap.size w8 (w8.alloc (.cells ([.int .i64 rv0_0, .int .i64 rv0_1, .slice rA8_2 rv0_2.length rC8_2, .slice rA8_3 rv0_3.length rC8_3, .slice rA8_4 rv0_4.length rC8_4] : List Value).toArray 29)) := (Below.refl _ _).alloc (Nat.le_refl _) _
  rw [← hwb] at bq hb9
  have BXx8 := Lib.hid bq; clear bq
  have s3_4 := hb4
  have s3_5 := s3_4.trans (hb5.mono s3_4.size)
  have s3_6 := s3_5.trans (hb6.mono s3_5.size)
  have s3_7 := s3_6.trans (hb7.mono s3_6.size)
  have s3_8 := s3_7.trans (hb8.mono s3_7.size)
  have s3_9 := s3_8.trans (hb9.mono s3_8.size)
  have kx3_0 := (BXx3.out.below s3_9 BXx3.out.lt).cell 0
  have kx3_1 := (BXx3.out.below s3_9 BXx3.out.lt).cell 1
  have kx3_2 := (BXx3.out.below s3_9 BXx3.out.lt).cell 2
  have kx3_3 := (BXx3.out.below s3_9 BXx3.out.lt).cell 3
  have kx3_4 := (BXx3.out.below s3_9 BXx3.out.lt).cell 4
  rw [hwb] at kx3_0 kx3_1 kx3_2 kx3_3 kx3_4
  go_wp2_with fail
  clear kx3_0 kx3_1 kx3_2 kx3_3 kx3_4
  change Calls _ _ _ (w8.alloc (.cells ([.int .i64 rv0_0, .int .i64 rv0_1, .slice rA8_2 rv0_2.length rC8_2, .slice rA8_3 rv0_3.length rC8_3, .slice rA8_4 rv0_4.length rC8_4] : List Value).toArray 29)) _
  rw [← hwb]
  clear hwb
  have s8_9 := hb9
  have hOB0_24 : rv0_2.length ≤ 4294967296 := by omega
  have hOB0_34 : rv0_3.length ≤ 4294967296 := by omega
  have hOB0_44 : rv0_4.length ≤ 4294967296 := by omega
  refine (eqOwnMachine (.agg #[.int .i64 rv0_0, .int .i64 rv0_1, .slice rA8_2 rv0_2.length rC8_2, .slice rA8_3 rv0_3.length rC8_3, .slice rA8_4 rv0_4.length rC8_4]) (.agg #[.int .i64 rv0_0, .int .i64 rv0_1, .slice rA3_2 rv0_2.length rC3_2, .slice rA3_3 rv0_3.length rC3_3, .slice rA3_4 rv0_4.length rC3_4]) rv0_0 rv0_1 rv0_2 rv0_3 rv0_4 _ _ _ _ w9 (hR8_0.out.below s8_9 (Nat.le_refl _)) (hR3_0.out.below s3_9 (Nat.le_refl _)) hOB0_24 hOB0_34 hOB0_44).mono ?_
  rintro e w10 ⟨rfl, hb10⟩
  have s0_6 := s0_5.trans (hb6.mono s0_5.size)
  have s0_7 := s0_6.trans (hb7.mono s0_6.size)
  have s0_8 := s0_7.trans (hb8.mono s0_7.size)
  have s0_9 := s0_8.trans (hb9.mono s0_8.size)
  have s0_10 := s0_9.trans (hb10.mono s0_9.size)
  have kc0_0 := (BX0.out.below s0_10 BX0.out.lt).cell 0
  have kc0_1 := (BX0.out.below s0_10 BX0.out.lt).cell 1
  have kc0_2 := (BX0.out.below s0_10 BX0.out.lt).cell 2
  have kc0_3 := (BX0.out.below s0_10 BX0.out.lt).cell 3
  have kc0_4 := (BX0.out.below s0_10 BX0.out.lt).cell 4
  have s5_8 := s5_7.trans (hb8.mono s5_7.size)
  have s5_9 := s5_8.trans (hb9.mono s5_8.size)
  have s5_10 := s5_9.trans (hb10.mono s5_9.size)
  have kx4_0 := (BXx4.out.below s5_10 BXx4.out.lt).cell 0
  have kx4_1 := (BXx4.out.below s5_10 BXx4.out.lt).cell 1
  have kx4_2 := (BXx4.out.below s5_10 BXx4.out.lt).cell 2
  have kx4_3 := (BXx4.out.below s5_10 BXx4.out.lt).cell 3
  have kx4_4 := (BXx4.out.below s5_10 BXx4.out.lt).cell 4
  go_wp2_with fail
  have s4_8 := s4_7.trans (hb8.mono s4_7.size)
  have s4_9 := s4_8.trans (hb9.mono s4_8.size)
  have s4_10 := s4_9.trans (hb10.mono s4_9.size)
  have hsrc := Lib.hid ((HS0'.out.below s0_10 (Nat.le_refl _)).more s0_10.size)
  have hcop := Lib.hid ((H4.out.below s4_10 (Nat.le_refl _)).more s4_10.size)
  have hcells : ∀ x : World, Below w10.heap.size w10 x → (x.cell? ⟨w.heap.size, 0, none⟩ = some (.int .i64 cS) ∧ x.cell? ⟨w.heap.size, 1, none⟩ = some (.int .i64 cT) ∧ x.cell? ⟨w.heap.size, 2, none⟩ = some (.slice a0_2 n0_2 c0_2) ∧ x.cell? ⟨w.heap.size, 3, none⟩ = some (.slice a0_3 n0_3 c0_3) ∧ x.cell? ⟨w.heap.size, 4, none⟩ = some (.slice a0_4 n0_4 c0_4) ∧ x.cell? ⟨w4.heap.size, 0, none⟩ = some (.int .i64 cS) ∧ x.cell? ⟨w4.heap.size, 1, none⟩ = some (.int .i64 cT) ∧ x.cell? ⟨w4.heap.size, 2, none⟩ = some (.slice (some ⟨ga4_2, 0, none⟩) cL.length cL.length) ∧ x.cell? ⟨w4.heap.size, 3, none⟩ = some (.slice (some ⟨ga4_3, 0, none⟩) cP.length cP.length) ∧ x.cell? ⟨w4.heap.size, 4, none⟩ = some (.slice (some ⟨ga4_4, 0, none⟩) cE.length cE.length)) := by
    intro x hx
    have ra := (BX0.out.below s0_10 BX0.out.lt)
    have rx := (BXx4.out.below s5_10 BXx4.out.lt)
    have ra' := ra.below hx ra.lt
    have rx' := rx.below hx rx.lt
    exact ⟨ra'.cell 0, ra'.cell 1, ra'.cell 2, ra'.cell 3, ra'.cell 4, rx'.cell 0, rx'.cell 1, rx'.cell 2, rx'.cell 3, rx'.cell 4⟩
  have hcells := Lib.hid hcells
  have hkeep : Hid (∀ x y : World, Below w10.heap.size w10 x → Below x.heap.size x y → (Below w10.heap.size w10 y ∧ y.cell? ⟨w.heap.size, 0, none⟩ = some (.int .i64 cS) ∧ y.cell? ⟨w.heap.size, 1, none⟩ = some (.int .i64 cT) ∧ y.cell? ⟨w.heap.size, 2, none⟩ = some (.slice a0_2 n0_2 c0_2) ∧ y.cell? ⟨w.heap.size, 3, none⟩ = some (.slice a0_3 n0_3 c0_3) ∧ y.cell? ⟨w.heap.size, 4, none⟩ = some (.slice a0_4 n0_4 c0_4) ∧ y.cell? ⟨w4.heap.size, 0, none⟩ = some (.int .i64 cS) ∧ y.cell? ⟨w4.heap.size, 1, none⟩ = some (.int .i64 cT) ∧ y.cell? ⟨w4.heap.size, 2, none⟩ = some (.slice (some ⟨ga4_2, 0, none⟩) cL.length cL.length) ∧ y.cell? ⟨w4.heap.size, 3, none⟩ = some (.slice (some ⟨ga4_3, 0, none⟩) cP.length cP.length) ∧ y.cell? ⟨w4.heap.size, 4, none⟩ = some (.slice (some ⟨ga4_4, 0, none⟩) cE.length cE.length))) := by
    intro x y h1 h2
    have h3 := h1.trans (h2.mono h1.size)
    exact ⟨h3, hcells.out y h3⟩
  have hfrom := hcells.out w10 (Below.refl _ _)
  have hdr : Below w10.heap.size w10 w10.drew := Below.drew (Below.refl _ _)
  go_region_held3 (fun x => Below w10.heap.size w10 x ∧ x.cell? ⟨w.heap.size, 0, none⟩ = some (.int .i64 cS) ∧ x.cell? ⟨w.heap.size, 1, none⟩ = some (.int .i64 cT) ∧ x.cell? ⟨w.heap.size, 2, none⟩ = some (.slice a0_2 n0_2 c0_2) ∧ x.cell? ⟨w.heap.size, 3, none⟩ = some (.slice a0_3 n0_3 c0_3) ∧ x.cell? ⟨w.heap.size, 4, none⟩ = some (.slice a0_4 n0_4 c0_4) ∧ x.cell? ⟨w4.heap.size, 0, none⟩ = some (.int .i64 cS) ∧ x.cell? ⟨w4.heap.size, 1, none⟩ = some (.int .i64 cT) ∧ x.cell? ⟨w4.heap.size, 2, none⟩ = some (.slice (some ⟨ga4_2, 0, none⟩) cL.length cL.length) ∧ x.cell? ⟨w4.heap.size, 3, none⟩ = some (.slice (some ⟨ga4_3, 0, none⟩) cP.length cP.length) ∧ x.cell? ⟨w4.heap.size, 4, none⟩ = some (.slice (some ⟨ga4_4, 0, none⟩) cE.length cE.length)) (first | assumption | go_keep)
    (first
      | (go_at_call 7; refine (toMachine_any _ cS cT cL cP cE _ ?_ hm0_2 hm0_3 hm0_4).mono ?_; (exact (hsrc.out.below (by first | assumption | (apply And.left; assumption)) (Nat.le_refl _)).more (Below.size (by first | assumption | (apply And.left; assumption)))); rintro e wz ⟨uz, rfl, hrz, hbz⟩; have hkz := (fun h => hkeep.out _ _ h hbz) (by first | assumption | (apply And.left; assumption)); obtain ⟨gb2, gb3, gb4, hu⟩ := hrz.shape; subst hu; have HCz := Lib.hid hrz.cg; clear hrz)
      | (go_at_call 9; refine (eqMachine_same _ _ cS cT cL cP cE _ ?_ ?_ hm0_2 hm0_3 hm0_4).mono ?_; (exact (hcop.out.below (by first | assumption | (apply And.left; assumption)) (Nat.le_refl _)).more (Below.size (by first | assumption | (apply And.left; assumption)))); (exact HCz.out); rintro e w11 ⟨rfl, hbz2⟩; have hk2 := (fun h => hkeep.out _ _ h hbz2) (by first | assumption | (apply And.left; assumption))))
  have hb11 : Below w10.heap.size w10 w11 := (by first | assumption | (apply And.left; assumption))
  clear hfrom hdr hkeep hcells hsrc hcop kc0_0 kc0_1 kc0_2 kc0_3 kc0_4 kx4_0 kx4_1 kx4_2 kx4_3 kx4_4
  have s0_11 := s0_10.trans (hb11.mono s0_10.size)
  have kc1_0 := (BX1.out.below s0_11 BX1.out.lt).cell 0
  have kc1_1 := (BX1.out.below s0_11 BX1.out.lt).cell 1
  have kc1_2 := (BX1.out.below s0_11 BX1.out.lt).cell 2
  have kc1_3 := (BX1.out.below s0_11 BX1.out.lt).cell 3
  have kc1_4 := (BX1.out.below s0_11 BX1.out.lt).cell 4
  have s7_8 := hb8
  have s7_9 := s7_8.trans (hb9.mono s7_8.size)
  have s7_10 := s7_9.trans (hb10.mono s7_9.size)
  have s7_11 := s7_10.trans (hb11.mono s7_10.size)
  have kx6_0 := (BXx6.out.below s7_11 BXx6.out.lt).cell 0
  have kx6_1 := (BXx6.out.below s7_11 BXx6.out.lt).cell 1
  have kx6_2 := (BXx6.out.below s7_11 BXx6.out.lt).cell 2
  have kx6_3 := (BXx6.out.below s7_11 BXx6.out.lt).cell 3
  have kx6_4 := (BXx6.out.below s7_11 BXx6.out.lt).cell 4
  go_wp2_with fail
  have s6_8 := s6_7.trans (hb8.mono s6_7.size)
  have s6_9 := s6_8.trans (hb9.mono s6_8.size)
  have s6_10 := s6_9.trans (hb10.mono s6_9.size)
  have s6_11 := s6_10.trans (hb11.mono s6_10.size)
  have hsrc := Lib.hid ((HS1'.out.below s0_11 (Nat.le_refl _)).more s0_11.size)
  have hcop := Lib.hid ((H6.out.below s6_11 (Nat.le_refl _)).more s6_11.size)
  have hcells : ∀ x : World, Below w11.heap.size w11 x → (x.cell? ⟨w.heap.size + 1, 0, none⟩ = some (.int .i64 dS) ∧ x.cell? ⟨w.heap.size + 1, 1, none⟩ = some (.int .i64 dT) ∧ x.cell? ⟨w.heap.size + 1, 2, none⟩ = some (.slice a1_2 n1_2 c1_2) ∧ x.cell? ⟨w.heap.size + 1, 3, none⟩ = some (.slice a1_3 n1_3 c1_3) ∧ x.cell? ⟨w.heap.size + 1, 4, none⟩ = some (.slice a1_4 n1_4 c1_4) ∧ x.cell? ⟨w6.heap.size, 0, none⟩ = some (.int .i64 dS) ∧ x.cell? ⟨w6.heap.size, 1, none⟩ = some (.int .i64 dT) ∧ x.cell? ⟨w6.heap.size, 2, none⟩ = some (.slice (some ⟨ga6_2, 0, none⟩) dL.length dL.length) ∧ x.cell? ⟨w6.heap.size, 3, none⟩ = some (.slice (some ⟨ga6_3, 0, none⟩) dP.length dP.length) ∧ x.cell? ⟨w6.heap.size, 4, none⟩ = some (.slice (some ⟨ga6_4, 0, none⟩) dE.length dE.length)) := by
    intro x hx
    have ra := (BX1.out.below s0_11 BX1.out.lt)
    have rx := (BXx6.out.below s7_11 BXx6.out.lt)
    have ra' := ra.below hx ra.lt
    have rx' := rx.below hx rx.lt
    exact ⟨ra'.cell 0, ra'.cell 1, ra'.cell 2, ra'.cell 3, ra'.cell 4, rx'.cell 0, rx'.cell 1, rx'.cell 2, rx'.cell 3, rx'.cell 4⟩
  have hcells := Lib.hid hcells
  have hkeep : Hid (∀ x y : World, Below w11.heap.size w11 x → Below x.heap.size x y → (Below w11.heap.size w11 y ∧ y.cell? ⟨w.heap.size + 1, 0, none⟩ = some (.int .i64 dS) ∧ y.cell? ⟨w.heap.size + 1, 1, none⟩ = some (.int .i64 dT) ∧ y.cell? ⟨w.heap.size + 1, 2, none⟩ = some (.slice a1_2 n1_2 c1_2) ∧ y.cell? ⟨w.heap.size + 1, 3, none⟩ = some (.slice a1_3 n1_3 c1_3) ∧ y.cell? ⟨w.heap.size + 1, 4, none⟩ = some (.slice a1_4 n1_4 c1_4) ∧ y.cell? ⟨w6.heap.size, 0, none⟩ = some (.int .i64 dS) ∧ y.cell? ⟨w6.heap.size, 1, none⟩ = some (.int .i64 dT) ∧ y.cell? ⟨w6.heap.size, 2, none⟩ = some (.slice (some ⟨ga6_2, 0, none⟩) dL.length dL.length) ∧ y.cell? ⟨w6.heap.size, 3, none⟩ = some (.slice (some ⟨ga6_3, 0, none⟩) dP.length dP.length) ∧ y.cell? ⟨w6.heap.size, 4, none⟩ = some (.slice (some ⟨ga6_4, 0, none⟩) dE.length dE.length))) := by
    intro x y h1 h2
    have h3 := h1.trans (h2.mono h1.size)
    exact ⟨h3, hcells.out y h3⟩
  have hfrom := hcells.out w11 (Below.refl _ _)
  have hdr : Below w11.heap.size w11 w11.drew := Below.drew (Below.refl _ _)
  go_region_held3 (fun x => Below w11.heap.size w11 x ∧ x.cell? ⟨w.heap.size + 1, 0, none⟩ = some (.int .i64 dS) ∧ x.cell? ⟨w.heap.size + 1, 1, none⟩ = some (.int .i64 dT) ∧ x.cell? ⟨w.heap.size + 1, 2, none⟩ = some (.slice a1_2 n1_2 c1_2) ∧ x.cell? ⟨w.heap.size + 1, 3, none⟩ = some (.slice a1_3 n1_3 c1_3) ∧ x.cell? ⟨w.heap.size + 1, 4, none⟩ = some (.slice a1_4 n1_4 c1_4) ∧ x.cell? ⟨w6.heap.size, 0, none⟩ = some (.int .i64 dS) ∧ x.cell? ⟨w6.heap.size, 1, none⟩ = some (.int .i64 dT) ∧ x.cell? ⟨w6.heap.size, 2, none⟩ = some (.slice (some ⟨ga6_2, 0, none⟩) dL.length dL.length) ∧ x.cell? ⟨w6.heap.size, 3, none⟩ = some (.slice (some ⟨ga6_3, 0, none⟩) dP.length dP.length) ∧ x.cell? ⟨w6.heap.size, 4, none⟩ = some (.slice (some ⟨ga6_4, 0, none⟩) dE.length dE.length)) (first | assumption | go_keep)
    (first
      | (go_at_call 7; refine (toMachine_any _ dS dT dL dP dE _ ?_ hm1_2 hm1_3 hm1_4).mono ?_; (exact (hsrc.out.below (by first | assumption | (apply And.left; assumption)) (Nat.le_refl _)).more (Below.size (by first | assumption | (apply And.left; assumption)))); rintro e wz ⟨uz, rfl, hrz, hbz⟩; have hkz := (fun h => hkeep.out _ _ h hbz) (by first | assumption | (apply And.left; assumption)); obtain ⟨gb2, gb3, gb4, hu⟩ := hrz.shape; subst hu; have HCz := Lib.hid hrz.cg; clear hrz)
      | (go_at_call 9; refine (eqMachine_same _ _ dS dT dL dP dE _ ?_ ?_ hm1_2 hm1_3 hm1_4).mono ?_; (exact (hcop.out.below (by first | assumption | (apply And.left; assumption)) (Nat.le_refl _)).more (Below.size (by first | assumption | (apply And.left; assumption)))); (exact HCz.out); rintro e w12 ⟨rfl, hbz2⟩; have hk2 := (fun h => hkeep.out _ _ h hbz2) (by first | assumption | (apply And.left; assumption))))
  have hb12 : Below w11.heap.size w11 w12 := (by first | assumption | (apply And.left; assumption))
  clear hfrom hdr hkeep hcells hsrc hcop kc1_0 kc1_1 kc1_2 kc1_3 kc1_4 kx6_0 kx6_1 kx6_2 kx6_3 kx6_4
  have s4_11 := s4_10.trans (hb11.mono s4_10.size)
  have s4_12 := s4_11.trans (hb12.mono s4_11.size)
  have M4 := Lib.hid (N4.out.below s4_12 (Nat.le_refl _))
  have s6_12 := s6_11.trans (hb12.mono s6_11.size)
  have M6 := Lib.hid (N6.out.below s6_12 (Nat.le_refl _))
  have s8_10 := s8_9.trans (hb10.mono s8_9.size)
  have s8_11 := s8_10.trans (hb11.mono s8_10.size)
  have s8_12 := s8_11.trans (hb12.mono s8_11.size)
  have hRm0 := Lib.hid (hR8_0.out.below s8_12 (Nat.le_refl _))
  have s5_11 := s5_10.trans (hb11.mono s5_10.size)
  have s5_12 := s5_11.trans (hb12.mono s5_11.size)
  have kx4_0 := (BXx4.out.below s5_12 BXx4.out.lt).cell 0
  have kx4_1 := (BXx4.out.below s5_12 BXx4.out.lt).cell 1
  have kx4_2 := (BXx4.out.below s5_12 BXx4.out.lt).cell 2
  have kx4_3 := (BXx4.out.below s5_12 BXx4.out.lt).cell 3
  have kx4_4 := (BXx4.out.below s5_12 BXx4.out.lt).cell 4
  go_wp2_with fail
  clear kx4_0 kx4_1 kx4_2 kx4_3 kx4_4
  refine (markMachine_any _ cS cT cL cP cE w3.heap.size w4.heap.size (1) w12 M4.out hs0_2 hs0_3 hs0_4 (by omega) (by omega) (Nat.le_trans (Nat.le_trans (Nat.le_trans (Nat.le_trans (Nat.le_trans (Nat.le_trans (Nat.le_trans hb5.size hb6.size) hb7.size) hb8.size) hb9.size) hb10.size) hb11.size) hb12.size)).mono ?_
  rintro e w13 ⟨rfl, -, hk13⟩
  have hkb13 := (hk13.below (Nat.le_trans (Nat.le_trans (Nat.le_trans (Nat.le_trans (Nat.le_trans (Nat.le_trans (Nat.le_trans (Nat.le_trans hb4.size hb5.size) hb6.size) hb7.size) hb8.size) hb9.size) hb10.size) hb11.size) hb12.size)).mono (Nat.le_refl _)
  have M6 := Lib.hid (M6.out.kp hk13 (by first | exact .inr hb5.size | exact .inl hb5.size))
  have hRm0 := Lib.hid (hRm0.out.kp hk13 (.inl (Nat.le_trans (Nat.le_trans hb5.size hb6.size) hb7.size)))
  have s3_10 := s3_9.trans (hb10.mono s3_9.size)
  have s3_11 := s3_10.trans (hb11.mono s3_10.size)
  have s3_12 := s3_11.trans (hb12.mono s3_11.size)
  have BY3_13 := Lib.hid (Row.kp (BXx3.out.below s3_12 BXx3.out.lt) hk13 (.inl (Nat.lt_of_lt_of_le BXx3.out.lt (Nat.le_refl _))))
  have BY4_13 := Lib.hid (Row.kp (BXx4.out.below s5_12 BXx4.out.lt) hk13 (.inr (Nat.le_refl _)))
  have s7_12 := s7_11.trans (hb12.mono s7_11.size)
  have BY6_13 := Lib.hid (Row.kp (BXx6.out.below s7_12 BXx6.out.lt) hk13 (.inr (Nat.le_trans hb5.size hb6.size)))
  have s9_10 := hb10
  have s9_11 := s9_10.trans (hb11.mono s9_10.size)
  have s9_12 := s9_11.trans (hb12.mono s9_11.size)
  have BY8_13 := Lib.hid (Row.kp (BXx8.out.below s9_12 BXx8.out.lt) hk13 (.inr (Nat.le_trans (Nat.le_trans (Nat.le_trans hb5.size hb6.size) hb7.size) hb8.size)))
  have kx6_0 := BY6_13.out.cell 0
  have kx6_1 := BY6_13.out.cell 1
  have kx6_2 := BY6_13.out.cell 2
  have kx6_3 := BY6_13.out.cell 3
  have kx6_4 := BY6_13.out.cell 4
  go_wp2_with fail
  clear kx6_0 kx6_1 kx6_2 kx6_3 kx6_4
  refine (markMachine_any _ dS dT dL dP dE w5.heap.size w6.heap.size (1 + 4 * (cL.length : Int) + (cP.length : Int) + (cE.length : Int)) w13 M6.out hs1_2 hs1_3 hs1_4 (by omega) (by omega) (Nat.le_trans (Nat.le_trans (Nat.le_trans (Nat.le_trans (Nat.le_trans (Nat.le_trans hb7.size hb8.size) hb9.size) hb10.size) hb11.size) hb12.size) hk13.2.2.2.1)).mono ?_
  rintro e w14 ⟨rfl, -, hk14⟩
  have hkb14 := (hk14.below (Nat.le_trans (Nat.le_trans (Nat.le_trans (Nat.le_trans (Nat.le_trans (Nat.le_trans (Nat.le_trans hb6.size hb7.size) hb8.size) hb9.size) hb10.size) hb11.size) hb12.size) hk13.2.2.2.1)).mono (Nat.le_trans hb4.size hb5.size)
  have hRm0 := Lib.hid (hRm0.out.kp hk14 (.inl hb7.size))
  have BY3_14 := Lib.hid (Row.kp BY3_13.out hk14 (.inl (Nat.lt_of_lt_of_le BXx3.out.lt (Nat.le_trans hb4.size hb5.size))))
  have BY4_14 := Lib.hid (Row.kp BY4_13.out hk14 (.inl (Nat.lt_of_lt_of_le BXx4.out.lt (Nat.le_refl _))))
  have BY6_14 := Lib.hid (Row.kp BY6_13.out hk14 (.inr (Nat.le_refl _)))
  have BY8_14 := Lib.hid (Row.kp BY8_13.out hk14 (.inr (Nat.le_trans hb7.size hb8.size)))
  have q1 : (0 : Int) ≤ 1 + 4 * (cL.length : Int) + (cP.length : Int) + (cE.length : Int) + 4 * (dL.length : Int) + (dP.length : Int) + (dE.length : Int) := by omega
  have kx8_0 := BY8_14.out.cell 0
  have kx8_1 := BY8_14.out.cell 1
  have kx8_2 := BY8_14.out.cell 2
  have kx8_3 := BY8_14.out.cell 3
  have kx8_4 := BY8_14.out.cell 4
  have kx3_0 := BY3_14.out.cell 0
  have kx3_1 := BY3_14.out.cell 1
  have kx3_2 := BY3_14.out.cell 2
  have kx3_3 := BY3_14.out.cell 3
  have kx3_4 := BY3_14.out.cell 4
  go_wp2_with fail
  clear kx8_0 kx8_1 kx8_2 kx8_3 kx8_4 kx3_0 kx3_1 kx3_2 kx3_3 kx3_4
  have s3_13 := s3_12.trans (hkb13.mono (Nat.le_refl _))
  have s3_14 := s3_13.trans (hkb14.mono (Nat.le_refl _))
  refine (eqOwnMachine (.agg #[.int .i64 rv0_0, .int .i64 rv0_1, .slice rA8_2 rv0_2.length rC8_2, .slice rA8_3 rv0_3.length rC8_3, .slice rA8_4 rv0_4.length rC8_4]) (.agg #[.int .i64 rv0_0, .int .i64 rv0_1, .slice rA3_2 rv0_2.length rC3_2, .slice rA3_3 rv0_3.length rC3_3, .slice rA3_4 rv0_4.length rC3_4]) rv0_0 rv0_1 rv0_2 rv0_3 rv0_4 _ _ _ _ w14 hRm0.out (hR3_0.out.below s3_14 (Nat.le_refl _)) hOB0_24 hOB0_34 hOB0_44).mono ?_
  rintro e w15 ⟨rfl, hb15⟩
  have hRm0 := Lib.hid (hRm0.out.below hb15 (Nat.le_trans (Nat.le_trans (Nat.le_trans (Nat.le_trans (Nat.le_trans hb9.size hb10.size) hb11.size) hb12.size) hk13.2.2.2.1) hk14.2.2.2.1))
  have hszq : w7.heap.size ≤ w15.heap.size := (Nat.le_trans (Nat.le_trans (Nat.le_trans (Nat.le_trans (Nat.le_trans (Nat.le_trans (Nat.le_trans hb8.size hb9.size) hb10.size) hb11.size) hb12.size) hk13.2.2.2.1) hk14.2.2.2.1) hb15.size)
  have s14_15 := hb15
  have kx8_0 := (BY8_14.out.below s14_15 BY8_14.out.lt).cell 0
  have kx8_1 := (BY8_14.out.below s14_15 BY8_14.out.lt).cell 1
  have kx8_2 := (BY8_14.out.below s14_15 BY8_14.out.lt).cell 2
  have kx8_3 := (BY8_14.out.below s14_15 BY8_14.out.lt).cell 3
  have kx8_4 := (BY8_14.out.below s14_15 BY8_14.out.lt).cell 4
  go_wp2_with fail
  clear kx8_0 kx8_1 kx8_2 kx8_3 kx8_4
  refine (markMachine_any (.agg #[.int .i64 rv0_0, .int .i64 rv0_1, .slice rA8_2 rv0_2.length rC8_2, .slice rA8_3 rv0_3.length rC8_3, .slice rA8_4 rv0_4.length rC8_4]) rv0_0 rv0_1 rv0_2 rv0_3 rv0_4 w7.heap.size w8.heap.size 1 w15 hRm0.out hOB0_2 hOB0_3 hOB0_4 (by omega) (by omega) (Nat.le_trans (Nat.le_trans (Nat.le_trans (Nat.le_trans (Nat.le_trans (Nat.le_trans hb9.size hb10.size) hb11.size) hb12.size) hk13.2.2.2.1) hk14.2.2.2.1) hb15.size)).mono ?_
  rintro e w16 ⟨rfl, hmk, hk16⟩
  have HM := Lib.hid hmk; clear hmk
  have hkb16 := hk16.below hszq
  have BY3_16 := Lib.hid (Row.kp (BY3_14.out.below s14_15 BY3_14.out.lt) hk16 (.inl (Nat.lt_of_lt_of_le BXx3.out.lt (Nat.le_trans (Nat.le_trans (Nat.le_trans hb4.size hb5.size) hb6.size) hb7.size))))
  have BY4_16 := Lib.hid (Row.kp (BY4_14.out.below s14_15 BY4_14.out.lt) hk16 (.inl (Nat.lt_of_lt_of_le BXx4.out.lt (Nat.le_trans hb6.size hb7.size))))
  have BY6_16 := Lib.hid (Row.kp (BY6_14.out.below s14_15 BY6_14.out.lt) hk16 (.inl (Nat.lt_of_lt_of_le BXx6.out.lt (Nat.le_refl _))))
  have BY8_16 := Lib.hid (Row.kp (BY8_14.out.below s14_15 BY8_14.out.lt) hk16 (.inr (Nat.le_refl _)))
  have hkb16 := hkb16.mono (Nat.le_trans (Nat.le_trans (Nat.le_trans hb4.size hb5.size) hb6.size) hb7.size)
  have kx8_0 := BY8_16.out.cell 0
  have kx8_1 := BY8_16.out.cell 1
  have kx8_2 := BY8_16.out.cell 2
  have kx8_3 := BY8_16.out.cell 3
  have kx8_4 := BY8_16.out.cell 4
  go_wp2_with fail
  clear kx8_0 kx8_1 kx8_2 kx8_3 kx8_4
  refine (heldMachine_any (.agg #[.int .i64 rv0_0, .int .i64 rv0_1, .slice rA8_2 rv0_2.length rC8_2, .slice rA8_3 rv0_3.length rC8_3, .slice rA8_4 rv0_4.length rC8_4]) rv0_2 rv0_3 rv0_4 1 w16 HM.out hOB0_2 hOB0_3 hOB0_4 (by omega) (by omega)).mono ?_
  rintro e w17 ⟨rfl, hb17⟩
  have q2 : (0 : Int) ≤ 1 + 4 * (rv0_2.length : Int) + (rv0_3.length : Int) + (rv0_4.length : Int) := by omega
  have s0_12 := s0_11.trans (hb12.mono s0_11.size)
  have s0_13 := s0_12.trans (hkb13.mono s0_3.size)
  have s0_14 := s0_13.trans (hkb14.mono s0_3.size)
  have s0_15 := s0_14.trans (hb15.mono s0_14.size)
  have s0_16 := s0_15.trans (hkb16.mono s0_3.size)
  have s0_17 := s0_16.trans (hb17.mono s0_16.size)
  go_upto_region 31 with fail
  go_cut [15, 16] from 94 to 101 (fun p6 p7 wx => PrE w17 p6 p7 rv1 rv0_0 rv0_1 rv0_2 rv0_3 rv0_4 wx)
  case first =>
    have hsrc0 := Lib.hid ((HS0'.out.below s0_17 (Nat.le_refl _)).more s0_17.size)
    have hsrc1 := Lib.hid ((HS1'.out.below s0_17 (Nat.le_refl _)).more s0_17.size)
    have hcells : ∀ x : World, Below w17.heap.size w17 x → (Below w17.heap.size w17 x ∧ x.cell? ⟨w.heap.size, 0, none⟩ = some (.int .i64 cS) ∧ x.cell? ⟨w.heap.size, 1, none⟩ = some (.int .i64 cT) ∧ x.cell? ⟨w.heap.size, 2, none⟩ = some (.slice a0_2 n0_2 c0_2) ∧ x.cell? ⟨w.heap.size, 3, none⟩ = some (.slice a0_3 n0_3 c0_3) ∧ x.cell? ⟨w.heap.size, 4, none⟩ = some (.slice a0_4 n0_4 c0_4) ∧ x.cell? ⟨w.heap.size + 1, 0, none⟩ = some (.int .i64 dS) ∧ x.cell? ⟨w.heap.size + 1, 1, none⟩ = some (.int .i64 dT) ∧ x.cell? ⟨w.heap.size + 1, 2, none⟩ = some (.slice a1_2 n1_2 c1_2) ∧ x.cell? ⟨w.heap.size + 1, 3, none⟩ = some (.slice a1_3 n1_3 c1_3) ∧ x.cell? ⟨w.heap.size + 1, 4, none⟩ = some (.slice a1_4 n1_4 c1_4)) := by
      intro x hx
      have r0 := (BX0.out.below s0_17 BX0.out.lt)
      have r0 := r0.below hx r0.lt
      have r1 := (BX1.out.below s0_17 BX1.out.lt)
      have r1 := r1.below hx r1.lt
      exact ⟨hx, r0.cell 0, r0.cell 1, r0.cell 2, r0.cell 3, r0.cell 4, r1.cell 0, r1.cell 1, r1.cell 2, r1.cell 3, r1.cell 4⟩
    have hcells := Lib.hid hcells
    have hkeep : Hid (∀ x y : World, Below w17.heap.size w17 x → Below x.heap.size x y → (Below w17.heap.size w17 y ∧ y.cell? ⟨w.heap.size, 0, none⟩ = some (.int .i64 cS) ∧ y.cell? ⟨w.heap.size, 1, none⟩ = some (.int .i64 cT) ∧ y.cell? ⟨w.heap.size, 2, none⟩ = some (.slice a0_2 n0_2 c0_2) ∧ y.cell? ⟨w.heap.size, 3, none⟩ = some (.slice a0_3 n0_3 c0_3) ∧ y.cell? ⟨w.heap.size, 4, none⟩ = some (.slice a0_4 n0_4 c0_4) ∧ y.cell? ⟨w.heap.size + 1, 0, none⟩ = some (.int .i64 dS) ∧ y.cell? ⟨w.heap.size + 1, 1, none⟩ = some (.int .i64 dT) ∧ y.cell? ⟨w.heap.size + 1, 2, none⟩ = some (.slice a1_2 n1_2 c1_2) ∧ y.cell? ⟨w.heap.size + 1, 3, none⟩ = some (.slice a1_3 n1_3 c1_3) ∧ y.cell? ⟨w.heap.size + 1, 4, none⟩ = some (.slice a1_4 n1_4 c1_4))) := fun x y h1 h2 => hcells.out y (h1.trans (h2.mono h1.size))
    have hkeepA : Hid (∀ (x : World) (o : Obj), Below w17.heap.size w17 x → (Below w17.heap.size w17 (x.alloc o) ∧ (x.alloc o).cell? ⟨w.heap.size, 0, none⟩ = some (.int .i64 cS) ∧ (x.alloc o).cell? ⟨w.heap.size, 1, none⟩ = some (.int .i64 cT) ∧ (x.alloc o).cell? ⟨w.heap.size, 2, none⟩ = some (.slice a0_2 n0_2 c0_2) ∧ (x.alloc o).cell? ⟨w.heap.size, 3, none⟩ = some (.slice a0_3 n0_3 c0_3) ∧ (x.alloc o).cell? ⟨w.heap.size, 4, none⟩ = some (.slice a0_4 n0_4 c0_4) ∧ (x.alloc o).cell? ⟨w.heap.size + 1, 0, none⟩ = some (.int .i64 dS) ∧ (x.alloc o).cell? ⟨w.heap.size + 1, 1, none⟩ = some (.int .i64 dT) ∧ (x.alloc o).cell? ⟨w.heap.size + 1, 2, none⟩ = some (.slice a1_2 n1_2 c1_2) ∧ (x.alloc o).cell? ⟨w.heap.size + 1, 3, none⟩ = some (.slice a1_3 n1_3 c1_3) ∧ (x.alloc o).cell? ⟨w.heap.size + 1, 4, none⟩ = some (.slice a1_4 n1_4 c1_4))) := fun x o h1 => hcells.out _ (h1.alloc h1.size o)
    have hkeepD : Hid (∀ (x : World) (o : Obj), Below w17.heap.size w17 x.drew → (Below w17.heap.size w17 ((x.alloc o).drew) ∧ ((x.alloc o).drew).cell? ⟨w.heap.size, 0, none⟩ = some (.int .i64 cS) ∧ ((x.alloc o).drew).cell? ⟨w.heap.size, 1, none⟩ = some (.int .i64 cT) ∧ ((x.alloc o).drew).cell? ⟨w.heap.size, 2, none⟩ = some (.slice a0_2 n0_2 c0_2) ∧ ((x.alloc o).drew).cell? ⟨w.heap.size, 3, none⟩ = some (.slice a0_3 n0_3 c0_3) ∧ ((x.alloc o).drew).cell? ⟨w.heap.size, 4, none⟩ = some (.slice a0_4 n0_4 c0_4) ∧ ((x.alloc o).drew).cell? ⟨w.heap.size + 1, 0, none⟩ = some (.int .i64 dS) ∧ ((x.alloc o).drew).cell? ⟨w.heap.size + 1, 1, none⟩ = some (.int .i64 dT) ∧ ((x.alloc o).drew).cell? ⟨w.heap.size + 1, 2, none⟩ = some (.slice a1_2 n1_2 c1_2) ∧ ((x.alloc o).drew).cell? ⟨w.heap.size + 1, 3, none⟩ = some (.slice a1_3 n1_3 c1_3) ∧ ((x.alloc o).drew).cell? ⟨w.heap.size + 1, 4, none⟩ = some (.slice a1_4 n1_4 c1_4))) := fun x o h1 => hcells.out _ (show Below w17.heap.size w17 (x.alloc o).drew from h1.alloc h1.size o)
    have hkeepS : Hid (∀ (x : World) (G : Nat) (u0 u1 u2 u3 u4 : Value), w17.heap.size ≤ G → Below w17.heap.size w17 x → (Below w17.heap.size w17 (((((x.setCell ⟨G, 0, none⟩ u0).setCell ⟨G, 1, none⟩ u1).setCell ⟨G, 2, none⟩ u2).setCell ⟨G, 3, none⟩ u3).setCell ⟨G, 4, none⟩ u4) ∧ (((((x.setCell ⟨G, 0, none⟩ u0).setCell ⟨G, 1, none⟩ u1).setCell ⟨G, 2, none⟩ u2).setCell ⟨G, 3, none⟩ u3).setCell ⟨G, 4, none⟩ u4).cell? ⟨w.heap.size, 0, none⟩ = some (.int .i64 cS) ∧ (((((x.setCell ⟨G, 0, none⟩ u0).setCell ⟨G, 1, none⟩ u1).setCell ⟨G, 2, none⟩ u2).setCell ⟨G, 3, none⟩ u3).setCell ⟨G, 4, none⟩ u4).cell? ⟨w.heap.size, 1, none⟩ = some (.int .i64 cT) ∧ (((((x.setCell ⟨G, 0, none⟩ u0).setCell ⟨G, 1, none⟩ u1).setCell ⟨G, 2, none⟩ u2).setCell ⟨G, 3, none⟩ u3).setCell ⟨G, 4, none⟩ u4).cell? ⟨w.heap.size, 2, none⟩ = some (.slice a0_2 n0_2 c0_2) ∧ (((((x.setCell ⟨G, 0, none⟩ u0).setCell ⟨G, 1, none⟩ u1).setCell ⟨G, 2, none⟩ u2).setCell ⟨G, 3, none⟩ u3).setCell ⟨G, 4, none⟩ u4).cell? ⟨w.heap.size, 3, none⟩ = some (.slice a0_3 n0_3 c0_3) ∧ (((((x.setCell ⟨G, 0, none⟩ u0).setCell ⟨G, 1, none⟩ u1).setCell ⟨G, 2, none⟩ u2).setCell ⟨G, 3, none⟩ u3).setCell ⟨G, 4, none⟩ u4).cell? ⟨w.heap.size, 4, none⟩ = some (.slice a0_4 n0_4 c0_4) ∧ (((((x.setCell ⟨G, 0, none⟩ u0).setCell ⟨G, 1, none⟩ u1).setCell ⟨G, 2, none⟩ u2).setCell ⟨G, 3, none⟩ u3).setCell ⟨G, 4, none⟩ u4).cell? ⟨w.heap.size + 1, 0, none⟩ = some (.int .i64 dS) ∧ (((((x.setCell ⟨G, 0, none⟩ u0).setCell ⟨G, 1, none⟩ u1).setCell ⟨G, 2, none⟩ u2).setCell ⟨G, 3, none⟩ u3).setCell ⟨G, 4, none⟩ u4).cell? ⟨w.heap.size + 1, 1, none⟩ = some (.int .i64 dT) ∧ (((((x.setCell ⟨G, 0, none⟩ u0).setCell ⟨G, 1, none⟩ u1).setCell ⟨G, 2, none⟩ u2).setCell ⟨G, 3, none⟩ u3).setCell ⟨G, 4, none⟩ u4).cell? ⟨w.heap.size + 1, 2, none⟩ = some (.slice a1_2 n1_2 c1_2) ∧ (((((x.setCell ⟨G, 0, none⟩ u0).setCell ⟨G, 1, none⟩ u1).setCell ⟨G, 2, none⟩ u2).setCell ⟨G, 3, none⟩ u3).setCell ⟨G, 4, none⟩ u4).cell? ⟨w.heap.size + 1, 3, none⟩ = some (.slice a1_3 n1_3 c1_3) ∧ (((((x.setCell ⟨G, 0, none⟩ u0).setCell ⟨G, 1, none⟩ u1).setCell ⟨G, 2, none⟩ u2).setCell ⟨G, 3, none⟩ u3).setCell ⟨G, 4, none⟩ u4).cell? ⟨w.heap.size + 1, 4, none⟩ = some (.slice a1_4 n1_4 c1_4))) := fun x G u0 u1 u2 u3 u4 hG h1 => hcells.out _ (Below.setCell (p := ⟨G, 4, none⟩) (Below.setCell (p := ⟨G, 3, none⟩) (Below.setCell (p := ⟨G, 2, none⟩) (Below.setCell (p := ⟨G, 1, none⟩) (Below.setCell (p := ⟨G, 0, none⟩) h1 hG u0) hG u1) hG u2) hG u3) hG u4)
    have hfrom := hcells.out w17.drew (Below.drew (Below.refl _ _))
    go_region_held3 (fun x => Below w17.heap.size w17 x ∧ x.cell? ⟨w.heap.size, 0, none⟩ = some (.int .i64 cS) ∧ x.cell? ⟨w.heap.size, 1, none⟩ = some (.int .i64 cT) ∧ x.cell? ⟨w.heap.size, 2, none⟩ = some (.slice a0_2 n0_2 c0_2) ∧ x.cell? ⟨w.heap.size, 3, none⟩ = some (.slice a0_3 n0_3 c0_3) ∧ x.cell? ⟨w.heap.size, 4, none⟩ = some (.slice a0_4 n0_4 c0_4) ∧ x.cell? ⟨w.heap.size + 1, 0, none⟩ = some (.int .i64 dS) ∧ x.cell? ⟨w.heap.size + 1, 1, none⟩ = some (.int .i64 dT) ∧ x.cell? ⟨w.heap.size + 1, 2, none⟩ = some (.slice a1_2 n1_2 c1_2) ∧ x.cell? ⟨w.heap.size + 1, 3, none⟩ = some (.slice a1_3 n1_3 c1_3) ∧ x.cell? ⟨w.heap.size + 1, 4, none⟩ = some (.slice a1_4 n1_4 c1_4)) (first | (with_reducible assumption) | ((with_reducible refine hkeepA.out _ _ ?_); (first | (with_reducible assumption) | (apply And.left; with_reducible assumption))) | ((with_reducible refine hkeepD.out _ _ ?_); (first | (with_reducible assumption) | (apply And.left; with_reducible assumption))) | ((with_reducible refine hkeepS.out _ _ _ _ _ _ _ ?_ ?_); (first | exact Nat.le_refl _ | exact Below.size (by first | (with_reducible assumption) | (apply And.left; with_reducible assumption))); (first | (with_reducible assumption) | (apply And.left; with_reducible assumption))) | go_keep)
      (first
        | (go_at_call_of 7 (Value.slice a0_2 n0_2 c0_2); refine (toMachine_any _ cS cT cL cP cE _ ?_ hm0_2 hm0_3 hm0_4).mono ?_; (exact (hsrc0.out.below (by first | (with_reducible assumption) | (apply And.left; with_reducible assumption)) (Nat.le_refl _)).more (Below.size (by first | (with_reducible assumption) | (apply And.left; with_reducible assumption)))); rintro e wa0 ⟨ua, rfl, hra, hba0⟩; have hka0 := (fun h => hkeep.out _ _ h hba0) (by first | (with_reducible assumption) | (apply And.left; with_reducible assumption)); obtain ⟨gb0_2, gb0_3, gb0_4, hu⟩ := hra.shape; subst hu; have HCA0 := Lib.hid hra.cg; clear hra; skip)
        | (go_at_call_of 7 (Value.slice a1_2 n1_2 c1_2); refine (toMachine_any _ dS dT dL dP dE _ ?_ hm1_2 hm1_3 hm1_4).mono ?_; (exact (hsrc1.out.below (by first | (with_reducible assumption) | (apply And.left; with_reducible assumption)) (Nat.le_refl _)).more (Below.size (by first | (with_reducible assumption) | (apply And.left; with_reducible assumption)))); rintro e wa1 ⟨ua, rfl, hra, hba1⟩; have hka1 := (fun h => hkeep.out _ _ h hba1) (by first | (with_reducible assumption) | (apply And.left; with_reducible assumption)); obtain ⟨gb1_2, gb1_3, gb1_4, hu⟩ := hra.shape; subst hu; have HCA1 := Lib.hid hra.cg; clear hra; skip)
        | (go_at_call 13; refine (iJoinedL_any _ _ _ _ _ _ _ _ _ _ _ _ cS cT cL cP cE dS dT dL dP dE _ ?_ ?_ hs0_2 hs0_3 hs0_4 hs1_2 hs1_3 hs1_4).mono ?_; (exact (HCA0.out.below (by repeat (first | (with_reducible exact Below.refl _ _) | (with_reducible refine bl_keepD ?_) | (with_reducible refine bl_keepA _ ?_) | (with_reducible refine bl_keepH hba0 ?_) | (with_reducible refine bl_keepH hba1 ?_))) (Nat.le_refl _)).more (bl_sz (by repeat (first | (with_reducible exact Below.refl _ _) | (with_reducible refine bl_keepD ?_) | (with_reducible refine bl_keepA _ ?_) | (with_reducible refine bl_keepH hba0 ?_) | (with_reducible refine bl_keepH hba1 ?_))))); (exact (HCA1.out.below (by repeat (first | (with_reducible exact Below.refl _ _) | (with_reducible refine bl_keepD ?_) | (with_reducible refine bl_keepA _ ?_) | (with_reducible refine bl_keepH hba0 ?_) | (with_reducible refine bl_keepH hba1 ?_))) (Nat.le_refl _)).more (bl_sz (by repeat (first | (with_reducible exact Below.refl _ _) | (with_reducible refine bl_keepD ?_) | (with_reducible refine bl_keepA _ ?_) | (with_reducible refine bl_keepH hba0 ?_) | (with_reducible refine bl_keepH hba1 ?_))))); rintro e wS ⟨vS, rfl, hR_, hbS⟩; have HBX := Lib.hid (bl_size (w := w17) hbS (by first | (with_reducible assumption) | (apply And.left; with_reducible assumption)) rfl); have hkS := (fun h => hkeep.out _ _ h hbS) (by first | (with_reducible assumption) | (apply And.left; with_reducible assumption)); rw [← Hrv0_0.out, ← Hrv0_1.out, ← Hrv0_2.out, ← Hrv0_3.out, ← Hrv0_4.out] at hR_; rw [← Hrv1.out]; obtain ⟨rA18_2, rC18_2, rA18_3, rC18_3, rA18_4, rC18_4, hu⟩ := hR_.shape; subst hu; have HR := Lib.hid hR_; clear hR_; (first | ((first | (with_reducible have hz := row_two hbS (row_keepH hba1 (row_keepH hba0 (Row.new _ 29 [.int .i64 0, .int .i64 0, .slice none 0 0, .slice none 0 0, .slice none 0 0])))) | (with_reducible have hz := row_two hbS (row_keepH hba1 (Row.new wa0 29 [.int .i64 0, .int .i64 0, .slice none 0 0, .slice none 0 0, .slice none 0 0]))) | (with_reducible have hz := row_two hbS (Row.new wa1 29 [.int .i64 0, .int .i64 0, .slice none 0 0, .slice none 0 0, .slice none 0 0])) | (with_reducible have hz := row_two hbS (row_keepH hba1 (row_keepH hba0 (row_keepD (Row.new _ 29 [.int .i64 0, .int .i64 0, .slice none 0 0, .slice none 0 0, .slice none 0 0]))))) | (with_reducible have hz := row_two hbS (row_keepH hba1 (row_keepD (Row.new wa0 29 [.int .i64 0, .int .i64 0, .slice none 0 0, .slice none 0 0, .slice none 0 0])))) | (with_reducible have hz := row_two hbS (row_keepD (Row.new wa1 29 [.int .i64 0, .int .i64 0, .slice none 0 0, .slice none 0 0, .slice none 0 0])))); have HLT := Lib.hid hz.2; have HZ := Lib.hid hz.1; clear hz; have z0 := HZ.out.cell 0; have z1 := HZ.out.cell 1; have z2 := HZ.out.cell 2; have z3 := HZ.out.cell 3; have z4 := HZ.out.cell 4; have y0 := HZ.out.frozen 0; have y1 := HZ.out.frozen 1; have y2 := HZ.out.frozen 2; have y3 := HZ.out.frozen 3; have y4 := HZ.out.frozen 4) | skip)))
    all_goals
      go_wp2_with fail
      go_meet
      first
        | ((with_reducible refine pair_end2 (B := ?_) ?_ ?_ ?_ ?_ ?_ ?_); rotate_left; exact HR.out; exact hkS.1; exact HBX.out; exact HZ.out; exact (by first | exact Nat.le_refl _ | exact Below.size hka0.1 | exact Below.size hka1.1); exact HLT.out)
        | exact pair_end1 HR.out hkS.1 HBX.out
  case rest =>
  obtain ⟨b18, rA18_2, rC18_2, rA18_3, rC18_3, rA18_4, rC18_4, rfl, rfl, bq, hR_, hb18⟩ := hcut
  obtain ⟨w18, rfl⟩ : ∃ x : World, x = wc := ⟨_, rfl⟩
  have BXx18 := Lib.hid bq; have hR18_0 := Lib.hid hR_; clear bq hR_
  have kx18_0 := BXx18.out.cell 0
  have kx18_1 := BXx18.out.cell 1
  have kx18_2 := BXx18.out.cell 2
  have kx18_3 := BXx18.out.cell 3
  have kx18_4 := BXx18.out.cell 4
  have s16_17 := hb17
  have s16_18 := s16_17.trans (hb18.mono s16_17.size)
  have kx3_0 := (BY3_16.out.below s16_18 BY3_16.out.lt).cell 0
  have kx3_1 := (BY3_16.out.below s16_18 BY3_16.out.lt).cell 1
  have kx3_2 := (BY3_16.out.below s16_18 BY3_16.out.lt).cell 2
  have kx3_3 := (BY3_16.out.below s16_18 BY3_16.out.lt).cell 3
  have kx3_4 := (BY3_16.out.below s16_18 BY3_16.out.lt).cell 4
  go_wp2_with fail
  clear kx18_0 kx18_1 kx18_2 kx18_3 kx18_4 kx3_0 kx3_1 kx3_2 kx3_3 kx3_4
  have s3_15 := s3_14.trans (hb15.mono s3_14.size)
  have s3_16 := s3_15.trans (hkb16.mono (Nat.le_refl _))
  have s3_17 := s3_16.trans (hb17.mono s3_16.size)
  have s3_18 := s3_17.trans (hb18.mono s3_17.size)
  refine (eqOwnMachine (.agg #[.int .i64 rv0_0, .int .i64 rv0_1, .slice rA18_2 rv0_2.length rC18_2, .slice rA18_3 rv0_3.length rC18_3, .slice rA18_4 rv0_4.length rC18_4]) (.agg #[.int .i64 rv0_0, .int .i64 rv0_1, .slice rA3_2 rv0_2.length rC3_2, .slice rA3_3 rv0_3.length rC3_3, .slice rA3_4 rv0_4.length rC3_4]) rv0_0 rv0_1 rv0_2 rv0_3 rv0_4 _ _ _ _ w18 hR18_0.out (hR3_0.out.below s3_18 (Nat.le_refl _)) hOB0_24 hOB0_34 hOB0_44).mono ?_
  rintro e w19 ⟨rfl, hb19⟩
  have s16_19 := s16_18.trans (hb19.mono s16_18.size)
  have kx8_0 := (BY8_16.out.below s16_19 BY8_16.out.lt).cell 0
  have kx8_1 := (BY8_16.out.below s16_19 BY8_16.out.lt).cell 1
  have kx8_2 := (BY8_16.out.below s16_19 BY8_16.out.lt).cell 2
  have kx8_3 := (BY8_16.out.below s16_19 BY8_16.out.lt).cell 3
  have kx8_4 := (BY8_16.out.below s16_19 BY8_16.out.lt).cell 4
  go_wp2_with fail
  clear kx8_0 kx8_1 kx8_2 kx8_3 kx8_4
  refine (heldMachine_any (.agg #[.int .i64 rv0_0, .int .i64 rv0_1, .slice rA8_2 rv0_2.length rC8_2, .slice rA8_3 rv0_3.length rC8_3, .slice rA8_4 rv0_4.length rC8_4]) rv0_2 rv0_3 rv0_4 1 w19 (HM.out.below s16_19 (Nat.le_refl _)) hOB0_2 hOB0_3 hOB0_4 (by omega) (by omega)).mono ?_
  rintro e w20 ⟨rfl, hb20⟩
  go_wp2_with fail
  go_ret
  have s0_18 := s0_17.trans (hb18.mono s0_17.size)
  have s0_19 := s0_18.trans (hb19.mono s0_18.size)
  have s0_20 := s0_19.trans (hb20.mono s0_19.size)
  exact ⟨rfl, BXB.out.trans (s0_20.mono BXB.out.size)⟩
end Go.Proofs.Ytkkjhakniolooaa.fnExactJoinedOf
