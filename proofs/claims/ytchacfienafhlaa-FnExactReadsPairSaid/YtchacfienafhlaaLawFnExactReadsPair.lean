/- FnExactReadsPair: the walk: the law returns true. -/
import Derived.Test.YtchacfienafhlaaRp
import Derived.Test.YtchacfienafhlaaSidedSt
import Derived.Test.YtchacfienafhlaaKp
import Derived.Deep.RegionHeld3
import Derived.Deep.RegionWith
namespace Go.Proofs.Ytchacfienafhlaa.fnExactReadsPair
open Go.RowKit
set_option linter.unusedVariables false
set_option maxHeartbeats 4000000 in
theorem walk (cS : Int) (cT : Int) (a0_2 : Option Addr) (n0_2 c0_2 : Nat) (cL : List A4) (a0_3 : Option Addr) (n0_3 c0_3 : Nat) (cE : List Bool) (a1 : Option Addr) (n1 c1 : Nat) (z1 : List Int) (a2 : Option Addr) (n2 c2 : Nat) (z2 : List Int) (w : World) (wf0_0 : (Lit.int .i64 cS).wf = true) (wf0_1 : (Lit.int .i64 cT).wf = true) (wf0_2 : n0_2 ≤ 9223372036854775807 ∧ SlA w w.heap.size a0_2 n0_2 cL) (wf0_3 : n0_3 ≤ 9223372036854775807 ∧ SlB w w.heap.size a0_3 n0_3 cE) (wf1 : IsRow .i64 w a1 n1 c1 z1) (wf2 : IsRow .i64 w a2 n2 c2 z2) :
    Calls Try.prog 5 #[.agg #[.int .i64 cS, .int .i64 cT, .slice a0_2 n0_2 c0_2, .slice a0_3 n0_3 c0_3], .slice a1 n1 c1, .slice a2 n2 c2] w fun e w' => e = .returned (.bool true) ∧ Below w.heap.size w w' := by
  obtain ⟨hx0_2, hS0_2⟩ := wf0_2
  have hy0_2 := hS0_2.len
  obtain ⟨hx0_3, hS0_3⟩ := wf0_3
  have hy0_3 := hS0_3.len
  have hC0 : Sd w w.heap.size (.agg #[.int .i64 cS, .int .i64 cT, .slice a0_2 n0_2 c0_2, .slice a0_3 n0_3 c0_3]) cS cT cL cE := ⟨_, _, _, _, _, _, rfl, hS0_2, hS0_3⟩
  rw [← hy0_2] at hx0_2
  rw [← hy0_3] at hx0_3
  clear hS0_2 hy0_2 hS0_3 hy0_3
  have HS0 := Lib.hid hC0; clear hC0
  have hL1 := wf1.lens
  have hS1 := wf1.sl
  have hx1 : n1 ≤ 9223372036854775807 := by have := Nat.le_trans hL1.1 hL1.2.1; unfold maxLen at this; omega
  obtain ⟨xs, he1⟩ : ∃ ss, ss = z1.take n1 := ⟨_, rfl⟩
  rw [← he1] at hS1
  clear he1 hL1 wf1
  have HS1 := Lib.hid hS1; clear hS1
  have hL2 := wf2.lens
  have hS2 := wf2.sl
  have hx2 : n2 ≤ 9223372036854775807 := by have := Nat.le_trans hL2.1 hL2.2.1; unfold maxLen at this; omega
  obtain ⟨ys, he2⟩ : ∃ ss, ss = z2.take n2 := ⟨_, rfl⟩
  rw [← he2] at hS2
  clear he2 hL2 wf2
  have HS2 := Lib.hid hS2; clear hS2
  by_cases hn1 : n1 ≤ 1048576
  · have hm1 : n1 ≤ 4294967296 := by omega
    by_cases hn2 : n2 ≤ 1048576
    · have hm2 : n2 ≤ 4294967296 := by omega
      have bx0 := Row.new (w) 40 [.int .i64 cS, .int .i64 cT, .slice a0_2 n0_2 c0_2, .slice a0_3 n0_3 c0_3]
      have bxb : Below w.heap.size w ((w).alloc (.cells ([.int .i64 cS, .int .i64 cT, .slice a0_2 n0_2 c0_2, .slice a0_3 n0_3 c0_3] : List Value).toArray 40)) := (Below.refl _ _).alloc (Nat.le_refl _) _
      have BX0 := Lib.hid bx0; clear bx0
      have BXB := Lib.hid bxb; clear bxb
      go_enter Try.func5, Try.ntmps5
      go_wp2_with fail
      obtain ⟨wb, hwb⟩ : ∃ x, x = (w).alloc (.cells ([.int .i64 cS, .int .i64 cT, .slice a0_2 n0_2 c0_2, .slice a0_3 n0_3 c0_3] : List Value).toArray 40) := ⟨_, rfl⟩
      rw [← hwb] at BX0
      rw [← hwb] at BXB
      change Calls _ _ _ ((w).alloc (.cells ([.int .i64 cS, .int .i64 cT, .slice a0_2 n0_2 c0_2, .slice a0_3 n0_3 c0_3] : List Value).toArray 40)) _
      rw [← hwb]
      clear hwb
      have HS0' := Lib.hid ((HS0.out.below BXB.out (Nat.le_refl _)).more BXB.out.size)
      have HS1' := Lib.hid ((HS1.out.below BXB.out (Nat.le_refl _)).more BXB.out.size)
      have HS2' := Lib.hid ((HS2.out.below BXB.out (Nat.le_refl _)).more BXB.out.size)
      refine (szSided_any (.agg #[.int .i64 cS, .int .i64 cT, .slice a0_2 n0_2 c0_2, .slice a0_3 n0_3 c0_3]) cS cT cL cE 1048576 wb HS0'.out (by omega) (by omega) hx0_2 hx0_3).mono ?_
      rintro e w1 ⟨y0, rfl, hy0_0, hy1_0, hyn0, hb1⟩
      have s0_1 := hb1
      by_cases hneg : y0 < 0
      · clear hyn0
        go_wp2_with fail
        go_ret
        exact ⟨rfl, BXB.out.trans (s0_1.mono BXB.out.size)⟩
      have hyq0 : 0 ≤ y0 := by omega
      obtain ⟨hs0_2, hs0_3⟩ := hyn0 hyq0
      have hm0_2 : cL.length ≤ 4294967296 := by omega
      have hm0_3 : cE.length ≤ 4294967296 := by omega
      clear hyn0 hneg
      obtain ⟨rv0, hrv0⟩ : ∃ x, x = rpR cS cT cL cE xs ys := ⟨_, rfl⟩
      obtain ⟨rv1, hrv1⟩ : ∃ x, x = rpB cS cT cL cE xs ys := ⟨_, rfl⟩
      have Hrv0 := Lib.hid hrv0; clear hrv0
      have Hrv1 := Lib.hid hrv1; clear hrv1
      have kc0_0 := (BX0.out.below s0_1 BX0.out.lt).cell 0
      have kc0_1 := (BX0.out.below s0_1 BX0.out.lt).cell 1
      have kc0_2 := (BX0.out.below s0_1 BX0.out.lt).cell 2
      have kc0_3 := (BX0.out.below s0_1 BX0.out.lt).cell 3
      go_wp2_with fail
      clear kc0_0 kc0_1 kc0_2 kc0_3
      refine (toSided_any (.agg #[.int .i64 cS, .int .i64 cT, .slice a0_2 n0_2 c0_2, .slice a0_3 n0_3 c0_3]) cS cT cL cE w1 ((HS0'.out.below s0_1 (Nat.le_refl _)).more s0_1.size) hm0_2 hm0_3).mono ?_
      rintro e w2 ⟨u2, rfl, hr2, hb2⟩
      obtain ⟨ga2_2, ga2_3, hu⟩ := hr2.shape
      subst hu
      have H2 := Lib.hid hr2.cg
      clear hr2
      go_wp2_with fail
      have s0_2 := s0_1.trans (hb2.mono s0_1.size)
      refine (toInt64S_any a1 n1 c1 xs w2 ((HS1'.out.below s0_2 (Nat.le_refl _)).more s0_2.size) hm1).mono ?_
      rintro e w3 ⟨g3, rfl, hg3, hr3, hb3⟩
      have H3 := Lib.hid (show SlI w3 w3.heap.size (some ⟨g3, 0, none⟩) n1 xs by have := hr3.sl; rw [iv_length, HS1'.out.len] at this; exact this)
      have N3 : Hid (RowN w3 g3 2 n1) := ⟨iv xs, by rw [iv_length]; exact HS1'.out.len, hr3⟩
      have gl3 := hr3.lt
      clear hr3
      go_wp2_with fail
      have s0_3 := s0_2.trans (hb3.mono s0_2.size)
      refine (toInt64S_any a2 n2 c2 ys w3 ((HS2'.out.below s0_3 (Nat.le_refl _)).more s0_3.size) hm2).mono ?_
      rintro e w4 ⟨g4, rfl, hg4, hr4, hb4⟩
      have H4 := Lib.hid (show SlI w4 w4.heap.size (some ⟨g4, 0, none⟩) n2 ys by have := hr4.sl; rw [iv_length, HS2'.out.len] at this; exact this)
      have N4 : Hid (RowN w4 g4 2 n2) := ⟨iv ys, by rw [iv_length]; exact HS2'.out.len, hr4⟩
      have gl4 := hr4.lt
      clear hr4
      go_wp2_with fail
      have s2_3 := hb3
      have s2_4 := s2_3.trans (hb4.mono s2_3.size)
      have s3_4 := hb4
      refine (sReads_any _ (some ⟨g3, 0, none⟩) n1 n1 (some ⟨g4, 0, none⟩) n2 n2 cS cT cL cE xs ys w4 ((H2.out.below s2_4 (Nat.le_refl _)).more s2_4.size) ((H3.out.below s3_4 (Nat.le_refl _)).more s3_4.size) H4.out hm0_2 hm0_3 hm1 hm2).mono ?_
      rintro e w5 ⟨rfl, hb5⟩
      rw [← Hrv0.out]
      rw [← Hrv1.out]
      have s0_4 := s0_3.trans (hb4.mono s0_3.size)
      have s0_5 := s0_4.trans (hb5.mono s0_4.size)
      have kc0_0 := (BX0.out.below s0_5 BX0.out.lt).cell 0
      have kc0_1 := (BX0.out.below s0_5 BX0.out.lt).cell 1
      have kc0_2 := (BX0.out.below s0_5 BX0.out.lt).cell 2
      have kc0_3 := (BX0.out.below s0_5 BX0.out.lt).cell 3
      go_wp2_with fail
      clear kc0_0 kc0_1 kc0_2 kc0_3
      refine (toSided_any (.agg #[.int .i64 cS, .int .i64 cT, .slice a0_2 n0_2 c0_2, .slice a0_3 n0_3 c0_3]) cS cT cL cE w5 ((HS0'.out.below s0_5 (Nat.le_refl _)).more s0_5.size) hm0_2 hm0_3).mono ?_
      rintro e w6 ⟨u6, rfl, hr6, hb6⟩
      obtain ⟨ga6_2, ga6_3, hu⟩ := hr6.shape
      subst hu
      have H6 := Lib.hid hr6.cg
      clear hr6
      go_wp2_with fail
      obtain ⟨w7, hwb⟩ : ∃ x, x = w6.alloc (.cells ([.int .i64 cS, .int .i64 cT, .slice (some ⟨ga6_2, 0, none⟩) cL.length cL.length, .slice (some ⟨ga6_3, 0, none⟩) cE.length cE.length] : List Value).toArray 46) := ⟨_, rfl⟩
      have bq := Row.new w6 46 [.int .i64 cS, .int .i64 cT, .slice (some ⟨ga6_2, 0, none⟩) cL.length cL.length, .slice (some ⟨ga6_3, 0, none⟩) cE.length cE.length]
      have hb7 : Below w6.heap.size w6 (w6.alloc (.cells ([.int .i64 cS, .int .i64 cT, .slice (some ⟨ga6_2, 0, none⟩) cL.length cL.length, .slice (some ⟨ga6_3, 0, none⟩) cE.length cE.length] : List Value).toArray 46)) := (Below.refl _ _).alloc (Nat.le_refl _) _
      rw [← hwb] at bq hb7
      change Calls _ _ _ (w6.alloc (.cells ([.int .i64 cS, .int .i64 cT, .slice (some ⟨ga6_2, 0, none⟩) cL.length cL.length, .slice (some ⟨ga6_3, 0, none⟩) cE.length cE.length] : List Value).toArray 46)) _
      rw [← hwb]
      clear hwb
      have BXx6 := Lib.hid bq; clear bq
      have s0_6 := s0_5.trans (hb6.mono s0_5.size)
      have s0_7 := s0_6.trans (hb7.mono s0_6.size)
      refine (toInt64S_any a1 n1 c1 xs w7 ((HS1'.out.below s0_7 (Nat.le_refl _)).more s0_7.size) hm1).mono ?_
      rintro e w8 ⟨g8, rfl, hg8, hr8, hb8⟩
      have H8 := Lib.hid (show SlI w8 w8.heap.size (some ⟨g8, 0, none⟩) n1 xs by have := hr8.sl; rw [iv_length, HS1'.out.len] at this; exact this)
      have N8 : Hid (RowN w8 g8 2 n1) := ⟨iv xs, by rw [iv_length]; exact HS1'.out.len, hr8⟩
      have gl8 := hr8.lt
      clear hr8
      go_wp2_with fail
      have s0_8 := s0_7.trans (hb8.mono s0_7.size)
      refine (toInt64S_any a2 n2 c2 ys w8 ((HS2'.out.below s0_8 (Nat.le_refl _)).more s0_8.size) hm2).mono ?_
      rintro e w9 ⟨g9, rfl, hg9, hr9, hb9⟩
      have H9 := Lib.hid (show SlI w9 w9.heap.size (some ⟨g9, 0, none⟩) n2 ys by have := hr9.sl; rw [iv_length, HS2'.out.len] at this; exact this)
      have N9 : Hid (RowN w9 g9 2 n2) := ⟨iv ys, by rw [iv_length]; exact HS2'.out.len, hr9⟩
      have gl9 := hr9.lt
      clear hr9
      have s7_8 := hb8
      have s7_9 := s7_8.trans (hb9.mono s7_8.size)
      have kx6_0 := (BXx6.out.below s7_9 BXx6.out.lt).cell 0
      have kx6_1 := (BXx6.out.below s7_9 BXx6.out.lt).cell 1
      have kx6_2 := (BXx6.out.below s7_9 BXx6.out.lt).cell 2
      have kx6_3 := (BXx6.out.below s7_9 BXx6.out.lt).cell 3
      go_wp2_with fail
      clear kx6_0 kx6_1 kx6_2 kx6_3
      have s6_7 := hb7
      have s6_8 := s6_7.trans (hb8.mono s6_7.size)
      have s6_9 := s6_8.trans (hb9.mono s6_8.size)
      have s8_9 := hb9
      refine (iReads_any _ (some ⟨g8, 0, none⟩) n1 n1 (some ⟨g9, 0, none⟩) n2 n2 cS cT cL cE xs ys w9 ((H6.out.below s6_9 (Nat.le_refl _)).more s6_9.size) ((H8.out.below s8_9 (Nat.le_refl _)).more s8_9.size) H9.out hm0_2 hm0_3 hm1 hm2).mono ?_
      rintro e w10 ⟨rfl, hb10⟩
      rw [← Hrv0.out]
      rw [← Hrv1.out]
      have s0_9 := s0_8.trans (hb9.mono s0_8.size)
      have s0_10 := s0_9.trans (hb10.mono s0_9.size)
      have kc0_0 := (BX0.out.below s0_10 BX0.out.lt).cell 0
      have kc0_1 := (BX0.out.below s0_10 BX0.out.lt).cell 1
      have kc0_2 := (BX0.out.below s0_10 BX0.out.lt).cell 2
      have kc0_3 := (BX0.out.below s0_10 BX0.out.lt).cell 3
      have s7_10 := s7_9.trans (hb10.mono s7_9.size)
      have kx6_0 := (BXx6.out.below s7_10 BXx6.out.lt).cell 0
      have kx6_1 := (BXx6.out.below s7_10 BXx6.out.lt).cell 1
      have kx6_2 := (BXx6.out.below s7_10 BXx6.out.lt).cell 2
      have kx6_3 := (BXx6.out.below s7_10 BXx6.out.lt).cell 3
      go_wp2_with fail
      have s6_10 := s6_9.trans (hb10.mono s6_9.size)
      have hsrc := Lib.hid ((HS0'.out.below s0_10 (Nat.le_refl _)).more s0_10.size)
      have hcop := Lib.hid ((H6.out.below s6_10 (Nat.le_refl _)).more s6_10.size)
      have hcells : ∀ x : World, Below w10.heap.size w10 x → (x.cell? ⟨w.heap.size, 0, none⟩ = some (.int .i64 cS) ∧ x.cell? ⟨w.heap.size, 1, none⟩ = some (.int .i64 cT) ∧ x.cell? ⟨w.heap.size, 2, none⟩ = some (.slice a0_2 n0_2 c0_2) ∧ x.cell? ⟨w.heap.size, 3, none⟩ = some (.slice a0_3 n0_3 c0_3) ∧ x.cell? ⟨w6.heap.size, 0, none⟩ = some (.int .i64 cS) ∧ x.cell? ⟨w6.heap.size, 1, none⟩ = some (.int .i64 cT) ∧ x.cell? ⟨w6.heap.size, 2, none⟩ = some (.slice (some ⟨ga6_2, 0, none⟩) cL.length cL.length) ∧ x.cell? ⟨w6.heap.size, 3, none⟩ = some (.slice (some ⟨ga6_3, 0, none⟩) cE.length cE.length)) := by
        intro x hx
        have ra := (BX0.out.below s0_10 BX0.out.lt)
        have rx := (BXx6.out.below s7_10 BXx6.out.lt)
        have ra' := ra.below hx ra.lt
        have rx' := rx.below hx rx.lt
        exact ⟨ra'.cell 0, ra'.cell 1, ra'.cell 2, ra'.cell 3, rx'.cell 0, rx'.cell 1, rx'.cell 2, rx'.cell 3⟩
      have hcells := Lib.hid hcells
      have hkeep : Hid (∀ x y : World, Below w10.heap.size w10 x → Below x.heap.size x y → (Below w10.heap.size w10 y ∧ y.cell? ⟨w.heap.size, 0, none⟩ = some (.int .i64 cS) ∧ y.cell? ⟨w.heap.size, 1, none⟩ = some (.int .i64 cT) ∧ y.cell? ⟨w.heap.size, 2, none⟩ = some (.slice a0_2 n0_2 c0_2) ∧ y.cell? ⟨w.heap.size, 3, none⟩ = some (.slice a0_3 n0_3 c0_3) ∧ y.cell? ⟨w6.heap.size, 0, none⟩ = some (.int .i64 cS) ∧ y.cell? ⟨w6.heap.size, 1, none⟩ = some (.int .i64 cT) ∧ y.cell? ⟨w6.heap.size, 2, none⟩ = some (.slice (some ⟨ga6_2, 0, none⟩) cL.length cL.length) ∧ y.cell? ⟨w6.heap.size, 3, none⟩ = some (.slice (some ⟨ga6_3, 0, none⟩) cE.length cE.length))) := by
        intro x y h1 h2
        have h3 := h1.trans (h2.mono h1.size)
        exact ⟨h3, hcells.out y h3⟩
      have hfrom := hcells.out w10 (Below.refl _ _)
      have hdr : Below w10.heap.size w10 w10.drew := Below.drew (Below.refl _ _)
      go_region_held3 (fun x => Below w10.heap.size w10 x ∧ x.cell? ⟨w.heap.size, 0, none⟩ = some (.int .i64 cS) ∧ x.cell? ⟨w.heap.size, 1, none⟩ = some (.int .i64 cT) ∧ x.cell? ⟨w.heap.size, 2, none⟩ = some (.slice a0_2 n0_2 c0_2) ∧ x.cell? ⟨w.heap.size, 3, none⟩ = some (.slice a0_3 n0_3 c0_3) ∧ x.cell? ⟨w6.heap.size, 0, none⟩ = some (.int .i64 cS) ∧ x.cell? ⟨w6.heap.size, 1, none⟩ = some (.int .i64 cT) ∧ x.cell? ⟨w6.heap.size, 2, none⟩ = some (.slice (some ⟨ga6_2, 0, none⟩) cL.length cL.length) ∧ x.cell? ⟨w6.heap.size, 3, none⟩ = some (.slice (some ⟨ga6_3, 0, none⟩) cE.length cE.length)) (first | assumption | go_keep)
        (first
          | (go_at_call 20; refine (toSided_any _ cS cT cL cE _ ?_ hm0_2 hm0_3).mono ?_; (exact (hsrc.out.below (by first | assumption | (apply And.left; assumption)) (Nat.le_refl _)).more (Below.size (by first | assumption | (apply And.left; assumption)))); rintro e wz ⟨uz, rfl, hrz, hbz⟩; have hkz := (fun h => hkeep.out _ _ h hbz) (by first | assumption | (apply And.left; assumption)); obtain ⟨gb2, gb3, hu⟩ := hrz.shape; subst hu; have HCz := Lib.hid hrz.cg; clear hrz)
          | (go_at_call 23; refine (eqSided_same _ _ cS cT cL cE _ ?_ ?_ hm0_2 hm0_3).mono ?_; (exact (hcop.out.below (by first | assumption | (apply And.left; assumption)) (Nat.le_refl _)).more (Below.size (by first | assumption | (apply And.left; assumption)))); (exact HCz.out); rintro e w11 ⟨rfl, hbz2⟩; have hk2 := (fun h => hkeep.out _ _ h hbz2) (by first | assumption | (apply And.left; assumption))))
      have hb11 : Below w10.heap.size w10 w11 := (by first | assumption | (apply And.left; assumption))
      clear hfrom hdr hkeep hcells hsrc hcop kc0_0 kc0_1 kc0_2 kc0_3 kx6_0 kx6_1 kx6_2 kx6_3
      go_wp2_with fail
      have s0_11 := s0_10.trans (hb11.mono s0_10.size)
      refine (toInt64S_any a1 n1 c1 xs w11 ((HS1'.out.below s0_11 (Nat.le_refl _)).more s0_11.size) hm1).mono ?_
      rintro e w12 ⟨g12, rfl, hg12, hr12, hb12⟩
      have H12 := Lib.hid (show SlI w12 w12.heap.size (some ⟨g12, 0, none⟩) n1 xs by have := hr12.sl; rw [iv_length, HS1'.out.len] at this; exact this)
      have N12 : Hid (RowN w12 g12 2 n1) := ⟨iv xs, by rw [iv_length]; exact HS1'.out.len, hr12⟩
      have gl12 := hr12.lt
      clear hr12
      go_wp2_with fail
      have s8_10 := s8_9.trans (hb10.mono s8_9.size)
      have s8_11 := s8_10.trans (hb11.mono s8_10.size)
      have s8_12 := s8_11.trans (hb12.mono s8_11.size)
      refine (eqInt64S_any _ n1 n1 xs _ n1 n1 xs w12 _ _ (H8.out.below s8_12 (Nat.le_refl _)) H12.out hm1 hm1).mono ?_
      rintro e w13 ⟨rfl, hb13⟩
      have hd13 : decide (xs = xs) = true := decide_eq_true rfl
      go_wp2_with fail
      have s0_12 := s0_11.trans (hb12.mono s0_11.size)
      have s0_13 := s0_12.trans (hb13.mono s0_12.size)
      refine (toInt64S_any a2 n2 c2 ys w13 ((HS2'.out.below s0_13 (Nat.le_refl _)).more s0_13.size) hm2).mono ?_
      rintro e w14 ⟨g14, rfl, hg14, hr14, hb14⟩
      have H14 := Lib.hid (show SlI w14 w14.heap.size (some ⟨g14, 0, none⟩) n2 ys by have := hr14.sl; rw [iv_length, HS2'.out.len] at this; exact this)
      have N14 : Hid (RowN w14 g14 2 n2) := ⟨iv ys, by rw [iv_length]; exact HS2'.out.len, hr14⟩
      have gl14 := hr14.lt
      clear hr14
      go_wp2_with fail
      have s9_10 := hb10
      have s9_11 := s9_10.trans (hb11.mono s9_10.size)
      have s9_12 := s9_11.trans (hb12.mono s9_11.size)
      have s9_13 := s9_12.trans (hb13.mono s9_12.size)
      have s9_14 := s9_13.trans (hb14.mono s9_13.size)
      refine (eqInt64S_any _ n2 n2 ys _ n2 n2 ys w14 _ _ (H9.out.below s9_14 (Nat.le_refl _)) H14.out hm2 hm2).mono ?_
      rintro e w15 ⟨rfl, hb15⟩
      have hd15 : decide (ys = ys) = true := decide_eq_true rfl
      go_wp2_with fail
      go_ret
      have s0_14 := s0_13.trans (hb14.mono s0_13.size)
      have s0_15 := s0_14.trans (hb15.mono s0_14.size)
      exact ⟨rfl, BXB.out.trans (s0_15.mono BXB.out.size)⟩
    · have ht2 : 1048576 < n2 := by omega
      clear hn2
      go_enter Try.func5, Try.ntmps5
      go_wp2_with fail
      go_ret
      exact ⟨rfl, (Below.refl _ _).alloc (Nat.le_refl _) _⟩
  · have ht1 : 1048576 < n1 := by omega
    clear hn1
    go_enter Try.func5, Try.ntmps5
    go_wp2_with fail
    go_ret
    exact ⟨rfl, (Below.refl _ _).alloc (Nat.le_refl _) _⟩
end Go.Proofs.Ytchacfienafhlaa.fnExactReadsPair
