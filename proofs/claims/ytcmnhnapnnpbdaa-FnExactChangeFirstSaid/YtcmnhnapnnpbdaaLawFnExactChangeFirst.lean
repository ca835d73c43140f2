/- FnExactChangeFirst: the walk: the law returns true. -/
import Derived.Test.YtcmnhnapnnpbdaaCfC
import Derived.Test.YtcmnhnapnnpbdaaChg
import Derived.Test.YtcmnhnapnnpbdaaKp
import Derived.Deep.RegionHeld3
import Derived.Deep.RegionWith
namespace Go.Proofs.Ytcmnhnapnnpbdaa.fnExactChangeFirst
open Go.RowKit
set_option linter.unusedVariables false
def nout (ok : Bool) (r : List Int) : List Int := if ok then r else []
theorem out_row {w : World} {base : Nat} {v : Value} {ok : Bool} {r : List Int} (h : FOut w base v ok r) : RowI w base 2 v (nout ok r) := by
  cases ok
  · have hv : v = .slice none 0 0 := h
    subst hv; exact RowI.nil _ _ _
  · exact h
theorem out_len {cL cF cG cR ws : List Int} {letters : Int} (hlen1 : ws.length ≤ 1048576) : (nout (cfB cL cF cG cR ws letters) (cfL cL cF cG cR ws)).length ≤ 1048576 := by
  unfold nout
  split
  · exact cfL_len (by assumption)
  · simp
set_option maxHeartbeats 4000000 in
theorem walk (a0_0 : Option Addr) (n0_0 c0_0 : Nat) (z0_0 : List Int) (a0_1 : Option Addr) (n0_1 c0_1 : Nat) (z0_1 : List Int) (a0_2 : Option Addr) (n0_2 c0_2 : Nat) (z0_2 : List Int) (a0_3 : Option Addr) (n0_3 c0_3 : Nat) (z0_3 : List Int) (a1 : Option Addr) (n1 c1 : Nat) (z1 : List Int) (letters : Int) (w : World) (wf0_0 : IsRow .i64 w a0_0 n0_0 c0_0 z0_0) (wf0_1 : IsRow .i64 w a0_1 n0_1 c0_1 z0_1) (wf0_2 : IsRow .i64 w a0_2 n0_2 c0_2 z0_2) (wf0_3 : IsRow .i64 w a0_3 n0_3 c0_3 z0_3) (wf1 : IsRow .i64 w a1 n1 c1 z1) (wf2 : (Lit.int .i64 letters).wf = true) :
    Calls Try.prog 8 #[.agg #[.slice a0_0 n0_0 c0_0, .slice a0_1 n0_1 c0_1, .slice a0_2 n0_2 c0_2, .slice a0_3 n0_3 c0_3], .slice a1 n1 c1, .int .i64 letters] w fun e w' => e = .returned (.bool true) ∧ Below w.heap.size w w' := by
  have hL0_0 := wf0_0.lens
  have hS0_0 := wf0_0.sl
  have hx0_0 : n0_0 ≤ 9223372036854775807 := by have := Nat.le_trans hL0_0.1 hL0_0.2.1; unfold maxLen at this; omega
  obtain ⟨cL, he0_0⟩ : ∃ ss, ss = z0_0.take n0_0 := ⟨_, rfl⟩
  rw [← he0_0] at hS0_0
  have hy0_0 := hS0_0.len
  clear he0_0 hL0_0 wf0_0
  have hL0_1 := wf0_1.lens
  have hS0_1 := wf0_1.sl
  have hx0_1 : n0_1 ≤ 9223372036854775807 := by have := Nat.le_trans hL0_1.1 hL0_1.2.1; unfold maxLen at this; omega
  obtain ⟨cF, he0_1⟩ : ∃ ss, ss = z0_1.take n0_1 := ⟨_, rfl⟩
  rw [← he0_1] at hS0_1
  have hy0_1 := hS0_1.len
  clear he0_1 hL0_1 wf0_1
  have hL0_2 := wf0_2.lens
  have hS0_2 := wf0_2.sl
  have hx0_2 : n0_2 ≤ 9223372036854775807 := by have := Nat.le_trans hL0_2.1 hL0_2.2.1; unfold maxLen at this; omega
  obtain ⟨cG, he0_2⟩ : ∃ ss, ss = z0_2.take n0_2 := ⟨_, rfl⟩
  rw [← he0_2] at hS0_2
  have hy0_2 := hS0_2.len
  clear he0_2 hL0_2 wf0_2
  have hL0_3 := wf0_3.lens
  have hS0_3 := wf0_3.sl
  have hx0_3 : n0_3 ≤ 9223372036854775807 := by have := Nat.le_trans hL0_3.1 hL0_3.2.1; unfold maxLen at this; omega
  obtain ⟨cR, he0_3⟩ : ∃ ss, ss = z0_3.take n0_3 := ⟨_, rfl⟩
  rw [← he0_3] at hS0_3
  have hy0_3 := hS0_3.len
  clear he0_3 hL0_3 wf0_3
  have hC0 : Cg w w.heap.size (.agg #[.slice a0_0 n0_0 c0_0, .slice a0_1 n0_1 c0_1, .slice a0_2 n0_2 c0_2, .slice a0_3 n0_3 c0_3]) cL cF cG cR := ⟨_, _, _, _, _, _, _, _, _, _, _, _, rfl, hS0_0, hS0_1, hS0_2, hS0_3⟩
  rw [← hy0_0] at hx0_0
  rw [← hy0_1] at hx0_1
  rw [← hy0_2] at hx0_2
  rw [← hy0_3] at hx0_3
  clear hS0_0 hy0_0 hS0_1 hy0_1 hS0_2 hy0_2 hS0_3 hy0_3
  have HS0 := Lib.hid hC0; clear hC0
  have hL1 := wf1.lens
  have hS1 := wf1.sl
  have hx1 : n1 ≤ 9223372036854775807 := by have := Nat.le_trans hL1.1 hL1.2.1; unfold maxLen at this; omega
  obtain ⟨ws, he1⟩ : ∃ ss, ss = z1.take n1 := ⟨_, rfl⟩
  rw [← he1] at hS1
  clear he1 hL1 wf1
  have HS1 := Lib.hid hS1; clear hS1
  by_cases hn1 : n1 ≤ 1048576
  · have hm1 : n1 ≤ 4294967296 := by omega
    have bx0 := Row.new (w) 24 [.slice a0_0 n0_0 c0_0, .slice a0_1 n0_1 c0_1, .slice a0_2 n0_2 c0_2, .slice a0_3 n0_3 c0_3]
    have bxb : Below w.heap.size w ((w).alloc (.cells ([.slice a0_0 n0_0 c0_0, .slice a0_1 n0_1 c0_1, .slice a0_2 n0_2 c0_2, .slice a0_3 n0_3 c0_3] : List Value).toArray 24)) := (Below.refl _ _).alloc (Nat.le_refl _) _
    have BX0 := Lib.hid bx0; clear bx0
    have BXB := Lib.hid bxb; clear bxb
    go_enter Try.func8, Try.ntmps8
    go_wp2_with fail
    obtain ⟨wb, hwb⟩ : ∃ x, x = (w).alloc (.cells ([.slice a0_0 n0_0 c0_0, .slice a0_1 n0_1 c0_1, .slice a0_2 n0_2 c0_2, .slice a0_3 n0_3 c0_3] : List Value).toArray 24) := ⟨_, rfl⟩
    rw [← hwb] at BX0
    rw [← hwb] at BXB
    change Calls _ _ _ ((w).alloc (.cells ([.slice a0_0 n0_0 c0_0, .slice a0_1 n0_1 c0_1, .slice a0_2 n0_2 c0_2, .slice a0_3 n0_3 c0_3] : List Value).toArray 24)) _
    rw [← hwb]
    clear hwb
    have HS0' := Lib.hid ((HS0.out.below BXB.out (Nat.le_refl _)).more BXB.out.size)
    have HS1' := Lib.hid ((HS1.out.below BXB.out (Nat.le_refl _)).more BXB.out.size)
    refine (szChange_any (.agg #[.slice a0_0 n0_0 c0_0, .slice a0_1 n0_1 c0_1, .slice a0_2 n0_2 c0_2, .slice a0_3 n0_3 c0_3]) cL cF cG cR 1048576 wb HS0'.out (by omega) (by omega) hx0_0 hx0_1 hx0_2 hx0_3).mono ?_
    rintro e w1 ⟨y0, rfl, hy0_0, hy1_0, hyn0, hb1⟩
    have s0_1 := hb1
    by_cases hneg : y0 < 0
    · clear hyn0
      go_wp2_with fail
      go_ret
      exact ⟨rfl, BXB.out.trans (s0_1.mono BXB.out.size)⟩
    have hyq0 : 0 ≤ y0 := by omega
    obtain ⟨hs0_0, hs0_1, hs0_2, hs0_3⟩ := hyn0 hyq0
    have hm0_0 : cL.length ≤ 4294967296 := by omega
    have hm0_1 : cF.length ≤ 4294967296 := by omega
    have hm0_2 : cG.length ≤ 4294967296 := by omega
    have hm0_3 : cR.length ≤ 4294967296 := by omega
    clear hyn0 hneg
    have hOL := @out_len cL cF cG cR ws letters (by rw [HS1.out.len]; exact hn1)
    obtain ⟨ok, hok⟩ : ∃ ok, ok = cfB cL cF cG cR ws letters := ⟨_, rfl⟩
    rw [← hok] at hOL
    obtain ⟨r, hr⟩ : ∃ r, r = nout ok (cfL cL cF cG cR ws) := ⟨_, rfl⟩
    rw [← hr] at hOL
    have hOL4 : r.length ≤ 4294967296 := by omega
    have HOK := Lib.hid hok; have HRR := Lib.hid hr
    clear hok hr
    have kc0_0 := (BX0.out.below s0_1 BX0.out.lt).cell 0
    have kc0_1 := (BX0.out.below s0_1 BX0.out.lt).cell 1
    have kc0_2 := (BX0.out.below s0_1 BX0.out.lt).cell 2
    have kc0_3 := (BX0.out.below s0_1 BX0.out.lt).cell 3
    go_wp2_with fail
    clear kc0_0 kc0_1 kc0_2 kc0_3
    refine (toChange_any (.agg #[.slice a0_0 n0_0 c0_0, .slice a0_1 n0_1 c0_1, .slice a0_2 n0_2 c0_2, .slice a0_3 n0_3 c0_3]) cL cF cG cR w1 ((HS0'.out.below s0_1 (Nat.le_refl _)).more s0_1.size) hm0_0 hm0_1 hm0_2 hm0_3).mono ?_
    rintro e w2 ⟨u2, rfl, hr2, hb2⟩
    obtain ⟨ga2_0, ga2_1, ga2_2, ga2_3, hu⟩ := hr2.shape
    subst hu
    have H2 := Lib.hid hr2.cg
    have K2 := Lib.hid hr2.cgs
    have N2 := Lib.hid (hr2.cgm); clear hr2
    go_wp2_with fail
    have s0_2 := s0_1.trans (hb2.mono s0_1.size)
    refine (toInt64S_any a1 n1 c1 ws w2 ((HS1'.out.below s0_2 (Nat.le_refl _)).more s0_2.size) hm1).mono ?_
    rintro e w3 ⟨g3, rfl, hg3, hr3, hb3⟩
    have H3 := Lib.hid (show SlI w3 w3.heap.size (some ⟨g3, 0, none⟩) n1 ws by have := hr3.sl; rw [iv_length, HS1'.out.len] at this; exact this)
    have N3 : Hid (RowN w3 g3 2 n1) := ⟨iv ws, by rw [iv_length]; exact HS1'.out.len, hr3⟩
    have gl3 := hr3.lt
    clear hr3
    go_wp2_with fail
    have s2_3 := hb3
    refine (sFirst_any _ g3 0 n1 cL cF cG cR ws letters w3 ((K2.out.below s2_3 (Nat.le_refl _)).more s2_3.size) H3.out hm0_0 hm0_1 hm0_2 hm0_3 hm1).mono ?_
    rintro e w4 ⟨v_4, rfl, hv4, hb4⟩
    have hR4 := Lib.hid (out_row hv4); clear hv4
    rw [← HOK.out] at hR4 ⊢
    rw [← HRR.out] at hR4
    have s0_3 := s0_2.trans (hb3.mono s0_2.size)
    have s0_4 := s0_3.trans (hb4.mono s0_3.size)
    have kc0_0 := (BX0.out.below s0_4 BX0.out.lt).cell 0
    have kc0_1 := (BX0.out.below s0_4 BX0.out.lt).cell 1
    have kc0_2 := (BX0.out.below s0_4 BX0.out.lt).cell 2
    have kc0_3 := (BX0.out.below s0_4 BX0.out.lt).cell 3
    go_wp2_with fail
    clear kc0_0 kc0_1 kc0_2 kc0_3
    refine (toChange_any (.agg #[.slice a0_0 n0_0 c0_0, .slice a0_1 n0_1 c0_1, .slice a0_2 n0_2 c0_2, .slice a0_3 n0_3 c0_3]) cL cF cG cR w4 ((HS0'.out.below s0_4 (Nat.le_refl _)).more s0_4.size) hm0_0 hm0_1 hm0_2 hm0_3).mono ?_
    rintro e w5 ⟨u5, rfl, hr5, hb5⟩
    obtain ⟨ga5_0, ga5_1, ga5_2, ga5_3, hu⟩ := hr5.shape
    subst hu
    have H5 := Lib.hid hr5.cg
    have K5 := Lib.hid hr5.cgs
    have N5 := Lib.hid (hr5.cgm); clear hr5
    go_wp2_with fail
    obtain ⟨w6, hwb⟩ : ∃ x, x = w5.alloc (.cells ([.slice (some ⟨ga5_0, 0, none⟩) cL.length cL.length, .slice (some ⟨ga5_1, 0, none⟩) cF.length cF.length, .slice (some ⟨ga5_2, 0, none⟩) cG.length cG.length, .slice (some ⟨ga5_3, 0, none⟩) cR.length cR.length] : List Value).toArray 27) := ⟨_, rfl⟩
    have bq := Row.new w5 27 [.slice (some ⟨ga5_0, 0, none⟩) cL.length cL.length, .slice (some ⟨ga5_1, 0, none⟩) cF.length cF.length, .slice (some ⟨ga5_2, 0, none⟩) cG.length cG.length, .slice (some ⟨ga5_3, 0, none⟩) cR.length cR.length]
    have hb6 : Below w5.heap.size w5 (w5.alloc (.cells ([.slice (some ⟨ga5_0, 0, none⟩) cL.length cL.length, .slice (some ⟨ga5_1, 0, none⟩) cF.length cF.length, .slice (some ⟨ga5_2, 0, none⟩) cG.length cG.length, .slice (some ⟨ga5_3, 0, none⟩) cR.length cR.length] : List Value).toArray 27)) := (Below.refl _ _).alloc (Nat.le_refl _) _
    rw [← hwb] at bq hb6
    change Calls _ _ _ (w5.alloc (.cells ([.slice (some ⟨ga5_0, 0, none⟩) cL.length cL.length, .slice (some ⟨ga5_1, 0, none⟩) cF.length cF.length, .slice (some ⟨ga5_2, 0, none⟩) cG.length cG.length, .slice (some ⟨ga5_3, 0, none⟩) cR.length cR.length] : List Value).toArray 27)) _
    rw [← hwb]
    clear hwb
    have BXx5 := Lib.hid bq; clear bq
    have s0_5 := s0_4.trans (hb5.mono s0_4.size)
    have s0_6 := s0_5.trans (hb6.mono s0_5.size)
    refine (toInt64S_any a1 n1 c1 ws w6 ((HS1'.out.below s0_6 (Nat.le_refl _)).more s0_6.size) hm1).mono ?_
    rintro e w7 ⟨g7, rfl, hg7, hr7, hb7⟩
    have H7 := Lib.hid (show SlI w7 w7.heap.size (some ⟨g7, 0, none⟩) n1 ws by have := hr7.sl; rw [iv_length, HS1'.out.len] at this; exact this)
    have N7 : Hid (RowN w7 g7 2 n1) := ⟨iv ws, by rw [iv_length]; exact HS1'.out.len, hr7⟩
    have gl7 := hr7.lt
    clear hr7
    have s6_7 := hb7
    have kx5_0 := (BXx5.out.below s6_7 BXx5.out.lt).cell 0
    have kx5_1 := (BXx5.out.below s6_7 BXx5.out.lt).cell 1
    have kx5_2 := (BXx5.out.below s6_7 BXx5.out.lt).cell 2
    have kx5_3 := (BXx5.out.below s6_7 BXx5.out.lt).cell 3
    go_wp2_with fail
    clear kx5_0 kx5_1 kx5_2 kx5_3
    have s5_6 := hb6
    have s5_7 := s5_6.trans (hb7.mono s5_6.size)
    refine (iFirst_any _ g7 0 n1 cL cF cG cR ws letters w7 ((K5.out.below s5_7 (Nat.le_refl _)).more s5_7.size) H7.out hm0_0 hm0_1 hm0_2 hm0_3 hm1).mono ?_
    rintro e w8 ⟨v_8, rfl, hv8, hb8⟩
    have hR8 := Lib.hid (out_row hv8); clear hv8
    rw [← HOK.out] at hR8 ⊢
    rw [← HRR.out] at hR8
    have s4_5 := hb5
    have s4_6 := s4_5.trans (hb6.mono s4_5.size)
    have s4_7 := s4_6.trans (hb7.mono s4_6.size)
    have s4_8 := s4_7.trans (hb8.mono s4_7.size)
    go_wp2_with fail
    refine (eqOwn v_8 v_4 r _ _ w8 hR8.out (hR4.out.keep s4_8 (Nat.le_refl _)) hOL4).mono ?_
    rintro e w9 ⟨rfl, hb9⟩
    have s0_7 := s0_6.trans (hb7.mono s0_6.size)
    have s0_8 := s0_7.trans (hb8.mono s0_7.size)
    have s0_9 := s0_8.trans (hb9.mono s0_8.size)
    have kc0_0 := (BX0.out.below s0_9 BX0.out.lt).cell 0
    have kc0_1 := (BX0.out.below s0_9 BX0.out.lt).cell 1
    have kc0_2 := (BX0.out.below s0_9 BX0.out.lt).cell 2
    have kc0_3 := (BX0.out.below s0_9 BX0.out.lt).cell 3
    have s6_8 := s6_7.trans (hb8.mono s6_7.size)
    have s6_9 := s6_8.trans (hb9.mono s6_8.size)
    have kx5_0 := (BXx5.out.below s6_9 BXx5.out.lt).cell 0
    have kx5_1 := (BXx5.out.below s6_9 BXx5.out.lt).cell 1
    have kx5_2 := (BXx5.out.below s6_9 BXx5.out.lt).cell 2
    have kx5_3 := (BXx5.out.below s6_9 BXx5.out.lt).cell 3
    go_wp2_with fail
    have s5_8 := s5_7.trans (hb8.mono s5_7.size)
    have s5_9 := s5_8.trans (hb9.mono s5_8.size)
    have hsrc := Lib.hid ((HS0'.out.below s0_9 (Nat.le_refl _)).more s0_9.size)
    have hcop := Lib.hid ((H5.out.below s5_9 (Nat.le_refl _)).more s5_9.size)
    have hcells : ∀ x : World, Below w9.heap.size w9 x → (x.cell? ⟨w.heap.size, 0, none⟩ = some (.slice a0_0 n0_0 c0_0) ∧ x.cell? ⟨w.heap.size, 1, none⟩ = some (.slice a0_1 n0_1 c0_1) ∧ x.cell? ⟨w.heap.size, 2, none⟩ = some (.slice a0_2 n0_2 c0_2) ∧ x.cell? ⟨w.heap.size, 3, none⟩ = some (.slice a0_3 n0_3 c0_3) ∧ x.cell? ⟨w5.heap.size, 0, none⟩ = some (.slice (some ⟨ga5_0, 0, none⟩) cL.length cL.length) ∧ x.cell? ⟨w5.heap.size, 1, none⟩ = some (.slice (some ⟨ga5_1, 0, none⟩) cF.length cF.length) ∧ x.cell? ⟨w5.heap.size, 2, none⟩ = some (.slice (some ⟨ga5_2, 0, none⟩) cG.length cG.length) ∧ x.cell? ⟨w5.heap.size, 3, none⟩ = some (.slice (some ⟨ga5_3, 0, none⟩) cR.length cR.length)) := by
      intro x hx
      have ra := (BX0.out.below s0_9 BX0.out.lt)
      have rx := (BXx5.out.below s6_9 BXx5.out.lt)
      have ra' := ra.below hx ra.lt
      have rx' := rx.below hx rx.lt
      exact ⟨ra'.cell 0, ra'.cell 1, ra'.cell 2, ra'.cell 3, rx'.cell 0, rx'.cell 1, rx'.cell 2, rx'.cell 3⟩
    have hcells := Lib.hid hcells
    have hkeep : Hid (∀ x y : World, Below w9.heap.size w9 x → Below x.heap.size x y → (Below w9.heap.size w9 y ∧ y.cell? ⟨w.heap.size, 0, none⟩ = some (.slice a0_0 n0_0 c0_0) ∧ y.cell? ⟨w.heap.size, 1, none⟩ = some (.slice a0_1 n0_1 c0_1) ∧ y.cell? ⟨w.heap.size, 2, none⟩ = some (.slice a0_2 n0_2 c0_2) ∧ y.cell? ⟨w.heap.size, 3, none⟩ = some (.slice a0_3 n0_3 c0_3) ∧ y.cell? ⟨w5.heap.size, 0, none⟩ = some (.slice (some ⟨ga5_0, 0, none⟩) cL.length cL.length) ∧ y.cell? ⟨w5.heap.size, 1, none⟩ = some (.slice (some ⟨ga5_1, 0, none⟩) cF.length cF.length) ∧ y.cell? ⟨w5.heap.size, 2, none⟩ = some (.slice (some ⟨ga5_2, 0, none⟩) cG.length cG.length) ∧ y.cell? ⟨w5.heap.size, 3, none⟩ = some (.slice (some ⟨ga5_3, 0, none⟩) cR.length cR.length))) := by
      intro x y h1 h2
      have h3 := h1.trans (h2.mono h1.size)
      exact ⟨h3, hcells.out y h3⟩
    have hfrom := hcells.out w9 (Below.refl _ _)
    have hdr : Below w9.heap.size w9 w9.drew := Below.drew (Below.refl _ _)
    go_region_held3 (fun x => Below w9.heap.size w9 x ∧ x.cell? ⟨w.heap.size, 0, none⟩ = some (.slice a0_0 n0_0 c0_0) ∧ x.cell? ⟨w.heap.size, 1, none⟩ = some (.slice a0_1 n0_1 c0_1) ∧ x.cell? ⟨w.heap.size, 2, none⟩ = some (.slice a0_2 n0_2 c0_2) ∧ x.cell? ⟨w.heap.size, 3, none⟩ = some (.slice a0_3 n0_3 c0_3) ∧ x.cell? ⟨w5.heap.size, 0, none⟩ = some (.slice (some ⟨ga5_0, 0, none⟩) cL.length cL.length) ∧ x.cell? ⟨w5.heap.size, 1, none⟩ = some (.slice (some ⟨ga5_1, 0, none⟩) cF.length cF.length) ∧ x.cell? ⟨w5.heap.size, 2, none⟩ = some (.slice (some ⟨ga5_2, 0, none⟩) cG.length cG.length) ∧ x.cell? ⟨w5.heap.size, 3, none⟩ = some (.slice (some ⟨ga5_3, 0, none⟩) cR.length cR.length)) (first | assumption | go_keep)
      (first
        | (go_at_call 16; refine (toChange_any _ cL cF cG cR _ ?_ hm0_0 hm0_1 hm0_2 hm0_3).mono ?_; (exact (hsrc.out.below (by first | assumption | (apply And.left; assumption)) (Nat.le_refl _)).more (Below.size (by first | assumption | (apply And.left; assumption)))); rintro e wz ⟨uz, rfl, hrz, hbz⟩; have hkz := (fun h => hkeep.out _ _ h hbz) (by first | assumption | (apply And.left; assumption)); obtain ⟨gb0, gb1, gb2, gb3, hu⟩ := hrz.shape; subst hu; have HCz := Lib.hid hrz.cg; clear hrz)
        | (go_at_call 18; refine (eqChange_same _ _ cL cF cG cR _ ?_ ?_ hm0_0 hm0_1 hm0_2 hm0_3).mono ?_; (exact (hcop.out.below (by first | assumption | (apply And.left; assumption)) (Nat.le_refl _)).more (Below.size (by first | assumption | (apply And.left; assumption)))); (exact HCz.out); rintro e w10 ⟨rfl, hbz2⟩; have hk2 := (fun h => hkeep.out _ _ h hbz2) (by first | assumption | (apply And.left; assumption))))
    have hb10 : Below w9.heap.size w9 w10 := (by first | assumption | (apply And.left; assumption))
    clear hfrom hdr hkeep hcells hsrc hcop kc0_0 kc0_1 kc0_2 kc0_3 kx5_0 kx5_1 kx5_2 kx5_3
    go_wp2_with fail
    have s0_10 := s0_9.trans (hb10.mono s0_9.size)
    refine (toInt64S_any a1 n1 c1 ws w10 ((HS1'.out.below s0_10 (Nat.le_refl _)).more s0_10.size) hm1).mono ?_
    rintro e w11 ⟨g11, rfl, hg11, hr11, hb11⟩
    have H11 := Lib.hid (show SlI w11 w11.heap.size (some ⟨g11, 0, none⟩) n1 ws by have := hr11.sl; rw [iv_length, HS1'.out.len] at this; exact this)
    have N11 : Hid (RowN w11 g11 2 n1) := ⟨iv ws, by rw [iv_length]; exact HS1'.out.len, hr11⟩
    have gl11 := hr11.lt
    clear hr11
    go_wp2_with fail
    have s7_8 := hb8
    have s7_9 := s7_8.trans (hb9.mono s7_8.size)
    have s7_10 := s7_9.trans (hb10.mono s7_9.size)
    have s7_11 := s7_10.trans (hb11.mono s7_10.size)
    refine (eqInt64S_any _ n1 n1 ws _ n1 n1 ws w11 _ _ (H7.out.below s7_11 (Nat.le_refl _)) H11.out hm1 hm1).mono ?_
    rintro e w12 ⟨rfl, hb12⟩
    have hd12 : decide (ws = ws) = true := decide_eq_true rfl
    have s5_10 := s5_9.trans (hb10.mono s5_9.size)
    have s5_11 := s5_10.trans (hb11.mono s5_10.size)
    have s5_12 := s5_11.trans (hb12.mono s5_11.size)
    have M5 := Lib.hid (N5.out.below s5_12 (Nat.le_refl _))
    have s7_12 := s7_11.trans (hb12.mono s7_11.size)
    have M7 := Lib.hid (N7.out.below s7_12 gl7)
    have s8_9 := hb9
    have s8_10 := s8_9.trans (hb10.mono s8_9.size)
    have s8_11 := s8_10.trans (hb11.mono s8_10.size)
    have s8_12 := s8_11.trans (hb12.mono s8_11.size)
    have hRm := Lib.hid (hR8.out.keep s8_12 (Nat.le_refl _))
    have s6_10 := s6_9.trans (hb10.mono s6_9.size)
    have s6_11 := s6_10.trans (hb11.mono s6_10.size)
    have s6_12 := s6_11.trans (hb12.mono s6_11.size)
    have kx5_0 := (BXx5.out.below s6_12 BXx5.out.lt).cell 0
    have kx5_1 := (BXx5.out.below s6_12 BXx5.out.lt).cell 1
    have kx5_2 := (BXx5.out.below s6_12 BXx5.out.lt).cell 2
    have kx5_3 := (BXx5.out.below s6_12 BXx5.out.lt).cell 3
    go_wp2_with fail
    clear kx5_0 kx5_1 kx5_2 kx5_3
    refine (markChange_any _ cL cF cG cR w4.heap.size w5.heap.size (1) w12 M5.out hs0_0 hs0_1 hs0_2 hs0_3 (by omega) (by omega) (Nat.le_trans (Nat.le_trans (Nat.le_trans (Nat.le_trans (Nat.le_trans (Nat.le_trans hb6.size hb7.size) hb8.size) hb9.size) hb10.size) hb11.size) hb12.size)).mono ?_
    rintro e w13 ⟨rfl, hk13⟩
    have hkb13 := (hk13.below (Nat.le_trans (Nat.le_trans (Nat.le_trans (Nat.le_trans (Nat.le_trans (Nat.le_trans (Nat.le_trans hb5.size hb6.size) hb7.size) hb8.size) hb9.size) hb10.size) hb11.size) hb12.size)).mono (Nat.le_refl _)
    have M7 := Lib.hid (M7.out.kp hk13 (.inr (Nat.le_trans hb6.size hg7)))
    have hRm := Lib.hid (hRm.out.kp hk13 (Nat.le_trans hb6.size hb7.size))
    go_wp2_with fail
    refine (markInt64S_any g7 n1 n1 n1 (1 + (cL.length : Int) + (cF.length : Int) + (cG.length : Int) + (cR.length : Int)) w13 M7.out (Nat.le_refl _) hm1 (by omega) (by omega)).mono ?_
    rintro e w14 ⟨rfl, -, hbut14⟩
    have hk14 : Kp w6.heap.size w7.heap.size w13 w14 := hbut14.kp hg7 gl7
    have hkb14 := (hk14.below (Nat.le_trans (Nat.le_trans (Nat.le_trans (Nat.le_trans (Nat.le_trans (Nat.le_trans hb7.size hb8.size) hb9.size) hb10.size) hb11.size) hb12.size) hk13.2.2.2.1)).mono (Nat.le_trans hb5.size hb6.size)
    have hRm := Lib.hid (hRm.out.kp hk14 (Nat.le_refl _))
    have q1 : (0 : Int) ≤ 1 + (cL.length : Int) + (cF.length : Int) + (cG.length : Int) + (cR.length : Int) + (n1 : Int) := by omega
    have s4_9 := s4_8.trans (hb9.mono s4_8.size)
    have s4_10 := s4_9.trans (hb10.mono s4_9.size)
    have s4_11 := s4_10.trans (hb11.mono s4_10.size)
    have s4_12 := s4_11.trans (hb12.mono s4_11.size)
    have s4_13 := s4_12.trans (hkb13.mono (Nat.le_refl _))
    have s4_14 := s4_13.trans (hkb14.mono (Nat.le_refl _))
    go_wp2_with fail
    refine (eqOwn v_8 v_4 r _ _ w14 hRm.out (hR4.out.keep s4_14 (Nat.le_refl _)) hOL4).mono ?_
    rintro e w15 ⟨rfl, hb15⟩
    have hRm := Lib.hid (hRm.out.keep hb15 (Nat.le_refl _))
    have hszq : w7.heap.size ≤ w15.heap.size := (Nat.le_trans (Nat.le_trans (Nat.le_trans (Nat.le_trans (Nat.le_trans (Nat.le_trans (Nat.le_trans hb8.size hb9.size) hb10.size) hb11.size) hb12.size) hk13.2.2.2.1) hk14.2.2.2.1) hb15.size)
    go_wp2_with fail
    refine (markOwn w7.heap.size v_8 r 1 w15 hRm.out hszq hOL4 (by omega) (by omega)).mono ?_
    rintro e w16 ⟨rfl, hmk, hkb16⟩
    have HM := Lib.hid hmk; clear hmk
    have hkb16 := hkb16.mono (Nat.le_trans (Nat.le_trans hb5.size hb6.size) hb7.size)
    go_wp2_with fail
    refine (heldOwn v_8 r.length 1 w16 HM.out hOL4 (by omega) (by omega)).mono ?_
    rintro e wq ⟨rfl, hwq⟩
    obtain rfl := hwq
    have q2 : (0 : Int) ≤ 1 + (r.length : Int) := by omega
    have s0_11 := s0_10.trans (hb11.mono s0_10.size)
    have s0_12 := s0_11.trans (hb12.mono s0_11.size)
    have s0_13 := s0_12.trans (hkb13.mono s0_4.size)
    have s0_14 := s0_13.trans (hkb14.mono s0_4.size)
    have s0_15 := s0_14.trans (hb15.mono s0_14.size)
    have s0_16 := s0_15.trans (hkb16.mono s0_4.size)
    have kc0_0 := (BX0.out.below s0_16 BX0.out.lt).cell 0
    have kc0_1 := (BX0.out.below s0_16 BX0.out.lt).cell 1
    have kc0_2 := (BX0.out.below s0_16 BX0.out.lt).cell 2
    have kc0_3 := (BX0.out.below s0_16 BX0.out.lt).cell 3
    go_wp2_with fail
    clear kc0_0 kc0_1 kc0_2 kc0_3
    refine (toChange_any (.agg #[.slice a0_0 n0_0 c0_0, .slice a0_1 n0_1 c0_1, .slice a0_2 n0_2 c0_2, .slice a0_3 n0_3 c0_3]) cL cF cG cR w16 ((HS0'.out.below s0_16 (Nat.le_refl _)).more s0_16.size) hm0_0 hm0_1 hm0_2 hm0_3).mono ?_
    rintro e w17 ⟨u17, rfl, hr17, hb17⟩
    obtain ⟨ga17_0, ga17_1, ga17_2, ga17_3, hu⟩ := hr17.shape
    subst hu
    have H17 := Lib.hid hr17.cg
    have K17 := Lib.hid hr17.cgs
    have N17 := Lib.hid (hr17.cgm); clear hr17
    go_wp2_with fail
    have s0_17 := s0_16.trans (hb17.mono s0_16.size)
    refine (toInt64S_any a1 n1 c1 ws w17 ((HS1'.out.below s0_17 (Nat.le_refl _)).more s0_17.size) hm1).mono ?_
    rintro e w18 ⟨g18, rfl, hg18, hr18, hb18⟩
    have H18 := Lib.hid (show SlI w18 w18.heap.size (some ⟨g18, 0, none⟩) n1 ws by have := hr18.sl; rw [iv_length, HS1'.out.len] at this; exact this)
    have N18 : Hid (RowN w18 g18 2 n1) := ⟨iv ws, by rw [iv_length]; exact HS1'.out.len, hr18⟩
    have gl18 := hr18.lt
    clear hr18
    go_wp2_with fail
    have s17_18 := hb18
    refine (iFirst_any _ g18 0 n1 cL cF cG cR ws letters w18 ((K17.out.below s17_18 (Nat.le_refl _)).more s17_18.size) H18.out hm0_0 hm0_1 hm0_2 hm0_3 hm1).mono ?_
    rintro e w19 ⟨v_19, rfl, hv19, hb19⟩
    have hR19 := Lib.hid (out_row hv19); clear hv19
    rw [← HOK.out] at hR19 ⊢
    rw [← HRR.out] at hR19
    have s4_15 := s4_14.trans (hb15.mono s4_14.size)
    have s4_16 := s4_15.trans (hkb16.mono (Nat.le_refl _))
    have s4_17 := s4_16.trans (hb17.mono s4_16.size)
    have s4_18 := s4_17.trans (hb18.mono s4_17.size)
    have s4_19 := s4_18.trans (hb19.mono s4_18.size)
    go_wp2_with fail
    refine (eqOwn v_19 v_4 r _ _ w19 hR19.out (hR4.out.keep s4_19 (Nat.le_refl _)) hOL4).mono ?_
    rintro e w20 ⟨rfl, hb20⟩
    go_wp2_with fail
    have s16_17 := hb17
    have s16_18 := s16_17.trans (hb18.mono s16_17.size)
    have s16_19 := s16_18.trans (hb19.mono s16_18.size)
    have s16_20 := s16_19.trans (hb20.mono s16_19.size)
    refine (heldOwn v_8 r.length 1 w20 (HM.out.below s16_20 (Nat.le_refl _)) hOL4 (by omega) (by omega)).mono ?_
    rintro e wq ⟨rfl, hwq⟩
    obtain rfl := hwq
    go_wp2_with fail
    go_ret
    have s0_18 := s0_17.trans (hb18.mono s0_17.size)
    have s0_19 := s0_18.trans (hb19.mono s0_18.size)
    have s0_20 := s0_19.trans (hb20.mono s0_19.size)
    exact ⟨rfl, BXB.out.trans (s0_20.mono BXB.out.size)⟩
  · have ht1 : 1048576 < n1 := by omega
    clear hn1
    go_enter Try.func8, Try.ntmps8
    go_wp2_with fail
    go_ret
    exact ⟨rfl, (Below.refl _ _).alloc (Nat.le_refl _) _⟩
end Go.Proofs.Ytcmnhnapnnpbdaa.fnExactChangeFirst
