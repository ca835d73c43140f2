/- Several texts in one: The contracts as FnSmall's walk wants them. What FnSmall's walk wants besides: the word that tells two machines apart; lists of words made by hand; what LeastFit answers there. -/
import Derived.Test.YtbdfbmohdbigfaaSqM
import Derived.Test.YtbdfbmohdbigfaaMhh
import Derived.Test.YtbdfbmohdbigfaaLfK

namespace Go.Proofs.Ytbdfbmohdbigfaa
open Go.RowKit
set_option linter.unusedVariables false
set_option maxRecDepth 100000 in
set_option maxHeartbeats 4000000 in
theorem iSameP_any (S T : Nat) (A2 : Option Addr) (n2 c2 : Nat) (A3 : Option Addr) (n3 c3 : Nat) (B2 : Option Addr) (d2 : Nat) (B3 : Option Addr) (d3 : Nat) (P : List Int) (E : List Bool) (w : World) (h2 : SlI w w.heap.size A2 n2 P) (h3 : SlB w w.heap.size A3 n3 E) (g2 : SlI w w.heap.size B2 n2 P) (g3 : SlB w w.heap.size B3 n3 E) (hn2 : n2 ≤ 4294967296) (hn3 : n3 ≤ 4294967296) :
    Calls Try.prog 33 #[.agg #[.int .i64 (S : Int), .int .i64 (T : Int), .slice A2 n2 c2, .slice A3 n3 c3], .agg #[.int .i64 (S : Int), .int .i64 (T : Int), .slice B2 n2 d2, .slice B3 n3 d3]] w fun e w' => e = .returned (.bool true) ∧ Below w.heap.size w w' := by
  have ra := (Row.new w 33 (BxP (S : Int) (T : Int) A2 n2 c2 A3 n3 c3)).alloc (.cells (BxP (S : Int) (T : Int) B2 n2 d2 B3 n3 d3).toArray 33)
  have rb := Row.new (w.alloc (.cells (BxP (S : Int) (T : Int) A2 n2 c2 A3 n3 c3).toArray 33)) 33 (BxP (S : Int) (T : Int) B2 n2 d2 B3 n3 d3)
  rw [show (w.alloc (.cells (BxP (S : Int) (T : Int) A2 n2 c2 A3 n3 c3).toArray 33)).heap.size = w.heap.size + 1 by simp] at rb
  have bx : Below w.heap.size w ((w.alloc (.cells (BxP (S : Int) (T : Int) A2 n2 c2 A3 n3 c3).toArray 33)).alloc (.cells (BxP (S : Int) (T : Int) B2 n2 d2 B3 n3 d3).toArray 33)) := ((Below.refl _ _).alloc (Nat.le_refl _) _).alloc (by simp) _
  obtain ⟨x0, hx0⟩ : ∃ x, x = ((w.alloc (.cells (BxP (S : Int) (T : Int) A2 n2 c2 A3 n3 c3).toArray 33)).alloc (.cells (BxP (S : Int) (T : Int) B2 n2 d2 B3 n3 d3).toArray 33)) := ⟨_, rfl⟩
  rw [← hx0] at ra rb bx
  have C1 := iEqL_any A2 n2 c2 P B2 n2 d2 P x0 x0.heap.size x0.heap.size ((h2.below bx (Nat.le_refl _)).more bx.size) ((g2.below bx (Nat.le_refl _)).more bx.size) hn2 hn2
  rw [decide_eq_true rfl] at C1
  have C2 : Hid (∀ q, Calls Try.prog 93 #[.slice A3 n3 c3, .slice B3 n3 d3] (x0.drewN q) fun e w' => e = .returned (.bool true) ∧ ∃ d, w' = (x0.drewN q).drewN d) := fun q => iEqB_any A3 n3 c3 E B3 d3 (x0.drewN q) x0.heap.size x0.heap.size ((h3.below bx (Nat.le_refl _)).more bx.size) ((g3.below bx (Nat.le_refl _)).more bx.size) hn3
  have k0 := ra.cell 0; have k1 := ra.cell 1; have k2 := ra.cell 2; have k3 := ra.cell 3
  have q0 := rb.cell 0; have q1 := rb.cell 1; have q2 := rb.cell 2; have q3 := rb.cell 3
  have z1 : ((S : Int) == (S : Int)) = true := by simp
  have z2 : ((T : Int) == (T : Int)) = true := by simp
  have BX := Lib.hid bx
  have RA := Lib.hid ra; have RB := Lib.hid rb
  have HX0 : x0 = ((w.alloc (.cells #[.int .i64 (S : Int), .int .i64 (T : Int), .slice A2 n2 c2, .slice A3 n3 c3] 33)).alloc (.cells #[.int .i64 (S : Int), .int .i64 (T : Int), .slice B2 n2 d2, .slice B3 n3 d3] 33)) := hx0
  clear ra rb bx h2 h3 g2 g3 hx0 hn2 hn3
  go_enter Try.func33, Try.ntmps33
  go_upto_region 1 with fail
  rw [← HX0]
  clear HX0
  go_wp2_with fail
  refine C1.mono ?_
  rintro e w1 ⟨rfl, d, rfl⟩
  clear C1
  go_wp2_with fail
  refine (C2.out d).mono ?_
  rintro e w2 ⟨rfl, d', rfl⟩
  go_wp2_with fail
  go_ret
  exact ⟨rfl, below_draws BX.out _⟩
theorem FaPost.of {r : Option (List Int)} {w w2 w' : World} {e : Ending} (h : FaPost r w2 e w') (hb : Below w.heap.size w w2) : FaPost r w e w' := by
  obtain ⟨h1, h2⟩ := h
  refine ⟨hb.trans (h1.mono hb.size), ?_⟩
  cases r with
  | none => exact h2
  | some wd =>
    obtain ⟨A, c, e1, e2⟩ := h2
    exact ⟨A, c, e1, World.ownsRow.mono e2 hb.size⟩
set_option maxRecDepth 100000 in
set_option maxHeartbeats 4000000 in
theorem iApartW_any (S Sb T : Nat) (A2 : Option Addr) (n2 c2 : Nat) (A3 : Option Addr) (n3 c3 : Nat) (P : List Int) (E : List Bool) (B2 : Option Addr) (m2 d2 : Nat) (B3 : Option Addr) (m3 d3 : Nat) (Pb : List Int) (Eb : List Bool) (w : World) (ha : PlOk w S T A2 n2 A3 n3 P E) (hb : PlOk w Sb T B2 m2 B3 m3 Pb Eb) :
    Calls Try.prog 32 #[.agg #[.int .i64 (S : Int), .int .i64 (T : Int), .slice A2 n2 c2, .slice A3 n3 c3], .agg #[.int .i64 (Sb : Int), .int .i64 (T : Int), .slice B2 m2 d2, .slice B3 m3 d3]] w (FaPost (faAll (plX T P Pb) (plD E Eb) (0, 0) T) w) := by
  have ra := (Row.new w 33 (BxP (S : Int) (T : Int) A2 n2 c2 A3 n3 c3)).alloc (.cells (BxP (Sb : Int) (T : Int) B2 m2 d2 B3 m3 d3).toArray 33)
  have rb := Row.new (w.alloc (.cells (BxP (S : Int) (T : Int) A2 n2 c2 A3 n3 c3).toArray 33)) 33 (BxP (Sb : Int) (T : Int) B2 m2 d2 B3 m3 d3)
  rw [show (w.alloc (.cells (BxP (S : Int) (T : Int) A2 n2 c2 A3 n3 c3).toArray 33)).heap.size = w.heap.size + 1 by simp] at rb
  have bx : Below w.heap.size w ((w.alloc (.cells (BxP (S : Int) (T : Int) A2 n2 c2 A3 n3 c3).toArray 33)).alloc (.cells (BxP (Sb : Int) (T : Int) B2 m2 d2 B3 m3 d3).toArray 33)) := ((Below.refl _ _).alloc (Nat.le_refl _) _).alloc (by simp) _
  obtain ⟨x0, hx0⟩ : ∃ x, x = ((w.alloc (.cells (BxP (S : Int) (T : Int) A2 n2 c2 A3 n3 c3).toArray 33)).alloc (.cells (BxP (Sb : Int) (T : Int) B2 m2 d2 B3 m3 d3).toArray 33)) := ⟨_, rfl⟩
  rw [← hx0] at ra rb bx
  have V1 := Lib.hid ((ha.below bx (Nat.le_refl _)).valid c2 c3)
  have RA := Lib.hid ra; have RB := Lib.hid rb; have BX := Lib.hid bx; have HA := Lib.hid ha; have HB := Lib.hid hb
  have z2 : ((T : Int) == (T : Int)) = true := by simp
  have z3 : ((T : Int) != (T : Int)) = false := by simp
  obtain ⟨r, hr⟩ : ∃ x, x = faAll (plX T P Pb) (plD E Eb) (0, 0) T := ⟨_, rfl⟩
  rw [← hr]
  have HR := Lib.hid hr
  clear ra rb bx ha hb hr
  go_enter Try.func32, Try.ntmps32
  go_wp2_with fail
  change Calls _ _ _ ((w.alloc (.cells (BxP (S : Int) (T : Int) A2 n2 c2 A3 n3 c3).toArray 33)).alloc (.cells (BxP (Sb : Int) (T : Int) B2 m2 d2 B3 m3 d3).toArray 33)) _
  rw [← hx0]
  clear hx0
  refine V1.out.mono ?_
  rintro e w1 ⟨rfl, hb1⟩
  have RB1 := Lib.hid (RB.out.below hb1 RB.out.lt); have RA1 := Lib.hid (RA.out.below hb1 RA.out.lt)
  have HB1 := Lib.hid (BX.out.trans (hb1.mono BX.out.size))
  have V2 := Lib.hid ((HB.out.below HB1.out (Nat.le_refl _)).valid d2 d3)
  have q0 := RB1.out.cell 0; have q1 := RB1.out.cell 1; have q2 := RB1.out.cell 2; have q3 := RB1.out.cell 3
  clear hb1 V1
  go_wp2_with fail
  refine V2.out.mono ?_
  rintro e w2 ⟨rfl, hb2⟩
  have HB2 := Lib.hid (HB1.out.trans (hb2.mono HB1.out.size))
  have ra2 := RA1.out.below hb2 RA1.out.lt
  have rb2 := RB1.out.below hb2 RB1.out.lt
  have CF := Lib.hid (iFirstApart_any S Sb T A2 n2 c2 A3 n3 c3 P E B2 m2 d2 B3 m3 d3 Pb Eb w2 (HA.out.below HB2.out (Nat.le_refl _)) (HB.out.below HB2.out (Nat.le_refl _)))
  clear hb2 V2 q0 q1 q2 q3
  have k0 := ra2.cell 0; have k1 := ra2.cell 1; have k2 := ra2.cell 2; have k3 := ra2.cell 3
  have q0 := rb2.cell 0; have q1 := rb2.cell 1; have q2 := rb2.cell 2; have q3 := rb2.cell 3
  clear ra2 rb2
  go_wp2_with fail
  rw [← HR.out] at CF
  clear k0 k1 k2 k3 q0 q1 q2 q3
  refine CF.out.mono ?_
  intro e w3 hp
  have HP := Lib.hid (hp.of HB2.out)
  cases r with
  | none =>
    obtain ⟨-, rfl⟩ := hp
    go_wp2_with fail
    go_ret2
    exact HP.out
  | some wd =>
    obtain ⟨-, Aw, cw, rfl, -⟩ := hp
    go_wp2_with fail
    go_ret2
    exact HP.out
/-- What LeastPlain makes of a machine. -/
def LpOf (S T : Nat) (P : List Int) (E : List Bool) (N : Nat) (P' : List Int) (E' : List Bool) : Prop := exAll (lsN S T P E) (lsF S T P E) T = some N ∧ P' = (exA (lsN S T P E) (lsF S T P E) T N).2 ∧ E' = (exA (lsN S T P E) (lsF S T P E) T N).1.map (lsE S T P E)
theorem LpOf.res {S T : Nat} {P : List Int} {E : List Bool} {N : Nat} {P' : List Int} {E' : List Bool} (h : LpOf S T P E N P' E') (ht : TeO S T P E) : TeO N T P' E' ∧ N ≤ S ∧ ∀ w : List Nat, (∀ x ∈ w, x < T) → rdP T P' E' w = rdP T P E w := by
  obtain ⟨h1, rfl, rfl⟩ := h
  exact ls_res ht h1
theorem LpOf.same {S T S2 : Nat} {P P2 : List Int} {E E2 : List Bool} {N N2 : Nat} {P' P2' : List Int} {E' E2' : List Bool} (h : LpOf S T P E N P' E') (h' : LpOf S2 T P2 E2 N2 P2' E2') (ht : TeO S T P E) (ht' : TeO S2 T P2 E2) (hl : ∀ w : List Nat, (∀ x ∈ w, x < T) → rdP T P E w = rdP T P2 E2 w) : N2 = N ∧ P2' = P' ∧ E2' = E' := by
  obtain ⟨h1, rfl, rfl⟩ := h
  obtain ⟨h2, rfl, rfl⟩ := h'
  obtain ⟨e1, e2⟩ := ls_same ht ht' hl
  rw [e1, h2] at h1
  injection h1 with h1
  subst h1
  obtain ⟨e3, e4⟩ := e2 N2
  exact ⟨rfl, e3.symm, e4.symm⟩
theorem PlOk.teo {w : World} {S T : Nat} {A2 : Option Addr} {n2 : Nat} {A3 : Option Addr} {n3 : Nat} {P : List Int} {E : List Bool} (h : PlOk w S T A2 n2 A3 n3 P E) : TeO S T P E := ⟨h.hS, h.hT, by rw [h.h2.len, h.hn], h.hP, by rw [h.h3.len, h.hE]⟩
theorem fSmall {S T : Nat} {A2 : Option Addr} {n2 : Nat} (c2 : Nat) {A3 : Option Addr} {n3 : Nat} (c3 : Nat) {P : List Int} {E : List Bool} {x : World} (h : PlOk x S T A2 n2 A3 n3 P E) :
    Calls Try.prog 31 #[.agg #[.int .i64 (S : Int), .int .i64 (T : Int), .slice A2 n2 c2, .slice A3 n3 c3]] x fun e y => ∃ (N : Nat) (B2 : Option Addr) (d2 : Nat) (B3 : Option Addr) (d3 : Nat) (P' : List Int) (E' : List Bool), e = .returned (.tuple #[.agg #[.int .i64 (N : Int), .int .i64 (T : Int), .slice B2 P'.length d2, .slice B3 E'.length d3], .bool true]) ∧ PlOk y N T B2 P'.length B3 E'.length P' E' ∧ LpOf S T P E N P' E' ∧ Below x.heap.size x y := by
  have ht := h.teo
  obtain ⟨N, hN, -⟩ := ls_is ht
  refine (iLeastP_any S T A2 n2 c2 A3 n3 c3 P E x h ht N hN).mono ?_
  rintro e y ⟨v, rfl, hw, hb⟩
  have hl : LpOf S T P E N (exA (lsN S T P E) (lsF S T P E) T N).2 ((exA (lsN S T P E) (lsF S T P E) T N).1.map (lsE S T P E)) := ⟨hN, rfl, rfl⟩
  obtain ⟨hte, -, -⟩ := hl.res ht
  obtain ⟨B2, d2, B3, d3, rfl, hok⟩ := plw_ok hw hte.hS hte.hT hte.hl hte.hP hte.hE
  exact ⟨N, B2, d2, B3, d3, _, _, rfl, hok, hl, hb⟩
theorem fLearnS {S T : Nat} {A2 : Option Addr} {n2 : Nat} (c2 : Nat) {A3 : Option Addr} {n3 : Nat} (c3 : Nat) {P : List Int} {E : List Bool} {x : World} (h : PlOk x S T A2 n2 A3 n3 P E) (h6 : S ≤ 6) {N : Nat} {P1 : List Int} {E1 : List Bool} (hN : LpOf S T P E N P1 E1) :
    Calls Try.prog 30 #[.agg #[.int .i64 (S : Int), .int .i64 (T : Int), .slice A2 n2 c2, .slice A3 n3 c3]] x fun e y => ∃ (M gs : Nat) (B2 : Option Addr) (d2 : Nat) (B3 : Option Addr) (d3 : Nat) (P' : List Int) (E' : List Bool), e = .returned (.tuple #[.agg #[.int .i64 (M : Int), .int .i64 (T : Int), .slice B2 P'.length d2, .slice B3 E'.length d3], .int .i64 (gs : Int), .bool true]) ∧ PlOk y M T B2 P'.length B3 E'.length P' E' ∧ M ≤ N ∧ 1 ≤ gs ∧ gs ≤ M ∧ (∀ w : List Nat, (∀ x ∈ w, x < T) → rdP T P' E' w = rdP T P E w) ∧ Below x.heap.size x y := by
  have ht := h.teo
  obtain ⟨r, hr⟩ := lnE_is ht 65 [[]] [[]] 1 (WdO.start T P E) (List.mem_singleton.2 rfl) (by omega)
  have hg := gs_ok ht (WdO.start T P E)
  obtain ⟨t1, t2, t3, t4, t5, t6⟩ := ln_small ht h6 hN.1 65 [[]] [[]] 1 (WdO.start T P E) (List.mem_singleton.2 rfl) (fun q hq y hy => by rw [List.mem_singleton.1 hq] at hy; cases hy) (Nat.le_refl _) hg.hS.1 hr
  refine (iLearn_yes S T A2 n2 c2 A3 n3 c3 P E r x ht h.h2 h.h3 hr).mono ?_
  rintro e y ⟨v, rfl, hw, hb⟩
  obtain ⟨B2, d2, B3, d3, rfl, hok⟩ := plw_ok hw t1.hS t1.hT t1.hl t1.hP t1.hE
  exact ⟨r.2.1.length, r.2.2, B2, d2, B3, d3, r.1, r.2.1, rfl, hok, t2, t3, t4, fun w hw' => (t6 w hw').symm, hb⟩
end Go.Proofs.Ytbdfbmohdbigfaa


namespace Go.Proofs.Ytbdfbmohdbigfaa
open Go.RowKit
set_option linter.unusedVariables false
section
variable {S Sb T : Nat} {P Pb : List Int} {E Eb : List Bool}
theorem fa_law2 (h : TeO S T P E) (h' : TeO Sb T Pb Eb) : match faAll (plX T P Pb) (plD E Eb) (0, 0) T with
    | none => ∀ ys : List Nat, (∀ y ∈ ys, y < T) → ys.length ≤ 12 → rdP T P E ys = rdP T Pb Eb ys
    | some wd => ∃ xf : List Nat, natW xf = wd ∧ (∀ x ∈ xf, x < T) ∧ wd.length ≤ 12 ∧ rdP T P E xf ≠ rdP T Pb Eb xf ∧ ∀ ys : List Nat, (∀ y ∈ ys, y < T) → ys.length ≤ 12 → rdP T P E ys ≠ rdP T Pb Eb ys → wd.length ≤ ys.length := by
  have hl := faAll_law (nx := plX T P Pb) (df := plD E Eb) (T := T) (Sa := S) (Sb := Sb) h.hS.2 h'.hS.2 ⟨by have := h.hS; omega, by have := h'.hS; omega⟩ (fun p j h1 h2 h3 => ⟨(plT_bd rfl h.hl h.hP h1 h3).2, (plT_bd rfl h'.hl h'.hP h2 h3).2⟩)
  have key : ∀ ys : List Nat, plD E Eb (ys.foldl (plX T P Pb) (0, 0)) = (rdP T P E ys != rdP T Pb Eb ys) := fun ys => by rw [plX_fold]; rfl
  cases hf : faAll (plX T P Pb) (plD E Eb) (0, 0) T with
  | none =>
    rw [hf] at hl
    intro ys hy h12
    have := hl ys hy h12
    rw [key] at this
    revert this
    cases rdP T P E ys <;> cases rdP T Pb Eb ys <;> simp
  | some wd =>
    rw [hf] at hl
    obtain ⟨h1, ⟨xs, h2, h3, h4⟩, h5⟩ := hl
    refine ⟨xs, h2.symm, h3, h1, ?_, fun ys hy h12 hne => h5 ys hy h12 ?_⟩
    · rw [key] at h4
      intro e
      rw [e] at h4; simp at h4
    · rw [key]
      revert hne
      cases rdP T P E ys <;> cases rdP T Pb Eb ys <;> simp
theorem fApart {A2 : Option Addr} {n2 : Nat} (c2 : Nat) {A3 : Option Addr} {n3 : Nat} (c3 : Nat) {B2 : Option Addr} {m2 : Nat} (d2 : Nat) {B3 : Option Addr} {m3 : Nat} (d3 : Nat) {w : World} (ha : PlOk w S T A2 n2 A3 n3 P E) (hb : PlOk w Sb T B2 m2 B3 m3 Pb Eb) :
    Calls Try.prog 32 #[.agg #[.int .i64 (S : Int), .int .i64 (T : Int), .slice A2 n2 c2, .slice A3 n3 c3], .agg #[.int .i64 (Sb : Int), .int .i64 (T : Int), .slice B2 m2 d2, .slice B3 m3 d3]] w fun e w' => ∃ (A : Option Addr) (n c : Nat) (b : Bool), e = .returned (.tuple #[.slice A n c, .bool b]) ∧ (b = false → ∀ ys : List Nat, (∀ y ∈ ys, y < T) → ys.length ≤ 12 → rdP T P E ys = rdP T Pb Eb ys)
      ∧ (b = true → ∃ xf : List Nat, xf.length = n ∧ (∀ x ∈ xf, x < T) ∧ n ≤ 12 ∧ SlI w' w'.heap.size A n (natW xf) ∧ rdP T P E xf ≠ rdP T Pb Eb xf ∧ ∀ ys : List Nat, (∀ y ∈ ys, y < T) → ys.length ≤ 12 → rdP T P E ys ≠ rdP T Pb Eb ys → n ≤ ys.length) ∧ Below w.heap.size w w' := by
  have hl := fa_law2 ha.teo hb.teo
  have C := iApartW_any S Sb T A2 n2 c2 A3 n3 c3 P E B2 m2 d2 B3 m3 d3 Pb Eb w ha hb
  cases hf : faAll (plX T P Pb) (plD E Eb) (0, 0) T with
  | none =>
    rw [hf] at hl C
    refine C.mono ?_
    rintro e w' ⟨h1, rfl⟩
    exact ⟨_, _, _, _, rfl, fun _ => hl, (fun h => by cases h), h1⟩
  | some wd =>
    rw [hf] at hl C
    obtain ⟨xf, rfl, h2, h3, h4, h5⟩ := hl
    rw [natW_len] at h3
    refine C.mono ?_
    rintro e w' ⟨h1, A, c, rfl, hr⟩
    have hs := RowI.sl hr rfl
    rw [natW_len] at hs ⊢
    exact ⟨_, _, _, _, rfl, (fun h => by cases h), fun _ => ⟨xf, rfl, h2, h3, hs, h4, fun ys q1 q2 q3 => by have := h5 ys q1 q2 q3; rwa [natW_len] at this⟩, h1⟩
/-- Two machines that read the same words: no word is found. -/
theorem fApartNo {A2 : Option Addr} {n2 : Nat} (c2 : Nat) {A3 : Option Addr} {n3 : Nat} (c3 : Nat) {B2 : Option Addr} {m2 : Nat} (d2 : Nat) {B3 : Option Addr} {m3 : Nat} (d3 : Nat) {w : World} (ha : PlOk w S T A2 n2 A3 n3 P E) (hb : PlOk w Sb T B2 m2 B3 m3 Pb Eb) (hs : ∀ ys : List Nat, (∀ y ∈ ys, y < T) → rdP T Pb Eb ys = rdP T P E ys) :
    Calls Try.prog 32 #[.agg #[.int .i64 (S : Int), .int .i64 (T : Int), .slice A2 n2 c2, .slice A3 n3 c3], .agg #[.int .i64 (Sb : Int), .int .i64 (T : Int), .slice B2 m2 d2, .slice B3 m3 d3]] w fun e w' => e = .returned (.tuple #[.slice none 0 0, .bool false]) ∧ Below w.heap.size w w' := by
  have hl := fa_law2 ha.teo hb.teo
  have C := iApartW_any S Sb T A2 n2 c2 A3 n3 c3 P E B2 m2 d2 B3 m3 d3 Pb Eb w ha hb
  cases hf : faAll (plX T P Pb) (plD E Eb) (0, 0) T with
  | none =>
    rw [hf] at C
    refine C.mono ?_
    rintro e w' ⟨h1, rfl⟩
    exact ⟨rfl, h1⟩
  | some wd =>
    rw [hf] at hl
    obtain ⟨xf, -, h2, -, h4, -⟩ := hl
    exact absurd (hs xf h2).symm h4
end
/-- A list of words in block g, each word in a block of its own. -/
structure Wl (w : World) (lo g c : Nat) (hs : List Value) (R : List (List Int)) : Prop where
  own : w.ownsRow lo 26 1 (.slice (some ⟨g, 0, none⟩) R.length c) R.length hs
  wd : ∀ (j : Nat) (r : List Int), R[j]? = some r → ∃ b c', hs[j]? = some (.slice (some ⟨b, 0, none⟩) r.length c') ∧ SlI w w.heap.size (some ⟨b, 0, none⟩) r.length r ∧ r.length ≤ 5 ∧ b ≠ g ∧ b < w.heap.size ∧ lo ≤ b
section
variable {w w' : World} {lo g c : Nat} {hs : List Value} {R : List (List Int)}
theorem Wl.below {B : Nat} (h : Wl w lo g c hs R) (hb : Below B w w') (hB : w.heap.size ≤ B) : Wl w' lo g c hs R :=
  ⟨own_move h.own (fun k hk => hb.block k (Nat.lt_of_lt_of_le (h.own.lt k hk).2 hB)), fun j r hr => by
    obtain ⟨b, c', e1, e2, e3, e4, e5, e6⟩ := h.wd j r hr
    exact ⟨b, c', e1, (e2.below hb hB).more hb.size, e3, e4, Nat.lt_of_lt_of_le e5 hb.size, e6⟩⟩
theorem Wl.sll (h : Wl w lo g c hs R) : SlL w w.heap.size (some ⟨g, 0, none⟩) R.length R := by
  refine ⟨hs, own_sl h.own, by have := h.own.1; omega, fun j r hr => ?_⟩
  obtain ⟨b, c', e1, e2, e3, e4, e5⟩ := h.wd j r hr
  exact ⟨some ⟨b, 0, none⟩, c', e1, e2, by unfold maxLen; omega⟩
theorem Wl.at_ (h : Wl w lo g c hs R) {j : Nat} {r : List Int} (hr : R[j]? = some r) : ∃ b c', w.cell? ⟨g, j, none⟩ = some (.slice (some ⟨b, 0, none⟩) r.length c') ∧ SlI w w.heap.size (some ⟨b, 0, none⟩) r.length r ∧ r.length ≤ 5 := by
  obtain ⟨b, c', e1, e2, e3, -⟩ := h.wd j r hr
  exact ⟨b, c', own_cellU h.own e1, e2, e3⟩
theorem Wl.push (h : Wl w lo g c hs R) {g' c' b d : Nat} {r : List Int} (ho : w'.ownsRow lo 26 1 (.slice (some ⟨g', 0, none⟩) (R.length + 1) c') (R.length + 1) (hs ++ [.slice (some ⟨b, 0, none⟩) r.length d])) (hg : w.grownBy w' (some g)) (hq : g' = g ∨ w.heap.size ≤ g') (h2 : SlI w w.heap.size (some ⟨b, 0, none⟩) r.length r) (hr5 : r.length ≤ 5) (hb : b ≠ g) (hbl : b < w.heap.size) (hlo : lo ≤ b) : Wl w' lo g' c' (hs ++ [.slice (some ⟨b, 0, none⟩) r.length d]) (R ++ [r]) := by
  have hl : hs.length = R.length := by have := h.own.1; omega
  have keep : ∀ (x : Nat) (s : List Int), SlI w w.heap.size (some ⟨x, 0, none⟩) s.length s → x ≠ g → x < w.heap.size → SlI w' w'.heap.size (some ⟨x, 0, none⟩) s.length s := fun x s hx hn hlt =>
    slI_keep hx hg.size (fun b' o' e _ => by
      injection e with e
      injection e with e1 _ _
      rw [← e1]
      exact hg.block x hlt (fun e2 => hn (Option.some.inj e2)))
  have hsz := hg.size
  refine ⟨by rw [List.length_append]; exact ho, fun j s hs' => ?_⟩
  rcases get_snoc hs' with hs' | ⟨hj, rfl⟩
  · obtain ⟨x, c'', e1, e2, e3, e4, e5, e6⟩ := h.wd j s hs'
    have hjl := (List.getElem?_eq_some_iff.1 hs').1
    exact ⟨x, c'', by rw [List.getElem?_append_left (by omega)]; exact e1, keep x s e2 e4 e5, e3, by rcases hq with q | q <;> omega, by omega, e6⟩
  · exact ⟨b, d, by rw [hj, List.getElem?_append_right (by omega), hl, Nat.sub_self]; rfl, keep b s h2 hb hbl, hr5, by rcases hq with q | q <;> omega, by omega, hlo⟩
/-- Another row is appended to. -/
theorem Wl.grown (h : Wl w lo g c hs R) {q : Nat} (hg : w.grownBy w' (some q)) (hq : q < lo) : Wl w' lo g c hs R := by
  have hgl := h.own.lt g rfl
  refine ⟨own_move h.own (fun k hk => hg.block k (h.own.lt k hk).2 (fun e => by have := (h.own.lt k hk).1; have := Option.some.inj e; omega)), fun j r hr => ?_⟩
  obtain ⟨b, c', e1, e2, e3, e4, e5, e6⟩ := h.wd j r hr
  exact ⟨b, c', e1, slI_keep e2 hg.size (fun b' o' e _ => by
    injection e with e
    injection e with q1 _ _
    rw [← q1]
    exact hg.block b e5 (fun e => by have := Option.some.inj e; omega)), e3, e4, Nat.lt_of_lt_of_le e5 hg.size, e6⟩
/-- Two words put into a list. -/
theorem Wl.two (x : World) (u v : List Int) (hu : u.length ≤ 5) (hv : v.length ≤ 5) : Wl (((x.alloc (.cells (iv u).toArray 2)).alloc (.cells (iv v).toArray 2)).alloc (.cells ([.slice (some ⟨x.heap.size, 0, none⟩) u.length u.length, .slice (some ⟨x.heap.size + 1, 0, none⟩) v.length v.length] : List Value).toArray 26)) x.heap.size (x.heap.size + 1 + 1) 2 [.slice (some ⟨x.heap.size, 0, none⟩) u.length u.length, .slice (some ⟨x.heap.size + 1, 0, none⟩) v.length v.length] [u, v] := by
  have s1 : (x.alloc (.cells (iv u).toArray 2)).heap.size = x.heap.size + 1 := by simp
  have s2 : ((x.alloc (.cells (iv u).toArray 2)).alloc (.cells (iv v).toArray 2)).heap.size = x.heap.size + 1 + 1 := by simp
  have r1 := ((Row.new x 2 (iv u)).alloc (.cells (iv v).toArray 2)).alloc (.cells ([.slice (some ⟨x.heap.size, 0, none⟩) u.length u.length, .slice (some ⟨x.heap.size + 1, 0, none⟩) v.length v.length] : List Value).toArray 26)
  have r2 := (Row.new (x.alloc (.cells (iv u).toArray 2)) 2 (iv v)).alloc (.cells ([.slice (some ⟨x.heap.size, 0, none⟩) u.length u.length, .slice (some ⟨x.heap.size + 1, 0, none⟩) v.length v.length] : List Value).toArray 26)
  have r3 := Row.new ((x.alloc (.cells (iv u).toArray 2)).alloc (.cells (iv v).toArray 2)) 26 [.slice (some ⟨x.heap.size, 0, none⟩) u.length u.length, .slice (some ⟨x.heap.size + 1, 0, none⟩) v.length v.length]
  rw [s1] at r2
  rw [s2] at r3
  have l1 := r1.lt; have l2 := r2.lt
  have q1 : RowI (((x.alloc (.cells (iv u).toArray 2)).alloc (.cells (iv v).toArray 2)).alloc (.cells ([.slice (some ⟨x.heap.size, 0, none⟩) u.length u.length, .slice (some ⟨x.heap.size + 1, 0, none⟩) v.length v.length] : List Value).toArray 26)) x.heap.size 2 (.slice (some ⟨x.heap.size, 0, none⟩) u.length u.length) u := own_rowX r1 (Nat.le_refl _) (by rw [iv_length]) (by unfold maxLen; omega)
  have q2 : RowI (((x.alloc (.cells (iv u).toArray 2)).alloc (.cells (iv v).toArray 2)).alloc (.cells ([.slice (some ⟨x.heap.size, 0, none⟩) u.length u.length, .slice (some ⟨x.heap.size + 1, 0, none⟩) v.length v.length] : List Value).toArray 26)) x.heap.size 2 (.slice (some ⟨x.heap.size + 1, 0, none⟩) v.length v.length) v := own_rowX r2 (by omega) (by rw [iv_length]) (by unfold maxLen; omega)
  have o1 := RowI.sl q1 rfl
  have o2 := RowI.sl q2 rfl
  refine ⟨own_rowX r3 (by omega) rfl (by unfold maxLen; simp), fun j r hr => ?_⟩
  have hj : j < 2 := (List.getElem?_eq_some_iff.1 hr).1
  have hj2 : j = 0 ∨ j = 1 := by omega
  rcases hj2 with rfl | rfl
  · obtain rfl : u = r := by simpa using hr
    exact ⟨x.heap.size, u.length, rfl, o1, hu, by omega, l1, Nat.le_refl _⟩
  · obtain rfl : v = r := by simpa using hr
    exact ⟨x.heap.size + 1, v.length, rfl, o2, hv, by omega, l2, by omega⟩
end
theorem SlL.one (x : World) (u : List Int) (hu : u.length ≤ 5) : SlL ((x.alloc (.cells (iv u).toArray 2)).alloc (.cells ([.slice (some ⟨x.heap.size, 0, none⟩) u.length u.length] : List Value).toArray 26)) ((x.alloc (.cells (iv u).toArray 2)).alloc (.cells ([.slice (some ⟨x.heap.size, 0, none⟩) u.length u.length] : List Value).toArray 26)).heap.size (some ⟨x.heap.size + 1, 0, none⟩) 1 [u] := by
  have s1 : (x.alloc (.cells (iv u).toArray 2)).heap.size = x.heap.size + 1 := by simp
  have r1 := (Row.new x 2 (iv u)).alloc (.cells ([.slice (some ⟨x.heap.size, 0, none⟩) u.length u.length] : List Value).toArray 26)
  have r2 := Row.new (x.alloc (.cells (iv u).toArray 2)) 26 [.slice (some ⟨x.heap.size, 0, none⟩) u.length u.length]
  rw [s1] at r2
  have q1 : RowI ((x.alloc (.cells (iv u).toArray 2)).alloc (.cells ([.slice (some ⟨x.heap.size, 0, none⟩) u.length u.length] : List Value).toArray 26)) x.heap.size 2 (.slice (some ⟨x.heap.size, 0, none⟩) u.length u.length) u := own_rowX r1 (Nat.le_refl _) (by rw [iv_length]) (by unfold maxLen; omega)
  have o2 := own_rowX (base := x.heap.size) (n := 1) r2 (by omega) rfl (by unfold maxLen; simp)
  refine ⟨_, own_sl o2, rfl, fun j r hr => ?_⟩
  have hj : j = 0 := by have := (List.getElem?_eq_some_iff.1 hr).1; simp at this; exact this
  subst hj
  obtain rfl : u = r := by simpa using hr
  exact ⟨some ⟨x.heap.size, 0, none⟩, u.length, rfl, RowI.sl q1 rfl, by unfold maxLen; omega⟩
/-- The samples of the law. -/
def gdL (b : Bool) : List (List Int) := if b then [[0], [0, 0, 0], [0, 0, 0, 0, 0]] else [[0], [0, 0, 0]]
def bdL : List (List Int) := [[], [0, 0]]
theorem lf_law (T : Nat) (b : Bool) (hT : T = 1 ∨ T = 2) : ∃ N, lfRes (T : Int) (gdL b) bdL = some (2, N) ∧ TeO 2 T (tb 2 (2 * T) N) (frcW (lfF T 2 N) 2 (gdL b)) ∧ (∀ g ∈ gdL b, rdP T (tb 2 (2 * T) N) (frcW (lfF T 2 N) 2 (gdL b)) (g.map Int.toNat) = true) ∧ ∀ g ∈ bdL, rdP T (tb 2 (2 * T) N) (frcW (lfF T 2 N) 2 (gdL b)) (g.map Int.toNat) = false := by
  rcases hT with rfl | rfl <;> cases b
  · exact ⟨2, by decide +kernel, ⟨by decide, by decide, by decide, by decide, by decide⟩, by decide, by decide⟩
  · exact ⟨2, by decide +kernel, ⟨by decide, by decide, by decide, by decide, by decide⟩, by decide, by decide⟩
  · exact ⟨8, by decide +kernel, ⟨by decide, by decide, by decide, by decide, by decide⟩, by decide, by decide⟩
  · exact ⟨8, by decide +kernel, ⟨by decide, by decide, by decide, by decide, by decide⟩, by decide, by decide⟩
theorem lf_no : lfRes 1 [[0]] [[0]] = none := by decide +kernel
theorem gd_get {b : Bool} {g : List Int} (h : g ∈ gdL b ∨ g ∈ bdL) : g.length ≤ 5 ∧ natW (g.map Int.toNat) = g ∧ ∀ y ∈ g.map Int.toNat, y < 1 := by
  have key : ∀ g ∈ ([[0], [0, 0, 0], [0, 0, 0, 0, 0], [], [0, 0]] : List (List Int)), g.length ≤ 5 ∧ natW (g.map Int.toNat) = g ∧ ∀ y ∈ g.map Int.toNat, y < 1 := by decide
  refine key g ?_
  rcases h with h | h
  · cases b
    · simp [gdL] at h
      rcases h with rfl | rfl <;> simp
    · simp [gdL] at h
      rcases h with rfl | rfl | rfl <;> simp
  · simp [bdL] at h
    rcases h with rfl | rfl <;> simp
theorem fFit {T : Nat} {b : Bool} {g c g' c' lo lo' : Nat} {hs hs' : List Value} {x : World} (hT : T = 1 ∨ T = 2) (h : Wl x lo g c hs (gdL b)) (h' : Wl x lo' g' c' hs' bdL) :
    Calls Try.prog 34 #[.int .i64 (T : Int), .slice (some ⟨g, 0, none⟩) (gdL b).length c, .slice (some ⟨g', 0, none⟩) bdL.length c'] x fun e y => ∃ (B2 : Option Addr) (d2 : Nat) (B3 : Option Addr) (d3 : Nat) (P' : List Int) (E' : List Bool), e = .returned (.tuple #[.agg #[.int .i64 2, .int .i64 (T : Int), .slice B2 P'.length d2, .slice B3 E'.length d3], .bool true]) ∧ PlOk y 2 T B2 P'.length B3 E'.length P' E' ∧ (∀ g ∈ gdL b, rdP T P' E' (g.map Int.toNat) = true) ∧ (∀ g ∈ bdL, rdP T P' E' (g.map Int.toNat) = false) ∧ Below x.heap.size x y := by
  obtain ⟨N, hN, hte, hg, hb⟩ := lf_law T b hT
  have l1 : (gdL b).length ≤ 3 := by cases b <;> decide
  refine (iLeast_any (T : Int) (some ⟨g, 0, none⟩) (gdL b).length c (gdL b) (some ⟨g', 0, none⟩) bdL.length c' bdL x h.sll h'.sll (by omega) (by decide) (fun r hr => by have := (gd_get (b := b) (.inl hr)).1; omega) (fun r hr => by have := (gd_get (b := b) (.inr hr)).1; omega)).mono ?_
  rintro e y ⟨v, rfl, hw, hbl⟩
  unfold LfO at hw
  rw [hN] at hw ⊢
  have hw' : PlW y x.heap.size v ((2 : Nat) : Int) (T : Int) (tb 2 (2 * T) N) (frcW (lfF T 2 N) 2 (gdL b)) := hw
  obtain ⟨B2, d2, B3, d3, rfl, hok⟩ := plw_ok hw' hte.hS hte.hT hte.hl hte.hP hte.hE
  exact ⟨B2, d2, B3, d3, _, _, rfl, hok, hg, hb, hbl⟩
theorem fFitNo {A A' : Option Addr} {c c' : Nat} {x : World} (h : SlL x x.heap.size A 1 [[0]]) (h' : SlL x x.heap.size A' 1 [[0]]) :
    Calls Try.prog 34 #[.int .i64 1, .slice A 1 c, .slice A' 1 c'] x fun e y => ∃ (B2 : Option Addr) (m2 d2 : Nat) (B3 : Option Addr) (m3 d3 : Nat), e = .returned (.tuple #[.agg #[.int .i64 0, .int .i64 0, .slice B2 m2 d2, .slice B3 m3 d3], .bool false]) ∧ Below x.heap.size x y := by
  refine (iLeast_any 1 A 1 c [[0]] A' 1 c' [[0]] x h h' (by omega) (by omega) (fun r hr => by rw [List.mem_singleton.1 hr]; decide) (fun r hr => by rw [List.mem_singleton.1 hr]; decide)).mono ?_
  rintro e y ⟨v, rfl, hw, hb⟩
  unfold LfO at hw
  rw [lf_no] at hw ⊢
  have hw' : PlW y x.heap.size v 0 0 [] [] := hw
  obtain ⟨A2, n2, c2, A3, n3, c3, rfl, -, -⟩ := PlO.cg hw'
  exact ⟨_, _, _, _, _, _, rfl, hb⟩
end Go.Proofs.Ytbdfbmohdbigfaa
