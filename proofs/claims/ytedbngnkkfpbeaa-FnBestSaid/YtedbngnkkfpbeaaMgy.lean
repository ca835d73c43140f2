/- Several texts in one: BestWords of the reference: worlds that turned two rows alone; one more word in both rows; two neighbours changed about. BestWords of the program: what is no input, and both in one. CostOf of the reference, whole; both contracts as the law's walk wants them. -/
import Derived.Test.YtedbngnkkfpbeaaMgx
import Derived.Test.YtedbngnkkfpbeaaBsI
import Derived.Test.YtedbngnkkfpbeaaMgl

namespace Go.Proofs.Ytedbngnkkfpbeaa
open Go.RowKit
set_option linter.unusedVariables false
/-- All blocks but two are as they were. -/
def Lo2 (g1 g2 : Nat) (x y : World) : Prop := y.os = x.os ∧ y.tape = x.tape ∧ y.output = x.output ∧ x.heap.size ≤ y.heap.size ∧ ∀ k, k < x.heap.size → k ≠ g1 → k ≠ g2 → y.heap[k]? = x.heap[k]?
section
variable {x y z w : World} {g1 g2 g1' g2' : Nat}
theorem Lo2.refl (g1 g2 : Nat) (x : World) : Lo2 g1 g2 x x := ⟨rfl, rfl, rfl, Nat.le_refl _, fun _ _ _ _ => rfl⟩
theorem Lo2.size (h : Lo2 g1 g2 x y) : x.heap.size ≤ y.heap.size := h.2.2.2.1
theorem Lo2.block (h : Lo2 g1 g2 x y) {k : Nat} (a : k < x.heap.size) (b : k ≠ g1) (c : k ≠ g2) : y.heap[k]? = x.heap[k]? := h.2.2.2.2 k a b c
theorem Lo2.trans (h : Lo2 g1 g2 x y) (h' : Lo2 g1' g2' y z) (e1 : g1' = g1 ∨ x.heap.size ≤ g1') (e2 : g2' = g2 ∨ x.heap.size ≤ g2') : Lo2 g1 g2 x z :=
  ⟨h'.1.trans h.1, h'.2.1.trans h.2.1, h'.2.2.1.trans h.2.2.1, Nat.le_trans h.size h'.size, fun k a b c => (h'.block (by have := h.size; omega) (by omega) (by omega)).trans (h.block a b c)⟩
theorem Lo2.below (g1 g2 : Nat) (h : Below x.heap.size x y) : Lo2 g1 g2 x y := ⟨h.os, h.tape, h.output, h.size, fun k a _ _ => h.block k a⟩
theorem Lo2.drewN (g1 g2 : Nat) (x : World) (q : Nat) : Lo2 g1 g2 x (x.drewN q) := ⟨rfl, rfl, rfl, Nat.le_refl _, fun _ _ _ _ => rfl⟩
theorem Lo2.bel {B : Nat} (h : Lo2 g1 g2 x y) (h1 : B ≤ g1) (h2 : B ≤ g2) (h3 : B ≤ x.heap.size) : Below B x y := ⟨h.1, h.2.1, h.2.2.1, h.2.2.2.1, fun k hk => h.2.2.2.2 k (by omega) (by omega) (by omega)⟩
theorem Lo2.grow1 {b : Option Nat} (h : x.grownBy y b) (hb : b = some g1) : Lo2 g1 g2 x y := ⟨h.os, h.tape, h.output, h.size, fun k a c _ => h.block k a (fun e => by rw [hb] at e; injection e with e; exact c e)⟩
theorem Lo2.grow2 {b : Option Nat} (h : x.grownBy y b) (hb : b = some g2) : Lo2 g1 g2 x y := ⟨h.os, h.tape, h.output, h.size, fun k a _ c => h.block k a (fun e => by rw [hb] at e; injection e with e; exact c e)⟩
theorem Lo2.set4 (g1 g2 : Nat) (x : World) (a b c d : Nat) (u0 u1 u2 u3 : Value) : Lo2 g1 g2 x ((((x.setCell ⟨g2, a, none⟩ u0).setCell ⟨g2, b, none⟩ u1).setCell ⟨g1, c, none⟩ u2).setCell ⟨g1, d, none⟩ u3) :=
  ⟨rfl, rfl, rfl, by simp [World.setCell], fun k _ h1 h2 => (((Below.heap_setCell _ ⟨g1, d, none⟩ _ _ h1).trans (Below.heap_setCell _ ⟨g1, c, none⟩ _ _ h1)).trans (Below.heap_setCell _ ⟨g2, b, none⟩ _ _ h2)).trans (Below.heap_setCell _ ⟨g2, a, none⟩ _ _ h2)⟩
end
/-- A table that neither block lies in. -/
theorem TabI.lo2 {w w' : World} {base g1 g2 : Nat} {TT : TypeId} {v : Value} {rows : List (List Int)} (h : TabI w base TT v rows) (hl : Lo2 g1 g2 w w') (h1 : g1 < base) (h2 : g2 < base) : TabI w' base TT v rows := by
  have hb := h.block
  obtain ⟨vs, hown, hr⟩ := h
  refine ⟨vs, own_move hown (fun k hk => hl.block (hb k hk).2 (by have := (hb k hk).1; omega) (by have := (hb k hk).1; omega)), fun j r hj => ?_⟩
  obtain ⟨g, c, e1, e2, e3, e4, e5, e6⟩ := hr j r hj
  have hq := hl.block e3 (show g ≠ g1 by omega) (show g ≠ g2 by omega)
  refine ⟨g, c, e1, e2, Nat.lt_of_lt_of_le e3 hl.size, e4, e5, fun k x hx => ?_⟩
  exact (World.cell?_of_block (a := ⟨g, k, none⟩) hq).trans (e6 k x hx)
section
variable {w w1 w2 : World} {lo gw cw gc cc : Nat} {Q : List Ce}
theorem Pr2.lt (h : Pr2 w lo gw cw gc cc Q) : (lo ≤ gw ∧ gw < w.heap.size) ∧ (lo ≤ gc ∧ gc < w.heap.size) := ⟨h.ow.lt gw rfl, h.oc.lt gc rfl⟩
theorem Pr2.drewN (h : Pr2 w lo gw cw gc cc Q) (q : Nat) : Pr2 (w.drewN q) lo gw cw gc cc Q := ⟨own_move h.ow (fun _ _ => rfl), own_move h.oc (fun _ _ => rfl), h.ne⟩
theorem Pr2.mono {lo' : Nat} (h : Pr2 w lo gw cw gc cc Q) (hl : lo' ≤ lo) : Pr2 w lo' gw cw gc cc Q := ⟨World.ownsRow.mono h.ow hl, World.ownsRow.mono h.oc hl, h.ne⟩
theorem Pr2.cap (h : Pr2 w lo gw cw gc cc Q) : Q.length ≤ cw ∧ Q.length ≤ cc := by
  obtain ⟨A, c, e, h1, -⟩ := own_form h.ow
  obtain ⟨A', c', e', h1', -⟩ := own_form h.oc
  injection e with _ _ e
  injection e' with _ _ e'
  omega
/-- One more in both rows. -/
theorem Pr2.push {g7 c7 g8 c8 : Nat} (h : Pr2 w lo gw cw gc cc Q) (e : Ce) (h1 : w1.ownsRow lo 26 1 (.slice (some ⟨g7, 0, none⟩) (Q.length + 1) c7) (Q.length + 1) (hdQ Q ++ [.slice e.A e.n e.k])) (r1 : w.grownBy w1 (some gw)) (a1 : some gw = some g7 ∨ w.heap.size ≤ g7)
    (h2 : w2.ownsRow lo 2 1 (.slice (some ⟨g8, 0, none⟩) (Q.length + 1) c8) (Q.length + 1) (csQ Q ++ [.int .i64 e.c])) (r2 : w1.grownBy w2 (some gc)) (a2 : some gc = some g8 ∨ w1.heap.size ≤ g8) : Pr2 w2 lo g7 c7 g8 c8 (Q ++ [e]) := by
  have hl := h.lt
  have l1 := h1.lt g7 rfl
  have b1 : g7 = gw ∨ w.heap.size ≤ g7 := by
    rcases a1 with a | a
    · exact .inl (Option.some.inj a).symm
    · exact .inr a
  have b2 : g8 = gc ∨ w1.heap.size ≤ g8 := by
    rcases a2 with a | a
    · exact .inl (Option.some.inj a).symm
    · exact .inr a
  have s1 := r1.size
  have hne := h.ne
  have ne7 : g7 ≠ gc := by omega
  have el : (Q ++ [e]).length = Q.length + 1 := by simp
  refine ⟨?_, ?_, by omega⟩
  · rw [el]
    have e2 : hdQ (Q ++ [e]) = hdQ Q ++ [.slice e.A e.n e.k] := by simp [hdQ]
    rw [e2]
    refine own_move h1 (fun k hk => ?_)
    have hk2 : k = g7 := by simp [Value.ownBlock] at hk; exact hk.symm
    subst hk2
    exact r2.block k l1.2 (fun q => ne7 (Option.some.inj q))
  · rw [el]
    have e2 : csQ (Q ++ [e]) = csQ Q ++ [.int .i64 e.c] := by simp [csQ]
    rw [e2]; exact h2
/-- The row of costs, when the row of words has grown. -/
theorem Pr2.oc1 (h : Pr2 w lo gw cw gc cc Q) (r1 : w.grownBy w1 (some gw)) : w1.ownsRow lo 2 1 (.slice (some ⟨gc, 0, none⟩) Q.length cc) Q.length (csQ Q) := by
  refine own_move h.oc (fun k hk => ?_)
  have hk2 : k = gc := by simp [Value.ownBlock] at hk; exact hk.symm
  subst hk2
  exact r1.block k h.lt.2.2 (fun q => h.ne (Option.some.inj q).symm)
theorem Pr2.lo2 {g1 g2 : Nat} (h : Pr2 w lo gw cw gc cc Q) (hl : Lo2 g1 g2 w w1) (h1 : gw ≠ g1 ∧ gw ≠ g2) (h2 : gc ≠ g1 ∧ gc ≠ g2) : Pr2 w1 lo gw cw gc cc Q :=
  ⟨own_move h.ow (fun k hk => by
    have hk2 : k = gw := by simp [Value.ownBlock] at hk; exact hk.symm
    subst hk2; exact hl.block h.lt.1.2 h1.1 h1.2), own_move h.oc (fun k hk => by
    have hk2 : k = gc := by simp [Value.ownBlock] at hk; exact hk.symm
    subst hk2; exact hl.block h.lt.2.2 h2.1 h2.2), h.ne⟩
end
/-- One more word looked at. -/
theorem cf_snoc {F : Int} {L : List A4} {P E : List Int} (pre : List (List Int)) {R : List (List Int)} {i : Nat} {x : List Int} {cv : Int} (hx : R[i]? = some x) (hcv : cv = coV F L P E x) : (pre ++ R.take (i + 1)).filterMap (cfW F L P E) = (pre ++ R.take i).filterMap (cfW F L P E) ++ (if 0 ≤ cv then [(x, cv)] else []) := by
  obtain ⟨h1, h2⟩ := List.getElem?_eq_some_iff.1 hx
  rw [List.take_succ_eq_append_getElem h1, ← List.append_assoc, List.filterMap_append, h2]
  congr 1
  unfold cfW
  simp only [List.filterMap_cons, List.filterMap_nil, ← hcv]
  split <;> simp_all
/-- Two neighbours changed about. -/
theorem swp_nb (U W : List Ce) (x y : Ce) {j : Nat} (hj : U.length + 1 = j) : swp (U ++ y :: x :: W) j (j - 1) = U ++ x :: y :: W := by
  have h := swp_at' (U := U) (V := []) (W := W) (x := y) (y := x) (i := j - 1) (j := j) (by omega) (by simp; omega)
  simpa using h
theorem nb_at (U W : List Ce) (x y : Ce) {j : Nat} (hj : U.length + 1 = j) : (U ++ y :: x :: W)[j]? = some x ∧ (U ++ y :: x :: W)[j - 1]? = some y := by
  refine ⟨?_, get_at (by omega)⟩
  rw [show U ++ y :: x :: W = (U ++ [y]) ++ x :: W by simp]
  exact get_at (by simp; omega)
/-- The one put in stands behind all that cost no more. -/
theorem nb_least {M1 M2 : List Ce} {cv : Int} (hs : Srt (M1 ++ M2)) (h : false = decide (∃ y, M1.getLast? = some y ∧ cv < y.c)) : ∀ y ∈ M1, y.c ≤ cv := by
  intro y hy
  rcases List.eq_nil_or_concat M1 with h0 | ⟨U, z, h0⟩
  · rw [h0] at hy; cases hy
  · have hz : M1.getLast? = some z := by rw [h0]; simp
    have hzc : z.c ≤ cv := by
      have h1 := of_decide_eq_false h.symm
      have h2 : ¬ cv < z.c := fun q => h1 ⟨z, hz, q⟩
      omega
    rw [h0, List.concat_eq_append] at hy
    rcases List.mem_append.1 hy with hy | hy
    · have h3 := hs.left
      rw [h0, List.concat_eq_append] at h3
      have := h3.mid y hy z (by simp); omega
    · rw [List.mem_singleton.1 hy]; exact hzc
end Go.Proofs.Ytedbngnkkfpbeaa


namespace Go.Proofs.Ytedbngnkkfpbeaa
open Go.RowKit
set_option linter.unusedVariables false
/-- Whether BestWords takes its arguments. -/
def bwsB (S T m cnt : Int) (L : List A4) (P E : List Int) : Bool := vmB S T L P E && (inB m 0 5 && inB cnt 1 64)
set_option maxRecDepth 100000 in
set_option maxHeartbeats 8000000 in
theorem iBws_no (S T m cnt : Int) (L : List A4) (P E : List Int) (A2 : Option Addr) (n2 c2 : Nat) (A3 : Option Addr) (n3 c3 : Nat) (A4 : Option Addr) (n4 c4 : Nat) (w : World) (h2 : SlA w w.heap.size A2 n2 L) (h3 : SlI w w.heap.size A3 n3 P) (h4 : SlI w w.heap.size A4 n4 E) (hL : L.length ≤ 1048576) (hP : P.length ≤ 1048576) (hE : E.length ≤ 1048576) (hb : bwsB S T m cnt L P E = false) :
    Calls Try.prog 11 #[.agg #[.int .i64 S, .int .i64 T, .slice A2 n2 c2, .slice A3 n3 c3, .slice A4 n4 c4], .int .i64 m, .int .i64 cnt] w fun e w' => e = .returned (.tuple #[.slice none 0 0, .slice none 0 0, .bool false]) ∧ Below w.heap.size w w' := by
  have rb := Row.new w 28 (BxM S T A2 n2 c2 A3 n3 c3 A4 n4 c4)
  have bx : Below w.heap.size w (w.alloc (.cells (BxM S T A2 n2 c2 A3 n3 c3 A4 n4 c4).toArray 28)) := (Below.refl _ _).alloc (Nat.le_refl _) _
  obtain ⟨x0, hx0⟩ : ∃ x, x = w.alloc (.cells (BxM S T A2 n2 c2 A3 n3 c3 A4 n4 c4).toArray 28) := ⟨_, rfl⟩
  rw [← hx0] at rb bx
  have V := Lib.hid (iValidMachine_any (.agg #[.int .i64 S, .int .i64 T, .slice A2 n2 c2, .slice A3 n3 c3, .slice A4 n4 c4]) S T L P E x0 ⟨_, _, _, _, _, _, _, _, _, rfl, (h2.below bx (Nat.le_refl _)).more bx.size, (h3.below bx (Nat.le_refl _)).more bx.size, (h4.below bx (Nat.le_refl _)).more bx.size⟩ (by omega) (by omega) (by omega))
  have W1 := Lib.hid (fun w => iIn_any m 0 5 w)
  have W2 := Lib.hid (fun w => iIn_any cnt 1 64 w)
  obtain ⟨t1, ht1⟩ : ∃ t, t = vmB S T L P E := ⟨_, rfl⟩
  obtain ⟨t2, ht2⟩ : ∃ t, t = inB m 0 5 := ⟨_, rfl⟩
  obtain ⟨t3, ht3⟩ : ∃ t, t = inB cnt 1 64 := ⟨_, rfl⟩
  unfold bwsB at hb
  rw [← ht1, ← ht2, ← ht3] at hb
  rw [← ht1] at V; rw [← ht2] at W1; rw [← ht3] at W2
  have RB := Lib.hid rb; have BX := Lib.hid bx; have HX0 := Lib.hid hx0; have HBB := Lib.hid hb
  clear rb bx h2 h3 h4 hx0 ht1 ht2 ht3 hb
  go_enter Try.func11, Try.ntmps11
  go_upto_region 1 with fail
  change Code.wp _ _ _ _ (w.alloc (.cells (BxM S T A2 n2 c2 A3 n3 c3 A4 n4 c4).toArray 28))
  rw [← HX0.out]
  have z0 : x0.cell? ⟨w.heap.size, 0, none⟩ = some (.int .i64 S) := RB.out.cell 0; have z1 : x0.cell? ⟨w.heap.size, 1, none⟩ = some (.int .i64 T) := RB.out.cell 1; have z2 : x0.cell? ⟨w.heap.size, 2, none⟩ = some (.slice A2 n2 c2) := RB.out.cell 2; have z3 : x0.cell? ⟨w.heap.size, 3, none⟩ = some (.slice A3 n3 c3) := RB.out.cell 3; have z4 : x0.cell? ⟨w.heap.size, 4, none⟩ = some (.slice A4 n4 c4) := RB.out.cell 4
  cases t1 with
  | false =>
    go_wp2_with (first
      | (go_at_call 28; refine V.out.mono ?_; rintro e w1 ⟨rfl, hb1⟩; have BX1 := Lib.hid (BX.out.trans (hb1.mono BX.out.size)); clear hb1 z0 z1 z2 z3 z4))
    go_ret3
    exact ⟨rfl, BX1.out⟩
  | true =>
    cases t2 with
    | false =>
      go_wp2_with (first
        | (go_at_call 28; refine V.out.mono ?_; rintro e w1 ⟨rfl, hb1⟩; have BX1 := Lib.hid (BX.out.trans (hb1.mono BX.out.size)); clear hb1 z0 z1 z2 z3 z4)
        | (go_at_call 39; refine (W1.out _).mono ?_; rintro e w' ⟨rfl, hw⟩; obtain rfl := hw; clear W1))
      go_ret3
      exact ⟨rfl, BX1.out⟩
    | true =>
      cases t3 with
      | false =>
        go_wp2_with (first
          | (go_at_call 28; refine V.out.mono ?_; rintro e w1 ⟨rfl, hb1⟩; have BX1 := Lib.hid (BX.out.trans (hb1.mono BX.out.size)); clear hb1 z0 z1 z2 z3 z4)
          | (go_at_call 39; refine (W1.out _).mono ?_; rintro e w' ⟨rfl, hw⟩; obtain rfl := hw; clear W1)
          | (go_at_call 39; refine (W2.out _).mono ?_; rintro e w' ⟨rfl, hw⟩; obtain rfl := hw; clear W2))
        go_ret3
        exact ⟨rfl, BX1.out⟩
      | true => exact absurd HBB.out (by decide)
end Go.Proofs.Ytedbngnkkfpbeaa


namespace Go.Proofs.Ytedbngnkkfpbeaa
open Go.RowKit
set_option linter.unusedVariables false
theorem iCostOfL_any (v : Value) (b off n c : Nat) (S T : Int) (L : List A4) (P E xs : List Int) (w : World) (h : Mc w w.heap.size v S T L P E) (hx : SlI w w.heap.size (some ⟨b, off, none⟩) n xs) (hL : L.length ≤ 1048576) (hP : P.length ≤ 1048576) (hE : E.length ≤ 1048576) (hn : n ≤ 1048576) :
    Calls Try.prog 9 #[v, .slice (some ⟨b, off, none⟩) n c] w fun e w' => e = .returned (.tuple #[.int .i64 (coR 1099511627776 S T L P E xs), .bool (coB S T L P E xs)]) ∧ Below w.heap.size w w' := iCostOf_any v S T L P E _ n c xs w h hx hL hP hE (by omega)
end Go.Proofs.Ytedbngnkkfpbeaa
