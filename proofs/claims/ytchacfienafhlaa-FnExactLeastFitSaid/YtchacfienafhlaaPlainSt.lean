/- A Plain (numbers and lists): what the laws' helpers do with one. -/
import Derived.Test.YtchacfienafhlaaIntS
import Derived.Test.YtchacfienafhlaaBl
import Derived.Test.YtchacfienafhlaaKp
namespace Go.Proofs.Ytchacfienafhlaa
open Go.RowKit
set_option linter.unusedVariables false
def Pl (w : World) (B : Nat) (v : Value) (S : Int) (T : Int) (P : List Int) (E : List Bool) : Prop :=
  ∃ A2 n2 c2 A3 n3 c3, v = .agg #[.int .i64 S, .int .i64 T, .slice A2 n2 c2, .slice A3 n3 c3] ∧ SlI w B A2 n2 P ∧ SlB w B A3 n3 E
theorem Pl.below {w w' : World} {B B' : Nat} {v : Value} {S T : Int} {P : List Int} {E : List Bool} (h : Pl w B v S T P E) (hb : Below B' w w') (hB : B ≤ B') : Pl w' B v S T P E := by
  obtain ⟨A2, n2, c2, A3, n3, c3, e, h2, h3⟩ := h
  exact ⟨A2, n2, c2, A3, n3, c3, e, h2.below hb hB, h3.below hb hB⟩
theorem Pl.more {w : World} {B B' : Nat} {v : Value} {S T : Int} {P : List Int} {E : List Bool} (h : Pl w B v S T P E) (hB : B ≤ B') : Pl w B' v S T P E := by
  obtain ⟨A2, n2, c2, A3, n3, c3, e, h2, h3⟩ := h
  exact ⟨A2, n2, c2, A3, n3, c3, e, h2.more hB, h3.more hB⟩
/-- v is a Plain of the call's own: rows of their own, in this order. -/
def PlR (w : World) (base : Nat) (v : Value) (S : Int) (T : Int) (P : List Int) (E : List Bool) : Prop :=
  ∃ g2 g3, v = .agg #[.int .i64 S, .int .i64 T, .slice (some ⟨g2, 0, none⟩) P.length P.length, .slice (some ⟨g3, 0, none⟩) E.length E.length] ∧ base ≤ g2 ∧ g2 < g3 ∧ Row w g2 2 (iv P) ∧ Row w g3 4 (bv E)
theorem PlR.cg {w : World} {base : Nat} {v : Value} {S T : Int} {P : List Int} {E : List Bool} (h : PlR w base v S T P E) : Pl w w.heap.size v S T P E := by
  obtain ⟨g2, g3, e, _, _, h2, h3⟩ := h
  exact ⟨_, _, _, _, _, _, e, h2.slI, h3.slB⟩
theorem PlR.shape {w : World} {base : Nat} {v : Value} {S T : Int} {P : List Int} {E : List Bool} (h : PlR w base v S T P E) : ∃ g2 g3, v = .agg #[.int .i64 S, .int .i64 T, .slice (some ⟨g2, 0, none⟩) P.length P.length, .slice (some ⟨g3, 0, none⟩) E.length E.length] := by
  obtain ⟨g2, g3, e, _⟩ := h
  exact ⟨g2, g3, e⟩
theorem PlR.below {w w' : World} {base B : Nat} {v : Value} {S T : Int} {P : List Int} {E : List Bool} (h : PlR w base v S T P E) (hb : Below B w w') (hB : w.heap.size ≤ B) : PlR w' base v S T P E := by
  obtain ⟨g2, g3, e, q0, q1, h2, h3⟩ := h
  exact ⟨g2, g3, e, q0, q1, h2.below hb (Nat.lt_of_lt_of_le h2.lt hB), h3.below hb (Nat.lt_of_lt_of_le h3.lt hB)⟩
set_option maxHeartbeats 2000000 in
theorem eqPlain_same (v v' : Value) (S : Int) (T : Int) (P : List Int) (E : List Bool) (w : World) (h : Pl w w.heap.size v S T P E) (h' : Pl w w.heap.size v' S T P E) (b2 : P.length ≤ 4294967296) (b3 : E.length ≤ 4294967296) :
    Calls Try.prog 13 #[v, v'] w fun e w' => e = .returned (.bool true) ∧ Below w.heap.size w w' := by
  obtain ⟨A2, n2, c2, A3, n3, c3, rfl, h2, h3⟩ := h
  obtain ⟨A2', n2', c2', A3', n3', c3', rfl, h2', h3'⟩ := h'
  have m2 : n2 ≤ 4294967296 := by have := h2.len; rw [← this]; exact b2
  have e2 : n2 = n2' := by have h1 := h2.len; have h2 := h2'.len; rw [← h1, ← h2]
  subst e2
  have H2 := Lib.hid h2; have H2' := Lib.hid h2'
  have m3 : n3 ≤ 4294967296 := by have := h3.len; rw [← this]; exact b3
  have e3 : n3 = n3' := by have h1 := h3.len; have h2 := h3'.len; rw [← h1, ← h2]
  subst e3
  have H3 := Lib.hid h3; have H3' := Lib.hid h3'
  clear h2 h2' b2 h3 h3' b3
  have ra := Lib.hid ((Row.new w 30 [.int .i64 S, .int .i64 T, .slice A2 n2 c2, .slice A3 n3 c3]).alloc (.cells ([.int .i64 S, .int .i64 T, .slice A2' n2 c2', .slice A3' n3 c3'] : List Value).toArray 30))
  have rb := Row.new (w.alloc (.cells ([.int .i64 S, .int .i64 T, .slice A2 n2 c2, .slice A3 n3 c3] : List Value).toArray 30)) 30 [.int .i64 S, .int .i64 T, .slice A2' n2 c2', .slice A3' n3 c3']
  rw [show (w.alloc (.cells ([.int .i64 S, .int .i64 T, .slice A2 n2 c2, .slice A3 n3 c3] : List Value).toArray 30)).heap.size = w.heap.size + 1 by simp] at rb
  have rb := Lib.hid rb
  have bx : Below w.heap.size w ((w.alloc (.cells ([.int .i64 S, .int .i64 T, .slice A2 n2 c2, .slice A3 n3 c3] : List Value).toArray 30)).alloc (.cells ([.int .i64 S, .int .i64 T, .slice A2' n2 c2', .slice A3' n3 c3'] : List Value).toArray 30)) := ((Below.refl _ _).alloc (Nat.le_refl _) _).alloc (by simp) _
  have BX := Lib.hid bx; clear bx
  go_enter Try.func13, Try.ntmps13
  go_wp2_with fail
  obtain ⟨x0, hx0⟩ : ∃ x, x = (w.alloc (.cells ([.int .i64 S, .int .i64 T, .slice A2 n2 c2, .slice A3 n3 c3] : List Value).toArray 30)).alloc (.cells ([.int .i64 S, .int .i64 T, .slice A2' n2 c2', .slice A3' n3 c3'] : List Value).toArray 30) := ⟨_, rfl⟩
  have ra : Hid (Row x0 w.heap.size 30 [.int .i64 S, .int .i64 T, .slice A2 n2 c2, .slice A3 n3 c3]) := by rw [hx0]; exact ra
  have rb : Hid (Row x0 (w.heap.size + 1) 30 [.int .i64 S, .int .i64 T, .slice A2' n2 c2', .slice A3' n3 c3']) := by rw [hx0]; exact rb
  have bx : Hid (Below w.heap.size w x0) := by rw [hx0]; exact BX
  change Calls _ _ _ ((w.alloc (.cells ([.int .i64 S, .int .i64 T, .slice A2 n2 c2, .slice A3 n3 c3] : List Value).toArray 30)).alloc (.cells ([.int .i64 S, .int .i64 T, .slice A2' n2 c2', .slice A3' n3 c3'] : List Value).toArray 30)) _
  rw [← hx0]
  clear hx0 BX
  refine (eqInt64S_same A2 n2 c2 A2' c2' P x0 (B := x0.heap.size) (B' := x0.heap.size) ((H2.out.below bx.out (Nat.le_refl _)).more bx.out.size) ((H2'.out.below bx.out (Nat.le_refl _)).more bx.out.size) m2).mono ?_
  rintro e w1 ⟨rfl, hb1⟩
  have ra : Hid (Row w1 w.heap.size 30 [.int .i64 S, .int .i64 T, .slice A2 n2 c2, .slice A3 n3 c3]) := ra.out.below hb1 ra.out.lt
  have rb : Hid (Row w1 (w.heap.size + 1) 30 [.int .i64 S, .int .i64 T, .slice A2' n2 c2', .slice A3' n3 c3']) := rb.out.below hb1 rb.out.lt
  have bx : Hid (Below w.heap.size w w1) := bx.out.trans (hb1.mono bx.out.size)
  clear hb1
  have ca3 := ra.out.cell 3
  have cb3 := rb.out.cell 3
  go_wp2_with fail
  clear ca3 cb3
  refine (eqBoolS_same A3 n3 c3 A3' c3' E w1 (B := w1.heap.size) (B' := w1.heap.size) ((H3.out.below bx.out (Nat.le_refl _)).more bx.out.size) ((H3'.out.below bx.out (Nat.le_refl _)).more bx.out.size) m3).mono ?_
  rintro e w2 ⟨rfl, hb2⟩
  have ra : Hid (Row w2 w.heap.size 30 [.int .i64 S, .int .i64 T, .slice A2 n2 c2, .slice A3 n3 c3]) := ra.out.below hb2 ra.out.lt
  have rb : Hid (Row w2 (w.heap.size + 1) 30 [.int .i64 S, .int .i64 T, .slice A2' n2 c2', .slice A3' n3 c3']) := rb.out.below hb2 rb.out.lt
  have bx : Hid (Below w.heap.size w w2) := bx.out.trans (hb2.mono bx.out.size)
  clear hb2
  go_wp2_with fail
  go_ret
  exact ⟨rfl, bx.out⟩
end Go.Proofs.Ytchacfienafhlaa
