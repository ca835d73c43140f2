/- ValidChange, plainly. -/
import Derived.Test.YtcmnhnapnnpbdaaChg
import Derived.Test.YtcmnhnapnnpbdaaLong
namespace Go.Proofs.Ytcmnhnapnnpbdaa
open Go.RowKit
set_option linter.unusedVariables false
def vcB (L F G R : List Int) (l : Int) : Bool := decide (L.length ≤ 4) && (decide (1 ≤ F.length) && (decide (F.length ≤ 4) && (decide (G.length ≤ 4) && (decide (R.length ≤ 4) && (longB L l && (longB F l && (longB G l && longB R l)))))))
def okL (X : List Int) (l : Int) : Bool := longB X l && decide (X.length ≤ 4)
theorem bool9 : ∀ a b c d e f g h i : Bool, (a && (b && (c && (d && (e && (f && (g && (h && i)))))))) = ((f && a) && ((g && c) && ((h && d) && ((i && e) && b)))) := by decide
theorem vcB_ok (L F G R : List Int) (l : Int) : vcB L F G R l = (okL L l && (okL F l && (okL G l && (okL R l && decide (1 ≤ F.length))))) := bool9 _ _ _ _ _ _ _ _ _
theorem vcB_no {L F G R X : List Int} {l : Int} {k : Nat} (hX : [L, F, G, R][k]? = some X) (h : okL X l = false) : vcB L F G R l = false := by
  rw [vcB_ok]
  match k, hX with
  | 0, hX => obtain rfl : L = X := by simpa using hX
             rw [h]; rfl
  | 1, hX => obtain rfl : F = X := by simpa using hX
             rw [h]; simp
  | 2, hX => obtain rfl : G = X := by simpa using hX
             rw [h]; simp
  | 3, hX => obtain rfl : R = X := by simpa using hX
             rw [h]; simp
  | k + 4, hX => simp at hX
theorem vcB_all {L F G R : List Int} {l : Int} (h : ∀ k X, k < 4 → [L, F, G, R][k]? = some X → okL X l = true) : vcB L F G R l = decide (1 ≤ F.length) := by
  rw [vcB_ok, h 0 L (by omega) rfl, h 1 F (by omega) rfl, h 2 G (by omega) rfl, h 3 R (by omega) rfl]; simp
/-- p points at a Change that reads as four lists. -/
def CgP (w : World) (g : Nat) (L F G R : List Int) : Prop :=
  ∃ A0 n0 c0 A1 n1 c1 A2 n2 c2 A3 n3 c3, Row w g 27 [.slice A0 n0 c0, .slice A1 n1 c1, .slice A2 n2 c2, .slice A3 n3 c3] ∧ SlI w w.heap.size A0 n0 L ∧ SlI w w.heap.size A1 n1 F ∧ SlI w w.heap.size A2 n2 G ∧ SlI w w.heap.size A3 n3 R
theorem Cg.boxed {w : World} {v : Value} {L F G R : List Int} (h : Cg w w.heap.size v L F G R) : ∃ vs : List Value, v = .agg vs.toArray ∧ CgP (w.alloc (.cells vs.toArray 27)) w.heap.size L F G R := by
  obtain ⟨A0, n0, c0, A1, n1, c1, A2, n2, c2, A3, n3, c3, rfl, h0, h1, h2, h3⟩ := h
  have hb : Below w.heap.size w (w.alloc (.cells ([.slice A0 n0 c0, .slice A1 n1 c1, .slice A2 n2 c2, .slice A3 n3 c3] : List Value).toArray 27)) := (Below.refl _ _).alloc (Nat.le_refl _) _
  exact ⟨[.slice A0 n0 c0, .slice A1 n1 c1, .slice A2 n2 c2, .slice A3 n3 c3], rfl, A0, n0, c0, A1, n1, c1, A2, n2, c2, A3, n3, c3, Row.new _ _ _, (h0.below hb (Nat.le_refl _)).more hb.size, (h1.below hb (Nat.le_refl _)).more hb.size, (h2.below hb (Nat.le_refl _)).more hb.size, (h3.below hb (Nat.le_refl _)).more hb.size⟩
end Go.Proofs.Ytcmnhnapnnpbdaa
