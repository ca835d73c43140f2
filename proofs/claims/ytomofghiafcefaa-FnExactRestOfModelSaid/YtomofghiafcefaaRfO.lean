/- Rows of floats that a call handed out: equality, and what marks leave of them. -/
import Derived.Test.YtomofghiafcefaaMrF32
import Derived.Test.YtomofghiafcefaaKp
import Derived.Test.YtomofghiafcefaaFl
namespace Go.Proofs.Ytomofghiafcefaa
open Go.RowKit
set_option linter.unusedVariables false
def RowF (w : World) (base : Nat) (v : Value) (r : List F32) : Prop := w.ownsRow base 25 1 v r.length (fv r)
theorem RowF.keep {w w' : World} {base B : Nat} {v : Value} {r : List F32} (h : RowF w base v r) (hb : Below B w w') (hB : w.heap.size ≤ B) : RowF w' base v r :=
  World.ownsRow.kept (row := none) h ⟨hb.os, hb.tape, hb.output, hb.size, fun k hk _ => hb.block k (by omega)⟩ (by cases v.ownBlock <;> simp)
theorem RowF.kp {w w' : World} {base lo hi : Nat} {v : Value} {r : List F32} (h : RowF w base v r) (hb : Kp lo hi w w') (hg : hi ≤ base) : RowF w' base v r := by
  obtain ⟨h1, h2⟩ := h
  refine ⟨h1, ?_⟩
  rcases h2 with h2 | ⟨g', cap, cur, e, hb', hg', rest⟩
  · exact .inl h2
  · exact .inr ⟨g', cap, cur, e, hb', (hb.2.2.2.2 g' (Array.getElem?_eq_some_iff.1 hg').1 (.inr (by omega))).trans hg', rest⟩
theorem eqOwnF (v v' : Value) (r : List F32) (b b' : Nat) (w : World) (h : RowF w b v r) (h' : RowF w b' v' r) (hn : r.length ≤ 4294967296) :
    Calls Try.prog 9 #[v, v'] w fun e w' => e = .returned (.bool true) ∧ Below w.heap.size w w' := by
  obtain ⟨A, c, rfl, _, _⟩ := own_form h
  obtain ⟨A', c', rfl, _, _⟩ := own_form h'
  exact eqFloat32S_same A r.length c A' c' r w (own_sl h) (own_sl h') hn
def MarkedF (w : World) (v : Value) (k : Int) (n : Nat) : Prop := Mkd mkf w 1 v n k
theorem MarkedF.below {w w' : World} {v : Value} {k : Int} {n B : Nat} (h : MarkedF w v k n) (hb : Below B w w') (hB : w.heap.size ≤ B) : MarkedF w' v k n := Mkd.below h hb hB
theorem markOwnF (base : Nat) (v : Value) (r : List F32) (k : Int) (w : World) (h : RowF w base v r) (hb : base ≤ w.heap.size) (hn : r.length ≤ 1048576) (hk0 : 0 ≤ k) (hk1 : k ≤ 1000000000) :
    Calls Try.prog 12 #[v, .int .i64 k] w fun e w' => e = .returned (.int .i64 (k + r.length)) ∧ MarkedF w' v k r.length ∧ Below base w w' := by
  refine (markVFloat32S base w.heap.size v r.length (fv r) k w (OwnV.of h) hn hk0 hk1).mono ?_
  rintro e w' ⟨rfl, hm, hg⟩
  exact ⟨rfl, hm, (Below.refl base w).grown hg hb fun k hk => (h.lt k hk).1⟩
theorem heldOwnF (v : Value) (n : Nat) (k : Int) (w : World) (h : MarkedF w v k n) (hn : n ≤ 1048576) (hk0 : 0 ≤ k) (hk1 : k ≤ 1000000000) :
    Calls Try.prog 13 #[v, .int .i64 k] w fun e w' => e = .returned (.int .i64 (k + n)) ∧ w = w' := heldVFloat32S v n k w h hn hk0 hk1
end Go.Proofs.Ytomofghiafcefaa
