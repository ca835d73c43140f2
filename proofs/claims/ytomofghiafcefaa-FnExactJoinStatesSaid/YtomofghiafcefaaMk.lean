/- What the laws do with what a call handed out: cells are marked, then held against the marks. -/
import Derived.Test.YtomofghiafcefaaMga
import Derived.Test.YtomofghiafcefaaTab
import Derived.Laws.IdiomStrings
import Derived.Deep.LoopGhost

namespace Go.Proofs.Ytomofghiafcefaa
open Go.RowKit
set_option linter.unusedVariables false
/-- All blocks but g are as they were. -/
def But (g : Nat) (w w' : World) : Prop := w'.os = w.os ∧ w'.tape = w.tape ∧ w'.output = w.output ∧ w.heap.size ≤ w'.heap.size ∧ ∀ k, k < w.heap.size → k ≠ g → w'.heap[k]? = w.heap[k]?
theorem But.refl (g : Nat) (w : World) : But g w w := ⟨rfl, rfl, rfl, Nat.le_refl _, fun _ _ _ => rfl⟩
theorem But.trans {g : Nat} {a b c : World} (h : But g a b) (h' : But g b c) : But g a c :=
  ⟨h'.1.trans h.1, h'.2.1.trans h.2.1, h'.2.2.1.trans h.2.2.1, Nat.le_trans h.2.2.2.1 h'.2.2.2.1, fun k hk hg => (h'.2.2.2.2 k (Nat.lt_of_lt_of_le hk h.2.2.2.1) hg).trans (h.2.2.2.2 k hk hg)⟩
theorem But.of_below {g B : Nat} {a b : World} (h : Below B a b) (hB : a.heap.size ≤ B) : But g a b :=
  ⟨h.os, h.tape, h.output, h.size, fun k hk _ => h.block k (by omega)⟩
theorem But.below {g B : Nat} {a b : World} (h : But g a b) (hB : B ≤ g) (hs : B ≤ a.heap.size) : Below B a b :=
  ⟨h.1, h.2.1, h.2.2.1, h.2.2.2.1, fun k hk => h.2.2.2.2 k (by omega) (by omega)⟩
theorem But.set {g : Nat} (w : World) (o : Nat) (u : Value) : But g w (w.setCell ⟨g, o, none⟩ u) :=
  ⟨rfl, rfl, rfl, by simp [World.setCell], fun k hk hg => Below.heap_setCell w ⟨g, o, none⟩ u k hg⟩
/-- Block g is a row of n cells of the call's own. -/
def RowN (w : World) (g : Nat) (t : TypeId) (n : Nat) : Prop := ∃ vs, vs.length = n ∧ Row w g t vs
theorem RowN.cell {w : World} {g : Nat} {t : TypeId} {n k : Nat} (h : RowN w g t n) (hk : k < n) : ∃ u, w.cell? ⟨g, k, none⟩ = some u ∧ w.frozen? ⟨g, k, none⟩ = false := by
  obtain ⟨vs, hn, hr⟩ := h
  exact ⟨vs[k], by rw [hr.cell]; exact List.getElem?_eq_getElem _, hr.frozen k⟩
theorem RowN.set {w : World} {g : Nat} {t : TypeId} {n : Nat} (h : RowN w g t n) (k : Nat) (u : Value) : RowN (w.setCell ⟨g, k, none⟩ u) g t n := by
  obtain ⟨vs, hn, hr⟩ := h
  exact ⟨vs.set k u, by simpa using hn, hr.set_ k u⟩
theorem RowN.below {w w' : World} {g B : Nat} {t : TypeId} {n : Nat} (h : RowN w g t n) (hb : Below B w w') (hg : g < B) : RowN w' g t n := by
  obtain ⟨vs, hn, hr⟩ := h
  exact ⟨vs, hn, hr.below hb hg⟩
theorem RowN.lt {w : World} {g : Nat} {t : TypeId} {n : Nat} (h : RowN w g t n) : g < w.heap.size := by
  obtain ⟨vs, hn, hr⟩ := h
  exact hr.lt
/-- k, k + 1, .. *n* numbers -/
def marks (k : Int) (n : Nat) : List Int := (List.range n).map fun (j : Nat) => k + (j : Int)
theorem marks_length (k : Int) (n : Nat) : (marks k n).length = n := by simp [marks]
theorem marks_get {k : Int} {n q : Nat} (h : q < n) : (marks k n)[q]? = some (k + (q : Int)) := by simp [marks, h]
theorem iv_marks_get {k : Int} {n q : Nat} (h : q < n) : (iv (marks k n))[q]? = some (.int .i64 (k + (q : Int))) := by simp [iv, marks_get h]
end Go.Proofs.Ytomofghiafcefaa
