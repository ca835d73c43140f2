/- A struct of two numbers and three lists, while it is being built: a number that is set, a new list in the place of the last one. -/
import Derived.Test.YtegponioggpkcaaM3
namespace Go.Proofs.Ytegponioggpkcaa
open Go.RowKit
set_option linter.unusedVariables false
section
variable {x0 w w' : World} {lo g : Nat} {T t2 t3 t4 : TypeId} {z2 z3 z4 : Nat} {a b v2 v3 v4 : Value} {n2 n3 n4 : Nat} {X2 X3 X4 : List Value}
/-- The first number has been stored. -/
theorem M3.set0 (h : M3 x0 w lo g T t2 t3 t4 z2 z3 z4 a b v2 v3 v4 n2 n3 n4 X2 X3 X4) (u : Value) : M3 x0 (w.setCell ⟨g, 0, none⟩ u) lo g T t2 t3 t4 z2 z3 z4 u b v2 v3 v4 n2 n3 n4 X2 X3 X4 :=
  ⟨h.row.set_ 0 u, h.bel.setCell (p := ⟨g, 0, none⟩) h.gb u, h.gb, h.hl, own_move h.o2 (fun k hk => Below.heap_setCell _ _ _ _ (show k ≠ g from (h.d2 k hk).1)), own_move h.o3 (fun k hk => Below.heap_setCell _ _ _ _ (show k ≠ g from (h.d3 k hk).1)), own_move h.o4 (fun k hk => Below.heap_setCell _ _ _ _ (show k ≠ g from h.d4 k hk)), h.d2, h.d3, h.d4⟩
/-- Another list has been appended to, and stored in the place of list 4. -/
theorem M3.new4 (h : M3 x0 w lo g T t2 t3 t4 z2 z3 z4 a b v2 v3 v4 n2 n3 n4 X2 X3 X4) {vr u : Value} {m : Nat} {Y : List Value} (hvr : ∀ k, vr.ownBlock = some k → lo ≤ k ∧ k ≠ g ∧ v2.ownBlock ≠ some k ∧ v3.ownBlock ≠ some k) (ho : w'.ownsRow lo t4 z4 u m Y) (hg : w.grownBy w' vr.ownBlock) (hat : u.ownBlock = vr.ownBlock ∨ u.ownBlock = some w.heap.size) :
    M3 x0 (w'.setCell ⟨g, 4, none⟩ u) lo g T t2 t3 t4 z2 z3 z4 a b v2 v3 u n2 n3 m X2 X3 Y := by
  have hgl := h.row.lt
  have hq : ∀ k, u.ownBlock = some k → vr.ownBlock = some k ∨ k = w.heap.size := fun k hk => by
    rcases hat with e | e
    · exact .inl (by rw [← e]; exact hk)
    · exact .inr (by rw [hk] at e; exact Option.some.inj e)
  have hng : ∀ k, u.ownBlock = some k → k ≠ g := fun k hk => by
    rcases hq k hk with e | e
    · exact (hvr k e).2.1
    · omega
  have e2 : ∀ k, v2.ownBlock = some k → vr.ownBlock ≠ some k := fun k hk e => (hvr k e).2.2.1 hk
  have m2 : ∀ k, v2.ownBlock = some k → (w'.setCell ⟨g, 4, none⟩ u).heap[k]? = w.heap[k]? := fun k hk => (Below.heap_setCell _ _ _ _ (show k ≠ g from (h.d2 k hk).1)).trans (hg.block k (h.o2.lt k hk).2 (fun e => e2 k hk e.symm))
  have s2 : ∀ k, v2.ownBlock = some k → u.ownBlock ≠ some k := fun k hk e => by
    rcases hq k e with q1 | q1
    · exact e2 k hk q1
    · have := (h.o2.lt k hk).2; omega
  have e3 : ∀ k, v3.ownBlock = some k → vr.ownBlock ≠ some k := fun k hk e => (hvr k e).2.2.2 hk
  have m3 : ∀ k, v3.ownBlock = some k → (w'.setCell ⟨g, 4, none⟩ u).heap[k]? = w.heap[k]? := fun k hk => (Below.heap_setCell _ _ _ _ (show k ≠ g from (h.d3 k hk).1)).trans (hg.block k (h.o3.lt k hk).2 (fun e => e3 k hk e.symm))
  have s3 : ∀ k, v3.ownBlock = some k → u.ownBlock ≠ some k := fun k hk e => by
    rcases hq k e with q1 | q1
    · exact e3 k hk q1
    · have := (h.o3.lt k hk).2; omega
  have hrow : Row w' g T [a, b, v2, v3, v4] := h.row.grown hg (fun e => (hvr g e.symm).2.1 rfl)
  have hbel : Below lo x0 w' := h.bel.grown hg h.size (fun k hk => (hvr k hk).1)
  exact ⟨hrow.set_ 4 u, hbel.setCell (p := ⟨g, 4, none⟩) h.gb u, h.gb, h.hl, own_move h.o2 m2, own_move h.o3 m3, own_move ho (fun k hk => Below.heap_setCell _ _ _ _ (hng k hk)), fun k hk => ⟨(h.d2 k hk).1, (h.d2 k hk).2.1, s2 k hk⟩, fun k hk => ⟨(h.d3 k hk).1, s3 k hk⟩, hng⟩
theorem fresh4 (h : M3 x0 w lo g T t2 t3 t4 z2 z3 z4 a b v2 v3 v4 n2 n3 n4 X2 X3 X4) {k : Nat} (hk : w.heap.size ≤ k) : lo ≤ k ∧ k ≠ g ∧ v2.ownBlock ≠ some k ∧ v3.ownBlock ≠ some k :=
  ⟨by have := h.size; omega, by have := h.row.lt; omega, fun e => by have := (h.o2.lt k e).2; omega, fun e => by have := (h.o3.lt k e).2; omega⟩
end
theorem own_some {w : World} {base n : Nat} {t : TypeId} {A : Option Addr} {c : Nat} {xs : List Value} (h : w.ownsRow base t 1 (.slice A n c) n xs) (h0 : 0 < n) : ∃ g, A = some ⟨g, 0, none⟩ := by
  obtain ⟨_, h⟩ := h
  rcases h with ⟨e, _⟩ | ⟨q, cap, cur, e, _⟩
  · injection e with e1 e2 e3; omega
  · injection e with e1 e2 e3; exact ⟨q, e1⟩
end Go.Proofs.Ytegponioggpkcaa
