/- Several texts in one: A struct of two numbers and three lists, in a block of its own while it is being built: its lists are rows of the call's own, apart. A struct of two numbers and three lists, while it is being built: a number that is set, a new list in the place of the last one. -/
import Derived.Test.YtedbngnkkfpbeaaStO

namespace Go.Proofs.Ytedbngnkkfpbeaa
open Go.RowKit
set_option linter.unusedVariables false
structure M3 (x0 w : World) (lo g : Nat) (T t2 t3 t4 : TypeId) (z2 z3 z4 : Nat) (a b v2 v3 v4 : Value) (n2 n3 n4 : Nat) (X2 X3 X4 : List Value) : Prop where
  row : Row w g T [a, b, v2, v3, v4]
  bel : Below lo x0 w
  gb : lo ≤ g
  hl : lo ≤ x0.heap.size
  o2 : w.ownsRow lo t2 z2 v2 n2 X2
  o3 : w.ownsRow lo t3 z3 v3 n3 X3
  o4 : w.ownsRow lo t4 z4 v4 n4 X4
  d2 : ∀ k, v2.ownBlock = some k → k ≠ g ∧ v3.ownBlock ≠ some k ∧ v4.ownBlock ≠ some k
  d3 : ∀ k, v3.ownBlock = some k → k ≠ g ∧ v4.ownBlock ≠ some k
  d4 : ∀ k, v4.ownBlock = some k → k ≠ g
section
variable {x0 w w' : World} {lo g : Nat} {T t2 t3 t4 : TypeId} {z2 z3 z4 : Nat} {a b v2 v3 v4 : Value} {n2 n3 n4 : Nat} {X2 X3 X4 : List Value}
theorem M3.size (h : M3 x0 w lo g T t2 t3 t4 z2 z3 z4 a b v2 v3 v4 n2 n3 n4 X2 X3 X4) : lo ≤ w.heap.size := Nat.le_trans h.hl h.bel.size
/-- Behind a call that makes memory. -/
theorem M3.call {B : Nat} (h : M3 x0 w lo g T t2 t3 t4 z2 z3 z4 a b v2 v3 v4 n2 n3 n4 X2 X3 X4) (hb : Below B w w') (hB : w.heap.size ≤ B) : M3 x0 w' lo g T t2 t3 t4 z2 z3 z4 a b v2 v3 v4 n2 n3 n4 X2 X3 X4 :=
  ⟨h.row.below hb (Nat.lt_of_lt_of_le h.row.lt hB), h.bel.trans (hb.mono (Nat.le_trans h.size hB)), h.gb, h.hl,
    own_move h.o2 (fun k hk => hb.block k (Nat.lt_of_lt_of_le (h.o2.lt k hk).2 hB)), own_move h.o3 (fun k hk => hb.block k (Nat.lt_of_lt_of_le (h.o3.lt k hk).2 hB)), own_move h.o4 (fun k hk => hb.block k (Nat.lt_of_lt_of_le (h.o4.lt k hk).2 hB)), h.d2, h.d3, h.d4⟩
theorem M3.alloc (h : M3 x0 w lo g T t2 t3 t4 z2 z3 z4 a b v2 v3 v4 n2 n3 n4 X2 X3 X4) (o : Obj) : M3 x0 (w.alloc o) lo g T t2 t3 t4 z2 z3 z4 a b v2 v3 v4 n2 n3 n4 X2 X3 X4 := h.call ((Below.refl _ _).alloc (Nat.le_refl _) o) (Nat.le_refl _)
theorem M3.drew (h : M3 x0 w lo g T t2 t3 t4 z2 z3 z4 a b v2 v3 v4 n2 n3 n4 X2 X3 X4) : M3 x0 w.drew lo g T t2 t3 t4 z2 z3 z4 a b v2 v3 v4 n2 n3 n4 X2 X3 X4 := h.call (B := w.heap.size) (Below.drew (Below.refl _ _)) (Nat.le_refl _)
/-- A store into a block below lo, or above (not one of ours). -/
theorem M3.far (h : M3 x0 w lo g T t2 t3 t4 z2 z3 z4 a b v2 v3 v4 n2 n3 n4 X2 X3 X4) {p : Addr} (hp : lo ≤ p.block) (h1 : g ≠ p.block) (h2 : v2.ownBlock ≠ some p.block) (h3 : v3.ownBlock ≠ some p.block) (h4 : v4.ownBlock ≠ some p.block) (u : Value) : M3 x0 (w.setCell p u) lo g T t2 t3 t4 z2 z3 z4 a b v2 v3 v4 n2 n3 n4 X2 X3 X4 :=
  ⟨h.row.far h1 u, h.bel.setCell hp u, h.gb, h.hl,
    own_move h.o2 (fun k hk => Below.heap_setCell _ _ _ _ (fun e => h2 (by rw [hk, e]))), own_move h.o3 (fun k hk => Below.heap_setCell _ _ _ _ (fun e => h3 (by rw [hk, e]))), own_move h.o4 (fun k hk => Below.heap_setCell _ _ _ _ (fun e => h4 (by rw [hk, e]))), h.d2, h.d3, h.d4⟩

/-- List 2 has been appended to (its row may lie elsewhere now), and stored. -/
theorem M3.push2 (h : M3 x0 w lo g T t2 t3 t4 z2 z3 z4 a b v2 v3 v4 n2 n3 n4 X2 X3 X4) {u : Value} {m : Nat} {Y : List Value} (ho : w'.ownsRow lo t2 z2 u m Y) (hg : w.grownBy w' v2.ownBlock) (hat : u.ownBlock = v2.ownBlock ∨ u.ownBlock = some w.heap.size) :
    M3 x0 (w'.setCell ⟨g, 2, none⟩ u) lo g T t2 t3 t4 z2 z3 z4 a b u v3 v4 m n3 n4 Y X3 X4 := by
  have hgl := h.row.lt
  have hq : ∀ k, u.ownBlock = some k → v2.ownBlock = some k ∨ k = w.heap.size := fun k hk => by
    rcases hat with e | e
    · exact .inl (by rw [← e]; exact hk)
    · exact .inr (by rw [hk] at e; exact Option.some.inj e)
  have hng : ∀ k, u.ownBlock = some k → k ≠ g := fun k hk => by
    rcases hq k hk with e | e
    · exact (h.d2 k e).1
    · omega
  have e3 : ∀ k, v3.ownBlock = some k → v2.ownBlock ≠ some k := fun k hk e => (h.d2 k e).2.1 hk
  have m3 : ∀ k, v3.ownBlock = some k → (w'.setCell ⟨g, 2, none⟩ u).heap[k]? = w.heap[k]? := fun k hk => (Below.heap_setCell _ _ _ _ (show k ≠ g from (h.d3 k hk).1)).trans (hg.block k (h.o3.lt k hk).2 (fun e => e3 k hk e.symm))
  have s3 : ∀ k, v3.ownBlock = some k → u.ownBlock ≠ some k := fun k hk e => by
    rcases hq k e with q1 | q1
    · exact e3 k hk q1
    · have := (h.o3.lt k hk).2; omega
  have e4 : ∀ k, v4.ownBlock = some k → v2.ownBlock ≠ some k := fun k hk e => (h.d2 k e).2.2 hk
  have m4 : ∀ k, v4.ownBlock = some k → (w'.setCell ⟨g, 2, none⟩ u).heap[k]? = w.heap[k]? := fun k hk => (Below.heap_setCell _ _ _ _ (show k ≠ g from h.d4 k hk)).trans (hg.block k (h.o4.lt k hk).2 (fun e => e4 k hk e.symm))
  have s4 : ∀ k, v4.ownBlock = some k → u.ownBlock ≠ some k := fun k hk e => by
    rcases hq k e with q1 | q1
    · exact e4 k hk q1
    · have := (h.o4.lt k hk).2; omega
  have hrow : Row w' g T [a, b, v2, v3, v4] := h.row.grown hg (fun e => (h.d2 g e.symm).1 rfl)
  have hbel : Below lo x0 w' := h.bel.grown hg h.size (fun k hk => (h.o2.lt k hk).1)
  exact ⟨hrow.set_ 2 u, hbel.setCell (p := ⟨g, 2, none⟩) h.gb u, h.gb, h.hl, own_move ho (fun k hk => Below.heap_setCell _ _ _ _ (hng k hk)), own_move h.o3 m3, own_move h.o4 m4, fun k hk => ⟨hng k hk, fun e => s3 k e hk, fun e => s4 k e hk⟩, h.d3, h.d4⟩
/-- List 3 has been appended to (its row may lie elsewhere now), and stored. -/
theorem M3.push3 (h : M3 x0 w lo g T t2 t3 t4 z2 z3 z4 a b v2 v3 v4 n2 n3 n4 X2 X3 X4) {u : Value} {m : Nat} {Y : List Value} (ho : w'.ownsRow lo t3 z3 u m Y) (hg : w.grownBy w' v3.ownBlock) (hat : u.ownBlock = v3.ownBlock ∨ u.ownBlock = some w.heap.size) :
    M3 x0 (w'.setCell ⟨g, 3, none⟩ u) lo g T t2 t3 t4 z2 z3 z4 a b v2 u v4 n2 m n4 X2 Y X4 := by
  have hgl := h.row.lt
  have hq : ∀ k, u.ownBlock = some k → v3.ownBlock = some k ∨ k = w.heap.size := fun k hk => by
    rcases hat with e | e
    · exact .inl (by rw [← e]; exact hk)
    · exact .inr (by rw [hk] at e; exact Option.some.inj e)
  have hng : ∀ k, u.ownBlock = some k → k ≠ g := fun k hk => by
    rcases hq k hk with e | e
    · exact (h.d3 k e).1
    · omega
  have e2 : ∀ k, v2.ownBlock = some k → v3.ownBlock ≠ some k := fun k hk => (h.d2 k hk).2.1
  have m2 : ∀ k, v2.ownBlock = some k → (w'.setCell ⟨g, 3, none⟩ u).heap[k]? = w.heap[k]? := fun k hk => (Below.heap_setCell _ _ _ _ (show k ≠ g from (h.d2 k hk).1)).trans (hg.block k (h.o2.lt k hk).2 (fun e => e2 k hk e.symm))
  have s2 : ∀ k, v2.ownBlock = some k → u.ownBlock ≠ some k := fun k hk e => by
    rcases hq k e with q1 | q1
    · exact e2 k hk q1
    · have := (h.o2.lt k hk).2; omega
  have e4 : ∀ k, v4.ownBlock = some k → v3.ownBlock ≠ some k := fun k hk e => (h.d3 k e).2 hk
  have m4 : ∀ k, v4.ownBlock = some k → (w'.setCell ⟨g, 3, none⟩ u).heap[k]? = w.heap[k]? := fun k hk => (Below.heap_setCell _ _ _ _ (show k ≠ g from h.d4 k hk)).trans (hg.block k (h.o4.lt k hk).2 (fun e => e4 k hk e.symm))
  have s4 : ∀ k, v4.ownBlock = some k → u.ownBlock ≠ some k := fun k hk e => by
    rcases hq k e with q1 | q1
    · exact e4 k hk q1
    · have := (h.o4.lt k hk).2; omega
  have hrow : Row w' g T [a, b, v2, v3, v4] := h.row.grown hg (fun e => (h.d3 g e.symm).1 rfl)
  have hbel : Below lo x0 w' := h.bel.grown hg h.size (fun k hk => (h.o3.lt k hk).1)
  exact ⟨hrow.set_ 3 u, hbel.setCell (p := ⟨g, 3, none⟩) h.gb u, h.gb, h.hl, own_move h.o2 m2, own_move ho (fun k hk => Below.heap_setCell _ _ _ _ (hng k hk)), own_move h.o4 m4, fun k hk => ⟨(h.d2 k hk).1, s2 k hk, (h.d2 k hk).2.2⟩, fun k hk => ⟨hng k hk, fun e => s4 k e hk⟩, h.d4⟩
/-- List 4 has been appended to (its row may lie elsewhere now), and stored. -/
theorem M3.push4 (h : M3 x0 w lo g T t2 t3 t4 z2 z3 z4 a b v2 v3 v4 n2 n3 n4 X2 X3 X4) {u : Value} {m : Nat} {Y : List Value} (ho : w'.ownsRow lo t4 z4 u m Y) (hg : w.grownBy w' v4.ownBlock) (hat : u.ownBlock = v4.ownBlock ∨ u.ownBlock = some w.heap.size) :
    M3 x0 (w'.setCell ⟨g, 4, none⟩ u) lo g T t2 t3 t4 z2 z3 z4 a b v2 v3 u n2 n3 m X2 X3 Y := by
  have hgl := h.row.lt
  have hq : ∀ k, u.ownBlock = some k → v4.ownBlock = some k ∨ k = w.heap.size := fun k hk => by
    rcases hat with e | e
    · exact .inl (by rw [← e]; exact hk)
    · exact .inr (by rw [hk] at e; exact Option.some.inj e)
  have hng : ∀ k, u.ownBlock = some k → k ≠ g := fun k hk => by
    rcases hq k hk with e | e
    · exact h.d4 k e
    · omega
  have e2 : ∀ k, v2.ownBlock = some k → v4.ownBlock ≠ some k := fun k hk => (h.d2 k hk).2.2
  have m2 : ∀ k, v2.ownBlock = some k → (w'.setCell ⟨g, 4, none⟩ u).heap[k]? = w.heap[k]? := fun k hk => (Below.heap_setCell _ _ _ _ (show k ≠ g from (h.d2 k hk).1)).trans (hg.block k (h.o2.lt k hk).2 (fun e => e2 k hk e.symm))
  have s2 : ∀ k, v2.ownBlock = some k → u.ownBlock ≠ some k := fun k hk e => by
    rcases hq k e with q1 | q1
    · exact e2 k hk q1
    · have := (h.o2.lt k hk).2; omega
  have e3 : ∀ k, v3.ownBlock = some k → v4.ownBlock ≠ some k := fun k hk => (h.d3 k hk).2
  have m3 : ∀ k, v3.ownBlock = some k → (w'.setCell ⟨g, 4, none⟩ u).heap[k]? = w.heap[k]? := fun k hk => (Below.heap_setCell _ _ _ _ (show k ≠ g from (h.d3 k hk).1)).trans (hg.block k (h.o3.lt k hk).2 (fun e => e3 k hk e.symm))
  have s3 : ∀ k, v3.ownBlock = some k → u.ownBlock ≠ some k := fun k hk e => by
    rcases hq k e with q1 | q1
    · exact e3 k hk q1
    · have := (h.o3.lt k hk).2; omega
  have hrow : Row w' g T [a, b, v2, v3, v4] := h.row.grown hg (fun e => h.d4 g e.symm rfl)
  have hbel : Below lo x0 w' := h.bel.grown hg h.size (fun k hk => (h.o4.lt k hk).1)
  exact ⟨hrow.set_ 4 u, hbel.setCell (p := ⟨g, 4, none⟩) h.gb u, h.gb, h.hl, own_move h.o2 m2, own_move h.o3 m3, own_move ho (fun k hk => Below.heap_setCell _ _ _ _ (hng k hk)), fun k hk => ⟨(h.d2 k hk).1, (h.d2 k hk).2.1, s2 k hk⟩, fun k hk => ⟨(h.d3 k hk).1, s3 k hk⟩, hng⟩
end
end Go.Proofs.Ytedbngnkkfpbeaa


namespace Go.Proofs.Ytedbngnkkfpbeaa
open Go.RowKit
set_option linter.unusedVariables false
section
variable {x0 w w' : World} {lo g : Nat} {T t2 t3 t4 : TypeId} {z2 z3 z4 : Nat} {a b v2 v3 v4 : Value} {n2 n3 n4 : Nat} {X2 X3 X4 : List Value}
/-- The first number has been stored. -/
theorem M3.set0 (h : M3 x0 w lo g T t2 t3 t4 z2 z3 z4 a b v2 v3 v4 n2 n3 n4 X2 X3 X4) (u : Value) : M3 x0 (w.setCell ⟨g, 0, none⟩ u) lo g T t2 t3 t4 z2 z3 z4 u b v2 v3 v4 n2 n3 n4 X2 X3 X4 :=
  ⟨h.row.set_ 0 u, h.bel.setCell (p := ⟨g, 0, none⟩) h.gb u, h.gb, h.hl, own_move h.o2 (fun k hk => Below.heap_setCell _ _ _ _ (show k ≠ g from (h.d2 k hk).1)), own_move h.o3 (fun k hk => Below.heap_setCell _ _ _ _ (show k ≠ g from (h.d3 k hk).1)), own_move h.o4 (fun k hk => Below.heap_setCell _ _ _ _ (show k ≠ g from h.d4 k hk)), h.d2, h.d3, h.d4⟩
/-- Another list has been appended to, and stored in the place of list 4. -/
theorem M3.new4 (h : M3 x0 w lo g T t2 t3 t4 z2 z3 z4 a b v2 v3 v4 n2 n3 n4 X2 X3 X4) {vr u : Value} {m : Nat} {Y : List Value} (hvr : ∀ k, vr.ownBlock = some k → lo ≤ k ∧ k ≠ g ∧ v2.ownBlock ≠ some k ∧ v3.ownBlock ≠ some k) (ho : w'.ownsRow lo t4 z4 u m Y) (hg : w.grownBy w' vr.ownBlock) (hat : u.ownBlock = vr.ownBlock ∨ u.ownBlock = some w.heap.size) :
    M3 x0 (w'.setCell ⟨g, 4, none⟩ u) lo g T t2 t3 t4 z2 z3 z4 a b v2 v3 u n2 n3 m X2 X3 Y := by
  have hgl := h.row.lt
  have hq : ∀ k, u.ownBlock = some k → vr.ownBlock = some k ∨ k = w.heap.size := fun k hk => by
    rcases hat with e | e
    · exact .inl (by rw [← e]; exact hk)
    · exact .inr (by rw [hk] at e; exact Option.some.inj e)
  have hng : ∀ k, u.ownBlock = some k → k ≠ g := fun k hk => by
    rcases hq k hk with e | e
    · exact (hvr k e).2.1
    · omega
  have e2 : ∀ k, v2.ownBlock = some k → vr.ownBlock ≠ some k := fun k hk e => (hvr k e).2.2.1 hk
  have m2 : ∀ k, v2.ownBlock = some k → (w'.setCell ⟨g, 4, none⟩ u).heap[k]? = w.heap[k]? := fun k hk => (Below.heap_setCell _ _ _ _ (show k ≠ g from (h.d2 k hk).1)).trans (hg.block k (h.o2.lt k hk).2 (fun e => e2 k hk e.symm))
  have s2 : ∀ k, v2.ownBlock = some k → u.ownBlock ≠ some k := fun k hk e => by
    rcases hq k e with q1 | q1
    · exact e2 k hk q1
    · have := (h.o2.lt k hk).2; omega
  have e3 : ∀ k, v3.ownBlock = some k → vr.ownBlock ≠ some k := fun k hk e => (hvr k e).2.2.2 hk
  have m3 : ∀ k, v3.ownBlock = some k → (w'.setCell ⟨g, 4, none⟩ u).heap[k]? = w.heap[k]? := fun k hk => (Below.heap_setCell _ _ _ _ (show k ≠ g from (h.d3 k hk).1)).trans (hg.block k (h.o3.lt k hk).2 (fun e => e3 k hk e.symm))
  have s3 : ∀ k, v3.ownBlock = some k → u.ownBlock ≠ some k := fun k hk e => by
    rcases hq k e with q1 | q1
    · exact e3 k hk q1
    · have := (h.o3.lt k hk).2; omega
  have hrow : Row w' g T [a, b, v2, v3, v4] := h.row.grown hg (fun e => (hvr g e.symm).2.1 rfl)
  have hbel : Below lo x0 w' := h.bel.grown hg h.size (fun k hk => (hvr k hk).1)
  exact ⟨hrow.set_ 4 u, hbel.setCell (p := ⟨g, 4, none⟩) h.gb u, h.gb, h.hl, own_move h.o2 m2, own_move h.o3 m3, own_move ho (fun k hk => Below.heap_setCell _ _ _ _ (hng k hk)), fun k hk => ⟨(h.d2 k hk).1, (h.d2 k hk).2.1, s2 k hk⟩, fun k hk => ⟨(h.d3 k hk).1, s3 k hk⟩, hng⟩
theorem fresh4 (h : M3 x0 w lo g T t2 t3 t4 z2 z3 z4 a b v2 v3 v4 n2 n3 n4 X2 X3 X4) {k : Nat} (hk : w.heap.size ≤ k) : lo ≤ k ∧ k ≠ g ∧ v2.ownBlock ≠ some k ∧ v3.ownBlock ≠ some k :=
  ⟨by have := h.size; omega, by have := h.row.lt; omega, fun e => by have := (h.o2.lt k e).2; omega, fun e => by have := (h.o3.lt k e).2; omega⟩
end
theorem own_some {w : World} {base n : Nat} {t : TypeId} {A : Option Addr} {c : Nat} {xs : List Value} (h : w.ownsRow base t 1 (.slice A n c) n xs) (h0 : 0 < n) : ∃ g, A = some ⟨g, 0, none⟩ := by
  obtain ⟨_, h⟩ := h
  rcases h with ⟨e, _⟩ | ⟨q, cap, cur, e, _⟩
  · injection e with e1 e2 e3; omega
  · injection e with e1 e2 e3; exact ⟨q, e1⟩
end Go.Proofs.Ytedbngnkkfpbeaa
