/- Several texts in one: Exploring, for keys of any kind: steps with the key found or new, said without a decision; the look-up in a map of names. A struct of two numbers and two lists in a block of its own while it is being built, with a list, a map and a result's block beside it: all apart. -/
import Derived.Test.YtbdfbmohdbigfaaMgt
import Derived.Test.YtbdfbmohdbigfaaStO
import Derived.Test.YtbdfbmohdbigfaaMgb

namespace Go.Proofs.Ytbdfbmohdbigfaa
open Go.RowKit Go.Maps
set_option linter.unusedVariables false
section
variable {α : Type} [DecidableEq α]
/-- A key's place. -/
def ixL (L : List α) (x : α) : Nat := L.idxOf x
variable {nx : α → Nat → α} {first : α} {T : Nat}
theorem exR_in {k : α} {st : List α × List Int} {l : Nat} (h : nx k l ∈ (exR nx k st l).1) : exR nx k st (l + 1) = ((exR nx k st l).1, (exR nx k st l).2 ++ [((ixL (exR nx k st l).1 (nx k l) : Nat) : Int)]) := by
  rw [exR, addL_in h]; rfl
theorem exR_new {k : α} {st : List α × List Int} {l : Nat} (h : nx k l ∉ (exR nx k st l).1) : exR nx k st (l + 1) = ((exR nx k st l).1 ++ [nx k l], (exR nx k st l).2 ++ [(((exR nx k st l).1.length : Nat) : Int)]) := by
  rw [exR, idx_new h, addL_new h]
theorem ExI.old {st : List α × List Int} {n l : Nat} (h : ExI nx first T st n l) {k : α} (hk : st.1[n]? = some k) (hl : l < T) (hin : nx k l ∈ st.1) : ExI nx first T (st.1, st.2 ++ [((ixL st.1 (nx k l) : Nat) : Int)]) n (l + 1) := by
  have := h.step hk hl
  rw [addL_in hin] at this
  exact this
theorem ExI.fresh {st : List α × List Int} {n l : Nat} (h : ExI nx first T st n l) {k : α} (hk : st.1[n]? = some k) (hl : l < T) (hin : nx k l ∉ st.1) : ExI nx first T (st.1 ++ [nx k l], st.2 ++ [((st.1.length : Nat) : Int)]) n (l + 1) := by
  have := h.step hk hl
  rw [idx_new hin, addL_new hin] at this
  exact this
end
section
variable {α : Type} {P : Program} {mt kt vt : TypeId} {kv : α → Value} {ok : α → Prop}
theorem wpList_names_look2 [DecidableEq α] (H : KeyOk P mt kt vt kv ok) {ops : Array Oper} {rest : List Oper} {op : Oper} {a : Act} {Q : Exit → Act → World → Prop} (w : World) (hg : op.guard = none) (m x : Operand) (hop : op.op = Op.lookup mt m x true)
    (g : Nat) {L : List α} (hL : ∀ y ∈ L, ok y) (hn : L.Nodup) {o : Obj} (hb : w.heap[g]? = some o) (ho : NamesO kv o L) {y : α} (hy : ok y) (i : Int) (q : Bool) (hiq : (q = true ∧ y ∈ L ∧ i = ((ixL L y : Nat) : Int)) ∨ (q = false ∧ y ∉ L ∧ i = 0))
    (hm : a.eval m = .map (some g)) (hx : a.eval x = kv y)
    (hK : wpList P ops Q rest (a.put op.dst (.tuple #[.int .i64 i, .bool q])) w) :
    wpList P ops Q (op :: rest) a w := by
  rcases hiq with ⟨h1, h2, h3⟩ | ⟨h1, h2, h3⟩
  · exact wpList_names_look H w hg m x hop g hL hn hb ho hy i q (by rw [if_pos h2, h3]; rfl) (by rw [h1]; exact decide_eq_true h2) hm hx hK
  · exact wpList_names_look H w hg m x hop g hL hn hb ho hy i q (by rw [if_neg h2, h3]) (by rw [h1]; exact decide_eq_false h2) hm hx hK
theorem wpList_names_put2 (H : KeyOk P mt kt vt kv ok) [DecidableEq α] {ops : Array Oper} {rest : List Oper} {op : Oper} {a : Act} {Q : Exit → Act → World → Prop} (w : World) (hg : op.guard = none) (m x v : Operand) (hop : op.op = Op.mapUpdate mt m x v ∨ op.op = Op.insert mt m x v)
    (g : Nat) {L : List α} (hL : ∀ y ∈ L, ok y) (hn : L.Nodup) {o : Obj} (hb : w.heap[g]? = some o) (ho : NamesO kv o L) {y : α} (hy : ok y) (hnew : y ∉ L)
    (hm : a.eval m = .map (some g)) (hx : a.eval x = kv y) (hv : a.eval v = .int .i64 (L.length : Int))
    (hK : ∀ w' o', w'.heap[g]? = some o' → NamesO kv o' (L ++ [y]) → But g w w' → wpList P ops Q rest (a.put op.dst undef) w') :
    wpList P ops Q (op :: rest) a w := wpList_names_put H w hg m x v hop g hL hn hb ho hy hnew hm hx hv hK
end
end Go.Proofs.Ytbdfbmohdbigfaa


namespace Go.Proofs.Ytbdfbmohdbigfaa
open Go.RowKit
set_option linter.unusedVariables false
structure Xb (x0 w : World) (lo g : Nat) (T t2 t3 t4 : TypeId) (z4 : Nat) (a b v2 v3 v4 : Value) (n2 n3 n4 : Nat) (X2 X3 X4 : List Value) (gm gr : Nat) (om og : Obj) : Prop where
  row : Row w g T [a, b, v2, v3]
  bel : Below lo x0 w
  gb : lo ≤ g
  hl : lo ≤ x0.heap.size
  o2 : w.ownsRow lo t2 1 v2 n2 X2
  o3 : w.ownsRow lo t3 1 v3 n3 X3
  o4 : w.ownsRow lo t4 z4 v4 n4 X4
  d2 : ∀ k, v2.ownBlock = some k → k ≠ g ∧ k ≠ gm ∧ k ≠ gr ∧ v3.ownBlock ≠ some k ∧ v4.ownBlock ≠ some k
  d3 : ∀ k, v3.ownBlock = some k → k ≠ g ∧ k ≠ gm ∧ k ≠ gr ∧ v4.ownBlock ≠ some k
  d4 : ∀ k, v4.ownBlock = some k → k ≠ g ∧ k ≠ gm ∧ k ≠ gr
  hm : w.heap[gm]? = some om
  hr : w.heap[gr]? = some og
  em : lo ≤ gm ∧ gm ≠ g ∧ gm ≠ gr
  er : lo ≤ gr ∧ gr ≠ g
theorem heap_lt {w : World} {g : Nat} {o : Obj} (h : w.heap[g]? = some o) : g < w.heap.size := by
  rcases Nat.lt_or_ge g w.heap.size with hlt | hge
  · exact hlt
  · rw [Array.getElem?_eq_none hge] at h; cases h
/-- Where a row lies behind an append. -/
theorem at_grown {u v : Value} {n : Nat} (hat : u.ownBlock = v.ownBlock ∨ u.ownBlock = some n) : ∀ k, u.ownBlock = some k → v.ownBlock = some k ∨ n ≤ k := fun k hk => by
  rcases hat with e | e
  · exact .inl (by rw [← e]; exact hk)
  · rw [hk] at e; injection e with e; exact .inr (by omega)
theorem at_push {v : Value} {g m c n : Nat} (hat : v.ownBlock = some g ∨ n ≤ g) : ∀ k, (Value.slice (some ⟨g, 0, none⟩) m c).ownBlock = some k → v.ownBlock = some k ∨ n ≤ k := fun k hk => by
  simp [Value.ownBlock] at hk; subst hk; exact hat
section
variable {x0 w w' : World} {lo g : Nat} {T t2 t3 t4 : TypeId} {z4 : Nat} {a b v2 v3 v4 : Value} {n2 n3 n4 : Nat} {X2 X3 X4 : List Value} {gm gr : Nat} {om og : Obj}
theorem Xb.size (h : Xb x0 w lo g T t2 t3 t4 z4 a b v2 v3 v4 n2 n3 n4 X2 X3 X4 gm gr om og) : lo ≤ w.heap.size := Nat.le_trans h.hl h.bel.size
/-- Behind a call that makes memory. -/
theorem Xb.call {B : Nat} (h : Xb x0 w lo g T t2 t3 t4 z4 a b v2 v3 v4 n2 n3 n4 X2 X3 X4 gm gr om og) (hb : Below B w w') (hB : w.heap.size ≤ B) : Xb x0 w' lo g T t2 t3 t4 z4 a b v2 v3 v4 n2 n3 n4 X2 X3 X4 gm gr om og :=
  ⟨h.row.below hb (Nat.lt_of_lt_of_le h.row.lt hB), h.bel.trans (hb.mono (Nat.le_trans h.size hB)), h.gb, h.hl,
    own_move h.o2 (fun k hk => hb.block k (Nat.lt_of_lt_of_le (h.o2.lt k hk).2 hB)), own_move h.o3 (fun k hk => hb.block k (Nat.lt_of_lt_of_le (h.o3.lt k hk).2 hB)), own_move h.o4 (fun k hk => hb.block k (Nat.lt_of_lt_of_le (h.o4.lt k hk).2 hB)), h.d2, h.d3, h.d4,
    (hb.block gm (Nat.lt_of_lt_of_le (heap_lt h.hm) hB)).trans h.hm, (hb.block gr (Nat.lt_of_lt_of_le (heap_lt h.hr) hB)).trans h.hr, h.em, h.er⟩
theorem Xb.alloc (h : Xb x0 w lo g T t2 t3 t4 z4 a b v2 v3 v4 n2 n3 n4 X2 X3 X4 gm gr om og) (o : Obj) : Xb x0 (w.alloc o) lo g T t2 t3 t4 z4 a b v2 v3 v4 n2 n3 n4 X2 X3 X4 gm gr om og := h.call ((Below.refl _ _).alloc (Nat.le_refl _) o) (Nat.le_refl _)
theorem Xb.drew (h : Xb x0 w lo g T t2 t3 t4 z4 a b v2 v3 v4 n2 n3 n4 X2 X3 X4 gm gr om og) : Xb x0 w.drew lo g T t2 t3 t4 z4 a b v2 v3 v4 n2 n3 n4 X2 X3 X4 gm gr om og := h.call (B := w.heap.size) (Below.drew (Below.refl _ _)) (Nat.le_refl _)
theorem Xb.cell (h : Xb x0 w lo g T t2 t3 t4 z4 a b v2 v3 v4 n2 n3 n4 X2 X3 X4 gm gr om og) (k : Nat) : w.cell? ⟨g, k, none⟩ = [a, b, v2, v3][k]? := h.row.cell k
/-- The map has been written. -/
theorem Xb.map {om' : Obj} (h : Xb x0 w lo g T t2 t3 t4 z4 a b v2 v3 v4 n2 n3 n4 X2 X3 X4 gm gr om og) (hb : But gm w w') (ho : w'.heap[gm]? = some om') : Xb x0 w' lo g T t2 t3 t4 z4 a b v2 v3 v4 n2 n3 n4 X2 X3 X4 gm gr om' og := by
  have hk : ∀ k, k < w.heap.size → k ≠ gm → w'.heap[k]? = w.heap[k]? := hb.2.2.2.2
  refine ⟨(hk g h.row.lt (fun e => h.em.2.1 e.symm)).trans h.row, ?_, h.gb, h.hl, own_move h.o2 (fun k q => hk k (h.o2.lt k q).2 (h.d2 k q).2.1), own_move h.o3 (fun k q => hk k (h.o3.lt k q).2 (h.d3 k q).2.1), own_move h.o4 (fun k q => hk k (h.o4.lt k q).2 (h.d4 k q).2.1), h.d2, h.d3, h.d4, ho, (hk gr (heap_lt h.hr) (fun e => h.em.2.2 e.symm)).trans h.hr, h.em, h.er⟩
  exact h.bel.trans (hb.below h.em.1 h.size)
/-- List 2 has been appended to (its row may lie elsewhere now), and stored. -/
theorem Xb.push2 (h : Xb x0 w lo g T t2 t3 t4 z4 a b v2 v3 v4 n2 n3 n4 X2 X3 X4 gm gr om og) {u : Value} {m : Nat} {Y : List Value} (ho : w'.ownsRow lo t2 1 u m Y) (hg : w.grownBy w' v2.ownBlock) (hq : ∀ k, u.ownBlock = some k → v2.ownBlock = some k ∨ w.heap.size ≤ k) :
    Xb x0 (w'.setCell ⟨g, 2, none⟩ u) lo g T t2 t3 t4 z4 a b u v3 v4 m n3 n4 Y X3 X4 gm gr om og := by
  have lg : g < w.heap.size := h.row.lt
  have hng : ∀ k, u.ownBlock = some k → k ≠ g := fun k hk => by
    rcases hq k hk with e | e
    · exact (h.d2 k e).1
    · omega
  have lgm : gm < w.heap.size := heap_lt h.hm
  have hngm : ∀ k, u.ownBlock = some k → k ≠ gm := fun k hk => by
    rcases hq k hk with e | e
    · exact (h.d2 k e).2.1
    · omega
  have lgr : gr < w.heap.size := heap_lt h.hr
  have hngr : ∀ k, u.ownBlock = some k → k ≠ gr := fun k hk => by
    rcases hq k hk with e | e
    · exact (h.d2 k e).2.2.1
    · omega
  have e3 : ∀ k, v3.ownBlock = some k → v2.ownBlock ≠ some k := fun k hk e => (h.d2 k e).2.2.2.1 hk
  have m3 : ∀ k, v3.ownBlock = some k → (w'.setCell ⟨g, 2, none⟩ u).heap[k]? = w.heap[k]? := fun k hk => (Below.heap_setCell _ _ _ _ (show k ≠ g from (h.d3 k hk).1)).trans (hg.block k (h.o3.lt k hk).2 (fun e => e3 k hk e.symm))
  have s3 : ∀ k, v3.ownBlock = some k → u.ownBlock ≠ some k := fun k hk e => by
    rcases hq k e with q1 | q1
    · exact e3 k hk q1
    · have := (h.o3.lt k hk).2; omega
  have e4 : ∀ k, v4.ownBlock = some k → v2.ownBlock ≠ some k := fun k hk e => (h.d2 k e).2.2.2.2 hk
  have m4 : ∀ k, v4.ownBlock = some k → (w'.setCell ⟨g, 2, none⟩ u).heap[k]? = w.heap[k]? := fun k hk => (Below.heap_setCell _ _ _ _ (show k ≠ g from (h.d4 k hk).1)).trans (hg.block k (h.o4.lt k hk).2 (fun e => e4 k hk e.symm))
  have s4 : ∀ k, v4.ownBlock = some k → u.ownBlock ≠ some k := fun k hk e => by
    rcases hq k e with q1 | q1
    · exact e4 k hk q1
    · have := (h.o4.lt k hk).2; omega
  have hrow : Row w' g T [a, b, v2, v3] := h.row.grown hg (fun e => (h.d2 g e.symm).1 rfl)
  have hbel : Below lo x0 w' := h.bel.grown hg h.size (fun k hk => (h.o2.lt k hk).1)
  have hgm' : (w'.setCell ⟨g, 2, none⟩ u).heap[gm]? = some om := (Below.heap_setCell _ _ _ _ (show gm ≠ g from h.em.2.1)).trans ((hg.block gm lgm (fun e => (h.d2 gm e.symm).2.1 rfl)).trans h.hm)
  have hgr' : (w'.setCell ⟨g, 2, none⟩ u).heap[gr]? = some og := (Below.heap_setCell _ _ _ _ (show gr ≠ g from h.er.2)).trans ((hg.block gr lgr (fun e => (h.d2 gr e.symm).2.2.1 rfl)).trans h.hr)
  exact ⟨hrow.set_ 2 u, hbel.setCell (p := ⟨g, 2, none⟩) h.gb u, h.gb, h.hl, own_move ho (fun k hk => Below.heap_setCell _ _ _ _ (hng k hk)), own_move h.o3 m3, own_move h.o4 m4, fun k hk => ⟨hng k hk, hngm k hk, hngr k hk, fun e => s3 k e hk, fun e => s4 k e hk⟩, fun k hk => ⟨(h.d3 k hk).1, (h.d3 k hk).2.1, (h.d3 k hk).2.2.1, (h.d3 k hk).2.2.2⟩, fun k hk => ⟨(h.d4 k hk).1, (h.d4 k hk).2.1, (h.d4 k hk).2.2⟩, hgm', hgr', h.em, h.er⟩
/-- List 3 has been appended to (its row may lie elsewhere now), and stored. -/
theorem Xb.push3 (h : Xb x0 w lo g T t2 t3 t4 z4 a b v2 v3 v4 n2 n3 n4 X2 X3 X4 gm gr om og) {u : Value} {m : Nat} {Y : List Value} (ho : w'.ownsRow lo t3 1 u m Y) (hg : w.grownBy w' v3.ownBlock) (hq : ∀ k, u.ownBlock = some k → v3.ownBlock = some k ∨ w.heap.size ≤ k) :
    Xb x0 (w'.setCell ⟨g, 3, none⟩ u) lo g T t2 t3 t4 z4 a b v2 u v4 n2 m n4 X2 Y X4 gm gr om og := by
  have lg : g < w.heap.size := h.row.lt
  have hng : ∀ k, u.ownBlock = some k → k ≠ g := fun k hk => by
    rcases hq k hk with e | e
    · exact (h.d3 k e).1
    · omega
  have lgm : gm < w.heap.size := heap_lt h.hm
  have hngm : ∀ k, u.ownBlock = some k → k ≠ gm := fun k hk => by
    rcases hq k hk with e | e
    · exact (h.d3 k e).2.1
    · omega
  have lgr : gr < w.heap.size := heap_lt h.hr
  have hngr : ∀ k, u.ownBlock = some k → k ≠ gr := fun k hk => by
    rcases hq k hk with e | e
    · exact (h.d3 k e).2.2.1
    · omega
  have e2 : ∀ k, v2.ownBlock = some k → v3.ownBlock ≠ some k := fun k hk => (h.d2 k hk).2.2.2.1
  have m2 : ∀ k, v2.ownBlock = some k → (w'.setCell ⟨g, 3, none⟩ u).heap[k]? = w.heap[k]? := fun k hk => (Below.heap_setCell _ _ _ _ (show k ≠ g from (h.d2 k hk).1)).trans (hg.block k (h.o2.lt k hk).2 (fun e => e2 k hk e.symm))
  have s2 : ∀ k, v2.ownBlock = some k → u.ownBlock ≠ some k := fun k hk e => by
    rcases hq k e with q1 | q1
    · exact e2 k hk q1
    · have := (h.o2.lt k hk).2; omega
  have e4 : ∀ k, v4.ownBlock = some k → v3.ownBlock ≠ some k := fun k hk e => (h.d3 k e).2.2.2 hk
  have m4 : ∀ k, v4.ownBlock = some k → (w'.setCell ⟨g, 3, none⟩ u).heap[k]? = w.heap[k]? := fun k hk => (Below.heap_setCell _ _ _ _ (show k ≠ g from (h.d4 k hk).1)).trans (hg.block k (h.o4.lt k hk).2 (fun e => e4 k hk e.symm))
  have s4 : ∀ k, v4.ownBlock = some k → u.ownBlock ≠ some k := fun k hk e => by
    rcases hq k e with q1 | q1
    · exact e4 k hk q1
    · have := (h.o4.lt k hk).2; omega
  have hrow : Row w' g T [a, b, v2, v3] := h.row.grown hg (fun e => (h.d3 g e.symm).1 rfl)
  have hbel : Below lo x0 w' := h.bel.grown hg h.size (fun k hk => (h.o3.lt k hk).1)
  have hgm' : (w'.setCell ⟨g, 3, none⟩ u).heap[gm]? = some om := (Below.heap_setCell _ _ _ _ (show gm ≠ g from h.em.2.1)).trans ((hg.block gm lgm (fun e => (h.d3 gm e.symm).2.1 rfl)).trans h.hm)
  have hgr' : (w'.setCell ⟨g, 3, none⟩ u).heap[gr]? = some og := (Below.heap_setCell _ _ _ _ (show gr ≠ g from h.er.2)).trans ((hg.block gr lgr (fun e => (h.d3 gr e.symm).2.2.1 rfl)).trans h.hr)
  exact ⟨hrow.set_ 3 u, hbel.setCell (p := ⟨g, 3, none⟩) h.gb u, h.gb, h.hl, own_move h.o2 m2, own_move ho (fun k hk => Below.heap_setCell _ _ _ _ (hng k hk)), own_move h.o4 m4, fun k hk => ⟨(h.d2 k hk).1, (h.d2 k hk).2.1, (h.d2 k hk).2.2.1, s2 k hk, (h.d2 k hk).2.2.2.2⟩, fun k hk => ⟨hng k hk, hngm k hk, hngr k hk, fun e => s4 k e hk⟩, fun k hk => ⟨(h.d4 k hk).1, (h.d4 k hk).2.1, (h.d4 k hk).2.2⟩, hgm', hgr', h.em, h.er⟩
/-- List 4 has been appended to (its row may lie elsewhere now). -/
theorem Xb.push4 (h : Xb x0 w lo g T t2 t3 t4 z4 a b v2 v3 v4 n2 n3 n4 X2 X3 X4 gm gr om og) {u : Value} {m : Nat} {Y : List Value} (ho : w'.ownsRow lo t4 z4 u m Y) (hg : w.grownBy w' v4.ownBlock) (hq : ∀ k, u.ownBlock = some k → v4.ownBlock = some k ∨ w.heap.size ≤ k) :
    Xb x0 w' lo g T t2 t3 t4 z4 a b v2 v3 u n2 n3 m X2 X3 Y gm gr om og := by
  have lg : g < w.heap.size := h.row.lt
  have hng : ∀ k, u.ownBlock = some k → k ≠ g := fun k hk => by
    rcases hq k hk with e | e
    · exact (h.d4 k e).1
    · omega
  have lgm : gm < w.heap.size := heap_lt h.hm
  have hngm : ∀ k, u.ownBlock = some k → k ≠ gm := fun k hk => by
    rcases hq k hk with e | e
    · exact (h.d4 k e).2.1
    · omega
  have lgr : gr < w.heap.size := heap_lt h.hr
  have hngr : ∀ k, u.ownBlock = some k → k ≠ gr := fun k hk => by
    rcases hq k hk with e | e
    · exact (h.d4 k e).2.2
    · omega
  have e2 : ∀ k, v2.ownBlock = some k → v4.ownBlock ≠ some k := fun k hk => (h.d2 k hk).2.2.2.2
  have m2 : ∀ k, v2.ownBlock = some k → w'.heap[k]? = w.heap[k]? := fun k hk => (hg.block k (h.o2.lt k hk).2 (fun e => e2 k hk e.symm))
  have s2 : ∀ k, v2.ownBlock = some k → u.ownBlock ≠ some k := fun k hk e => by
    rcases hq k e with q1 | q1
    · exact e2 k hk q1
    · have := (h.o2.lt k hk).2; omega
  have e3 : ∀ k, v3.ownBlock = some k → v4.ownBlock ≠ some k := fun k hk => (h.d3 k hk).2.2.2
  have m3 : ∀ k, v3.ownBlock = some k → w'.heap[k]? = w.heap[k]? := fun k hk => (hg.block k (h.o3.lt k hk).2 (fun e => e3 k hk e.symm))
  have s3 : ∀ k, v3.ownBlock = some k → u.ownBlock ≠ some k := fun k hk e => by
    rcases hq k e with q1 | q1
    · exact e3 k hk q1
    · have := (h.o3.lt k hk).2; omega
  have hrow : Row w' g T [a, b, v2, v3] := h.row.grown hg (fun e => (h.d4 g e.symm).1 rfl)
  have hbel : Below lo x0 w' := h.bel.grown hg h.size (fun k hk => (h.o4.lt k hk).1)
  have hgm' : w'.heap[gm]? = some om := (hg.block gm lgm (fun e => (h.d4 gm e.symm).2.1 rfl)).trans h.hm
  have hgr' : w'.heap[gr]? = some og := (hg.block gr lgr (fun e => (h.d4 gr e.symm).2.2 rfl)).trans h.hr
  exact ⟨hrow, hbel, h.gb, h.hl, own_move h.o2 m2, own_move h.o3 m3, ho, fun k hk => ⟨(h.d2 k hk).1, (h.d2 k hk).2.1, (h.d2 k hk).2.2.1, (h.d2 k hk).2.2.2.1, s2 k hk⟩, fun k hk => ⟨(h.d3 k hk).1, (h.d3 k hk).2.1, (h.d3 k hk).2.2.1, s3 k hk⟩, fun k hk => ⟨hng k hk, hngm k hk, hngr k hk⟩, hgm', hgr', h.em, h.er⟩
end
end Go.Proofs.Ytbdfbmohdbigfaa
