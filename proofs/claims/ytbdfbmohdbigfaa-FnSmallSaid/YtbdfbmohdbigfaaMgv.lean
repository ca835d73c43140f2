/- Several texts in one: Exploring, for keys of any kind: steps with the key found or new, said without a decision; the look-up in a map of names. A struct of two numbers and two lists in a block of its own while it is being built, with a list, a map and a result's block beside it: all apart. BoolS: marks and what is held against them. A Plain that a call handed out, or that a law copied: equal to another one, marked, held. -/
import Derived.Test.YtbdfbmohdbigfaaMgr
import Derived.Test.YtbdfbmohdbigfaaMgh
import Derived.Test.YtbdfbmohdbigfaaMgb
import Derived.Test.YtbdfbmohdbigfaaMgf
import Derived.Test.YtbdfbmohdbigfaaMgs
import Derived.Test.YtbdfbmohdbigfaaMgg

namespace Go.Proofs.Ytbdfbmohdbigfaa
open Go.RowKit Go.Maps
set_option linter.unusedVariables false
section
variable {α : Type} [DecidableEq α]
/-- A key's place. -/
def ixL (L : List α) (x : α) : Nat := L.idxOf x
variable {nx : α → Nat → α} {first : α} {T : Nat}
theorem exR_in {k : α} {st : List α × List Int} {l : Nat} (h : nx k l ∈ (exR nx k st l).1) : exR nx k st (l + 1) = ((exR nx k st l).1, (exR nx k st l).2 ++ [((ixL (exR nx k st l).1 (nx k l) : Nat) : Int)]) := by
  rw [exR, addL_in h]; rfl
theorem exR_new {k : α} {st : List α × List Int} {l : Nat} (h : nx k l ∉ (exR nx k st l).1) : exR nx k st (l + 1) = ((exR nx k st l).1 ++ [nx k l], (exR nx k st l).2 ++ [(((exR nx k st l).1.length : Nat) : Int)]) := by
  rw [exR, idx_new h, addL_new h]
theorem ExI.old {st : List α × List Int} {n l : Nat} (h : ExI nx first T st n l) {k : α} (hk : st.1[n]? = some k) (hl : l < T) (hin : nx k l ∈ st.1) : ExI nx first T (st.1, st.2 ++ [((ixL st.1 (nx k l) : Nat) : Int)]) n (l + 1) := by
  have := h.step hk hl
  rw [addL_in hin] at this
  exact this
theorem ExI.fresh {st : List α × List Int} {n l : Nat} (h : ExI nx first T st n l) {k : α} (hk : st.1[n]? = some k) (hl : l < T) (hin : nx k l ∉ st.1) : ExI nx first T (st.1 ++ [nx k l], st.2 ++ [((st.1.length : Nat) : Int)]) n (l + 1) := by
  have := h.step hk hl
  rw [idx_new hin, addL_new hin] at this
  exact this
end
section
variable {α : Type} {P : Program} {mt kt vt : TypeId} {kv : α → Value} {ok : α → Prop}
theorem wpList_names_look2 [DecidableEq α] (H : KeyOk P mt kt vt kv ok) {ops : Array Oper} {rest : List Oper} {op : Oper} {a : Act} {Q : Exit → Act → World → Prop} (w : World) (hg : op.guard = none) (m x : Operand) (hop : op.op = Op.lookup mt m x true)
    (g : Nat) {L : List α} (hL : ∀ y ∈ L, ok y) (hn : L.Nodup) {o : Obj} (hb : w.heap[g]? = some o) (ho : NamesO kv o L) {y : α} (hy : ok y) (i : Int) (q : Bool) (hiq : (q = true ∧ y ∈ L ∧ i = ((ixL L y : Nat) : Int)) ∨ (q = false ∧ y ∉ L ∧ i = 0))
    (hm : a.eval m = .map (some g)) (hx : a.eval x = kv y)
    (hK : wpList P ops Q rest (a.put op.dst (.tuple #[.int .i64 i, .bool q])) w) :
    wpList P ops Q (op :: rest) a w := by
  rcases hiq with ⟨h1, h2, h3⟩ | ⟨h1, h2, h3⟩
  · exact wpList_names_look H w hg m x hop g hL hn hb ho hy i q (by rw [if_pos h2, h3]; rfl) (by rw [h1]; exact decide_eq_true h2) hm hx hK
  · exact wpList_names_look H w hg m x hop g hL hn hb ho hy i q (by rw [if_neg h2, h3]) (by rw [h1]; exact decide_eq_false h2) hm hx hK
theorem wpList_names_put2 (H : KeyOk P mt kt vt kv ok) [DecidableEq α] {ops : Array Oper} {rest : List Oper} {op : Oper} {a : Act} {Q : Exit → Act → World → Prop} (w : World) (hg : op.guard = none) (m x v : Operand) (hop : op.op = Op.mapUpdate mt m x v ∨ op.op = Op.insert mt m x v)
    (g : Nat) {L : List α} (hL : ∀ y ∈ L, ok y) (hn : L.Nodup) {o : Obj} (hb : w.heap[g]? = some o) (ho : NamesO kv o L) {y : α} (hy : ok y) (hnew : y ∉ L)
    (hm : a.eval m = .map (some g)) (hx : a.eval x = kv y) (hv : a.eval v = .int .i64 (L.length : Int))
    (hK : ∀ w' o', w'.heap[g]? = some o' → NamesO kv o' (L ++ [y]) → But g w w' → wpList P ops Q rest (a.put op.dst undef) w') :
    wpList P ops Q (op :: rest) a w := wpList_names_put H w hg m x v hop g hL hn hb ho hy hnew hm hx hv hK
end
end Go.Proofs.Ytbdfbmohdbigfaa


namespace Go.Proofs.Ytbdfbmohdbigfaa
open Go.RowKit
set_option linter.unusedVariables false
structure Xb (x0 w : World) (lo g : Nat) (T t2 t3 t4 : TypeId) (z4 : Nat) (a b v2 v3 v4 : Value) (n2 n3 n4 : Nat) (X2 X3 X4 : List Value) (gm gr : Nat) (om og : Obj) : Prop where
  row : Row w g T [a, b, v2, v3]
  bel : Below lo x0 w
  gb : lo ≤ g
  hl : lo ≤ x0.heap.size
  o2 : w.ownsRow lo t2 1 v2 n2 X2
  o3 : w.ownsRow lo t3 1 v3 n3 X3
  o4 : w.ownsRow lo t4 z4 v4 n4 X4
  d2 : ∀ k, v2.ownBlock = some k → k ≠ g ∧ k ≠ gm ∧ k ≠ gr ∧ v3.ownBlock ≠ some k ∧ v4.ownBlock ≠ some k
  d3 : ∀ k, v3.ownBlock = some k → k ≠ g ∧ k ≠ gm ∧ k ≠ gr ∧ v4.ownBlock ≠ some k
  d4 : ∀ k, v4.ownBlock = some k → k ≠ g ∧ k ≠ gm ∧ k ≠ gr
  hm : w.heap[gm]? = some om
  hr : w.heap[gr]? = some og
  em : lo ≤ gm ∧ gm ≠ g ∧ gm ≠ gr
  er : lo ≤ gr ∧ gr ≠ g
theorem heap_lt {w : World} {g : Nat} {o : Obj} (h : w.heap[g]? = some o) : g < w.heap.size := by
  rcases Nat.lt_or_ge g w.heap.size with hlt | hge
  · exact hlt
  · rw [Array.getElem?_eq_none hge] at h; cases h
/-- Where a row lies behind an append. -/
theorem at_grown {u v : Value} {n : Nat} (hat : u.ownBlock = v.ownBlock ∨ u.ownBlock = some n) : ∀ k, u.ownBlock = some k → v.ownBlock = some k ∨ n ≤ k := fun k hk => by
  rcases hat with e | e
  · exact .inl (by rw [← e]; exact hk)
  · rw [hk] at e; injection e with e; exact .inr (by omega)
theorem at_push {v : Value} {g m c n : Nat} (hat : v.ownBlock = some g ∨ n ≤ g) : ∀ k, (Value.slice (some ⟨g, 0, none⟩) m c).ownBlock = some k → v.ownBlock = some k ∨ n ≤ k := fun k hk => by
  simp [Value.ownBlock] at hk; subst hk; exact hat
section
variable {x0 w w' : World} {lo g : Nat} {T t2 t3 t4 : TypeId} {z4 : Nat} {a b v2 v3 v4 : Value} {n2 n3 n4 : Nat} {X2 X3 X4 : List Value} {gm gr : Nat} {om og : Obj}
theorem Xb.size (h : Xb x0 w lo g T t2 t3 t4 z4 a b v2 v3 v4 n2 n3 n4 X2 X3 X4 gm gr om og) : lo ≤ w.heap.size := Nat.le_trans h.hl h.bel.size
/-- Behind a call that makes memory. -/
theorem Xb.call {B : Nat} (h : Xb x0 w lo g T t2 t3 t4 z4 a b v2 v3 v4 n2 n3 n4 X2 X3 X4 gm gr om og) (hb : Below B w w') (hB : w.heap.size ≤ B) : Xb x0 w' lo g T t2 t3 t4 z4 a b v2 v3 v4 n2 n3 n4 X2 X3 X4 gm gr om og :=
  ⟨h.row.below hb (Nat.lt_of_lt_of_le h.row.lt hB), h.bel.trans (hb.mono (Nat.le_trans h.size hB)), h.gb, h.hl,
    own_move h.o2 (fun k hk => hb.block k (Nat.lt_of_lt_of_le (h.o2.lt k hk).2 hB)), own_move h.o3 (fun k hk => hb.block k (Nat.lt_of_lt_of_le (h.o3.lt k hk).2 hB)), own_move h.o4 (fun k hk => hb.block k (Nat.lt_of_lt_of_le (h.o4.lt k hk).2 hB)), h.d2, h.d3, h.d4,
    (hb.block gm (Nat.lt_of_lt_of_le (heap_lt h.hm) hB)).trans h.hm, (hb.block gr (Nat.lt_of_lt_of_le (heap_lt h.hr) hB)).trans h.hr, h.em, h.er⟩
theorem Xb.alloc (h : Xb x0 w lo g T t2 t3 t4 z4 a b v2 v3 v4 n2 n3 n4 X2 X3 X4 gm gr om og) (o : Obj) : Xb x0 (w.alloc o) lo g T t2 t3 t4 z4 a b v2 v3 v4 n2 n3 n4 X2 X3 X4 gm gr om og := h.call ((Below.refl _ _).alloc (Nat.le_refl _) o) (Nat.le_refl _)
theorem Xb.drew (h : Xb x0 w lo g T t2 t3 t4 z4 a b v2 v3 v4 n2 n3 n4 X2 X3 X4 gm gr om og) : Xb x0 w.drew lo g T t2 t3 t4 z4 a b v2 v3 v4 n2 n3 n4 X2 X3 X4 gm gr om og := h.call (B := w.heap.size) (Below.drew (Below.refl _ _)) (Nat.le_refl _)
theorem Xb.cell (h : Xb x0 w lo g T t2 t3 t4 z4 a b v2 v3 v4 n2 n3 n4 X2 X3 X4 gm gr om og) (k : Nat) : w.cell? ⟨g, k, none⟩ = [a, b, v2, v3][k]? := h.row.cell k
/-- The map has been written. -/
theorem Xb.map {om' : Obj} (h : Xb x0 w lo g T t2 t3 t4 z4 a b v2 v3 v4 n2 n3 n4 X2 X3 X4 gm gr om og) (hb : But gm w w') (ho : w'.heap[gm]? = some om') : Xb x0 w' lo g T t2 t3 t4 z4 a b v2 v3 v4 n2 n3 n4 X2 X3 X4 gm gr om' og := by
  have hk : ∀ k, k < w.heap.size → k ≠ gm → w'.heap[k]? = w.heap[k]? := hb.2.2.2.2
  refine ⟨(hk g h.row.lt (fun e => h.em.2.1 e.symm)).trans h.row, ?_, h.gb, h.hl, own_move h.o2 (fun k q => hk k (h.o2.lt k q).2 (h.d2 k q).2.1), own_move h.o3 (fun k q => hk k (h.o3.lt k q).2 (h.d3 k q).2.1), own_move h.o4 (fun k q => hk k (h.o4.lt k q).2 (h.d4 k q).2.1), h.d2, h.d3, h.d4, ho, (hk gr (heap_lt h.hr) (fun e => h.em.2.2 e.symm)).trans h.hr, h.em, h.er⟩
  exact h.bel.trans (hb.below h.em.1 h.size)
/-- List 2 has been appended to (its row may lie elsewhere now), and stored. -/
theorem Xb.push2 (h : Xb x0 w lo g T t2 t3 t4 z4 a b v2 v3 v4 n2 n3 n4 X2 X3 X4 gm gr om og) {u : Value} {m : Nat} {Y : List Value} (ho : w'.ownsRow lo t2 1 u m Y) (hg : w.grownBy w' v2.ownBlock) (hq : ∀ k, u.ownBlock = some k → v2.ownBlock = some k ∨ w.heap.size ≤ k) :
    Xb x0 (w'.setCell ⟨g, 2, none⟩ u) lo g T t2 t3 t4 z4 a b u v3 v4 m n3 n4 Y X3 X4 gm gr om og := by
  have lg : g < w.heap.size := h.row.lt
  have hng : ∀ k, u.ownBlock = some k → k ≠ g := fun k hk => by
    rcases hq k hk with e | e
    · exact (h.d2 k e).1
    · omega
  have lgm : gm < w.heap.size := heap_lt h.hm
  have hngm : ∀ k, u.ownBlock = some k → k ≠ gm := fun k hk => by
    rcases hq k hk with e | e
    · exact (h.d2 k e).2.1
    · omega
  have lgr : gr < w.heap.size := heap_lt h.hr
  have hngr : ∀ k, u.ownBlock = some k → k ≠ gr := fun k hk => by
    rcases hq k hk with e | e
    · exact (h.d2 k e).2.2.1
    · omega
  have e3 : ∀ k, v3.ownBlock = some k → v2.ownBlock ≠ some k := fun k hk e => (h.d2 k e).2.2.2.1 hk
  have m3 : ∀ k, v3.ownBlock = some k → (w'.setCell ⟨g, 2, none⟩ u).heap[k]? = w.heap[k]? := fun k hk => (Below.heap_setCell _ _ _ _ (show k ≠ g from (h.d3 k hk).1)).trans (hg.block k (h.o3.lt k hk).2 (fun e => e3 k hk e.symm))
  have s3 : ∀ k, v3.ownBlock = some k → u.ownBlock ≠ some k := fun k hk e => by
    rcases hq k e with q1 | q1
    · exact e3 k hk q1
    · have := (h.o3.lt k hk).2; omega
  have e4 : ∀ k, v4.ownBlock = some k → v2.ownBlock ≠ some k := fun k hk e => (h.d2 k e).2.2.2.2 hk
  have m4 : ∀ k, v4.ownBlock = some k → (w'.setCell ⟨g, 2, none⟩ u).heap[k]? = w.heap[k]? := fun k hk => (Below.heap_setCell _ _ _ _ (show k ≠ g from (h.d4 k hk).1)).trans (hg.block k (h.o4.lt k hk).2 (fun e => e4 k hk e.symm))
  have s4 : ∀ k, v4.ownBlock = some k → u.ownBlock ≠ some k := fun k hk e => by
    rcases hq k e with q1 | q1
    · exact e4 k hk q1
    · have := (h.o4.lt k hk).2; omega
  have hrow : Row w' g T [a, b, v2, v3] := h.row.grown hg (fun e => (h.d2 g e.symm).1 rfl)
  have hbel : Below lo x0 w' := h.bel.grown hg h.size (fun k hk => (h.o2.lt k hk).1)
  have hgm' : (w'.setCell ⟨g, 2, none⟩ u).heap[gm]? = some om := (Below.heap_setCell _ _ _ _ (show gm ≠ g from h.em.2.1)).trans ((hg.block gm lgm (fun e => (h.d2 gm e.symm).2.1 rfl)).trans h.hm)
  have hgr' : (w'.setCell ⟨g, 2, none⟩ u).heap[gr]? = some og := (Below.heap_setCell _ _ _ _ (show gr ≠ g from h.er.2)).trans ((hg.block gr lgr (fun e => (h.d2 gr e.symm).2.2.1 rfl)).trans h.hr)
  exact ⟨hrow.set_ 2 u, hbel.setCell (p := ⟨g, 2, none⟩) h.gb u, h.gb, h.hl, own_move ho (fun k hk => Below.heap_setCell _ _ _ _ (hng k hk)), own_move h.o3 m3, own_move h.o4 m4, fun k hk => ⟨hng k hk, hngm k hk, hngr k hk, fun e => s3 k e hk, fun e => s4 k e hk⟩, fun k hk => ⟨(h.d3 k hk).1, (h.d3 k hk).2.1, (h.d3 k hk).2.2.1, (h.d3 k hk).2.2.2⟩, fun k hk => ⟨(h.d4 k hk).1, (h.d4 k hk).2.1, (h.d4 k hk).2.2⟩, hgm', hgr', h.em, h.er⟩
/-- List 3 has been appended to (its row may lie elsewhere now), and stored. -/
theorem Xb.push3 (h : Xb x0 w lo g T t2 t3 t4 z4 a b v2 v3 v4 n2 n3 n4 X2 X3 X4 gm gr om og) {u : Value} {m : Nat} {Y : List Value} (ho : w'.ownsRow lo t3 1 u m Y) (hg : w.grownBy w' v3.ownBlock) (hq : ∀ k, u.ownBlock = some k → v3.ownBlock = some k ∨ w.heap.size ≤ k) :
    Xb x0 (w'.setCell ⟨g, 3, none⟩ u) lo g T t2 t3 t4 z4 a b v2 u v4 n2 m n4 X2 Y X4 gm gr om og := by
  have lg : g < w.heap.size := h.row.lt
  have hng : ∀ k, u.ownBlock = some k → k ≠ g := fun k hk => by
    rcases hq k hk with e | e
    · exact (h.d3 k e).1
    · omega
  have lgm : gm < w.heap.size := heap_lt h.hm
  have hngm : ∀ k, u.ownBlock = some k → k ≠ gm := fun k hk => by
    rcases hq k hk with e | e
    · exact (h.d3 k e).2.1
    · omega
  have lgr : gr < w.heap.size := heap_lt h.hr
  have hngr : ∀ k, u.ownBlock = some k → k ≠ gr := fun k hk => by
    rcases hq k hk with e | e
    · exact (h.d3 k e).2.2.1
    · omega
  have e2 : ∀ k, v2.ownBlock = some k → v3.ownBlock ≠ some k := fun k hk => (h.d2 k hk).2.2.2.1
  have m2 : ∀ k, v2.ownBlock = some k → (w'.setCell ⟨g, 3, none⟩ u).heap[k]? = w.heap[k]? := fun k hk => (Below.heap_setCell _ _ _ _ (show k ≠ g from (h.d2 k hk).1)).trans (hg.block k (h.o2.lt k hk).2 (fun e => e2 k hk e.symm))
  have s2 : ∀ k, v2.ownBlock = some k → u.ownBlock ≠ some k := fun k hk e => by
    rcases hq k e with q1 | q1
    · exact e2 k hk q1
    · have := (h.o2.lt k hk).2; omega
  have e4 : ∀ k, v4.ownBlock = some k → v3.ownBlock ≠ some k := fun k hk e => (h.d3 k e).2.2.2 hk
  have m4 : ∀ k, v4.ownBlock = some k → (w'.setCell ⟨g, 3, none⟩ u).heap[k]? = w.heap[k]? := fun k hk => (Below.heap_setCell _ _ _ _ (show k ≠ g from (h.d4 k hk).1)).trans (hg.block k (h.o4.lt k hk).2 (fun e => e4 k hk e.symm))
  have s4 : ∀ k, v4.ownBlock = some k → u.ownBlock ≠ some k := fun k hk e => by
    rcases hq k e with q1 | q1
    · exact e4 k hk q1
    · have := (h.o4.lt k hk).2; omega
  have hrow : Row w' g T [a, b, v2, v3] := h.row.grown hg (fun e => (h.d3 g e.symm).1 rfl)
  have hbel : Below lo x0 w' := h.bel.grown hg h.size (fun k hk => (h.o3.lt k hk).1)
  have hgm' : (w'.setCell ⟨g, 3, none⟩ u).heap[gm]? = some om := (Below.heap_setCell _ _ _ _ (show gm ≠ g from h.em.2.1)).trans ((hg.block gm lgm (fun e => (h.d3 gm e.symm).2.1 rfl)).trans h.hm)
  have hgr' : (w'.setCell ⟨g, 3, none⟩ u).heap[gr]? = some og := (Below.heap_setCell _ _ _ _ (show gr ≠ g from h.er.2)).trans ((hg.block gr lgr (fun e => (h.d3 gr e.symm).2.2.1 rfl)).trans h.hr)
  exact ⟨hrow.set_ 3 u, hbel.setCell (p := ⟨g, 3, none⟩) h.gb u, h.gb, h.hl, own_move h.o2 m2, own_move ho (fun k hk => Below.heap_setCell _ _ _ _ (hng k hk)), own_move h.o4 m4, fun k hk => ⟨(h.d2 k hk).1, (h.d2 k hk).2.1, (h.d2 k hk).2.2.1, s2 k hk, (h.d2 k hk).2.2.2.2⟩, fun k hk => ⟨hng k hk, hngm k hk, hngr k hk, fun e => s4 k e hk⟩, fun k hk => ⟨(h.d4 k hk).1, (h.d4 k hk).2.1, (h.d4 k hk).2.2⟩, hgm', hgr', h.em, h.er⟩
/-- List 4 has been appended to (its row may lie elsewhere now). -/
theorem Xb.push4 (h : Xb x0 w lo g T t2 t3 t4 z4 a b v2 v3 v4 n2 n3 n4 X2 X3 X4 gm gr om og) {u : Value} {m : Nat} {Y : List Value} (ho : w'.ownsRow lo t4 z4 u m Y) (hg : w.grownBy w' v4.ownBlock) (hq : ∀ k, u.ownBlock = some k → v4.ownBlock = some k ∨ w.heap.size ≤ k) :
    Xb x0 w' lo g T t2 t3 t4 z4 a b v2 v3 u n2 n3 m X2 X3 Y gm gr om og := by
  have lg : g < w.heap.size := h.row.lt
  have hng : ∀ k, u.ownBlock = some k → k ≠ g := fun k hk => by
    rcases hq k hk with e | e
    · exact (h.d4 k e).1
    · omega
  have lgm : gm < w.heap.size := heap_lt h.hm
  have hngm : ∀ k, u.ownBlock = some k → k ≠ gm := fun k hk => by
    rcases hq k hk with e | e
    · exact (h.d4 k e).2.1
    · omega
  have lgr : gr < w.heap.size := heap_lt h.hr
  have hngr : ∀ k, u.ownBlock = some k → k ≠ gr := fun k hk => by
    rcases hq k hk with e | e
    · exact (h.d4 k e).2.2
    · omega
  have e2 : ∀ k, v2.ownBlock = some k → v4.ownBlock ≠ some k := fun k hk => (h.d2 k hk).2.2.2.2
  have m2 : ∀ k, v2.ownBlock = some k → w'.heap[k]? = w.heap[k]? := fun k hk => (hg.block k (h.o2.lt k hk).2 (fun e => e2 k hk e.symm))
  have s2 : ∀ k, v2.ownBlock = some k → u.ownBlock ≠ some k := fun k hk e => by
    rcases hq k e with q1 | q1
    · exact e2 k hk q1
    · have := (h.o2.lt k hk).2; omega
  have e3 : ∀ k, v3.ownBlock = some k → v4.ownBlock ≠ some k := fun k hk => (h.d3 k hk).2.2.2
  have m3 : ∀ k, v3.ownBlock = some k → w'.heap[k]? = w.heap[k]? := fun k hk => (hg.block k (h.o3.lt k hk).2 (fun e => e3 k hk e.symm))
  have s3 : ∀ k, v3.ownBlock = some k → u.ownBlock ≠ some k := fun k hk e => by
    rcases hq k e with q1 | q1
    · exact e3 k hk q1
    · have := (h.o3.lt k hk).2; omega
  have hrow : Row w' g T [a, b, v2, v3] := h.row.grown hg (fun e => (h.d4 g e.symm).1 rfl)
  have hbel : Below lo x0 w' := h.bel.grown hg h.size (fun k hk => (h.o4.lt k hk).1)
  have hgm' : w'.heap[gm]? = some om := (hg.block gm lgm (fun e => (h.d4 gm e.symm).2.1 rfl)).trans h.hm
  have hgr' : w'.heap[gr]? = some og := (hg.block gr lgr (fun e => (h.d4 gr e.symm).2.2 rfl)).trans h.hr
  exact ⟨hrow, hbel, h.gb, h.hl, own_move h.o2 m2, own_move h.o3 m3, ho, fun k hk => ⟨(h.d2 k hk).1, (h.d2 k hk).2.1, (h.d2 k hk).2.2.1, (h.d2 k hk).2.2.2.1, s2 k hk⟩, fun k hk => ⟨(h.d3 k hk).1, (h.d3 k hk).2.1, (h.d3 k hk).2.2.1, s3 k hk⟩, fun k hk => ⟨hng k hk, hngm k hk, hngr k hk⟩, hgm', hgr', h.em, h.er⟩
end
end Go.Proofs.Ytbdfbmohdbigfaa


namespace Go.Proofs.Ytbdfbmohdbigfaa
open Go.RowKit
set_option linter.unusedVariables false
def mkb (z : Int) : Value := .bool (z % 3 == 0)
set_option maxHeartbeats 1000000 in
theorem markGBoolS (g n m c : Nat) (k : Int) (w : World) (h : RowN w g 4 m) (hnm : n ≤ m) (hn : n ≤ 1048576) (hk0 : 0 ≤ k) (hk1 : k ≤ 1000000000) :
    Calls Try.prog 74 #[.slice (some ⟨g, 0, none⟩) n c, .int .i64 k] w fun e w' => e = .returned (.int .i64 (k + (n : Int))) ∧ (∀ q : Nat, q < n → w'.cell? ⟨g, q, none⟩ = some (mkb (k + q))) ∧ But g w w' := by
  go_enter Try.func74, Try.ntmps74
  go_wp2_with fail
  go_loopg [1, 5] n (fun p z i wr => ∃ j : Nat, z = .int .i64 (k + (j : Int)) ∧ i = .int .i64 j ∧ j ≤ n ∧ n ≤ p + j ∧ Hid (RowN wr g 4 m) ∧ Hid (∀ q : Nat, q < j → wr.cell? ⟨g, q, none⟩ = some (mkb (k + q))) ∧ But g w wr)
  case atStart => exact ⟨0, by simp, rfl, by omega, by omega, h, fun q hq => by omega, But.refl _ _⟩
  case round =>
    obtain ⟨j, rfl, rfl, hj, hm, HR, HQ, hb⟩ := hrel
    by_cases hlt : j < n
    · have l1 : (0 : Int) ≤ (j : Int) := by omega
      obtain ⟨u, hc, hf⟩ := HR.out.cell (show j < m by omega)
      have hmod : (k + (j : Int)).tmod 3 = (k + (j : Int)) % 3 := IntWalk.rem_in _ _ (by omega)
      go_wp2_with fail
      go_roundg (gk - 1)
      case measure => omega
      case rel =>
        refine ⟨j + 1, by simp; omega, by go_num, by omega, by omega, HR.out.set _ _, fun q hq => ?_, hb.trans (But.set _ _ _)⟩
        rcases Nat.lt_or_ge q j with h' | h'
        · rw [World.cell?_setCell_other _ _ _ _ (fun e => by injection e with _ e2 _; omega)]
          exact HQ.out q h'
        · obtain rfl : q = j := by omega
          obtain ⟨vs, hn', hrow⟩ := HR.out
          rw [(hrow.set_ q _).cell, List.getElem?_set_self (by omega)]
          simp [mkb]
    · obtain rfl : n = j := by omega
      go_wp2_with fail
      go_ret
      exact ⟨rfl, HQ.out, hb⟩
theorem markNBoolS (k : Int) (w : World) :
    Calls Try.prog 74 #[.slice none 0 0, .int .i64 k] w fun e w' => e = .returned (.int .i64 k) ∧ w = w' := by
  go_enter Try.func74, Try.ntmps74
  go_wp2_with fail
  go_loopg [1, 5] 0 (fun p z i wr => z = .int .i64 k ∧ i = .int .i64 0 ∧ wr = w)
  case atStart => exact ⟨rfl, rfl, rfl⟩
  case round =>
    obtain ⟨rfl, rfl, rfl⟩ := hrel
    go_wp2_with fail
    go_ret
    exact ⟨rfl, rfl⟩
set_option maxHeartbeats 1000000 in
theorem heldGBoolS (g n c : Nat) (k : Int) (w : World) (h : ∀ q : Nat, q < n → w.cell? ⟨g, q, none⟩ = some (mkb (k + q))) (hn : n ≤ 1048576) (hk0 : 0 ≤ k) (hk1 : k ≤ 1000000000) :
    Calls Try.prog 76 #[.slice (some ⟨g, 0, none⟩) n c, .int .i64 k] w fun e w' => e = .returned (.int .i64 (k + (n : Int))) ∧ w = w' := by
  have HC := Lib.hid h
  clear h
  go_enter Try.func76, Try.ntmps76
  go_wp2_with fail
  go_loopg [1, 5] n (fun m z i wr => ∃ j : Nat, z = .int .i64 (k + (j : Int)) ∧ i = .int .i64 j ∧ j ≤ n ∧ n ≤ m + j ∧ wr = w)
  case atStart => exact ⟨0, by simp, rfl, by omega, by omega, rfl⟩
  case round =>
    obtain ⟨j, rfl, rfl, hj, hm, rfl⟩ := hrel
    by_cases hlt : j < n
    · have l1 : (0 : Int) ≤ (j : Int) := by omega
      have hmod : (k + (j : Int)).tmod 3 = (k + (j : Int)) % 3 := IntWalk.rem_in _ _ (by omega)
      obtain ⟨bb, hbb⟩ : ∃ bb, ((k + (j : Int)) % 3 == 0) = bb := ⟨_, rfl⟩
      have hc : wr.cell? ⟨g, j, none⟩ = some (.bool bb) := by rw [← hbb]; exact HC.out j hlt
      have hb2 : (bb != bb) = false := by simp
      go_wp2_with fail
      go_roundg (gk - 1)
      case measure => omega
      case rel => exact ⟨j + 1, by simp; omega, by go_num, by omega, by omega, rfl⟩
    · obtain rfl : n = j := by omega
      go_wp2_with fail
      go_ret
      exact ⟨rfl, rfl⟩
theorem heldNBoolS (k : Int) (w : World) :
    Calls Try.prog 76 #[.slice none 0 0, .int .i64 k] w fun e w' => e = .returned (.int .i64 k) ∧ w = w' := by
  go_enter Try.func76, Try.ntmps76
  go_wp2_with fail
  go_loopg [1, 5] 0 (fun p z i wr => z = .int .i64 k ∧ i = .int .i64 0 ∧ wr = w)
  case atStart => exact ⟨rfl, rfl, rfl⟩
  case round =>
    obtain ⟨rfl, rfl, rfl⟩ := hrel
    go_wp2_with fail
    go_ret
    exact ⟨rfl, rfl⟩
theorem markVBoolS (lo hi : Nat) (v : Value) (n : Nat) (xs : List Value) (k : Int) (w : World) (h : OwnV w lo hi 4 1 v n xs) (hn : n ≤ 1048576) (hk0 : 0 ≤ k) (hk1 : k ≤ 1000000000) :
    Calls Try.prog 74 #[v, .int .i64 k] w fun e w' => e = .returned (.int .i64 (k + (n : Int))) ∧ Mkd mkb w' 1 v n k ∧ w.grownBy w' v.ownBlock := by
  rcases h.rowN with ⟨rfl, rfl⟩ | ⟨g, cap, rfl, hbg, hgh, hr, hc⟩
  · refine (markNBoolS k w).mono ?_
    rintro e w' ⟨rfl, rfl⟩
    exact ⟨ret_int (by omega), .inl ⟨rfl, rfl⟩, grown_refl _ _⟩
  · refine (markGBoolS g n cap cap k w (by simpa using hr) hc hn hk0 hk1).mono ?_
    rintro e w' ⟨rfl, hq, hbut⟩
    exact ⟨rfl, .inr ⟨g, cap, rfl, Nat.lt_of_lt_of_le hr.lt hbut.2.2.2.1, by simpa using hq⟩, hbut.grown⟩
theorem heldVBoolS (v : Value) (n : Nat) (k : Int) (w : World) (h : Mkd mkb w 1 v n k) (hn : n ≤ 1048576) (hk0 : 0 ≤ k) (hk1 : k ≤ 1000000000) :
    Calls Try.prog 76 #[v, .int .i64 k] w fun e w' => e = .returned (.int .i64 (k + (n : Int))) ∧ w = w' := by
  rcases h with ⟨rfl, rfl⟩ | ⟨g, c, rfl, hg, hq⟩
  · refine (heldNBoolS k w).mono ?_
    rintro e w' ⟨rfl, rfl⟩
    exact ⟨ret_int (by omega), rfl⟩
  · exact heldGBoolS g n c k w (by simpa using hq) hn hk0 hk1
end Go.Proofs.Ytbdfbmohdbigfaa


namespace Go.Proofs.Ytbdfbmohdbigfaa
open Go.RowKit
set_option linter.unusedVariables false
def PlO (w : World) (lo hi : Nat) (v : Value) (S : Int) (T : Int) (P : List Int) (E : List Bool) : Prop :=
  ∃ v2 v3, v = .agg #[.int .i64 S, .int .i64 T, v2, v3] ∧ OwnV w lo hi 2 1 v2 P.length (iv P) ∧ OwnV w lo hi 4 1 v3 E.length (bv E) ∧ (∀ k, v2.ownBlock = some k → v3.ownBlock ≠ some k)
section
variable {w w' : World} {lo hi B : Nat} {v : Value} {S T : Int} {P : List Int} {E : List Bool}
theorem PlO.below (h : PlO w lo hi v S T P E) (hb : Below B w w') (hB : hi ≤ B) : PlO w' lo hi v S T P E := by
  obtain ⟨v2, v3, e, h2, h3, d23⟩ := h
  exact ⟨v2, v3, e, h2.below hb hB, h3.below hb hB, d23⟩
theorem PlO.more {hi' : Nat} (h : PlO w lo hi v S T P E) (hB : hi ≤ hi') : PlO w lo hi' v S T P E := by
  obtain ⟨v2, v3, e, h2, h3, d23⟩ := h
  exact ⟨v2, v3, e, h2.more hB, h3.more hB, d23⟩
theorem PlO.kp {lo' hi' : Nat} (h : PlO w lo hi v S T P E) (hk : Kp lo' hi' w w') (hd : hi' ≤ lo ∨ hi ≤ lo') : PlO w' lo hi v S T P E := by
  obtain ⟨v2, v3, e, h2, h3, d23⟩ := h
  exact ⟨v2, v3, e, h2.kp hk hd, h3.kp hk hd, d23⟩
theorem PlO.cg (h : PlO w lo hi v S T P E) : Pl w w.heap.size v S T P E := by
  obtain ⟨v2, v3, rfl, h2, h3, -⟩ := h
  obtain ⟨A2, c2, rfl, g2⟩ := h2.slV
  obtain ⟨A3, c3, rfl, g3⟩ := h3.slV
  exact ⟨_, _, _, _, _, _, rfl, g2, g3⟩
end
def PlW (w : World) (base : Nat) (v : Value) (S : Int) (T : Int) (P : List Int) (E : List Bool) : Prop := PlO w base w.heap.size v S T P E
theorem PlW.keep {w w' : World} {base B : Nat} {v : Value} {S T : Int} {P : List Int} {E : List Bool} (h : PlW w base v S T P E) (hb : Below B w w') (hB : w.heap.size ≤ B) : PlW w' base v S T P E := (PlO.below h hb hB).more hb.size
theorem PlW.kp {w w' : World} {base lo hi : Nat} {v : Value} {S T : Int} {P : List Int} {E : List Bool} (h : PlW w base v S T P E) (hk : Kp lo hi w w') (hd : hi ≤ base) : PlW w' base v S T P E := (PlO.kp h hk (.inl hd)).more hk.2.2.2.1
theorem PlO.shape {w : World} {base hi : Nat} {v : Value} {S T : Int} {P : List Int} {E : List Bool} (h : PlO w base hi v S T P E) : ∃ A2 c2 A3 c3, v = .agg #[.int .i64 S, .int .i64 T, .slice A2 P.length c2, .slice A3 E.length c3] := by
  obtain ⟨v2, v3, rfl, h2, h3, -⟩ := h
  obtain ⟨A2, c2, rfl, _, _⟩ := h2.form
  obtain ⟨A3, c3, rfl, _, _⟩ := h3.form
  exact ⟨A2, c2, A3, c3, rfl⟩
theorem PlR.cgm {w : World} {base : Nat} {v : Value} {S T : Int} {P : List Int} {E : List Bool} (h : PlR w base v S T P E) (b2 : P.length ≤ 4294967296) (b3 : E.length ≤ 4294967296) : PlO w base w.heap.size v S T P E := by
  obtain ⟨g2, g3, rfl, q0, q1, h2, h3⟩ := h
  refine ⟨_, _, rfl, ?_, ?_, ?_⟩
  · refine OwnV.of ⟨by simp [iv], .inr ⟨g2, P.length, (iv P).toArray, rfl, by omega, h2, Nat.le_refl _, by unfold maxLen; omega, by simp [iv], ?_⟩⟩
    rw [List.toList_toArray]; exact List.take_of_length_le (by simp [iv])
  · refine OwnV.of ⟨by simp [bv], .inr ⟨g3, E.length, (bv E).toArray, rfl, by omega, h3, Nat.le_refl _, by unfold maxLen; omega, by simp [bv], ?_⟩⟩
    rw [List.toList_toArray]; exact List.take_of_length_le (by simp [bv])
  · intro k hk; simp [Value.ownBlock] at hk ⊢; omega
theorem eqOwnPlain (v v' : Value) (S : Int) (T : Int) (P : List Int) (E : List Bool) (lo hi lo' hi' : Nat) (w : World) (h : PlO w lo hi v S T P E) (h' : PlO w lo' hi' v' S T P E) (b2 : P.length ≤ 4294967296) (b3 : E.length ≤ 4294967296) :
    Calls Try.prog 22 #[v, v'] w fun e w' => e = .returned (.bool true) ∧ Below w.heap.size w w' :=
  eqPlain_same v v' S T P E w h.cg h'.cg b2 b3
def MkdPl (w : World) (v : Value) (P : List Int) (E : List Bool) (k : Int) : Prop :=
  ∃ S T v2 v3, v = .agg #[.int .i64 S, .int .i64 T, v2, v3] ∧ Mkd (Value.int .i64) w 1 v2 P.length (k) ∧ Mkd mkb w 1 v3 E.length (k + (P.length : Int))
theorem MkdPl.below {w w' : World} {B : Nat} {v : Value} {P : List Int} {E : List Bool} {k : Int} (h : MkdPl w v P E k) (hb : Below B w w') (hB : w.heap.size ≤ B) : MkdPl w' v P E k := by
  obtain ⟨S, T, v2, v3, e, h2, h3⟩ := h
  exact ⟨S, T, v2, v3, e, h2.below hb hB, h3.below hb hB⟩
set_option maxHeartbeats 2000000 in
theorem markPlain_any (v : Value) (S : Int) (T : Int) (P : List Int) (E : List Bool) (lo hi : Nat) (k : Int) (w : World) (h : PlO w lo hi v S T P E) (b2 : P.length ≤ 1048576) (b3 : E.length ≤ 1048576) (hk0 : 0 ≤ k) (hk1 : k ≤ 900000000) (hhi : hi ≤ w.heap.size) :
    Calls Try.prog 25 #[v, .int .i64 k] w fun e w' => e = .returned (.int .i64 (k + (P.length : Int) + (E.length : Int))) ∧ MkdPl w' v P E k ∧ Kp lo hi w w' := by
  obtain ⟨v2, v3, rfl, h2, h3, d23⟩ := h
  obtain ⟨A2, c2, rfl, _, _⟩ := h2.form
  obtain ⟨A3, c3, rfl, _, _⟩ := h3.form
  have H := Lib.hid (And.intro h2 (And.intro h3 True.intro))
  have D := Lib.hid (And.intro d23 True.intro)
  clear h2 h3 d23
  have rb := Row.new w 33 [.int .i64 S, .int .i64 T, .slice A2 P.length c2, .slice A3 E.length c3]
  have bx : Below w.heap.size w (w.alloc (.cells ([.int .i64 S, .int .i64 T, .slice A2 P.length c2, .slice A3 E.length c3] : List Value).toArray 33)) := (Below.refl _ _).alloc (Nat.le_refl _) _
  have RB := Lib.hid rb; have BX := Lib.hid bx; clear rb bx
  have HHI := Lib.hid hhi; clear hhi
  go_enter Try.func25, Try.ntmps25
  go_wp2_with fail
  obtain ⟨x0, hx0⟩ : ∃ x, x = w.alloc (.cells ([.int .i64 S, .int .i64 T, .slice A2 P.length c2, .slice A3 E.length c3] : List Value).toArray 33) := ⟨_, rfl⟩
  rw [← hx0] at RB BX
  change Calls _ _ _ (w.alloc (.cells ([.int .i64 S, .int .i64 T, .slice A2 P.length c2, .slice A3 E.length c3] : List Value).toArray 33)) _
  rw [← hx0]
  clear hx0
  have O2_0 := Lib.hid ((H.out.1).below BX.out HHI.out)
  have O3_0 := Lib.hid ((H.out.2.1).below BX.out HHI.out)
  refine (markVInt64S lo hi _ P.length _ (k) x0 O2_0.out b2 (by omega) (by omega)).mono ?_
  rintro e w1 ⟨rfl, hm2, hg2⟩
  have G2 := Lib.hid hg2; have M2_1 := Lib.hid hm2; clear hg2 hm2
  have RB := Lib.hid (RB.out.grown G2.out (fun e => by have := (O2_0.out.lt _ e.symm).2; have := HHI.out; omega))
  have O3_1 := Lib.hid (O3_0.out.grown G2.out (fun k hk e => D.out.1 k e hk))
  have cb := RB.out.cell 3
  go_wp2_with fail
  clear cb
  refine (markVBoolS lo hi _ E.length _ (k + (P.length : Int)) w1 O3_1.out b3 (by omega) (by omega)).mono ?_
  rintro e w2 ⟨rfl, hm3, hg3⟩
  have G3 := Lib.hid hg3; have M3_2 := Lib.hid hm3; clear hg3 hm3
  have RB := Lib.hid (RB.out.grown G3.out (fun e => by have := (O3_1.out.lt _ e.symm).2; have := HHI.out; omega))
  have M2_2 := Lib.hid (M2_1.out.grown G3.out (fun k hk => fun e => D.out.1 k hk e))
  go_wp2_with fail
  go_ret
  exact ⟨rfl, ⟨_, _, _, _, rfl, M2_2.out, M3_2.out⟩, (((Kp.of_below BX.out).trans (grown_kp G2.out (fun k hk => O2_0.out.lt k hk))).trans (grown_kp G3.out (fun k hk => O3_1.out.lt k hk)))⟩
theorem markWPlain (base : Nat) (v : Value) (S : Int) (T : Int) (P : List Int) (E : List Bool) (k : Int) (w : World) (h : PlW w base v S T P E) (hb : base ≤ w.heap.size) (b2 : P.length ≤ 1048576) (b3 : E.length ≤ 1048576) (hk0 : 0 ≤ k) (hk1 : k ≤ 900000000) :
    Calls Try.prog 25 #[v, .int .i64 k] w fun e w' => e = .returned (.int .i64 (k + (P.length : Int) + (E.length : Int))) ∧ MkdPl w' v P E k ∧ Below base w w' :=
  (markPlain_any v S T P E base w.heap.size k w h b2 b3 hk0 hk1 (Nat.le_refl _)).mono fun _ _ ⟨h1, h2, h3⟩ => ⟨h1, h2, h3.below hb⟩
set_option maxHeartbeats 2000000 in
theorem heldPlain_any (v : Value) (P : List Int) (E : List Bool) (k : Int) (w : World) (h : MkdPl w v P E k) (b2 : P.length ≤ 1048576) (b3 : E.length ≤ 1048576) (hk0 : 0 ≤ k) (hk1 : k ≤ 900000000) :
    Calls Try.prog 26 #[v, .int .i64 k] w fun e w' => e = .returned (.int .i64 (k + (P.length : Int) + (E.length : Int))) ∧ Below w.heap.size w w' := by
  obtain ⟨S, T, v2, v3, rfl, h2, h3⟩ := h
  obtain ⟨A2, c2, rfl⟩ := h2.form
  obtain ⟨A3, c3, rfl⟩ := h3.form
  have H2 := Lib.hid h2; clear h2
  have H3 := Lib.hid h3; clear h3
  have rb := Row.new w 33 [.int .i64 S, .int .i64 T, .slice A2 P.length c2, .slice A3 E.length c3]
  have bx : Below w.heap.size w (w.alloc (.cells ([.int .i64 S, .int .i64 T, .slice A2 P.length c2, .slice A3 E.length c3] : List Value).toArray 33)) := (Below.refl _ _).alloc (Nat.le_refl _) _
  have RB := Lib.hid rb; have BX := Lib.hid bx; clear rb bx
  go_enter Try.func26, Try.ntmps26
  go_wp2_with fail
  obtain ⟨x0, hx0⟩ : ∃ x, x = w.alloc (.cells ([.int .i64 S, .int .i64 T, .slice A2 P.length c2, .slice A3 E.length c3] : List Value).toArray 33) := ⟨_, rfl⟩
  rw [← hx0] at RB BX
  change Calls _ _ _ (w.alloc (.cells ([.int .i64 S, .int .i64 T, .slice A2 P.length c2, .slice A3 E.length c3] : List Value).toArray 33)) _
  rw [← hx0]
  clear hx0
  refine (heldVInt64S _ P.length (k) x0 (H2.out.below BX.out (Nat.le_refl _)) b2 (by omega) (by omega)).mono ?_
  rintro e wq ⟨rfl, hwq⟩
  obtain rfl := hwq
  have q2 : (0 : Int) ≤ k + (P.length : Int) := by omega
  have cb := RB.out.cell 3
  go_wp2_with fail
  clear cb
  refine (heldVBoolS _ E.length (k + (P.length : Int)) x0 (H3.out.below BX.out (Nat.le_refl _)) b3 (by omega) (by omega)).mono ?_
  rintro e wq ⟨rfl, hwq⟩
  obtain rfl := hwq
  have q3 : (0 : Int) ≤ k + (P.length : Int) + (E.length : Int) := by omega
  go_wp2_with fail
  go_ret
  exact ⟨rfl, BX.out⟩
end Go.Proofs.Ytbdfbmohdbigfaa
