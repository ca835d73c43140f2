/- TrimOf: the machine that is being built, and the row of new numbers. -/
import Derived.Test.YtegponioggpkcaaTmP
import Derived.Test.YtegponioggpkcaaTiC
import Derived.Test.YtegponioggpkcaaM3J
import Derived.Test.YtegponioggpkcaaEiA
import Derived.StillTailTactics
namespace Go.Proofs.Ytegponioggpkcaa
open Go.RowKit
set_option linter.unusedVariables false
section
variable {x0 w w' : World} {lo g : Nat} {T t2 t3 t4 : TypeId} {z2 z3 z4 : Nat} {a b v2 v3 v4 : Value} {n2 n3 n4 : Nat} {X2 X3 X4 : List Value}
theorem M3.here (h : M3 x0 w lo g T t2 t3 t4 z2 z3 z4 a b v2 v3 v4 n2 n3 n4 X2 X3 X4) : M3 w w lo g T t2 t3 t4 z2 z3 z4 a b v2 v3 v4 n2 n3 n4 X2 X3 X4 :=
  ⟨h.row, Below.refl _ _, h.gb, h.size, h.o2, h.o3, h.o4, h.d2, h.d3, h.d4⟩
theorem M3.low (h : M3 x0 w lo g T t2 t3 t4 z2 z3 z4 a b v2 v3 v4 n2 n3 n4 X2 X3 X4) (hk : ∀ k, lo ≤ k → w'.heap[k]? = w.heap[k]?) (hs : w.heap.size ≤ w'.heap.size) : M3 w' w' lo g T t2 t3 t4 z2 z3 z4 a b v2 v3 v4 n2 n3 n4 X2 X3 X4 :=
  ⟨(hk g h.gb).trans h.row, Below.refl _ _, h.gb, Nat.le_trans h.size hs, own_move h.o2 (fun k e => hk k (h.o2.lt k e).1), own_move h.o3 (fun k e => hk k (h.o3.lt k e).1), own_move h.o4 (fun k e => hk k (h.o4.lt k e).1), h.d2, h.d3, h.d4⟩
end
/-- The machine in block gx is being built; the row of numbers lies in block g6, below it; w4: the world in which both were made. -/
structure Out (w4 w : World) (nb g6 S c6 lo gx : Nat) (nr : List Int) (cn T : Int) (v2 v3 v4 : Value) (n2 n3 n4 : Nat) (X2 : List A4) (X3 X4 : List Int) : Prop where
  m3 : M3 w w lo gx 28 62 2 2 4 1 1 (.int .i64 cn) (.int .i64 T) v2 v3 v4 n2 n3 n4 (fa X2) (iv X3) (iv X4)
  nm : w.ownsRow nb 2 1 (.slice (some ⟨g6, 0, none⟩) S c6) S (iv nr)
  gl : g6 < lo
  fr : Lo lo g6 w4 w
section
variable {w4 w w' : World} {nb g6 S c6 lo gx : Nat} {nr : List Int} {cn T : Int} {v2 v3 v4 : Value} {n2 n3 n4 : Nat} {X2 : List A4} {X3 X4 : List Int}
theorem Out.size (h : Out w4 w nb g6 S c6 lo gx nr cn T v2 v3 v4 n2 n3 n4 X2 X3 X4) : gx < w.heap.size := h.m3.row.lt
/-- What makes memory alone, or draws. -/
theorem Out.call {B : Nat} (h : Out w4 w nb g6 S c6 lo gx nr cn T v2 v3 v4 n2 n3 n4 X2 X3 X4) (hb : Below B w w') (hB : w.heap.size ≤ B) : Out w4 w' nb g6 S c6 lo gx nr cn T v2 v3 v4 n2 n3 n4 X2 X3 X4 :=
  ⟨(h.m3.call hb hB).here, ow_keep h.nm hb hB, h.gl, h.fr.trans (Lo.below hb (Nat.le_trans (Nat.le_trans h.m3.gb (Nat.le_of_lt h.size)) hB))⟩
theorem Out.alloc (h : Out w4 w nb g6 S c6 lo gx nr cn T v2 v3 v4 n2 n3 n4 X2 X3 X4) (o : Obj) : Out w4 (w.alloc o) nb g6 S c6 lo gx nr cn T v2 v3 v4 n2 n3 n4 X2 X3 X4 := h.call ((Below.refl _ _).alloc (Nat.le_refl _) o) (Nat.le_refl _)
theorem Out.drewN (h : Out w4 w nb g6 S c6 lo gx nr cn T v2 v3 v4 n2 n3 n4 X2 X3 X4) (q : Nat) : Out w4 (w.drewN q) nb g6 S c6 lo gx nr cn T v2 v3 v4 n2 n3 n4 X2 X3 X4 := h.call (B := w.heap.size) (below_draws (Below.refl _ _) q) (Nat.le_refl _)
/-- A number is set in the row. -/
theorem Out.name (h : Out w4 w nb g6 S c6 lo gx nr cn T v2 v3 v4 n2 n3 n4 X2 X3 X4) {k : Nat} (hk : k < nr.length) (x : Int) : Out w4 (w.setCell ⟨g6, k, none⟩ (.int .i64 x)) nb g6 S c6 lo gx (nr.set k x) cn T v2 v3 v4 n2 n3 n4 X2 X3 X4 := by
  have hgl := h.gl
  refine ⟨h.m3.low (fun q hq => Below.heap_setCell w ⟨g6, k, none⟩ _ q (show q ≠ g6 by omega)) (by simp [World.setCell]), ?_, h.gl, h.fr.trans (Lo.set _ _ _ _ _)⟩
  have := ow_set (i := k) (u := .int .i64 x) h.nm (by rw [iv_length]; exact hk)
  rwa [show (iv nr).set k (.int .i64 x) = iv (nr.set k x) by unfold iv; rw [List.map_set]] at this
/-- The count is set. -/
theorem Out.count (h : Out w4 w nb g6 S c6 lo gx nr cn T v2 v3 v4 n2 n3 n4 X2 X3 X4) (x : Int) : Out w4 (w.setCell ⟨gx, 0, none⟩ (.int .i64 x)) nb g6 S c6 lo gx nr x T v2 v3 v4 n2 n3 n4 X2 X3 X4 := by
  have hgl := h.gl
  have hgb := h.m3.gb
  exact ⟨(h.m3.set0 (.int .i64 x)).here, own_move h.nm (fun k hk => Below.heap_setCell w ⟨gx, 0, none⟩ _ k (by simp [Value.ownBlock] at hk; show k ≠ gx; omega)), h.gl, h.fr.trans (Lo.set' _ _ _ h.m3.gb)⟩
theorem Out.low (h : Out w4 w nb g6 S c6 lo gx nr cn T v2 v3 v4 n2 n3 n4 X2 X3 X4) {v : Value} (hv : ∀ k, v.ownBlock = some k → lo ≤ k) (hg : w.grownBy w' v.ownBlock) (q : Nat) (u : Value) :
    (w'.setCell ⟨gx, q, none⟩ u).ownsRow nb 2 1 (.slice (some ⟨g6, 0, none⟩) S c6) S (iv nr) ∧ Lo lo g6 w4 (w'.setCell ⟨gx, q, none⟩ u) := by
  have hgl := h.gl
  have hs := h.size
  have hgb := h.m3.gb
  refine ⟨own_move h.nm (fun k hk => ?_), (h.fr.trans (Lo.grown hg hv (Nat.le_trans hgb (Nat.le_of_lt hs)))).trans (Lo.set' _ _ _ hgb)⟩
  simp [Value.ownBlock] at hk
  subst hk
  refine (Below.heap_setCell w' ⟨gx, q, none⟩ _ g6 (show g6 ≠ gx by omega)).trans (hg.block g6 (by omega) (fun e => ?_))
  have := hv g6 e.symm
  omega
theorem Out.push2 (h : Out w4 w nb g6 S c6 lo gx nr cn T v2 v3 v4 n2 n3 n4 X2 X3 X4) {u : Value} {m : Nat} {Y : List A4} (ho : w'.ownsRow lo 62 4 u m (fa Y)) (hg : w.grownBy w' v2.ownBlock) (hat : u.ownBlock = v2.ownBlock ∨ u.ownBlock = some w.heap.size) :
    Out w4 (w'.setCell ⟨gx, 2, none⟩ u) nb g6 S c6 lo gx nr cn T u v3 v4 m n3 n4 Y X3 X4 := by
  obtain ⟨q1, q2⟩ := h.low (fun k hk => (h.m3.o2.lt k hk).1) hg 2 u
  exact ⟨(h.m3.push2 ho hg hat).here, q1, h.gl, q2⟩
theorem Out.push3 (h : Out w4 w nb g6 S c6 lo gx nr cn T v2 v3 v4 n2 n3 n4 X2 X3 X4) {u : Value} {m : Nat} {Y : List Int} (ho : w'.ownsRow lo 2 1 u m (iv Y)) (hg : w.grownBy w' v3.ownBlock) (hat : u.ownBlock = v3.ownBlock ∨ u.ownBlock = some w.heap.size) :
    Out w4 (w'.setCell ⟨gx, 3, none⟩ u) nb g6 S c6 lo gx nr cn T v2 u v4 n2 m n4 X2 Y X4 := by
  obtain ⟨q1, q2⟩ := h.low (fun k hk => (h.m3.o3.lt k hk).1) hg 3 u
  exact ⟨(h.m3.push3 ho hg hat).here, q1, h.gl, q2⟩
theorem Out.push4 (h : Out w4 w nb g6 S c6 lo gx nr cn T v2 v3 v4 n2 n3 n4 X2 X3 X4) {u : Value} {m : Nat} {Y : List Int} (ho : w'.ownsRow lo 2 1 u m (iv Y)) (hg : w.grownBy w' v4.ownBlock) (hat : u.ownBlock = v4.ownBlock ∨ u.ownBlock = some w.heap.size) :
    Out w4 (w'.setCell ⟨gx, 4, none⟩ u) nb g6 S c6 lo gx nr cn T v2 v3 u n2 n3 m X2 X3 Y := by
  obtain ⟨q1, q2⟩ := h.low (fun k hk => (h.m3.o4.lt k hk).1) hg 4 u
  exact ⟨(h.m3.push4 ho hg hat).here, q1, h.gl, q2⟩
/-- A cell of the row of numbers. -/
theorem Out.at_ (h : Out w4 w nb g6 S c6 lo gx nr cn T v2 v3 v4 n2 n3 n4 X2 X3 X4) {k : Nat} {x : Int} (hx : nr[k]? = some x) : w.cell? ⟨g6, k, none⟩ = some (.int .i64 x) ∧ w.frozen? ⟨g6, k, none⟩ = false :=
  ow_cell h.nm (by unfold iv; rw [List.getElem?_map, hx]; rfl)
/-- A block that stood before. -/
theorem Out.old (h : Out w4 w nb g6 S c6 lo gx nr cn T v2 v3 v4 n2 n3 n4 X2 X3 X4) {b : Nat} {t : TypeId} {vs : List Value} (hr : Row w4 b t vs) (h1 : b < lo) (h2 : b ≠ g6) : Row w b t vs := h.fr.row hr h1 h2
end
end Go.Proofs.Ytegponioggpkcaa
