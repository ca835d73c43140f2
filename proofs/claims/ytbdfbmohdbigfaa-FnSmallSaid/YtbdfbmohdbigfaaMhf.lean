/- Several texts in one: A struct of two numbers and two lists in a block of its own while it is being built, with a list, a map and a result's block beside it: all apart. OtherPlain of the program, at valid arguments. -/
import Derived.Test.YtbdfbmohdbigfaaMgv
import Derived.Test.YtbdfbmohdbigfaaMhe

namespace Go.Proofs.Ytbdfbmohdbigfaa
open Go.RowKit
set_option linter.unusedVariables false
structure Xc (x0 w : World) (lo g : Nat) (T t2 t3 t4 : TypeId) (z4 : Nat) (a b v2 v3 v4 : Value) (n2 n3 n4 : Nat) (X2 X3 X4 : List Value) : Prop where
  row : Row w g T [a, b, v2, v3]
  bel : Below lo x0 w
  gb : lo ≤ g
  hl : lo ≤ x0.heap.size
  o2 : w.ownsRow lo t2 1 v2 n2 X2
  o3 : w.ownsRow lo t3 1 v3 n3 X3
  o4 : w.ownsRow lo t4 z4 v4 n4 X4
  d2 : ∀ k, v2.ownBlock = some k → k ≠ g ∧ v3.ownBlock ≠ some k ∧ v4.ownBlock ≠ some k
  d3 : ∀ k, v3.ownBlock = some k → k ≠ g ∧ v4.ownBlock ≠ some k
  d4 : ∀ k, v4.ownBlock = some k → k ≠ g
section
variable {x0 w w' : World} {lo g : Nat} {T t2 t3 t4 : TypeId} {z4 : Nat} {a b v2 v3 v4 : Value} {n2 n3 n4 : Nat} {X2 X3 X4 : List Value}
theorem Xc.size (h : Xc x0 w lo g T t2 t3 t4 z4 a b v2 v3 v4 n2 n3 n4 X2 X3 X4) : lo ≤ w.heap.size := Nat.le_trans h.hl h.bel.size
/-- Behind a call that makes memory. -/
theorem Xc.call {B : Nat} (h : Xc x0 w lo g T t2 t3 t4 z4 a b v2 v3 v4 n2 n3 n4 X2 X3 X4) (hb : Below B w w') (hB : w.heap.size ≤ B) : Xc x0 w' lo g T t2 t3 t4 z4 a b v2 v3 v4 n2 n3 n4 X2 X3 X4 :=
  ⟨h.row.below hb (Nat.lt_of_lt_of_le h.row.lt hB), h.bel.trans (hb.mono (Nat.le_trans h.size hB)), h.gb, h.hl,
    own_move h.o2 (fun k hk => hb.block k (Nat.lt_of_lt_of_le (h.o2.lt k hk).2 hB)), own_move h.o3 (fun k hk => hb.block k (Nat.lt_of_lt_of_le (h.o3.lt k hk).2 hB)), own_move h.o4 (fun k hk => hb.block k (Nat.lt_of_lt_of_le (h.o4.lt k hk).2 hB)), h.d2, h.d3, h.d4⟩
theorem Xc.alloc (h : Xc x0 w lo g T t2 t3 t4 z4 a b v2 v3 v4 n2 n3 n4 X2 X3 X4) (o : Obj) : Xc x0 (w.alloc o) lo g T t2 t3 t4 z4 a b v2 v3 v4 n2 n3 n4 X2 X3 X4 := h.call ((Below.refl _ _).alloc (Nat.le_refl _) o) (Nat.le_refl _)
theorem Xc.drew (h : Xc x0 w lo g T t2 t3 t4 z4 a b v2 v3 v4 n2 n3 n4 X2 X3 X4) : Xc x0 w.drew lo g T t2 t3 t4 z4 a b v2 v3 v4 n2 n3 n4 X2 X3 X4 := h.call (B := w.heap.size) (Below.drew (Below.refl _ _)) (Nat.le_refl _)
theorem Xc.cell (h : Xc x0 w lo g T t2 t3 t4 z4 a b v2 v3 v4 n2 n3 n4 X2 X3 X4) (k : Nat) : w.cell? ⟨g, k, none⟩ = [a, b, v2, v3][k]? := h.row.cell k
/-- List 2 has been appended to (its row may lie elsewhere now), and stored. -/
theorem Xc.push2 (h : Xc x0 w lo g T t2 t3 t4 z4 a b v2 v3 v4 n2 n3 n4 X2 X3 X4) {u : Value} {m : Nat} {Y : List Value} (ho : w'.ownsRow lo t2 1 u m Y) (hg : w.grownBy w' v2.ownBlock) (hq : ∀ k, u.ownBlock = some k → v2.ownBlock = some k ∨ w.heap.size ≤ k) :
    Xc x0 (w'.setCell ⟨g, 2, none⟩ u) lo g T t2 t3 t4 z4 a b u v3 v4 m n3 n4 Y X3 X4 := by
  have lg : g < w.heap.size := h.row.lt
  have hng : ∀ k, u.ownBlock = some k → k ≠ g := fun k hk => by
    rcases hq k hk with e | e
    · exact (h.d2 k e).1
    · omega
  have e3 : ∀ k, v3.ownBlock = some k → v2.ownBlock ≠ some k := fun k hk e => (h.d2 k e).2.1 hk
  have m3 : ∀ k, v3.ownBlock = some k → (w'.setCell ⟨g, 2, none⟩ u).heap[k]? = w.heap[k]? := fun k hk => (Below.heap_setCell _ _ _ _ (show k ≠ g from (h.d3 k hk).1)).trans (hg.block k (h.o3.lt k hk).2 (fun e => e3 k hk e.symm))
  have s3 : ∀ k, v3.ownBlock = some k → u.ownBlock ≠ some k := fun k hk e => by
    rcases hq k e with q1 | q1
    · exact e3 k hk q1
    · have := (h.o3.lt k hk).2; omega
  have e4 : ∀ k, v4.ownBlock = some k → v2.ownBlock ≠ some k := fun k hk e => (h.d2 k e).2.2 hk
  have m4 : ∀ k, v4.ownBlock = some k → (w'.setCell ⟨g, 2, none⟩ u).heap[k]? = w.heap[k]? := fun k hk => (Below.heap_setCell _ _ _ _ (show k ≠ g from (h.d4 k hk))).trans (hg.block k (h.o4.lt k hk).2 (fun e => e4 k hk e.symm))
  have s4 : ∀ k, v4.ownBlock = some k → u.ownBlock ≠ some k := fun k hk e => by
    rcases hq k e with q1 | q1
    · exact e4 k hk q1
    · have := (h.o4.lt k hk).2; omega
  have hrow : Row w' g T [a, b, v2, v3] := h.row.grown hg (fun e => (h.d2 g e.symm).1 rfl)
  have hbel : Below lo x0 w' := h.bel.grown hg h.size (fun k hk => (h.o2.lt k hk).1)
  exact ⟨hrow.set_ 2 u, hbel.setCell (p := ⟨g, 2, none⟩) h.gb u, h.gb, h.hl, own_move ho (fun k hk => Below.heap_setCell _ _ _ _ (hng k hk)), own_move h.o3 m3, own_move h.o4 m4, fun k hk => ⟨hng k hk, fun e => s3 k e hk, fun e => s4 k e hk⟩, fun k hk => ⟨(h.d3 k hk).1, (h.d3 k hk).2⟩, fun k hk => (h.d4 k hk)⟩
/-- List 3 has been appended to (its row may lie elsewhere now), and stored. -/
theorem Xc.push3 (h : Xc x0 w lo g T t2 t3 t4 z4 a b v2 v3 v4 n2 n3 n4 X2 X3 X4) {u : Value} {m : Nat} {Y : List Value} (ho : w'.ownsRow lo t3 1 u m Y) (hg : w.grownBy w' v3.ownBlock) (hq : ∀ k, u.ownBlock = some k → v3.ownBlock = some k ∨ w.heap.size ≤ k) :
    Xc x0 (w'.setCell ⟨g, 3, none⟩ u) lo g T t2 t3 t4 z4 a b v2 u v4 n2 m n4 X2 Y X4 := by
  have lg : g < w.heap.size := h.row.lt
  have hng : ∀ k, u.ownBlock = some k → k ≠ g := fun k hk => by
    rcases hq k hk with e | e
    · exact (h.d3 k e).1
    · omega
  have e2 : ∀ k, v2.ownBlock = some k → v3.ownBlock ≠ some k := fun k hk => (h.d2 k hk).2.1
  have m2 : ∀ k, v2.ownBlock = some k → (w'.setCell ⟨g, 3, none⟩ u).heap[k]? = w.heap[k]? := fun k hk => (Below.heap_setCell _ _ _ _ (show k ≠ g from (h.d2 k hk).1)).trans (hg.block k (h.o2.lt k hk).2 (fun e => e2 k hk e.symm))
  have s2 : ∀ k, v2.ownBlock = some k → u.ownBlock ≠ some k := fun k hk e => by
    rcases hq k e with q1 | q1
    · exact e2 k hk q1
    · have := (h.o2.lt k hk).2; omega
  have e4 : ∀ k, v4.ownBlock = some k → v3.ownBlock ≠ some k := fun k hk e => (h.d3 k e).2 hk
  have m4 : ∀ k, v4.ownBlock = some k → (w'.setCell ⟨g, 3, none⟩ u).heap[k]? = w.heap[k]? := fun k hk => (Below.heap_setCell _ _ _ _ (show k ≠ g from (h.d4 k hk))).trans (hg.block k (h.o4.lt k hk).2 (fun e => e4 k hk e.symm))
  have s4 : ∀ k, v4.ownBlock = some k → u.ownBlock ≠ some k := fun k hk e => by
    rcases hq k e with q1 | q1
    · exact e4 k hk q1
    · have := (h.o4.lt k hk).2; omega
  have hrow : Row w' g T [a, b, v2, v3] := h.row.grown hg (fun e => (h.d3 g e.symm).1 rfl)
  have hbel : Below lo x0 w' := h.bel.grown hg h.size (fun k hk => (h.o3.lt k hk).1)
  exact ⟨hrow.set_ 3 u, hbel.setCell (p := ⟨g, 3, none⟩) h.gb u, h.gb, h.hl, own_move h.o2 m2, own_move ho (fun k hk => Below.heap_setCell _ _ _ _ (hng k hk)), own_move h.o4 m4, fun k hk => ⟨(h.d2 k hk).1, s2 k hk, (h.d2 k hk).2.2⟩, fun k hk => ⟨hng k hk, fun e => s4 k e hk⟩, fun k hk => (h.d4 k hk)⟩
/-- List 4 has been appended to (its row may lie elsewhere now). -/
theorem Xc.push4 (h : Xc x0 w lo g T t2 t3 t4 z4 a b v2 v3 v4 n2 n3 n4 X2 X3 X4) {u : Value} {m : Nat} {Y : List Value} (ho : w'.ownsRow lo t4 z4 u m Y) (hg : w.grownBy w' v4.ownBlock) (hq : ∀ k, u.ownBlock = some k → v4.ownBlock = some k ∨ w.heap.size ≤ k) :
    Xc x0 w' lo g T t2 t3 t4 z4 a b v2 v3 u n2 n3 m X2 X3 Y := by
  have lg : g < w.heap.size := h.row.lt
  have hng : ∀ k, u.ownBlock = some k → k ≠ g := fun k hk => by
    rcases hq k hk with e | e
    · exact (h.d4 k e)
    · omega
  have e2 : ∀ k, v2.ownBlock = some k → v4.ownBlock ≠ some k := fun k hk => (h.d2 k hk).2.2
  have m2 : ∀ k, v2.ownBlock = some k → w'.heap[k]? = w.heap[k]? := fun k hk => (hg.block k (h.o2.lt k hk).2 (fun e => e2 k hk e.symm))
  have s2 : ∀ k, v2.ownBlock = some k → u.ownBlock ≠ some k := fun k hk e => by
    rcases hq k e with q1 | q1
    · exact e2 k hk q1
    · have := (h.o2.lt k hk).2; omega
  have e3 : ∀ k, v3.ownBlock = some k → v4.ownBlock ≠ some k := fun k hk => (h.d3 k hk).2
  have m3 : ∀ k, v3.ownBlock = some k → w'.heap[k]? = w.heap[k]? := fun k hk => (hg.block k (h.o3.lt k hk).2 (fun e => e3 k hk e.symm))
  have s3 : ∀ k, v3.ownBlock = some k → u.ownBlock ≠ some k := fun k hk e => by
    rcases hq k e with q1 | q1
    · exact e3 k hk q1
    · have := (h.o3.lt k hk).2; omega
  have hrow : Row w' g T [a, b, v2, v3] := h.row.grown hg (fun e => (h.d4 g e.symm) rfl)
  have hbel : Below lo x0 w' := h.bel.grown hg h.size (fun k hk => (h.o4.lt k hk).1)
  exact ⟨hrow, hbel, h.gb, h.hl, own_move h.o2 m2, own_move h.o3 m3, ho, fun k hk => ⟨(h.d2 k hk).1, (h.d2 k hk).2.1, s2 k hk⟩, fun k hk => ⟨(h.d3 k hk).1, s3 k hk⟩, fun k hk => hng k hk⟩
end
end Go.Proofs.Ytbdfbmohdbigfaa


namespace Go.Proofs.Ytbdfbmohdbigfaa
open Go.RowKit
set_option linter.unusedVariables false
theorem infoBO : (Try.prog.info? 4).map (fun i => (i.zero, i.size, i.bytes)) = some (some (.bool false), 1, 1) := by kernel_rfl
set_option maxRecDepth 100000 in
set_option maxHeartbeats 8000000 in
theorem iOther_any (S T : Nat) (A2 : Option Addr) (n2 c2 : Nat) (A3 : Option Addr) (n3 c3 : Nat) (P : List Int) (E : List Bool) (w : World) (h : PlOk w S T A2 n2 A3 n3 P E) :
    Calls Try.prog 14 #[.agg #[.int .i64 (S : Int), .int .i64 (T : Int), .slice A2 n2 c2, .slice A3 n3 c3]] w fun e w' => ∃ v, e = .returned (.tuple #[v, .bool true]) ∧ PlW w' w.heap.size v (S : Int) (T : Int) P (E.map (!·)) ∧ Below w.heap.size w w' := by
  have rb := (Row.new w 33 (BxP (S : Int) (T : Int) A2 n2 c2 A3 n3 c3)).alloc (.cells ([.int .i64 0, .int .i64 0, .slice none 0 0, .slice none 0 0] : List Value).toArray 33)
  have rr := Row.new (w.alloc (.cells (BxP (S : Int) (T : Int) A2 n2 c2 A3 n3 c3).toArray 33)) 33 ([.int .i64 0, .int .i64 0, .slice none 0 0, .slice none 0 0] : List Value)
  have bx : Below w.heap.size w ((w.alloc (.cells (BxP (S : Int) (T : Int) A2 n2 c2 A3 n3 c3).toArray 33)).alloc (.cells ([.int .i64 0, .int .i64 0, .slice none 0 0, .slice none 0 0] : List Value).toArray 33)) := ((Below.refl _ _).alloc (Nat.le_refl _) _).alloc (by simp) _
  rw [show (w.alloc (.cells (BxP (S : Int) (T : Int) A2 n2 c2 A3 n3 c3).toArray 33)).heap.size = w.heap.size + 1 by simp] at rr
  obtain ⟨x0, hx0⟩ : ∃ x, x = (w.alloc (.cells (BxP (S : Int) (T : Int) A2 n2 c2 A3 n3 c3).toArray 33)).alloc (.cells ([.int .i64 0, .int .i64 0, .slice none 0 0, .slice none 0 0] : List Value).toArray 33) := ⟨_, rfl⟩
  rw [← hx0] at rb rr bx
  have V1 := Lib.hid ((h.below bx (Nat.le_refl _)).valid c2 c3)
  have RB := Lib.hid rb; have RR := Lib.hid rr; have BX := Lib.hid bx; have H := Lib.hid (h.below bx (Nat.le_refl _))
  clear rb rr bx h
  go_enter Try.func14, Try.ntmps14
  go_wp2_with fail
  change Calls _ _ _ ((w.alloc (.cells (BxP (S : Int) (T : Int) A2 n2 c2 A3 n3 c3).toArray 33)).alloc (.cells ([.int .i64 0, .int .i64 0, .slice none 0 0, .slice none 0 0] : List Value).toArray 33)) _
  rw [← hx0]
  clear hx0
  refine V1.out.mono ?_
  rintro e x3 ⟨rfl, hb1⟩
  have RB3 := Lib.hid (RB.out.below hb1 RB.out.lt); have RR3 := Lib.hid (RR.out.below hb1 RR.out.lt); have BX3 := Lib.hid (BX.out.trans (hb1.mono BX.out.size)); have H3 := Lib.hid (H.out.below hb1 (Nat.le_refl _))
  clear V1 hb1 RB RR BX H
  have hn0 : 0 < n2 := by
    have h1 := H3.out.hS; have h2 := H3.out.hT
    rw [H3.out.hn]; exact Nat.mul_pos h1.1 h2.1
  obtain ⟨b2, o2, x2, rfl, -, -, -⟩ := H3.out.h2.at_ hn0
  have hnb : n2 ≤ 256 := by
    have h1 := H3.out.hS; have h2 := H3.out.hT
    rw [H3.out.hn]; exact Nat.mul_le_mul h1.2 h2.2
  have hcel : Hid (∀ x : World, Below x3.heap.size x3 x → (Below x3.heap.size x3 x ∧ x.cell? ⟨w.heap.size, 0, none⟩ = some (.int .i64 (S : Int)) ∧ x.cell? ⟨w.heap.size, 1, none⟩ = some (.int .i64 (T : Int)) ∧ x.cell? ⟨w.heap.size, 2, none⟩ = some (.slice (some ⟨b2, o2, none⟩) n2 c2))) := by
    intro x hx
    have rx := RB3.out.below hx RB3.out.lt
    exact ⟨hx, rx.cell 0, rx.cell 1, rx.cell 2⟩
  have hkeep : Hid (∀ x y : World, Below x3.heap.size x3 x → Below x.heap.size x y → (Below x3.heap.size x3 y ∧ y.cell? ⟨w.heap.size, 0, none⟩ = some (.int .i64 (S : Int)) ∧ y.cell? ⟨w.heap.size, 1, none⟩ = some (.int .i64 (T : Int)) ∧ y.cell? ⟨w.heap.size, 2, none⟩ = some (.slice (some ⟨b2, o2, none⟩) n2 c2))) := fun x y h1 h2 => hcel.out y (h1.trans (h2.mono h1.size))
  have hkeepD : Hid (∀ (x : World) (d : Nat), Below x3.heap.size x3 x → (Below x3.heap.size x3 (x.drewN d) ∧ (x.drewN d).cell? ⟨w.heap.size, 0, none⟩ = some (.int .i64 (S : Int)) ∧ (x.drewN d).cell? ⟨w.heap.size, 1, none⟩ = some (.int .i64 (T : Int)) ∧ (x.drewN d).cell? ⟨w.heap.size, 2, none⟩ = some (.slice (some ⟨b2, o2, none⟩) n2 c2))) := fun x d h1 => hcel.out _ (below_draws h1 d)
  have hkeepA : Hid (∀ (x : World) (ob : Obj), Below x3.heap.size x3 x → (Below x3.heap.size x3 (x.alloc ob) ∧ (x.alloc ob).cell? ⟨w.heap.size, 0, none⟩ = some (.int .i64 (S : Int)) ∧ (x.alloc ob).cell? ⟨w.heap.size, 1, none⟩ = some (.int .i64 (T : Int)) ∧ (x.alloc ob).cell? ⟨w.heap.size, 2, none⟩ = some (.slice (some ⟨b2, o2, none⟩) n2 c2))) := fun x ob h1 => hcel.out _ (h1.alloc h1.size ob)
  have hkeepT : Hid (∀ (x : World) (gz : Nat) (u0 u1 u2 u3 : Value), Below x3.heap.size x3 x → x3.heap.size ≤ gz → (Below x3.heap.size x3 ((((x.setCell ⟨gz, 0, none⟩ u0).setCell ⟨gz, 1, none⟩ u1).setCell ⟨gz, 2, none⟩ u2).setCell ⟨gz, 3, none⟩ u3) ∧ ((((x.setCell ⟨gz, 0, none⟩ u0).setCell ⟨gz, 1, none⟩ u1).setCell ⟨gz, 2, none⟩ u2).setCell ⟨gz, 3, none⟩ u3).cell? ⟨w.heap.size, 0, none⟩ = some (.int .i64 (S : Int)) ∧ ((((x.setCell ⟨gz, 0, none⟩ u0).setCell ⟨gz, 1, none⟩ u1).setCell ⟨gz, 2, none⟩ u2).setCell ⟨gz, 3, none⟩ u3).cell? ⟨w.heap.size, 1, none⟩ = some (.int .i64 (T : Int)) ∧ ((((x.setCell ⟨gz, 0, none⟩ u0).setCell ⟨gz, 1, none⟩ u1).setCell ⟨gz, 2, none⟩ u2).setCell ⟨gz, 3, none⟩ u3).cell? ⟨w.heap.size, 2, none⟩ = some (.slice (some ⟨b2, o2, none⟩) n2 c2))) := fun x gz u0 u1 u2 u3 h1 h2 => hcel.out _ (set4_below h1 h2 u0 u1 u2 u3)
  have hlow : Hid (∀ (x : World), Below x3.heap.size x3 x → x3.heap.size ≤ x.heap.size) := fun x h => h.size
  have hCL : Hid (∀ x : World, Below x3.heap.size x3 x → Calls Try.prog 48 #[.slice (some ⟨b2, o2, none⟩) n2 c2] x fun e y => ∃ A' c', e = .returned (.slice A' P.length c') ∧ RowI y x3.heap.size 2 (.slice A' P.length c') P ∧ Below x.heap.size x y ∧ ∀ k, (Value.slice A' P.length c').ownBlock = some k → x.heap.size ≤ k) := fun x hx => by
    refine (iCloneI_any b2 o2 n2 c2 P x ((H3.out.h2.below hx (Nat.le_refl _)).more hx.size) (by omega)).mono ?_
    rintro e y ⟨A', c', rfl, h1, h2⟩
    exact ⟨A', c', rfl, World.ownsRow.mono h1 hx.size, h2, fun k hk => (World.ownsRow.lt h1 k hk).1⟩
  have hfrom := hcel.out x3.drew (Below.drew (Below.refl _ _))
  have hfrom2 := hcel.out (x3.alloc (.cells ([.int .i64 0, .int .i64 0, .slice none 0 0, .slice none 0 0] : List Value).toArray 33)).drew (Below.drew ((Below.refl _ _).alloc (Nat.le_refl _) _))
  have HLP := Lib.hid H3.out.h2.len
  go_upto_region 3 with fail
  go_cut [4] from 11 to 18 (fun p wx => ∃ (g4 : Nat) (A' : Option Addr) (c' : Nat), p = .pointer (some ⟨g4, 0, none⟩) ∧ Hid (x3.heap.size ≤ g4) ∧ Hid (Row wx g4 33 [.int .i64 (S : Int), .int .i64 (T : Int), .slice A' P.length c', .slice none 0 0]) ∧ Hid (RowI wx x3.heap.size 2 (.slice A' P.length c') P) ∧ Hid (∀ k, (Value.slice A' P.length c').ownBlock = some k → k ≠ g4) ∧ Hid (Below x3.heap.size x3 wx))
  case first =>
    go_region_held3 (fun x => Below x3.heap.size x3 x ∧ x.cell? ⟨w.heap.size, 0, none⟩ = some (.int .i64 (S : Int)) ∧ x.cell? ⟨w.heap.size, 1, none⟩ = some (.int .i64 (T : Int)) ∧ x.cell? ⟨w.heap.size, 2, none⟩ = some (.slice (some ⟨b2, o2, none⟩) n2 c2)) (first | (with_reducible assumption) | (with_reducible exact hkeepD.out _ _ (by first | (with_reducible assumption) | (with_reducible (apply And.left; assumption)))) | (with_reducible exact hkeepA.out _ _ (by first | (with_reducible assumption) | (with_reducible (apply And.left; assumption)))) | (with_reducible refine hkeepT.out _ _ _ _ _ _ (by first | (with_reducible assumption) | (with_reducible (apply And.left; assumption))) (by first | (with_reducible exact Nat.le_refl _) | (with_reducible exact hlow.out _ (by first | (with_reducible assumption) | (with_reducible (apply And.left; assumption)))))) | go_keep)
      (first
        | (go_at_call 48; ((with_reducible refine (hCL.out _ (by first | (with_reducible assumption) | (with_reducible (apply And.left; assumption)))).mono ?_); rintro e yA ⟨A', c', rfl, hrA, hbA, hfA⟩); have sA := (fun h => hkeep.out _ _ h hbA) (by first | (with_reducible assumption) | (with_reducible (apply And.left; assumption))); (try (have ra : Row yA x3.heap.size 33 ([.int .i64 0, .int .i64 0, .slice none 0 0, .slice none 0 0] : List Value) := (Row.new x3 33 ([.int .i64 0, .int .i64 0, .slice none 0 0, .slice none 0 0] : List Value)).drew.below hbA (by simp)); have z0 := ra.cell 0; have z1 := ra.cell 1; have z2 := ra.cell 2; have z3 := ra.cell 3; have f0 := ra.frozen 0; have f1 := ra.frozen 1; have f2 := ra.frozen 2; have f3 := ra.frozen 3; have RX1 := Lib.hid ra; have HFA : Hid (∀ k, (Value.slice A' P.length c').ownBlock = some k → k ≠ x3.heap.size) := (fun k hk => (by have := hfA k hk; simp at this; omega)); clear ra); have HRA := Lib.hid hrA; clear hbA hrA hfA))
    all_goals
      try clear z0 z1 z2 z3 f0 f1 f2 f3
      try go_wp2_with fail
      go_meet
      first
        | (refine ⟨x3.heap.size, A', c', rfl, Nat.le_refl _, ?_, ?_, HFA.out, ?_⟩
           · exact (((RX1.out.set_ 0 _).set_ 1 _).set_ 2 _).set_ 3 _
           · exact own_move HRA.out (fun k hk => set4_heap _ _ _ _ _ _ _ (HFA.out k hk))
           · exact set4_below sA.1 (Nat.le_refl _) _ _ _ _)
        | (refine ⟨yA.heap.size, A', c', rfl, hlow.out _ sA.1, ?_, ?_, ?_, ?_⟩
           · exact Row.new yA 33 _
           · exact RowI.keep HRA.out ((Below.refl yA.heap.size yA).alloc (Nat.le_refl _) _) (Nat.le_refl _)
           · exact fun k hk => Nat.ne_of_lt (World.ownsRow.lt HRA.out k hk).2
           · exact sA.1.alloc (hlow.out _ sA.1) _)
  case rest =>
  obtain ⟨g4, A', c', rfl, HG4, HR4, HRI, HNE, HB4⟩ := hcut
  obtain ⟨w4, rfl⟩ : ∃ x : World, x = wc := ⟨_, rfl⟩
  have k3 := (RB3.out.below HB4.out RB3.out.lt).cell 3
  have HX0 : Hid (Xc x3 w4 x3.heap.size g4 33 2 4 2 1 (.int .i64 (S : Int)) (.int .i64 (T : Int)) (.slice A' P.length c') (.slice none 0 0) (.slice none 0 0) P.length 0 0 (iv P) (bv ((E.take 0).map (!·))) []) :=
    ⟨HR4.out, HB4.out, HG4.out, Nat.le_refl _, HRI.out, World.ownsRow_nil _ _ _ _, World.ownsRow_nil _ _ _ _, fun k hk => ⟨HNE.out k hk, by simp [Value.ownBlock], by simp [Value.ownBlock]⟩, fun k hk => by simp [Value.ownBlock] at hk, fun k hk => by simp [Value.ownBlock] at hk⟩
  have hs3 : w.heap.size + 1 < x3.heap.size := RR3.out.lt
  clear hcel hkeep hkeepD hkeepA hkeepT hlow hCL hfrom hfrom2 HR4 HRI HNE
  go_wp2_with fail
  clear k3
  go_loopg [22] n3 (fun m i wr => ∃ (k : Nat) (v3 : Value), i = .int .i64 (k : Int) ∧ k ≤ n3 ∧ n3 ≤ m + k ∧ Hid (Xc x3 wr x3.heap.size g4 33 2 4 2 1 (.int .i64 (S : Int)) (.int .i64 (T : Int)) (.slice A' P.length c') v3 (.slice none 0 0) P.length k 0 (iv P) (bv ((E.take k).map (!·))) []))
  case atStart => exact ⟨0, .slice none 0 0, rfl, by omega, by omega, HX0.out⟩
  case round =>
    clear HX0
    obtain ⟨k, v3, rfl, hk, hm, HX⟩ := hrel
    obtain ⟨wo, rfl⟩ : ∃ x : World, x = wr := ⟨_, rfl⟩
    by_cases hlt : k < n3
    · have q1 : (k : Int) < (n3 : Int) := by omega
      have q0 : (0 : Int) ≤ (k : Int) := by omega
      obtain ⟨b3, o3, ea, rfl, -, hea, cea⟩ := (H3.out.below HX.out.bel (Nat.le_refl _)).h3.at_ hlt
      have e3 := HX.out.row.cell 3
      have HTE : Hid (bv ((E.take k).map (!·)) ++ [.bool (!ea)] = bv ((E.take (k + 1)).map (!·))) := by
        show _ = _
        obtain ⟨hh, hk'⟩ := List.getElem?_eq_some_iff.1 hea.out
        rw [List.take_succ_eq_append_getElem hh, List.map_append, bv_append, hk']; rfl
      have hn64 : n3 ≤ 64 := by have := H3.out.hS; have := H3.out.hE; omega
      have wk : IntKind.i64.wrap ((k : Int) + 1) = (k : Int) + 1 := IntWalk.i64_in _ (by omega)
      have ROOM : Hid (k + 1 ≤ 4294967296) := by show _ ≤ _; omega
      have hsz := HX.out.size
      clear hea
      go_wp2_with (at_builtin; refine wpList_push wo rfl (.tmp 27) (.tmp 30) _ rfl x3.heap.size 4 (.bool false) 1 Try.underlying31 infoBO rfl v3 k (bv ((E.take k).map (!·))) rfl HX.out.o3 (.bool (!ea)) rfl rfl ROOM.out (by omega) hsz ?_; intro g7 c7 w7 hown hgr hat hlt7 hcap7; have hrow := HX.out.row.grown hgr (fun e => (HX.out.d3 _ e.symm).1 rfl); have y3 := hrow.cell 3; have f3 := hrow.frozen 3; have HP := Lib.hid (HX.out.push3 (Y := bv ((E.take (k + 1)).map (!·))) (by rw [← HTE.out]; exact hown) hgr (at_push hat)); clear hrow hown hgr hat hlt7 hcap7)
      clear e3 y3 f3 cea
      go_roundg (gk - 1)
      case measure => omega
      case rel => exact ⟨k + 1, .slice (some ⟨g7, 0, none⟩) (k + 1) c7, by go_num, by omega, by omega, HP.out⟩
    · have hkn : k = n3 := by omega
      have hks : k = S := by rw [hkn]; exact H3.out.hE
      have q1 : (n3 : Int) ≤ (k : Int) := by omega
      obtain ⟨A3', c3', hv3, -⟩ := own_form HX.out.o3
      subst hv3
      have hR : Row wo (w.heap.size + 1) 33 ([.int .i64 0, .int .i64 0, .slice none 0 0, .slice none 0 0] : List Value) := RR3.out.below HX.out.bel RR3.out.lt
      have RW := Lib.hid hR
      have HG := HX.out.row
      have b0 := HG.cell 0; have b1 := HG.cell 1; have b2' := HG.cell 2; have b3 := HG.cell 3
      have k0 := hR.cell 0; have k1 := hR.cell 1; have k2 := hR.cell 2; have k3 := hR.cell 3
      have f0 := hR.frozen 0; have f1 := hR.frozen 1; have f2 := hR.frozen 2; have f3 := hR.frozen 3
      have HLE : Hid (E.length = k) := by show _ = _; rw [H3.out.h3.len, hkn]
      have HKN := Lib.hid hkn
      clear hR HG hlt hkn hks
      go_wp2_with fail
      clear b0 b1 b2' b3 k0 k1 k2 k3 f0 f1 f2 f3
      have hF := ((((RW.out.set_ 0 (.int .i64 (S : Int))).set_ 1 (.int .i64 (T : Int))).set_ 2 (.slice A' P.length c')).set_ 3 (.slice A3' k c3'))
      refine bodyPost_ret (results_cell2 rfl _ _ (w.heap.size + 1) 33 #[.int .i64 (S : Int), .int .i64 (T : Int), .slice A' P.length c', .slice A3' k c3'] (0, 0) _ (.bool true) rfl rfl hF Try.underlying33 rfl (by kernel_rfl)) rfl ?_
      have hkeep4 : ∀ q, x3.heap.size ≤ q → (((((wo.setCell ⟨w.heap.size + 1, 0, none⟩ (.int .i64 (S : Int))).setCell ⟨w.heap.size + 1, 1, none⟩ (.int .i64 (T : Int))).setCell ⟨w.heap.size + 1, 2, none⟩ (.slice A' P.length c')).setCell ⟨w.heap.size + 1, 3, none⟩ (.slice A3' k c3')).heap[q]?) = wo.heap[q]? := fun q hq => set4_heap _ _ _ _ _ _ _ (by omega)
      refine ⟨_, rfl, ⟨_, _, rfl, ?_, ?_, fun k hk => (HX.out.d2 k hk).2.1⟩, set4_below (BX3.out.trans (HX.out.bel.mono BX3.out.size)) (Nat.le_succ _) _ _ _ _⟩
      · exact OwnV.of (World.ownsRow.mono (own_move HX.out.o2 (fun q hq => hkeep4 q (HX.out.o2.lt q hq).1)) BX3.out.size)
      · have h3 := own_move HX.out.o3 (fun q hq => hkeep4 q (HX.out.o3.lt q hq).1)
        rw [List.take_of_length_le (by rw [HLE.out]; exact Nat.le_refl _)] at h3
        rw [List.length_map, HLE.out]
        exact OwnV.of (World.ownsRow.mono h3 BX3.out.size)
end Go.Proofs.Ytbdfbmohdbigfaa
