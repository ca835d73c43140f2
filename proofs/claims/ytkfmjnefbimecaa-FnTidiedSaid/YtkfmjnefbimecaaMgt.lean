/- Several texts in one: tidy of the program: clones of what may be nil, arcs in order, of those that lead alike the first one. TrimOf: the machine that is being built, and the row of new numbers. -/
import Derived.Test.YtkfmjnefbimecaaTiB
import Derived.Test.YtkfmjnefbimecaaMgg
import Derived.Test.YtkfmjnefbimecaaTmP
import Derived.Test.YtkfmjnefbimecaaMgp
import Derived.Test.YtkfmjnefbimecaaMgm
import Derived.StillTailTactics


namespace Go.Proofs.Ytkfmjnefbimecaa
open Go.RowKit Go.Sort Go.Lib
set_option linter.unusedVariables false
/-- A plain head of a slice: nil, or a place of its own. -/
def PlA (A : Option Addr) : Prop := A = none ∨ ∃ b o, A = some ⟨b, o, none⟩
theorem ownA_pl {w : World} {lo n c sz : Nat} {t : TypeId} {A : Option Addr} {xs : List Value} (h : w.ownsRow lo t sz (.slice A n c) n xs) : PlA A := by
  obtain ⟨_, h2⟩ := h
  rcases h2 with ⟨e, -⟩ | ⟨g', cap, cur, e, hb, hg, hnc, hm, hs, ht⟩
  · injection e with e1 _ _; exact .inl e1
  · injection e with e1 _ _; exact .inr ⟨_, _, e1⟩
set_option maxHeartbeats 1000000 in
theorem iCloneA0 (c : Nat) (w : World) :
    Calls Try.prog 97 #[.slice none 0 c] w fun e w' => e = .returned (.slice none 0 0) ∧ w = w' := by
  have hnil := fun w => Lib.run_eql_slice_nil (P := Try.prog) w 25 39 none 0 c 0 0 Try.underlying25
  go_enter Try.func97, Try.ntmps97
  go_wp2_with fail
  go_ret
  exact ⟨rfl, rfl⟩
set_option maxHeartbeats 1000000 in
theorem iCloneI0 (c : Nat) (w : World) :
    Calls Try.prog 47 #[.slice none 0 c] w fun e w' => e = .returned (.slice none 0 0) ∧ w = w' := by
  have hnil := fun w => Lib.run_eql_slice_nil (P := Try.prog) w 26 2 none 0 c 0 0 Try.underlying26
  go_enter Try.func47, Try.ntmps47
  go_wp2_with fail
  go_ret
  exact ⟨rfl, rfl⟩
theorem iCloneAo_any (A : Option Addr) (n c : Nat) (L : List A4) (w : World) (hp : PlA A) (h : SlA w w.heap.size A n L) (hn : n ≤ 4294967296) :
    Calls Try.prog 97 #[.slice A n c] w fun e w' => ∃ A' c', e = .returned (.slice A' n c') ∧ w'.ownsRow w.heap.size 39 4 (.slice A' n c') n (fa L) ∧ Below w.heap.size w w' := by
  rcases hp with rfl | ⟨b, o, rfl⟩
  · have h0 : n = 0 := by
      rcases Nat.eq_zero_or_pos n with h0 | h0
      · exact h0
      · obtain ⟨_, _, e, _⟩ := h.2 h0; cases e
    subst h0
    have hl : L = [] := List.length_eq_zero_iff.1 h.len
    subst hl
    refine (iCloneA0 c w).mono ?_
    rintro e w' ⟨rfl, rfl⟩
    exact ⟨none, 0, rfl, World.ownsRow_nil w _ _ 4, Below.refl _ _⟩
  · exact iCloneA_any b o n c L w h hn
theorem iCloneIo_any (A : Option Addr) (n c : Nat) (xs : List Int) (w : World) (hp : PlA A) (h : SlI w w.heap.size A n xs) (hn : n ≤ 4294967296) :
    Calls Try.prog 47 #[.slice A n c] w fun e w' => ∃ A' c', e = .returned (.slice A' xs.length c') ∧ RowI w' w.heap.size 2 (.slice A' xs.length c') xs ∧ Below w.heap.size w w' := by
  rcases hp with rfl | ⟨b, o, rfl⟩
  · have h0 : n = 0 := by
      rcases Nat.eq_zero_or_pos n with h0 | h0
      · exact h0
      · obtain ⟨_, _, e, _⟩ := h.2 h0; cases e
    subst h0
    have hl : xs = [] := List.length_eq_zero_iff.1 h.len
    subst hl
    refine (iCloneI0 c w).mono ?_
    rintro e w' ⟨rfl, rfl⟩
    exact ⟨none, 0, rfl, World.ownsRow_nil w _ _ 1, Below.refl _ _⟩
  · exact iCloneI_any b o n c xs w h hn
theorem iSort0 (A : Option Addr) (c : Nat) (w : World) :
    Calls Try.prog 98 #[.slice A 0 c, .func (.func 99) #[] #[]] w fun e w' => e = .returned (.tuple #[]) ∧ w' = w :=
  AnyF.slices_SortFunc_none Try.laysSlF06_f91 A c _ w
set_option maxHeartbeats 1000000 in
theorem iCompact0 (A : Option Addr) (c : Nat) (w : World) :
    Calls Try.prog 102 #[.slice A 0 c, .func (.func 103) #[] #[]] w fun e w' => e = .returned (.slice A 0 c) ∧ w = w' := by
  go_enter Try.func102, Try.ntmps102
  go_wp2_with fail
  go_ret
  exact ⟨rfl, rfl⟩
set_option maxHeartbeats 1000000 in
theorem iTidy_any (A : Option Addr) (n c : Nat) (L : List A4) (w : World) (hp : PlA A) (h : SlA w w.heap.size A n L) (hn : n ≤ 1048576) :
    Calls Try.prog 46 #[.slice A n c] w fun e w' => ∃ A' c', e = .returned (.slice A' (tdy L).length c') ∧ w'.ownsRow w.heap.size 39 4 (.slice A' (tdy L).length c') (tdy L).length (fa (tdy L)) ∧ Below w.heap.size w w' := by
  have hl := h.len
  have hc := iCloneAo_any A n c L w hp h (by omega)
  go_enter Try.func46, Try.ntmps46
  go_wp2_with fail
  refine hc.mono ?_
  rintro e w1 ⟨A1, c1, rfl, h1, b1⟩
  clear hc
  have HO := Lib.hid h1; have HB := Lib.hid b1
  clear h h1 b1
  rcases Nat.eq_zero_or_pos n with h0 | h0
  · subst h0
    have hL : L = [] := List.length_eq_zero_iff.1 hl
    subst hL
    go_wp2_with fail
    refine (iSort0 A1 c1 w1).mono ?_
    rintro e w' ⟨rfl, rfl⟩
    go_wp2_with fail
    refine (iCompact0 A1 c1 w').mono ?_
    rintro e w2 ⟨rfl, hw⟩
    obtain rfl := hw
    go_wp2_with fail
    go_ret
    exact ⟨A1, c1, rfl, HO.out, HB.out⟩
  · obtain ⟨g, c2, hv, hgb, hgl⟩ := World.ownsRow.form HO.out h0
    injection hv with e1 _ e3
    subst e1 e3
    have HT : Hid (tdy L = pG (tdS L) n) := by show pG (tdS L) L.length = _; rw [hl]
    have hs := iSortA_any w.heap.size g n c1 L w1 HO.out hl hn
    go_wp2_with fail
    refine hs.mono ?_
    rintro e w2 ⟨rfl, ho2, hb2⟩
    clear hs
    have hk := iCompact_any w.heap.size g n c1 (tdS L) w2 ho2 (by rw [tdS_len]; exact hl) hn (Nat.le_trans HB.out.size hb2.size)
    have HB2 := Lib.hid (HB.out.trans hb2)
    clear ho2 hb2
    go_wp2_with fail
    refine hk.mono ?_
    rintro e w3 ⟨rfl, ho3, hb3⟩
    rw [← HT.out] at ho3
    clear hk
    have HO3 := Lib.hid ho3; have HB3 := Lib.hid (HB2.out.trans hb3)
    clear ho3 hb3
    rw [← HT.out]
    go_wp2_with fail
    go_ret
    exact ⟨_, _, rfl, HO3.out, HB3.out⟩
end Go.Proofs.Ytkfmjnefbimecaa



namespace Go.Proofs.Ytkfmjnefbimecaa
open Go.RowKit
set_option linter.unusedVariables false
section
variable {x0 w w' : World} {lo g : Nat} {T t2 t3 t4 : TypeId} {z2 z3 z4 : Nat} {a b v2 v3 v4 : Value} {n2 n3 n4 : Nat} {X2 X3 X4 : List Value}
theorem M3.here (h : M3 x0 w lo g T t2 t3 t4 z2 z3 z4 a b v2 v3 v4 n2 n3 n4 X2 X3 X4) : M3 w w lo g T t2 t3 t4 z2 z3 z4 a b v2 v3 v4 n2 n3 n4 X2 X3 X4 :=
  ⟨h.row, Below.refl _ _, h.gb, h.size, h.o2, h.o3, h.o4, h.d2, h.d3, h.d4⟩
theorem M3.low (h : M3 x0 w lo g T t2 t3 t4 z2 z3 z4 a b v2 v3 v4 n2 n3 n4 X2 X3 X4) (hk : ∀ k, lo ≤ k → w'.heap[k]? = w.heap[k]?) (hs : w.heap.size ≤ w'.heap.size) : M3 w' w' lo g T t2 t3 t4 z2 z3 z4 a b v2 v3 v4 n2 n3 n4 X2 X3 X4 :=
  ⟨(hk g h.gb).trans h.row, Below.refl _ _, h.gb, Nat.le_trans h.size hs, own_move h.o2 (fun k e => hk k (h.o2.lt k e).1), own_move h.o3 (fun k e => hk k (h.o3.lt k e).1), own_move h.o4 (fun k e => hk k (h.o4.lt k e).1), h.d2, h.d3, h.d4⟩
end
/-- The machine in block gx is being built; the row of numbers lies in block g6, below it; w4: the world in which both were made. -/
structure Out (w4 w : World) (nb g6 S c6 lo gx : Nat) (nr : List Int) (cn T : Int) (v2 v3 v4 : Value) (n2 n3 n4 : Nat) (X2 : List A4) (X3 X4 : List Int) : Prop where
  m3 : M3 w w lo gx 28 39 2 2 4 1 1 (.int .i64 cn) (.int .i64 T) v2 v3 v4 n2 n3 n4 (fa X2) (iv X3) (iv X4)
  nm : w.ownsRow nb 2 1 (.slice (some ⟨g6, 0, none⟩) S c6) S (iv nr)
  gl : g6 < lo
  fr : Lo lo g6 w4 w
section
variable {w4 w w' : World} {nb g6 S c6 lo gx : Nat} {nr : List Int} {cn T : Int} {v2 v3 v4 : Value} {n2 n3 n4 : Nat} {X2 : List A4} {X3 X4 : List Int}
theorem Out.size (h : Out w4 w nb g6 S c6 lo gx nr cn T v2 v3 v4 n2 n3 n4 X2 X3 X4) : gx < w.heap.size := h.m3.row.lt
/-- What makes memory alone, or draws. -/
theorem Out.call {B : Nat} (h : Out w4 w nb g6 S c6 lo gx nr cn T v2 v3 v4 n2 n3 n4 X2 X3 X4) (hb : Below B w w') (hB : w.heap.size ≤ B) : Out w4 w' nb g6 S c6 lo gx nr cn T v2 v3 v4 n2 n3 n4 X2 X3 X4 :=
  ⟨(h.m3.call hb hB).here, ow_keep h.nm hb hB, h.gl, h.fr.trans (Lo.below hb (Nat.le_trans (Nat.le_trans h.m3.gb (Nat.le_of_lt h.size)) hB))⟩
theorem Out.alloc (h : Out w4 w nb g6 S c6 lo gx nr cn T v2 v3 v4 n2 n3 n4 X2 X3 X4) (o : Obj) : Out w4 (w.alloc o) nb g6 S c6 lo gx nr cn T v2 v3 v4 n2 n3 n4 X2 X3 X4 := h.call ((Below.refl _ _).alloc (Nat.le_refl _) o) (Nat.le_refl _)
theorem Out.drewN (h : Out w4 w nb g6 S c6 lo gx nr cn T v2 v3 v4 n2 n3 n4 X2 X3 X4) (q : Nat) : Out w4 (w.drewN q) nb g6 S c6 lo gx nr cn T v2 v3 v4 n2 n3 n4 X2 X3 X4 := h.call (B := w.heap.size) (below_draws (Below.refl _ _) q) (Nat.le_refl _)
/-- A number is set in the row. -/
theorem Out.name (h : Out w4 w nb g6 S c6 lo gx nr cn T v2 v3 v4 n2 n3 n4 X2 X3 X4) {k : Nat} (hk : k < nr.length) (x : Int) : Out w4 (w.setCell ⟨g6, k, none⟩ (.int .i64 x)) nb g6 S c6 lo gx (nr.set k x) cn T v2 v3 v4 n2 n3 n4 X2 X3 X4 := by
  have hgl := h.gl
  refine ⟨h.m3.low (fun q hq => Below.heap_setCell w ⟨g6, k, none⟩ _ q (show q ≠ g6 by omega)) (by simp [World.setCell]), ?_, h.gl, h.fr.trans (Lo.set _ _ _ _ _)⟩
  have := ow_set (i := k) (u := .int .i64 x) h.nm (by rw [iv_length]; exact hk)
  rwa [show (iv nr).set k (.int .i64 x) = iv (nr.set k x) by unfold iv; rw [List.map_set]] at this
/-- The count is set. -/
theorem Out.count (h : Out w4 w nb g6 S c6 lo gx nr cn T v2 v3 v4 n2 n3 n4 X2 X3 X4) (x : Int) : Out w4 (w.setCell ⟨gx, 0, none⟩ (.int .i64 x)) nb g6 S c6 lo gx nr x T v2 v3 v4 n2 n3 n4 X2 X3 X4 := by
  have hgl := h.gl
  have hgb := h.m3.gb
  exact ⟨(h.m3.set0 (.int .i64 x)).here, own_move h.nm (fun k hk => Below.heap_setCell w ⟨gx, 0, none⟩ _ k (by simp [Value.ownBlock] at hk; show k ≠ gx; omega)), h.gl, h.fr.trans (Lo.set' _ _ _ h.m3.gb)⟩
theorem Out.low (h : Out w4 w nb g6 S c6 lo gx nr cn T v2 v3 v4 n2 n3 n4 X2 X3 X4) {v : Value} (hv : ∀ k, v.ownBlock = some k → lo ≤ k) (hg : w.grownBy w' v.ownBlock) (q : Nat) (u : Value) :
    (w'.setCell ⟨gx, q, none⟩ u).ownsRow nb 2 1 (.slice (some ⟨g6, 0, none⟩) S c6) S (iv nr) ∧ Lo lo g6 w4 (w'.setCell ⟨gx, q, none⟩ u) := by
  have hgl := h.gl
  have hs := h.size
  have hgb := h.m3.gb
  refine ⟨own_move h.nm (fun k hk => ?_), (h.fr.trans (Lo.grown hg hv (Nat.le_trans hgb (Nat.le_of_lt hs)))).trans (Lo.set' _ _ _ hgb)⟩
  simp [Value.ownBlock] at hk
  subst hk
  refine (Below.heap_setCell w' ⟨gx, q, none⟩ _ g6 (show g6 ≠ gx by omega)).trans (hg.block g6 (by omega) (fun e => ?_))
  have := hv g6 e.symm
  omega
theorem Out.push2 (h : Out w4 w nb g6 S c6 lo gx nr cn T v2 v3 v4 n2 n3 n4 X2 X3 X4) {u : Value} {m : Nat} {Y : List A4} (ho : w'.ownsRow lo 39 4 u m (fa Y)) (hg : w.grownBy w' v2.ownBlock) (hat : u.ownBlock = v2.ownBlock ∨ u.ownBlock = some w.heap.size) :
    Out w4 (w'.setCell ⟨gx, 2, none⟩ u) nb g6 S c6 lo gx nr cn T u v3 v4 m n3 n4 Y X3 X4 := by
  obtain ⟨q1, q2⟩ := h.low (fun k hk => (h.m3.o2.lt k hk).1) hg 2 u
  exact ⟨(h.m3.push2 ho hg hat).here, q1, h.gl, q2⟩
theorem Out.push3 (h : Out w4 w nb g6 S c6 lo gx nr cn T v2 v3 v4 n2 n3 n4 X2 X3 X4) {u : Value} {m : Nat} {Y : List Int} (ho : w'.ownsRow lo 2 1 u m (iv Y)) (hg : w.grownBy w' v3.ownBlock) (hat : u.ownBlock = v3.ownBlock ∨ u.ownBlock = some w.heap.size) :
    Out w4 (w'.setCell ⟨gx, 3, none⟩ u) nb g6 S c6 lo gx nr cn T v2 u v4 n2 m n4 X2 Y X4 := by
  obtain ⟨q1, q2⟩ := h.low (fun k hk => (h.m3.o3.lt k hk).1) hg 3 u
  exact ⟨(h.m3.push3 ho hg hat).here, q1, h.gl, q2⟩
theorem Out.push4 (h : Out w4 w nb g6 S c6 lo gx nr cn T v2 v3 v4 n2 n3 n4 X2 X3 X4) {u : Value} {m : Nat} {Y : List Int} (ho : w'.ownsRow lo 2 1 u m (iv Y)) (hg : w.grownBy w' v4.ownBlock) (hat : u.ownBlock = v4.ownBlock ∨ u.ownBlock = some w.heap.size) :
    Out w4 (w'.setCell ⟨gx, 4, none⟩ u) nb g6 S c6 lo gx nr cn T v2 v3 u n2 n3 m X2 X3 Y := by
  obtain ⟨q1, q2⟩ := h.low (fun k hk => (h.m3.o4.lt k hk).1) hg 4 u
  exact ⟨(h.m3.push4 ho hg hat).here, q1, h.gl, q2⟩
/-- A cell of the row of numbers. -/
theorem Out.at_ (h : Out w4 w nb g6 S c6 lo gx nr cn T v2 v3 v4 n2 n3 n4 X2 X3 X4) {k : Nat} {x : Int} (hx : nr[k]? = some x) : w.cell? ⟨g6, k, none⟩ = some (.int .i64 x) ∧ w.frozen? ⟨g6, k, none⟩ = false :=
  ow_cell h.nm (by unfold iv; rw [List.getElem?_map, hx]; rfl)
/-- A block that stood before. -/
theorem Out.old (h : Out w4 w nb g6 S c6 lo gx nr cn T v2 v3 v4 n2 n3 n4 X2 X3 X4) {b : Nat} {t : TypeId} {vs : List Value} (hr : Row w4 b t vs) (h1 : b < lo) (h2 : b ≠ g6) : Row w b t vs := h.fr.row hr h1 h2
end
end Go.Proofs.Ytkfmjnefbimecaa
