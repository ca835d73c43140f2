/- Several texts in one: Tables: a slice of the call's own to which one value at a time is appended; a slice of rows of numbers. What the laws do with what a call handed out: cells are marked, then held against the marks. Lists of structs of four numbers (arcs): reading, copying, comparing. -/
import Derived.Test.YtbdfbmohdbigfaaMga
import Derived.StillTailTactics
import Derived.Laws.IdiomStrings
import Derived.Deep.LoopGhost
import Derived.Deep.RegionHeld3
import Derived.Deep.RegionWith

namespace Go.Proofs.Ytbdfbmohdbigfaa
open Go.RowKit
set_option linter.unusedVariables false

/-- A region that draws its order, reads, and ends in a store: the world of its reads and of its tail under one name. -/
theorem wp_tail {P : Program} {id : Nat} {Q : Exit → Act → World → Prop} {a : Act} {w : World} {l : List Oper} (n : Nat) (hm : P.follows .mixedOrders = true) (hB : Region.lexTailB .any l.toArray n = true)
    (h : ∀ w2 : World, w2 = w.drewN 1 → wpStill P l.toArray w2 (fun a' => wpList P l.toArray Q (l.drop n) a' w2) (l.take n) a) : (Code.region id l.toArray true).wp P Q a w :=
  wp_region_still_tail n hm hB (h _ rfl)

/-- 'v = append(v, u)': v a row of the call's own, u one cell. -/
theorem wpList_push {P : Program} (w0 : World) {ops : Array Oper} {rest : List Oper} {o : Oper} {a : Act} {Q : Exit → Act → World → Prop} (hgd : o.guard = none) (s x : Operand) (t : TypeId)
    (ho : o.op = .call { callee := .builtin .append, args := #[s, x], argTypes := #[t, t] })
    (base : Nat) (e : TypeId) (z : Value) (bytes : Nat) (ht : P.underlying t = some (.slice e)) (hinfo : (P.info? e).map (fun i => (i.zero, i.size, i.bytes)) = some (some z, 1, bytes)) (hz1 : z.cells.size = 1)
    (v : Value) (n : Nat) (xs : List Value) (hs : a.eval s = v) (hown : w0.ownsRow base e 1 v n xs)
    (u : Value) (hx : a.eval x = .slice (some ⟨w0.heap.size, 0, none⟩) 1 1) (h1 : u.oneCell' = true)
    (hn : n + 1 ≤ 4294967296) (hby : bytes ≤ 24) (hbase : base ≤ w0.heap.size)
    (h : ∀ g cap w', w'.ownsRow base e 1 (.slice (some ⟨g, 0, none⟩) (n + 1) cap) (n + 1) (xs ++ [u]) → w0.grownBy w' v.ownBlock → (v.ownBlock = some g ∨ w0.heap.size ≤ g) → g < w'.heap.size → n + 1 ≤ cap →
      wpList P ops Q rest (a.put o.dst (.slice (some ⟨g, 0, none⟩) (n + 1) cap)) w') :
    wpList P ops Q (o :: rest) a (w0.alloc (.cells #[u] e)) := by
  obtain ⟨i, hi, hz, hsz, hb⟩ := info_parts hinfo
  have hb2 : (n + 1) * bytes ≤ 140737488355328 := by
    have := Nat.mul_le_mul hn hby
    omega
  refine wpList_append_lies _ hgd s x t ho base e i z 1 bytes ht hi hz hsz hb hz1 (by omega) v n xs hs (hown.alloc _) ⟨w0.heap.size, 0, none⟩ 1 1 [u] hx rfl ?_ ?_ (by omega) (by unfold maxLen; omega) hb2 (by simp; omega) (w0.heap.size + 1) (by simp) ?_
  · intro j y hj
    have : j = 0 := by
      rcases Nat.eq_zero_or_pos j with h | h
      · exact h
      · rw [List.getElem?_eq_none (by simp; omega)] at hj; cases hj
    subst this
    simp at hj
    subst hj
    have := (Row.new w0 e [u]).cell 0
    simp [Addr.add]
  · intro y hy
    simp at hy
    subst hy
    exact h1
  · intro g cap w' hown' hg hat hlt
    refine h g cap w' hown' ⟨hg.os, hg.tape, hg.output, ?_, ?_⟩ ?_ hlt ?_
    · have := hg.size; simp at this; omega
    · intro k hk hne
      exact (hg.block k (by simp; omega) hne).trans (Below.heap_alloc w0 _ k hk)
    · rcases hat with h | h
      · exact .inl h
      · exact .inr (by omega)
    · obtain ⟨A, c, hv, h1, _⟩ := own_form hown'
      injection hv with _ _ hc
      omega

theorem grown_below {w w' : World} {v : Value} {base : Nat} {e : TypeId} {size n : Nat} {xs : List Value} (h : w.ownsRow base e size v n xs) (hg : w.grownBy w' v.ownBlock) (hb : base ≤ w.heap.size) : Below base w w' :=
  (Below.refl _ _).grown hg hb (fun k hk => (h.lt k hk).1)

/-- v is a row of the call's own (from block 'base' on) that reads as the numbers r. -/
def RowI (w : World) (base : Nat) (t : TypeId) (v : Value) (r : List Int) : Prop := w.ownsRow base t 1 v r.length (iv r)
theorem RowI.made (w : World) (base : Nat) (t : TypeId) (hb : base ≤ w.heap.size) : RowI (w.alloc (.cells #[] t)) base t (.slice (some ⟨w.heap.size, 0, none⟩) 0 0) [] :=
  World.ownsRow_made w #[] 0 hb (by unfold maxLen; omega) rfl
section
variable {w w' : World} {base B : Nat} {t : TypeId} {v : Value} {r : List Int}
theorem RowI.drewN (h : RowI w base t v r) (q : Nat) : RowI (w.drewN q) base t v r := h
theorem RowI.keep (h : RowI w base t v r) (hb : Below B w w') (hB : w.heap.size ≤ B) : RowI w' base t v r :=
  World.ownsRow.kept (row := none) h ⟨hb.os, hb.tape, hb.output, hb.size, fun k hk _ => hb.block k (by omega)⟩ (by cases v.ownBlock <;> simp)
theorem RowI.form (h : RowI w base t v r) (h0 : 0 < r.length) : ∃ g c, v = .slice (some ⟨g, 0, none⟩) r.length c ∧ r.length ≤ c ∧ base ≤ g ∧ g < w.heap.size ∧ ∀ (k : Nat) (x : Int), r[k]? = some x → w.cell? ⟨g, k, none⟩ = some (.int .i64 x) := by
  obtain ⟨g, c, rfl, hb, hlt⟩ := World.ownsRow.form h h0
  obtain ⟨A, c', hv, hc, _⟩ := own_form h
  injection hv with _ _ hcc
  refine ⟨g, c, rfl, by omega, hb, hlt, fun k x hx => ?_⟩
  have := h.cells (g := g) rfl k (.int .i64 x) (by simp [iv, hx])
  have ea : (⟨g, 0, none⟩ : Addr).add k = ⟨g, k, none⟩ := by unfold Addr.add; by_cases h : k = 0 <;> simp [h]
  rw [ea] at this
  exact this
theorem RowI.sl {A : Option Addr} {n c : Nat} (h : RowI w base t (.slice A n c) r) (hn : r.length = n) : SlI w w.heap.size A n r := by
  subst hn; exact own_sl h
end
/-- 'row = append(row, x)'. -/
theorem wpList_int_push {P : Program} (w0 : World) {ops : Array Oper} {rest : List Oper} {o : Oper} {a : Act} {Q : Exit → Act → World → Prop} (hgd : o.guard = none) (s x : Operand) (t : TypeId)
    (ho : o.op = .call { callee := .builtin .append, args := #[s, x], argTypes := #[t, t] })
    (base : Nat) (e : TypeId) (ht : P.underlying t = some (.slice e)) (hinfo : (P.info? e).map (fun i => (i.zero, i.size, i.bytes)) = some (some (.int .i64 0), 1, 8))
    (v : Value) (r : List Int) (hs : a.eval s = v) (hown : RowI w0 base e v r)
    (y : Int) (hx : a.eval x = .slice (some ⟨w0.heap.size, 0, none⟩) 1 1) (hn : r.length + 1 ≤ 4294967296) (hbase : base ≤ w0.heap.size)
    (h : ∀ g cap w', RowI w' base e (.slice (some ⟨g, 0, none⟩) (r.length + 1) cap) (r ++ [y]) → Below base w0 w' → (v.ownBlock = some g ∨ w0.heap.size ≤ g) → w0.grownBy w' v.ownBlock →
      wpList P ops Q rest (a.put o.dst (.slice (some ⟨g, 0, none⟩) (r.length + 1) cap)) w') :
    wpList P ops Q (o :: rest) a (w0.alloc (.cells #[.int .i64 y] e)) := by
  refine wpList_push w0 hgd s x t ho base e (.int .i64 0) 8 ht hinfo rfl v r.length (iv r) hs hown _ hx rfl hn (by omega) hbase ?_
  intro g cap w' hown' hgr hat hlt hcap
  refine h g cap w' ?_ (grown_below hown hgr hbase) hat hgr
  show w'.ownsRow base e 1 _ (r ++ [y]).length (iv (r ++ [y]))
  rw [iv_append, List.length_append]
  exact hown'

/-- 'row = append(row, x)' at a step of a region that draws its order. -/
theorem step_int_push {P : Program} (W : World) {ops : Array Oper} {o : Oper} {a : Act} {K : Act → World → Prop} {Q : Exit → Act → World → Prop} {E : Prop} (hgd : o.guard = none) (s x : Operand) (t : TypeId)
    (ho : o.op = .call { callee := .builtin .append, args := #[s, x], argTypes := #[t, t] })
    (base : Nat) (e : TypeId) (ht : P.underlying t = some (.slice e)) (hinfo : (P.info? e).map (fun i => (i.zero, i.size, i.bytes)) = some (some (.int .i64 0), 1, 8))
    (v : Value) (r : List Int) (hs : a.eval s = v) (hown : RowI W base e v r)
    (q : Nat) (y : Int) (hx : a.eval x = .slice (some ⟨q, 0, none⟩) 1 1) (hc : W.cell? ⟨q, 0, none⟩ = some (.int .i64 y)) (hn : r.length + 1 ≤ 4294967296) (hbase : base ≤ W.heap.size)
    (h : ∀ g cap w', RowI w' base e (.slice (some ⟨g, 0, none⟩) (r.length + 1) cap) (r ++ [y]) → Below base W w' →
      K (a.put o.dst (.slice (some ⟨g, 0, none⟩) (r.length + 1) cap)) w') :
    if Region.wanted o (yielded ops a.tmps) = true then Oper.wp P o a W K Q else E := by
  obtain ⟨i, hi, hz, hsz, hb⟩ := info_parts hinfo
  refine step_append_lies W hgd s x t ho base e i (.int .i64 0) 1 8 ht hi hz hsz hb rfl (by omega) v r.length (iv r) hs hown ⟨q, 0, none⟩ 1 1 [.int .i64 y] hx rfl ?_ ?_ (by omega) (by unfold maxLen; omega) (by omega) hbase W.heap.size rfl ?_
  · intro j u hj
    have : j = 0 := by
      rcases Nat.eq_zero_or_pos j with h | h
      · exact h
      · rw [List.getElem?_eq_none (by simp; omega)] at hj; cases hj
    subst this
    simp at hj
    subst hj
    simpa [Addr.add] using hc
  · intro u hu
    simp at hu
    subst hu
    rfl
  · intro g cap w' hown' hg hat hlt
    refine h g cap w' ?_ (grown_below (v := v) hown hg hbase)
    show w'.ownsRow base e 1 _ (r ++ [y]).length (iv (r ++ [y]))
    rw [iv_append, List.length_append]
    exact hown'

/-- v reads as the rows 'rows' of numbers; all lies in blocks of the call's own, from 'base' on. TT: the type of a row, TI: int64. -/
def TabI (w : World) (base : Nat) (TT : TypeId) (v : Value) (rows : List (List Int)) : Prop :=
  ∃ vs : List Value, w.ownsRow base TT 1 v rows.length vs ∧
    ∀ (j : Nat) (r : List Int), rows[j]? = some r → ∃ (g c : Nat), vs[j]? = some (Value.slice (some ⟨g, 0, none⟩) r.length c) ∧ base ≤ g ∧ g < w.heap.size ∧ v.ownBlock ≠ some g ∧ r.length ≤ c ∧ ∀ (k : Nat) (x : Int), r[k]? = some x → w.cell? ⟨g, k, none⟩ = some (.int .i64 x)
theorem TabI.made (w : World) (base : Nat) (TT : TypeId) (hb : base ≤ w.heap.size) : TabI (w.alloc (.cells #[] TT)) base TT (.slice (some ⟨w.heap.size, 0, none⟩) 0 0) [] :=
  ⟨[], World.ownsRow_made w #[] 0 hb (by unfold maxLen; omega) rfl, fun j r h => by simp at h⟩
section
variable {w w' : World} {base B : Nat} {TT : TypeId} {v : Value} {rows : List (List Int)}
theorem TabI.keep (h : TabI w base TT v rows) (hb : Below B w w') (hB : w.heap.size ≤ B) : TabI w' base TT v rows := by
  obtain ⟨vs, hown, hr⟩ := h
  refine ⟨vs, hown.kept (row := none) ⟨hb.os, hb.tape, hb.output, hb.size, fun k hk _ => hb.block k (by omega)⟩ (by cases v.ownBlock <;> simp), fun j r hj => ?_⟩
  obtain ⟨g, c, e1, e2, e3, e4, e5, e6⟩ := hr j r hj
  exact ⟨g, c, e1, e2, Nat.lt_of_lt_of_le e3 hb.size, e4, e5, fun k x hx => (hb.cell (p := ⟨g, k, none⟩) (show g < B by omega)).trans (e6 k x hx)⟩
theorem TabI.drew (h : TabI w base TT v rows) : TabI w.drew base TT v rows := h.keep (B := w.heap.size) (Below.drew (Below.refl _ _)) (Nat.le_refl _)
/-- Two loads: the row's header and, in it, the number. -/
theorem TabI.at_ (h : TabI w base TT v rows) {j : Nat} {r : List Int} (hj : rows[j]? = some r) :
    ∃ (gt ct g c : Nat), v = .slice (some ⟨gt, 0, none⟩) rows.length ct ∧ rows.length ≤ ct ∧ base ≤ gt ∧ gt < w.heap.size ∧ w.cell? ⟨gt, j, none⟩ = some (.slice (some ⟨g, 0, none⟩) r.length c) ∧ r.length ≤ c ∧ base ≤ g ∧ g < w.heap.size ∧ g ≠ gt ∧ ∀ (k : Nat) (x : Int), r[k]? = some x → w.cell? ⟨g, k, none⟩ = some (.int .i64 x) := by
  obtain ⟨vs, hown, hr⟩ := h
  have hl : j < rows.length := (List.getElem?_eq_some_iff.1 hj).1
  obtain ⟨gt, ct, rfl, hb, hlt⟩ := hown.form (by omega)
  obtain ⟨g, c, e1, e2, e3, e4, e5, e6⟩ := hr j r hj
  have hcell := hown.cells (g := gt) rfl j _ e1
  have ea : (⟨gt, 0, none⟩ : Addr).add j = ⟨gt, j, none⟩ := by unfold Addr.add; by_cases h : j = 0 <;> simp [h]
  rw [ea] at hcell
  obtain ⟨A, c', hv, hc1, _⟩ := own_form hown
  injection hv with _ _ hcc
  exact ⟨gt, ct, g, c, rfl, by omega, hb, hlt, hcell, e5, e2, e3, fun e => e4 (by simp [Value.ownBlock, e]), e6⟩
theorem TabI.block (h : TabI w base TT v rows) : ∀ k, v.ownBlock = some k → base ≤ k ∧ k < w.heap.size := by
  obtain ⟨vs, hown, _⟩ := h
  exact hown.lt
end

/-- 'table = append(table, row)'. -/
theorem wpList_tab_push {P : Program} (w0 : World) {ops : Array Oper} {rest : List Oper} {o : Oper} {a : Act} {Q : Exit → Act → World → Prop} (hgd : o.guard = none) (s x : Operand) (t : TypeId)
    (ho : o.op = .call { callee := .builtin .append, args := #[s, x], argTypes := #[t, t] })
    (base : Nat) (TT : TypeId) (ht : P.underlying t = some (.slice TT)) (hinfo : (P.info? TT).map (fun i => (i.zero, i.size, i.bytes)) = some (some (.slice none 0 0), 1, 24))
    (v : Value) (rows : List (List Int)) (hs : a.eval s = v) (htab : TabI w0 base TT v rows)
    (g c m : Nat) (r : List Int) (hm : r.length = m) (hx : a.eval x = .slice (some ⟨w0.heap.size, 0, none⟩) 1 1)
    (hg : base ≤ g) (hlt : g < w0.heap.size) (hne : v.ownBlock ≠ some g) (hc : m ≤ c) (hcells : ∀ k x, r[k]? = some x → w0.cell? ⟨g, k, none⟩ = some (.int .i64 x))
    (hn : rows.length + 1 ≤ 4294967296) (hbase : base ≤ w0.heap.size)
    (h : ∀ g' cap w', TabI w' base TT (.slice (some ⟨g', 0, none⟩) (rows.length + 1) cap) (rows ++ [r]) → w0.grownBy w' v.ownBlock → Below base w0 w' → (v.ownBlock = some g' ∨ w0.heap.size ≤ g') →
      wpList P ops Q rest (a.put o.dst (.slice (some ⟨g', 0, none⟩) (rows.length + 1) cap)) w') :
    wpList P ops Q (o :: rest) a (w0.alloc (.cells #[.slice (some ⟨g, 0, none⟩) m c] TT)) := by
  subst hm
  obtain ⟨vs, hown, hr⟩ := htab
  refine wpList_push w0 hgd s x t ho base TT (.slice none 0 0) 24 ht hinfo rfl v rows.length vs hs hown _ hx rfl hn (Nat.le_refl _) hbase ?_
  intro g' cap w' hown' hgr hat hlt' hcap
  have hbel := grown_below hown hgr hbase
  refine h g' cap w' ⟨vs ++ [.slice (some ⟨g, 0, none⟩) r.length c], by rw [List.length_append]; exact hown', ?_⟩ hgr hbel hat
  have hl : vs.length = rows.length := by have := hown.1; omega
  intro j r' hj
  by_cases hjl : j < rows.length
  · rw [List.getElem?_append_left hjl] at hj
    obtain ⟨g1, c1, e1, e2, e3, e4, e5, e6⟩ := hr j r' hj
    refine ⟨g1, c1, by rw [List.getElem?_append_left (by omega)]; exact e1, e2, Nat.lt_of_lt_of_le e3 hgr.size, ?_, e5, fun k x hx => hgr.cell (e6 k x hx) (Ne.symm e4)⟩
    intro e
    simp [Value.ownBlock] at e
    rcases hat with h | h
    · exact e4 (by rw [h, e])
    · omega
  · rw [List.getElem?_append_right (by omega)] at hj
    obtain ⟨hj0, rfl⟩ : j - rows.length = 0 ∧ r = r' := by
      rcases Nat.eq_zero_or_pos (j - rows.length) with h | h
      · rw [h] at hj; exact ⟨h, by simpa using hj⟩
      · rw [List.getElem?_eq_none (by simp; omega)] at hj; cases hj
    refine ⟨g, c, by rw [List.getElem?_append_right (by omega), hl, hj0]; rfl, hg, Nat.lt_of_lt_of_le hlt hgr.size, ?_, hc, fun k x hx => hgr.cell (hcells k x hx) (Ne.symm hne)⟩
    intro e
    simp [Value.ownBlock] at e
    rcases hat with h | h
    · exact hne (by rw [h, e])
    · omega
end Go.Proofs.Ytbdfbmohdbigfaa


namespace Go.Proofs.Ytbdfbmohdbigfaa
open Go.RowKit
set_option linter.unusedVariables false
/-- All blocks but g are as they were. -/
def But (g : Nat) (w w' : World) : Prop := w'.os = w.os ∧ w'.tape = w.tape ∧ w'.output = w.output ∧ w.heap.size ≤ w'.heap.size ∧ ∀ k, k < w.heap.size → k ≠ g → w'.heap[k]? = w.heap[k]?
theorem But.refl (g : Nat) (w : World) : But g w w := ⟨rfl, rfl, rfl, Nat.le_refl _, fun _ _ _ => rfl⟩
theorem But.trans {g : Nat} {a b c : World} (h : But g a b) (h' : But g b c) : But g a c :=
  ⟨h'.1.trans h.1, h'.2.1.trans h.2.1, h'.2.2.1.trans h.2.2.1, Nat.le_trans h.2.2.2.1 h'.2.2.2.1, fun k hk hg => (h'.2.2.2.2 k (Nat.lt_of_lt_of_le hk h.2.2.2.1) hg).trans (h.2.2.2.2 k hk hg)⟩
theorem But.of_below {g B : Nat} {a b : World} (h : Below B a b) (hB : a.heap.size ≤ B) : But g a b :=
  ⟨h.os, h.tape, h.output, h.size, fun k hk _ => h.block k (by omega)⟩
theorem But.below {g B : Nat} {a b : World} (h : But g a b) (hB : B ≤ g) (hs : B ≤ a.heap.size) : Below B a b :=
  ⟨h.1, h.2.1, h.2.2.1, h.2.2.2.1, fun k hk => h.2.2.2.2 k (by omega) (by omega)⟩
theorem But.set {g : Nat} (w : World) (o : Nat) (u : Value) : But g w (w.setCell ⟨g, o, none⟩ u) :=
  ⟨rfl, rfl, rfl, by simp [World.setCell], fun k hk hg => Below.heap_setCell w ⟨g, o, none⟩ u k hg⟩
/-- Block g is a row of n cells of the call's own. -/
def RowN (w : World) (g : Nat) (t : TypeId) (n : Nat) : Prop := ∃ vs, vs.length = n ∧ Row w g t vs
theorem RowN.cell {w : World} {g : Nat} {t : TypeId} {n k : Nat} (h : RowN w g t n) (hk : k < n) : ∃ u, w.cell? ⟨g, k, none⟩ = some u ∧ w.frozen? ⟨g, k, none⟩ = false := by
  obtain ⟨vs, hn, hr⟩ := h
  exact ⟨vs[k], by rw [hr.cell]; exact List.getElem?_eq_getElem _, hr.frozen k⟩
theorem RowN.set {w : World} {g : Nat} {t : TypeId} {n : Nat} (h : RowN w g t n) (k : Nat) (u : Value) : RowN (w.setCell ⟨g, k, none⟩ u) g t n := by
  obtain ⟨vs, hn, hr⟩ := h
  exact ⟨vs.set k u, by simpa using hn, hr.set_ k u⟩
theorem RowN.below {w w' : World} {g B : Nat} {t : TypeId} {n : Nat} (h : RowN w g t n) (hb : Below B w w') (hg : g < B) : RowN w' g t n := by
  obtain ⟨vs, hn, hr⟩ := h
  exact ⟨vs, hn, hr.below hb hg⟩
theorem RowN.lt {w : World} {g : Nat} {t : TypeId} {n : Nat} (h : RowN w g t n) : g < w.heap.size := by
  obtain ⟨vs, hn, hr⟩ := h
  exact hr.lt
/-- k, k + 1, .. *n* numbers -/
def marks (k : Int) (n : Nat) : List Int := (List.range n).map fun (j : Nat) => k + (j : Int)
theorem marks_length (k : Int) (n : Nat) : (marks k n).length = n := by simp [marks]
theorem marks_get {k : Int} {n q : Nat} (h : q < n) : (marks k n)[q]? = some (k + (q : Int)) := by simp [marks, h]
theorem iv_marks_get {k : Int} {n q : Nat} (h : q < n) : (iv (marks k n))[q]? = some (.int .i64 (k + (q : Int))) := by simp [iv, marks_get h]
set_option maxHeartbeats 400000 in
theorem markInt64S_any (g n m c : Nat) (k : Int) (w : World) (h : RowN w g 2 m) (hnm : n ≤ m) (hn : n ≤ 4294967296) (hk0 : 0 ≤ k) (hk1 : k ≤ 4294967296) :
    Calls Try.prog 73 #[.slice (some ⟨g, 0, none⟩) n c, .int .i64 k] w fun e w' => e = .returned (.int .i64 (k + n)) ∧ (∀ q : Nat, q < n → w'.cell? ⟨g, q, none⟩ = some (.int .i64 (k + q))) ∧ But g w w' := by
  go_enter Try.func73, Try.ntmps73
  go_wp2
  go_loopg [1, 5] n (fun p z i wr => ∃ j : Nat, z = .int .i64 (k + j) ∧ i = .int .i64 j ∧ j ≤ n ∧ n ≤ p + j ∧ RowN wr g 2 m ∧ (∀ q : Nat, q < j → wr.cell? ⟨g, q, none⟩ = some (.int .i64 (k + q))) ∧ But g w wr)
  case atStart => exact ⟨0, by simp, rfl, by omega, by omega, h, fun q hq => by omega, But.refl _ _⟩
  case round =>
    obtain ⟨j, rfl, rfl, hj, hm, hr, hq, hb⟩ := hrel
    have HR := Lib.hid hr; clear hr
    have HQ := Lib.hid hq; clear hq
    by_cases hlt : j < n
    · obtain ⟨u, hc, hf⟩ := HR.out.cell (show j < m by omega)
      have l1 : (0 : Int) ≤ (j : Int) := by omega
      go_wp2
      go_roundg (gk - 1)
      case measure => omega
      case rel =>
        refine ⟨j + 1, by simp; omega, by go_num, by omega, by omega, HR.out.set _ _, fun q hq => ?_, hb.trans (But.set _ _ _)⟩
        rcases Nat.lt_or_ge q j with h' | h'
        · rw [World.cell?_setCell_other _ _ _ _ (fun e => by injection e with _ e2 _; omega)]
          exact HQ.out q h'
        · obtain rfl : q = j := by omega
          obtain ⟨vs, hn', hrow⟩ := HR.out
          rw [(hrow.set_ q (.int .i64 (k + q))).cell, List.getElem?_set_self (by omega)]
    · obtain rfl : n = j := by omega
      go_wp2
      go_ret
      exact ⟨rfl, HQ.out, hb⟩
theorem markInt64S_nil (k : Int) (w : World) :
    Calls Try.prog 73 #[.slice none 0 0, .int .i64 k] w fun e w' => e = .returned (.int .i64 k) ∧ w = w' := by
  go_enter Try.func73, Try.ntmps73
  go_wp2
  go_loopg [1, 5] 0 (fun p z i wr => z = .int .i64 k ∧ i = .int .i64 0 ∧ wr = w)
  case atStart => exact ⟨rfl, rfl, rfl⟩
  case round =>
    obtain ⟨rfl, rfl, rfl⟩ := hrel
    go_wp2
    go_ret
    exact ⟨rfl, rfl⟩
set_option maxHeartbeats 400000 in
theorem heldInt64S_any (g n c : Nat) (k : Int) (w : World) (h : ∀ q : Nat, q < n → w.cell? ⟨g, q, none⟩ = some (.int .i64 (k + q))) (hn : n ≤ 4294967296) (hk0 : 0 ≤ k) (hk1 : k ≤ 4294967296) :
    Calls Try.prog 75 #[.slice (some ⟨g, 0, none⟩) n c, .int .i64 k] w fun e w' => e = .returned (.int .i64 (k + n)) ∧ w = w' := by
  have HC := Lib.hid h
  clear h
  go_enter Try.func75, Try.ntmps75
  go_wp2
  go_loopg [1, 5] n (fun m z i wr => ∃ j : Nat, z = .int .i64 (k + j) ∧ i = .int .i64 j ∧ j ≤ n ∧ n ≤ m + j ∧ wr = w)
  case atStart => exact ⟨0, by simp, rfl, by omega, by omega, rfl⟩
  case round =>
    obtain ⟨j, rfl, rfl, hj, hm, rfl⟩ := hrel
    by_cases hlt : j < n
    · have hc := HC.out j hlt
      have l1 : (0 : Int) ≤ (j : Int) := by omega
      go_wp2
      go_roundg (gk - 1)
      case measure => omega
      case rel => exact ⟨j + 1, by simp; omega, by go_num, by omega, by omega, rfl⟩
    · obtain rfl : n = j := by omega
      go_wp2
      go_ret
      exact ⟨rfl, rfl⟩
theorem heldInt64S_nil (k : Int) (w : World) :
    Calls Try.prog 75 #[.slice none 0 0, .int .i64 k] w fun e w' => e = .returned (.int .i64 k) ∧ w = w' := by
  go_enter Try.func75, Try.ntmps75
  go_wp2
  go_loopg [1, 5] 0 (fun p z i wr => z = .int .i64 k ∧ i = .int .i64 0 ∧ wr = w)
  case atStart => exact ⟨rfl, rfl, rfl⟩
  case round =>
    obtain ⟨rfl, rfl, rfl⟩ := hrel
    go_wp2
    go_ret
    exact ⟨rfl, rfl⟩
/-- Marked, held: for a row of the call's own, or nil. 'MarkedI w v k n': the n cells of v bear k, k + 1, .. -/
def MarkedI (w : World) (v : Value) (k : Int) (n : Nat) : Prop := (v = .slice none 0 0 ∧ n = 0) ∨ ∃ g c, v = .slice (some ⟨g, 0, none⟩) n c ∧ g < w.heap.size ∧ ∀ q : Nat, q < n → w.cell? ⟨g, q, none⟩ = some (.int .i64 (k + q))
theorem MarkedI.below {w w' : World} {v : Value} {k : Int} {n B : Nat} (h : MarkedI w v k n) (hb : Below B w w') (hB : w.heap.size ≤ B) : MarkedI w' v k n := by
  rcases h with h | ⟨g, c, rfl, hg, hc⟩
  · exact .inl h
  · exact .inr ⟨g, c, rfl, Nat.lt_of_lt_of_le hg hb.size, fun q hq => (hb.cell (p := ⟨g, q, none⟩) (show g < B by omega)).trans (hc q hq)⟩
theorem RowI.rowN {w : World} {base : Nat} {t : TypeId} {v : Value} {r : List Int} (h : RowI w base t v r) : (v = .slice none 0 0 ∧ r.length = 0) ∨ ∃ g cap, v = .slice (some ⟨g, 0, none⟩) r.length cap ∧ base ≤ g ∧ RowN w g t cap ∧ r.length ≤ cap := by
  rcases h.2 with h | ⟨g, cap, cur, rfl, hb, hg, hnc, hm, hs, ht⟩
  · exact .inl h
  · refine .inr ⟨g, cap, rfl, hb, ⟨cur.toList, by simpa using hs, ?_⟩, hnc⟩
    show w.heap[g]? = some (.cells cur.toList.toArray t (0, 0))
    rw [Array.toArray_toList]; exact hg
theorem markOwn (base : Nat) (v : Value) (r : List Int) (k : Int) (w : World) (h : RowI w base 2 v r) (hb : base ≤ w.heap.size) (hn : r.length ≤ 4294967296) (hk0 : 0 ≤ k) (hk1 : k ≤ 4294967296) :
    Calls Try.prog 73 #[v, .int .i64 k] w fun e w' => e = .returned (.int .i64 (k + r.length)) ∧ MarkedI w' v k r.length ∧ Below base w w' := by
  rcases h.rowN with ⟨rfl, h0⟩ | ⟨g, cap, rfl, hbg, hr, hc⟩
  · refine (markInt64S_nil k w).mono ?_
    rintro e w' ⟨rfl, rfl⟩
    exact ⟨ret_int (by omega), .inl ⟨rfl, h0⟩, Below.refl _ _⟩
  · refine (markInt64S_any g r.length cap cap k w hr hc hn hk0 hk1).mono ?_
    rintro e w' ⟨rfl, hq, hbut⟩
    exact ⟨rfl, .inr ⟨g, cap, rfl, Nat.lt_of_lt_of_le hr.lt hbut.2.2.2.1, hq⟩, hbut.below hbg hb⟩
theorem heldOwn (v : Value) (n : Nat) (k : Int) (w : World) (h : MarkedI w v k n) (hn : n ≤ 4294967296) (hk0 : 0 ≤ k) (hk1 : k ≤ 4294967296) :
    Calls Try.prog 75 #[v, .int .i64 k] w fun e w' => e = .returned (.int .i64 (k + n)) ∧ w = w' := by
  rcases h with ⟨rfl, rfl⟩ | ⟨g, c, rfl, hg, hq⟩
  · refine (heldInt64S_nil k w).mono ?_
    rintro e w' ⟨rfl, rfl⟩
    exact ⟨ret_int (by omega), rfl⟩
  · exact heldInt64S_any g n c k w hq hn hk0 hk1
end Go.Proofs.Ytbdfbmohdbigfaa


namespace Go.Proofs.Ytbdfbmohdbigfaa
open Go.RowKit
set_option linter.unusedVariables false
abbrev A4 := Int × Int × Int × Int
/-- The cells of a list of arcs. -/
def fa : List A4 → List Value
  | [] => []
  | a :: l => .int .i64 a.1 :: .int .i64 a.2.1 :: .int .i64 a.2.2.1 :: .int .i64 a.2.2.2 :: fa l
theorem fa_length (l : List A4) : (fa l).length = 4 * l.length := by
  induction l with
  | nil => rfl
  | cons a l ih => simp [fa, ih]; omega
theorem fa_append (l m : List A4) : fa (l ++ m) = fa l ++ fa m := by
  induction l with
  | nil => rfl
  | cons a l ih => simp [fa, ih]
theorem fa_get {l : List A4} {j : Nat} {a : A4} (h : l[j]? = some a) :
    (fa l)[j * 4]? = some (.int .i64 a.1) ∧ (fa l)[j * 4 + 1]? = some (.int .i64 a.2.1) ∧ (fa l)[j * 4 + 2]? = some (.int .i64 a.2.2.1) ∧ (fa l)[j * 4 + 3]? = some (.int .i64 a.2.2.2) := by
  induction l generalizing j with
  | nil => simp at h
  | cons b l ih =>
    cases j with
    | zero => simp at h; subst h; simp [fa]
    | succ j =>
      simp at h
      have := ih h
      rw [show (j + 1) * 4 = j * 4 + 1 + 1 + 1 + 1 from by omega]
      simpa [fa] using this
/-- The slice value '.slice A n c' reads, in w, as the arcs L; its cells lie in a block below B. -/
def SlA (w : World) (B : Nat) (A : Option Addr) (n : Nat) (L : List A4) : Prop :=
  L.length = n ∧ (0 < n → ∃ b off, A = some ⟨b, off, none⟩ ∧ b < B ∧ ∀ j a, L[j]? = some a → w.cell? ⟨b, off + j * 4, none⟩ = some (.int .i64 a.1) ∧ w.cell? ⟨b, off + j * 4 + 1, none⟩ = some (.int .i64 a.2.1) ∧ w.cell? ⟨b, off + j * 4 + 2, none⟩ = some (.int .i64 a.2.2.1) ∧ w.cell? ⟨b, off + j * 4 + 3, none⟩ = some (.int .i64 a.2.2.2))
section
variable {w w' : World} {B B' n : Nat} {A : Option Addr} {L : List A4}
theorem SlA.len (h : SlA w B A n L) : L.length = n := h.1
theorem SlA.nil (w : World) (B : Nat) (A : Option Addr) : SlA w B A 0 [] := ⟨rfl, fun h => absurd h (by omega)⟩
theorem SlA.keep (h : SlA w B A n L) (hk : ∀ b o, b < B → w'.cell? ⟨b, o, none⟩ = w.cell? ⟨b, o, none⟩) : SlA w' B A n L :=
  ⟨h.1, fun hn => by
    obtain ⟨b, off, e, hb, hc⟩ := h.2 hn
    refine ⟨b, off, e, hb, fun j a ha => ?_⟩
    rw [hk _ _ hb, hk _ _ hb, hk _ _ hb, hk _ _ hb]
    exact hc j a ha⟩
theorem SlA.more (h : SlA w B A n L) (hB : B ≤ B') : SlA w B' A n L :=
  ⟨h.1, fun hn => by
    obtain ⟨b, off, e, hb, hc⟩ := h.2 hn
    exact ⟨b, off, e, by omega, hc⟩⟩
theorem SlA.below (h : SlA w B A n L) (hb : Below B' w w') (hB : B ≤ B') : SlA w' B A n L :=
  h.keep fun b o hlt => hb.cell (p := ⟨b, o, none⟩) (show b < B' by omega)
theorem SlA.at_ {k : Nat} (h : SlA w B A n L) (hk : k < n) :
    ∃ b off a0 a1 a2 a3, A = some ⟨b, off, none⟩ ∧ b < B ∧ Hid (L[k]? = some (a0, a1, a2, a3)) ∧ w.cell? ⟨b, off + k * 4, none⟩ = some (.int .i64 a0) ∧ w.cell? ⟨b, off + k * 4 + 1, none⟩ = some (.int .i64 a1) ∧ w.cell? ⟨b, off + k * 4 + 2, none⟩ = some (.int .i64 a2) ∧ w.cell? ⟨b, off + k * 4 + 3, none⟩ = some (.int .i64 a3) := by
  obtain ⟨hl, h2⟩ := h
  obtain ⟨b, off, e, hb, hc⟩ := h2 (by omega)
  obtain ⟨a, ha⟩ : ∃ a, L[k]? = some a := ⟨L[k], List.getElem?_eq_getElem (by omega)⟩
  obtain ⟨c0, c1, c2, c3⟩ := hc k a ha
  exact ⟨b, off, a.1, a.2.1, a.2.2.1, a.2.2.2, e, hb, ha, c0, c1, c2, c3⟩
end
theorem Row.slA {w : World} {g : Nat} {t : TypeId} {L : List A4} (h : Row w g t (fa L)) : SlA w w.heap.size (some ⟨g, 0, none⟩) L.length L :=
  ⟨rfl, fun _ => ⟨g, 0, rfl, h.lt, fun j a ha => by
    obtain ⟨c0, c1, c2, c3⟩ := fa_get ha
    rw [Nat.zero_add, h.cell, h.cell, h.cell, h.cell]
    exact ⟨c0, c1, c2, c3⟩⟩⟩
theorem Row.newAt (w : World) (t : TypeId) (vs : List Value) {g : Nat} (hg : w.heap.size = g) : Row (w.alloc (.cells vs.toArray t)) g t vs := by subst hg; exact Row.new w t vs
def zA : A4 := (0, 0, 0, 0)
theorem fa_zero (n : Nat) : fa (List.replicate n zA) = List.replicate (n * 4) (.int .i64 0) := by
  induction n with
  | zero => rfl
  | succ n ih => rw [List.replicate_succ, show (n + 1) * 4 = n * 4 + 1 + 1 + 1 + 1 from by omega, List.replicate_succ, List.replicate_succ, List.replicate_succ, List.replicate_succ, ← ih]; rfl
theorem made4 (n : Nat) : madeCells (Value.agg #[.int .i64 0, .int .i64 0, .int .i64 0, .int .i64 0]).cells (n * 4) = (fa (List.replicate n zA)).toArray := by
  rw [fa_zero]
  apply Array.ext
  · simp [size_madeCells]
  · intro i h1 h2
    have h3 : i % 4 < 4 := Nat.mod_lt _ (by omega)
    have h4 : i % 4 = 0 ∨ i % 4 = 1 ∨ i % 4 = 2 ∨ i % 4 = 3 := by omega
    rcases h4 with h4 | h4 | h4 | h4 <;> simp [madeCells, Value.cells, h4]
theorem run_make4 {P : Program} (t e : TypeId) (ht : P.underlying t = some (.slice e)) (hinfo : (P.info? e).map (fun i => (i.zero, i.size, i.bytes)) = some (some (.agg #[.int .i64 0, .int .i64 0, .int .i64 0, .int .i64 0]), 4, 32))
    (n : Nat) (hn : n ≤ 4294967296) (w : World) :
    (Instr.makeSlice t (.int .i64 (n : Int)) (.int .i64 (n : Int))).run P w = .ok (.slice (some ⟨w.heap.size, 0, none⟩) n n) (w.alloc (.cells (fa (List.replicate n zA)).toArray e)) := by
  obtain ⟨i, hi, hzz⟩ := Option.map_eq_some_iff.1 hinfo
  simp only [Prod.mk.injEq] at hzz
  obtain ⟨hz, hs, hb⟩ := hzz
  have hr := run_make (P := P) w t e i _ ht hi hz .i64 .i64 n n (by omega) (Int.le_refl _) (by rw [hb]; omega) (by omega)
  simp only [Int.toNat_natCast, hs, made4] at hr
  exact hr
theorem fa_set {l : List A4} {j : Nat} (h : j < l.length) (a b c d : Int) :
    ((((fa l).set (j * 4) (.int .i64 a)).set (j * 4 + 1) (.int .i64 b)).set (j * 4 + 2) (.int .i64 c)).set (j * 4 + 3) (.int .i64 d) = fa (l.set j (a, b, c, d)) := by
  induction l generalizing j with
  | nil => simp at h
  | cons x l ih =>
    cases j with
    | zero => simp [fa]
    | succ j =>
      simp at h
      rw [show (j + 1) * 4 = j * 4 + 1 + 1 + 1 + 1 from by omega, show j * 4 + 1 + 1 + 1 + 1 + 1 = (j * 4 + 1) + 1 + 1 + 1 + 1 from by omega]
      simpa [fa] using ih h
/-- The first k of L, then zero arcs up to n. -/
def fillA (L : List A4) (k n : Nat) : List A4 := L.take k ++ List.replicate (n - k) zA
theorem fillA_zero (L : List A4) (n : Nat) : fillA L 0 n = List.replicate n zA := by simp [fillA]
theorem fillA_all {L : List A4} {n : Nat} (h : L.length = n) : fillA L n n = L := by simp [fillA, List.take_of_length_le (Nat.le_of_eq h)]
theorem fillA_length {L : List A4} {k n : Nat} (h : L.length = n) (hk : k ≤ n) : (fillA L k n).length = n := by simp [fillA]; omega
theorem fillA_get {L : List A4} {k n : Nat} (h : L.length = n) (hk : k < n) : (fillA L k n)[k]? = some zA := by
  unfold fillA
  rw [List.getElem?_append_right (by simp; omega), List.getElem?_replicate, List.length_take]
  simp; omega
theorem fillA_set {L : List A4} {k n : Nat} {a : A4} (h : L.length = n) (hk : k < n) (ha : L[k]? = some a) : (fillA L k n).set k a = fillA L (k + 1) n := by
  unfold fillA
  obtain ⟨hk', rfl⟩ := List.getElem?_eq_some_iff.1 ha
  have hl : (L.take k).length = k := by simp; omega
  rw [List.set_append_right _ _ (by omega), hl, Nat.sub_self, List.take_succ_eq_append_getElem hk', List.append_assoc]
  obtain ⟨m, hm⟩ : ∃ m, n - k = m + 1 := ⟨n - k - 1, by omega⟩
  rw [hm, List.replicate_succ, List.set_cons_zero, show n - (k + 1) = m from by omega]
  rfl
end Go.Proofs.Ytbdfbmohdbigfaa
