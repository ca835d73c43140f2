/- Tables: a slice of the call's own to which one value at a time is appended; a slice of rows of numbers. -/
import Derived.Test.YtedbngnkkfpbeaaMga
import Derived.StillTailTactics

namespace Go.Proofs.Ytedbngnkkfpbeaa
open Go.RowKit
set_option linter.unusedVariables false

/-- A region that draws its order, reads, and ends in a store: the world of its reads and of its tail under one name. -/
theorem wp_tail {P : Program} {id : Nat} {Q : Exit → Act → World → Prop} {a : Act} {w : World} {l : List Oper} (n : Nat) (hm : P.follows .mixedOrders = true) (hB : Region.lexTailB .any l.toArray n = true)
    (h : ∀ w2 : World, w2 = w.drewN 1 → wpStill P l.toArray w2 (fun a' => wpList P l.toArray Q (l.drop n) a' w2) (l.take n) a) : (Code.region id l.toArray true).wp P Q a w :=
  wp_region_still_tail n hm hB (h _ rfl)

/-- 'v = append(v, u)': v a row of the call's own, u one cell. -/
theorem wpList_push {P : Program} (w0 : World) {ops : Array Oper} {rest : List Oper} {o : Oper} {a : Act} {Q : Exit → Act → World → Prop} (hgd : o.guard = none) (s x : Operand) (t : TypeId)
    (ho : o.op = .call { callee := .builtin .append, args := #[s, x], argTypes := #[t, t] })
    (base : Nat) (e : TypeId) (z : Value) (bytes : Nat) (ht : P.underlying t = some (.slice e)) (hinfo : (P.info? e).map (fun i => (i.zero, i.size, i.bytes)) = some (some z, 1, bytes)) (hz1 : z.cells.size = 1)
    (v : Value) (n : Nat) (xs : List Value) (hs : a.eval s = v) (hown : w0.ownsRow base e 1 v n xs)
    (u : Value) (hx : a.eval x = .slice (some ⟨w0.heap.size, 0, none⟩) 1 1) (h1 : u.oneCell' = true)
    (hn : n + 1 ≤ 4294967296) (hby : bytes ≤ 24) (hbase : base ≤ w0.heap.size)
    (h : ∀ g cap w', w'.ownsRow base e 1 (.slice (some ⟨g, 0, none⟩) (n + 1) cap) (n + 1) (xs ++ [u]) → w0.grownBy w' v.ownBlock → (v.ownBlock = some g ∨ w0.heap.size ≤ g) → g < w'.heap.size → n + 1 ≤ cap →
      wpList P ops Q rest (a.put o.dst (.slice (some ⟨g, 0, none⟩) (n + 1) cap)) w') :
    wpList P ops Q (o :: rest) a (w0.alloc (.cells #[u] e)) := by
  obtain ⟨i, hi, hz, hsz, hb⟩ := info_parts hinfo
  have hb2 : (n + 1) * bytes ≤ 140737488355328 := by
    have := Nat.mul_le_mul hn hby
    omega
  refine wpList_append_lies _ hgd s x t ho base e i z 1 bytes ht hi hz hsz hb hz1 (by omega) v n xs hs (hown.alloc _) ⟨w0.heap.size, 0, none⟩ 1 1 [u] hx rfl ?_ ?_ (by omega) (by unfold maxLen; omega) hb2 (by simp; omega) (w0.heap.size + 1) (by simp) ?_
  · intro j y hj
    have : j = 0 := by
      rcases Nat.eq_zero_or_pos j with h | h
      · exact h
      · rw [List.getElem?_eq_none (by simp; omega)] at hj; cases hj
    subst this
    simp at hj
    subst hj
    have := (Row.new w0 e [u]).cell 0
    simp [Addr.add]
  · intro y hy
    simp at hy
    subst hy
    exact h1
  · intro g cap w' hown' hg hat hlt
    refine h g cap w' hown' ⟨hg.os, hg.tape, hg.output, ?_, ?_⟩ ?_ hlt ?_
    · have := hg.size; simp at this; omega
    · intro k hk hne
      exact (hg.block k (by simp; omega) hne).trans (Below.heap_alloc w0 _ k hk)
    · rcases hat with h | h
      · exact .inl h
      · exact .inr (by omega)
    · obtain ⟨A, c, hv, h1, _⟩ := own_form hown'
      injection hv with _ _ hc
      omega

theorem grown_below {w w' : World} {v : Value} {base : Nat} {e : TypeId} {size n : Nat} {xs : List Value} (h : w.ownsRow base e size v n xs) (hg : w.grownBy w' v.ownBlock) (hb : base ≤ w.heap.size) : Below base w w' :=
  (Below.refl _ _).grown hg hb (fun k hk => (h.lt k hk).1)

/-- v is a row of the call's own (from block 'base' on) that reads as the numbers r. -/
def RowI (w : World) (base : Nat) (t : TypeId) (v : Value) (r : List Int) : Prop := w.ownsRow base t 1 v r.length (iv r)
theorem RowI.made (w : World) (base : Nat) (t : TypeId) (hb : base ≤ w.heap.size) : RowI (w.alloc (.cells #[] t)) base t (.slice (some ⟨w.heap.size, 0, none⟩) 0 0) [] :=
  World.ownsRow_made w #[] 0 hb (by unfold maxLen; omega) rfl
section
variable {w w' : World} {base B : Nat} {t : TypeId} {v : Value} {r : List Int}
theorem RowI.drewN (h : RowI w base t v r) (q : Nat) : RowI (w.drewN q) base t v r := h
theorem RowI.keep (h : RowI w base t v r) (hb : Below B w w') (hB : w.heap.size ≤ B) : RowI w' base t v r :=
  World.ownsRow.kept (row := none) h ⟨hb.os, hb.tape, hb.output, hb.size, fun k hk _ => hb.block k (by omega)⟩ (by cases v.ownBlock <;> simp)
theorem RowI.form (h : RowI w base t v r) (h0 : 0 < r.length) : ∃ g c, v = .slice (some ⟨g, 0, none⟩) r.length c ∧ r.length ≤ c ∧ base ≤ g ∧ g < w.heap.size ∧ ∀ (k : Nat) (x : Int), r[k]? = some x → w.cell? ⟨g, k, none⟩ = some (.int .i64 x) := by
  obtain ⟨g, c, rfl, hb, hlt⟩ := World.ownsRow.form h h0
  obtain ⟨A, c', hv, hc, _⟩ := own_form h
  injection hv with _ _ hcc
  refine ⟨g, c, rfl, by omega, hb, hlt, fun k x hx => ?_⟩
  have := h.cells (g := g) rfl k (.int .i64 x) (by simp [iv, hx])
  have ea : (⟨g, 0, none⟩ : Addr).add k = ⟨g, k, none⟩ := by unfold Addr.add; by_cases h : k = 0 <;> simp [h]
  rw [ea] at this
  exact this
theorem RowI.sl {A : Option Addr} {n c : Nat} (h : RowI w base t (.slice A n c) r) (hn : r.length = n) : SlI w w.heap.size A n r := by
  subst hn; exact own_sl h
end
/-- 'row = append(row, x)'. -/
theorem wpList_int_push {P : Program} (w0 : World) {ops : Array Oper} {rest : List Oper} {o : Oper} {a : Act} {Q : Exit → Act → World → Prop} (hgd : o.guard = none) (s x : Operand) (t : TypeId)
    (ho : o.op = .call { callee := .builtin .append, args := #[s, x], argTypes := #[t, t] })
    (base : Nat) (e : TypeId) (ht : P.underlying t = some (.slice e)) (hinfo : (P.info? e).map (fun i => (i.zero, i.size, i.bytes)) = some (some (.int .i64 0), 1, 8))
    (v : Value) (r : List Int) (hs : a.eval s = v) (hown : RowI w0 base e v r)
    (y : Int) (hx : a.eval x = .slice (some ⟨w0.heap.size, 0, none⟩) 1 1) (hn : r.length + 1 ≤ 4294967296) (hbase : base ≤ w0.heap.size)
    (h : ∀ g cap w', RowI w' base e (.slice (some ⟨g, 0, none⟩) (r.length + 1) cap) (r ++ [y]) → Below base w0 w' → (v.ownBlock = some g ∨ w0.heap.size ≤ g) → w0.grownBy w' v.ownBlock →
      wpList P ops Q rest (a.put o.dst (.slice (some ⟨g, 0, none⟩) (r.length + 1) cap)) w') :
    wpList P ops Q (o :: rest) a (w0.alloc (.cells #[.int .i64 y] e)) := by
  refine wpList_push w0 hgd s x t ho base e (.int .i64 0) 8 ht hinfo rfl v r.length (iv r) hs hown _ hx rfl hn (by omega) hbase ?_
  intro g cap w' hown' hgr hat hlt hcap
  refine h g cap w' ?_ (grown_below hown hgr hbase) hat hgr
  show w'.ownsRow base e 1 _ (r ++ [y]).length (iv (r ++ [y]))
  rw [iv_append, List.length_append]
  exact hown'

/-- 'row = append(row, x)' at a step of a region that draws its order. -/
theorem step_int_push {P : Program} (W : World) {ops : Array Oper} {o : Oper} {a : Act} {K : Act → World → Prop} {Q : Exit → Act → World → Prop} {E : Prop} (hgd : o.guard = none) (s x : Operand) (t : TypeId)
    (ho : o.op = .call { callee := .builtin .append, args := #[s, x], argTypes := #[t, t] })
    (base : Nat) (e : TypeId) (ht : P.underlying t = some (.slice e)) (hinfo : (P.info? e).map (fun i => (i.zero, i.size, i.bytes)) = some (some (.int .i64 0), 1, 8))
    (v : Value) (r : List Int) (hs : a.eval s = v) (hown : RowI W base e v r)
    (q : Nat) (y : Int) (hx : a.eval x = .slice (some ⟨q, 0, none⟩) 1 1) (hc : W.cell? ⟨q, 0, none⟩ = some (.int .i64 y)) (hn : r.length + 1 ≤ 4294967296) (hbase : base ≤ W.heap.size)
    (h : ∀ g cap w', RowI w' base e (.slice (some ⟨g, 0, none⟩) (r.length + 1) cap) (r ++ [y]) → Below base W w' →
      K (a.put o.dst (.slice (some ⟨g, 0, none⟩) (r.length + 1) cap)) w') :
    if Region.wanted o (yielded ops a.tmps) = true then Oper.wp P o a W K Q else E := by
  obtain ⟨i, hi, hz, hsz, hb⟩ := info_parts hinfo
  refine step_append_lies W hgd s x t ho base e i (.int .i64 0) 1 8 ht hi hz hsz hb rfl (by omega) v r.length (iv r) hs hown ⟨q, 0, none⟩ 1 1 [.int .i64 y] hx rfl ?_ ?_ (by omega) (by unfold maxLen; omega) (by omega) hbase W.heap.size rfl ?_
  · intro j u hj
    have : j = 0 := by
      rcases Nat.eq_zero_or_pos j with h | h
      · exact h
      · rw [List.getElem?_eq_none (by simp; omega)] at hj; cases hj
    subst this
    simp at hj
    subst hj
    simpa [Addr.add] using hc
  · intro u hu
    simp at hu
    subst hu
    rfl
  · intro g cap w' hown' hg hat hlt
    refine h g cap w' ?_ (grown_below (v := v) hown hg hbase)
    show w'.ownsRow base e 1 _ (r ++ [y]).length (iv (r ++ [y]))
    rw [iv_append, List.length_append]
    exact hown'

/-- v reads as the rows 'rows' of numbers; all lies in blocks of the call's own, from 'base' on. TT: the type of a row, TI: int64. -/
def TabI (w : World) (base : Nat) (TT : TypeId) (v : Value) (rows : List (List Int)) : Prop :=
  ∃ vs : List Value, w.ownsRow base TT 1 v rows.length vs ∧
    ∀ (j : Nat) (r : List Int), rows[j]? = some r → ∃ (g c : Nat), vs[j]? = some (Value.slice (some ⟨g, 0, none⟩) r.length c) ∧ base ≤ g ∧ g < w.heap.size ∧ v.ownBlock ≠ some g ∧ r.length ≤ c ∧ ∀ (k : Nat) (x : Int), r[k]? = some x → w.cell? ⟨g, k, none⟩ = some (.int .i64 x)
theorem TabI.made (w : World) (base : Nat) (TT : TypeId) (hb : base ≤ w.heap.size) : TabI (w.alloc (.cells #[] TT)) base TT (.slice (some ⟨w.heap.size, 0, none⟩) 0 0) [] :=
  ⟨[], World.ownsRow_made w #[] 0 hb (by unfold maxLen; omega) rfl, fun j r h => by simp at h⟩
section
variable {w w' : World} {base B : Nat} {TT : TypeId} {v : Value} {rows : List (List Int)}
theorem TabI.keep (h : TabI w base TT v rows) (hb : Below B w w') (hB : w.heap.size ≤ B) : TabI w' base TT v rows := by
  obtain ⟨vs, hown, hr⟩ := h
  refine ⟨vs, hown.kept (row := none) ⟨hb.os, hb.tape, hb.output, hb.size, fun k hk _ => hb.block k (by omega)⟩ (by cases v.ownBlock <;> simp), fun j r hj => ?_⟩
  obtain ⟨g, c, e1, e2, e3, e4, e5, e6⟩ := hr j r hj
  exact ⟨g, c, e1, e2, Nat.lt_of_lt_of_le e3 hb.size, e4, e5, fun k x hx => (hb.cell (p := ⟨g, k, none⟩) (show g < B by omega)).trans (e6 k x hx)⟩
theorem TabI.drew (h : TabI w base TT v rows) : TabI w.drew base TT v rows := h.keep (B := w.heap.size) (Below.drew (Below.refl _ _)) (Nat.le_refl _)
/-- Two loads: the row's header and, in it, the number. -/
theorem TabI.at_ (h : TabI w base TT v rows) {j : Nat} {r : List Int} (hj : rows[j]? = some r) :
    ∃ (gt ct g c : Nat), v = .slice (some ⟨gt, 0, none⟩) rows.length ct ∧ rows.length ≤ ct ∧ base ≤ gt ∧ gt < w.heap.size ∧ w.cell? ⟨gt, j, none⟩ = some (.slice (some ⟨g, 0, none⟩) r.length c) ∧ r.length ≤ c ∧ base ≤ g ∧ g < w.heap.size ∧ g ≠ gt ∧ ∀ (k : Nat) (x : Int), r[k]? = some x → w.cell? ⟨g, k, none⟩ = some (.int .i64 x) := by
  obtain ⟨vs, hown, hr⟩ := h
  have hl : j < rows.length := (List.getElem?_eq_some_iff.1 hj).1
  obtain ⟨gt, ct, rfl, hb, hlt⟩ := hown.form (by omega)
  obtain ⟨g, c, e1, e2, e3, e4, e5, e6⟩ := hr j r hj
  have hcell := hown.cells (g := gt) rfl j _ e1
  have ea : (⟨gt, 0, none⟩ : Addr).add j = ⟨gt, j, none⟩ := by unfold Addr.add; by_cases h : j = 0 <;> simp [h]
  rw [ea] at hcell
  obtain ⟨A, c', hv, hc1, _⟩ := own_form hown
  injection hv with _ _ hcc
  exact ⟨gt, ct, g, c, rfl, by omega, hb, hlt, hcell, e5, e2, e3, fun e => e4 (by simp [Value.ownBlock, e]), e6⟩
theorem TabI.block (h : TabI w base TT v rows) : ∀ k, v.ownBlock = some k → base ≤ k ∧ k < w.heap.size := by
  obtain ⟨vs, hown, _⟩ := h
  exact hown.lt
end

/-- 'table = append(table, row)'. -/
theorem wpList_tab_push {P : Program} (w0 : World) {ops : Array Oper} {rest : List Oper} {o : Oper} {a : Act} {Q : Exit → Act → World → Prop} (hgd : o.guard = none) (s x : Operand) (t : TypeId)
    (ho : o.op = .call { callee := .builtin .append, args := #[s, x], argTypes := #[t, t] })
    (base : Nat) (TT : TypeId) (ht : P.underlying t = some (.slice TT)) (hinfo : (P.info? TT).map (fun i => (i.zero, i.size, i.bytes)) = some (some (.slice none 0 0), 1, 24))
    (v : Value) (rows : List (List Int)) (hs : a.eval s = v) (htab : TabI w0 base TT v rows)
    (g c m : Nat) (r : List Int) (hm : r.length = m) (hx : a.eval x = .slice (some ⟨w0.heap.size, 0, none⟩) 1 1)
    (hg : base ≤ g) (hlt : g < w0.heap.size) (hne : v.ownBlock ≠ some g) (hc : m ≤ c) (hcells : ∀ k x, r[k]? = some x → w0.cell? ⟨g, k, none⟩ = some (.int .i64 x))
    (hn : rows.length + 1 ≤ 4294967296) (hbase : base ≤ w0.heap.size)
    (h : ∀ g' cap w', TabI w' base TT (.slice (some ⟨g', 0, none⟩) (rows.length + 1) cap) (rows ++ [r]) → w0.grownBy w' v.ownBlock → Below base w0 w' → (v.ownBlock = some g' ∨ w0.heap.size ≤ g') →
      wpList P ops Q rest (a.put o.dst (.slice (some ⟨g', 0, none⟩) (rows.length + 1) cap)) w') :
    wpList P ops Q (o :: rest) a (w0.alloc (.cells #[.slice (some ⟨g, 0, none⟩) m c] TT)) := by
  subst hm
  obtain ⟨vs, hown, hr⟩ := htab
  refine wpList_push w0 hgd s x t ho base TT (.slice none 0 0) 24 ht hinfo rfl v rows.length vs hs hown _ hx rfl hn (Nat.le_refl _) hbase ?_
  intro g' cap w' hown' hgr hat hlt' hcap
  have hbel := grown_below hown hgr hbase
  refine h g' cap w' ⟨vs ++ [.slice (some ⟨g, 0, none⟩) r.length c], by rw [List.length_append]; exact hown', ?_⟩ hgr hbel hat
  have hl : vs.length = rows.length := by have := hown.1; omega
  intro j r' hj
  by_cases hjl : j < rows.length
  · rw [List.getElem?_append_left hjl] at hj
    obtain ⟨g1, c1, e1, e2, e3, e4, e5, e6⟩ := hr j r' hj
    refine ⟨g1, c1, by rw [List.getElem?_append_left (by omega)]; exact e1, e2, Nat.lt_of_lt_of_le e3 hgr.size, ?_, e5, fun k x hx => hgr.cell (e6 k x hx) (Ne.symm e4)⟩
    intro e
    simp [Value.ownBlock] at e
    rcases hat with h | h
    · exact e4 (by rw [h, e])
    · omega
  · rw [List.getElem?_append_right (by omega)] at hj
    obtain ⟨hj0, rfl⟩ : j - rows.length = 0 ∧ r = r' := by
      rcases Nat.eq_zero_or_pos (j - rows.length) with h | h
      · rw [h] at hj; exact ⟨h, by simpa using hj⟩
      · rw [List.getElem?_eq_none (by simp; omega)] at hj; cases hj
    refine ⟨g, c, by rw [List.getElem?_append_right (by omega), hl, hj0]; rfl, hg, Nat.lt_of_lt_of_le hlt hgr.size, ?_, hc, fun k x hx => hgr.cell (hcells k x hx) (Ne.symm hne)⟩
    intro e
    simp [Value.ownBlock] at e
    rcases hat with h | h
    · exact hne (by rw [h, e])
    · omega
end Go.Proofs.Ytedbngnkkfpbeaa
