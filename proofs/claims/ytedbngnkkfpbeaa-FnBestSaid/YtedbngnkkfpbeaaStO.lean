/- Structs as results, rows of structs: what is appended to them, how they are handed out. -/
import Derived.Test.YtedbngnkkfpbeaaMgf
import Derived.Test.YtedbngnkkfpbeaaMge
import Derived.Maps.AppendAt

namespace Go.Proofs.Ytedbngnkkfpbeaa
open Go.RowKit
set_option linter.unusedVariables false
/-- The results of a function whose first one lies in memory. -/
theorem results_cell2 {P : Program} {fn : Func} {p q : Tmp} {ty : TypeId} (h : fn.results = #[.cell p ty, .tmp q]) (tmps : Array Value) (w : World) (g : Nat) (t : TypeId) (cs : Array Value) (fr : Nat × Nat) (d : TypeDesc) (u : Value)
    (hp : tmps.getD p undef = .pointer (some ⟨g, 0, none⟩)) (hq : tmps.getD q undef = u) (hg : w.heap[g]? = some (.cells cs t fr))
    (hu : P.underlying ty = some d) (hd : (match d with | .struct _ | .array _ _ => true | _ => false) = true) (hi : (P.info? ty).map (·.size) = some cs.size) :
    (results fn tmps).run P w = .ok (.tuple #[.agg cs, u]) w := by
  have hp' : tmps[p]?.getD undef = .pointer (some ⟨g, 0, none⟩) := by simpa using hp
  have hq' : tmps[q]?.getD undef = u := by simpa using hq
  simp [results, h, hp', hq', asAddr, run_loadVar_row w g t ty cs fr d hg hu hd hi]
theorem SlA.cells {w : World} {B n b off : Nat} {L : List A4} (h : SlA w B (some ⟨b, off, none⟩) n L) : ∀ j u, (fa L)[j]? = some u → w.cell? ⟨b, off + j, none⟩ = some u := by
  intro j u hu
  have hj := (List.getElem?_eq_some_iff.1 hu).1
  rw [fa_length] at hj
  have hl := h.len
  have hk : j / 4 < L.length := by omega
  have hget := List.getElem?_eq_getElem hk
  obtain ⟨b', off', e, _, hc⟩ := h.2 (by omega)
  have e2 := Option.some.inj e
  injection e2 with e3 e4 _
  subst e3 e4
  obtain ⟨c0, c1, c2, c3⟩ := hc _ _ hget
  obtain ⟨f0, f1, f2, f3⟩ := fa_get hget
  have h4 : j % 4 = 0 ∨ j % 4 = 1 ∨ j % 4 = 2 ∨ j % 4 = 3 := by omega
  rcases h4 with h4 | h4 | h4 | h4
  · have ej : j = j / 4 * 4 := by omega
    rw [ej] at hu ⊢; rw [hu] at f0; rw [c0, ← f0]
  · have ej : j = j / 4 * 4 + 1 := by omega
    rw [ej] at hu ⊢; rw [hu] at f1; rw [← Nat.add_assoc, c1, ← f1]
  · have ej : j = j / 4 * 4 + 2 := by omega
    rw [ej] at hu ⊢; rw [hu] at f2; rw [← Nat.add_assoc, c2, ← f2]
  · have ej : j = j / 4 * 4 + 3 := by omega
    rw [ej] at hu ⊢; rw [hu] at f3; rw [← Nat.add_assoc, c3, ← f3]
theorem SlV.cells {w : World} {B n b off : Nat} {xs : List Value} (h : SlV w B (some ⟨b, off, none⟩) n xs) : ∀ j u, xs[j]? = some u → w.cell? ⟨b, off + j, none⟩ = some u := by
  intro j u hu
  have hj := (List.getElem?_eq_some_iff.1 hu).1
  have hl := h.len
  obtain ⟨b', off', e, _, hc⟩ := h.2 (by omega)
  have e2 := Option.some.inj e
  injection e2 with e3 e4 _
  subst e3 e4
  exact hc j u hu
theorem fa_one (L : List A4) : ∀ u ∈ fa L, u.oneCell' = true := by
  induction L with
  | nil => intro u hu; simp [fa] at hu
  | cons a l ih =>
    intro u hu
    simp only [fa, List.mem_cons] at hu
    rcases hu with rfl | rfl | rfl | rfl | hu
    · rfl
    · rfl
    · rfl
    · rfl
    · exact ih u hu
theorem bv_one (xs : List Bool) : ∀ u ∈ bv xs, u.oneCell' = true := by
  intro u hu
  simp only [bv, List.mem_map] at hu
  obtain ⟨x, _, rfl⟩ := hu
  rfl
/-- 'v = append(v, list...)', for elements of any size. -/
theorem wpList_cells_push {P : Program} {w0 : World} {ops : Array Oper} {rest : List Oper} {o : Oper} {a : Act} {Q : Exit → Act → World → Prop} (hgd : o.guard = none) (s x : Operand) (t : TypeId)
    (ho : o.op = .call { callee := .builtin .append, args := #[s, x], argTypes := #[t, t] })
    (base : Nat) (e : TypeId) (z : Value) (size bytes : Nat) (ht : P.underlying t = some (.slice e)) (hinfo : (P.info? e).map (fun i => (i.zero, i.size, i.bytes)) = some (some z, size, bytes)) (hzs : z.cells.size = size) (hsz : 0 < size) (hby : bytes ≤ 32)
    (v : Value) (n : Nat) (xs : List Value) (hs : a.eval s = v) (hown : w0.ownsRow base e size v n xs)
    (b off m c : Nat) (news : List Value) (hx : a.eval x = .slice (some ⟨b, off, none⟩) m c) (hl : news.length = m * size) (hnews : ∀ j u, news[j]? = some u → w0.cell? ⟨b, off + j, none⟩ = some u) (h1 : ∀ u ∈ news, u.oneCell' = true)
    (hn : n + m ≤ 4294967296) (hbase : base ≤ w0.heap.size)
    (h : ∀ v' w', w'.ownsRow base e size v' (n + m) (xs ++ news) → w0.grownBy w' v.ownBlock → (v'.ownBlock = v.ownBlock ∨ v'.ownBlock = some w0.heap.size) → wpList P ops Q rest (a.put o.dst v') w') :
    wpList P ops Q (o :: rest) a w0 := by
  obtain ⟨i, hi, hz, hsz', hb⟩ := info_parts hinfo
  have hb2 : (n + m) * bytes ≤ 140737488355328 := by
    have := Nat.mul_le_mul hn hby
    omega
  refine wpList_append_own_at (w := w0) hgd s x t ho base e i z size bytes ht hi hz hsz' hb hzs hsz v n xs hs hown ⟨b, off, none⟩ m c news hx hl ?_ h1 (by unfold maxLen; omega) hb2 hbase ?_
  · intro j u hu
    have ea : (⟨b, off, none⟩ : Addr).add j = ⟨b, off + j, none⟩ := by unfold Addr.add; by_cases h : j = 0 <;> simp [h]
    rw [ea]; exact hnews j u hu
  · intro v' w' hown' hg _ hat
    exact h v' w' hown' hg hat
/-- The same at a step of a region that draws its order. -/
theorem step_cells_push {P : Program} {w0 : World} {ops : Array Oper} {o : Oper} {a : Act} {K : Act → World → Prop} {Q : Exit → Act → World → Prop} {E : Prop} (hgd : o.guard = none) (s x : Operand) (t : TypeId)
    (ho : o.op = .call { callee := .builtin .append, args := #[s, x], argTypes := #[t, t] })
    (base : Nat) (e : TypeId) (z : Value) (size bytes : Nat) (ht : P.underlying t = some (.slice e)) (hinfo : (P.info? e).map (fun i => (i.zero, i.size, i.bytes)) = some (some z, size, bytes)) (hzs : z.cells.size = size) (hsz : 0 < size) (hby : bytes ≤ 32)
    (v : Value) (n : Nat) (xs : List Value) (hs : a.eval s = v) (hown : w0.ownsRow base e size v n xs)
    (b off m c : Nat) (news : List Value) (hx : a.eval x = .slice (some ⟨b, off, none⟩) m c) (hl : news.length = m * size) (hnews : ∀ j u, news[j]? = some u → w0.cell? ⟨b, off + j, none⟩ = some u) (h1 : ∀ u ∈ news, u.oneCell' = true)
    (hn : n + m ≤ 4294967296) (hbase : base ≤ w0.heap.size)
    (h : ∀ A' c' w', w'.ownsRow base e size (.slice A' (n + m) c') (n + m) (xs ++ news) → w0.grownBy w' v.ownBlock → Below base w0 w' → ((Value.slice A' (n + m) c').ownBlock = v.ownBlock ∨ (Value.slice A' (n + m) c').ownBlock = some w0.heap.size) → K (a.put o.dst (.slice A' (n + m) c')) w') :
    if Region.wanted o (yielded ops a.tmps) = true then Oper.wp P o a w0 K Q else E := by
  obtain ⟨i, hi, hz, hsz', hb⟩ := info_parts hinfo
  have hb2 : (n + m) * bytes ≤ 140737488355328 := by
    have := Nat.mul_le_mul hn hby
    omega
  have hw : Region.wanted o (yielded ops a.tmps) = true := by simp [Region.wanted, hgd]
  rw [if_pos hw]
  obtain ⟨v', w', hr, h2, h3, _, h5⟩ := run_append_own_at (P := P) w0 base t o.type e i z size bytes ht hi hz hsz' hb hzs hsz v n xs hown ⟨b, off, none⟩ m c news hl (fun j u hu => by
    have ea : (⟨b, off, none⟩ : Addr).add j = ⟨b, off + j, none⟩ := by unfold Addr.add; by_cases h : j = 0 <;> simp [h]
    rw [ea]; exact hnews j u hu) h1 (by unfold maxLen; omega) hb2 hbase
  unfold Oper.wp execOp
  simp only [ho, resolve, invoke, builtin, Sem.run_bind, Sem.run_pure, Result.andThen_ok, List.map_toArray, List.map_cons, List.map_nil, hs, hx, hr]
  obtain ⟨A', c', rfl, _, _⟩ := own_form h2
  exact h A' c' w' h2 h3 (grown_below hown h3 hbase) h5
theorem heap_set4 {x : World} {g b : Nat} (u0 u1 u2 u3 : Value) (h : g ≠ b) : ((((x.setCell ⟨b, 0, none⟩ u0).setCell ⟨b, 1, none⟩ u1).setCell ⟨b, 2, none⟩ u2).setCell ⟨b, 3, none⟩ u3).heap[g]? = x.heap[g]? :=
  (Below.heap_setCell _ ⟨b, 3, none⟩ _ _ h).trans ((Below.heap_setCell _ ⟨b, 2, none⟩ _ _ h).trans ((Below.heap_setCell _ ⟨b, 1, none⟩ _ _ h).trans (Below.heap_setCell _ ⟨b, 0, none⟩ _ _ h)))
theorem heap_set5 {x : World} {g b : Nat} (u0 u1 u2 u3 u4 : Value) (h : g ≠ b) : (((((x.setCell ⟨b, 0, none⟩ u0).setCell ⟨b, 1, none⟩ u1).setCell ⟨b, 2, none⟩ u2).setCell ⟨b, 3, none⟩ u3).setCell ⟨b, 4, none⟩ u4).heap[g]? = x.heap[g]? :=
  (Below.heap_setCell _ ⟨b, 4, none⟩ _ _ h).trans (heap_set4 u0 u1 u2 u3 h)
/-- Blocks below lo but g are as they were. -/
def Lo (lo g : Nat) (x y : World) : Prop := y.os = x.os ∧ y.tape = x.tape ∧ y.output = x.output ∧ x.heap.size ≤ y.heap.size ∧ ∀ k, k < lo → k ≠ g → y.heap[k]? = x.heap[k]?
theorem Lo.refl (lo g : Nat) (x : World) : Lo lo g x x := ⟨rfl, rfl, rfl, Nat.le_refl _, fun _ _ _ => rfl⟩
theorem Lo.trans {lo g : Nat} {x y z : World} (h : Lo lo g x y) (h' : Lo lo g y z) : Lo lo g x z :=
  ⟨h'.1.trans h.1, h'.2.1.trans h.2.1, h'.2.2.1.trans h.2.2.1, Nat.le_trans h.2.2.2.1 h'.2.2.2.1, fun k hk hg => (h'.2.2.2.2 k hk hg).trans (h.2.2.2.2 k hk hg)⟩
theorem Lo.below {lo g B : Nat} {x y : World} (h : Below B x y) (hB : lo ≤ B) : Lo lo g x y := ⟨h.os, h.tape, h.output, h.size, fun k hk _ => h.block k (by omega)⟩
theorem Lo.alloc (lo g : Nat) (x : World) (o : Obj) (h : lo ≤ x.heap.size) : Lo lo g x (x.alloc o) := Lo.below ((Below.refl x.heap.size x).alloc (Nat.le_refl _) o) h
theorem Lo.set (lo g : Nat) (x : World) (q : Nat) (u : Value) : Lo lo g x (x.setCell ⟨g, q, none⟩ u) :=
  ⟨rfl, rfl, rfl, by simp [World.setCell], fun k hk hg => Below.heap_setCell x ⟨g, q, none⟩ u k hg⟩
theorem Lo.set' {lo g b : Nat} (x : World) (q : Nat) (u : Value) (hb : lo ≤ b) : Lo lo g x (x.setCell ⟨b, q, none⟩ u) :=
  ⟨rfl, rfl, rfl, by simp [World.setCell], fun k hk hg => Below.heap_setCell x ⟨b, q, none⟩ u k (show k ≠ b by omega)⟩
theorem Lo.grown {lo g : Nat} {x y : World} {row : Option Nat} (h : x.grownBy y row) (hr : ∀ k, row = some k → lo ≤ k) (hs : lo ≤ x.heap.size) : Lo lo g x y :=
  ⟨h.os, h.tape, h.output, h.size, fun k hk _ => h.block k (by omega) (fun e => by have := hr k e.symm; omega)⟩
theorem Lo.bel {lo g B : Nat} {x y : World} (h : Lo lo g x y) (h1 : B ≤ lo) (h2 : B ≤ g) : Below B x y := ⟨h.1, h.2.1, h.2.2.1, h.2.2.2.1, fun k hk => h.2.2.2.2 k (by omega) (by omega)⟩
theorem Lo.row {lo g b : Nat} {x y : World} {t : TypeId} {vs : List Value} (h : Lo lo g x y) (hr : Row x b t vs) (h1 : b < lo) (h2 : b ≠ g) : Row y b t vs := (h.2.2.2.2 b h1 h2).trans hr
theorem own_move {w w' : World} {lo sz n : Nat} {t : TypeId} {v : Value} {xs : List Value} (h : w.ownsRow lo t sz v n xs) (hb : ∀ g, v.ownBlock = some g → w'.heap[g]? = w.heap[g]?) : w'.ownsRow lo t sz v n xs :=
  ((OwnV.of h).move hb).1
/-- 'v = append(v, u)', u of several cells, which has just been laid into a block of its own. -/
theorem wpList_one_push {P : Program} (w0 : World) {ops : Array Oper} {rest : List Oper} {o : Oper} {a : Act} {Q : Exit → Act → World → Prop} (hgd : o.guard = none) (s x : Operand) (t : TypeId)
    (ho : o.op = .call { callee := .builtin .append, args := #[s, x], argTypes := #[t, t] })
    (base : Nat) (e : TypeId) (z : Value) (size bytes : Nat) (ht : P.underlying t = some (.slice e)) (hinfo : (P.info? e).map (fun i => (i.zero, i.size, i.bytes)) = some (some z, size, bytes)) (hzs : z.cells.size = size) (hsz : 0 < size) (hby : bytes ≤ 32)
    (v : Value) (n : Nat) (xs : List Value) (hs : a.eval s = v) (hown : w0.ownsRow base e size v n xs)
    (cs : List Value) (hl : cs.length = size) (h1 : ∀ u ∈ cs, u.oneCell' = true) (H : Nat) (hH : w0.heap.size = H) (hx : a.eval x = .slice (some ⟨H, 0, none⟩) 1 1)
    (hn : n + 1 ≤ 4294967296) (hbase : base ≤ w0.heap.size)
    (h : ∀ v' w', w'.ownsRow base e size v' (n + 1) (xs ++ cs) → w0.grownBy w' v.ownBlock → (∀ k, v'.ownBlock = some k → v.ownBlock = some k ∨ w0.heap.size ≤ k) → wpList P ops Q rest (a.put o.dst v') w') :
    wpList P ops Q (o :: rest) a (w0.alloc (.cells cs.toArray e)) := by
  subst hH
  refine wpList_cells_push (w0 := w0.alloc (.cells cs.toArray e)) hgd s x t ho base e z size bytes ht hinfo hzs hsz hby v n xs hs (hown.alloc _) w0.heap.size 0 1 1 cs hx (by omega) ?_ h1 hn (by simp; omega) ?_
  · intro j u hu
    rw [Nat.zero_add, (Row.new w0 e cs).cell, hu]
  · intro v' w' hown' hg hat
    refine h v' w' hown' ⟨hg.os, hg.tape, hg.output, ?_, ?_⟩ ?_
    · have := hg.size; simp at this; omega
    · intro k hk hne
      exact (hg.block k (by simp; omega) hne).trans (Below.heap_alloc w0 _ k hk)
    · intro k hk
      rcases hat with h | h
      · exact .inl (by rw [← h]; exact hk)
      · rw [h] at hk; simp at hk; exact .inr (by omega)
/-- 'make' of no elements, as a row of the call's own. -/
theorem own_made (w : World) (base : Nat) (t : TypeId) (size : Nat) (hb : base ≤ w.heap.size) : (w.alloc (.cells #[] t)).ownsRow base t size (.slice (some ⟨w.heap.size, 0, none⟩) 0 0) 0 [] :=
  World.ownsRow_made w #[] 0 hb (by unfold maxLen; omega) (by simp)
theorem grown_below' {w w' : World} {v : Value} {base : Nat} {e : TypeId} {size n : Nat} {xs : List Value} (h : w.ownsRow base e size v n xs) (hg : w.grownBy w' v.ownBlock) (hb : base ≤ w.heap.size) : Below base w w' := grown_below h hg hb
end Go.Proofs.Ytedbngnkkfpbeaa
