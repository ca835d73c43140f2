/- Several texts in one: Rows that a call handed out, of any kind of element: what they read, and what marks leave of them. Small words that many texts want. Rows of the call's own: what is stored into them, what is appended to them as a whole. Structs as results, rows of structs: what is appended to them, how they are handed out. -/
import Derived.Test.YtbdfbmohdbigfaaMgc
import Derived.Test.YtbdfbmohdbigfaaMgd
import Derived.Test.YtbdfbmohdbigfaaMga
import Derived.Test.YtbdfbmohdbigfaaMgb
import Derived.Deep.LoopGhost
import Derived.Deep.QuietTactic
import Derived.BigQuiet
import Derived.Maps.AppendAt
import Derived.Deep.Onto

namespace Go.Proofs.Ytbdfbmohdbigfaa
open Go.RowKit
set_option linter.unusedVariables false
/-- v is nil, or the head of a row of the call's own in a block from lo on and below hi; it reads as the cells xs. -/
def OwnV (w : World) (lo hi : Nat) (t : TypeId) (sz : Nat) (v : Value) (n : Nat) (xs : List Value) : Prop := w.ownsRow lo t sz v n xs ∧ ∀ k, v.ownBlock = some k → k < hi
theorem But.grown {g : Nat} {w w' : World} (h : But g w w') : w.grownBy w' (some g) := ⟨h.1, h.2.1, h.2.2.1, h.2.2.2.1, fun k hk hne => h.2.2.2.2 k hk (fun e => hne (by rw [e]))⟩
theorem grown_kp {w w' : World} {row : Option Nat} {lo hi : Nat} (h : w.grownBy w' row) (hr : ∀ k, row = some k → lo ≤ k ∧ k < hi) : Kp lo hi w w' :=
  ⟨h.os, h.tape, h.output, h.size, fun k hk hn => h.block k hk (fun e => by have := hr k e.symm; omega)⟩
theorem Row.kp {w w' : World} {lo hi g : Nat} {t : TypeId} {vs : List Value} (h : Row w g t vs) (hk : Kp lo hi w w') (hg : g < lo ∨ hi ≤ g) : Row w' g t vs := (hk.2.2.2.2 g h.lt hg).trans h
theorem grown_refl (w : World) (row : Option Nat) : w.grownBy w row := ⟨rfl, rfl, rfl, Nat.le_refl _, fun _ _ _ => rfl⟩
section
variable {w w' : World} {lo hi sz n B : Nat} {t : TypeId} {v : Value} {xs : List Value}
theorem OwnV.of (h : w.ownsRow lo t sz v n xs) : OwnV w lo w.heap.size t sz v n xs := ⟨h, fun k hk => (h.lt k hk).2⟩
theorem OwnV.nil (w : World) (lo hi : Nat) (t : TypeId) (sz : Nat) : OwnV w lo hi t sz (.slice none 0 0) 0 [] := ⟨World.ownsRow_nil w lo t sz, fun k hk => by simp [Value.ownBlock] at hk⟩
theorem OwnV.lt (h : OwnV w lo hi t sz v n xs) : ∀ k, v.ownBlock = some k → lo ≤ k ∧ k < hi := fun k hk => ⟨(h.1.lt k hk).1, h.2 k hk⟩
theorem OwnV.move (h : OwnV w lo hi t sz v n xs) (hb : ∀ g, v.ownBlock = some g → w'.heap[g]? = w.heap[g]?) : OwnV w' lo hi t sz v n xs := by
  obtain ⟨⟨h1, h2⟩, h3⟩ := h
  refine ⟨⟨h1, ?_⟩, h3⟩
  rcases h2 with h2 | ⟨g, cap, cur, rfl, hg, hh, rest⟩
  · exact .inl h2
  · exact .inr ⟨g, cap, cur, rfl, hg, (hb g rfl).trans hh, rest⟩
theorem OwnV.below (h : OwnV w lo hi t sz v n xs) (hb : Below B w w') (hB : hi ≤ B) : OwnV w' lo hi t sz v n xs :=
  h.move fun g hg => hb.block g (by have := h.2 g hg; omega)
theorem OwnV.kp {lo' hi' : Nat} (h : OwnV w lo hi t sz v n xs) (hk : Kp lo' hi' w w') (hd : hi' ≤ lo ∨ hi ≤ lo') : OwnV w' lo hi t sz v n xs :=
  h.move fun g hg => hk.2.2.2.2 g (h.1.lt g hg).2 (by have := h.lt g hg; omega)
theorem OwnV.grown {row : Option Nat} (h : OwnV w lo hi t sz v n xs) (hg : w.grownBy w' row) (hne : ∀ k, v.ownBlock = some k → row ≠ some k) : OwnV w' lo hi t sz v n xs :=
  h.move fun g hv => hg.block g (h.1.lt g hv).2 (fun e => hne g hv e.symm)
theorem OwnV.more {hi' : Nat} (h : OwnV w lo hi t sz v n xs) (hh : hi ≤ hi') : OwnV w lo hi' t sz v n xs := ⟨h.1, fun k hk => Nat.lt_of_lt_of_le (h.2 k hk) hh⟩
theorem OwnV.form (h : OwnV w lo hi t sz v n xs) : ∃ A c, v = .slice A n c ∧ n ≤ c ∧ c ≤ maxLen := own_form h.1
theorem OwnV.rowN (h : OwnV w lo hi t sz v n xs) : (v = .slice none 0 0 ∧ n = 0) ∨ ∃ g cap, v = .slice (some ⟨g, 0, none⟩) n cap ∧ lo ≤ g ∧ g < hi ∧ RowN w g t (cap * sz) ∧ n ≤ cap := by
  obtain ⟨⟨h1, h2⟩, h3⟩ := h
  rcases h2 with h2 | ⟨g, cap, cur, rfl, hb, hg, hnc, hm, hs, ht⟩
  · exact .inl h2
  · refine .inr ⟨g, cap, rfl, hb, h3 g rfl, ⟨cur.toList, by simpa using hs, ?_⟩, hnc⟩
    show w.heap[g]? = some (.cells cur.toList.toArray t (0, 0))
    rw [Array.toArray_toList]; exact hg
theorem OwnV.slV (h : OwnV w lo hi t 1 v n xs) : ∃ A c, v = .slice A n c ∧ SlV w w.heap.size A n xs := by
  obtain ⟨A, c, rfl, _, _⟩ := h.form
  exact ⟨A, c, rfl, own_sl h.1⟩
theorem OwnV.slA {L : List A4} (h : OwnV w lo hi t 4 v L.length (fa L)) : ∃ A c, v = .slice A L.length c ∧ SlA w w.heap.size A L.length L := by
  obtain ⟨h1, h2⟩ := h.1
  rcases h2 with ⟨rfl, hn⟩ | ⟨g, cap, cur, rfl, hb, hg, hnc, hm, hs, ht⟩
  · exact ⟨none, 0, by rw [hn], by rw [List.length_eq_zero_iff.1 hn]; exact SlA.nil _ _ _⟩
  · refine ⟨_, cap, rfl, rfl, fun h0 => ⟨g, 0, rfl, (Array.getElem?_eq_some_iff.1 hg).1, fun j a ha => ?_⟩⟩
    have hj := (List.getElem?_eq_some_iff.1 ha).1
    have hget : ∀ q, q < L.length * 4 → w.cell? ⟨g, q, none⟩ = (fa L)[q]? := by
      intro q hq
      rw [cell_of_row w g q cur t (0, 0) hg, ← ht, List.getElem?_take_of_lt hq]; simp
    obtain ⟨c0, c1, c2, c3⟩ := fa_get ha
    simp only [Nat.zero_add]
    rw [hget _ (by omega), hget _ (by omega), hget _ (by omega), hget _ (by omega)]
    exact ⟨c0, c1, c2, c3⟩
end
/-- The n elements of v (sz cells each) bear the marks of k, k + 1, .. -/
def Mkd (f : Int → Value) (w : World) (sz : Nat) (v : Value) (n : Nat) (k : Int) : Prop := (v = .slice none 0 0 ∧ n = 0) ∨ ∃ g c, v = .slice (some ⟨g, 0, none⟩) n c ∧ g < w.heap.size ∧ ∀ q : Nat, q < n * sz → w.cell? ⟨g, q, none⟩ = some (f (k + q))
theorem Mkd.move {f : Int → Value} {w w' : World} {sz n : Nat} {v : Value} {k : Int} (h : Mkd f w sz v n k) (hs : w.heap.size ≤ w'.heap.size) (hb : ∀ g, v.ownBlock = some g → w'.heap[g]? = w.heap[g]?) : Mkd f w' sz v n k := by
  rcases h with h | ⟨g, c, rfl, hg, hq⟩
  · exact .inl h
  · exact .inr ⟨g, c, rfl, Nat.lt_of_lt_of_le hg hs, fun q hlt => (World.cell?_of_block (a := ⟨g, q, none⟩) (hb g rfl)).trans (hq q hlt)⟩
theorem Mkd.below {f : Int → Value} {w w' : World} {sz n B : Nat} {v : Value} {k : Int} (h : Mkd f w sz v n k) (hb : Below B w w') (hB : w.heap.size ≤ B) : Mkd f w' sz v n k := by
  refine h.move hb.size fun g hg => hb.block g ?_
  rcases h with ⟨rfl, _⟩ | ⟨g', c, rfl, hg', _⟩
  · simp [Value.ownBlock] at hg
  · simp [Value.ownBlock] at hg; omega
theorem Mkd.grown {f : Int → Value} {w w' : World} {sz n : Nat} {v : Value} {k : Int} {row : Option Nat} (h : Mkd f w sz v n k) (hg : w.grownBy w' row) (hne : ∀ k, v.ownBlock = some k → row ≠ some k) : Mkd f w' sz v n k := by
  refine h.move hg.size fun g hv => hg.block g ?_ (fun e => hne g hv e.symm)
  rcases h with ⟨rfl, _⟩ | ⟨g', c, rfl, hg', _⟩
  · simp [Value.ownBlock] at hv
  · simp [Value.ownBlock] at hv; omega
theorem Mkd.form {f : Int → Value} {w : World} {sz n : Nat} {v : Value} {k : Int} (h : Mkd f w sz v n k) : ∃ A c, v = .slice A n c := by
  rcases h with ⟨rfl, rfl⟩ | ⟨g, c, rfl, _⟩
  · exact ⟨_, _, rfl⟩
  · exact ⟨_, _, rfl⟩
theorem Kp.of_below {lo hi : Nat} {w w' : World} (h : Below w.heap.size w w') : Kp lo hi w w' := ⟨h.os, h.tape, h.output, h.size, fun k hk _ => h.block k hk⟩
theorem ret_val {a b : Value} (h : a = b) : Ending.returned a = Ending.returned b := by rw [h]
theorem set4_get {vs : List Value} {p q : Nat} {u0 u1 u2 u3 : Value} (hl : p + 3 < vs.length) :
    ((((vs.set p u0).set (p + 1) u1).set (p + 2) u2).set (p + 3) u3)[q]? = if q = p then some u0 else if q = p + 1 then some u1 else if q = p + 2 then some u2 else if q = p + 3 then some u3 else vs[q]? := by
  simp only [List.getElem?_set, List.length_set]
  by_cases h0 : q = p
  · subst h0; simp; omega
  by_cases h1 : q = p + 1
  · subst h1; simp; omega
  by_cases h2 : q = p + 2
  · subst h2; simp; omega
  by_cases h3 : q = p + 3
  · subst h3; simp; omega
  rw [if_neg (fun h => h3 h.symm), if_neg (fun h => h2 h.symm), if_neg (fun h => h1 h.symm), if_neg (fun h => h0 h.symm), if_neg h0, if_neg h1, if_neg h2, if_neg h3]
end Go.Proofs.Ytbdfbmohdbigfaa


namespace Go.Proofs.Ytbdfbmohdbigfaa
open Go.RowKit
set_option linter.unusedVariables false
theorem quietL {P : Program} {f : FuncId} {args : Array Value} {w : World} {n : Nat} {v : Value}
    (h : Calls P f args (w.drewN n) fun e w' => e = .returned v ∧ w.drewN n = w') : Calls P f args (w.drewN n) fun e w'' => e = .returned v ∧ ∃ m, w'' = w.drewN m :=
  h.mono fun _ _ ⟨he, hm⟩ => ⟨he, n, hm.symm⟩
theorem infoQ : (Try.prog.info? 2).map (fun i => (i.zero, i.size, i.bytes)) = some (some (.int .i64 0), 1, 8) := by kernel_rfl
theorem allT {α : Type} {p : α → Bool} {L : List α} {k : Nat} {a : α} (h : (L.take k).all p = true) (ha : L[k]? = some a) (hp : p a = true) : (L.take (k + 1)).all p = true := by
  obtain ⟨hk, rfl⟩ := List.getElem?_eq_some_iff.1 ha
  rw [List.take_succ_eq_append_getElem hk, List.all_append, h]
  simp [hp]
theorem allN {α : Type} {p : α → Bool} {L : List α} {k : Nat} {a : α} (ha : L[k]? = some a) (hp : p a = false) : L.all p = false := by
  rw [List.all_eq_false]
  exact ⟨a, List.mem_of_getElem? ha, by simp [hp]⟩
end Go.Proofs.Ytbdfbmohdbigfaa


namespace Go.Proofs.Ytbdfbmohdbigfaa
open Go.RowKit
set_option linter.unusedVariables false
theorem RowI.open {w : World} {base g c n : Nat} {t : TypeId} {r : List Int} (h : RowI w base t (.slice (some ⟨g, 0, none⟩) n c) r) : ∃ vs, Row w g t vs ∧ vs.take r.length = iv r ∧ vs.length = c ∧ c ≤ maxLen ∧ r.length = n ∧ n ≤ c ∧ base ≤ g := by
  obtain ⟨h1, h2⟩ := h
  rcases h2 with ⟨e, _⟩ | ⟨g', cap, cur, e, hb, hg, hn, hm, hs, ht⟩
  · cases e
  · injection e with e1 e2 e3
    injection e1 with e1
    injection e1 with e1 _ _
    subst e1
    refine ⟨cur.toList, by unfold Row; rw [Array.toArray_toList]; exact hg, by rw [← ht, Nat.mul_one], ?_, by omega, by omega, by omega, hb⟩
    rw [Array.length_toList, hs]; omega
theorem RowI.frozen {w : World} {base g c n : Nat} {t : TypeId} {r : List Int} (h : RowI w base t (.slice (some ⟨g, 0, none⟩) n c) r) (k : Nat) : w.frozen? ⟨g, k, none⟩ = false := by
  obtain ⟨vs, hr, _⟩ := h.open; exact hr.frozen k
theorem RowI.cell {w : World} {base g c n : Nat} {t : TypeId} {r : List Int} (h : RowI w base t (.slice (some ⟨g, 0, none⟩) n c) r) {k : Nat} {x : Int} (hx : r[k]? = some x) : w.cell? ⟨g, k, none⟩ = some (.int .i64 x) := by
  obtain ⟨vs, hr, ht, _⟩ := h.open
  have hk := (List.getElem?_eq_some_iff.1 hx).1
  rw [hr.cell, ← List.getElem?_take_of_lt hk, ht, iv, List.getElem?_map, hx]; rfl
theorem RowI.set {w : World} {base g c n : Nat} {t : TypeId} {r : List Int} (h : RowI w base t (.slice (some ⟨g, 0, none⟩) n c) r) (k : Nat) (x : Int) : RowI (w.setCell ⟨g, k, none⟩ (.int .i64 x)) base t (.slice (some ⟨g, 0, none⟩) n c) (r.set k x) := by
  obtain ⟨vs, hr, ht, hl, hm, hn, hnc, hb⟩ := h.open
  have hr' := hr.set_ k (.int .i64 x)
  have hlen : (r.set k x).length = n := by rw [List.length_set]; exact hn
  refine ⟨by rw [iv_length]; omega, .inr ⟨g, c, (vs.set k (.int .i64 x)).toArray, by rw [hlen], hb, hr', by omega, hm, by simp [hl], ?_⟩⟩
  rw [List.toList_toArray, List.take_set, hlen, Nat.mul_one, ← hn, ht, iv, iv, List.map_set]
/-- 'v = append(v, list...)'. -/
theorem wpList_ints_push {P : Program} {w0 : World} {ops : Array Oper} {rest : List Oper} {o : Oper} {a : Act} {Q : Exit → Act → World → Prop} (hgd : o.guard = none) (s x : Operand) (t : TypeId)
    (ho : o.op = .call { callee := .builtin .append, args := #[s, x], argTypes := #[t, t] })
    (base : Nat) (e : TypeId) (ht : P.underlying t = some (.slice e)) (hinfo : (P.info? e).map (fun i => (i.zero, i.size, i.bytes)) = some (some (.int .i64 0), 1, 8))
    (v : Value) (r : List Int) (hs : a.eval s = v) (hown : RowI w0 base e v r)
    (b off m c B : Nat) (ys : List Int) (hx : a.eval x = .slice (some ⟨b, off, none⟩) m c) (hsl : SlI w0 B (some ⟨b, off, none⟩) m ys) (hn : r.length + m ≤ 4294967296) (hbase : base ≤ w0.heap.size)
    (h : ∀ v' w', RowI w' base e v' (r ++ ys) → Below base w0 w' → wpList P ops Q rest (a.put o.dst v') w') :
    wpList P ops Q (o :: rest) a w0 := by
  obtain ⟨i, hi, hz, hsz, hb⟩ := info_parts hinfo
  have hl := hsl.len
  refine wpList_append_own_at (w := w0) hgd s x t ho base e i (.int .i64 0) 1 8 ht hi hz hsz hb rfl (by omega) v r.length (iv r) hs hown ⟨b, off, none⟩ m c (iv ys) hx (by rw [iv_length]; omega) ?_ (iv_one ys) (by unfold maxLen; omega) (by omega) hbase ?_
  · intro j u hu
    have hj : j < m := by
      have := (List.getElem?_eq_some_iff.1 hu).1
      rw [iv_length] at this; omega
    obtain ⟨y, hy, rfl⟩ := iv_get hu
    obtain ⟨b', off', y', he, _, hy', hc⟩ := hsl.at_ hj
    have e2 := Option.some.inj he
    injection e2 with e3 e4 _
    subst e3 e4
    rw [hy'.out] at hy
    rw [← Option.some.inj hy]
    have ea : (⟨b, off, none⟩ : Addr).add j = ⟨b, off + j, none⟩ := by unfold Addr.add; by_cases h : j = 0 <;> simp [h]
    rw [ea]; exact hc
  · intro v' w' hown' hg _ _
    refine h v' w' ?_ (grown_below hown hg hbase)
    show w'.ownsRow base e 1 _ (r ++ ys).length (iv (r ++ ys))
    rw [iv_append, List.length_append, hl]
    exact hown'
end Go.Proofs.Ytbdfbmohdbigfaa


namespace Go.Proofs.Ytbdfbmohdbigfaa
open Go.RowKit
set_option linter.unusedVariables false
/-- The results of a function whose first one lies in memory. -/
theorem results_cell2 {P : Program} {fn : Func} {p q : Tmp} {ty : TypeId} (h : fn.results = #[.cell p ty, .tmp q]) (tmps : Array Value) (w : World) (g : Nat) (t : TypeId) (cs : Array Value) (fr : Nat × Nat) (d : TypeDesc) (u : Value)
    (hp : tmps.getD p undef = .pointer (some ⟨g, 0, none⟩)) (hq : tmps.getD q undef = u) (hg : w.heap[g]? = some (.cells cs t fr))
    (hu : P.underlying ty = some d) (hd : (match d with | .struct _ | .array _ _ => true | _ => false) = true) (hi : (P.info? ty).map (·.size) = some cs.size) :
    (results fn tmps).run P w = .ok (.tuple #[.agg cs, u]) w := by
  have hp' : tmps[p]?.getD undef = .pointer (some ⟨g, 0, none⟩) := by simpa using hp
  have hq' : tmps[q]?.getD undef = u := by simpa using hq
  simp [results, h, hp', hq', asAddr, run_loadVar_row w g t ty cs fr d hg hu hd hi]
theorem SlA.cells {w : World} {B n b off : Nat} {L : List A4} (h : SlA w B (some ⟨b, off, none⟩) n L) : ∀ j u, (fa L)[j]? = some u → w.cell? ⟨b, off + j, none⟩ = some u := by
  intro j u hu
  have hj := (List.getElem?_eq_some_iff.1 hu).1
  rw [fa_length] at hj
  have hl := h.len
  have hk : j / 4 < L.length := by omega
  have hget := List.getElem?_eq_getElem hk
  obtain ⟨b', off', e, _, hc⟩ := h.2 (by omega)
  have e2 := Option.some.inj e
  injection e2 with e3 e4 _
  subst e3 e4
  obtain ⟨c0, c1, c2, c3⟩ := hc _ _ hget
  obtain ⟨f0, f1, f2, f3⟩ := fa_get hget
  have h4 : j % 4 = 0 ∨ j % 4 = 1 ∨ j % 4 = 2 ∨ j % 4 = 3 := by omega
  rcases h4 with h4 | h4 | h4 | h4
  · have ej : j = j / 4 * 4 := by omega
    rw [ej] at hu ⊢; rw [hu] at f0; rw [c0, ← f0]
  · have ej : j = j / 4 * 4 + 1 := by omega
    rw [ej] at hu ⊢; rw [hu] at f1; rw [← Nat.add_assoc, c1, ← f1]
  · have ej : j = j / 4 * 4 + 2 := by omega
    rw [ej] at hu ⊢; rw [hu] at f2; rw [← Nat.add_assoc, c2, ← f2]
  · have ej : j = j / 4 * 4 + 3 := by omega
    rw [ej] at hu ⊢; rw [hu] at f3; rw [← Nat.add_assoc, c3, ← f3]
theorem SlV.cells {w : World} {B n b off : Nat} {xs : List Value} (h : SlV w B (some ⟨b, off, none⟩) n xs) : ∀ j u, xs[j]? = some u → w.cell? ⟨b, off + j, none⟩ = some u := by
  intro j u hu
  have hj := (List.getElem?_eq_some_iff.1 hu).1
  have hl := h.len
  obtain ⟨b', off', e, _, hc⟩ := h.2 (by omega)
  have e2 := Option.some.inj e
  injection e2 with e3 e4 _
  subst e3 e4
  exact hc j u hu
theorem fa_one (L : List A4) : ∀ u ∈ fa L, u.oneCell' = true := by
  induction L with
  | nil => intro u hu; simp [fa] at hu
  | cons a l ih =>
    intro u hu
    simp only [fa, List.mem_cons] at hu
    rcases hu with rfl | rfl | rfl | rfl | hu
    · rfl
    · rfl
    · rfl
    · rfl
    · exact ih u hu
theorem bv_one (xs : List Bool) : ∀ u ∈ bv xs, u.oneCell' = true := by
  intro u hu
  simp only [bv, List.mem_map] at hu
  obtain ⟨x, _, rfl⟩ := hu
  rfl
/-- 'v = append(v, list...)', for elements of any size. -/
theorem wpList_cells_push {P : Program} {w0 : World} {ops : Array Oper} {rest : List Oper} {o : Oper} {a : Act} {Q : Exit → Act → World → Prop} (hgd : o.guard = none) (s x : Operand) (t : TypeId)
    (ho : o.op = .call { callee := .builtin .append, args := #[s, x], argTypes := #[t, t] })
    (base : Nat) (e : TypeId) (z : Value) (size bytes : Nat) (ht : P.underlying t = some (.slice e)) (hinfo : (P.info? e).map (fun i => (i.zero, i.size, i.bytes)) = some (some z, size, bytes)) (hzs : z.cells.size = size) (hsz : 0 < size) (hby : bytes ≤ 32)
    (v : Value) (n : Nat) (xs : List Value) (hs : a.eval s = v) (hown : w0.ownsRow base e size v n xs)
    (b off m c : Nat) (news : List Value) (hx : a.eval x = .slice (some ⟨b, off, none⟩) m c) (hl : news.length = m * size) (hnews : ∀ j u, news[j]? = some u → w0.cell? ⟨b, off + j, none⟩ = some u) (h1 : ∀ u ∈ news, u.oneCell' = true)
    (hn : n + m ≤ 4294967296) (hbase : base ≤ w0.heap.size)
    (h : ∀ v' w', w'.ownsRow base e size v' (n + m) (xs ++ news) → w0.grownBy w' v.ownBlock → (v'.ownBlock = v.ownBlock ∨ v'.ownBlock = some w0.heap.size) → wpList P ops Q rest (a.put o.dst v') w') :
    wpList P ops Q (o :: rest) a w0 := by
  obtain ⟨i, hi, hz, hsz', hb⟩ := info_parts hinfo
  have hb2 : (n + m) * bytes ≤ 140737488355328 := by
    have := Nat.mul_le_mul hn hby
    omega
  refine wpList_append_own_at (w := w0) hgd s x t ho base e i z size bytes ht hi hz hsz' hb hzs hsz v n xs hs hown ⟨b, off, none⟩ m c news hx hl ?_ h1 (by unfold maxLen; omega) hb2 hbase ?_
  · intro j u hu
    have ea : (⟨b, off, none⟩ : Addr).add j = ⟨b, off + j, none⟩ := by unfold Addr.add; by_cases h : j = 0 <;> simp [h]
    rw [ea]; exact hnews j u hu
  · intro v' w' hown' hg _ hat
    exact h v' w' hown' hg hat
/-- The same at a step of a region that draws its order. -/
theorem step_cells_push {P : Program} {w0 : World} {ops : Array Oper} {o : Oper} {a : Act} {K : Act → World → Prop} {Q : Exit → Act → World → Prop} {E : Prop} (hgd : o.guard = none) (s x : Operand) (t : TypeId)
    (ho : o.op = .call { callee := .builtin .append, args := #[s, x], argTypes := #[t, t] })
    (base : Nat) (e : TypeId) (z : Value) (size bytes : Nat) (ht : P.underlying t = some (.slice e)) (hinfo : (P.info? e).map (fun i => (i.zero, i.size, i.bytes)) = some (some z, size, bytes)) (hzs : z.cells.size = size) (hsz : 0 < size) (hby : bytes ≤ 32)
    (v : Value) (n : Nat) (xs : List Value) (hs : a.eval s = v) (hown : w0.ownsRow base e size v n xs)
    (b off m c : Nat) (news : List Value) (hx : a.eval x = .slice (some ⟨b, off, none⟩) m c) (hl : news.length = m * size) (hnews : ∀ j u, news[j]? = some u → w0.cell? ⟨b, off + j, none⟩ = some u) (h1 : ∀ u ∈ news, u.oneCell' = true)
    (hn : n + m ≤ 4294967296) (hbase : base ≤ w0.heap.size)
    (h : ∀ A' c' w', w'.ownsRow base e size (.slice A' (n + m) c') (n + m) (xs ++ news) → w0.grownBy w' v.ownBlock → Below base w0 w' → ((Value.slice A' (n + m) c').ownBlock = v.ownBlock ∨ (Value.slice A' (n + m) c').ownBlock = some w0.heap.size) → K (a.put o.dst (.slice A' (n + m) c')) w') :
    if Region.wanted o (yielded ops a.tmps) = true then Oper.wp P o a w0 K Q else E := by
  obtain ⟨i, hi, hz, hsz', hb⟩ := info_parts hinfo
  have hb2 : (n + m) * bytes ≤ 140737488355328 := by
    have := Nat.mul_le_mul hn hby
    omega
  have hw : Region.wanted o (yielded ops a.tmps) = true := by simp [Region.wanted, hgd]
  rw [if_pos hw]
  obtain ⟨v', w', hr, h2, h3, _, h5⟩ := run_append_own_at (P := P) w0 base t o.type e i z size bytes ht hi hz hsz' hb hzs hsz v n xs hown ⟨b, off, none⟩ m c news hl (fun j u hu => by
    have ea : (⟨b, off, none⟩ : Addr).add j = ⟨b, off + j, none⟩ := by unfold Addr.add; by_cases h : j = 0 <;> simp [h]
    rw [ea]; exact hnews j u hu) h1 (by unfold maxLen; omega) hb2 hbase
  unfold Oper.wp execOp
  simp only [ho, resolve, invoke, builtin, Sem.run_bind, Sem.run_pure, Result.andThen_ok, List.map_toArray, List.map_cons, List.map_nil, hs, hx, hr]
  obtain ⟨A', c', rfl, _, _⟩ := own_form h2
  exact h A' c' w' h2 h3 (grown_below hown h3 hbase) h5
theorem heap_set4 {x : World} {g b : Nat} (u0 u1 u2 u3 : Value) (h : g ≠ b) : ((((x.setCell ⟨b, 0, none⟩ u0).setCell ⟨b, 1, none⟩ u1).setCell ⟨b, 2, none⟩ u2).setCell ⟨b, 3, none⟩ u3).heap[g]? = x.heap[g]? :=
  (Below.heap_setCell _ ⟨b, 3, none⟩ _ _ h).trans ((Below.heap_setCell _ ⟨b, 2, none⟩ _ _ h).trans ((Below.heap_setCell _ ⟨b, 1, none⟩ _ _ h).trans (Below.heap_setCell _ ⟨b, 0, none⟩ _ _ h)))
theorem heap_set5 {x : World} {g b : Nat} (u0 u1 u2 u3 u4 : Value) (h : g ≠ b) : (((((x.setCell ⟨b, 0, none⟩ u0).setCell ⟨b, 1, none⟩ u1).setCell ⟨b, 2, none⟩ u2).setCell ⟨b, 3, none⟩ u3).setCell ⟨b, 4, none⟩ u4).heap[g]? = x.heap[g]? :=
  (Below.heap_setCell _ ⟨b, 4, none⟩ _ _ h).trans (heap_set4 u0 u1 u2 u3 h)
/-- Blocks below lo but g are as they were. -/
def Lo (lo g : Nat) (x y : World) : Prop := y.os = x.os ∧ y.tape = x.tape ∧ y.output = x.output ∧ x.heap.size ≤ y.heap.size ∧ ∀ k, k < lo → k ≠ g → y.heap[k]? = x.heap[k]?
theorem Lo.refl (lo g : Nat) (x : World) : Lo lo g x x := ⟨rfl, rfl, rfl, Nat.le_refl _, fun _ _ _ => rfl⟩
theorem Lo.trans {lo g : Nat} {x y z : World} (h : Lo lo g x y) (h' : Lo lo g y z) : Lo lo g x z :=
  ⟨h'.1.trans h.1, h'.2.1.trans h.2.1, h'.2.2.1.trans h.2.2.1, Nat.le_trans h.2.2.2.1 h'.2.2.2.1, fun k hk hg => (h'.2.2.2.2 k hk hg).trans (h.2.2.2.2 k hk hg)⟩
theorem Lo.below {lo g B : Nat} {x y : World} (h : Below B x y) (hB : lo ≤ B) : Lo lo g x y := ⟨h.os, h.tape, h.output, h.size, fun k hk _ => h.block k (by omega)⟩
theorem Lo.alloc (lo g : Nat) (x : World) (o : Obj) (h : lo ≤ x.heap.size) : Lo lo g x (x.alloc o) := Lo.below ((Below.refl x.heap.size x).alloc (Nat.le_refl _) o) h
theorem Lo.set (lo g : Nat) (x : World) (q : Nat) (u : Value) : Lo lo g x (x.setCell ⟨g, q, none⟩ u) :=
  ⟨rfl, rfl, rfl, by simp [World.setCell], fun k hk hg => Below.heap_setCell x ⟨g, q, none⟩ u k hg⟩
theorem Lo.set' {lo g b : Nat} (x : World) (q : Nat) (u : Value) (hb : lo ≤ b) : Lo lo g x (x.setCell ⟨b, q, none⟩ u) :=
  ⟨rfl, rfl, rfl, by simp [World.setCell], fun k hk hg => Below.heap_setCell x ⟨b, q, none⟩ u k (show k ≠ b by omega)⟩
theorem Lo.grown {lo g : Nat} {x y : World} {row : Option Nat} (h : x.grownBy y row) (hr : ∀ k, row = some k → lo ≤ k) (hs : lo ≤ x.heap.size) : Lo lo g x y :=
  ⟨h.os, h.tape, h.output, h.size, fun k hk _ => h.block k (by omega) (fun e => by have := hr k e.symm; omega)⟩
theorem Lo.bel {lo g B : Nat} {x y : World} (h : Lo lo g x y) (h1 : B ≤ lo) (h2 : B ≤ g) : Below B x y := ⟨h.1, h.2.1, h.2.2.1, h.2.2.2.1, fun k hk => h.2.2.2.2 k (by omega) (by omega)⟩
theorem Lo.row {lo g b : Nat} {x y : World} {t : TypeId} {vs : List Value} (h : Lo lo g x y) (hr : Row x b t vs) (h1 : b < lo) (h2 : b ≠ g) : Row y b t vs := (h.2.2.2.2 b h1 h2).trans hr
theorem own_move {w w' : World} {lo sz n : Nat} {t : TypeId} {v : Value} {xs : List Value} (h : w.ownsRow lo t sz v n xs) (hb : ∀ g, v.ownBlock = some g → w'.heap[g]? = w.heap[g]?) : w'.ownsRow lo t sz v n xs :=
  ((OwnV.of h).move hb).1
/-- 'v = append(v, u)', u of several cells, which has just been laid into a block of its own. -/
theorem wpList_one_push {P : Program} (w0 : World) {ops : Array Oper} {rest : List Oper} {o : Oper} {a : Act} {Q : Exit → Act → World → Prop} (hgd : o.guard = none) (s x : Operand) (t : TypeId)
    (ho : o.op = .call { callee := .builtin .append, args := #[s, x], argTypes := #[t, t] })
    (base : Nat) (e : TypeId) (z : Value) (size bytes : Nat) (ht : P.underlying t = some (.slice e)) (hinfo : (P.info? e).map (fun i => (i.zero, i.size, i.bytes)) = some (some z, size, bytes)) (hzs : z.cells.size = size) (hsz : 0 < size) (hby : bytes ≤ 32)
    (v : Value) (n : Nat) (xs : List Value) (hs : a.eval s = v) (hown : w0.ownsRow base e size v n xs)
    (cs : List Value) (hl : cs.length = size) (h1 : ∀ u ∈ cs, u.oneCell' = true) (H : Nat) (hH : w0.heap.size = H) (hx : a.eval x = .slice (some ⟨H, 0, none⟩) 1 1)
    (hn : n + 1 ≤ 4294967296) (hbase : base ≤ w0.heap.size)
    (h : ∀ v' w', w'.ownsRow base e size v' (n + 1) (xs ++ cs) → w0.grownBy w' v.ownBlock → (∀ k, v'.ownBlock = some k → v.ownBlock = some k ∨ w0.heap.size ≤ k) → wpList P ops Q rest (a.put o.dst v') w') :
    wpList P ops Q (o :: rest) a (w0.alloc (.cells cs.toArray e)) := by
  subst hH
  refine wpList_cells_push (w0 := w0.alloc (.cells cs.toArray e)) hgd s x t ho base e z size bytes ht hinfo hzs hsz hby v n xs hs (hown.alloc _) w0.heap.size 0 1 1 cs hx (by omega) ?_ h1 hn (by simp; omega) ?_
  · intro j u hu
    rw [Nat.zero_add, (Row.new w0 e cs).cell, hu]
  · intro v' w' hown' hg hat
    refine h v' w' hown' ⟨hg.os, hg.tape, hg.output, ?_, ?_⟩ ?_
    · have := hg.size; simp at this; omega
    · intro k hk hne
      exact (hg.block k (by simp; omega) hne).trans (Below.heap_alloc w0 _ k hk)
    · intro k hk
      rcases hat with h | h
      · exact .inl (by rw [← h]; exact hk)
      · rw [h] at hk; simp at hk; exact .inr (by omega)
/-- 'make' of no elements, as a row of the call's own. -/
theorem own_made (w : World) (base : Nat) (t : TypeId) (size : Nat) (hb : base ≤ w.heap.size) : (w.alloc (.cells #[] t)).ownsRow base t size (.slice (some ⟨w.heap.size, 0, none⟩) 0 0) 0 [] :=
  World.ownsRow_made w #[] 0 hb (by unfold maxLen; omega) (by simp)
theorem grown_below' {w w' : World} {v : Value} {base : Nat} {e : TypeId} {size n : Nat} {xs : List Value} (h : w.ownsRow base e size v n xs) (hg : w.grownBy w' v.ownBlock) (hb : base ≤ w.heap.size) : Below base w w' := grown_below h hg hb
end Go.Proofs.Ytbdfbmohdbigfaa
