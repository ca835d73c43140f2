/- Several texts in one: Bounds of costs while they are relaxed; what both programs' helper functions need, plainly. Rows of the call's own: what is stored into them, what is appended to them as a whole. Lists of truth values, as the laws' helpers copy and compare them. Rows that a call handed out, of any kind of element: what they read, and what marks leave of them. -/
import Derived.Test.YtedbngnkkfpbeaaCoQ
import Derived.Test.YtedbngnkkfpbeaaVm
import Derived.Test.YtedbngnkkfpbeaaTab
import Derived.Maps.AppendAt
import Derived.Deep.Onto
import Derived.Test.YtedbngnkkfpbeaaMga
import Derived.Test.YtedbngnkkfpbeaaMgb
import Derived.Deep.QuietTactic
import Derived.BigQuiet
import Derived.Test.YtedbngnkkfpbeaaMgd

namespace Go.Proofs.Ytedbngnkkfpbeaa
set_option linter.unusedVariables false
def Bd (F : Int) (u : List Int) : Prop := ∀ x ∈ u, 0 ≤ x ∧ x ≤ F
section
variable {F : Int} {u : List Int}
theorem Bd.set (h : Bd F u) {k : Nat} {x : Int} (hx : 0 ≤ x ∧ x ≤ F) : Bd F (u.set k x) := fun y hy => by
  rcases List.mem_or_eq_of_mem_set hy with h1 | rfl
  · exact h y h1
  · exact hx
theorem Bd.get (h : Bd F u) {k : Nat} {x : Int} (hx : u[k]? = some x) : 0 ≤ x ∧ x ≤ F := h x (List.mem_of_getElem? hx)
theorem Bd.g0 (h : Bd F u) (hF : 0 ≤ F) (k : Nat) : 0 ≤ g0 u k ∧ g0 u k ≤ F := by
  unfold Go.Proofs.Ytedbngnkkfpbeaa.g0
  rw [List.getD_eq_getElem?_getD]
  cases hx : u[k]? with
  | none => exact ⟨Int.le_refl _, hF⟩
  | some x => exact h.get hx
theorem Bd.rel1 (h : Bd F u) (hF : 0 ≤ F) {a : A4} (ha : 0 ≤ a.2.2.2) : Bd F (rel1 u a) := by
  unfold Go.Proofs.Ytedbngnkkfpbeaa.rel1
  split
  · refine h.set ?_
    have := h.g0 hF a.2.1.toNat; have := h.g0 hF a.1.toNat
    omega
  · exact h
theorem Bd.relT (hF : 0 ≤ F) : ∀ {L : List A4} {u : List Int}, Bd F u → (∀ a ∈ L, 0 ≤ a.2.2.2) → Bd F (rel L u)
  | [], _, h, _ => h
  | a :: L, u, h, hL => show Bd F (rel L (Go.Proofs.Ytedbngnkkfpbeaa.rel1 u a)) from Bd.relT hF (h.rel1 hF (hL a (List.mem_cons_self ..))) (fun x hx => hL x (List.mem_cons_of_mem _ hx))
theorem Bd.relN (hF : 0 ≤ F) {L : List A4} (h : Bd F u) (hL : ∀ a ∈ L, 0 ≤ a.2.2.2) : ∀ r, Bd F (relN L u r)
  | 0 => h
  | r + 1 => Bd.relT hF (Bd.relN hF h hL r) hL
theorem Bd.stp1 {v : List Int} (h : Bd F u) (hv : Bd F v) (hF : 0 ≤ F) {l : Int} {a : A4} (ha : 0 ≤ a.2.2.2) : Bd F (stp1 l v u a) := by
  unfold Go.Proofs.Ytedbngnkkfpbeaa.stp1
  split
  · refine h.set ?_
    have := h.g0 hF a.2.1.toNat; have := hv.g0 hF a.1.toNat
    omega
  · exact h
theorem Bd.rep (hF : 0 ≤ F) (n : Nat) : Bd F (List.replicate n F) := fun x hx => by
  rw [List.eq_of_mem_replicate hx]; exact ⟨hF, Int.le_refl _⟩
theorem Bd.stpT {v : List Int} (hv : Bd F v) (hF : 0 ≤ F) {L : List A4} {l : Int} (hL : ∀ a ∈ L, 0 ≤ a.2.2.2) (j : Nat) : Bd F (stpT F L l v j) := by
  induction j with
  | zero => exact Bd.rep hF _
  | succ j ih =>
    cases hx : L[j]? with
    | none =>
      have : L.length ≤ j := by simpa using hx
      have e : Go.Proofs.Ytedbngnkkfpbeaa.stpT F L l v (j + 1) = Go.Proofs.Ytedbngnkkfpbeaa.stpT F L l v j := by unfold Go.Proofs.Ytedbngnkkfpbeaa.stpT; rw [List.take_of_length_le (by omega), List.take_of_length_le (by omega)]
      rw [e]; exact ih
    | some a => rw [stpT_succ hx]; exact ih.stp1 hv hF (hL a (List.mem_of_getElem? hx))
end
/-- Costs with 'far' where there is none. -/
def frL (F : Int) (P : List Int) : List Int := P.map fun x => if x < 0 then F else x
theorem frL_len (F : Int) (P : List Int) : (frL F P).length = P.length := by simp [frL]
theorem frL_bd {F : Int} {P : List Int} (hF : 0 ≤ F) (hP : ∀ x ∈ P, x ≤ F) : Bd F (frL F P) := fun y hy => by
  simp only [frL, List.mem_map] at hy
  obtain ⟨x, hx, rfl⟩ := hy
  have := hP x hx
  split <;> omega
theorem frL_get {F : Int} {P : List Int} {k : Nat} {x : Int} (h : P[k]? = some x) : (frL F P)[k]? = some (if x < 0 then F else x) := by
  simp [frL, h]
/-- The first k have been turned. -/
def frT (F : Int) (P : List Int) (k : Nat) : List Int := frL F (P.take k) ++ P.drop k
theorem frT_len (F : Int) (P : List Int) (k : Nat) : (frT F P k).length = P.length := by
  unfold frT; rw [List.length_append, frL_len, List.length_take, List.length_drop]; omega
theorem frT_zero (F : Int) (P : List Int) : frT F P 0 = P := by simp [frT, frL]
theorem frT_all (F : Int) (P : List Int) : frT F P P.length = frL F P := by simp [frT]
theorem frT_at {F : Int} {P : List Int} {k : Nat} {x : Int} (h : P[k]? = some x) : (frT F P k)[k]? = some x := by
  obtain ⟨hk, rfl⟩ := List.getElem?_eq_some_iff.1 h
  unfold frT
  have hl : (frL F (P.take k)).length = k := by rw [frL_len, List.length_take]; omega
  rw [List.getElem?_append_right (by omega), hl, Nat.sub_self, List.getElem?_drop, Nat.add_zero, List.getElem?_eq_getElem hk]
theorem frT_step {F : Int} {P : List Int} {k : Nat} {x : Int} (h : P[k]? = some x) : frT F P (k + 1) = (frT F P k).set k (if x < 0 then F else x) := by
  obtain ⟨hk, rfl⟩ := List.getElem?_eq_some_iff.1 h
  unfold frT
  have hl : (frL F (P.take k)).length = k := by rw [frL_len, List.length_take]; omega
  rw [List.set_append_right _ _ (by omega), hl, Nat.sub_self, List.drop_eq_getElem_cons hk, List.set_cons_zero, List.take_succ_eq_append_getElem hk]
  show List.map _ (P.take k ++ [P[k]]) ++ _ = _
  rw [List.map_append, List.append_assoc]; rfl
theorem frT_keep {F : Int} {P : List Int} {k : Nat} {x : Int} (h : P[k]? = some x) (hx : ¬ x < 0) : frT F P (k + 1) = frT F P k := by
  rw [frT_step h, if_neg hx]
  have := frT_at (F := F) h
  obtain ⟨hk, e⟩ := List.getElem?_eq_some_iff.1 this
  rw [← e, List.set_getElem_self]
/-- The least sum. -/
def lsm (F : Int) (a b : List Int) : Nat → Int := mins F fun i => g0 a i + g0 b i
end Go.Proofs.Ytedbngnkkfpbeaa


namespace Go.Proofs.Ytedbngnkkfpbeaa
open Go.RowKit
set_option linter.unusedVariables false
theorem RowI.open {w : World} {base g c n : Nat} {t : TypeId} {r : List Int} (h : RowI w base t (.slice (some ⟨g, 0, none⟩) n c) r) : ∃ vs, Row w g t vs ∧ vs.take r.length = iv r ∧ vs.length = c ∧ c ≤ maxLen ∧ r.length = n ∧ n ≤ c ∧ base ≤ g := by
  obtain ⟨h1, h2⟩ := h
  rcases h2 with ⟨e, _⟩ | ⟨g', cap, cur, e, hb, hg, hn, hm, hs, ht⟩
  · cases e
  · injection e with e1 e2 e3
    injection e1 with e1
    injection e1 with e1 _ _
    subst e1
    refine ⟨cur.toList, by unfold Row; rw [Array.toArray_toList]; exact hg, by rw [← ht, Nat.mul_one], ?_, by omega, by omega, by omega, hb⟩
    rw [Array.length_toList, hs]; omega
theorem RowI.frozen {w : World} {base g c n : Nat} {t : TypeId} {r : List Int} (h : RowI w base t (.slice (some ⟨g, 0, none⟩) n c) r) (k : Nat) : w.frozen? ⟨g, k, none⟩ = false := by
  obtain ⟨vs, hr, _⟩ := h.open; exact hr.frozen k
theorem RowI.cell {w : World} {base g c n : Nat} {t : TypeId} {r : List Int} (h : RowI w base t (.slice (some ⟨g, 0, none⟩) n c) r) {k : Nat} {x : Int} (hx : r[k]? = some x) : w.cell? ⟨g, k, none⟩ = some (.int .i64 x) := by
  obtain ⟨vs, hr, ht, _⟩ := h.open
  have hk := (List.getElem?_eq_some_iff.1 hx).1
  rw [hr.cell, ← List.getElem?_take_of_lt hk, ht, iv, List.getElem?_map, hx]; rfl
theorem RowI.set {w : World} {base g c n : Nat} {t : TypeId} {r : List Int} (h : RowI w base t (.slice (some ⟨g, 0, none⟩) n c) r) (k : Nat) (x : Int) : RowI (w.setCell ⟨g, k, none⟩ (.int .i64 x)) base t (.slice (some ⟨g, 0, none⟩) n c) (r.set k x) := by
  obtain ⟨vs, hr, ht, hl, hm, hn, hnc, hb⟩ := h.open
  have hr' := hr.set_ k (.int .i64 x)
  have hlen : (r.set k x).length = n := by rw [List.length_set]; exact hn
  refine ⟨by rw [iv_length]; omega, .inr ⟨g, c, (vs.set k (.int .i64 x)).toArray, by rw [hlen], hb, hr', by omega, hm, by simp [hl], ?_⟩⟩
  rw [List.toList_toArray, List.take_set, hlen, Nat.mul_one, ← hn, ht, iv, iv, List.map_set]
/-- 'v = append(v, list...)'. -/
theorem wpList_ints_push {P : Program} {w0 : World} {ops : Array Oper} {rest : List Oper} {o : Oper} {a : Act} {Q : Exit → Act → World → Prop} (hgd : o.guard = none) (s x : Operand) (t : TypeId)
    (ho : o.op = .call { callee := .builtin .append, args := #[s, x], argTypes := #[t, t] })
    (base : Nat) (e : TypeId) (ht : P.underlying t = some (.slice e)) (hinfo : (P.info? e).map (fun i => (i.zero, i.size, i.bytes)) = some (some (.int .i64 0), 1, 8))
    (v : Value) (r : List Int) (hs : a.eval s = v) (hown : RowI w0 base e v r)
    (b off m c B : Nat) (ys : List Int) (hx : a.eval x = .slice (some ⟨b, off, none⟩) m c) (hsl : SlI w0 B (some ⟨b, off, none⟩) m ys) (hn : r.length + m ≤ 4294967296) (hbase : base ≤ w0.heap.size)
    (h : ∀ v' w', RowI w' base e v' (r ++ ys) → Below base w0 w' → wpList P ops Q rest (a.put o.dst v') w') :
    wpList P ops Q (o :: rest) a w0 := by
  obtain ⟨i, hi, hz, hsz, hb⟩ := info_parts hinfo
  have hl := hsl.len
  refine wpList_append_own_at (w := w0) hgd s x t ho base e i (.int .i64 0) 1 8 ht hi hz hsz hb rfl (by omega) v r.length (iv r) hs hown ⟨b, off, none⟩ m c (iv ys) hx (by rw [iv_length]; omega) ?_ (iv_one ys) (by unfold maxLen; omega) (by omega) hbase ?_
  · intro j u hu
    have hj : j < m := by
      have := (List.getElem?_eq_some_iff.1 hu).1
      rw [iv_length] at this; omega
    obtain ⟨y, hy, rfl⟩ := iv_get hu
    obtain ⟨b', off', y', he, _, hy', hc⟩ := hsl.at_ hj
    have e2 := Option.some.inj he
    injection e2 with e3 e4 _
    subst e3 e4
    rw [hy'.out] at hy
    rw [← Option.some.inj hy]
    have ea : (⟨b, off, none⟩ : Addr).add j = ⟨b, off + j, none⟩ := by unfold Addr.add; by_cases h : j = 0 <;> simp [h]
    rw [ea]; exact hc
  · intro v' w' hown' hg _ _
    refine h v' w' ?_ (grown_below hown hg hbase)
    show w'.ownsRow base e 1 _ (r ++ ys).length (iv (r ++ ys))
    rw [iv_append, List.length_append, hl]
    exact hown'
end Go.Proofs.Ytedbngnkkfpbeaa


namespace Go.Proofs.Ytedbngnkkfpbeaa
open Go.RowKit
set_option linter.unusedVariables false
def bv (xs : List Bool) : List Value := xs.map .bool
def SlB (w : World) (B : Nat) (A : Option Addr) (n : Nat) (xs : List Bool) : Prop := SlV w B A n (bv xs)
theorem bv_length (xs : List Bool) : (bv xs).length = xs.length := by simp [bv]
theorem bv_append (xs ys : List Bool) : bv (xs ++ ys) = bv xs ++ bv ys := by simp [bv]
theorem bv_get {xs : List Bool} {k : Nat} {u : Value} (h : (bv xs)[k]? = some u) : ∃ x, xs[k]? = some x ∧ u = .bool x := by
  simp only [bv, List.getElem?_map, Option.map_eq_some_iff] at h
  obtain ⟨x, hx, rfl⟩ := h
  exact ⟨x, hx, rfl⟩
theorem bv_take {xs : List Bool} {k : Nat} {x : Bool} (hx : xs[k]? = some x) : bv (xs.take (k + 1)) = bv (xs.take k) ++ [.bool x] := by
  obtain ⟨hk, rfl⟩ := List.getElem?_eq_some_iff.1 hx
  rw [List.take_succ_eq_append_getElem hk, bv_append]; rfl
section
variable {w w' : World} {B B' n : Nat} {A : Option Addr} {xs : List Bool}
theorem SlB.len (h : SlB w B A n xs) : xs.length = n := by have := SlV.len h; simpa [bv] using this
theorem SlB.at_ {k : Nat} (h : SlB w B A n xs) (hk : k < n) :
    ∃ b off x, A = some ⟨b, off, none⟩ ∧ b < B ∧ Hid (xs[k]? = some x) ∧ w.cell? ⟨b, off + k, none⟩ = some (.bool x) := by
  obtain ⟨b, off, u, e, hb, hu, hc⟩ := SlV.at_ h hk
  obtain ⟨x, hx, rfl⟩ := bv_get hu
  exact ⟨b, off, x, e, hb, hx, hc⟩
theorem SlB.below (h : SlB w B A n xs) (hb : Below B' w w') (hB : B ≤ B') : SlB w' B A n xs := SlV.below h hb hB
theorem SlB.more (h : SlB w B A n xs) (hB : B ≤ B') : SlB w B' A n xs := SlV.more h hB
theorem Row.slB {g : Nat} {t : TypeId} (h : Row w g t (bv xs)) : SlB w w.heap.size (some ⟨g, 0, none⟩) xs.length xs := by
  have := h.sl; rw [bv_length] at this; exact this
end
theorem infoBool : (Try.prog.info? 4).map (fun i => (i.zero, i.size, i.bytes)) = some (some (.bool false), 1, 1) := by kernel_rfl
end Go.Proofs.Ytedbngnkkfpbeaa


namespace Go.Proofs.Ytedbngnkkfpbeaa
open Go.RowKit
set_option linter.unusedVariables false
/-- v is nil, or the head of a row of the call's own in a block from lo on and below hi; it reads as the cells xs. -/
def OwnV (w : World) (lo hi : Nat) (t : TypeId) (sz : Nat) (v : Value) (n : Nat) (xs : List Value) : Prop := w.ownsRow lo t sz v n xs ∧ ∀ k, v.ownBlock = some k → k < hi
theorem But.grown {g : Nat} {w w' : World} (h : But g w w') : w.grownBy w' (some g) := ⟨h.1, h.2.1, h.2.2.1, h.2.2.2.1, fun k hk hne => h.2.2.2.2 k hk (fun e => hne (by rw [e]))⟩
theorem grown_kp {w w' : World} {row : Option Nat} {lo hi : Nat} (h : w.grownBy w' row) (hr : ∀ k, row = some k → lo ≤ k ∧ k < hi) : Kp lo hi w w' :=
  ⟨h.os, h.tape, h.output, h.size, fun k hk hn => h.block k hk (fun e => by have := hr k e.symm; omega)⟩
theorem Row.kp {w w' : World} {lo hi g : Nat} {t : TypeId} {vs : List Value} (h : Row w g t vs) (hk : Kp lo hi w w') (hg : g < lo ∨ hi ≤ g) : Row w' g t vs := (hk.2.2.2.2 g h.lt hg).trans h
theorem grown_refl (w : World) (row : Option Nat) : w.grownBy w row := ⟨rfl, rfl, rfl, Nat.le_refl _, fun _ _ _ => rfl⟩
section
variable {w w' : World} {lo hi sz n B : Nat} {t : TypeId} {v : Value} {xs : List Value}
theorem OwnV.of (h : w.ownsRow lo t sz v n xs) : OwnV w lo w.heap.size t sz v n xs := ⟨h, fun k hk => (h.lt k hk).2⟩
theorem OwnV.nil (w : World) (lo hi : Nat) (t : TypeId) (sz : Nat) : OwnV w lo hi t sz (.slice none 0 0) 0 [] := ⟨World.ownsRow_nil w lo t sz, fun k hk => by simp [Value.ownBlock] at hk⟩
theorem OwnV.lt (h : OwnV w lo hi t sz v n xs) : ∀ k, v.ownBlock = some k → lo ≤ k ∧ k < hi := fun k hk => ⟨(h.1.lt k hk).1, h.2 k hk⟩
theorem OwnV.move (h : OwnV w lo hi t sz v n xs) (hb : ∀ g, v.ownBlock = some g → w'.heap[g]? = w.heap[g]?) : OwnV w' lo hi t sz v n xs := by
  obtain ⟨⟨h1, h2⟩, h3⟩ := h
  refine ⟨⟨h1, ?_⟩, h3⟩
  rcases h2 with h2 | ⟨g, cap, cur, rfl, hg, hh, rest⟩
  · exact .inl h2
  · exact .inr ⟨g, cap, cur, rfl, hg, (hb g rfl).trans hh, rest⟩
theorem OwnV.below (h : OwnV w lo hi t sz v n xs) (hb : Below B w w') (hB : hi ≤ B) : OwnV w' lo hi t sz v n xs :=
  h.move fun g hg => hb.block g (by have := h.2 g hg; omega)
theorem OwnV.kp {lo' hi' : Nat} (h : OwnV w lo hi t sz v n xs) (hk : Kp lo' hi' w w') (hd : hi' ≤ lo ∨ hi ≤ lo') : OwnV w' lo hi t sz v n xs :=
  h.move fun g hg => hk.2.2.2.2 g (h.1.lt g hg).2 (by have := h.lt g hg; omega)
theorem OwnV.grown {row : Option Nat} (h : OwnV w lo hi t sz v n xs) (hg : w.grownBy w' row) (hne : ∀ k, v.ownBlock = some k → row ≠ some k) : OwnV w' lo hi t sz v n xs :=
  h.move fun g hv => hg.block g (h.1.lt g hv).2 (fun e => hne g hv e.symm)
theorem OwnV.more {hi' : Nat} (h : OwnV w lo hi t sz v n xs) (hh : hi ≤ hi') : OwnV w lo hi' t sz v n xs := ⟨h.1, fun k hk => Nat.lt_of_lt_of_le (h.2 k hk) hh⟩
theorem OwnV.form (h : OwnV w lo hi t sz v n xs) : ∃ A c, v = .slice A n c ∧ n ≤ c ∧ c ≤ maxLen := own_form h.1
theorem OwnV.rowN (h : OwnV w lo hi t sz v n xs) : (v = .slice none 0 0 ∧ n = 0) ∨ ∃ g cap, v = .slice (some ⟨g, 0, none⟩) n cap ∧ lo ≤ g ∧ g < hi ∧ RowN w g t (cap * sz) ∧ n ≤ cap := by
  obtain ⟨⟨h1, h2⟩, h3⟩ := h
  rcases h2 with h2 | ⟨g, cap, cur, rfl, hb, hg, hnc, hm, hs, ht⟩
  · exact .inl h2
  · refine .inr ⟨g, cap, rfl, hb, h3 g rfl, ⟨cur.toList, by simpa using hs, ?_⟩, hnc⟩
    show w.heap[g]? = some (.cells cur.toList.toArray t (0, 0))
    rw [Array.toArray_toList]; exact hg
theorem OwnV.slV (h : OwnV w lo hi t 1 v n xs) : ∃ A c, v = .slice A n c ∧ SlV w w.heap.size A n xs := by
  obtain ⟨A, c, rfl, _, _⟩ := h.form
  exact ⟨A, c, rfl, own_sl h.1⟩
theorem OwnV.slA {L : List A4} (h : OwnV w lo hi t 4 v L.length (fa L)) : ∃ A c, v = .slice A L.length c ∧ SlA w w.heap.size A L.length L := by
  obtain ⟨h1, h2⟩ := h.1
  rcases h2 with ⟨rfl, hn⟩ | ⟨g, cap, cur, rfl, hb, hg, hnc, hm, hs, ht⟩
  · exact ⟨none, 0, by rw [hn], by rw [List.length_eq_zero_iff.1 hn]; exact SlA.nil _ _ _⟩
  · refine ⟨_, cap, rfl, rfl, fun h0 => ⟨g, 0, rfl, (Array.getElem?_eq_some_iff.1 hg).1, fun j a ha => ?_⟩⟩
    have hj := (List.getElem?_eq_some_iff.1 ha).1
    have hget : ∀ q, q < L.length * 4 → w.cell? ⟨g, q, none⟩ = (fa L)[q]? := by
      intro q hq
      rw [cell_of_row w g q cur t (0, 0) hg, ← ht, List.getElem?_take_of_lt hq]; simp
    obtain ⟨c0, c1, c2, c3⟩ := fa_get ha
    simp only [Nat.zero_add]
    rw [hget _ (by omega), hget _ (by omega), hget _ (by omega), hget _ (by omega)]
    exact ⟨c0, c1, c2, c3⟩
end
/-- The n elements of v (sz cells each) bear the marks of k, k + 1, .. -/
def Mkd (f : Int → Value) (w : World) (sz : Nat) (v : Value) (n : Nat) (k : Int) : Prop := (v = .slice none 0 0 ∧ n = 0) ∨ ∃ g c, v = .slice (some ⟨g, 0, none⟩) n c ∧ g < w.heap.size ∧ ∀ q : Nat, q < n * sz → w.cell? ⟨g, q, none⟩ = some (f (k + q))
theorem Mkd.move {f : Int → Value} {w w' : World} {sz n : Nat} {v : Value} {k : Int} (h : Mkd f w sz v n k) (hs : w.heap.size ≤ w'.heap.size) (hb : ∀ g, v.ownBlock = some g → w'.heap[g]? = w.heap[g]?) : Mkd f w' sz v n k := by
  rcases h with h | ⟨g, c, rfl, hg, hq⟩
  · exact .inl h
  · exact .inr ⟨g, c, rfl, Nat.lt_of_lt_of_le hg hs, fun q hlt => (World.cell?_of_block (a := ⟨g, q, none⟩) (hb g rfl)).trans (hq q hlt)⟩
theorem Mkd.below {f : Int → Value} {w w' : World} {sz n B : Nat} {v : Value} {k : Int} (h : Mkd f w sz v n k) (hb : Below B w w') (hB : w.heap.size ≤ B) : Mkd f w' sz v n k := by
  refine h.move hb.size fun g hg => hb.block g ?_
  rcases h with ⟨rfl, _⟩ | ⟨g', c, rfl, hg', _⟩
  · simp [Value.ownBlock] at hg
  · simp [Value.ownBlock] at hg; omega
theorem Mkd.grown {f : Int → Value} {w w' : World} {sz n : Nat} {v : Value} {k : Int} {row : Option Nat} (h : Mkd f w sz v n k) (hg : w.grownBy w' row) (hne : ∀ k, v.ownBlock = some k → row ≠ some k) : Mkd f w' sz v n k := by
  refine h.move hg.size fun g hv => hg.block g ?_ (fun e => hne g hv e.symm)
  rcases h with ⟨rfl, _⟩ | ⟨g', c, rfl, hg', _⟩
  · simp [Value.ownBlock] at hv
  · simp [Value.ownBlock] at hv; omega
theorem Mkd.form {f : Int → Value} {w : World} {sz n : Nat} {v : Value} {k : Int} (h : Mkd f w sz v n k) : ∃ A c, v = .slice A n c := by
  rcases h with ⟨rfl, rfl⟩ | ⟨g, c, rfl, _⟩
  · exact ⟨_, _, rfl⟩
  · exact ⟨_, _, rfl⟩
theorem Kp.of_below {lo hi : Nat} {w w' : World} (h : Below w.heap.size w w') : Kp lo hi w w' := ⟨h.os, h.tape, h.output, h.size, fun k hk _ => h.block k hk⟩
theorem ret_val {a b : Value} (h : a = b) : Ending.returned a = Ending.returned b := by rw [h]
theorem set4_get {vs : List Value} {p q : Nat} {u0 u1 u2 u3 : Value} (hl : p + 3 < vs.length) :
    ((((vs.set p u0).set (p + 1) u1).set (p + 2) u2).set (p + 3) u3)[q]? = if q = p then some u0 else if q = p + 1 then some u1 else if q = p + 2 then some u2 else if q = p + 3 then some u3 else vs[q]? := by
  simp only [List.getElem?_set, List.length_set]
  by_cases h0 : q = p
  · subst h0; simp; omega
  by_cases h1 : q = p + 1
  · subst h1; simp; omega
  by_cases h2 : q = p + 2
  · subst h2; simp; omega
  by_cases h3 : q = p + 3
  · subst h3; simp; omega
  rw [if_neg (fun h => h3 h.symm), if_neg (fun h => h2 h.symm), if_neg (fun h => h1 h.symm), if_neg (fun h => h0 h.symm), if_neg h0, if_neg h1, if_neg h2, if_neg h3]
end Go.Proofs.Ytedbngnkkfpbeaa
