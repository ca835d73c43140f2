/- Several texts in one: Bounds of costs while they are relaxed; what both programs' helper functions need, plainly. Rows of the call's own: what is stored into them, what is appended to them as a whole. -/
import Derived.Test.YtbdfbmohdbigfaaCoQ
import Derived.Test.YtbdfbmohdbigfaaVm
import Derived.Test.YtbdfbmohdbigfaaTab
import Derived.Maps.AppendAt
import Derived.Deep.Onto

namespace Go.Proofs.Ytbdfbmohdbigfaa
set_option linter.unusedVariables false
def Bd (F : Int) (u : List Int) : Prop := ∀ x ∈ u, 0 ≤ x ∧ x ≤ F
section
variable {F : Int} {u : List Int}
theorem Bd.set (h : Bd F u) {k : Nat} {x : Int} (hx : 0 ≤ x ∧ x ≤ F) : Bd F (u.set k x) := fun y hy => by
  rcases List.mem_or_eq_of_mem_set hy with h1 | rfl
  · exact h y h1
  · exact hx
theorem Bd.get (h : Bd F u) {k : Nat} {x : Int} (hx : u[k]? = some x) : 0 ≤ x ∧ x ≤ F := h x (List.mem_of_getElem? hx)
theorem Bd.g0 (h : Bd F u) (hF : 0 ≤ F) (k : Nat) : 0 ≤ g0 u k ∧ g0 u k ≤ F := by
  unfold Go.Proofs.Ytbdfbmohdbigfaa.g0
  rw [List.getD_eq_getElem?_getD]
  cases hx : u[k]? with
  | none => exact ⟨Int.le_refl _, hF⟩
  | some x => exact h.get hx
theorem Bd.rel1 (h : Bd F u) (hF : 0 ≤ F) {a : A4} (ha : 0 ≤ a.2.2.2) : Bd F (rel1 u a) := by
  unfold Go.Proofs.Ytbdfbmohdbigfaa.rel1
  split
  · refine h.set ?_
    have := h.g0 hF a.2.1.toNat; have := h.g0 hF a.1.toNat
    omega
  · exact h
theorem Bd.relT (hF : 0 ≤ F) : ∀ {L : List A4} {u : List Int}, Bd F u → (∀ a ∈ L, 0 ≤ a.2.2.2) → Bd F (rel L u)
  | [], _, h, _ => h
  | a :: L, u, h, hL => show Bd F (rel L (Go.Proofs.Ytbdfbmohdbigfaa.rel1 u a)) from Bd.relT hF (h.rel1 hF (hL a (List.mem_cons_self ..))) (fun x hx => hL x (List.mem_cons_of_mem _ hx))
theorem Bd.relN (hF : 0 ≤ F) {L : List A4} (h : Bd F u) (hL : ∀ a ∈ L, 0 ≤ a.2.2.2) : ∀ r, Bd F (relN L u r)
  | 0 => h
  | r + 1 => Bd.relT hF (Bd.relN hF h hL r) hL
theorem Bd.stp1 {v : List Int} (h : Bd F u) (hv : Bd F v) (hF : 0 ≤ F) {l : Int} {a : A4} (ha : 0 ≤ a.2.2.2) : Bd F (stp1 l v u a) := by
  unfold Go.Proofs.Ytbdfbmohdbigfaa.stp1
  split
  · refine h.set ?_
    have := h.g0 hF a.2.1.toNat; have := hv.g0 hF a.1.toNat
    omega
  · exact h
theorem Bd.rep (hF : 0 ≤ F) (n : Nat) : Bd F (List.replicate n F) := fun x hx => by
  rw [List.eq_of_mem_replicate hx]; exact ⟨hF, Int.le_refl _⟩
theorem Bd.stpT {v : List Int} (hv : Bd F v) (hF : 0 ≤ F) {L : List A4} {l : Int} (hL : ∀ a ∈ L, 0 ≤ a.2.2.2) (j : Nat) : Bd F (stpT F L l v j) := by
  induction j with
  | zero => exact Bd.rep hF _
  | succ j ih =>
    cases hx : L[j]? with
    | none =>
      have : L.length ≤ j := by simpa using hx
      have e : Go.Proofs.Ytbdfbmohdbigfaa.stpT F L l v (j + 1) = Go.Proofs.Ytbdfbmohdbigfaa.stpT F L l v j := by unfold Go.Proofs.Ytbdfbmohdbigfaa.stpT; rw [List.take_of_length_le (by omega), List.take_of_length_le (by omega)]
      rw [e]; exact ih
    | some a => rw [stpT_succ hx]; exact ih.stp1 hv hF (hL a (List.mem_of_getElem? hx))
end
/-- Costs with 'far' where there is none. -/
def frL (F : Int) (P : List Int) : List Int := P.map fun x => if x < 0 then F else x
theorem frL_len (F : Int) (P : List Int) : (frL F P).length = P.length := by simp [frL]
theorem frL_bd {F : Int} {P : List Int} (hF : 0 ≤ F) (hP : ∀ x ∈ P, x ≤ F) : Bd F (frL F P) := fun y hy => by
  simp only [frL, List.mem_map] at hy
  obtain ⟨x, hx, rfl⟩ := hy
  have := hP x hx
  split <;> omega
theorem frL_get {F : Int} {P : List Int} {k : Nat} {x : Int} (h : P[k]? = some x) : (frL F P)[k]? = some (if x < 0 then F else x) := by
  simp [frL, h]
/-- The first k have been turned. -/
def frT (F : Int) (P : List Int) (k : Nat) : List Int := frL F (P.take k) ++ P.drop k
theorem frT_len (F : Int) (P : List Int) (k : Nat) : (frT F P k).length = P.length := by
  unfold frT; rw [List.length_append, frL_len, List.length_take, List.length_drop]; omega
theorem frT_zero (F : Int) (P : List Int) : frT F P 0 = P := by simp [frT, frL]
theorem frT_all (F : Int) (P : List Int) : frT F P P.length = frL F P := by simp [frT]
theorem frT_at {F : Int} {P : List Int} {k : Nat} {x : Int} (h : P[k]? = some x) : (frT F P k)[k]? = some x := by
  obtain ⟨hk, rfl⟩ := List.getElem?_eq_some_iff.1 h
  unfold frT
  have hl : (frL F (P.take k)).length = k := by rw [frL_len, List.length_take]; omega
  rw [List.getElem?_append_right (by omega), hl, Nat.sub_self, List.getElem?_drop, Nat.add_zero, List.getElem?_eq_getElem hk]
theorem frT_step {F : Int} {P : List Int} {k : Nat} {x : Int} (h : P[k]? = some x) : frT F P (k + 1) = (frT F P k).set k (if x < 0 then F else x) := by
  obtain ⟨hk, rfl⟩ := List.getElem?_eq_some_iff.1 h
  unfold frT
  have hl : (frL F (P.take k)).length = k := by rw [frL_len, List.length_take]; omega
  rw [List.set_append_right _ _ (by omega), hl, Nat.sub_self, List.drop_eq_getElem_cons hk, List.set_cons_zero, List.take_succ_eq_append_getElem hk]
  show List.map _ (P.take k ++ [P[k]]) ++ _ = _
  rw [List.map_append, List.append_assoc]; rfl
theorem frT_keep {F : Int} {P : List Int} {k : Nat} {x : Int} (h : P[k]? = some x) (hx : ¬ x < 0) : frT F P (k + 1) = frT F P k := by
  rw [frT_step h, if_neg hx]
  have := frT_at (F := F) h
  obtain ⟨hk, e⟩ := List.getElem?_eq_some_iff.1 this
  rw [← e, List.set_getElem_self]
/-- The least sum. -/
def lsm (F : Int) (a b : List Int) : Nat → Int := mins F fun i => g0 a i + g0 b i
end Go.Proofs.Ytbdfbmohdbigfaa


namespace Go.Proofs.Ytbdfbmohdbigfaa
open Go.RowKit
set_option linter.unusedVariables false
theorem RowI.open {w : World} {base g c n : Nat} {t : TypeId} {r : List Int} (h : RowI w base t (.slice (some ⟨g, 0, none⟩) n c) r) : ∃ vs, Row w g t vs ∧ vs.take r.length = iv r ∧ vs.length = c ∧ c ≤ maxLen ∧ r.length = n ∧ n ≤ c ∧ base ≤ g := by
  obtain ⟨h1, h2⟩ := h
  rcases h2 with ⟨e, _⟩ | ⟨g', cap, cur, e, hb, hg, hn, hm, hs, ht⟩
  · cases e
  · injection e with e1 e2 e3
    injection e1 with e1
    injection e1 with e1 _ _
    subst e1
    refine ⟨cur.toList, by unfold Row; rw [Array.toArray_toList]; exact hg, by rw [← ht, Nat.mul_one], ?_, by omega, by omega, by omega, hb⟩
    rw [Array.length_toList, hs]; omega
theorem RowI.frozen {w : World} {base g c n : Nat} {t : TypeId} {r : List Int} (h : RowI w base t (.slice (some ⟨g, 0, none⟩) n c) r) (k : Nat) : w.frozen? ⟨g, k, none⟩ = false := by
  obtain ⟨vs, hr, _⟩ := h.open; exact hr.frozen k
theorem RowI.cell {w : World} {base g c n : Nat} {t : TypeId} {r : List Int} (h : RowI w base t (.slice (some ⟨g, 0, none⟩) n c) r) {k : Nat} {x : Int} (hx : r[k]? = some x) : w.cell? ⟨g, k, none⟩ = some (.int .i64 x) := by
  obtain ⟨vs, hr, ht, _⟩ := h.open
  have hk := (List.getElem?_eq_some_iff.1 hx).1
  rw [hr.cell, ← List.getElem?_take_of_lt hk, ht, iv, List.getElem?_map, hx]; rfl
theorem RowI.set {w : World} {base g c n : Nat} {t : TypeId} {r : List Int} (h : RowI w base t (.slice (some ⟨g, 0, none⟩) n c) r) (k : Nat) (x : Int) : RowI (w.setCell ⟨g, k, none⟩ (.int .i64 x)) base t (.slice (some ⟨g, 0, none⟩) n c) (r.set k x) := by
  obtain ⟨vs, hr, ht, hl, hm, hn, hnc, hb⟩ := h.open
  have hr' := hr.set_ k (.int .i64 x)
  have hlen : (r.set k x).length = n := by rw [List.length_set]; exact hn
  refine ⟨by rw [iv_length]; omega, .inr ⟨g, c, (vs.set k (.int .i64 x)).toArray, by rw [hlen], hb, hr', by omega, hm, by simp [hl], ?_⟩⟩
  rw [List.toList_toArray, List.take_set, hlen, Nat.mul_one, ← hn, ht, iv, iv, List.map_set]
/-- 'v = append(v, list...)'. -/
theorem wpList_ints_push {P : Program} {w0 : World} {ops : Array Oper} {rest : List Oper} {o : Oper} {a : Act} {Q : Exit → Act → World → Prop} (hgd : o.guard = none) (s x : Operand) (t : TypeId)
    (ho : o.op = .call { callee := .builtin .append, args := #[s, x], argTypes := #[t, t] })
    (base : Nat) (e : TypeId) (ht : P.underlying t = some (.slice e)) (hinfo : (P.info? e).map (fun i => (i.zero, i.size, i.bytes)) = some (some (.int .i64 0), 1, 8))
    (v : Value) (r : List Int) (hs : a.eval s = v) (hown : RowI w0 base e v r)
    (b off m c B : Nat) (ys : List Int) (hx : a.eval x = .slice (some ⟨b, off, none⟩) m c) (hsl : SlI w0 B (some ⟨b, off, none⟩) m ys) (hn : r.length + m ≤ 4294967296) (hbase : base ≤ w0.heap.size)
    (h : ∀ v' w', RowI w' base e v' (r ++ ys) → Below base w0 w' → wpList P ops Q rest (a.put o.dst v') w') :
    wpList P ops Q (o :: rest) a w0 := by
  obtain ⟨i, hi, hz, hsz, hb⟩ := info_parts hinfo
  have hl := hsl.len
  refine wpList_append_own_at (w := w0) hgd s x t ho base e i (.int .i64 0) 1 8 ht hi hz hsz hb rfl (by omega) v r.length (iv r) hs hown ⟨b, off, none⟩ m c (iv ys) hx (by rw [iv_length]; omega) ?_ (iv_one ys) (by unfold maxLen; omega) (by omega) hbase ?_
  · intro j u hu
    have hj : j < m := by
      have := (List.getElem?_eq_some_iff.1 hu).1
      rw [iv_length] at this; omega
    obtain ⟨y, hy, rfl⟩ := iv_get hu
    obtain ⟨b', off', y', he, _, hy', hc⟩ := hsl.at_ hj
    have e2 := Option.some.inj he
    injection e2 with e3 e4 _
    subst e3 e4
    rw [hy'.out] at hy
    rw [← Option.some.inj hy]
    have ea : (⟨b, off, none⟩ : Addr).add j = ⟨b, off + j, none⟩ := by unfold Addr.add; by_cases h : j = 0 <;> simp [h]
    rw [ea]; exact hc
  · intro v' w' hown' hg _ _
    refine h v' w' ?_ (grown_below hown hg hbase)
    show w'.ownsRow base e 1 _ (r ++ ys).length (iv (r ++ ys))
    rw [iv_append, List.length_append, hl]
    exact hown'
end Go.Proofs.Ytbdfbmohdbigfaa
