/- Alignments: the table of the program. -/
import Derived.Test.YtkfmjnefbimecaaMga
import Derived.Test.YtkfmjnefbimecaaTab
import Derived.Test.YtkfmjnefbimecaaAgI
import Derived.Test.YtkfmjnefbimecaaLg
import Derived.Deep.CutRange
import Derived.Deep.DeepCutAuto
import Derived.Deep.RegionHeld3
import Derived.StillTailTactics

namespace Go.Proofs.Ytkfmjnefbimecaa
open Go.RowKit Go.PlainAid
set_option linter.unusedVariables false
section
variable {f : Nat → Tri} {z v : Tri} {k n j : Nat}
/-- A row that is being filled. -/
def agS (f : Nat → Tri) (z : Tri) (k n : Nat) : List Tri := (List.range k).map f ++ List.replicate (n - k) z
def agV (f : Nat → Tri) (z : Tri) (k n : Nat) (v : Tri) : List Tri := (List.range k).map f ++ v :: List.replicate (n - k - 1) z
theorem agS_zero (f : Nat → Tri) (z : Tri) (n : Nat) : agS f z 0 n = List.replicate n z := by simp [agS]
theorem agS_full (f : Nat → Tri) (z : Tri) (n : Nat) : agS f z n n = (List.range n).map f := by simp [agS]
theorem agS_open (h : k < n) : agS f z k n = agV f z k n z := by
  unfold agS agV
  obtain ⟨m, hm⟩ : ∃ m, n - k = m + 1 := ⟨n - k - 1, by omega⟩
  rw [hm, List.replicate_succ]; rfl
theorem agV_close (h : k < n) (hv : v = f k) : agV f z k n v = agS f z (k + 1) n := by
  unfold agS agV
  rw [List.range_succ, List.map_append, List.append_assoc, show n - (k + 1) = n - k - 1 from by omega, hv]; rfl
theorem agV_get : (agV f z k n v)[k]? = some v := by
  unfold agV; rw [List.getElem?_append_right (by simp)]; simp
theorem agV_prev (h : j < k) : (agV f z k n v)[j]? = some (f j) := by
  unfold agV; rw [List.getElem?_append_left (by simpa using h)]; simp [h]
end
section
variable {w w' : World} {f : Nat → Tri} {z v : Tri} {k n j g : Nat} {t : TypeId}
theorem agRow_put0 (h : Row w g t (ft (agV f z k n v))) (x : Int) : Row (w.setCell ⟨g, k * 3, none⟩ (.int .i64 x)) g t (ft (agV f z k n (x, v.2.1, v.2.2))) := by
  have := h.set_ (k * 3) (.int .i64 x)
  unfold agV at this ⊢
  rw [ft_set0 _ _ _ _ (by simp)] at this
  exact this
theorem agRow_put1 (h : Row w g t (ft (agV f z k n v))) (x : Int) : Row (w.setCell ⟨g, k * 3 + 1, none⟩ (.int .i64 x)) g t (ft (agV f z k n (v.1, x, v.2.2))) := by
  have := h.set_ (k * 3 + 1) (.int .i64 x)
  unfold agV at this ⊢
  rw [ft_set1 _ _ _ _ (by simp)] at this
  exact this
theorem agRow_put2 (h : Row w g t (ft (agV f z k n v))) (x : Int) : Row (w.setCell ⟨g, k * 3 + 2, none⟩ (.int .i64 x)) g t (ft (agV f z k n (v.1, v.2.1, x))) := by
  have := h.set_ (k * 3 + 2) (.int .i64 x)
  unfold agV at this ⊢
  rw [ft_set2 _ _ _ _ (by simp)] at this
  exact this
theorem agRow_at (h : Row w g t (ft (agV f z k n v))) : w.cell? ⟨g, k * 3, none⟩ = some (.int .i64 v.1) ∧ w.cell? ⟨g, k * 3 + 1, none⟩ = some (.int .i64 v.2.1) ∧ w.cell? ⟨g, k * 3 + 2, none⟩ = some (.int .i64 v.2.2) := by
  obtain ⟨e1, e2, e3⟩ := ft_get (agV_get (f := f) (z := z) (k := k) (n := n) (v := v))
  exact ⟨(h.cell _).trans e1, (h.cell _).trans e2, (h.cell _).trans e3⟩
theorem agRow_prev (h : Row w g t (ft (agV f z k n v))) (hj : j < k) : w.cell? ⟨g, j * 3, none⟩ = some (.int .i64 (f j).1) ∧ w.cell? ⟨g, j * 3 + 1, none⟩ = some (.int .i64 (f j).2.1) ∧ w.cell? ⟨g, j * 3 + 2, none⟩ = some (.int .i64 (f j).2.2) := by
  obtain ⟨e1, e2, e3⟩ := ft_get (agV_prev (z := z) (n := n) (v := v) (f := f) hj)
  exact ⟨(h.cell _).trans e1, (h.cell _).trans e2, (h.cell _).trans e3⟩
end
/-- v reads as rows of cells, n elements each, in blocks of the call's own. -/
def TabV (w : World) (base : Nat) (TT : TypeId) (n : Nat) (v : Value) (rows : List (List Value)) : Prop :=
  ∃ vs : List Value, w.ownsRow base TT 1 v rows.length vs ∧
    ∀ (j : Nat) (r : List Value), rows[j]? = some r → ∃ (g c : Nat), vs[j]? = some (Value.slice (some ⟨g, 0, none⟩) n c) ∧ base ≤ g ∧ g < w.heap.size ∧ v.ownBlock ≠ some g ∧ n ≤ c ∧ ∀ (k : Nat) (x : Value), r[k]? = some x → w.cell? ⟨g, k, none⟩ = some x
theorem TabV.made (w : World) (base : Nat) (TT : TypeId) (n : Nat) (hb : base ≤ w.heap.size) : TabV (w.alloc (.cells #[] TT)) base TT n (.slice (some ⟨w.heap.size, 0, none⟩) 0 0) [] :=
  ⟨[], World.ownsRow_made w #[] 0 hb (by unfold maxLen; omega) rfl, fun j r h => by simp at h⟩
section
variable {w w' : World} {base B n : Nat} {TT : TypeId} {v : Value} {rows : List (List Value)}
theorem TabV.keep (h : TabV w base TT n v rows) (hb : Below B w w') (hB : w.heap.size ≤ B) : TabV w' base TT n v rows := by
  obtain ⟨vs, hown, hr⟩ := h
  refine ⟨vs, hown.kept (row := none) ⟨hb.os, hb.tape, hb.output, hb.size, fun k hk _ => hb.block k (by omega)⟩ (by cases v.ownBlock <;> simp), fun j r hj => ?_⟩
  obtain ⟨g, c, e1, e2, e3, e4, e5, e6⟩ := hr j r hj
  exact ⟨g, c, e1, e2, Nat.lt_of_lt_of_le e3 hb.size, e4, e5, fun k x hx => (hb.cell (p := ⟨g, k, none⟩) (show g < B by omega)).trans (e6 k x hx)⟩
theorem TabV.at_ (h : TabV w base TT n v rows) {j : Nat} {r : List Value} (hj : rows[j]? = some r) :
    ∃ (gt ct g c : Nat), v = .slice (some ⟨gt, 0, none⟩) rows.length ct ∧ rows.length ≤ ct ∧ base ≤ gt ∧ gt < w.heap.size ∧ w.cell? ⟨gt, j, none⟩ = some (.slice (some ⟨g, 0, none⟩) n c) ∧ n ≤ c ∧ base ≤ g ∧ g < w.heap.size ∧ g ≠ gt ∧ ∀ (k : Nat) (x : Value), r[k]? = some x → w.cell? ⟨g, k, none⟩ = some x := by
  obtain ⟨vs, hown, hr⟩ := h
  have hl : j < rows.length := (List.getElem?_eq_some_iff.1 hj).1
  obtain ⟨gt, ct, rfl, hb, hlt⟩ := hown.form (by omega)
  obtain ⟨g, c, e1, e2, e3, e4, e5, e6⟩ := hr j r hj
  have hcell := hown.cells (g := gt) rfl j _ e1
  have ea : (⟨gt, 0, none⟩ : Addr).add j = ⟨gt, j, none⟩ := by unfold Addr.add; by_cases h : j = 0 <;> simp [h]
  rw [ea] at hcell
  obtain ⟨A, c', hv, hc1, _⟩ := own_form hown
  injection hv with _ _ hcc
  exact ⟨gt, ct, g, c, rfl, by omega, hb, hlt, hcell, e5, e2, e3, fun e => e4 (by simp [Value.ownBlock, e]), e6⟩
theorem TabV.block (h : TabV w base TT n v rows) : ∀ k, v.ownBlock = some k → base ≤ k ∧ k < w.heap.size := by
  obtain ⟨vs, hown, _⟩ := h
  exact hown.lt
end
theorem wpList_tabV_push {P : Program} (w0 : World) {ops : Array Oper} {rest : List Oper} {o : Oper} {a : Act} {Q : Exit → Act → World → Prop} (hgd : o.guard = none) (s x : Operand) (t : TypeId)
    (ho : o.op = .call { callee := .builtin .append, args := #[s, x], argTypes := #[t, t] })
    (base : Nat) (TT : TypeId) (ht : P.underlying t = some (.slice TT)) (hinfo : (P.info? TT).map (fun i => (i.zero, i.size, i.bytes)) = some (some (.slice none 0 0), 1, 24))
    (v : Value) (rows : List (List Value)) (m : Nat) (hs : a.eval s = v) (htab : TabV w0 base TT m v rows)
    (g c : Nat) (r : List Value) (hx : a.eval x = .slice (some ⟨w0.heap.size, 0, none⟩) 1 1)
    (hg : base ≤ g) (hlt : g < w0.heap.size) (hne : v.ownBlock ≠ some g) (hc : m ≤ c) (hcells : ∀ k x, r[k]? = some x → w0.cell? ⟨g, k, none⟩ = some x)
    (hn : rows.length + 1 ≤ 4294967296) (hbase : base ≤ w0.heap.size)
    (h : ∀ g' cap w', TabV w' base TT m (.slice (some ⟨g', 0, none⟩) (rows.length + 1) cap) (rows ++ [r]) → w0.grownBy w' v.ownBlock → Below base w0 w' → (v.ownBlock = some g' ∨ w0.heap.size ≤ g') →
      wpList P ops Q rest (a.put o.dst (.slice (some ⟨g', 0, none⟩) (rows.length + 1) cap)) w') :
    wpList P ops Q (o :: rest) a (w0.alloc (.cells #[.slice (some ⟨g, 0, none⟩) m c] TT)) := by
  obtain ⟨vs, hown, hr⟩ := htab
  refine wpList_push w0 hgd s x t ho base TT (.slice none 0 0) 24 ht hinfo rfl v rows.length vs hs hown _ hx rfl hn (Nat.le_refl _) hbase ?_
  intro g' cap w' hown' hgr hat hlt' hcap
  have hbel := grown_below hown hgr hbase
  refine h g' cap w' ⟨vs ++ [.slice (some ⟨g, 0, none⟩) m c], by rw [List.length_append]; exact hown', ?_⟩ hgr hbel hat
  have hl : vs.length = rows.length := by have := hown.1; omega
  intro j r' hj
  by_cases hjl : j < rows.length
  · rw [List.getElem?_append_left hjl] at hj
    obtain ⟨g1, c1, e1, e2, e3, e4, e5, e6⟩ := hr j r' hj
    refine ⟨g1, c1, by rw [List.getElem?_append_left (by omega)]; exact e1, e2, Nat.lt_of_lt_of_le e3 hgr.size, ?_, e5, fun k x hx => hgr.cell (e6 k x hx) (Ne.symm e4)⟩
    intro e
    simp [Value.ownBlock] at e
    rcases hat with h | h
    · exact e4 (by rw [h, e])
    · omega
  · rw [List.getElem?_append_right (by omega)] at hj
    obtain ⟨hj0, rfl⟩ : j - rows.length = 0 ∧ r = r' := by
      rcases Nat.eq_zero_or_pos (j - rows.length) with h | h
      · rw [h] at hj; exact ⟨h, by simpa using hj⟩
      · rw [List.getElem?_eq_none (by simp; omega)] at hj; cases hj
    refine ⟨g, c, by rw [List.getElem?_append_right (by omega), hl, hj0]; rfl, hg, Nat.lt_of_lt_of_le hlt hgr.size, ?_, hc, fun k x hx => hgr.cell (hcells k x hx) (Ne.symm hne)⟩
    intro e
    simp [Value.ownBlock] at e
    rcases hat with h | h
    · exact hne (by rw [h, e])
    · omega
theorem iBest_any (v : Tri) (w : World) :
    Calls Try.prog 88 #[.agg #[.int .i64 v.1, .int .i64 v.2.1, .int .i64 v.2.2]] w fun e w' => e = .returned (.int .i64 (agB v)) ∧ Below w.heap.size w w' := by
  have r := Row.new w 118 (ft [v])
  have k0 := r.cell 0; have k1 := r.cell 1; have k2 := r.cell 2
  obtain ⟨v1, v2, v3⟩ := v
  go_enter Try.func88, Try.ntmps88
  go_wp2
  all_goals
    go_ret
    exact ⟨ret_int (by unfold agB; simp only; omega), (Below.refl _ _).alloc (Nat.le_refl _) _⟩
end Go.Proofs.Ytkfmjnefbimecaa
