/- BackOf of the program: the arcs turned round, starts and ends exchanged. -/
import Derived.Test.YtkfmjnefbimecaaCoW
import Derived.Test.YtkfmjnefbimecaaBwP
import Derived.Test.YtkfmjnefbimecaaMgl
import Derived.Test.YtkfmjnefbimecaaMgm
import Derived.RegionTactic
import Derived.BigRegion


namespace Go.Proofs.Ytkfmjnefbimecaa
open Go.RowKit
set_option linter.unusedVariables false
theorem own_setN {w : World} {base g n c i sz : Nat} {t : TypeId} {X : List Value} {u : Value} (h : w.ownsRow base t sz (.slice (some ⟨g, 0, none⟩) n c) n X) (hi : i < X.length) : (w.setCell ⟨g, i, none⟩ u).ownsRow base t sz (.slice (some ⟨g, 0, none⟩) n c) n (X.set i u) := by
  obtain ⟨h1, h2⟩ := h
  refine ⟨by simpa using h1, ?_⟩
  rcases h2 with ⟨e, -⟩ | ⟨g', cap, cur, e, hb, hg, hnc, hm, hs, ht⟩
  · cases e
  · injection e with e1 _ e3
    injection e1 with e1
    injection e1 with e1 _ _
    subst e1 e3
    refine .inr ⟨g, c, cur.setIfInBounds i u, rfl, hb, ?_, hnc, hm, by simpa using hs, ?_⟩
    · simp [World.setCell, Array.getElem?_modify, hg]
    · rw [Array.toList_setIfInBounds, List.take_set, ht]
theorem own_cellN {w : World} {base g n c sz : Nat} {t : TypeId} {X : List Value} (h : w.ownsRow base t sz (.slice (some ⟨g, 0, none⟩) n c) n X) {j : Nat} {u : Value} (hj : X[j]? = some u) : w.cell? ⟨g, j, none⟩ = some u ∧ w.frozen? ⟨g, j, none⟩ = false := by
  have h1 := h.cells (g := g) rfl j u hj
  have ea : (⟨g, 0, none⟩ : Addr).add j = ⟨g, j, none⟩ := by unfold Addr.add; by_cases h : j = 0 <;> simp [h]
  rw [ea] at h1
  refine ⟨h1, ?_⟩
  obtain ⟨_, h2⟩ := h
  rcases h2 with ⟨e, -⟩ | ⟨g', cap, cur, e, hb, hg, hnc, hm, hs, ht⟩
  · cases e
  · injection e with e1 _ e3
    injection e1 with e1
    injection e1 with e1 _ _
    subst e1
    simp [World.frozen?, hg]
theorem fa_set01 : ∀ (L : List A4) (k : Nat) (a : A4) (x y : Int), L[k]? = some a → fa (L.set k (x, y, a.2.2.1, a.2.2.2)) = ((fa L).set (k * 4) (.int .i64 x)).set (k * 4 + 1) (.int .i64 y)
  | [], k, a, x, y, h => by simp at h
  | b :: L, 0, a, x, y, h => by
    have : b = a := by simpa using h
    subst this; rfl
  | b :: L, k + 1, a, x, y, h => by
    have ih := fa_set01 L k a x y (by simpa using h)
    show fa (b :: L.set k (x, y, a.2.2.1, a.2.2.2)) = _
    rw [show (k + 1) * 4 = k * 4 + 1 + 1 + 1 + 1 by omega]
    simp only [fa, List.set_cons_succ]
    rw [ih]
/-- The first k arcs have been turned. -/
def bkT (L : List A4) (k : Nat) : List A4 := (L.take k).map bkA ++ L.drop k
theorem bkT_len (L : List A4) (k : Nat) : (bkT L k).length = L.length := by unfold bkT; rw [List.length_append, List.length_map, List.length_take, List.length_drop]; omega
theorem bkT_zero (L : List A4) : bkT L 0 = L := by simp [bkT]
theorem bkT_all (L : List A4) : bkT L L.length = L.map bkA := by simp [bkT]
theorem bkT_at {L : List A4} {k : Nat} {a : A4} (h : L[k]? = some a) : (bkT L k)[k]? = some a := by
  obtain ⟨hk, rfl⟩ := List.getElem?_eq_some_iff.1 h
  unfold bkT
  have hl : ((L.take k).map bkA).length = k := by rw [List.length_map, List.length_take]; omega
  rw [List.getElem?_append_right (by omega), hl, Nat.sub_self, List.getElem?_drop, Nat.add_zero, List.getElem?_eq_getElem hk]
theorem bkT_step {L : List A4} {k : Nat} {a : A4} (h : L[k]? = some a) : bkT L (k + 1) = (bkT L k).set k (bkA a) := by
  obtain ⟨hk, rfl⟩ := List.getElem?_eq_some_iff.1 h
  unfold bkT
  have hl : ((L.take k).map bkA).length = k := by rw [List.length_map, List.length_take]; omega
  rw [List.set_append_right _ _ (by omega), hl, Nat.sub_self, List.drop_eq_getElem_cons hk, List.set_cons_zero, List.take_succ_eq_append_getElem hk, List.map_append, List.append_assoc]
  rfl
theorem own_slA {w : World} {lo n c : Nat} {A : Option Addr} {M : List A4} (h : w.ownsRow lo 39 4 (.slice A n c) n (fa M)) (hl : M.length = n) : SlA w w.heap.size A n M := by
  subst hl
  obtain ⟨A', c', e, hs⟩ := (OwnV.of h).slA
  injection e with e1 _ _
  subst e1
  exact hs
end Go.Proofs.Ytkfmjnefbimecaa
