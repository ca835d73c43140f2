/- slices.SortFunc of the program at arcs of the call's own: the arcs in order. -/
import Derived.Test.YtkfmjnefbimecaaMgs


namespace Go.Proofs.Ytkfmjnefbimecaa
open Go.RowKit Go.Sort Go.Lib
set_option linter.unusedVariables false
theorem encA_len (x : A4) : (encA x).length = 4 := rfl
theorem fa_flat (L : List A4) : fa L = (flatK encA 4 L.toArray).toList := by
  apply List.ext_getElem?
  intro j
  by_cases hj : j < L.length * 4
  · have hq : j / 4 < L.length := by omega
    have hx : L[j / 4]? = some L[j / 4] := List.getElem?_eq_getElem hq
    obtain ⟨e0, e1, e2, e3⟩ := fa_get hx
    have hR : (flatK encA 4 L.toArray).toList[j]? = some ((encA L[j / 4])[j % 4]!) := by
      rw [Array.getElem?_toList]
      have h1 : j < (flatK encA 4 L.toArray).size := by rw [size_flatK]; simpa using hj
      have h2 := get_flatK encA 4 L.toArray j (by simpa using hj)
      rw [getElem!_pos _ j h1] at h2
      rw [Array.getElem?_eq_getElem h1, h2]
      congr 3
      rw [getElem!_pos _ _ (by simpa using hq)]
      simp
    rw [hR]
    obtain ⟨a, ha⟩ : ∃ a, a = L[j / 4] := ⟨_, rfl⟩
    rw [← ha] at e0 e1 e2 e3
    rw [← ha]
    have hr : j % 4 = 0 ∨ j % 4 = 1 ∨ j % 4 = 2 ∨ j % 4 = 3 := by omega
    rcases hr with hr | hr | hr | hr
    · rw [show j / 4 * 4 = j from by omega] at e0; rw [hr]; exact e0
    · rw [show j / 4 * 4 + 1 = j from by omega] at e1; rw [hr]; exact e1
    · rw [show j / 4 * 4 + 2 = j from by omega] at e2; rw [hr]; exact e2
    · rw [show j / 4 * 4 + 3 = j from by omega] at e3; rw [hr]; exact e3
  · rw [List.getElem?_eq_none (by rw [fa_length]; omega), List.getElem?_eq_none (by simp; omega)]
theorem ow_cell {w : World} {base g n c sz : Nat} {t : TypeId} {X : List Value} (h : w.ownsRow base t sz (.slice (some ⟨g, 0, none⟩) n c) n X) {j : Nat} {u : Value} (hj : X[j]? = some u) : w.cell? ⟨g, j, none⟩ = some u ∧ w.frozen? ⟨g, j, none⟩ = false := by
  have h1 := h.cells (g := g) rfl j u hj
  have ea : (⟨g, 0, none⟩ : Addr).add j = ⟨g, j, none⟩ := by unfold Addr.add; by_cases h : j = 0 <;> simp [h]
  rw [ea] at h1
  refine ⟨h1, ?_⟩
  obtain ⟨_, h2⟩ := h
  rcases h2 with ⟨e, -⟩ | ⟨g', cap, cur, e, hb, hg, hnc, hm, hs, ht⟩
  · cases e
  · injection e with e1 _ e3
    injection e1 with e1
    injection e1 with e1 _ _
    subst e1
    simp [World.frozen?, hg]
theorem putRow_heap_ne (F : Array Value) (w : World) (g k : Nat) (h : k ≠ g) : (putRow id w g 0 F).heap[k]? = w.heap[k]? := by
  unfold putRow mapBlock
  simp only [Array.getElem?_modify]
  rw [if_neg (Ne.symm h)]
theorem putRow_heap_at (F cur : Array Value) (w : World) (g : Nat) (t : TypeId) (fr : Nat × Nat) (h : w.heap[g]? = some (.cells cur t fr)) : (putRow id w g 0 F).heap[g]? = some (.cells (putCells id 0 F cur) t fr) := by
  unfold putRow mapBlock
  simp only [Array.getElem?_modify, h]
  rfl
theorem putCells_take (F cur : Array Value) (h : F.size ≤ cur.size) : (putCells id 0 F cur).toList.take F.size = F.toList := by
  apply List.ext_getElem?
  intro j
  by_cases hj : j < F.size
  · rw [List.getElem?_take_of_lt hj, Array.getElem?_toList, Array.getElem?_toList]
    unfold putCells
    rw [Array.getElem?_mapIdx, Array.getElem?_eq_getElem (by omega), Option.map_some, if_pos ⟨Nat.zero_le _, by omega⟩, Nat.sub_zero, getElem!_pos F j hj, Array.getElem?_eq_getElem hj]
    rfl
  · rw [List.getElem?_eq_none (by simp; omega), List.getElem?_eq_none (by simp; omega)]
theorem ow_sorted {base g n c m : Nat} {t : TypeId} {L M : List A4} {os : Array Obj} {w : World} (h : w.ownsRow base t 4 (.slice (some ⟨g, 0, none⟩) n c) n (fa L)) (hl : M.length = n) :
    (sortWorldK encA 4 w g 0 m M.toArray os).ownsRow base t 4 (.slice (some ⟨g, 0, none⟩) n c) n (fa M) ∧ Below base w (sortWorldK encA 4 w g 0 m M.toArray os) := by
  obtain ⟨h1, h2⟩ := h
  rcases h2 with ⟨e, -⟩ | ⟨g', cap, cur, e, hb, hg, hnc, hm, hs, ht⟩
  · cases e
  injection e with e1 _ e3
  injection e1 with e1
  injection e1 with e1 _ _
  subst e1 e3
  have hlt : g < w.heap.size := (Array.getElem?_eq_some_iff.1 hg).1
  have hsz : (flatK encA 4 M.toArray).size = n * 4 := by rw [size_flatK]; simp [hl]
  have hheap : ∀ k, k < w.heap.size → (sortWorldK encA 4 w g 0 m M.toArray os).heap[k]? = (putRow id (Sort.ahead w m) g 0 (flatK encA 4 M.toArray)).heap[k]? := by
    intro k hk
    show ((putRow id (Sort.ahead w m) g 0 (flatK encA 4 M.toArray)).heap ++ os)[k]? = _
    rw [Array.getElem?_append_left]
    unfold putRow mapBlock
    simpa using hk
  refine ⟨⟨by rw [fa_length]; omega, .inr ⟨g, c, putCells id 0 (flatK encA 4 M.toArray) cur, rfl, hb, ?_, hnc, hm, ?_, ?_⟩⟩, ⟨rfl, rfl, rfl, ?_, ?_⟩⟩
  · rw [hheap g hlt]
    exact putRow_heap_at _ _ _ _ _ _ hg
  · unfold putCells; rw [Array.size_mapIdx]; exact hs
  · have h4 := putCells_take (flatK encA 4 M.toArray) cur (by rw [hsz, hs]; exact Nat.mul_le_mul_right 4 hnc)
    rw [hsz] at h4
    rw [h4, fa_flat]
  · show w.heap.size ≤ ((putRow id (Sort.ahead w m) g 0 (flatK encA 4 M.toArray)).heap ++ os).size
    unfold putRow mapBlock
    simp [Sort.ahead]
  · intro k hk
    have hkw : k < w.heap.size := by omega
    rw [hheap k hkw]
    have hkg : k ≠ g := by omega
    exact putRow_heap_ne _ _ _ _ hkg
set_option maxRecDepth 100000 in
set_option maxHeartbeats 1000000 in
theorem iSortA_any (base g n c : Nat) (L : List A4) (w : World) (hO : w.ownsRow base 39 4 (.slice (some ⟨g, 0, none⟩) n c) n (fa L)) (hl : L.length = n) (hn : n ≤ 1048576) :
    Calls Try.prog 98 #[.slice (some ⟨g, 0, none⟩) n c, .func (.func 99) #[] #[]] w fun e w' => e = .returned (.tuple #[]) ∧ w'.ownsRow base 39 4 (.slice (some ⟨g, 0, none⟩) n c) n (fa (tdS L)) ∧ Below base w w' := by
  have hlt : g < w.heap.size := (hO.lt g rfl).2
  have eg : ∀ args w, (callFunc 99 args).run Try.prog w = .ok (.enter 99 args) w := enters_of Try.func99 (by kernel_rfl) rfl
  have hH : HoldsK encA 4 w g 0 L.toArray := by
    intro j hj
    have hj' : j < (fa L).length := by rw [fa_flat, Array.length_toList]; exact hj
    have hx : (fa L)[j]? = some ((flatK encA 4 L.toArray)[j]!) := by
      rw [fa_flat, Array.getElem?_toList, getElem!_pos _ j hj, Array.getElem?_eq_getElem hj]
    rw [Nat.zero_add]
    exact ow_cell hO hx
  have hcon := AnyQ.slices_SortFunc_total Try.laysSlF06_f91 4 Try.isAgg39 Try.sizeOf39 encA encA_len (fun x v hv => by simp [encA] at hv; rcases hv with rfl | rfl | rfl | rfl <;> rfl) cmpA (by rw [cmpA_lt]; exact arLt_swo) 99 #[] g 0 c L.toArray w eg (fun _ _ _ _ x y => iCmpA_any x y _) hH hlt (by simp; omega) (by rw [cmpA_lt]; exact arLt_total)
  rw [cmpA_lt] at hcon
  simp only [List.size_toArray, hl] at hcon
  change Calls Try.prog 98 _ _ _ at hcon
  refine hcon.mono ?_
  rintro e w' ⟨rfl, m, os, rfl⟩
  exact ⟨rfl, ow_sorted (M := tdS L) hO ((tdS_len L).trans hl)⟩
end Go.Proofs.Ytkfmjnefbimecaa
