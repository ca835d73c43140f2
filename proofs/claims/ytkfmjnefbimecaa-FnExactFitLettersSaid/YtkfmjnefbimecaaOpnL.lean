/- An argument that is a list of lists of numbers, opened. -/
import Derived.Test.YtkfmjnefbimecaaOpn
import Derived.Test.YtkfmjnefbimecaaSsl
import Derived.Deep.Matrix
namespace Go.Proofs.Ytkfmjnefbimecaa
open Go.RowKit Go.ChangeShapes Go.WideShapes Go.Deep Go.Joins
set_option linter.unusedVariables false
theorem open_fls {H : Type} {enc : TypeId × Value → H} {P : Program} {w : World} {base : Nat} {held : Bool} {t e q : TypeId} {fuel : Nat} {v : Value} {x : DataW H × List MemPlace} (ht : P.underlying t = some (.slice e)) (he : P.underlying e = some (.slice q)) (hq : P.underlying q = some (.int .i64)) (ce : P.cellsOf e = 1) (cq : P.cellsOf q = 1)
    (h : DataW.trod enc P w base (fun _ => true) held fuel t [v] = some x) : ∃ a n c R, v = .slice a n c ∧ n ≤ 9223372036854775807 ∧ SlL w w.heap.size a n R := by
  rcases open_int_rows ht he hq ce cq h with ⟨hcs, _⟩ | ⟨a, len, cap, A, L, C, Z, hcs, _, hl, hm, _, hat⟩
  · exact ⟨none, 0, 0, [], by simpa using hcs, by omega, [], SlV.nil _ _ _, rfl, fun j r hr => by simp at hr⟩
  · refine ⟨some a, len, cap, (List.range len).map fun r => (Z r).take (L r), by simpa using hcs, by unfold maxLen at hm; omega, (List.range len).map fun r => Value.slice (A r) (L r) (C r), ⟨by simp, fun h0 => ?_⟩, by simp, fun j r hr => ?_⟩
    · have h00 := (hat 0 (by omega)).1
      have ha : a = ⟨a.block, a.off, none⟩ := spot_none (w := w) (v := .slice (A 0) (L 0) (C 0)) (by simpa [Addr.add] using h00)
      refine ⟨a.block, a.off, by rw [← ha], World.block_lt_of_cell? _ _ (by simpa [Addr.add] using h00), fun j u hu => ?_⟩
      rw [List.getElem?_map] at hu
      obtain ⟨i, hi, rfl⟩ := Option.map_eq_some_iff.1 hu
      obtain ⟨hj, rfl⟩ := List.getElem?_eq_some_iff.1 hi
      simp at hj
      have := (hat j (by omega)).1
      rw [ha, add_plain] at this
      simpa using this
    · rw [List.getElem?_map] at hr
      obtain ⟨i, hi, rfl⟩ := Option.map_eq_some_iff.1 hr
      obtain ⟨hj, rfl⟩ := List.getElem?_eq_some_iff.1 hi
      simp at hj
      obtain ⟨_, h2, h3, h4, h5, h6, h7⟩ := hat j (by omega)
      have hlen : ((Z j).take (L j)).length = L j := by simp; omega
      refine ⟨A j, C j, by simp [hj, hlen], ?_, ?_⟩
      · simp only [List.getElem_range]
        rw [hlen]
        refine IsRow.sl (cap := C j) ?_
        cases hA : A j with
        | none =>
          have hC := h6 hA
          exact .inl ⟨rfl, by omega, hC, List.eq_nil_of_length_eq_zero (by omega)⟩
        | some a' => exact .inr ⟨a', rfl, h2, h3, h4, fun i hi => (h7 a' hA).2 i (by omega), h5⟩
      · simp only [List.getElem_range]
        rw [hlen]; omega
end Go.Proofs.Ytkfmjnefbimecaa
