/- Fields of an argument, opened: numbers, and lists of numbers, of truth values, of structs of four numbers. -/
import Derived.Test.YtedbngnkkfpbeaaMgc
import Derived.Lib.SmallJoins
import Derived.Deep.Grids

namespace Go.Proofs.Ytedbngnkkfpbeaa
open Go.RowKit Go.ChangeShapes Go.WideShapes Go.Deep Go.Joins
set_option linter.unusedVariables false
section
variable {H : Type} {enc : TypeId × Value → H} {P : Program} {w : World} {base : Nat} {held : Bool}
theorem open_fi {t : TypeId} {fuel : Nat} {v : Value} {x : DataW H × List MemPlace} (ht : P.underlying t = some (.int .i64)) (h : DataW.trod enc P w base (fun _ => true) held fuel t [v] = some x) :
    ∃ n : Int, v = .int .i64 n ∧ (Lit.int .i64 n).wf = true := by
  obtain ⟨n, hv, _, hw⟩ := DataW.trod_int ht h
  exact ⟨n, by simpa using hv, hw⟩
theorem open_fis {t e : TypeId} {fuel : Nat} {v : Value} {x : DataW H × List MemPlace} (ht : P.underlying t = some (.slice e)) (he : P.underlying e = some (.int .i64)) (hc : P.cellsOf e = 1)
    (h : DataW.trod enc P w base (fun _ => true) held fuel t [v] = some x) : ∃ a n c z, v = .slice a n c ∧ IsRow .i64 w a n c z := by
  rcases open_ints ht he hc h with ⟨hcs, _⟩ | ⟨a, l, c, zs, hcs, _, hl, hm, hz, _, hcell, hwz⟩
  · exact ⟨none, 0, 0, [], by simpa using hcs, .inl ⟨rfl, rfl, rfl, rfl⟩⟩
  · exact ⟨_, _, _, zs, by simpa using hcs, .inr ⟨a, rfl, hl, hm, by simpa using hz, hcell, hwz⟩⟩
theorem spot_none {a : Addr} {v : Value} (h : w.cell? a = some v) : a = ⟨a.block, a.off, none⟩ := by
  obtain ⟨b, off, spot⟩ := a
  have : spot = none := World.cell?_spot h
  rw [this]
theorem add_plain (b off j : Nat) : (⟨b, off, none⟩ : Addr).add j = ⟨b, off + j, none⟩ := by
  unfold Addr.add; by_cases h : j = 0 <;> simp [h]
theorem open_fbs {t e : TypeId} {fuel : Nat} {v : Value} {x : DataW H × List MemPlace} (ht : P.underlying t = some (.slice e)) (he : P.underlying e = some .bool) (hc : P.cellsOf e = 1)
    (h : DataW.trod enc P w base (fun _ => true) held fuel t [v] = some x) : ∃ a n c L, v = .slice a n c ∧ n ≤ 9223372036854775807 ∧ SlB w w.heap.size a n L := by
  rcases open_bools ht he hc h with ⟨hcs, _⟩ | ⟨a, len, cap, B, hcs, _, hl, hm, _, hcell⟩
  · exact ⟨none, 0, 0, [], by simpa using hcs, by omega, SlV.nil _ _ _⟩
  · refine ⟨some a, len, cap, (List.range len).map B, by simpa using hcs, by unfold maxLen at hm; omega, by simp [bv], fun h0 => ?_⟩
    have h00 := hcell 0 (by omega)
    have ha : a = ⟨a.block, a.off, none⟩ := spot_none (w := w) (v := .bool (B 0)) (by simpa [Addr.add] using h00)
    refine ⟨a.block, a.off, by rw [← ha], World.block_lt_of_cell? _ _ (by simpa [Addr.add] using h00), fun j u hu => ?_⟩
    obtain ⟨y, hy, rfl⟩ := bv_get hu
    rw [List.getElem?_map] at hy
    obtain ⟨i, hi, rfl⟩ := Option.map_eq_some_iff.1 hy
    obtain ⟨hj, rfl⟩ := List.getElem?_eq_some_iff.1 hi
    simp at hj
    have := hcell j (by omega)
    rw [ha, add_plain] at this
    simpa using this
theorem open_fas {t e : TypeId} {f0 f1 f2 f3 : Field} {fuel : Nat} {v : Value} {x : DataW H × List MemPlace} (ht : P.underlying t = some (.slice e)) (he : P.underlying e = some (.struct #[f0, f1, f2, f3])) (hone : oneCellFields P #[f0, f1, f2, f3] = true) (hC : P.cellsOf e = 4)
    (i0 : P.underlying f0.type = some (.int .i64)) (i1 : P.underlying f1.type = some (.int .i64)) (i2 : P.underlying f2.type = some (.int .i64)) (i3 : P.underlying f3.type = some (.int .i64))
    (h : DataW.trod enc P w base (fun _ => true) held fuel t [v] = some x) : ∃ a n c L, v = .slice a n c ∧ n ≤ 9223372036854775807 ∧ SlA w w.heap.size a n L := by
  rcases open_slice ht h with ⟨hcs, _⟩ | ⟨a, len, cap, m, n, D, Pl, hcs, _, hl, hm, hmm, _, hat⟩
  · exact ⟨none, 0, 0, [], by simpa using hcs, by omega, SlA.nil _ _ _⟩
  · simp only [if_true] at hmm
    subst hmm
    rw [hC] at hat
    obtain ⟨F, hF⟩ := choose_lt (α := A4) (p := fun i a4 => w.cell? ((a.add (i * 4)).add 0) = some (.int .i64 a4.1) ∧ w.cell? ((a.add (i * 4)).add 1) = some (.int .i64 a4.2.1) ∧ w.cell? ((a.add (i * 4)).add 2) = some (.int .i64 a4.2.2.1) ∧ w.cell? ((a.add (i * 4)).add 3) = some (.int .i64 a4.2.2.2)) (fun i hi => by
      obtain ⟨cs', h1, h2⟩ := hat i hi
      obtain ⟨y0, y1, y2, y3, n', _, hlen, g0, g1, g2, g3⟩ := trod_struct4 he h2
      rw [hC] at hlen
      obtain ⟨o0, k0⟩ := hone_of hone 0 f0 rfl
      obtain ⟨o1, k1⟩ := hone_of hone 1 f1 rfl
      obtain ⟨o2, k2⟩ := hone_of hone 2 f2 rfl
      obtain ⟨o3, k3⟩ := hone_of hone 3 f3 rfl
      rw [o0, k0] at g0; rw [o1, k1] at g1; rw [o2, k2] at g2; rw [o3, k3] at g3
      obtain ⟨_, _, hc⟩ := World.cells?_some h1
      match cs', hlen with
      | [v0, v1, v2, v3], _ =>
        obtain ⟨n0, e0, _⟩ := open_fi (v := v0) i0 (by simpa using g0)
        obtain ⟨n1, e1, _⟩ := open_fi (v := v1) i1 (by simpa using g1)
        obtain ⟨n2, e2, _⟩ := open_fi (v := v2) i2 (by simpa using g2)
        obtain ⟨n3, e3, _⟩ := open_fi (v := v3) i3 (by simpa using g3)
        subst e0 e1 e2 e3
        exact ⟨(n0, n1, n2, n3), by simpa using hc 0 (by omega), by simpa using hc 1 (by omega), by simpa using hc 2 (by omega), by simpa using hc 3 (by omega)⟩)
    refine ⟨some a, len, _, (List.range len).map F, by simpa using hcs, by unfold maxLen at hm; omega, by simp, fun h0 => ?_⟩
    have h00 := (hF 0 (by omega)).1
    have ha : a = ⟨a.block, a.off, none⟩ := spot_none (w := w) (v := .int .i64 (F 0).1) (by simpa [Addr.add] using h00)
    refine ⟨a.block, a.off, by rw [← ha], World.block_lt_of_cell? _ _ (by simpa [Addr.add] using h00), fun j u hu => ?_⟩
    rw [List.getElem?_map] at hu
    obtain ⟨i, hi, rfl⟩ := Option.map_eq_some_iff.1 hu
    obtain ⟨hj, rfl⟩ := List.getElem?_eq_some_iff.1 hi
    simp at hj
    have := hF j (by omega)
    rw [ha] at this
    simp only [add_plain, Nat.add_zero] at this
    simpa using this
theorem array5 {α : Type} {cs : Array α} (h : cs.size = 5) : ∃ c0 c1 c2 c3 c4, cs = #[c0, c1, c2, c3, c4] := by
  obtain ⟨l⟩ := cs
  match l, h with
  | [c0, c1, c2, c3, c4], _ => exact ⟨c0, c1, c2, c3, c4, rfl⟩
/-- A struct of five one-cell fields, by value. -/
theorem open_agg5 {r : Reach} {b0 : Nat} {t : TypeId} {f0 f1 f2 f3 f4 : Field} {v : Value} {d : DataW H} {p : List MemPlace} (hs : P.underlying t = some (.struct #[f0, f1, f2, f3, f4])) (hone : oneCellFields P #[f0, f1, f2, f3, f4] = true) (hC : P.cellsOf t = 5)
    (hv : Value.okWide P w r b0 t v) (h : DataW.Trod enc P w base (fun _ => true) held t v d p) :
    ∃ (v0 v1 v2 v3 v4 : Value) (y0 y1 y2 y3 y4 : DataW H × List MemPlace) (n : Nat), v = .agg #[v0, v1, v2, v3, v4] ∧ True ∧ True ∧
      DataW.trod enc P w base (fun _ => true) held n f0.type [v0] = some y0 ∧ DataW.trod enc P w base (fun _ => true) held n f1.type [v1] = some y1 ∧ DataW.trod enc P w base (fun _ => true) held n f2.type [v2] = some y2 ∧ DataW.trod enc P w base (fun _ => true) held n f3.type [v3] = some y3 ∧ DataW.trod enc P w base (fun _ => true) held n f4.type [v4] = some y4 := by
  obtain ⟨cs, rfl, hsz⟩ := okWide_struct hs hv
  obtain ⟨c0, c1, c2, c3, c4, rfl⟩ := array5 (hsz.trans hC)
  obtain ⟨fuel, hf⟩ := h
  obtain ⟨xs, n, _, _, _, hlen, hg⟩ := DataW.trod_struct hs hf
  obtain ⟨o0, k0⟩ := hone_of hone 0 f0 rfl
  obtain ⟨o1, k1⟩ := hone_of hone 1 f1 rfl
  obtain ⟨o2, k2⟩ := hone_of hone 2 f2 rfl
  obtain ⟨o3, k3⟩ := hone_of hone 3 f3 rfl
  obtain ⟨o4, k4⟩ := hone_of hone 4 f4 rfl
  have g0 := hg 0 f0 rfl; have g1 := hg 1 f1 rfl; have g2 := hg 2 f2 rfl; have g3 := hg 3 f3 rfl; have g4 := hg 4 f4 rfl
  rw [o0, k0] at g0; rw [o1, k1] at g1; rw [o2, k2] at g2; rw [o3, k3] at g3; rw [o4, k4] at g4
  match xs, hlen with
  | [y0, y1, y2, y3, y4], _ => exact ⟨c0, c1, c2, c3, c4, y0, y1, y2, y3, y4, n, rfl, trivial, trivial, by simpa [Value.cells] using g0, by simpa [Value.cells] using g1, by simpa [Value.cells] using g2, by simpa [Value.cells] using g3, by simpa [Value.cells] using g4⟩
end
end Go.Proofs.Ytedbngnkkfpbeaa
