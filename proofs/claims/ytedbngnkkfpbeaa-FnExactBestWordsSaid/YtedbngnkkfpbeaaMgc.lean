/- Several texts in one: Lists of structs of four numbers (arcs): reading, copying, comparing. Lists of truth values, as the laws' helpers copy and compare them. -/
import Derived.Test.YtedbngnkkfpbeaaMem
import Derived.Test.YtedbngnkkfpbeaaMga
import Derived.Test.YtedbngnkkfpbeaaMgb
import Derived.Deep.RegionHeld3
import Derived.Deep.RegionWith
import Derived.Deep.QuietTactic
import Derived.BigQuiet

namespace Go.Proofs.Ytedbngnkkfpbeaa
open Go.RowKit
set_option linter.unusedVariables false
abbrev A4 := Int × Int × Int × Int
/-- The cells of a list of arcs. -/
def fa : List A4 → List Value
  | [] => []
  | a :: l => .int .i64 a.1 :: .int .i64 a.2.1 :: .int .i64 a.2.2.1 :: .int .i64 a.2.2.2 :: fa l
theorem fa_length (l : List A4) : (fa l).length = 4 * l.length := by
  induction l with
  | nil => rfl
  | cons a l ih => simp [fa, ih]; omega
theorem fa_append (l m : List A4) : fa (l ++ m) = fa l ++ fa m := by
  induction l with
  | nil => rfl
  | cons a l ih => simp [fa, ih]
theorem fa_get {l : List A4} {j : Nat} {a : A4} (h : l[j]? = some a) :
    (fa l)[j * 4]? = some (.int .i64 a.1) ∧ (fa l)[j * 4 + 1]? = some (.int .i64 a.2.1) ∧ (fa l)[j * 4 + 2]? = some (.int .i64 a.2.2.1) ∧ (fa l)[j * 4 + 3]? = some (.int .i64 a.2.2.2) := by
  induction l generalizing j with
  | nil => simp at h
  | cons b l ih =>
    cases j with
    | zero => simp at h; subst h; simp [fa]
    | succ j =>
      simp at h
      have := ih h
      rw [show (j + 1) * 4 = j * 4 + 1 + 1 + 1 + 1 from by omega]
      simpa [fa] using this
/-- The slice value '.slice A n c' reads, in w, as the arcs L; its cells lie in a block below B. -/
def SlA (w : World) (B : Nat) (A : Option Addr) (n : Nat) (L : List A4) : Prop :=
  L.length = n ∧ (0 < n → ∃ b off, A = some ⟨b, off, none⟩ ∧ b < B ∧ ∀ j a, L[j]? = some a → w.cell? ⟨b, off + j * 4, none⟩ = some (.int .i64 a.1) ∧ w.cell? ⟨b, off + j * 4 + 1, none⟩ = some (.int .i64 a.2.1) ∧ w.cell? ⟨b, off + j * 4 + 2, none⟩ = some (.int .i64 a.2.2.1) ∧ w.cell? ⟨b, off + j * 4 + 3, none⟩ = some (.int .i64 a.2.2.2))
section
variable {w w' : World} {B B' n : Nat} {A : Option Addr} {L : List A4}
theorem SlA.len (h : SlA w B A n L) : L.length = n := h.1
theorem SlA.nil (w : World) (B : Nat) (A : Option Addr) : SlA w B A 0 [] := ⟨rfl, fun h => absurd h (by omega)⟩
theorem SlA.keep (h : SlA w B A n L) (hk : ∀ b o, b < B → w'.cell? ⟨b, o, none⟩ = w.cell? ⟨b, o, none⟩) : SlA w' B A n L :=
  ⟨h.1, fun hn => by
    obtain ⟨b, off, e, hb, hc⟩ := h.2 hn
    refine ⟨b, off, e, hb, fun j a ha => ?_⟩
    rw [hk _ _ hb, hk _ _ hb, hk _ _ hb, hk _ _ hb]
    exact hc j a ha⟩
theorem SlA.more (h : SlA w B A n L) (hB : B ≤ B') : SlA w B' A n L :=
  ⟨h.1, fun hn => by
    obtain ⟨b, off, e, hb, hc⟩ := h.2 hn
    exact ⟨b, off, e, by omega, hc⟩⟩
theorem SlA.below (h : SlA w B A n L) (hb : Below B' w w') (hB : B ≤ B') : SlA w' B A n L :=
  h.keep fun b o hlt => hb.cell (p := ⟨b, o, none⟩) (show b < B' by omega)
theorem SlA.at_ {k : Nat} (h : SlA w B A n L) (hk : k < n) :
    ∃ b off a0 a1 a2 a3, A = some ⟨b, off, none⟩ ∧ b < B ∧ Hid (L[k]? = some (a0, a1, a2, a3)) ∧ w.cell? ⟨b, off + k * 4, none⟩ = some (.int .i64 a0) ∧ w.cell? ⟨b, off + k * 4 + 1, none⟩ = some (.int .i64 a1) ∧ w.cell? ⟨b, off + k * 4 + 2, none⟩ = some (.int .i64 a2) ∧ w.cell? ⟨b, off + k * 4 + 3, none⟩ = some (.int .i64 a3) := by
  obtain ⟨hl, h2⟩ := h
  obtain ⟨b, off, e, hb, hc⟩ := h2 (by omega)
  obtain ⟨a, ha⟩ : ∃ a, L[k]? = some a := ⟨L[k], List.getElem?_eq_getElem (by omega)⟩
  obtain ⟨c0, c1, c2, c3⟩ := hc k a ha
  exact ⟨b, off, a.1, a.2.1, a.2.2.1, a.2.2.2, e, hb, ha, c0, c1, c2, c3⟩
end
theorem Row.slA {w : World} {g : Nat} {t : TypeId} {L : List A4} (h : Row w g t (fa L)) : SlA w w.heap.size (some ⟨g, 0, none⟩) L.length L :=
  ⟨rfl, fun _ => ⟨g, 0, rfl, h.lt, fun j a ha => by
    obtain ⟨c0, c1, c2, c3⟩ := fa_get ha
    rw [Nat.zero_add, h.cell, h.cell, h.cell, h.cell]
    exact ⟨c0, c1, c2, c3⟩⟩⟩
theorem Row.newAt (w : World) (t : TypeId) (vs : List Value) {g : Nat} (hg : w.heap.size = g) : Row (w.alloc (.cells vs.toArray t)) g t vs := by subst hg; exact Row.new w t vs
def zA : A4 := (0, 0, 0, 0)
theorem fa_zero (n : Nat) : fa (List.replicate n zA) = List.replicate (n * 4) (.int .i64 0) := by
  induction n with
  | zero => rfl
  | succ n ih => rw [List.replicate_succ, show (n + 1) * 4 = n * 4 + 1 + 1 + 1 + 1 from by omega, List.replicate_succ, List.replicate_succ, List.replicate_succ, List.replicate_succ, ← ih]; rfl
theorem made4 (n : Nat) : madeCells (Value.agg #[.int .i64 0, .int .i64 0, .int .i64 0, .int .i64 0]).cells (n * 4) = (fa (List.replicate n zA)).toArray := by
  rw [fa_zero]
  apply Array.ext
  · simp [size_madeCells]
  · intro i h1 h2
    have h3 : i % 4 < 4 := Nat.mod_lt _ (by omega)
    have h4 : i % 4 = 0 ∨ i % 4 = 1 ∨ i % 4 = 2 ∨ i % 4 = 3 := by omega
    rcases h4 with h4 | h4 | h4 | h4 <;> simp [madeCells, Value.cells, h4]
theorem run_make4 {P : Program} (t e : TypeId) (ht : P.underlying t = some (.slice e)) (hinfo : (P.info? e).map (fun i => (i.zero, i.size, i.bytes)) = some (some (.agg #[.int .i64 0, .int .i64 0, .int .i64 0, .int .i64 0]), 4, 32))
    (n : Nat) (hn : n ≤ 4294967296) (w : World) :
    (Instr.makeSlice t (.int .i64 (n : Int)) (.int .i64 (n : Int))).run P w = .ok (.slice (some ⟨w.heap.size, 0, none⟩) n n) (w.alloc (.cells (fa (List.replicate n zA)).toArray e)) := by
  obtain ⟨i, hi, hzz⟩ := Option.map_eq_some_iff.1 hinfo
  simp only [Prod.mk.injEq] at hzz
  obtain ⟨hz, hs, hb⟩ := hzz
  have hr := run_make (P := P) w t e i _ ht hi hz .i64 .i64 n n (by omega) (Int.le_refl _) (by rw [hb]; omega) (by omega)
  simp only [Int.toNat_natCast, hs, made4] at hr
  exact hr
theorem fa_set {l : List A4} {j : Nat} (h : j < l.length) (a b c d : Int) :
    ((((fa l).set (j * 4) (.int .i64 a)).set (j * 4 + 1) (.int .i64 b)).set (j * 4 + 2) (.int .i64 c)).set (j * 4 + 3) (.int .i64 d) = fa (l.set j (a, b, c, d)) := by
  induction l generalizing j with
  | nil => simp at h
  | cons x l ih =>
    cases j with
    | zero => simp [fa]
    | succ j =>
      simp at h
      rw [show (j + 1) * 4 = j * 4 + 1 + 1 + 1 + 1 from by omega, show j * 4 + 1 + 1 + 1 + 1 + 1 = (j * 4 + 1) + 1 + 1 + 1 + 1 from by omega]
      simpa [fa] using ih h
/-- The first k of L, then zero arcs up to n. -/
def fillA (L : List A4) (k n : Nat) : List A4 := L.take k ++ List.replicate (n - k) zA
theorem fillA_zero (L : List A4) (n : Nat) : fillA L 0 n = List.replicate n zA := by simp [fillA]
theorem fillA_all {L : List A4} {n : Nat} (h : L.length = n) : fillA L n n = L := by simp [fillA, List.take_of_length_le (Nat.le_of_eq h)]
theorem fillA_length {L : List A4} {k n : Nat} (h : L.length = n) (hk : k ≤ n) : (fillA L k n).length = n := by simp [fillA]; omega
theorem fillA_get {L : List A4} {k n : Nat} (h : L.length = n) (hk : k < n) : (fillA L k n)[k]? = some zA := by
  unfold fillA
  rw [List.getElem?_append_right (by simp; omega), List.getElem?_replicate, List.length_take]
  simp; omega
theorem fillA_set {L : List A4} {k n : Nat} {a : A4} (h : L.length = n) (hk : k < n) (ha : L[k]? = some a) : (fillA L k n).set k a = fillA L (k + 1) n := by
  unfold fillA
  obtain ⟨hk', rfl⟩ := List.getElem?_eq_some_iff.1 ha
  have hl : (L.take k).length = k := by simp; omega
  rw [List.set_append_right _ _ (by omega), hl, Nat.sub_self, List.take_succ_eq_append_getElem hk', List.append_assoc]
  obtain ⟨m, hm⟩ : ∃ m, n - k = m + 1 := ⟨n - k - 1, by omega⟩
  rw [hm, List.replicate_succ, List.set_cons_zero, show n - (k + 1) = m from by omega]
  rfl
end Go.Proofs.Ytedbngnkkfpbeaa


namespace Go.Proofs.Ytedbngnkkfpbeaa
open Go.RowKit
set_option linter.unusedVariables false
def bv (xs : List Bool) : List Value := xs.map .bool
def SlB (w : World) (B : Nat) (A : Option Addr) (n : Nat) (xs : List Bool) : Prop := SlV w B A n (bv xs)
theorem bv_length (xs : List Bool) : (bv xs).length = xs.length := by simp [bv]
theorem bv_append (xs ys : List Bool) : bv (xs ++ ys) = bv xs ++ bv ys := by simp [bv]
theorem bv_get {xs : List Bool} {k : Nat} {u : Value} (h : (bv xs)[k]? = some u) : ∃ x, xs[k]? = some x ∧ u = .bool x := by
  simp only [bv, List.getElem?_map, Option.map_eq_some_iff] at h
  obtain ⟨x, hx, rfl⟩ := h
  exact ⟨x, hx, rfl⟩
theorem bv_take {xs : List Bool} {k : Nat} {x : Bool} (hx : xs[k]? = some x) : bv (xs.take (k + 1)) = bv (xs.take k) ++ [.bool x] := by
  obtain ⟨hk, rfl⟩ := List.getElem?_eq_some_iff.1 hx
  rw [List.take_succ_eq_append_getElem hk, bv_append]; rfl
section
variable {w w' : World} {B B' n : Nat} {A : Option Addr} {xs : List Bool}
theorem SlB.len (h : SlB w B A n xs) : xs.length = n := by have := SlV.len h; simpa [bv] using this
theorem SlB.at_ {k : Nat} (h : SlB w B A n xs) (hk : k < n) :
    ∃ b off x, A = some ⟨b, off, none⟩ ∧ b < B ∧ Hid (xs[k]? = some x) ∧ w.cell? ⟨b, off + k, none⟩ = some (.bool x) := by
  obtain ⟨b, off, u, e, hb, hu, hc⟩ := SlV.at_ h hk
  obtain ⟨x, hx, rfl⟩ := bv_get hu
  exact ⟨b, off, x, e, hb, hx, hc⟩
theorem SlB.below (h : SlB w B A n xs) (hb : Below B' w w') (hB : B ≤ B') : SlB w' B A n xs := SlV.below h hb hB
theorem SlB.more (h : SlB w B A n xs) (hB : B ≤ B') : SlB w B' A n xs := SlV.more h hB
theorem Row.slB {g : Nat} {t : TypeId} (h : Row w g t (bv xs)) : SlB w w.heap.size (some ⟨g, 0, none⟩) xs.length xs := by
  have := h.sl; rw [bv_length] at this; exact this
end
theorem infoBool : (Try.prog.info? 4).map (fun i => (i.zero, i.size, i.bytes)) = some (some (.bool false), 1, 1) := by kernel_rfl
end Go.Proofs.Ytedbngnkkfpbeaa
