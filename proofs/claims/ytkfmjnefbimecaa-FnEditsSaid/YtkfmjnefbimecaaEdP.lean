/- Least edits, plainly: the table of costs. -/
import Derived.Test.YtkfmjnefbimecaaMem

namespace Go.Proofs.Ytkfmjnefbimecaa
open Go.PlainAid
set_option linter.unusedVariables false
section
variable (a b : ByteArray) (p o c : Int)
def edNext (prev : Nat → Int) (i : Nat) : Nat → Int
  | 0 => ((i : Int) + 1) * o
  | k + 1 => min (min (prev k + if bt a i = bt b k then 0 else c) (prev (k + 1) + o)) (edNext prev i k + p)
def ed : Nat → Nat → Int
  | 0, k => (k : Int) * p
  | i + 1, k => edNext a b p o c (ed i) i k
theorem ed_row0 (k : Nat) : ed a b p o c 0 k = (k : Int) * p := rfl
theorem ed_col0 (i : Nat) : ed a b p o c i 0 = (i : Int) * o := by cases i <;> simp [ed, edNext]
theorem ed_step (i k : Nat) : ed a b p o c (i + 1) (k + 1) = min (min (ed a b p o c i k + if bt a i = bt b k then 0 else c) (ed a b p o c i (k + 1) + o)) (ed a b p o c (i + 1) k + p) := rfl
theorem mul_bd {k : Nat} {p : Int} (h0 : 0 ≤ p) (h1 : p ≤ 1000) : 0 ≤ (k : Int) * p ∧ (k : Int) * p ≤ 1000 * k := by
  constructor
  · exact Int.mul_nonneg (by omega) h0
  · have := Int.mul_le_mul_of_nonneg_left h1 (show (0 : Int) ≤ k by omega); omega
variable {p o c}
theorem ed_bd (hp : 0 ≤ p ∧ p ≤ 1000) (ho : 0 ≤ o ∧ o ≤ 1000) (hc : 0 ≤ c) : ∀ i k, 0 ≤ ed a b p o c i k ∧ ed a b p o c i k ≤ 1000 * (i + k : Nat) := by
  intro i
  induction i with
  | zero => intro k; rw [ed_row0]; have := mul_bd (k := k) hp.1 hp.2; omega
  | succ i ih =>
    intro k
    induction k with
    | zero => rw [ed_col0]; have := mul_bd (k := i + 1) ho.1 ho.2; omega
    | succ k ihk =>
      rw [ed_step]
      have h1 := ih k
      have h2 := ih (k + 1)
      split <;> omega
end
def rowOf (f : Nat → Int) (n : Nat) : List Int := (List.range n).map f
def rowsOf (f : Nat → Nat → Int) (i n : Nat) : List (List Int) := (List.range i).map fun j => rowOf (f j) n
theorem rowOf_length (f : Nat → Int) (n : Nat) : (rowOf f n).length = n := by simp [rowOf]
theorem rowsOf_length (f : Nat → Nat → Int) (i n : Nat) : (rowsOf f i n).length = i := by simp [rowsOf]
theorem rowOf_get (f : Nat → Int) {k n : Nat} (h : k < n) : (rowOf f n)[k]? = some (f k) := by simp [rowOf, h]
theorem rowsOf_get (f : Nat → Nat → Int) {j i n : Nat} (h : j < i) : (rowsOf f i n)[j]? = some (rowOf (f j) n) := by simp [rowsOf, h]
theorem rowOf_succ (f : Nat → Int) (n : Nat) : rowOf f (n + 1) = rowOf f n ++ [f n] := by simp [rowOf, List.range_succ]
theorem rowsOf_succ (f : Nat → Nat → Int) (i n : Nat) : rowsOf f (i + 1) n = rowsOf f i n ++ [rowOf (f i) n] := by simp [rowsOf, List.range_succ]
theorem iv_rowOf_succ (f : Nat → Int) (n : Nat) : iv (rowOf f (n + 1)) = iv (rowOf f n) ++ [.int .i64 (f n)] := by rw [rowOf_succ, iv_append]; rfl
theorem row_step {wr : World} {g : Nat} {t : TypeId} {f : Nat → Int} {k n : Nat} {x : Int} (h : Row wr g t (fill (iv (rowOf f k)) n (.int .i64 0))) (hk : k < n) (hx : f k = x) :
    Row (wr.setCell ⟨g, k, none⟩ (.int .i64 x)) g t (fill (iv (rowOf f (k + 1))) n (.int .i64 0)) := by
  have hl : (iv (rowOf f k)).length = k := by rw [iv_length, rowOf_length]
  rw [iv_rowOf_succ, ← fill_set hl hk, hx]
  exact h.set_ _ _
theorem row_zero {wr : World} {g : Nat} {t : TypeId} {f : Nat → Int} {k n : Nat} (h : Row wr g t (fill (iv (rowOf f k)) n (.int .i64 0))) (hk : k < n) : wr.cell? ⟨g, k, none⟩ = some (.int .i64 0) := by
  rw [h.cell, fill_at (by rw [iv_length, rowOf_length]) hk]
theorem row_prev {wr : World} {g : Nat} {t : TypeId} {f : Nat → Int} {j k n : Nat} (h : Row wr g t (fill (iv (rowOf f k)) n (.int .i64 0))) (hj : j < k) : wr.cell? ⟨g, j, none⟩ = some (.int .i64 (f j)) := by
  rw [h.cell, fill_old (by rw [iv_length, rowOf_length]; exact hj)]
  simp [iv, rowOf_get f hj]
theorem fill_last {vs : List Value} {n k : Nat} {z u : Value} (hk : vs.length = k) : (fill (vs ++ [u]) n z)[k]? = some u := by
  subst hk
  rw [fill_old (by simp)]; simp
theorem fill_reset {vs : List Value} {n k : Nat} {z u u' : Value} (hk : vs.length = k) : (fill (vs ++ [u]) n z).set k u' = fill (vs ++ [u']) n z := by
  subst hk
  simp [fill]
/-- A row whose next number stands, but may be stored once more. -/
theorem row_put {wr : World} {g : Nat} {t : TypeId} {f : Nat → Int} {k n : Nat} {x : Int} (h : Row wr g t (fill (iv (rowOf f k)) n (.int .i64 0))) (hk : k < n) :
    Row (wr.setCell ⟨g, k, none⟩ (.int .i64 x)) g t (fill (iv (rowOf f k) ++ [.int .i64 x]) n (.int .i64 0)) := by
  have hl : (iv (rowOf f k)).length = k := by rw [iv_length, rowOf_length]
  rw [← fill_set hl hk]
  exact h.set_ _ _
theorem row_put_again {wr : World} {g : Nat} {t : TypeId} {f : Nat → Int} {k n : Nat} {x y : Int} (h : Row wr g t (fill (iv (rowOf f k) ++ [.int .i64 x]) n (.int .i64 0))) :
    Row (wr.setCell ⟨g, k, none⟩ (.int .i64 y)) g t (fill (iv (rowOf f k) ++ [.int .i64 y]) n (.int .i64 0)) := by
  have hl : (iv (rowOf f k)).length = k := by rw [iv_length, rowOf_length]
  rw [← fill_reset (u := .int .i64 x) hl]
  exact h.set_ _ _
theorem row_done {wr : World} {g : Nat} {t : TypeId} {f : Nat → Int} {k n : Nat} {x : Int} (h : Row wr g t (fill (iv (rowOf f k) ++ [.int .i64 x]) n (.int .i64 0))) (hx : f k = x) :
    Row wr g t (fill (iv (rowOf f (k + 1))) n (.int .i64 0)) := by
  rw [iv_rowOf_succ, hx]; exact h
theorem row_last {wr : World} {g : Nat} {t : TypeId} {f : Nat → Int} {k n : Nat} {x : Int} (h : Row wr g t (fill (iv (rowOf f k) ++ [.int .i64 x]) n (.int .i64 0))) : wr.cell? ⟨g, k, none⟩ = some (.int .i64 x) := by
  rw [h.cell, fill_last (by rw [iv_length, rowOf_length])]
end Go.Proofs.Ytkfmjnefbimecaa
