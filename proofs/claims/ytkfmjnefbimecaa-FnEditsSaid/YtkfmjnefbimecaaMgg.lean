/- Several texts in one: Best parts, plainly. Local gains at (3, 1, 2), plainly (FnEdits). -/
import Derived.Test.YtkfmjnefbimecaaEdP

namespace Go.Proofs.Ytkfmjnefbimecaa
open Go.PlainAid
set_option linter.unusedVariables false
/-- The gain of a pair of bytes. -/
def pg (x y s d : Int) : Int := if x = y then s else -d
theorem pg_bd {x y s d : Int} (hs : 0 ≤ s ∧ s ≤ 1000) (hd : 0 ≤ d ∧ d ≤ 1000) : -1000 ≤ pg x y s d ∧ pg x y s d ≤ 1000 := by
  unfold pg; split <;> omega
section
variable (a b : ByteArray) (s d g : Int)
def lgNext (prev : Nat → Int) (i : Nat) : Nat → Int
  | 0 => 0
  | k + 1 => max (max (prev k + pg (bt a i) (bt b k) s d) 0) (max (prev (k + 1) - g) (lgNext prev i k - g))
def lg : Nat → Nat → Int
  | 0, _ => 0
  | i + 1, k => lgNext a b s d g (lg i) i k
theorem lg_row0 (k : Nat) : lg a b s d g 0 k = 0 := rfl
theorem lg_col0 (i : Nat) : lg a b s d g i 0 = 0 := by cases i <;> simp [lg, lgNext]
theorem lg_step (i k : Nat) : lg a b s d g (i + 1) (k + 1) = max (max (lg a b s d g i k + pg (bt a i) (bt b k) s d) 0) (max (lg a b s d g i (k + 1) - g) (lg a b s d g (i + 1) k - g)) := rfl
/-- The best number of the rows below i and, of row i, of the columns up to k. -/
def lgRow (best : Int) (row : Nat → Int) : Nat → Int
  | 0 => best
  | k + 1 => max (lgRow best row k) (row (k + 1))
def lgB (n : Nat) : Nat → Int
  | 0 => 0
  | i + 1 => lgRow (lgB n i) (lg a b s d g (i + 1)) n
variable {s d g}
theorem lg_bd (hs : 0 ≤ s ∧ s ≤ 1000) (hd : 0 ≤ d ∧ d ≤ 1000) (hg : 0 ≤ g) : ∀ i k, 0 ≤ lg a b s d g i k ∧ lg a b s d g i k ≤ 1000 * (i + k : Nat) := by
  intro i
  induction i with
  | zero => intro k; rw [lg_row0]; omega
  | succ i ih =>
    intro k
    induction k with
    | zero => rw [lg_col0]; omega
    | succ k ihk =>
      rw [lg_step]
      have h1 := ih k
      have h2 := ih (k + 1)
      have h3 := pg_bd (x := bt a i) (y := bt b k) hs hd
      omega
theorem lgRow_bd {best : Int} {row : Nat → Int} {M : Int} (h0 : 0 ≤ best ∧ best ≤ M) : ∀ n, (∀ k, k ≤ n → row k ≤ M) → 0 ≤ lgRow best row n ∧ lgRow best row n ≤ M := by
  intro n
  induction n with
  | zero => intro _; exact h0
  | succ n ih =>
    intro h
    have h1 := ih (fun k hk => h k (by omega))
    have h2 := h (n + 1) (Nat.le_refl _)
    simp only [lgRow]; omega
theorem lgB_bd (hs : 0 ≤ s ∧ s ≤ 1000) (hd : 0 ≤ d ∧ d ≤ 1000) (hg : 0 ≤ g) (n m : Nat) : ∀ i, i ≤ m → 0 ≤ lgB a b s d g n i ∧ lgB a b s d g n i ≤ 1000 * (m + n : Nat) := by
  intro i
  induction i with
  | zero => intro _; simp only [lgB]; omega
  | succ i ih =>
    intro hi
    simp only [lgB]
    refine lgRow_bd (ih (by omega)) n (fun k hk => ?_)
    have := lg_bd a b hs hd hg (i + 1) k
    omega
end
theorem fill_one {n : Nat} : fill (iv [0]) (n + 1) (.int .i64 0) = List.replicate (n + 1) (.int .i64 0) := by
  simp [fill, iv, List.replicate_succ]
theorem rowOf_one {f : Nat → Int} (h : f 0 = 0) : rowOf f 1 = [0] := by simp [rowOf, h]
end Go.Proofs.Ytkfmjnefbimecaa


namespace Go.Proofs.Ytkfmjnefbimecaa
open Go.PlainAid
set_option linter.unusedVariables false
section
variable (a b : ByteArray)
theorem lg_up : ∀ n i k : Nat, i + k ≤ n → lg a b 3 1 2 i k ≤ 3 * (i : Int) ∧ lg a b 3 1 2 i k ≤ 3 * (k : Int) ∧ 0 ≤ lg a b 3 1 2 i k := by
  intro n
  induction n with
  | zero =>
    intro i k h
    obtain rfl : i = 0 := by omega
    obtain rfl : k = 0 := by omega
    rw [lg_row0]; omega
  | succ n ih =>
    intro i k h
    rcases i with _ | i
    · rw [lg_row0]; omega
    · rcases k with _ | k
      · rw [lg_col0]; omega
      · have h1 := ih i k (by omega)
        have h2 := ih i (k + 1) (by omega)
        have h3 := ih (i + 1) k (by omega)
        rw [lg_step]
        unfold pg
        split <;> omega
/-- Along equal bytes the gain grows by three each. -/
theorem lg_along (i k : Nat) : ∀ L : Nat, (∀ j, j < L → bt a (i + j) = bt b (k + j)) → 3 * (L : Int) ≤ lg a b 3 1 2 (i + L) (k + L)
  | 0, _ => by have := lg_up a b _ (i + 0) (k + 0) (Nat.le_refl _); omega
  | L + 1, h => by
    have h1 := lg_along i k L (fun j hj => h j (by omega))
    have h2 := lg_step a b 3 1 2 (i + L) (k + L)
    have h3 : pg (bt a (i + L)) (bt b (k + L)) 3 1 = 3 := by unfold pg; rw [if_pos (h L (by omega))]
    rw [h3] at h2
    show 3 * ((L + 1 : Nat) : Int) ≤ lg a b 3 1 2 (i + L + 1) (k + L + 1)
    omega
theorem lgRow_ge {best : Int} {row : Nat → Int} : ∀ n : Nat, best ≤ lgRow best row n ∧ ∀ k, 1 ≤ k → k ≤ n → row k ≤ lgRow best row n
  | 0 => ⟨Int.le_refl _, fun k h1 h2 => by omega⟩
  | n + 1 => by
    have h := lgRow_ge (best := best) (row := row) n
    show best ≤ max (lgRow best row n) (row (n + 1)) ∧ _
    refine ⟨by omega, fun k h1 h2 => ?_⟩
    show row k ≤ max (lgRow best row n) (row (n + 1))
    rcases Nat.lt_or_ge k (n + 1) with hk | hk
    · have := h.2 k h1 (by omega); omega
    · obtain rfl : k = n + 1 := by omega
      omega
theorem lgB_ge {n : Nat} : ∀ {r i k : Nat}, 1 ≤ i → i ≤ r → 1 ≤ k → k ≤ n → lg a b 3 1 2 i k ≤ lgB a b 3 1 2 n r
  | 0, i, k, h1, h2, _, _ => by omega
  | r + 1, i, k, h1, h2, h3, h4 => by
    have hg := lgRow_ge (best := lgB a b 3 1 2 n r) (row := lg a b 3 1 2 (r + 1)) n
    show _ ≤ lgRow (lgB a b 3 1 2 n r) (lg a b 3 1 2 (r + 1)) n
    rcases Nat.lt_or_ge i (r + 1) with hi | hi
    · exact Int.le_trans (lgB_ge (n := n) (r := r) h1 (by omega) h3 h4) hg.1
    · obtain rfl : i = r + 1 := by omega
      exact hg.2 k h3 h4
theorem lgRow_le {best C : Int} {row : Nat → Int} (h : best ≤ C) (hr : ∀ k, row k ≤ C) : ∀ n : Nat, lgRow best row n ≤ C
  | 0 => h
  | n + 1 => by
    have := lgRow_le h hr n
    have := hr (n + 1)
    show max (lgRow best row n) (row (n + 1)) ≤ C
    omega
theorem lgB_le (n R : Nat) : ∀ r : Nat, r ≤ R → lgB a b 3 1 2 n r ≤ 3 * (R : Int)
  | 0, _ => by show (0 : Int) ≤ _; omega
  | r + 1, h => lgRow_le (lgB_le n R r (by omega)) (fun k => by have := lg_up a b _ (r + 1) k (Nat.le_refl _); omega) n
theorem lgB_nn (n : Nat) : ∀ r : Nat, 0 ≤ lgB a b 3 1 2 n r
  | 0 => Int.le_refl _
  | r + 1 => Int.le_trans (lgB_nn n r) (lgRow_ge (best := lgB a b 3 1 2 n r) (row := lg a b 3 1 2 (r + 1)) n).1
/-- A shared run of L bytes: the local gain is at least three times L. -/
theorem lgB_run {i k L : Nat} (hi : i + L ≤ a.size) (hk : k + L ≤ b.size) (h : ∀ j, j < L → bt a (i + j) = bt b (k + j)) : 3 * (L : Int) ≤ lgB a b 3 1 2 b.size a.size := by
  rcases Nat.eq_zero_or_pos L with rfl | h0
  · have := lgB_nn a b b.size a.size; omega
  · exact Int.le_trans (lg_along a b i k L h) (lgB_ge a b (by omega) hi (by omega) hk)
theorem lgB_self : lgB a a 3 1 2 a.size a.size = 3 * (a.size : Int) := by
  have h1 := lgB_le a a a.size a.size a.size (Nat.le_refl _)
  have h2 := lgB_run a a (i := 0) (k := 0) (L := a.size) (by omega) (by omega) (fun j _ => rfl)
  omega
end
end Go.Proofs.Ytkfmjnefbimecaa
