/- Best parts, plainly. -/
import Derived.Test.YtchacfienafhlaaEdP
namespace Go.Proofs.Ytchacfienafhlaa
open Go.PlainAid
set_option linter.unusedVariables false
/-- The gain of a pair of bytes. -/
def pg (x y s d : Int) : Int := if x = y then s else -d
theorem pg_bd {x y s d : Int} (hs : 0 ≤ s ∧ s ≤ 1000) (hd : 0 ≤ d ∧ d ≤ 1000) : -1000 ≤ pg x y s d ∧ pg x y s d ≤ 1000 := by
  unfold pg; split <;> omega
section
variable (a b : ByteArray) (s d g : Int)
def lgNext (prev : Nat → Int) (i : Nat) : Nat → Int
  | 0 => 0
  | k + 1 => max (max (prev k + pg (bt a i) (bt b k) s d) 0) (max (prev (k + 1) - g) (lgNext prev i k - g))
def lg : Nat → Nat → Int
  | 0, _ => 0
  | i + 1, k => lgNext a b s d g (lg i) i k
theorem lg_row0 (k : Nat) : lg a b s d g 0 k = 0 := rfl
theorem lg_col0 (i : Nat) : lg a b s d g i 0 = 0 := by cases i <;> simp [lg, lgNext]
theorem lg_step (i k : Nat) : lg a b s d g (i + 1) (k + 1) = max (max (lg a b s d g i k + pg (bt a i) (bt b k) s d) 0) (max (lg a b s d g i (k + 1) - g) (lg a b s d g (i + 1) k - g)) := rfl
/-- The best number of the rows below i and, of row i, of the columns up to k. -/
def lgRow (best : Int) (row : Nat → Int) : Nat → Int
  | 0 => best
  | k + 1 => max (lgRow best row k) (row (k + 1))
def lgB (n : Nat) : Nat → Int
  | 0 => 0
  | i + 1 => lgRow (lgB n i) (lg a b s d g (i + 1)) n
variable {s d g}
theorem lg_bd (hs : 0 ≤ s ∧ s ≤ 1000) (hd : 0 ≤ d ∧ d ≤ 1000) (hg : 0 ≤ g) : ∀ i k, 0 ≤ lg a b s d g i k ∧ lg a b s d g i k ≤ 1000 * (i + k : Nat) := by
  intro i
  induction i with
  | zero => intro k; rw [lg_row0]; omega
  | succ i ih =>
    intro k
    induction k with
    | zero => rw [lg_col0]; omega
    | succ k ihk =>
      rw [lg_step]
      have h1 := ih k
      have h2 := ih (k + 1)
      have h3 := pg_bd (x := bt a i) (y := bt b k) hs hd
      omega
theorem lgRow_bd {best : Int} {row : Nat → Int} {M : Int} (h0 : 0 ≤ best ∧ best ≤ M) : ∀ n, (∀ k, k ≤ n → row k ≤ M) → 0 ≤ lgRow best row n ∧ lgRow best row n ≤ M := by
  intro n
  induction n with
  | zero => intro _; exact h0
  | succ n ih =>
    intro h
    have h1 := ih (fun k hk => h k (by omega))
    have h2 := h (n + 1) (Nat.le_refl _)
    simp only [lgRow]; omega
theorem lgB_bd (hs : 0 ≤ s ∧ s ≤ 1000) (hd : 0 ≤ d ∧ d ≤ 1000) (hg : 0 ≤ g) (n m : Nat) : ∀ i, i ≤ m → 0 ≤ lgB a b s d g n i ∧ lgB a b s d g n i ≤ 1000 * (m + n : Nat) := by
  intro i
  induction i with
  | zero => intro _; simp only [lgB]; omega
  | succ i ih =>
    intro hi
    simp only [lgB]
    refine lgRow_bd (ih (by omega)) n (fun k hk => ?_)
    have := lg_bd a b hs hd hg (i + 1) k
    omega
end
theorem fill_one {n : Nat} : fill (iv [0]) (n + 1) (.int .i64 0) = List.replicate (n + 1) (.int .i64 0) := by
  simp [fill, iv, List.replicate_succ]
theorem rowOf_one {f : Nat → Int} (h : f 0 = 0) : rowOf f 1 = [0] := by simp [rowOf, h]
end Go.Proofs.Ytchacfienafhlaa
