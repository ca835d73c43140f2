/- Least edits at unit costs, plainly: a distance. -/
import Derived.Test.YtkfmjnefbimecaaMgc

namespace Go.Proofs.Ytkfmjnefbimecaa
open Go.PlainAid
set_option linter.unusedVariables false
def neqC (x y : Nat) : Int := if x = y then 0 else 1
section
variable (a b c : ByteArray)
/-- Least edits, each of cost one. -/
def eu (i k : Nat) : Int := ed a b 1 1 1 i k
theorem eu_row0 (k : Nat) : eu a b 0 k = (k : Int) := by unfold eu; rw [ed_row0]; omega
theorem eu_col0 (i : Nat) : eu a b i 0 = (i : Int) := by unfold eu; rw [ed_col0]; omega
theorem eu_step (i k : Nat) : eu a b (i + 1) (k + 1) = min (min (eu a b i k + if bt a i = bt b k then 0 else 1) (eu a b i (k + 1) + 1)) (eu a b (i + 1) k + 1) := ed_step a b 1 1 1 i k
theorem eu_symm : ∀ n i k : Nat, i + k ≤ n → eu a b i k = eu b a k i := by
  intro n
  induction n with
  | zero =>
    intro i k h
    obtain rfl : i = 0 := by omega
    obtain rfl : k = 0 := by omega
    rw [eu_row0, eu_row0]
  | succ n ih =>
    intro i k h
    rcases i with _ | i
    · rw [eu_row0, eu_col0]
    · rcases k with _ | k
      · rw [eu_row0, eu_col0]
      · rw [eu_step, eu_step, ih i k (by omega), ih i (k + 1) (by omega), ih (i + 1) k (by omega)]
        by_cases h : bt a i = bt b k
        · rw [if_pos h, if_pos h.symm]; omega
        · rw [if_neg h, if_neg (fun e => h e.symm)]; omega
theorem eu_low : ∀ n i k : Nat, i + k ≤ n → (k : Int) - i ≤ eu a b i k ∧ (i : Int) - k ≤ eu a b i k ∧ eu a b i k ≤ (i : Int) + k := by
  intro n
  induction n with
  | zero =>
    intro i k h
    obtain rfl : i = 0 := by omega
    obtain rfl : k = 0 := by omega
    rw [eu_row0]; omega
  | succ n ih =>
    intro i k h
    rcases i with _ | i
    · rw [eu_row0]; omega
    · rcases k with _ | k
      · rw [eu_col0]; omega
      · have h1 := ih i k (by omega)
        have h2 := ih i (k + 1) (by omega)
        have h3 := ih (i + 1) k (by omega)
        rw [eu_step]
        split <;> omega
theorem eu_tri : ∀ n i m k : Nat, i + m + k ≤ n → eu a b i k ≤ eu a c i m + eu c b m k := by
  intro n
  induction n with
  | zero =>
    intro i m k h
    obtain rfl : i = 0 := by omega
    obtain rfl : k = 0 := by omega
    obtain rfl : m = 0 := by omega
    rw [eu_row0, eu_row0, eu_row0]; omega
  | succ n ih =>
    intro i m k h
    rcases i with _ | i
    · have := eu_low c b _ m k (Nat.le_refl _)
      rw [eu_row0, eu_row0]; omega
    · rcases k with _ | k
      · have := eu_low a c _ (i + 1) m (Nat.le_refl _)
        rw [eu_col0, eu_col0]; omega
      · rcases m with _ | m
        · have := eu_low a b _ (i + 1) (k + 1) (Nat.le_refl _)
          rw [eu_col0, eu_row0]; omega
        · have t1 := ih i (m + 1) (k + 1) (by omega)
          have t2 := ih (i + 1) (m + 1) k (by omega)
          have t3 := ih (i + 1) m (k + 1) (by omega)
          have t4 := ih (i + 1) m k (by omega)
          have t5 := ih i m (k + 1) (by omega)
          have t6 := ih i m k (by omega)
          have s1 := eu_step a b i k
          have s2 := eu_step a c i m
          have s3 := eu_step c b m k
          by_cases h1 : bt a i = bt b k
          · rw [if_pos h1] at s1
            split at s2 <;> split at s3 <;> omega
          · rw [if_neg h1] at s1
            by_cases h2 : bt a i = bt c m
            · have h3 : ¬ bt c m = bt b k := fun e => h1 (h2.trans e)
              rw [if_pos h2] at s2
              rw [if_neg h3] at s3
              omega
            · rw [if_neg h2] at s2
              split at s3 <;> omega
theorem eu_zero : ∀ i k : Nat, eu a b i k = 0 → i = k ∧ ∀ j, j < i → bt a j = bt b j := by
  intro i
  induction i with
  | zero => intro k h; rw [eu_row0] at h; exact ⟨by omega, fun j hj => by omega⟩
  | succ i ih =>
    intro k h
    rcases k with _ | k
    · rw [eu_col0] at h; omega
    · have h1 := eu_low a b _ i k (Nat.le_refl _)
      have h2 := eu_low a b _ i (k + 1) (Nat.le_refl _)
      have h3 := eu_low a b _ (i + 1) k (Nat.le_refl _)
      rw [eu_step] at h
      by_cases he : bt a i = bt b k
      · rw [if_pos he] at h
        obtain ⟨q1, q2⟩ := ih k (by omega)
        subst q1
        refine ⟨rfl, fun j hj => ?_⟩
        rcases Nat.lt_or_ge j i with hl | hl
        · exact q2 j hl
        · obtain rfl : j = i := by omega
          exact he
      · rw [if_neg he] at h; omega
theorem eu_same (n : Nat) (h : ∀ j, j < n → bt a j = bt b j) : eu a b n n = 0 := by
  induction n with
  | zero => exact eu_row0 a b 0
  | succ n ih =>
    have h1 := ih (fun j hj => h j (by omega))
    have h2 := eu_low a b _ (n + 1) (n + 1) (Nat.le_refl _)
    have h3 := eu_step a b n n
    rw [if_pos (h n (by omega))] at h3
    omega
/-- Swaps cost no more than plain edits. -/
theorem sw_le : ∀ n i k : Nat, i + k ≤ n → sw a b i k ≤ eu a b i k := by
  intro n
  induction n with
  | zero =>
    intro i k h
    obtain rfl : i = 0 := by omega
    obtain rfl : k = 0 := by omega
    rw [eu_row0, sw_row0]; omega
  | succ n ih =>
    intro i k h
    rcases i with _ | i
    · rw [eu_row0, sw_row0]; omega
    · rcases k with _ | k
      · rw [eu_col0, sw_col0]; omega
      · have h1 := ih i k (by omega)
        have h2 := ih i (k + 1) (by omega)
        have h3 := ih (i + 1) k (by omega)
        have h4 : sw3 a b i k ≤ eu a b (i + 1) (k + 1) := by unfold sw3; rw [eu_step]; split <;> omega
        by_cases hg : swG a b i k
        · rw [sw_yes a b hg]; omega
        · rw [sw_no a b hg]; exact h4
/-- Plain edits cost no more than twice the swaps. -/
theorem le_sw : ∀ n i k : Nat, i + k ≤ n → eu a b i k ≤ 2 * sw a b i k := by
  intro n
  induction n with
  | zero =>
    intro i k h
    obtain rfl : i = 0 := by omega
    obtain rfl : k = 0 := by omega
    rw [eu_row0, sw_row0]; omega
  | succ n ih =>
    intro i k h
    rcases i with _ | i
    · rw [eu_row0, sw_row0]; omega
    · rcases k with _ | k
      · rw [eu_col0, sw_col0]; omega
      · have h1 := ih i k (by omega)
        have h2 := ih i (k + 1) (by omega)
        have h3 := ih (i + 1) k (by omega)
        have hs := eu_step a b i k
        have h4 : eu a b (i + 1) (k + 1) ≤ 2 * sw3 a b i k := by unfold sw3; split at hs <;> simp only [*, if_true, if_false] <;> omega
        by_cases hg : swG a b i k
        · rw [sw_yes a b hg]
          obtain ⟨g1, g2, -, -⟩ := hg
          obtain ⟨i, rfl⟩ : ∃ j, i = j + 1 := ⟨i - 1, by omega⟩
          obtain ⟨k, rfl⟩ : ∃ j, k = j + 1 := ⟨k - 1, by omega⟩
          have h5 := ih i k (by omega)
          have hs2 := eu_step a b i k
          rw [Nat.add_sub_cancel, Nat.add_sub_cancel]
          split at hs <;> split at hs2 <;> omega
        · rw [sw_no a b hg]; exact h4
theorem swG_symm {i k : Nat} (h : swG a b i k) : swG b a k i := ⟨h.2.1, h.1, h.2.2.2.symm, h.2.2.1.symm⟩
theorem sw_symm : ∀ n i k : Nat, i + k ≤ n → sw a b i k = sw b a k i := by
  intro n
  induction n with
  | zero =>
    intro i k h
    obtain rfl : i = 0 := by omega
    obtain rfl : k = 0 := by omega
    rw [sw_row0, sw_row0]
  | succ n ih =>
    intro i k h
    rcases i with _ | i
    · rw [sw_row0, sw_col0]
    · rcases k with _ | k
      · rw [sw_row0, sw_col0]
      · have h4 : sw3 a b i k = sw3 b a k i := by
          unfold sw3
          rw [ih i k (by omega), ih i (k + 1) (by omega), ih (i + 1) k (by omega)]
          by_cases h : bt a i = bt b k
          · rw [if_pos h, if_pos h.symm]; omega
          · rw [if_neg h, if_neg (fun e => h e.symm)]; omega
        by_cases hg : swG a b i k
        · rw [sw_yes a b hg, sw_yes b a (swG_symm a b hg), h4, ih (i - 1) (k - 1) (by omega)]
        · rw [sw_no a b hg, sw_no b a (fun g => hg (swG_symm b a g)), h4]
end
end Go.Proofs.Ytkfmjnefbimecaa
