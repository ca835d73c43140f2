/- Least edits with swaps, plainly. -/
import Derived.Test.YtpmklldochpnlaaDoorEdP

namespace Go.Proofs.YtpmklldochpnlaaDoor
open Go.PlainAid
set_option linter.unusedVariables false
section
variable (a b : ByteArray)
/-- The swap's guard at (i + 1, k + 1). -/
def swG (i k : Nat) : Prop := 1 ≤ i ∧ 1 ≤ k ∧ bt a i = bt b (k - 1) ∧ bt a (i - 1) = bt b k
instance (i k : Nat) : Decidable (swG a b i k) := by unfold swG; exact inferInstance
def swNext (pp p : Nat → Int) (i : Nat) : Nat → Int
  | 0 => (i : Int) + 1
  | k + 1 => if swG a b i k then min (min (min (p k + if bt a i = bt b k then 0 else 1) (p (k + 1) + 1)) (swNext pp p i k + 1)) (pp (k - 1) + 1)
      else min (min (p k + if bt a i = bt b k then 0 else 1) (p (k + 1) + 1)) (swNext pp p i k + 1)
def swR : Nat → (Nat → Int) × (Nat → Int)
  | 0 => (fun k => (k : Int), fun _ => 0)
  | i + 1 => (swNext a b (swR i).2 (swR i).1 i, (swR i).1)
def sw (i k : Nat) : Int := (swR a b i).1 k
theorem sw_row0 (k : Nat) : sw a b 0 k = (k : Int) := rfl
theorem sw_col0 (i : Nat) : sw a b i 0 = (i : Int) := by cases i <;> simp [sw, swR, swNext]
theorem swR_prev {i : Nat} (h : 1 ≤ i) : (swR a b i).2 = fun k => sw a b (i - 1) k := by
  obtain ⟨j, rfl⟩ : ∃ j, i = j + 1 := ⟨i - 1, by omega⟩
  rfl
/-- The least of the three plain steps. -/
def sw3 (i k : Nat) : Int := min (min (sw a b i k + if bt a i = bt b k then 0 else 1) (sw a b i (k + 1) + 1)) (sw a b (i + 1) k + 1)
theorem sw_yes {i k : Nat} (h : swG a b i k) : sw a b (i + 1) (k + 1) = min (sw3 a b i k) (sw a b (i - 1) (k - 1) + 1) := by
  have hp : (swR a b i).2 (k - 1) = sw a b (i - 1) (k - 1) := by rw [swR_prev a b h.1]
  show swNext a b (swR a b i).2 (swR a b i).1 i (k + 1) = _
  rw [swNext, if_pos h, hp]
  rfl
theorem sw_no {i k : Nat} (h : ¬ swG a b i k) : sw a b (i + 1) (k + 1) = sw3 a b i k := by
  show swNext a b (swR a b i).2 (swR a b i).1 i (k + 1) = _
  rw [swNext, if_neg h]
  rfl
theorem sw_bd : ∀ n i k, i + k ≤ n → 0 ≤ sw a b i k ∧ sw a b i k ≤ (i + k : Nat) := by
  intro n
  induction n with
  | zero =>
    intro i k h
    obtain rfl : i = 0 := by omega
    obtain rfl : k = 0 := by omega
    simp [sw_row0]
  | succ n ih =>
    intro i k h
    rcases Nat.eq_zero_or_pos i with rfl | hi
    · rw [sw_row0]; omega
    · rcases Nat.eq_zero_or_pos k with rfl | hk
      · rw [sw_col0]; omega
      · obtain ⟨i, rfl⟩ : ∃ j, i = j + 1 := ⟨i - 1, by omega⟩
        obtain ⟨k, rfl⟩ : ∃ j, k = j + 1 := ⟨k - 1, by omega⟩
        have h1 := ih i k (by omega)
        have h2 := ih i (k + 1) (by omega)
        have h3 := ih (i + 1) k (by omega)
        have h4 : 0 ≤ sw3 a b i k ∧ sw3 a b i k ≤ (i + 1 + (k + 1) : Nat) := by
          unfold sw3; split <;> omega
        by_cases hg : swG a b i k
        · have h5 := ih (i - 1) (k - 1) (by omega)
          rw [sw_yes a b hg]; omega
        · rw [sw_no a b hg]; exact h4
end
end Go.Proofs.YtpmklldochpnlaaDoor
