/- How many of the steps that EditSteps tells are edits, plainly (FnEdits). -/
import Derived.Test.YtkfmjnefbimecaaMgc
import Derived.Test.YtkfmjnefbimecaaEeP

namespace Go.Proofs.Ytkfmjnefbimecaa
open Go.PlainAid
set_option linter.unusedVariables false
section
variable (a b : ByteArray)
def edits (l : List UInt8) : Int := ((l.filter fun c => c != 61).length : Int)
theorem edits_cons (c : UInt8) (l : List UInt8) : edits (c :: l) = edits l + if c = 61 then 0 else 1 := by
  unfold edits
  by_cases h : c = 61
  · subst h; simp
  · rw [if_neg h, List.filter_cons_of_pos (by simp [h])]; simp
theorem edits_rev (l : List UInt8) : edits l.reverse = edits l := by unfold edits; rw [List.filter_reverse, List.length_reverse]
theorem edits_mark (i k : Nat) : (if esMark a b i k = 61 then (0 : Int) else 1) = esCost a b i k := by
  unfold esMark esCost
  by_cases h : bt a i = bt b k
  · rw [if_pos h, if_pos h, if_pos rfl]
  · rw [if_neg h, if_neg h, if_neg (by decide)]
theorem es_count : ∀ f i k : Nat, i + k ≤ f → edits (esW a b f i k) = eu a b i k := by
  intro f
  induction f with
  | zero =>
    intro i k h
    obtain rfl : i = 0 := by omega
    obtain rfl : k = 0 := by omega
    rw [eu_row0]; rfl
  | succ f ih =>
    intro i k h
    rw [esW]
    by_cases h0 : i = 0 ∧ k = 0
    · obtain ⟨rfl, rfl⟩ := h0
      rw [if_pos ⟨rfl, rfl⟩, eu_row0]; rfl
    rw [if_neg h0]
    by_cases h1 : 0 < i ∧ 0 < k ∧ e1 a b (i - 1) (k - 1) + esCost a b (i - 1) (k - 1) = e1 a b i k
    · rw [if_pos h1, edits_cons, edits_mark, ih _ _ (by omega)]
      exact h1.2.2
    rw [if_neg h1]
    by_cases h2 : 0 < i ∧ e1 a b (i - 1) k + 1 = e1 a b i k
    · rw [if_pos h2, edits_cons, if_neg (by decide), ih (i - 1) k (by omega)]
      exact h2.2
    have hk : 0 < k := by
      rcases k with _ | k
      · rcases i with _ | i
        · exact absurd ⟨rfl, rfl⟩ h0
        · exact absurd ⟨Nat.succ_pos _, e1_col0 a b i⟩ h2
      · exact Nat.succ_pos _
    rw [if_neg h2, edits_cons, if_neg (by decide), ih i (k - 1) (by omega)]
    rcases i with _ | i
    · rcases k with _ | k
      · omega
      · rw [eu_row0, eu_row0]; omega
    · rcases k with _ | k
      · omega
      · have hs := eu_step a b i k
        have n1 : ¬ eu a b i k + esCost a b i k = eu a b (i + 1) (k + 1) := fun e => h1 ⟨by omega, by omega, e⟩
        have n2 : ¬ eu a b i (k + 1) + 1 = eu a b (i + 1) (k + 1) := fun e => h2 ⟨by omega, e⟩
        unfold esCost at n1
        show eu a b (i + 1) k + 1 = eu a b (i + 1) (k + 1)
        omega
end
end Go.Proofs.Ytkfmjnefbimecaa
