/- Several texts in one: Steps of edits, plainly: the way back through the table of costs. Least edits with swaps, plainly. -/
import Derived.Test.YtkfmjnefbimecaaEdP
import Derived.Test.YtkfmjnefbimecaaMgb

namespace Go.Proofs.Ytkfmjnefbimecaa
open Go.PlainAid
set_option linter.unusedVariables false
section
variable (a b : ByteArray)
abbrev e1 (i k : Nat) : Int := ed a b 1 1 1 i k
def esCost (i k : Nat) : Int := if bt a i = bt b k then 0 else 1
def esMark (i k : Nat) : UInt8 := if bt a i = bt b k then 61 else 33
/-- The marks that the way back from (i, k) tells, the last first. -/
def esW : Nat → Nat → Nat → List UInt8
  | 0, _, _ => []
  | f + 1, i, k => if i = 0 ∧ k = 0 then [] else if 0 < i ∧ 0 < k ∧ e1 a b (i - 1) (k - 1) + esCost a b (i - 1) (k - 1) = e1 a b i k then esMark a b (i - 1) (k - 1) :: esW f (i - 1) (k - 1)
      else if 0 < i ∧ e1 a b (i - 1) k + 1 = e1 a b i k then 45 :: esW f (i - 1) k else 43 :: esW f i (k - 1)
def EsAt (R done : List UInt8) (i k : Nat) : Prop := ∃ f, i + k ≤ f ∧ done ++ esW a b f i k = R
def esAll : List UInt8 := esW a b (a.size + b.size) a.size b.size
theorem EsAt.start : EsAt a b (esAll a b) [] a.size b.size := ⟨_, Nat.le_refl _, rfl⟩
theorem e1_col0 (i : Nat) : e1 a b i 0 + 1 = e1 a b (i + 1) 0 := by
  show ed a b 1 1 1 i 0 + 1 = ed a b 1 1 1 (i + 1) 0
  rw [ed_col0, ed_col0]; omega
theorem e1_bd (i k : Nat) : 0 ≤ e1 a b i k ∧ e1 a b i k ≤ 1000 * (i + k : Nat) := ed_bd (p := 1) (o := 1) (c := 1) a b (by omega) (by omega) (by omega) i k
variable {a b} {R done : List UInt8} {i k : Nat}
theorem EsAt.done_ (h : EsAt a b R done 0 0) : done = R := by
  obtain ⟨f, hf, rfl⟩ := h
  cases f with
  | zero => simp [esW]
  | succ f => rw [esW, if_pos ⟨rfl, rfl⟩]; simp
theorem EsAt.both (h : EsAt a b R done (i + 1) (k + 1)) (he : e1 a b i k + esCost a b i k = e1 a b (i + 1) (k + 1)) : EsAt a b R (done ++ [esMark a b i k]) i k := by
  obtain ⟨f, hf, rfl⟩ := h
  obtain ⟨g, rfl⟩ : ∃ g, f = g + 1 := ⟨f - 1, by omega⟩
  refine ⟨g, by omega, ?_⟩
  rw [esW, if_neg (by omega), if_pos ⟨by omega, by omega, by simpa using he⟩]
  simp
theorem EsAt.up (h : EsAt a b R done (i + 1) (k + 1)) (he : ¬ e1 a b i k + esCost a b i k = e1 a b (i + 1) (k + 1)) (hc : e1 a b i (k + 1) + 1 = e1 a b (i + 1) (k + 1)) : EsAt a b R (done ++ [45]) i (k + 1) := by
  obtain ⟨f, hf, rfl⟩ := h
  obtain ⟨g, rfl⟩ : ∃ g, f = g + 1 := ⟨f - 1, by omega⟩
  refine ⟨g, by omega, ?_⟩
  rw [esW, if_neg (by omega), if_neg (fun h => he (by simpa using h.2.2)), if_pos ⟨by omega, by simpa using hc⟩]
  simp
theorem EsAt.up0 (h : EsAt a b R done (i + 1) 0) : EsAt a b R (done ++ [45]) i 0 := by
  obtain ⟨f, hf, rfl⟩ := h
  obtain ⟨g, rfl⟩ : ∃ g, f = g + 1 := ⟨f - 1, by omega⟩
  refine ⟨g, by omega, ?_⟩
  rw [esW, if_neg (by omega), if_neg (by omega), if_pos ⟨by omega, by simpa using e1_col0 a b i⟩]
  simp
theorem EsAt.back (h : EsAt a b R done (i + 1) (k + 1)) (he : ¬ e1 a b i k + esCost a b i k = e1 a b (i + 1) (k + 1)) (hc : ¬ e1 a b i (k + 1) + 1 = e1 a b (i + 1) (k + 1)) : EsAt a b R (done ++ [43]) (i + 1) k := by
  obtain ⟨f, hf, rfl⟩ := h
  obtain ⟨g, rfl⟩ : ∃ g, f = g + 1 := ⟨f - 1, by omega⟩
  refine ⟨g, by omega, ?_⟩
  rw [esW, if_neg (by omega), if_neg (fun h => he (by simpa using h.2.2)), if_neg (fun h => hc (by simpa using h.2))]
  simp
theorem EsAt.back0 (h : EsAt a b R done 0 (k + 1)) : EsAt a b R (done ++ [43]) 0 k := by
  obtain ⟨f, hf, rfl⟩ := h
  obtain ⟨g, rfl⟩ : ∃ g, f = g + 1 := ⟨f - 1, by omega⟩
  refine ⟨g, by omega, ?_⟩
  rw [esW, if_neg (by omega), if_neg (by omega), if_neg (by omega)]
  simp
end
end Go.Proofs.Ytkfmjnefbimecaa


namespace Go.Proofs.Ytkfmjnefbimecaa
open Go.PlainAid
set_option linter.unusedVariables false
section
variable (a b : ByteArray)
/-- The swap's guard at (i + 1, k + 1). -/
def swG (i k : Nat) : Prop := 1 ≤ i ∧ 1 ≤ k ∧ bt a i = bt b (k - 1) ∧ bt a (i - 1) = bt b k
instance (i k : Nat) : Decidable (swG a b i k) := by unfold swG; exact inferInstance
def swNext (pp p : Nat → Int) (i : Nat) : Nat → Int
  | 0 => (i : Int) + 1
  | k + 1 => if swG a b i k then min (min (min (p k + if bt a i = bt b k then 0 else 1) (p (k + 1) + 1)) (swNext pp p i k + 1)) (pp (k - 1) + 1)
      else min (min (p k + if bt a i = bt b k then 0 else 1) (p (k + 1) + 1)) (swNext pp p i k + 1)
def swR : Nat → (Nat → Int) × (Nat → Int)
  | 0 => (fun k => (k : Int), fun _ => 0)
  | i + 1 => (swNext a b (swR i).2 (swR i).1 i, (swR i).1)
def sw (i k : Nat) : Int := (swR a b i).1 k
theorem sw_row0 (k : Nat) : sw a b 0 k = (k : Int) := rfl
theorem sw_col0 (i : Nat) : sw a b i 0 = (i : Int) := by cases i <;> simp [sw, swR, swNext]
theorem swR_prev {i : Nat} (h : 1 ≤ i) : (swR a b i).2 = fun k => sw a b (i - 1) k := by
  obtain ⟨j, rfl⟩ : ∃ j, i = j + 1 := ⟨i - 1, by omega⟩
  rfl
/-- The least of the three plain steps. -/
def sw3 (i k : Nat) : Int := min (min (sw a b i k + if bt a i = bt b k then 0 else 1) (sw a b i (k + 1) + 1)) (sw a b (i + 1) k + 1)
theorem sw_yes {i k : Nat} (h : swG a b i k) : sw a b (i + 1) (k + 1) = min (sw3 a b i k) (sw a b (i - 1) (k - 1) + 1) := by
  have hp : (swR a b i).2 (k - 1) = sw a b (i - 1) (k - 1) := by rw [swR_prev a b h.1]
  show swNext a b (swR a b i).2 (swR a b i).1 i (k + 1) = _
  rw [swNext, if_pos h, hp]
  rfl
theorem sw_no {i k : Nat} (h : ¬ swG a b i k) : sw a b (i + 1) (k + 1) = sw3 a b i k := by
  show swNext a b (swR a b i).2 (swR a b i).1 i (k + 1) = _
  rw [swNext, if_neg h]
  rfl
theorem sw_bd : ∀ n i k, i + k ≤ n → 0 ≤ sw a b i k ∧ sw a b i k ≤ (i + k : Nat) := by
  intro n
  induction n with
  | zero =>
    intro i k h
    obtain rfl : i = 0 := by omega
    obtain rfl : k = 0 := by omega
    simp [sw_row0]
  | succ n ih =>
    intro i k h
    rcases Nat.eq_zero_or_pos i with rfl | hi
    · rw [sw_row0]; omega
    · rcases Nat.eq_zero_or_pos k with rfl | hk
      · rw [sw_col0]; omega
      · obtain ⟨i, rfl⟩ : ∃ j, i = j + 1 := ⟨i - 1, by omega⟩
        obtain ⟨k, rfl⟩ : ∃ j, k = j + 1 := ⟨k - 1, by omega⟩
        have h1 := ih i k (by omega)
        have h2 := ih i (k + 1) (by omega)
        have h3 := ih (i + 1) k (by omega)
        have h4 : 0 ≤ sw3 a b i k ∧ sw3 a b i k ≤ (i + 1 + (k + 1) : Nat) := by
          unfold sw3; split <;> omega
        by_cases hg : swG a b i k
        · have h5 := ih (i - 1) (k - 1) (by omega)
          rw [sw_yes a b hg]; omega
        · rw [sw_no a b hg]; exact h4
end
end Go.Proofs.Ytkfmjnefbimecaa
