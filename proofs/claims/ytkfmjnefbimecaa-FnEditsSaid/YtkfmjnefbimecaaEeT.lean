/- Alignments at the law's gains, plainly (FnEdits). -/
import Derived.Test.YtkfmjnefbimecaaAgP
import Derived.Test.YtkfmjnefbimecaaEeP

namespace Go.Proofs.Ytkfmjnefbimecaa
open Go.PlainAid
set_option linter.unusedVariables false
def swpT (v : Tri) : Tri := (v.1, v.2.2, v.2.1)
section
variable (a b : ByteArray)
theorem agB_swp (v : Tri) : agB (swpT v) = agB v := by show max v.1 (max v.2.2 v.2.1) = max v.1 (max v.2.1 v.2.2); omega
theorem agL_swp (o m : Int) (v : Tri) : agL o m (swpT v) = agR o m v := rfl
theorem agR_swp (o m : Int) (v : Tri) : agR o m (swpT v) = agL o m v := rfl
theorem ag_swp (s d o m L : Int) : ∀ n i k : Nat, i + k ≤ n → ag b a s d o m L k i = swpT (ag a b s d o m L i k) := by
  intro n
  induction n with
  | zero =>
    intro i k h
    obtain rfl : i = 0 := by omega
    obtain rfl : k = 0 := by omega
    rfl
  | succ n ih =>
    intro i k h
    rcases i with _ | i
    · rcases k with _ | k
      · rfl
      · rw [ag_s0, ag_0s, ih 0 k (by omega), agL_swp]; rfl
    · rcases k with _ | k
      · rw [ag_0s, ag_s0, ih i 0 (by omega), agR_swp]; rfl
      · rw [ag_ss, ag_ss, ih i k (by omega), ih i (k + 1) (by omega), ih (i + 1) k (by omega), agB_swp, agL_swp, agR_swp]
        have hg : agG b a s d k i = agG a b s d i k := by
          unfold agG
          by_cases h : bt a i = bt b k
          · rw [if_pos h, if_pos h.symm]
          · rw [if_neg h, if_neg (fun e => h e.symm)]
        rw [hg]; rfl
theorem ag_turn (s d o m L : Int) (i k : Nat) : agB (ag b a s d o m L k i) = agB (ag a b s d o m L i k) := by
  rw [ag_swp a b s d o m L _ i k (Nat.le_refl _), agB_swp]
/-- With no gain for equal bytes and no cost to open, the gain is the edits' cost turned. -/
theorem ag_edits (L : Int) (hL : 1000000 ≤ L) : ∀ n i k : Nat, i + k ≤ n → n ≤ 1000 → agB (ag a b 0 1 0 1 L i k) = - eu a b i k := by
  intro n
  induction n with
  | zero =>
    intro i k h _
    obtain rfl : i = 0 := by omega
    obtain rfl : k = 0 := by omega
    rw [ag_00, eu_row0]; unfold agB; show max (0 : Int) (max (-L) (-L)) = _; omega
  | succ n ih =>
    intro i k h hn
    rcases i with _ | i
    · rcases k with _ | k
      · rw [ag_00, eu_row0]; unfold agB; show max (0 : Int) (max (-L) (-L)) = _; omega
      · have h1 := ih 0 k (by omega) (by omega)
        rw [eu_row0] at h1 ⊢
        rw [ag_0s]
        unfold agB at h1 ⊢
        unfold agR
        show max (-L) (max (-L) (max (ag a b 0 1 0 1 L 0 k).2.2 (max (ag a b 0 1 0 1 L 0 k).1 (ag a b 0 1 0 1 L 0 k).2.1 - 0) - 1)) = _
        omega
    · rcases k with _ | k
      · have h1 := ih i 0 (by omega) (by omega)
        rw [eu_col0] at h1 ⊢
        rw [ag_s0]
        unfold agB at h1 ⊢
        unfold agL
        show max (-L) (max (max (ag a b 0 1 0 1 L i 0).2.1 (max (ag a b 0 1 0 1 L i 0).1 (ag a b 0 1 0 1 L i 0).2.2 - 0) - 1) (-L)) = _
        omega
      · have h1 := ih i k (by omega) (by omega)
        have h2 := ih i (k + 1) (by omega) (by omega)
        have h3 := ih (i + 1) k (by omega) (by omega)
        rw [ag_ss, eu_step]
        have e2 : agL 0 1 (ag a b 0 1 0 1 L i (k + 1)) = agB (ag a b 0 1 0 1 L i (k + 1)) - 1 := by unfold agL agB; omega
        have e3 : agR 0 1 (ag a b 0 1 0 1 L (i + 1) k) = agB (ag a b 0 1 0 1 L (i + 1) k) - 1 := by unfold agR agB; omega
        rw [e2, e3, h1, h2, h3]
        unfold agB agG
        show max (-eu a b i k + if bt a i = bt b k then (0 : Int) else -1) (max (-eu a b i (k + 1) - 1) (-eu a b (i + 1) k - 1)) = _
        split <;> omega
/-- No alignment gains more than three for each byte. -/
theorem ag_up (L : Int) (hL : 0 ≤ L) : ∀ n i k : Nat, i + k ≤ n → (ag a b 3 1 2 1 L i k).1 ≤ 3 * (i : Int) ∧ (ag a b 3 1 2 1 L i k).2.1 ≤ 3 * (i : Int) ∧ (ag a b 3 1 2 1 L i k).2.2 ≤ 3 * (i : Int) := by
  intro n
  induction n with
  | zero =>
    intro i k h
    obtain rfl : i = 0 := by omega
    obtain rfl : k = 0 := by omega
    rw [ag_00]; show (0 : Int) ≤ _ ∧ -L ≤ _ ∧ -L ≤ _; omega
  | succ n ih =>
    intro i k h
    rcases i with _ | i
    · rcases k with _ | k
      · rw [ag_00]; show (0 : Int) ≤ _ ∧ -L ≤ _ ∧ -L ≤ _; omega
      · have h1 := ih 0 k (by omega)
        rw [ag_0s]; unfold agR
        show -L ≤ _ ∧ -L ≤ _ ∧ max (ag a b 3 1 2 1 L 0 k).2.2 (max (ag a b 3 1 2 1 L 0 k).1 (ag a b 3 1 2 1 L 0 k).2.1 - 2) - 1 ≤ _
        omega
    · rcases k with _ | k
      · have h1 := ih i 0 (by omega)
        rw [ag_s0]; unfold agL
        show -L ≤ _ ∧ max (ag a b 3 1 2 1 L i 0).2.1 (max (ag a b 3 1 2 1 L i 0).1 (ag a b 3 1 2 1 L i 0).2.2 - 2) - 1 ≤ _ ∧ -L ≤ _
        omega
      · have h1 := ih i k (by omega)
        have h2 := ih i (k + 1) (by omega)
        have h3 := ih (i + 1) k (by omega)
        rw [ag_ss]; unfold agL agR agB agG
        show max (ag a b 3 1 2 1 L i k).1 (max (ag a b 3 1 2 1 L i k).2.1 (ag a b 3 1 2 1 L i k).2.2) + (if bt a i = bt b k then (3 : Int) else -1) ≤ _ ∧ max (ag a b 3 1 2 1 L i (k + 1)).2.1 (max (ag a b 3 1 2 1 L i (k + 1)).1 (ag a b 3 1 2 1 L i (k + 1)).2.2 - 2) - 1 ≤ _ ∧ max (ag a b 3 1 2 1 L (i + 1) k).2.2 (max (ag a b 3 1 2 1 L (i + 1) k).1 (ag a b 3 1 2 1 L (i + 1) k).2.1 - 2) - 1 ≤ _
        split <;> omega
theorem ag_low : ∀ (L : Int) (n : Nat), 3 * (n : Int) ≤ agB (ag a a 3 1 2 1 L n n)
  | L, 0 => by rw [ag_00]; unfold agB; show _ ≤ max (0 : Int) (max (-L) (-L)); omega
  | L, n + 1 => by
    have h := ag_low L n
    rw [ag_ss]
    have hg : agG a a 3 1 n n = 3 := by unfold agG; rw [if_pos rfl]
    rw [hg]
    generalize agB (ag a a 3 1 2 1 L n n) = q at h ⊢
    unfold agB
    show _ ≤ max (q + 3) (max _ _)
    omega
theorem ag_self (L : Int) (hL : 0 ≤ L) (n : Nat) : agB (ag a a 3 1 2 1 L n n) = 3 * (n : Int) := by
  have h1 := ag_low a L n
  have h2 := ag_up a a L hL _ n n (Nat.le_refl _)
  unfold agB at h1 ⊢
  omega
end
end Go.Proofs.Ytkfmjnefbimecaa
