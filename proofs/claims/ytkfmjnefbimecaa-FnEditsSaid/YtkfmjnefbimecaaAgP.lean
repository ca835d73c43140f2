/- Alignments, plainly: the table of gains; what stands for 'no way' may be any low number. -/
import Derived.Test.YtkfmjnefbimecaaMem

namespace Go.Proofs.Ytkfmjnefbimecaa
open Go.PlainAid
set_option linter.unusedVariables false
abbrev Tri := Int × Int × Int
section
variable (a b : ByteArray) (s d o m L : Int)
def agL (v : Tri) : Int := max v.2.1 (max v.1 v.2.2 - o) - m
def agR (v : Tri) : Int := max v.2.2 (max v.1 v.2.1 - o) - m
def agB (v : Tri) : Int := max v.1 (max v.2.1 v.2.2)
def agG (i k : Nat) : Int := if bt a i = bt b k then s else -d
def ag0 : Nat → Tri
  | 0 => (0, -L, -L)
  | k + 1 => (-L, -L, agR o m (ag0 k))
def agNext (prev : Nat → Tri) (i : Nat) : Nat → Tri
  | 0 => (-L, agL o m (prev 0), -L)
  | k + 1 => (agB (prev k) + agG a b s d i k, agL o m (prev (k + 1)), agR o m (agNext prev i k))
def ag : Nat → Nat → Tri
  | 0 => ag0 o m L
  | i + 1 => agNext a b s d o m L (ag i) i
theorem ag_00 : ag a b s d o m L 0 0 = (0, -L, -L) := rfl
theorem ag_0s (k : Nat) : ag a b s d o m L 0 (k + 1) = (-L, -L, agR o m (ag a b s d o m L 0 k)) := rfl
theorem ag_s0 (i : Nat) : ag a b s d o m L (i + 1) 0 = (-L, agL o m (ag a b s d o m L i 0), -L) := by cases i <;> rfl
theorem ag_ss (i k : Nat) : ag a b s d o m L (i + 1) (k + 1) = (agB (ag a b s d o m L i k) + agG a b s d i k, agL o m (ag a b s d o m L i (k + 1)), agR o m (ag a b s d o m L (i + 1) k)) := rfl
end
/-- Two numbers of two tables: the same, or low in both. -/
def AgR (L M : Int) (n : Nat) (x y : Int) : Prop := (x = y ∧ -2000 * (n : Int) ≤ x ∧ x ≤ 1000 * (n : Int)) ∨ (x ≤ -L + 1000 * n ∧ y ≤ -M + 1000 * n ∧ -L - 2000 * n ≤ x ∧ -M - 2000 * n ≤ y)
structure AgT (L M : Int) (n : Nat) (v v' : Tri) : Prop where
  p : AgR L M n v.1 v'.1
  a : AgR L M n v.2.1 v'.2.1
  o : AgR L M n v.2.2 v'.2.2
  best : agB v = agB v' ∧ -2000 * (n : Int) ≤ agB v
theorem AgR.mono {L M : Int} {n n' : Nat} {x y : Int} (h : AgR L M n x y) (hn : n ≤ n') : AgR L M n' x y := by
  unfold AgR at *; omega
theorem AgR.low {L M : Int} (n : Nat) : AgR L M n (-L) (-M) := by unfold AgR; omega
section
variable {L M o m : Int} {n : Nat} {v v' : Tri} (hL : 1000000000 ≤ L) (hM : 1000000000 ≤ M) (hn : n ≤ 100) (ho : 0 ≤ o ∧ o ≤ 1000) (hm : 0 ≤ m ∧ m ≤ 1000)
include hL hM hn ho hm
theorem agL_rel (h : AgT L M n v v') : AgR L M (n + 1) (agL o m v) (agL o m v') ∧ agL o m v = agL o m v' ∧ -2000 * ((n + 1 : Nat) : Int) ≤ agL o m v := by
  obtain ⟨x, y, z⟩ := v
  obtain ⟨x', y', z'⟩ := v'
  obtain ⟨h1, h2, h3, h4⟩ := h
  simp only [AgR, agL, agB] at *
  omega
theorem agR_rel (h : AgT L M n v v') : AgR L M (n + 1) (agR o m v) (agR o m v') ∧ agR o m v = agR o m v' ∧ -2000 * ((n + 1 : Nat) : Int) ≤ agR o m v := by
  obtain ⟨x, y, z⟩ := v
  obtain ⟨x', y', z'⟩ := v'
  obtain ⟨h1, h2, h3, h4⟩ := h
  simp only [AgR, agR, agB] at *
  omega
end
theorem agB_rel {L M g : Int} {n : Nat} {v v' : Tri} (hL : 1000000000 ≤ L) (hM : 1000000000 ≤ M) (hn : n ≤ 100) (hg : -1000 ≤ g ∧ g ≤ 1000) (h : AgT L M n v v') : AgR L M (n + 2) (agB v + g) (agB v' + g) := by
  obtain ⟨x, y, z⟩ := v
  obtain ⟨x', y', z'⟩ := v'
  obtain ⟨h1, h2, h3, h4⟩ := h
  simp only [AgR, agB] at *
  omega
theorem AgT.mk' {L M : Int} {n : Nat} {v v' : Tri} (hL : 1000000000 ≤ L) (hM : 1000000000 ≤ M) (hn : n ≤ 100) (h1 : AgR L M n v.1 v'.1) (h2 : AgR L M n v.2.1 v'.2.1) (h3 : AgR L M n v.2.2 v'.2.2)
    (h : (v.1 = v'.1 ∧ -2000 * (n : Int) ≤ v.1) ∨ (v.2.1 = v'.2.1 ∧ -2000 * (n : Int) ≤ v.2.1) ∨ (v.2.2 = v'.2.2 ∧ -2000 * (n : Int) ≤ v.2.2)) : AgT L M n v v' := by
  refine ⟨h1, h2, h3, ?_⟩
  obtain ⟨x, y, z⟩ := v
  obtain ⟨x', y', z'⟩ := v'
  simp only [AgR, agB] at *
  omega
theorem ag_rel (a b : ByteArray) {s d o m L M : Int} (hL : 1000000000 ≤ L) (hM : 1000000000 ≤ M) (hs : 0 ≤ s ∧ s ≤ 1000) (hd : 0 ≤ d ∧ d ≤ 1000) (ho : 0 ≤ o ∧ o ≤ 1000) (hm : 0 ≤ m ∧ m ≤ 1000) :
    ∀ i k : Nat, i + k ≤ 98 → AgT L M (i + k) (ag a b s d o m L i k) (ag a b s d o m M i k) := by
  intro i
  induction i with
  | zero =>
    intro k
    induction k with
    | zero =>
      intro _
      rw [ag_00, ag_00]
      exact AgT.mk' hL hM (by omega) (.inl ⟨rfl, by omega, by omega⟩) (AgR.low _) (AgR.low _) (.inl ⟨rfl, by omega⟩)
    | succ k ih =>
      intro hk
      have h := ih (by omega)
      have hr := agR_rel hL hM (by omega) ho hm h
      rw [ag_0s, ag_0s]
      exact AgT.mk' hL hM (by omega) (AgR.low _) (AgR.low _) (hr.1.mono (by omega)) (.inr (.inr ⟨hr.2.1, by have := hr.2.2; omega⟩))
  | succ i ih =>
    intro k
    induction k with
    | zero =>
      intro hk
      have hl := agL_rel hL hM (by omega) ho hm (ih 0 (by omega))
      rw [ag_s0, ag_s0]
      exact AgT.mk' hL hM (by omega) (AgR.low _) (hl.1.mono (by omega)) (AgR.low _) (.inr (.inl ⟨hl.2.1, by have h3 := hl.2.2; show _ ≤ agL o m (ag a b s d o m L i 0); omega⟩))
    | succ k ihk =>
      intro hk
      have hb := agB_rel (g := agG a b s d i k) hL hM (by omega) (by unfold agG; split <;> omega) (ih k (by omega))
      have hl := agL_rel hL hM (by omega) ho hm (ih (k + 1) (by omega))
      have hr := agR_rel hL hM (by omega) ho hm (ihk (by omega))
      rw [ag_ss, ag_ss]
      exact AgT.mk' hL hM (by omega) (hb.mono (by omega)) (hl.1.mono (by omega)) (hr.1.mono (by omega)) (.inr (.inl ⟨hl.2.1, by have h3 := hl.2.2; show _ ≤ agL o m (ag a b s d o m L i (k + 1)); omega⟩))
/-- Both tables end alike. -/
theorem ag_best (a b : ByteArray) {s d o m L M : Int} (hL : 1000000000 ≤ L) (hM : 1000000000 ≤ M) (hs : 0 ≤ s ∧ s ≤ 1000) (hd : 0 ≤ d ∧ d ≤ 1000) (ho : 0 ≤ o ∧ o ≤ 1000) (hm : 0 ≤ m ∧ m ≤ 1000) {i k : Nat} (h : i + k ≤ 98) :
    agB (ag a b s d o m L i k) = agB (ag a b s d o m M i k) := (ag_rel a b hL hM hs hd ho hm i k h).best.1
theorem AgR.bd {L M : Int} {n : Nat} {x y : Int} (h : AgR L M n x y) (hn : n ≤ 98) (hL : 1000000000 ≤ L ∧ L ≤ 2000000000000) : -3000000000000 ≤ x ∧ x ≤ 1000000 := by
  unfold AgR at h; omega
/-- No number of a table is great. -/
theorem ag_bd (a b : ByteArray) {s d o m L : Int} (hL : 1000000000 ≤ L ∧ L ≤ 2000000000000) (hs : 0 ≤ s ∧ s ≤ 1000) (hd : 0 ≤ d ∧ d ≤ 1000) (ho : 0 ≤ o ∧ o ≤ 1000) (hm : 0 ≤ m ∧ m ≤ 1000) {i k : Nat} (h : i + k ≤ 98) :
    (-3000000000000 ≤ (ag a b s d o m L i k).1 ∧ (ag a b s d o m L i k).1 ≤ 1000000) ∧ (-3000000000000 ≤ (ag a b s d o m L i k).2.1 ∧ (ag a b s d o m L i k).2.1 ≤ 1000000) ∧ (-3000000000000 ≤ (ag a b s d o m L i k).2.2 ∧ (ag a b s d o m L i k).2.2 ≤ 1000000) := by
  have := ag_rel a b hL.1 hL.1 hs hd ho hm i k h
  exact ⟨this.p.bd h hL, this.a.bd h hL, this.o.bd h hL⟩
end Go.Proofs.Ytkfmjnefbimecaa
