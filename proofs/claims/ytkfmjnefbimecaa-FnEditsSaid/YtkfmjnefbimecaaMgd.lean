/- Several texts in one: Common texts, plainly. Least edits with changes of cost two, and the longest common text, plainly (FnEdits). -/
import Derived.Test.YtkfmjnefbimecaaEdP
import Derived.Test.YtkfmjnefbimecaaMgb

namespace Go.Proofs.Ytkfmjnefbimecaa
open Go.PlainAid
set_option linter.unusedVariables false
section
variable (a b : ByteArray)
def cmNext (prev : Nat → Int) (i : Nat) : Nat → Int
  | 0 => 0
  | k + 1 => if bt a i = bt b k then prev k + 1 else max (prev (k + 1)) (cmNext prev i k)
def cm : Nat → Nat → Int
  | 0, _ => 0
  | i + 1, k => cmNext a b (cm i) i k
theorem cm_row0 (k : Nat) : cm a b 0 k = 0 := rfl
theorem cm_col0 (i : Nat) : cm a b i 0 = 0 := by cases i <;> simp [cm, cmNext]
theorem cm_eq {i k : Nat} (h : bt a i = bt b k) : cm a b (i + 1) (k + 1) = cm a b i k + 1 := by
  show cmNext a b (cm a b i) i (k + 1) = _
  rw [cmNext, if_pos h]
theorem cm_ne {i k : Nat} (h : ¬ bt a i = bt b k) : cm a b (i + 1) (k + 1) = max (cm a b i (k + 1)) (cm a b (i + 1) k) := by
  show cmNext a b (cm a b i) i (k + 1) = _
  rw [cmNext, if_neg h]
  rfl
theorem cm_bd : ∀ i k, 0 ≤ cm a b i k ∧ cm a b i k ≤ (i + k : Nat) := by
  intro i
  induction i with
  | zero => intro k; rw [cm_row0]; omega
  | succ i ih =>
    intro k
    induction k with
    | zero => rw [cm_col0]; omega
    | succ k ihk =>
      have h1 := ih k
      have h2 := ih (k + 1)
      by_cases h : bt a i = bt b k
      · rw [cm_eq a b h]; omega
      · rw [cm_ne a b h]; omega
/-- The bytes that the way back from (i, k) tells, the last first. -/
def cmW : Nat → Nat → Nat → List UInt8
  | 0, _, _ => []
  | f + 1, i, k => if i = 0 ∨ k = 0 then [] else if bt a (i - 1) = bt b (k - 1) then b8 a (i - 1) :: cmW f (i - 1) (k - 1)
      else if cm a b (i - 1) k = cm a b i k then cmW f (i - 1) k else cmW f i (k - 1)
/-- Where the way back stands: 'done' is told, (i, k) is left. -/
def CmAt (R done : List UInt8) (i k : Nat) : Prop := ∃ f, i + k ≤ f ∧ done ++ cmW a b f i k = R
def cmAll : List UInt8 := cmW a b (a.size + b.size) a.size b.size
theorem CmAt.start : CmAt a b (cmAll a b) [] a.size b.size := ⟨_, Nat.le_refl _, rfl⟩
variable {a b} {R done : List UInt8} {i k : Nat}
theorem CmAt.done_ (h : CmAt a b R done i k) (h0 : i = 0 ∨ k = 0) : done = R := by
  obtain ⟨f, hf, rfl⟩ := h
  cases f with
  | zero => simp [cmW]
  | succ f => rw [cmW, if_pos h0]; simp
theorem CmAt.both (h : CmAt a b R done (i + 1) (k + 1)) (he : bt a i = bt b k) : CmAt a b R (done ++ [b8 a i]) i k := by
  obtain ⟨f, hf, rfl⟩ := h
  obtain ⟨g, rfl⟩ : ∃ g, f = g + 1 := ⟨f - 1, by omega⟩
  refine ⟨g, by omega, ?_⟩
  rw [cmW, if_neg (by omega), if_pos (by simpa using he)]
  simp
theorem CmAt.up (h : CmAt a b R done (i + 1) (k + 1)) (he : ¬ bt a i = bt b k) (hc : cm a b i (k + 1) = cm a b (i + 1) (k + 1)) : CmAt a b R done i (k + 1) := by
  obtain ⟨f, hf, rfl⟩ := h
  obtain ⟨g, rfl⟩ : ∃ g, f = g + 1 := ⟨f - 1, by omega⟩
  refine ⟨g, by omega, ?_⟩
  rw [cmW, if_neg (by omega), if_neg (by simpa using he), if_pos (by simpa using hc)]
  rfl
theorem CmAt.back (h : CmAt a b R done (i + 1) (k + 1)) (he : ¬ bt a i = bt b k) (hc : ¬ cm a b i (k + 1) = cm a b (i + 1) (k + 1)) : CmAt a b R done (i + 1) k := by
  obtain ⟨f, hf, rfl⟩ := h
  obtain ⟨g, rfl⟩ : ∃ g, f = g + 1 := ⟨f - 1, by omega⟩
  refine ⟨g, by omega, ?_⟩
  rw [cmW, if_neg (by omega), if_neg (by simpa using he), if_neg (by simpa using hc)]
  rfl
theorem cmW_len : ∀ (f i k : Nat), (cmW a b f i k).length ≤ i := by
  intro f
  induction f with
  | zero => intro i k; simp [cmW]
  | succ f ih =>
    intro i k
    rw [cmW]
    split
    · simp
    · split
      · have := ih (i - 1) (k - 1); simp; omega
      · split
        · have := ih (i - 1) k; omega
        · have := ih i (k - 1); omega
theorem CmAt.len (h : CmAt a b R done i k) : R.length ≤ done.length + i := by
  obtain ⟨f, hf, rfl⟩ := h
  have := cmW_len (a := a) (b := b) f i k
  simp; omega
end
/-- Lists of bytes as values, and as a string. -/
def bvs (l : List UInt8) : List Value := l.map fun c => .int .u8 (c.toNat : Int)
theorem bvs_length (l : List UInt8) : (bvs l).length = l.length := by simp [bvs]
theorem bvs_snoc (l : List UInt8) (c : UInt8) : bvs (l ++ [c]) = bvs l ++ [.int .u8 (c.toNat : Int)] := by simp [bvs]
theorem bvs_get {l : List UInt8} {i : Nat} {c : UInt8} (h : l[i]? = some c) : (bvs l)[i]? = some (.int .u8 (c.toNat : Int)) := by simp [bvs, h]
end Go.Proofs.Ytkfmjnefbimecaa


namespace Go.Proofs.Ytkfmjnefbimecaa
open Go.PlainAid
set_option linter.unusedVariables false
section
variable (a b : ByteArray)
/-- From a place to the next, the longest common text grows by at most one. -/
theorem cm_grow : ∀ n i k : Nat, i + k ≤ n → (cm a b i k ≤ cm a b i (k + 1) ∧ cm a b i (k + 1) ≤ cm a b i k + 1) ∧ (cm a b i k ≤ cm a b (i + 1) k ∧ cm a b (i + 1) k ≤ cm a b i k + 1) := by
  intro n
  induction n with
  | zero =>
    intro i k h
    obtain rfl : i = 0 := by omega
    obtain rfl : k = 0 := by omega
    rw [cm_row0, cm_row0, cm_col0]; omega
  | succ n ih =>
    intro i k h
    constructor
    · rcases i with _ | i
      · rw [cm_row0, cm_row0]; omega
      · have h1 := ih i k (by omega)
        by_cases he : bt a i = bt b k
        · rw [cm_eq a b he]; omega
        · rw [cm_ne a b he]
          omega
    · rcases k with _ | k
      · rw [cm_col0, cm_col0]; omega
      · have h1 := ih i k (by omega)
        by_cases he : bt a i = bt b k
        · rw [cm_eq a b he]; omega
        · rw [cm_ne a b he]
          omega
theorem ed2_cm : ∀ n i k : Nat, i + k ≤ n → ed a b 1 1 2 i k + 2 * cm a b i k = (i : Int) + k := by
  intro n
  induction n with
  | zero =>
    intro i k h
    obtain rfl : i = 0 := by omega
    obtain rfl : k = 0 := by omega
    rw [cm_row0, ed_row0]; omega
  | succ n ih =>
    intro i k h
    rcases i with _ | i
    · rw [cm_row0, ed_row0]; omega
    · rcases k with _ | k
      · rw [cm_col0, ed_col0]; omega
      · have h1 := ih i k (by omega)
        have h2 := ih i (k + 1) (by omega)
        have h3 := ih (i + 1) k (by omega)
        have g1 := cm_grow a b _ i k (Nat.le_refl _)
        have g2 := cm_grow a b _ i (k + 1) (Nat.le_refl _)
        have g3 := cm_grow a b _ (i + 1) k (Nat.le_refl _)
        have hs := ed_step a b 1 1 2 i k
        by_cases he : bt a i = bt b k
        · rw [if_pos he] at hs
          have hc := cm_eq a b he
          omega
        · rw [if_neg he] at hs
          have hc := cm_ne a b he
          omega
end
end Go.Proofs.Ytkfmjnefbimecaa
