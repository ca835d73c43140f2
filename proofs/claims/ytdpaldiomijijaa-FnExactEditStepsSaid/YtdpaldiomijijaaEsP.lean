/- Steps of edits, plainly: the way back through the table of costs. -/
import Derived.Test.YtdpaldiomijijaaEdP
import Derived.Test.YtdpaldiomijijaaApP
namespace Go.Proofs.Ytdpaldiomijijaa
open Go.PlainAid
set_option linter.unusedVariables false
section
variable (a b : ByteArray)
abbrev e1 (i k : Nat) : Int := ed a b 1 1 1 i k
def esCost (i k : Nat) : Int := if bt a i = bt b k then 0 else 1
def esMark (i k : Nat) : UInt8 := if bt a i = bt b k then 61 else 33
/-- The marks that the way back from (i, k) tells, the last first. -/
def esW : Nat → Nat → Nat → List UInt8
  | 0, _, _ => []
  | f + 1, i, k => if i = 0 ∧ k = 0 then [] else if 0 < i ∧ 0 < k ∧ e1 a b (i - 1) (k - 1) + esCost a b (i - 1) (k - 1) = e1 a b i k then esMark a b (i - 1) (k - 1) :: esW f (i - 1) (k - 1)
      else if 0 < i ∧ e1 a b (i - 1) k + 1 = e1 a b i k then 45 :: esW f (i - 1) k else 43 :: esW f i (k - 1)
def EsAt (R done : List UInt8) (i k : Nat) : Prop := ∃ f, i + k ≤ f ∧ done ++ esW a b f i k = R
def esAll : List UInt8 := esW a b (a.size + b.size) a.size b.size
theorem EsAt.start : EsAt a b (esAll a b) [] a.size b.size := ⟨_, Nat.le_refl _, rfl⟩
theorem e1_col0 (i : Nat) : e1 a b i 0 + 1 = e1 a b (i + 1) 0 := by
  show ed a b 1 1 1 i 0 + 1 = ed a b 1 1 1 (i + 1) 0
  rw [ed_col0, ed_col0]; omega
theorem e1_bd (i k : Nat) : 0 ≤ e1 a b i k ∧ e1 a b i k ≤ 1000 * (i + k : Nat) := ed_bd (p := 1) (o := 1) (c := 1) a b (by omega) (by omega) (by omega) i k
variable {a b} {R done : List UInt8} {i k : Nat}
theorem EsAt.done_ (h : EsAt a b R done 0 0) : done = R := by
  obtain ⟨f, hf, rfl⟩ := h
  cases f with
  | zero => simp [esW]
  | succ f => rw [esW, if_pos ⟨rfl, rfl⟩]; simp
theorem EsAt.both (h : EsAt a b R done (i + 1) (k + 1)) (he : e1 a b i k + esCost a b i k = e1 a b (i + 1) (k + 1)) : EsAt a b R (done ++ [esMark a b i k]) i k := by
  obtain ⟨f, hf, rfl⟩ := h
  obtain ⟨g, rfl⟩ : ∃ g, f = g + 1 := ⟨f - 1, by omega⟩
  refine ⟨g, by omega, ?_⟩
  rw [esW, if_neg (by omega), if_pos ⟨by omega, by omega, by simpa using he⟩]
  simp
theorem EsAt.up (h : EsAt a b R done (i + 1) (k + 1)) (he : ¬ e1 a b i k + esCost a b i k = e1 a b (i + 1) (k + 1)) (hc : e1 a b i (k + 1) + 1 = e1 a b (i + 1) (k + 1)) : EsAt a b R (done ++ [45]) i (k + 1) := by
  obtain ⟨f, hf, rfl⟩ := h
  obtain ⟨g, rfl⟩ : ∃ g, f = g + 1 := ⟨f - 1, by omega⟩
  refine ⟨g, by omega, ?_⟩
  rw [esW, if_neg (by omega), if_neg (fun h => he (by simpa using h.2.2)), if_pos ⟨by omega, by simpa using hc⟩]
  simp
theorem EsAt.up0 (h : EsAt a b R done (i + 1) 0) : EsAt a b R (done ++ [45]) i 0 := by
  obtain ⟨f, hf, rfl⟩ := h
  obtain ⟨g, rfl⟩ : ∃ g, f = g + 1 := ⟨f - 1, by omega⟩
  refine ⟨g, by omega, ?_⟩
  rw [esW, if_neg (by omega), if_neg (by omega), if_pos ⟨by omega, by simpa using e1_col0 a b i⟩]
  simp
theorem EsAt.back (h : EsAt a b R done (i + 1) (k + 1)) (he : ¬ e1 a b i k + esCost a b i k = e1 a b (i + 1) (k + 1)) (hc : ¬ e1 a b i (k + 1) + 1 = e1 a b (i + 1) (k + 1)) : EsAt a b R (done ++ [43]) (i + 1) k := by
  obtain ⟨f, hf, rfl⟩ := h
  obtain ⟨g, rfl⟩ : ∃ g, f = g + 1 := ⟨f - 1, by omega⟩
  refine ⟨g, by omega, ?_⟩
  rw [esW, if_neg (by omega), if_neg (fun h => he (by simpa using h.2.2)), if_neg (fun h => hc (by simpa using h.2))]
  simp
theorem EsAt.back0 (h : EsAt a b R done 0 (k + 1)) : EsAt a b R (done ++ [43]) 0 k := by
  obtain ⟨f, hf, rfl⟩ := h
  obtain ⟨g, rfl⟩ : ∃ g, f = g + 1 := ⟨f - 1, by omega⟩
  refine ⟨g, by omega, ?_⟩
  rw [esW, if_neg (by omega), if_neg (by omega), if_neg (by omega)]
  simp
end
end Go.Proofs.Ytdpaldiomijijaa
