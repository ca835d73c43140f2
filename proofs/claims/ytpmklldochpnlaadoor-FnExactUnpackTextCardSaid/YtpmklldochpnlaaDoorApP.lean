/- Steps applied, plainly. -/
import Derived.Test.YtpmklldochpnlaaDoorMem
namespace Go.Proofs.YtpmklldochpnlaaDoor
open Go.PlainAid
set_option linter.unusedVariables false
/-- Byte k of a string; 0 behind its end. -/
def b8 (s : ByteArray) (k : Nat) : UInt8 := if h : k < s.size then s[k]'h else 0
theorem get_b8 (s : ByteArray) : ∀ (n : Nat) (h : n < s.size), s[n]'h = b8 s n := fun n h => by unfold b8; rw [dif_pos h]
def apStep (a b : ByteArray) (c : UInt8) (i k : Nat) : Option (Nat × Nat) :=
  if c = 61 then (if i = a.size ∨ k = b.size ∨ b8 a i ≠ b8 b k then none else some (i + 1, k + 1))
  else if c = 33 then (if i = a.size ∨ k = b.size then none else some (i + 1, k + 1))
  else if c = 45 then (if i = a.size then none else some (i + 1, k))
  else if c = 43 then (if k = b.size then none else some (i, k + 1))
  else none
def apRun (a b s : ByteArray) : Nat → Nat → Nat → Nat → Bool
  | 0, _, i, k => decide (a.size ≤ i ∧ b.size ≤ k)
  | f + 1, t, i, k => match apStep a b (b8 s t) i k with
    | none => false
    | some p => apRun a b s f (t + 1) p.1 p.2
theorem apRun_no {a b s : ByteArray} {n t i k : Nat} (ht : t < n) (h : apStep a b (b8 s t) i k = none) : apRun a b s (n - t) t i k = false := by
  obtain ⟨f, hf⟩ : ∃ f, n - t = f + 1 := ⟨n - t - 1, by omega⟩
  rw [hf, apRun, h]
theorem apRun_yes {a b s : ByteArray} {n t i k i' k' : Nat} (ht : t < n) (h : apStep a b (b8 s t) i k = some (i', k')) : apRun a b s (n - t) t i k = apRun a b s (n - (t + 1)) (t + 1) i' k' := by
  obtain ⟨f, hf⟩ : ∃ f, n - t = f + 1 := ⟨n - t - 1, by omega⟩
  rw [hf, apRun, h, show n - (t + 1) = f from by omega]
end Go.Proofs.YtpmklldochpnlaaDoor
