/- Packing a text by its runs, plainly. -/
import Derived.Test.YtpmklldochpnlaaDoorLet
import Derived.Test.YtpmklldochpnlaaDoorSkP

namespace Go.Proofs.YtpmklldochpnlaaDoor
open Go.RowKit
set_option linter.unusedVariables false
def pkRun (t : ByteArray) (i : Nat) : Nat → Nat → Nat
  | 0, k => k
  | f + 1, k => if b8 t k = b8 t i then pkRun t i f (k + 1) else k
/-- The end of the run that begins at i. -/
def pkE (t : ByteArray) (i : Nat) : Nat := pkRun t i (t.size - i) i
def PkAt (t : ByteArray) (i k : Nat) : Prop := i ≤ k ∧ k ≤ t.size ∧ pkRun t i (t.size - k) k = pkE t i
theorem PkAt.first {t : ByteArray} {i : Nat} (h : i ≤ t.size) : PkAt t i i := ⟨Nat.le_refl _, h, rfl⟩
theorem PkAt.step {t : ByteArray} {i k : Nat} (h : PkAt t i k) (hk : k < t.size) (e : b8 t k = b8 t i) : PkAt t i (k + 1) := by
  refine ⟨by have := h.1; omega, hk, ?_⟩
  rw [← h.2.2, show t.size - k = (t.size - (k + 1)) + 1 by omega, pkRun, if_pos e]
theorem PkAt.stop {t : ByteArray} {i k : Nat} (h : PkAt t i k) (hk : k < t.size) (e : b8 t k ≠ b8 t i) : pkE t i = k := by
  rw [← h.2.2, show t.size - k = (t.size - (k + 1)) + 1 by omega, pkRun, if_neg e]
theorem PkAt.fin {t : ByteArray} {i k : Nat} (h : PkAt t i k) (hk : k = t.size) : pkE t i = k := by
  rw [← h.2.2, hk, Nat.sub_self]; rfl
theorem pkRun_bd (t : ByteArray) (i : Nat) : ∀ f k, k ≤ pkRun t i f k ∧ pkRun t i f k ≤ k + f
  | 0, k => ⟨Nat.le_refl _, Nat.le_refl _⟩
  | f + 1, k => by
    rw [pkRun]
    split
    · have := pkRun_bd t i f (k + 1); omega
    · omega
theorem pkE_bd {t : ByteArray} {i : Nat} (h : i < t.size) : i + 1 ≤ pkE t i ∧ pkE t i ≤ t.size := by
  unfold pkE
  rw [show t.size - i = (t.size - (i + 1)) + 1 by omega, pkRun, if_pos rfl]
  have := pkRun_bd t i (t.size - (i + 1)) (i + 1); omega
def dec2 (n : Nat) : List UInt8 := if n < 10 then [UInt8.ofNat (48 + n)] else [UInt8.ofNat (48 + n / 10), UInt8.ofNat (48 + n % 10)]
theorem dec2_len (n : Nat) : (dec2 n).length ≤ 2 := by unfold dec2; split <;> simp
def pkPut (t : ByteArray) (i : Nat) : List UInt8 := (if 1 < pkE t i - i then dec2 (pkE t i - i) else []) ++ [b8 t i]
theorem pkPut_len (t : ByteArray) (i : Nat) : (pkPut t i).length ≤ 3 := by
  unfold pkPut
  split
  · have := dec2_len (pkE t i - i); simp; omega
  · simp
def pkF (t : ByteArray) : Nat → Nat → List UInt8 → List UInt8
  | 0, i, acc => acc
  | f + 1, i, acc => if i < t.size then pkF t f (pkE t i) (acc ++ pkPut t i) else acc
theorem pkF_fuel (t : ByteArray) : ∀ f i acc, t.size - i ≤ f → pkF t f i acc = pkF t (t.size - i) i acc := by
  intro f
  induction f using Nat.strongRecOn with
  | _ f ih =>
    intro i acc hf
    by_cases hi : i < t.size
    · obtain ⟨g, rfl⟩ : ∃ g, f = g + 1 := ⟨f - 1, by omega⟩
      have he := pkE_bd hi
      rw [show t.size - i = (t.size - i - 1) + 1 by omega, pkF, pkF, if_pos hi, if_pos hi, ih g (by omega) _ _ (by omega)]
      by_cases hg : t.size - i - 1 < g + 1
      · rw [ih (t.size - i - 1) hg _ _ (by omega)]
      · omega
    · rw [show t.size - i = 0 by omega]
      cases f with
      | zero => rfl
      | succ f =>
        show pkF t (f + 1) i acc = acc
        rw [pkF, if_neg hi]
def pkG (t : ByteArray) (i : Nat) (acc : List UInt8) : List UInt8 := pkF t (t.size - i) i acc
theorem pkG_step {t : ByteArray} {i : Nat} {acc : List UInt8} (hi : i < t.size) : pkG t i acc = pkG t (pkE t i) (acc ++ pkPut t i) := by
  have he := pkE_bd hi
  unfold pkG
  rw [show t.size - i = (t.size - i - 1) + 1 by omega, pkF, if_pos hi, pkF_fuel t _ _ _ (by omega)]
theorem pkG_end {t : ByteArray} {acc : List UInt8} : pkG t t.size acc = acc := by unfold pkG; rw [Nat.sub_self]; rfl
/-- The packed text. -/
def pkV (t : ByteArray) : ByteArray := ⟨(pkG t 0 []).toArray⟩
theorem ext_oneP {t : ByteArray} {i : Nat} (h : i < t.size) : t.extract i (i + 1) = ⟨#[b8 t i]⟩ := by
  apply str_inj
  rw [ByteArray.toList_eq, ByteArray.toList_eq]
  have h' : i < t.data.size := h
  have hd : (t.extract i (i + 1)).data.toList = [b8 t i] := by
    rw [ByteArray.data_extract, Array.toList_extract]
    apply List.ext_getElem
    · simp; omega
    · intro j h1 h2
      simp at h2
      subst h2
      simp [b8, h]
      rfl
  exact hd
end Go.Proofs.YtpmklldochpnlaaDoor
