/- Unpacking a text, plainly. -/
import Derived.Test.YtpmklldochpnlaaDoorPkP

namespace Go.Proofs.YtpmklldochpnlaaDoor
open Go.RowKit
set_option linter.unusedVariables false
def isDg (c : UInt8) : Bool := decide (48 ≤ (c.toNat : Int) ∧ (c.toNat : Int) ≤ 57)
theorem isDg_bd {c : UInt8} (h : isDg c = true) : 48 ≤ (c.toNat : Int) ∧ (c.toNat : Int) ≤ 57 := of_decide_eq_true h
def upF (t : ByteArray) : Nat → Nat → List UInt8 → Nat → Option (List UInt8)
  | 0, i, out, n => some out
  | f + 1, i, out, n => if isDg (b8 t i) then (if 10 * n + ((b8 t i).toNat - 48) ≤ 48 then upF t f (i + 1) out (10 * n + ((b8 t i).toNat - 48)) else none) else upF t f (i + 1) (out ++ List.replicate (max n 1) (b8 t i)) 0
def up (t : ByteArray) : Option (List UInt8) := upF t t.size 0 [] 0
def UpAt (t : ByteArray) (i : Nat) (out : List UInt8) (n : Nat) : Prop := i ≤ t.size ∧ upF t (t.size - i) i out n = up t
theorem UpAt.first (t : ByteArray) : UpAt t 0 [] 0 := ⟨by omega, rfl⟩
section
variable {t : ByteArray} {i n : Nat} {out : List UInt8}
theorem UpAt.unf (h : UpAt t i out n) (hi : i < t.size) : up t = if isDg (b8 t i) then (if 10 * n + ((b8 t i).toNat - 48) ≤ 48 then upF t (t.size - (i + 1)) (i + 1) out (10 * n + ((b8 t i).toNat - 48)) else none) else upF t (t.size - (i + 1)) (i + 1) (out ++ List.replicate (max n 1) (b8 t i)) 0 := by
  rw [← h.2, show t.size - i = (t.size - (i + 1)) + 1 by omega, upF]
theorem UpAt.dig (h : UpAt t i out n) (hi : i < t.size) (hd : isDg (b8 t i) = true) (hn : 10 * n + ((b8 t i).toNat - 48) ≤ 48) : UpAt t (i + 1) out (10 * n + ((b8 t i).toNat - 48)) := ⟨hi, by rw [h.unf hi, if_pos hd, if_pos hn]⟩
theorem UpAt.over (h : UpAt t i out n) (hi : i < t.size) (hd : isDg (b8 t i) = true) (hn : ¬ 10 * n + ((b8 t i).toNat - 48) ≤ 48) : up t = none := by rw [h.unf hi, if_pos hd, if_neg hn]
theorem UpAt.put (h : UpAt t i out n) (hi : i < t.size) (hd : isDg (b8 t i) = false) : UpAt t (i + 1) (out ++ List.replicate (max n 1) (b8 t i)) 0 := ⟨hi, by rw [h.unf hi, hd]; rfl⟩
theorem UpAt.fin (h : UpAt t i out n) (hi : i = t.size) : up t = some out := by rw [← h.2, hi, Nat.sub_self]; rfl
theorem upF_mono : ∀ (f i : Nat) (out : List UInt8) (n : Nat) (L : List UInt8), upF t f i out n = some L → out.length ≤ L.length
  | 0, i, out, n, L, h => by simp only [upF, Option.some.injEq] at h; subst h; exact Nat.le_refl _
  | f + 1, i, out, n, L, h => by
    rw [upF] at h
    split at h
    · split at h
      · exact upF_mono f _ _ _ _ h
      · cases h
    · have := upF_mono f _ _ _ _ h
      rw [List.length_append] at this; omega
end
def upOk (t : ByteArray) : Bool := match up t with | some L => letB ⟨L.toArray⟩ && decide (pkV ⟨L.toArray⟩ = t) | none => false
def upV (t : ByteArray) : ByteArray := if upOk t then (match up t with | some L => ⟨L.toArray⟩ | none => ⟨#[]⟩) else ⟨#[]⟩
theorem upOk_none {t : ByteArray} (h : up t = none) : upOk t = false := by unfold upOk; rw [h]
theorem upOk_some {t : ByteArray} {L : List UInt8} (h : up t = some L) : upOk t = (letB ⟨L.toArray⟩ && decide (pkV ⟨L.toArray⟩ = t)) := by unfold upOk; rw [h]
theorem upV_no {t : ByteArray} (h : upOk t = false) : upV t = ⟨#[]⟩ := by unfold upV; rw [h]; rfl
theorem upV_some {t : ByteArray} {L : List UInt8} (h : up t = some L) (h2 : upOk t = true) : upV t = ⟨L.toArray⟩ := by unfold upV; rw [h2, h]; rfl
theorem size_arr (L : List UInt8) : (⟨L.toArray⟩ : ByteArray).size = L.length := by simp [ByteArray.size]
theorem letB_le {t : ByteArray} (h : letB t = true) : t.size ≤ 48 := by
  have h : (letsB t && txtB t) = true := h
  rw [Bool.and_eq_true] at h
  exact txtB_true h.2
/-- More than 48 letters already: no good text. -/
theorem UpAt.long {t : ByteArray} {i n : Nat} {out : List UInt8} (h : UpAt t i out n) (hl : 48 < out.length) : upOk t = false := by
  cases hu : up t with
  | none => exact upOk_none hu
  | some L =>
    have := upF_mono _ _ _ _ _ (h.2.trans hu)
    rw [upOk_some hu]
    cases hb : letB ⟨L.toArray⟩ with
    | false => rfl
    | true => have := letB_le hb; rw [size_arr] at this; omega
theorem pkPut_le {t : ByteArray} {i : Nat} (h : i < t.size) : (pkPut t i).length ≤ pkE t i - i := by
  have := pkE_bd h
  unfold pkPut
  split
  · rename_i h1
    unfold dec2
    split <;> simp <;> omega
  · simp; omega
theorem pkG_len (t : ByteArray) : ∀ (m i : Nat) (acc : List UInt8), t.size - i ≤ m → i ≤ t.size → (pkG t i acc).length ≤ acc.length + (t.size - i) := by
  intro m
  induction m with
  | zero =>
    intro i acc h1 h2
    obtain rfl : i = t.size := by omega
    rw [pkG_end]; omega
  | succ m ih =>
    intro i acc h1 h2
    by_cases hi : i < t.size
    · have he := pkE_bd hi
      have hp := pkPut_le hi
      rw [pkG_step hi]
      have := ih (pkE t i) (acc ++ pkPut t i) (by omega) he.2
      rw [List.length_append] at this
      omega
    · obtain rfl : i = t.size := by omega
      rw [pkG_end]; omega
theorem pkV_le (t : ByteArray) : (pkV t).size ≤ t.size := by
  unfold pkV
  rw [size_arr]
  have := pkG_len t t.size 0 [] (by omega) (by omega)
  simpa using this
/-- A long text is no packed one. -/
theorem upOk_long {t : ByteArray} (h : 48 < t.size) : upOk t = false := by
  cases hu : up t with
  | none => exact upOk_none hu
  | some L =>
    rw [upOk_some hu]
    cases hb : letB ⟨L.toArray⟩ with
    | false => rfl
    | true =>
      rw [Bool.true_and]
      refine decide_eq_false (fun e => ?_)
      have h1 := letB_le hb
      have h2 := pkV_le ⟨L.toArray⟩
      rw [e] at h2
      omega
end Go.Proofs.YtpmklldochpnlaaDoor
