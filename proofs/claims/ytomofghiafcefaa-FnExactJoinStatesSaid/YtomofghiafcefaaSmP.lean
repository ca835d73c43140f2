/- When two floats are the same, plainly. -/
import Derived.Test.YtomofghiafcefaaFl

namespace Go.Proofs.Ytomofghiafcefaa
open Go.RowKit Ieee
set_option linter.unusedVariables false

def smB (x y : F32) : Bool := if isN .f32 x.b || isN .f32 y.b then isN .f32 x.b && isN .f32 y.b else decide (x.b = y.b)
def smL : List F32 → List F32 → Bool
  | [], [] => true
  | x :: xs, y :: ys => smB x y && smL xs ys
  | _, _ => false
theorem smB_nan {x y : F32} (h : isN .f32 x.b = true) : smB x y = isN .f32 y.b := by simp [smB, h]
theorem smB_nan' {x y : F32} (h : isN .f32 x.b = false) (h' : isN .f32 y.b = true) : smB x y = false := by simp [smB, h, h']
theorem smB_num {x y : F32} (h : isN .f32 x.b = false) (h' : isN .f32 y.b = false) : smB x y = decide (x.b = y.b) := by simp [smB, h, h']
theorem smB_self (x : F32) : smB x x = true := by
  cases h : isN .f32 x.b with
  | true => rw [smB_nan h, h]
  | false => rw [smB_num h h]; simp
theorem smL_self (xs : List F32) : smL xs xs = true := by
  induction xs with
  | nil => rfl
  | cons x xs ih => simp [smL, smB_self, ih]
theorem smL_len {xs ys : List F32} (h : smL xs ys = true) : xs.length = ys.length := by
  induction xs generalizing ys with
  | nil => cases ys with
    | nil => rfl
    | cons y ys => simp [smL] at h
  | cons x xs ih => cases ys with
    | nil => simp [smL] at h
    | cons y ys => simp [smL] at h; simp [ih h.2]
theorem smL_snoc {xs ys : List F32} {x y : F32} (hl : xs.length = ys.length) : smL (xs ++ [x]) (ys ++ [y]) = (smL xs ys && smB x y) := by
  induction xs generalizing ys with
  | nil => cases ys with
    | nil => simp [smL]
    | cons y ys => simp at hl
  | cons a xs ih => cases ys with
    | nil => simp at hl
    | cons b ys => simp only [List.cons_append, smL]; rw [ih (by simpa using hl), Bool.and_assoc]
theorem smL_no {xs ys : List F32} {k : Nat} {x y : F32} (hx : xs[k]? = some x) (hy : ys[k]? = some y) (h : smB x y = false) : smL xs ys = false := by
  induction xs generalizing ys k with
  | nil => simp at hx
  | cons a xs ih => cases ys with
    | nil => simp at hy
    | cons b ys =>
      cases k with
      | zero => simp at hx hy; subst hx hy; simp [smL, h]
      | succ k => simp at hx hy; simp [smL, ih hx hy]
theorem smL_take {xs ys : List F32} {k : Nat} {x y : F32} (hx : xs[k]? = some x) (hy : ys[k]? = some y) (h : smL (xs.take k) (ys.take k) = true) (hs : smB x y = true) : smL (xs.take (k + 1)) (ys.take (k + 1)) = true := by
  obtain ⟨h1, rfl⟩ := List.getElem?_eq_some_iff.1 hx
  obtain ⟨h2, rfl⟩ := List.getElem?_eq_some_iff.1 hy
  rw [List.take_succ_eq_append_getElem h1, List.take_succ_eq_append_getElem h2, smL_snoc (by simp; omega), h, hs]; rfl

theorem sg1 : Ieee.single.signWeight = 2147483648 := by decide
theorem sg2 : Ieee.single.binade = 8388608 := by decide
theorem sg3 : Ieee.single.infRung = 2139095040 := by decide
theorem sg4 : Ieee.single.leastPlace = -149 := by decide
theorem single_inv {b : Nat} {s : Bool} {m : Nat} {e : Int} (h : Ieee.single.read b = .number s m e) :
    s = (b / 2147483648 % 2 == 1) ∧ ((m = b % 2147483648 ∧ e = -149 ∧ m < 8388608) ∨ (m = 8388608 + b % 2147483648 % 8388608 ∧ e = -149 + ((b % 2147483648 / 8388608 - 1 : Nat) : Int) ∧ 8388608 ≤ b % 2147483648)) := by
  unfold Format.read at h
  simp only [sg1, sg2, sg3, sg4] at h
  split at h
  · injection h with h1 h2 h3
    exact ⟨h1.symm, .inl ⟨h2.symm, h3.symm, by omega⟩⟩
  · split at h
    · injection h with h1 h2 h3
      exact ⟨h1.symm, .inr ⟨h2.symm, h3.symm, by omega⟩⟩
    · split at h <;> cases h
theorem single_inf {b : Nat} {s : Bool} (h : Ieee.single.read b = .infinity s) : s = (b / 2147483648 % 2 == 1) ∧ b % 2147483648 = 2139095040 := by
  unfold Format.read at h
  simp only [sg1, sg2, sg3, sg4] at h
  split at h
  · cases h
  · split at h
    · cases h
    · split at h
      · injection h with h1
        exact ⟨h1.symm, by assumption⟩
      · cases h
def sgn (b : Nat) : Bool := b / 2147483648 % 2 == 1
theorem sgn_inj {a b : Nat} (ha : a < 4294967296) (hb : b < 4294967296) (h : sgn a = sgn b) (hr : a % 2147483648 = b % 2147483648) : a = b := by
  unfold sgn at h
  have h1 : a / 2147483648 % 2 = 1 ↔ b / 2147483648 % 2 = 1 := by
    constructor <;> intro q
    · simpa [q] using h.symm
    · simpa [q] using h
  omega
theorem cmp_int_eq {a b : Int} (h : compare a b = .eq) : a = b := by
  simp only [compare, compareOfLessAndEq] at h
  split at h
  · cases h
  · split at h
    · assumption
    · cases h
theorem cmp_nat_eq {a b : Nat} (h : compare a b = .eq) : a = b := by
  simp only [compare, compareOfLessAndEq] at h
  split at h
  · cases h
  · split at h
    · assumption
    · cases h
theorem signed_inj {s : Bool} {m n k j : Nat} (h : Ieee.signed s m k = Ieee.signed s n j) : m * 2 ^ k = n * 2 ^ j := by
  cases s <;> simp [Ieee.signed, Nat.shiftLeft_eq] at h
  · exact_mod_cast h
  · exact_mod_cast h
/-- Numbers that are equal and bear the same sign have the same bits. -/
theorem order_same {a b : Nat} (ha : a < 4294967296) (hb : b < 4294967296) (h : (FloatKind.format .f32).order a b = some .eq) (hs : sgn a = sgn b) : a = b := by
  have h' : (Ieee.single.read a).order (Ieee.single.read b) = some .eq := h
  cases da : Ieee.single.read a with
  | nan s f => rw [da] at h'; simp [Datum.order] at h'
  | infinity s =>
    rw [da] at h'
    cases db : Ieee.single.read b with
    | nan s f => rw [db] at h'; simp [Datum.order] at h'
    | infinity t => exact sgn_inj ha hb hs ((single_inf da).2.trans (single_inf db).2.symm)
    | number t n j => rw [db] at h'; cases s <;> simp [Datum.order] at h'
  | number s m i =>
    rw [da] at h'
    cases db : Ieee.single.read b with
    | nan s f => rw [db] at h'; simp [Datum.order] at h'
    | infinity t => rw [db] at h'; cases t <;> simp [Datum.order] at h'
    | number t n j =>
      rw [db] at h'
      obtain ⟨e1, c1⟩ := single_inv da
      obtain ⟨e2, c2⟩ := single_inv db
      obtain rfl : s = t := by rw [e1, e2]; exact hs
      simp only [Datum.order, Option.some.injEq] at h'
      have h2 := signed_inj (cmp_int_eq h')
      refine sgn_inj ha hb hs ?_
      have key : m = n ∧ i = j := by
        rcases Int.lt_trichotomy i j with hl | he | hg
        · exfalso
          rw [show min i j = i by omega, show (i - i).toNat = 0 by omega, Nat.pow_zero, Nat.mul_one] at h2
          obtain ⟨d, hd⟩ : ∃ d, (j - i).toNat = d + 1 := ⟨(j - i).toNat - 1, by omega⟩
          rw [hd, Nat.pow_succ] at h2
          have hp := Nat.two_pow_pos d
          have h3 : n * 1 ≤ n * 2 ^ d := Nat.mul_le_mul_left _ hp
          have h4 : n * (2 ^ d * 2) = n * 2 ^ d * 2 := by rw [Nat.mul_assoc]
          rcases c1 with c1 | c1 <;> rcases c2 with c2 | c2 <;> omega
        · subst he
          rw [show (i - min i i).toNat = 0 by omega] at h2
          exact ⟨by omega, rfl⟩
        · exfalso
          rw [show min i j = j by omega, show (j - j).toNat = 0 by omega, Nat.pow_zero, Nat.mul_one] at h2
          obtain ⟨d, hd⟩ : ∃ d, (i - j).toNat = d + 1 := ⟨(i - j).toNat - 1, by omega⟩
          rw [hd, Nat.pow_succ] at h2
          have hp := Nat.two_pow_pos d
          have h3 : m * 1 ≤ m * 2 ^ d := Nat.mul_le_mul_left _ hp
          have h4 : m * (2 ^ d * 2) = m * 2 ^ d * 2 := by rw [Nat.mul_assoc]
          rcases c1 with c1 | c1 <;> rcases c2 with c2 | c2 <;> omega
      obtain ⟨rfl, rfl⟩ := key
      rcases c1 with c1 | c1 <;> rcases c2 with c2 | c2 <;> omega
theorem word_top (s : Bool) {r : Nat} (h : r < 9223372036854775808) : decide (9223372036854775808 ≤ Ieee.double.word s r) = s := by
  have d0 : Ieee.double.signWeight = 9223372036854775808 := by decide
  unfold Format.word
  rw [d0]
  cases s
  · simp; omega
  · simp
/-- The sign of a wider float. -/
theorem wide_sign {b r : Nat} (hn : isN .f32 b = false) (h : floatToFloatBits .f32 b .f64 = some r) : decide (9223372036854775808 ≤ r) = sgn b := by
  have d4 : Ieee.double.infRung = 9218868437227405312 := by decide
  have h' : (match Ieee.single.read b with | .nan _ _ => none | .infinity s => some (FloatKind.encode .f64 (.infinity s)) | .number s m e => if (FloatKind.decode .f64 (FloatKind.encode .f64 (.number s m e))).isInfinity then none else some (FloatKind.encode .f64 (.number s m e))) = some r := by
    have := h
    unfold floatToFloatBits at this
    rw [if_neg (by decide)] at this
    exact this
  cases hd : Ieee.single.read b with
  | nan s f => rw [hd] at h'; cases h'
  | infinity s =>
    rw [hd] at h'
    obtain rfl := (Option.some.inj h').symm
    rw [show sgn b = s from (single_inf hd).1.symm]
    exact word_top s (by show Ieee.double.infRung < _; rw [d4]; omega)
  | number s m e =>
    rw [hd] at h'
    simp only at h'
    split at h'
    · cases h'
    · obtain rfl := (Option.some.inj h').symm
      rw [show sgn b = s from (single_inv hd).1.symm]
      obtain ⟨q, hq, e⟩ := nearest_form Ieee.double s m e
      show decide (_ ≤ Ieee.double.nearest s m _) = s
      rw [e]
      exact word_top s (by rw [d4] at hq; omega)
end Go.Proofs.Ytomofghiafcefaa
