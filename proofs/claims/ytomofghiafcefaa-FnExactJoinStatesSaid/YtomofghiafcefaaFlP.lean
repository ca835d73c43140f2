/- Floats, plainly: how a number stands to itself; a wider float of a narrow one. -/
import Derived.WalkKit
import Derived.WalkLawsBesides
import Derived.Lib.Hide

namespace Go.Proofs.Ytomofghiafcefaa
open Go.RowKit Ieee
set_option linter.unusedVariables false

section
variable (P : Program) (w : World) (a : Addr) (m : Mode)
theorem run_store_float (k : FloatKind) (n : Nat) : (store a (.float k n) m).run P w = stored P w a (.float k n) m := run_store P w a _ m rfl
end
attribute [go_sem] run_store_float
theorem cmp_int_self (a : Int) : compare a a = .eq := by simp [compare, compareOfLessAndEq]
theorem cmp_nat_self (a : Nat) : compare a a = .eq := by simp [compare, compareOfLessAndEq]
def isN (k : FloatKind) (b : Nat) : Bool := (k.decode b).isNaN
theorem ord_self {k : FloatKind} {b : Nat} (h : isN k b = false) : k.format.order b b = some .eq := by
  unfold isN FloatKind.decode at h
  unfold Format.order
  cases hd : k.format.read b with
  | nan s f => rw [hd] at h; simp [Datum.isNaN] at h
  | infinity s => simp [Datum.order]
  | number s m e => simp [Datum.order]
theorem ord_nan {k : FloatKind} {b : Nat} (h : isN k b = true) (c : Nat) : k.format.order b c = none ∧ k.format.order c b = none := by
  unfold isN FloatKind.decode at h
  unfold Format.order
  cases hd : k.format.read b with
  | nan s f => constructor
               · simp [Datum.order]
               · cases k.format.read c <;> simp [Datum.order]
  | infinity s => rw [hd] at h; simp [Datum.isNaN] at h
  | number s m e => rw [hd] at h; simp [Datum.isNaN] at h
/-- The word of a rung that is no NaN's. -/
theorem read_word (f : Format) (s : Bool) {r : Nat} (h : r < f.signWeight) : (f.word s r) % f.signWeight = r := by
  unfold Format.word
  split
  · rw [Nat.add_mod_left, Nat.mod_eq_of_lt h]
  · exact Nat.mod_eq_of_lt h
theorem read_rung_le (f : Format) (s : Bool) {r : Nat} (h : r ≤ f.infRung) : (f.read (f.word s r)).isNaN = false := by
  have h2 := f.infRung_lt
  have e := read_word f s (show r < f.signWeight by omega)
  unfold Format.read
  simp only [e]
  split
  · rfl
  · split
    · rfl
    · split
      · rfl
      · omega
theorem read_rung_lt (f : Format) (s : Bool) {r : Nat} (h : r < f.infRung) : (f.read (f.word s r)).isInfinity = false := by
  have h2 := f.infRung_lt
  have e := read_word f s (show r < f.signWeight by omega)
  unfold Format.read
  simp only [e]
  by_cases h3 : r < f.binade
  · rw [if_pos h3]; rfl
  · rw [if_neg h3, if_pos h]; rfl
theorem nearest_form (f : Format) (s : Bool) (m : Nat) (p : Int) : ∃ r, r ≤ f.infRung ∧ f.nearest s m p = f.word s r := by
  unfold Format.nearest
  split
  · exact ⟨0, Nat.zero_le _, rfl⟩
  · exact ⟨_, Nat.min_le_right _ _, rfl⟩
theorem write_notNaN (f : Format) {d : Datum} (h : d.isNaN = false) : (f.read (f.write d)).isNaN = false := by
  cases d with
  | nan s t => simp [Datum.isNaN] at h
  | infinity s => exact read_rung_le f s (Nat.le_refl _)
  | number s m p =>
    obtain ⟨r, hr, e⟩ := nearest_form f s m p
    show (f.read (f.nearest s m p)).isNaN = false
    rw [e]; exact read_rung_le f s hr
/-- A number whose digits the format has: it is written with no rounding. -/
theorem cut_zero (t : Toward) (s : Bool) (n : Nat) : t.cut s n 0 = n := by
  unfold Toward.cut
  cases t <;> simp [Nat.mod_one]
theorem single_read {b : Nat} {s : Bool} {m : Nat} {e : Int} (h : Ieee.single.read b = .number s m e) : m < 2 ^ 24 ∧ -149 ≤ e ∧ e ≤ 104 := by
  have h1 : Ieee.single.binade = 8388608 := by decide
  have h2 : Ieee.single.infRung = 2139095040 := by decide
  have h3 : Ieee.single.leastPlace = -149 := by decide
  unfold Format.read at h
  simp only [h1, h2, h3] at h
  split at h
  · injection h with _ h5 h6
    omega
  · split at h
    · injection h with _ h5 h6
      have := Nat.mod_lt (b % Ieee.single.signWeight) (show 0 < 8388608 by omega)
      omega
    · split at h <;> cases h
theorem wide_number (s : Bool) {m : Nat} {e : Int} (hm : m < 2 ^ 24) (h1 : -149 ≤ e) (h2 : e ≤ 104) :
    (Ieee.double.read (Ieee.double.nearest s m e)).isInfinity = false := by
  have d1 : Ieee.double.fractionBits = 52 := rfl
  have d2 : Ieee.double.leastPlace = -1074 := by decide
  have d3 : Ieee.double.binade = 4503599627370496 := by decide
  have d4 : Ieee.double.infRung = 9218868437227405312 := by decide
  unfold Format.nearest
  split
  · exact read_rung_lt _ _ (by rw [d4]; omega)
  · rename_i hm0
    have hl : m.log2 < 24 := (Nat.log2_lt hm0).2 hm
    have hs : m < 2 ^ (m.log2 + 1) := Nat.lt_log2_self
    simp only [d1, d2, d3, d4]
    have hmax : max (e + (m.log2 : Int) - 52) (-1074) = e + (m.log2 : Int) - 52 := by omega
    rw [show ((52 : Nat) : Int) = 52 from rfl, hmax]
    have hz : (e + (m.log2 : Int) - 52 - e).toNat = 0 := by omega
    rw [hz, cut_zero]
    have hu : (e - (e + (m.log2 : Int) - 52)).toNat = 52 - m.log2 := by omega
    rw [hu, Nat.shiftLeft_eq]
    have hb : m * 2 ^ (52 - m.log2) < 2 ^ 53 := by
      have h3 : m * 2 ^ (52 - m.log2) < 2 ^ (m.log2 + 1) * 2 ^ (52 - m.log2) := Nat.mul_lt_mul_of_pos_right hs (Nat.two_pow_pos _)
      rw [← Nat.pow_add, show m.log2 + 1 + (52 - m.log2) = 53 by omega] at h3
      exact h3
    refine read_rung_lt _ _ ?_
    rw [d4]
    have ht : (e + (m.log2 : Int) - 52 - -1074).toNat ≤ 1150 := by omega
    have hk : (e + (m.log2 : Int) - 52 - -1074).toNat * 4503599627370496 ≤ 1150 * 4503599627370496 := Nat.mul_le_mul_right _ ht
    rw [show (2 : Nat) ^ 53 = 9007199254740992 from by decide] at hb
    clear hk hz hu hmax hs hl
    generalize (e + (m.log2 : Int) - 52 - -1074).toNat = q at ht ⊢
    generalize m * 2 ^ (52 - m.log2) = z at hb ⊢
    exact Nat.lt_of_le_of_lt (Nat.min_le_left _ _) (by omega)
/-- float64 of a float32 that is no NaN: some float64 that is none. -/
theorem wide_ok {b : Nat} (h : isN .f32 b = false) : ∃ r, floatToFloatBits .f32 b .f64 = some r ∧ isN .f64 r = false := by
  unfold isN FloatKind.decode at h
  unfold floatToFloatBits
  rw [if_neg (by decide)]
  show ∃ r, (match Ieee.single.read b with | .nan _ _ => none | .infinity s => some (FloatKind.encode .f64 (.infinity s)) | .number s m e => if (FloatKind.decode .f64 (FloatKind.encode .f64 (.number s m e))).isInfinity then none else some (FloatKind.encode .f64 (.number s m e))) = some r ∧ _
  have h' : (Ieee.single.read b).isNaN = false := h
  cases hd : Ieee.single.read b with
  | nan s f => rw [hd] at h'; simp [Datum.isNaN] at h'
  | infinity s => exact ⟨_, rfl, write_notNaN Ieee.double rfl⟩
  | number s m e =>
    obtain ⟨q1, q2, q3⟩ := single_read hd
    have := wide_number s q1 q2 q3
    refine ⟨FloatKind.encode .f64 (.number s m e), ?_, write_notNaN Ieee.double rfl⟩
    show (if (Ieee.double.read (Ieee.double.nearest s m e)).isInfinity = true then none else some _) = some _
    rw [this]; rfl
/-- The NaN that a conversion of a NaN draws. -/
def nanQ (k : FloatKind) (b : Nat) (w : World) : Nat := (Question.nanConv k b).cut (w.tape w.drawn (Question.nanConv k b))
theorem nanQ_nan (b : Nat) (w : World) : isN .f64 (nanQ .f64 b w) = true := by
  unfold nanQ isN FloatKind.decode
  generalize w.tape w.drawn (Question.nanConv .f64 b) = t
  show (Ieee.double.read ((t % 2) * 2 ^ 63 + 0x7ff0000000000000 + 1 + (t / 2) % (2 ^ 52 - 1))).isNaN = true
  have d0 : Ieee.double.signWeight = 9223372036854775808 := by decide
  have d3 : Ieee.double.binade = 4503599627370496 := by decide
  have d4 : Ieee.double.infRung = 9218868437227405312 := by decide
  have ht := Nat.mod_lt (t / 2) (show 0 < 2 ^ 52 - 1 by decide)
  have hb : t % 2 = 0 ∨ t % 2 = 1 := by omega
  unfold Format.read
  simp only [d0, d3, d4]
  generalize (t / 2) % (2 ^ 52 - 1) = u at ht ⊢
  have e : (t % 2 * 2 ^ 63 + 0x7ff0000000000000 + 1 + u) % 9223372036854775808 = 9218868437227405313 + u := by omega
  rw [e]
  rw [if_neg (by omega), if_neg (by omega), if_neg (by omega)]
  rfl
section
variable {P : Program}
theorem run_wide_nan (src dst : TypeId) {b : Nat} (w : World) (hs : (P.underlying src).isSome = true) (hd : P.underlying dst = some (.float .f64)) (h : isN .f32 b = true) :
    (convert src dst (.float .f32 b)).run P w = .ok (.float .f64 (nanQ .f64 b w)) w.drew := by
  obtain ⟨u, hs'⟩ := Option.isSome_iff_exists.1 hs
  unfold isN at h
  cases hd2 : FloatKind.decode .f32 b with
  | nan s f =>
    cases u <;> simp [convert, run_underlying hs', run_underlying hd, Conv.floatToFloat, hd2, nanQ, Question.forced]
  | infinity s => rw [hd2] at h; simp [Datum.isNaN] at h
  | number s m e => rw [hd2] at h; simp [Datum.isNaN] at h
end
/-- A zero: what 1 / x is there. -/
theorem quo_zero {b : Nat} (h : (FloatKind.format .f64).order b 0 = some .eq) : ∃ r, floatBits .quo .f64 4607182418800017408 b = some r ∧ isN .f64 r = false := by
  have h1 : Ieee.double.read 4607182418800017408 = .number false 4503599627370496 (-52) := by decide +kernel
  have h0 : Ieee.double.read 0 = .number false 0 (-1074) := by decide +kernel
  have h' : (Ieee.double.read b).order (Ieee.double.read 0) = some .eq := h
  rw [h0] at h'
  cases hd : Ieee.double.read b with
  | nan s f => rw [hd] at h'; simp [Datum.order] at h'
  | infinity s => rw [hd] at h'; cases s <;> simp [Datum.order] at h'
  | number s m e =>
    rw [hd] at h'
    have hm : m = 0 := by
      simp only [Datum.order, Option.some.injEq] at h'
      have h2 : Ieee.signed s m (e - min e (-1074)).toNat = Ieee.signed false 0 (-1074 - min e (-1074)).toNat := by
        have := h'
        simp only [compare, compareOfLessAndEq] at this
        split at this
        · cases this
        · split at this
          · assumption
          · cases this
      simp only [Ieee.signed, Nat.zero_shiftLeft] at h2
      have h3 : m <<< (e - min e (-1074)).toNat = 0 := by
        cases s
        · simpa using h2
        · simpa using h2
      rw [Nat.shiftLeft_eq] at h3
      rcases Nat.mul_eq_zero.1 h3 with h4 | h4
      · exact h4
      · have := Nat.two_pow_pos (e - min e (-1074)).toNat; omega
    subst hm
    refine ⟨Ieee.double.write (.infinity (false ^^ s)), ?_, write_notNaN _ rfl⟩
    show (Ieee.double.div 4607182418800017408 b) = _
    unfold Format.div
    rw [h1, hd]
    simp [Datum.quotient]
end Go.Proofs.Ytomofghiafcefaa
