/- Drawing by chances, plainly. -/
import Derived.Test.YtkgifbiaaaemnaaVd
namespace Go.Proofs.Ytkgifbiaaaemnaa
open Go.RowKit Ieee
set_option linter.unusedVariables false
theorem log2_more {m a : Nat} (hm : m ≠ 0) : (m * 2 ^ a).log2 = m.log2 + a := by
  have hp := Nat.two_pow_pos a
  have h0 : m * 2 ^ a ≠ 0 := Nat.mul_ne_zero hm (Nat.ne_of_gt hp)
  have h1 : m.log2 + a ≤ (m * 2 ^ a).log2 := (Nat.le_log2 h0).2 (by rw [Nat.pow_add]; exact Nat.mul_le_mul_right _ (Nat.log2_self_le hm))
  have h2 : (m * 2 ^ a).log2 < m.log2 + 1 + a := (Nat.log2_lt h0).2 (by rw [Nat.pow_add]; exact Nat.mul_lt_mul_of_pos_right Nat.lt_log2_self hp)
  omega
theorem cut_more (s : Bool) (m a d : Nat) (hm : m ≠ 0) : Toward.even.cut s (m * 2 ^ a) (d + a) = Toward.even.cut s m d := by
  have hp := Nat.two_pow_pos a
  have hl : (m * 2 ^ a).log2 = m.log2 + a := log2_more hm
  unfold Toward.cut
  rw [hl, show m.log2 + a + 2 = m.log2 + 2 + a by omega, Nat.add_min_add_right]
  generalize min d (m.log2 + 2) = x
  have e1 : 1 <<< (x + a) = (1 <<< x) * 2 ^ a := by rw [Nat.one_shiftLeft, Nat.one_shiftLeft, Nat.pow_add]
  have e2 : m * 2 ^ a / ((1 <<< x) * 2 ^ a) = m / (1 <<< x) := Nat.mul_div_mul_right _ _ hp
  have e3 : m * 2 ^ a % ((1 <<< x) * 2 ^ a) = m % (1 <<< x) * 2 ^ a := Nat.mul_mod_mul_right _ _ _
  dsimp only
  rw [e1, e2, e3]
  generalize 1 <<< x = g
  generalize m % g = r
  have e4 : decide (g * 2 ^ a < 2 * (r * 2 ^ a)) = decide (g < 2 * r) := by
    rw [← Nat.mul_assoc]; exact decide_eq_decide.2 (Nat.mul_lt_mul_right hp)
  have e5 : (g * 2 ^ a == 2 * (r * 2 ^ a)) = (g == 2 * r) := by
    rw [← Nat.mul_assoc, Bool.eq_iff_iff]; simp only [beq_iff_eq]
    exact ⟨fun h => Nat.eq_of_mul_eq_mul_right hp h, fun h => by rw [h]⟩
  simp only [e4, e5]
theorem cut_exact (t : Toward) (s : Bool) (m a d : Nat) (hm : m ≠ 0) (hd : d ≤ a) : t.cut s (m * 2 ^ a) d = m * 2 ^ (a - d) := by
  have hl : (m * 2 ^ a).log2 = m.log2 + a := log2_more hm
  unfold Toward.cut
  rw [Nat.min_eq_left (by omega), Nat.one_shiftLeft]
  have hp := Nat.two_pow_pos d
  have e : m * 2 ^ a = m * 2 ^ (a - d) * 2 ^ d := by rw [Nat.mul_assoc, ← Nat.pow_add, Nat.sub_add_cancel hd]
  dsimp only
  rw [e, Nat.mul_div_cancel _ hp, Nat.mul_mod_left]
  cases t <;> simp <;> omega
/-- A number is written alike whatever its digits are counted in. -/
theorem nearest_more (f : Format) (s : Bool) (m a : Nat) (p : Int) (hm : m ≠ 0) : f.nearest s (m * 2 ^ a) (p - a) = f.nearest s m p := by
  have h0 : m * 2 ^ a ≠ 0 := Nat.mul_ne_zero hm (Nat.ne_of_gt (Nat.two_pow_pos a))
  have hl : (m * 2 ^ a).log2 = m.log2 + a := log2_more hm
  unfold Format.nearest
  rw [if_neg h0, if_neg hm, hl]
  have e : p - (a : Int) + ((m.log2 + a : Nat) : Int) - (f.fractionBits : Int) = p + (m.log2 : Int) - (f.fractionBits : Int) := by push_cast; omega
  simp only [e]
  generalize max (p + (m.log2 : Int) - (f.fractionBits : Int)) f.leastPlace = last
  have key : Toward.even.cut s ((m * 2 ^ a) <<< (p - (a : Int) - last).toNat) (last - (p - (a : Int))).toNat = Toward.even.cut s (m <<< (p - last).toNat) (last - p).toNat := by
    rw [Nat.shiftLeft_eq, Nat.shiftLeft_eq]
    rcases (show last < p ∨ p ≤ last by omega) with h | h
    · rcases (show last < p - (a : Int) ∨ p - (a : Int) ≤ last by omega) with h2 | h2
      · rw [show (last - (p - (a : Int))).toNat = 0 by omega, show (last - p).toNat = 0 by omega, cut_zero, cut_zero, Nat.mul_assoc, ← Nat.pow_add, show a + (p - (a : Int) - last).toNat = (p - last).toNat by omega]
      · rw [show (p - (a : Int) - last).toNat = 0 by omega, show (last - p).toNat = 0 by omega, cut_zero, Nat.pow_zero, Nat.mul_one, cut_exact _ _ _ _ _ hm (by omega), show a - (last - (p - (a : Int))).toNat = (p - last).toNat by omega]
    · rw [show (p - (a : Int) - last).toNat = 0 by omega, show (p - last).toNat = 0 by omega, Nat.pow_zero, Nat.mul_one, Nat.mul_one, show (last - (p - (a : Int))).toNat = (last - p).toNat + a by omega, cut_more _ _ _ _ hm]
  rw [key]
theorem read_c1 : Ieee.single.read 864026624 = .number false 8388608 (-47) := by decide +kernel
theorem read_c2 : Ieee.single.read 1266679808 = .number false 8388608 1 := by decide +kernel
/-- Times 2 to the power of -24, or divided by 2 to the power of 24. -/
theorem mul_quo {x : Nat} (h : isN .f32 x = false) : floatBits .mul .f32 x 864026624 = floatBits .quo .f32 x 1266679808 ∧ (floatBits .mul .f32 x 864026624).isSome = true := by
  have hn : (Ieee.single.read x).isNaN = false := h
  show ((Ieee.single.read x).product (Ieee.single.read 864026624)).map Ieee.single.write = ((Ieee.single.read x).quotient (Ieee.single.fractionBits + 2) (Ieee.single.read 1266679808)).map Ieee.single.write ∧ (((Ieee.single.read x).product (Ieee.single.read 864026624)).map Ieee.single.write).isSome = true
  rw [read_c1, read_c2]
  cases hd : Ieee.single.read x with
  | nan s f => rw [hd] at hn; simp [Datum.isNaN] at hn
  | infinity s => cases s <;> simp [Datum.product, Datum.quotient]
  | number s m i =>
    obtain ⟨hm, -, -⟩ := single_read hd
    refine ⟨?_, rfl⟩
    simp only [Datum.product, Datum.quotient, Option.map_some, Option.some.injEq, if_neg (show (8388608 : Nat) ≠ 0 by omega), show Ieee.single.fractionBits + 2 = 25 from rfl, show (8388608 : Nat).log2 = 23 by decide +kernel]
    show Ieee.single.nearest _ _ _ = Ieee.single.nearest _ _ _
    by_cases h0 : m = 0
    · subst h0
      simp [Format.nearest, Nat.zero_shiftLeft]
    · have hl : m.log2 < 24 := (Nat.log2_lt h0).2 hm
      have e8 : (8388608 : Nat) = 2 ^ 23 := by decide
      have e1 : m <<< (25 + 23 - m.log2) = m * 2 ^ (25 - m.log2) * 2 ^ 23 := by
        rw [Nat.shiftLeft_eq, Nat.mul_assoc, ← Nat.pow_add, show 25 - m.log2 + 23 = 25 + 23 - m.log2 by omega]
      rw [e1, e8, Nat.mul_div_cancel _ (Nat.two_pow_pos 23), Nat.mul_mod_left]
      have e2 : 2 * (m * 2 ^ (25 - m.log2)) + ((0 : Nat) != 0).toNat = m * 2 ^ (26 - m.log2) := by
        rw [show 26 - m.log2 = 25 - m.log2 + 1 by omega, Nat.pow_succ]
        simp only [bne_self_eq_false, Bool.toNat_false, Nat.add_zero]
        rw [Nat.mul_comm 2, Nat.mul_assoc]
      rw [e2]
      have a1 := nearest_more Ieee.single (s ^^ false) m 23 (i - 24) h0
      have a2 := nearest_more Ieee.single (s ^^ false) m (26 - m.log2) (i - 24) h0
      rw [show i + -47 = i - 24 - ((23 : Nat) : Int) by omega, a1, show i - 1 - ((25 + 23 - m.log2 : Nat) : Int) - 1 = i - 24 - ((26 - m.log2 : Nat) : Int) by omega, a2]
end Go.Proofs.Ytkgifbiaaaemnaa
