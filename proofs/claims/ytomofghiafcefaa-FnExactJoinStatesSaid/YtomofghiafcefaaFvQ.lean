/- Rows of chances: how great their exact sum is. -/
import Derived.Test.YtomofghiafcefaaFvP

namespace Go.Proofs.Ytomofghiafcefaa
open Go.RowKit Ieee
set_option linter.unusedVariables false
/-- How two numbers that are not negative stand to each other: as their values. -/
theorem ord_fz {a b : Nat} (ha : Fz a) (hb : Fz b) : ordF a b = some (compare ((vz a : Nat) : Int) ((vz b : Nat) : Int)) := by
  obtain ⟨s, m, i, r1, v1, s0, -⟩ := read_fz ha
  obtain ⟨t, n, j, r2, v2, t0, -⟩ := read_fz hb
  obtain ⟨k, hk⟩ : ∃ k : Nat, k = min i j := ⟨_, rfl⟩
  have e1 : min ((i : Int) - 149) ((j : Int) - 149) = (k : Int) - 149 := by omega
  have e2 : ((i : Int) - 149 - ((k : Int) - 149)).toNat = i - k := by omega
  have e3 : ((j : Int) - 149 - ((k : Int) - 149)).toNat = j - k := by omega
  have h1 : vz a = m * 2 ^ (i - k) * 2 ^ k := by rw [v1, Nat.mul_assoc, ← Nat.pow_add, show i - k + k = i by omega]
  have h2 : vz b = n * 2 ^ (j - k) * 2 ^ k := by rw [v2, Nat.mul_assoc, ← Nat.pow_add, show j - k + k = j by omega]
  show (Ieee.single.read a).order (Ieee.single.read b) = _
  rw [r1, r2]
  simp only [Datum.order, e1, e2, e3, signed_nn s0, signed_nn t0]
  rw [h1, h2]
  have hp := Nat.two_pow_pos k
  generalize m * 2 ^ (i - k) = u
  generalize n * 2 ^ (j - k) = v
  generalize 2 ^ k = g at hp
  congr 1
  rcases Nat.lt_trichotomy u v with h | h | h
  · rw [cmp_lt.2 (by omega), cmp_lt.2 (by have := Nat.mul_lt_mul_of_pos_right h hp; omega)]
  · subst h; rw [cmp_eq.2 rfl, cmp_eq.2 rfl]
  · rw [cmp_gt.2 (by omega), cmp_gt.2 (by have := Nat.mul_lt_mul_of_pos_right h hp; omega)]
theorem le_fz {a b : Nat} (ha : Fz a) (hb : Fz b) (h : leF a b = true) : vz a ≤ vz b := by
  unfold leF at h
  rw [ord_fz ha hb] at h
  rcases Bool.or_eq_true_iff.1 h with h | h
  · have := cmp_lt.1 (Option.some.inj (eq_of_beq h)); omega
  · have := cmp_eq.1 (Option.some.inj (eq_of_beq h)); omega
theorem vz_one : vz 1065353216 = 713623846352979940529142984724747568191373312 := by decide +kernel
/-- A chance: its value is 1 at most. -/
theorem Fz.of_chance {x : Nat} (h0 : geF x 0 = true) (h1 : leF x 1065353216 = true) (hx : x < 4294967296) : Fz x ∧ vz x ≤ 713623846352979940529142984724747568191373312 := by
  have hz : Fz x := by
    have hn := NN.of_ge h0
    unfold leF ordF at h1
    have e : (FloatKind.format .f32).order x 1065353216 = (Ieee.single.read x).order (Ieee.single.read 1065353216) := rfl
    rw [e, read_one] at h1
    rcases hn with ⟨s, m, i, hr, hs⟩ | hr
    · unfold Format.read at hr
      simp only [sg1, sg2, sg3, sg4] at hr
      split at hr
      · injection hr with a1 a2 a3
        rcases Nat.lt_or_ge x 2147483648 with h | h
        · left; omega
        · rcases hs with hs | hs
          · subst hs
            have : x / 2147483648 % 2 = 1 := by omega
            rw [this] at a1; cases a1
          · right; omega
      · split at hr
        · injection hr with a1 a2 a3
          rcases Nat.lt_or_ge x 2147483648 with h | h
          · left; omega
          · rcases hs with hs | hs
            · subst hs
              have : x / 2147483648 % 2 = 1 := by omega
              rw [this] at a1; cases a1
            · omega
        · split at hr <;> cases hr
    · rw [hr] at h1; simp [Datum.order] at h1
  refine ⟨hz, ?_⟩
  have := le_fz hz (.inl (by omega)) h1
  rw [vz_one] at this; exact this
def one1 : Nat := 713623846352979940529142984724747568191373312
theorem one1_pow : one1 = 8388608 * 2 ^ 126 := by decide +kernel
/-- What is left of a number greater than 1. -/
theorem sub1_fz {a : Nat} (ha : a < 2139095040) (h1 : one1 < vz a) (hX : vz a < pw 276) : ∃ R, floatBits .sub .f32 a 1065353216 = some R ∧ R < 2139095040 ∧ 16777216 * (vz a - one1) ≤ 16777216 * vz R + (vz a - one1) + 8388608 := by
  obtain ⟨s, m, i, r1, v1, s0, s1⟩ := read_fz (.inl ha)
  have hs := s1 ha
  subst hs
  obtain ⟨k, hk⟩ : ∃ k : Nat, k = min i 126 := ⟨_, rfl⟩
  have e1 : min ((i : Int) - 149) (-23) = (k : Int) - 149 := by omega
  have e2 : ((i : Int) - 149 - ((k : Int) - 149)).toNat = i - k := by omega
  have e3 : ((-23 : Int) - ((k : Int) - 149)).toNat = 126 - k := by omega
  have hp := Nat.two_pow_pos k
  have q1 : vz a = m * 2 ^ (i - k) * 2 ^ k := by rw [v1, Nat.mul_assoc, ← Nat.pow_add, show i - k + k = i by omega]
  have q2 : one1 = 8388608 * 2 ^ (126 - k) * 2 ^ k := by rw [one1_pow, Nat.mul_assoc, ← Nat.pow_add, show 126 - k + k = 126 by omega]
  have hlt : 8388608 * 2 ^ (126 - k) < m * 2 ^ (i - k) := Nat.lt_of_mul_lt_mul_right (a := 2 ^ k) (by rw [← q1, ← q2]; exact h1)
  have hv : vz a - one1 = (m * 2 ^ (i - k) - 8388608 * 2 ^ (126 - k)) * 2 ^ k := by rw [q1, q2, Nat.sub_mul]
  obtain ⟨R, n1, n2, -, n4⟩ := near_vl (m * 2 ^ (i - k) - 8388608 * 2 ^ (126 - k)) ((k : Int) - 149) 0 k (by omega) (by rw [← hv]; exact Nat.lt_of_le_of_lt (Nat.sub_le _ _) hX)
  rw [← hv, Nat.pow_zero, Nat.mul_one, Nat.mul_one] at n4
  refine ⟨R, ?_, n2, by rw [vz_lt n2]; exact n4⟩
  show (((Ieee.single.read a).sum (Ieee.single.read 1065353216).opposite).map Ieee.single.write) = some R
  rw [r1, read_one]
  have hsg : Ieee.signed true 8388608 (126 - k) = -((8388608 * 2 ^ (126 - k) : Nat) : Int) := by simp only [Ieee.signed, Nat.shiftLeft_eq, if_true]
  simp only [Datum.opposite, Bool.not_false, Datum.sum, e1, e2, e3, signed_nn (t := false) (n := m) (fun h => by cases h), hsg]
  generalize m * 2 ^ (i - k) = u at hlt n1
  generalize 8388608 * 2 ^ (126 - k) = v at hlt n1
  rw [show (u : Int) + -(v : Int) = ((u - v : Nat) : Int) by omega]
  generalize hM : u - v = M at n1
  have hsg : (if (M : Int) = 0 then (false && true) else decide ((M : Int) < 0)) = false := by
    split
    · rfl
    · exact decide_eq_false (by omega)
  rw [hsg]
  show some (Ieee.single.nearest false ((M : Int).natAbs) _) = _
  rw [Int.natAbs_natCast, n1]
def vsum (xs : List F32) : Nat := (xs.map (fun x => vz x.b)).sum
theorem vsum_snoc (xs : List F32) (x : F32) : vsum (xs ++ [x]) = vsum xs + vz x.b := by simp [vsum]
theorem vz_zero : vz 0 = 0 := rfl
theorem pw276 (n : Nat) (h : n ≤ 10 * one1) : n < pw 276 := Nat.lt_of_le_of_lt h (by decide +kernel)
/-- A short row's sum: what adding it up leaves off is small. -/
theorem fsum_fz {xs : List F32} (h : ∀ x ∈ xs, Fz x.b ∧ vz x.b ≤ one1) (hl : xs.length ≤ 5) : ∀ k, k ≤ xs.length → (fsum (xs.take k)).b < 2139095040 ∧ vz (fsum (xs.take k)).b ≤ vsum (xs.take k) + k * 340282366920938463463374607431768211456 ∧ vsum (xs.take k) ≤ vz (fsum (xs.take k)).b + k * 340282366920938463463374607431768211456 ∧ vsum (xs.take k) ≤ k * one1 := by
  intro k
  induction k with
  | zero =>
    intro _
    rw [List.take_zero]
    exact ⟨by decide, by decide, by decide, by decide⟩
  | succ k ih =>
    intro hk
    obtain ⟨i1, i2, i3, i4⟩ := ih (by omega)
    rw [List.take_succ_eq_append_getElem (by omega), fsum_snoc, vsum_snoc]
    obtain ⟨hz, hx⟩ := h xs[k] (List.getElem_mem _)
    generalize xs[k] = x at hz hx
    generalize fsum (xs.take k) = s at i1 i2 i3
    generalize vsum (xs.take k) = T at i2 i3 i4
    have hb : vz s.b + vz x.b ≤ 10 * one1 := by unfold one1 at *; omega
    obtain ⟨R, a1, a2, a3, a4⟩ := add_fz i1 hz (pw276 _ hb)
    rw [fop_some a1]
    unfold one1 at *
    refine ⟨a2, ?_, ?_, ?_⟩ <;> omega
/-- A row of chances, exactly: 1.02 at most. -/
theorem rowB_sum {xs : List F32} (hl : xs.length ≤ 5) (h0 : ∀ x ∈ xs, geF x.b 0 = true ∧ leF x.b 1065353216 = true) (h1 : leF (fop .sub (fsum xs) f1).b cN = true) : (∀ x ∈ xs, Fz x.b ∧ vz x.b ≤ one1) ∧ 100 * vsum xs ≤ 102 * one1 := by
  have hc : ∀ x ∈ xs, Fz x.b ∧ vz x.b ≤ one1 := fun x hx => Fz.of_chance (h0 x hx).1 (h0 x hx).2 x.lt
  refine ⟨hc, ?_⟩
  obtain ⟨i1, i2, i3, i4⟩ := fsum_fz hc hl xs.length (Nat.le_refl _)
  rw [List.take_length] at i1 i2 i3 i4
  have hcN : vz cN ≤ 714000000000000000000000000000000000000000 := by decide +kernel
  have hcF : Fz cN := .inl (by decide)
  rcases Nat.lt_or_ge one1 (vz (fsum xs).b) with hg | hg
  · obtain ⟨R, a1, a2, a3⟩ := sub1_fz i1 hg (pw276 _ (by unfold one1 at *; omega))
    rw [show (fop .sub (fsum xs) f1).b = R from fop_some a1] at h1
    have := le_fz (.inl a2) hcF h1
    unfold one1 at *
    omega
  · unfold one1 at *
    omega
end Go.Proofs.Ytomofghiafcefaa
