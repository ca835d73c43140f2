/- How great a float is, plainly: its rung's value in units of the least one, and what rounding does to it, from above and below. -/
import Derived.Test.YtomofghiafcefaaVdP

namespace Go.Proofs.Ytomofghiafcefaa
open Go.RowKit Ieee
set_option linter.unusedVariables false
def pw (n : Nat) : Nat := 2 ^ n
/-- The value of a rung, in units of 2 ^ -149. -/
def vl (r : Nat) : Nat := if r < 8388608 then r else (8388608 + r % 8388608) * 2 ^ (r / 8388608 - 1)
theorem vl_mk {L k : Nat} (hk : k ≤ 16777216) (h0 : 0 < L → 8388608 ≤ k) : vl (L * 8388608 + k) = k * 2 ^ L := by
  unfold vl
  rcases Nat.eq_zero_or_pos L with rfl | hL
  · rcases Nat.lt_or_ge k 8388608 with h | h
    · rw [if_pos (by omega)]; simp
    · rw [if_neg (by omega)]
      rcases Nat.lt_or_ge k 16777216 with h2 | h2
      · rw [show (0 * 8388608 + k) % 8388608 = k - 8388608 by omega, show (0 * 8388608 + k) / 8388608 - 1 = 0 by omega]
        rw [show 8388608 + (k - 8388608) = k by omega]
      · have : k = 16777216 := by omega
        subst this; rfl
  · have hk0 := h0 hL
    rw [if_neg (by omega)]
    rcases Nat.lt_or_ge k 16777216 with h2 | h2
    · rw [show (L * 8388608 + k) % 8388608 = k - 8388608 by omega, show (L * 8388608 + k) / 8388608 - 1 = L by omega]
      rw [show 8388608 + (k - 8388608) = k by omega]
    · have : k = 16777216 := by omega
      subst this
      rw [show (L * 8388608 + 16777216) % 8388608 = 0 by omega, show (L * 8388608 + 16777216) / 8388608 - 1 = L + 1 by omega, Nat.pow_succ]
      omega
/-- What a positive rung reads as. -/
theorem read_vl {r : Nat} (h : r < 2139095040) : ∃ (m a : Nat), Ieee.single.read r = .number false m ((a : Int) - 149) ∧ vl r = m * 2 ^ a := by
  have e0 : r / 2147483648 % 2 = 0 := by omega
  have e1 : r % 2147483648 = r := Nat.mod_eq_of_lt (by omega)
  unfold Format.read vl
  simp only [sg1, sg2, sg3, sg4, e0, e1]
  by_cases h1 : r < 8388608
  · rw [if_pos h1, if_pos h1]; exact ⟨r, 0, rfl, by simp⟩
  · rw [if_neg h1, if_neg h1, if_pos h]
    refine ⟨8388608 + r % 8388608, r / 8388608 - 1, ?_, rfl⟩
    rw [show (-149 : Int) + ((r / 8388608 - 1 : Nat) : Int) = ((r / 8388608 - 1 : Nat) : Int) - 149 by omega]; rfl
def cutN (n g : Nat) : Nat := n / g + (decide (g < 2 * (n % g)) || (g == 2 * (n % g) && n / g % 2 == 1)).toNat
theorem cut_is (n d : Nat) : Toward.even.cut false n d = cutN n (2 ^ min d (n.log2 + 2)) := by
  unfold Toward.cut cutN
  rw [Nat.shiftLeft_eq, Nat.one_mul]
theorem cutN_near (n g : Nat) (hp : 0 < g) : 2 * (cutN n g * g) ≤ 2 * n + g ∧ 2 * n ≤ 2 * (cutN n g * g) + g := by
  unfold cutN
  have hdm := Nat.div_add_mod n g
  have hlt := Nat.mod_lt n hp
  generalize n / g = q at hdm ⊢
  generalize n % g = r at hdm hlt ⊢
  have ec : q * g = g * q := Nat.mul_comm _ _
  have e1 : (q + 1) * g = g * q + g := by rw [Nat.add_mul, ec, Nat.one_mul]
  have e0 : (q + 0) * g = g * q := by rw [Nat.add_zero, ec]
  by_cases hm : (decide (g < 2 * r) || (g == 2 * r && q % 2 == 1)) = true
  · rw [hm]
    have h2 : g ≤ 2 * r := by
      rcases Bool.or_eq_true_iff.1 hm with hm | hm
      · have := of_decide_eq_true hm; omega
      · have := (Bool.and_eq_true_iff.1 hm).1
        have := eq_of_beq this; omega
    show 2 * ((q + 1) * g) ≤ _ ∧ _ ≤ 2 * ((q + 1) * g) + g
    rw [e1]; omega
  · have h2 : 2 * r ≤ g := by
      rcases Nat.lt_or_ge g (2 * r) with h3 | h3
      · exact absurd (by rw [decide_eq_true h3]; rfl) hm
      · exact h3
    rw [Bool.eq_false_iff.2 hm]
    show 2 * ((q + 0) * g) ≤ _ ∧ _ ≤ 2 * ((q + 0) * g) + g
    rw [e0]; omega
/-- Cutting to the nearest: half a unit off at most. -/
theorem cut_near (n d : Nat) : 2 * (Toward.even.cut false n d * 2 ^ d) ≤ 2 * n + 2 ^ d ∧ 2 * n ≤ 2 * (Toward.even.cut false n d * 2 ^ d) + 2 ^ d := by
  rw [cut_is]
  rcases Nat.le_total d (n.log2 + 2) with h | h
  · rw [Nat.min_eq_left h]; exact cutN_near n _ (Nat.two_pow_pos d)
  · rw [Nat.min_eq_right h]
    have hlt : n < 2 ^ (n.log2 + 1) := Nat.lt_log2_self
    have e : (2 : Nat) ^ (n.log2 + 2) = 2 * 2 ^ (n.log2 + 1) := by rw [show n.log2 + 2 = (n.log2 + 1) + 1 from rfl, Nat.pow_succ, Nat.mul_comm]
    have hd : 2 ^ (n.log2 + 2) ≤ 2 ^ d := Nat.pow_le_pow_right (by omega) h
    have hz : cutN n (2 ^ (n.log2 + 2)) = 0 := by
      unfold cutN
      rw [Nat.div_eq_of_lt (by omega), Nat.mod_eq_of_lt (by omega)]
      have hm : (decide (2 ^ (n.log2 + 2) < 2 * n) || (2 ^ (n.log2 + 2) == 2 * n && (0 : Nat) % 2 == 1)) = false := by
        rw [decide_eq_false (by omega)]; simp
      rw [hm]; rfl
    rw [hz, Nat.zero_mul]; omega
/-- A number written: in units of 2 ^ -(149 + c), X before and 'vl R * 2 ^ c' behind. L: how far its last digit lies above the least. -/
theorem near_mk (m : Nat) (p : Int) (c e : Nat) (hm : m ≠ 0) (he : p + 149 + c = e) : ∃ L K : Nat, Ieee.single.nearest false m p = min (L * 8388608 + K) 2139095040 ∧ K ≤ 16777216 ∧ (0 < L → 8388608 ≤ K ∧ 2 ^ (L + 23 + c) ≤ m * 2 ^ e) ∧ 2 * (K * 2 ^ L * 2 ^ c) ≤ 2 * (m * 2 ^ e) + 2 ^ (L + c) ∧ 2 * (m * 2 ^ e) ≤ 2 * (K * 2 ^ L * 2 ^ c) + 2 ^ (L + c) := by
  have hl := Nat.log2_self_le hm
  have hu : m < 2 ^ (m.log2 + 1) := Nat.lt_log2_self
  obtain ⟨L, hL⟩ : ∃ L : Nat, max (p + m.log2 - 23) (-149) = (L : Int) - 149 := ⟨(max (p + m.log2 - 23) (-149) + 149).toNat, by omega⟩
  have hL' : (L : Int) - 149 = p + m.log2 - 23 ∨ (L = 0 ∧ p + m.log2 - 23 ≤ -149) := by omega
  refine ⟨L, Toward.even.cut false (m * 2 ^ (p - ((L : Int) - 149)).toNat) ((L : Int) - 149 - p).toNat, ?_, ?_⟩
  · unfold Format.nearest
    rw [if_neg hm]
    have e1 : Ieee.single.leastPlace = -149 := by decide
    have e2 : ((Ieee.single.fractionBits : Nat) : Int) = 23 := rfl
    simp only [e1, e2, hL, sg2, sg3, Nat.shiftLeft_eq]
    have e3 : ((L : Int) - 149 - -149).toNat = L := by omega
    rw [e3]
    simp only [Format.word, Bool.false_eq_true, if_false]
  · generalize hup : (p - ((L : Int) - 149)).toNat = up
    generalize hdn : ((L : Int) - 149 - p).toNat = dn
    obtain ⟨n1, n2⟩ := cut_near (m * 2 ^ up) dn
    generalize Toward.even.cut false (m * 2 ^ up) dn = K at n1 n2 ⊢
    have hzz : up = 0 ∨ dn = 0 := by omega
    obtain ⟨s, hs⟩ : ∃ s : Nat, L + c = dn + s ∧ e = up + s := ⟨L + c - dn, by omega, by omega⟩
    obtain ⟨hs1, hs2⟩ := hs
    have x1 : m * 2 ^ e = m * 2 ^ up * 2 ^ s := by rw [hs2, Nat.pow_add, Nat.mul_assoc]
    have x2 : K * 2 ^ L * 2 ^ c = K * 2 ^ dn * 2 ^ s := by rw [Nat.mul_assoc, ← Nat.pow_add, hs1, Nat.pow_add, Nat.mul_assoc]
    have x3 : 2 ^ (L + c) = 2 ^ dn * 2 ^ s := by rw [hs1, Nat.pow_add]
    have hsp := Nat.two_pow_pos s
    have hdp := Nat.two_pow_pos dn
    -- the bound above
    have hb : m * 2 ^ up < 2 ^ (24 + dn) := by
      have h1 : m * 2 ^ up < 2 ^ (m.log2 + 1) * 2 ^ up := Nat.mul_lt_mul_of_pos_right hu (Nat.two_pow_pos up)
      rw [← Nat.pow_add] at h1
      exact Nat.lt_of_lt_of_le h1 (Nat.pow_le_pow_right (by omega) (by omega))
    refine ⟨?_, ?_, ?_, ?_⟩
    · rw [Nat.pow_add] at hb
      have : 2 * (K * 2 ^ dn) < (2 * 16777216 + 1) * 2 ^ dn := by
        have e9 : (2 : Nat) ^ 24 = 16777216 := by decide
        rw [e9] at hb
        rw [Nat.add_mul, Nat.one_mul, Nat.mul_assoc]; omega
      have h3 : 2 * K < 2 * 16777216 + 1 := by
        apply Nat.lt_of_mul_lt_mul_right (a := 2 ^ dn)
        rw [Nat.mul_assoc]; exact this
      omega
    · intro h0
      have hLe : (L : Int) - 149 = p + m.log2 - 23 := by omega
      constructor
      · have h1 : 2 ^ (m.log2) * 2 ^ up ≤ m * 2 ^ up := Nat.mul_le_mul_right _ hl
        rw [← Nat.pow_add] at h1
        rw [show m.log2 + up = 23 + dn by omega, Nat.pow_add] at h1
        have e9 : (2 : Nat) ^ 23 = 8388608 := by decide
        rw [e9] at h1
        have h2 : (2 * 8388608) * 2 ^ dn ≤ (2 * K + 1) * 2 ^ dn := by
          rw [Nat.add_mul, Nat.one_mul, Nat.mul_assoc, Nat.mul_assoc]; omega
        have h3 := Nat.le_of_mul_le_mul_right h2 hdp
        omega
      · rw [show L + 23 + c = m.log2 + e by omega, Nat.pow_add]
        exact Nat.mul_le_mul_right _ hl
    · rw [x1, x2, x3, ← Nat.mul_assoc 2 (K * 2 ^ dn), ← Nat.mul_assoc 2 (m * 2 ^ up), ← Nat.add_mul]; exact Nat.mul_le_mul_right _ n1
    · rw [x1, x2, x3, ← Nat.mul_assoc 2 (K * 2 ^ dn), ← Nat.mul_assoc 2 (m * 2 ^ up), ← Nat.add_mul]; exact Nat.mul_le_mul_right _ n2
/-- The same with the numbers the format has: nothing too great, and what is off is a 2 ^ 24th part at most, or half a unit. -/
theorem near_vl (m : Nat) (p : Int) (c e : Nat) (he : p + 149 + c = e) (hX' : m * 2 ^ e < pw (276 + c)) : ∃ R, Ieee.single.nearest false m p = R ∧ R < 2139095040 ∧ 16777216 * (vl R * 2 ^ c) ≤ 16777217 * (m * 2 ^ e) + 8388608 * 2 ^ c ∧ 16777216 * (m * 2 ^ e) ≤ 16777216 * (vl R * 2 ^ c) + m * 2 ^ e + 8388608 * 2 ^ c := by
  have hX : m * 2 ^ e < 2 ^ (276 + c) := hX'
  by_cases hm : m = 0
  · subst hm
    refine ⟨0, rfl, by omega, ?_⟩
    have : vl 0 = 0 := rfl
    rw [this]; simp
  · obtain ⟨L, K, e1, h1, h2, h3, h4⟩ := near_mk m p c e hm he
    have hcp := Nat.two_pow_pos c
    have hLs : L < 253 := by
      rcases Nat.eq_zero_or_pos L with h | h
      · omega
      · have h5 := (h2 h).2
        have h6 : (2 : Nat) ^ (L + 23 + c) < 2 ^ (276 + c) := Nat.lt_of_le_of_lt h5 hX
        have := (Nat.pow_lt_pow_iff_right (by omega : 1 < 2)).1 h6
        omega
    have hmin : min (L * 8388608 + K) 2139095040 = L * 8388608 + K := Nat.min_eq_left (by omega)
    have hv := vl_mk h1 (fun h => (h2 h).1)
    have hexp : (2 : Nat) ^ (L + c) * 8388608 ≤ m * 2 ^ e + 8388608 * 2 ^ c := by
      rcases Nat.eq_zero_or_pos L with h | h
      · subst h; rw [Nat.zero_add, Nat.mul_comm]; omega
      · have h5 := (h2 h).2
        rw [show L + 23 + c = (L + c) + 23 by omega, Nat.pow_add] at h5
        have e9 : (2 : Nat) ^ 23 = 8388608 := by decide
        rw [e9] at h5; omega
    refine ⟨L * 8388608 + K, by rw [e1, hmin], ?_, ?_, ?_⟩
    · rcases Nat.lt_or_ge (L * 8388608 + K) 2139095040 with h | h
      · exact h
      · omega
    · rw [hv]; omega
    · rw [hv]; omega
/-- A number that is not negative: a positive rung, or the negative zero. -/
def Fz (x : Nat) : Prop := x < 2139095040 ∨ x = 2147483648
def vz (x : Nat) : Nat := if x = 2147483648 then 0 else vl x
theorem vz_lt {x : Nat} (h : x < 2139095040) : vz x = vl x := if_neg (by omega)
theorem read_fz {x : Nat} (h : Fz x) : ∃ (s : Bool) (m a : Nat), Ieee.single.read x = .number s m ((a : Int) - 149) ∧ vz x = m * 2 ^ a ∧ (s = true → m = 0) ∧ (x < 2139095040 → s = false) := by
  rcases h with h | h
  · obtain ⟨m, a, e, v⟩ := read_vl h
    exact ⟨false, m, a, e, (by rw [vz_lt h, v]), (fun h => by cases h), fun _ => rfl⟩
  · subst h
    exact ⟨true, 0, 0, (by decide +kernel), (by simp [vz]), (fun _ => rfl), fun h => by omega⟩
theorem signed_nn {t : Bool} {n k : Nat} (h : t = true → n = 0) : Ieee.signed t n k = ((n * 2 ^ k : Nat) : Int) := by
  cases t
  · simp only [Ieee.signed, Nat.shiftLeft_eq]; rfl
  · rw [h rfl]; simp [Ieee.signed]
/-- What adding does to the values. -/
theorem add_fz {a b : Nat} (ha : a < 2139095040) (hb : Fz b) (hX : vz a + vz b < pw 276) : ∃ R, floatBits .add .f32 a b = some R ∧ R < 2139095040 ∧ 16777216 * vz R ≤ 16777217 * (vz a + vz b) + 8388608 ∧ 16777216 * (vz a + vz b) ≤ 16777216 * vz R + (vz a + vz b) + 8388608 := by
  obtain ⟨s, m, i, r1, v1, s0, s1⟩ := read_fz (.inl ha)
  obtain ⟨t, n, j, r2, v2, t0, -⟩ := read_fz hb
  have hs := s1 ha
  subst hs
  obtain ⟨k, hk⟩ : ∃ k : Nat, k = min i j := ⟨_, rfl⟩
  have e1 : min ((i : Int) - 149) ((j : Int) - 149) = (k : Int) - 149 := by omega
  have e2 : ((i : Int) - 149 - ((k : Int) - 149)).toNat = i - k := by omega
  have e3 : ((j : Int) - 149 - ((k : Int) - 149)).toNat = j - k := by omega
  have hv : vz a + vz b = (m * 2 ^ (i - k) + n * 2 ^ (j - k)) * 2 ^ k := by
    rw [v1, v2, Nat.add_mul, Nat.mul_assoc, Nat.mul_assoc, ← Nat.pow_add, ← Nat.pow_add, show i - k + k = i by omega, show j - k + k = j by omega]
  obtain ⟨R, n1, n2, n3, n4⟩ := near_vl (m * 2 ^ (i - k) + n * 2 ^ (j - k)) ((k : Int) - 149) 0 k (by omega) (by rw [← hv]; exact hX)
  rw [← hv, Nat.pow_zero, Nat.mul_one, Nat.mul_one] at n3 n4
  refine ⟨R, ?_, n2, by rw [vz_lt n2]; exact n3, by rw [vz_lt n2]; exact n4⟩
  show (((Ieee.single.read a).sum (Ieee.single.read b)).map Ieee.single.write) = some R
  rw [r1, r2]
  simp only [Datum.sum, e1, e2, e3, signed_nn (t := false) (n := m) (fun h => by cases h), signed_nn t0]
  rw [← Int.natCast_add]
  generalize m * 2 ^ (i - k) + n * 2 ^ (j - k) = M at n1
  have hsg : (if (M : Int) = 0 then (false && t) else decide ((M : Int) < 0)) = false := by
    split
    · rfl
    · exact decide_eq_false (by omega)
  rw [hsg]
  show some (Ieee.single.nearest false ((M : Int).natAbs) _) = _
  rw [Int.natAbs_natCast, n1]
/-- What multiplying does to the values. -/
theorem mul_fz {a b : Nat} (ha : a < 2139095040) (hb : Fz b) (hX : vz a * vz b < pw 425) : ∃ R, floatBits .mul .f32 a b = some R ∧ Fz R ∧ 16777216 * (vz R * 2 ^ 149) ≤ 16777217 * (vz a * vz b) + 8388608 * 2 ^ 149 := by
  obtain ⟨s, m, i, r1, v1, s0, s1⟩ := read_fz (.inl ha)
  obtain ⟨t, n, j, r2, v2, t0, -⟩ := read_fz hb
  have hs := s1 ha
  subst hs
  have hv : vz a * vz b = m * n * 2 ^ (i + j) := by
    rw [v1, v2, Nat.pow_add, Nat.mul_assoc, Nat.mul_assoc, Nat.mul_left_comm (2 ^ i) n]
  have hp : (i : Int) - 149 + ((j : Int) - 149) + 149 + ((149 : Nat) : Int) = ((i + j : Nat) : Int) := by omega
  cases t with
  | false =>
    obtain ⟨R, n1, n2, n3, -⟩ := near_vl (m * n) ((i : Int) - 149 + ((j : Int) - 149)) 149 (i + j) hp (by rw [← hv]; exact hX)
    rw [← hv] at n3
    refine ⟨R, ?_, .inl n2, by rw [vz_lt n2]; exact n3⟩
    show (((Ieee.single.read a).product (Ieee.single.read b)).map Ieee.single.write) = some R
    rw [r1, r2]
    show some (Ieee.single.nearest false (m * n) _) = _
    rw [n1]
  | true =>
    have hn := t0 rfl
    subst hn
    refine ⟨2147483648, ?_, .inr rfl, ?_⟩
    · show (((Ieee.single.read a).product (Ieee.single.read b)).map Ieee.single.write) = _
      rw [r1, r2]
      show some (Ieee.single.nearest true (m * 0) _) = _
      rw [Nat.mul_zero]; rfl
    · have : vz 2147483648 = 0 := rfl
      rw [this, Nat.zero_mul, Nat.mul_zero]; exact Nat.zero_le _
end Go.Proofs.Ytomofghiafcefaa
