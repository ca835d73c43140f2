/- A round of a model's rest, plainly: the values of a row's sum grow by a tenth at most. -/
import Derived.Test.YtomofghiafcefaaFvQ

namespace Go.Proofs.Ytomofghiafcefaa
open Go.RowKit Ieee
set_option linter.unusedVariables false
def su (f : Nat → Nat) : Nat → Nat
  | 0 => 0
  | i + 1 => su f i + f i
theorem su_mono (f : Nat → Nat) : ∀ {a b : Nat}, a ≤ b → su f a ≤ su f b := by
  intro a b h
  induction b with
  | zero => rw [Nat.le_zero.1 h]; exact Nat.le_refl _
  | succ b ih =>
    rcases Nat.lt_or_ge a (b + 1) with h1 | h1
    · exact Nat.le_trans (ih (by omega)) (Nat.le_add_right _ _)
    · rw [show a = b + 1 by omega]; exact Nat.le_refl _
theorem su_add (f g : Nat → Nat) (n : Nat) : su (fun i => f i + g i) n = su f n + su g n := by
  induction n with
  | zero => rfl
  | succ n ih => simp only [su, ih]; omega
theorem su_zero (n : Nat) : su (fun _ => 0) n = 0 := by
  induction n with
  | zero => rfl
  | succ n ih => simp only [su, ih]
theorem su_comm (f : Nat → Nat → Nat) (m n : Nat) : su (fun k => su (fun i => f k i) n) m = su (fun i => su (fun k => f k i) m) n := by
  induction m with
  | zero => simp only [su]; exact (su_zero n).symm
  | succ m ih => simp only [su]; rw [ih, ← su_add]
theorem su_le {f g : Nat → Nat} {n : Nat} (h : ∀ i, i < n → f i ≤ g i) : su f n ≤ su g n := by
  induction n with
  | zero => exact Nat.le_refl _
  | succ n ih => exact Nat.add_le_add (ih fun i hi => h i (by omega)) (h n (by omega))
theorem su_mul (c : Nat) (f : Nat → Nat) (n : Nat) : su (fun i => c * f i) n = c * su f n := by
  induction n with
  | zero => rfl
  | succ n ih => simp only [su, ih, Nat.mul_add]
theorem su_const (c n : Nat) : su (fun _ => c) n = n * c := by
  induction n with
  | zero => simp [su]
  | succ n ih => simp only [su, ih, Nat.add_mul, Nat.one_mul]
theorem su_one (f : Nat → Nat) {i n : Nat} (h : i < n) : f i ≤ su f n := by
  have := su_mono f (show i + 1 ≤ n from h)
  have e : su f (i + 1) = su f i + f i := rfl
  omega
/-- Numbers added one by one from +0 on. -/
def acc (g : Nat → F32) : Nat → F32
  | 0 => f0
  | i + 1 => fop .add (acc g i) (g i)
theorem acc_succ (g : Nat → F32) (i : Nat) : acc g (i + 1) = fop .add (acc g i) (g i) := rfl
theorem acc_zero (g : Nat → F32) : acc g 0 = f0 := rfl
theorem su_succ (f : Nat → Nat) (i : Nat) : su f (i + 1) = su f i + f i := rfl
theorem acc_arith {i T y b c : Nat} (hi : i < 5) (h2 : 1000 * b ≤ (1000 + 2 * i) * (T + i)) (a3 : 16777216 * c ≤ 16777217 * (b + y) + 8388608) : 1000 * c ≤ (1000 + 2 * (i + 1)) * (T + y + (i + 1)) := by
  have a4 : 1000 * c ≤ 1001 * (b + y) + 501 := by omega
  clear a3
  have h5 : i = 0 ∨ i = 1 ∨ i = 2 ∨ i = 3 ∨ i = 4 := by omega
  rcases h5 with rfl | rfl | rfl | rfl | rfl <;> omega
theorem acc_low {i T b : Nat} (hi : i ≤ 5) (h2 : 1000 * b ≤ (1000 + 2 * i) * (T + i)) : b ≤ 2 * T + 10 := by
  have h5 : i = 0 ∨ i = 1 ∨ i = 2 ∨ i = 3 ∨ i = 4 ∨ i = 5 := by omega
  rcases h5 with rfl | rfl | rfl | rfl | rfl | rfl <;> omega
theorem acc_fz {g : Nat → F32} {n V : Nat} (hn : n ≤ 5) (hg : ∀ i, i < n → Fz (g i).b) (hU : su (fun i => vz (g i).b) n ≤ V) (hV : 3 * V + 10 < pw 276) : ∀ i, i ≤ n → (acc g i).b < 2139095040 ∧ 1000 * vz (acc g i).b ≤ (1000 + 2 * i) * (su (fun i => vz (g i).b) i + i) ∧ (i < n → floatBits .add .f32 (acc g i).b (g i).b = some (acc g (i + 1)).b) := by
  have step : ∀ i, i < n → (acc g i).b < 2139095040 → 1000 * vz (acc g i).b ≤ (1000 + 2 * i) * (su (fun i => vz (g i).b) i + i) → ∃ R, floatBits .add .f32 (acc g i).b (g i).b = some R ∧ R < 2139095040 ∧ 1000 * vz R ≤ (1000 + 2 * (i + 1)) * (su (fun i => vz (g i).b) i + vz (g i).b + (i + 1)) := by
    intro i hi h1 h2
    have hm := su_mono (fun i => vz (g i).b) (show i + 1 ≤ n from hi)
    rw [su_succ] at hm
    have hlo := acc_low (show i ≤ 5 by omega) h2
    have k2 : vz (acc g i).b + vz (g i).b < pw 276 := by
      refine Nat.lt_of_le_of_lt ?_ hV
      clear h1 h2 hV
      omega
    obtain ⟨R, a1, a2, a3, -⟩ := add_fz h1 (hg i hi) k2
    exact ⟨R, a1, a2, acc_arith (by omega) h2 a3⟩
  have main : ∀ i, i ≤ n → (acc g i).b < 2139095040 ∧ 1000 * vz (acc g i).b ≤ (1000 + 2 * i) * (su (fun i => vz (g i).b) i + i) := by
    intro i
    induction i with
    | zero => intro _; exact ⟨(show (0 : Nat) < 2139095040 by omega), (show 1000 * vz 0 ≤ _ by rw [vz_zero]; exact Nat.zero_le _)⟩
    | succ i ih =>
      intro hi
      obtain ⟨h1, h2⟩ := ih (by omega)
      obtain ⟨R, a1, a2, a3⟩ := step i hi h1 h2
      rw [acc_succ, fop_some a1, su_succ]
      exact ⟨a2, a3⟩
  intro i hi
  obtain ⟨h1, h2⟩ := main i hi
  refine ⟨h1, h2, fun hlt => ?_⟩
  obtain ⟨R, a1, a2, a3⟩ := step i hlt h1 h2
  rw [acc_succ, fop_some a1]; exact a1
theorem one1_pw : one1 = pw 149 := by decide +kernel
/-- A product of a number of the row and a chance. -/
theorem prod_fz {a b : F32} (ha : a.b < 2139095040) (hb : Fz b.b) (h1 : vz b.b ≤ one1) (hX : vz a.b ≤ pw 200) : floatBits .mul .f32 a.b b.b = some (fop .mul a b).b ∧ Fz (fop .mul a b).b ∧ 1000 * (vz (fop .mul a b).b * one1) ≤ 1001 * (vz a.b * vz b.b) + 1000 * one1 ∧ 1000 * vz (fop .mul a b).b ≤ 1001 * vz a.b + 1000 := by
  have hlt : vz a.b * vz b.b < pw 425 := by
    have h2 : vz a.b * vz b.b ≤ pw 200 * one1 := Nat.mul_le_mul hX h1
    exact Nat.lt_of_le_of_lt h2 (by decide +kernel)
  obtain ⟨R, a1, a2, a3⟩ := mul_fz ha hb hlt
  have e : (fop .mul a b).b = R := fop_some a1
  rw [e]
  rw [show (2 : Nat) ^ 149 = one1 from by decide +kernel] at a3
  have h3 : vz a.b * vz b.b ≤ vz a.b * one1 := Nat.mul_le_mul_left _ h1
  refine ⟨a1, a2, ?_, ?_⟩
  · generalize vz R * one1 = x at a3 ⊢
    generalize vz a.b * vz b.b = y at a3 ⊢
    generalize one1 = z at a3 ⊢
    omega
  · have hp : 0 < one1 := by decide +kernel
    apply Nat.le_of_mul_le_mul_right (c := one1) _ hp
    rw [Nat.add_mul, Nat.mul_assoc, Nat.mul_assoc]
    generalize vz R * one1 = x at a3 ⊢
    generalize vz a.b * vz b.b = y at a3 h3
    generalize vz a.b * one1 = v at h3 ⊢
    generalize one1 = z at a3 ⊢
    omega
/-- A number of the next row. -/
def nxF (r : Nat → F32) (t : Nat → Nat → F32) (n k : Nat) : F32 := acc (fun i => fop .mul (r i) (t i k)) n
structure Tb (t : Nat → Nat → F32) (n : Nat) : Prop where
  n5 : n ≤ 5
  fz : ∀ i k, i < n → k < n → Fz (t i k).b ∧ vz (t i k).b ≤ one1
  row : ∀ i, i < n → 100 * su (fun k => vz (t i k).b) n ≤ 102 * one1
theorem sum_arith {n A C R P : Nat} (hn : n ≤ 5) (h1 : 10000 * C ≤ 10220 * A + 1000 * 50 * n) (h2 : 1000 * R ≤ 1010 * (C + 25)) : 10 * R ≤ 11 * A + 1000 := by
  omega
theorem round_fz {r : Nat → F32} {t : Nat → Nat → F32} {n : Nat} (ht : Tb t n) (hr : ∀ i, i < n → (r i).b < 2139095040) (hR : 100 * su (fun i => vz (r i).b) n ≤ pw 200) :
    (∀ k, k < n → (∀ i, i < n → floatBits .mul .f32 (r i).b (t i k).b = some (fop .mul (r i) (t i k)).b ∧ floatBits .add .f32 (acc (fun i => fop .mul (r i) (t i k)) i).b (fop .mul (r i) (t i k)).b = some (acc (fun i => fop .mul (r i) (t i k)) (i + 1)).b) ∧ (nxF r t n k).b < 2139095040 ∧ vz (nxF r t n k).b ≤ pw 200) ∧
    10 * su (fun k => vz (nxF r t n k).b) n ≤ 11 * su (fun i => vz (r i).b) n + 1000 := by
  obtain ⟨n5, htz, htr⟩ := ht
  have hr1 : ∀ i, i < n → vz (r i).b ≤ pw 200 := by
    intro i hi
    have := su_one (fun i => vz (r i).b) hi
    have this : vz (r i).b ≤ su (fun i => vz (r i).b) n := this
    omega
  have hp := fun i k (hi : i < n) (hk : k < n) => prod_fz (hr i hi) (htz i k hi hk).1 (htz i k hi hk).2 (hr1 i hi)
  -- a column's products
  have hcol : ∀ k, k < n → 1000 * su (fun i => vz (fop .mul (r i) (t i k)).b) n ≤ 1001 * su (fun i => vz (r i).b) n + 5000 := by
    intro k hk
    have h1 : su (fun i => 1000 * vz (fop .mul (r i) (t i k)).b) n ≤ su (fun i => 1001 * vz (r i).b + 1000) n := su_le fun i hi => (hp i k hi hk).2.2.2
    rw [su_mul, su_add, su_mul, su_const] at h1
    omega
  have hV : 3 * (2 * su (fun i => vz (r i).b) n + 5) + 10 < pw 276 := by
    have : pw 200 + 100 < pw 276 := by decide +kernel
    omega
  have hacc := fun k (hk : k < n) => acc_fz (g := fun i => fop .mul (r i) (t i k)) (V := 2 * su (fun i => vz (r i).b) n + 5) n5 (fun i hi => (hp i k hi hk).2.1) (by have := hcol k hk; omega) hV
  have hk1 : ∀ k, k < n → 1000 * vz (nxF r t n k).b ≤ 1010 * (su (fun i => vz (fop .mul (r i) (t i k)).b) n + 5) := by
    intro k hk
    have h1 := (hacc k hk n (Nat.le_refl _)).2.1
    have h2 : (1000 + 2 * n) * (su (fun i => vz (fop .mul (r i) (t i k)).b) n + n) ≤ 1010 * (su (fun i => vz (fop .mul (r i) (t i k)).b) n + 5) := Nat.mul_le_mul (by omega) (by omega)
    exact Nat.le_trans h1 h2
  refine ⟨fun k hk => ⟨fun i hi => ⟨(hp i k hi hk).1, (hacc k hk i (Nat.le_of_lt hi)).2.2 hi⟩, (hacc k hk n (Nat.le_refl _)).1, ?_⟩, ?_⟩
  · have h1 := hk1 k hk
    have h2 := hcol k hk
    have : 100 ≤ pw 200 := by decide +kernel
    omega
  · have h2 : 1000 * su (fun k => vz (nxF r t n k).b) n ≤ 1010 * (su (fun k => su (fun i => vz (fop .mul (r i) (t i k)).b) n) n + 25) := by
      have h3 : su (fun k => 1000 * vz (nxF r t n k).b) n ≤ su (fun k => 1010 * su (fun i => vz (fop .mul (r i) (t i k)).b) n + 5050) n := su_le fun k hk => by have := hk1 k hk; omega
      rw [su_mul, su_add, su_mul, su_const] at h3
      omega
    rw [su_comm] at h2
    have h4 : ∀ i, i < n → 10000 * su (fun k => vz (fop .mul (r i) (t i k)).b) n ≤ 10220 * vz (r i).b + 50000 := by
      intro i hi
      have h5 : su (fun k => 1000 * (vz (fop .mul (r i) (t i k)).b * one1)) n ≤ su (fun k => 1001 * (vz (r i).b * vz (t i k).b) + 1000 * one1) n := su_le fun k hk => (hp i k hi hk).2.2.1
      have e1 : (fun k => 1000 * (vz (fop .mul (r i) (t i k)).b * one1)) = (fun k => (1000 * one1) * vz (fop .mul (r i) (t i k)).b) := by
        funext k; rw [Nat.mul_assoc, Nat.mul_comm one1]
      have e2 : (fun k => 1001 * (vz (r i).b * vz (t i k).b) + 1000 * one1) = (fun k => (1001 * vz (r i).b) * vz (t i k).b + 1000 * one1) := by
        funext k; rw [Nat.mul_assoc]
      rw [e1, e2, su_mul, su_add, su_mul, su_const] at h5
      have h6 := Nat.mul_le_mul_left (1001 * vz (r i).b) (htr i hi)
      have hpo : 0 < one1 := by decide +kernel
      apply Nat.le_of_mul_le_mul_right (c := one1) _ hpo
      have h7 : n * (1000 * one1) ≤ 5 * (1000 * one1) := Nat.mul_le_mul_right _ n5
      generalize su (fun k => vz (fop .mul (r i) (t i k)).b) n = x at h5 ⊢
      generalize su (fun k => vz (t i k).b) n = y at h5 h6
      have g1 : 1000 * one1 * x = 1000 * (x * one1) := by rw [Nat.mul_assoc, Nat.mul_comm one1]
      have g2 : 1001 * vz (r i).b * (100 * y) = 100 * (1001 * vz (r i).b * y) := Nat.mul_left_comm _ _ _
      have g3 : 1001 * vz (r i).b * (102 * one1) = 102102 * (vz (r i).b * one1) := by
        rw [Nat.mul_left_comm, Nat.mul_assoc 1001, ← Nat.mul_assoc 102 1001]
      rw [g1] at h5
      rw [g2, g3] at h6
      rw [Nat.add_mul, Nat.mul_assoc, Nat.mul_assoc]
      generalize 1001 * vz (r i).b * y = q at h5 h6
      generalize x * one1 = p at h5 ⊢
      generalize vz (r i).b * one1 = s at h6 ⊢
      generalize one1 = z at h5 h6 h7 ⊢
      omega
    have h8 : su (fun i => 10000 * su (fun k => vz (fop .mul (r i) (t i k)).b) n) n ≤ su (fun i => 10220 * vz (r i).b + 50000) n := su_le h4
    rw [su_mul, su_add, su_mul, su_const] at h8
    exact sum_arith (P := 0) n5 (by omega) h2
end Go.Proofs.Ytomofghiafcefaa
