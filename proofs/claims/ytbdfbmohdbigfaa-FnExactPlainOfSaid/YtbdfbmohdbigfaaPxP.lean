/- Sets of states as masks, plainly: bits, and what the walks write of them. -/
import Derived.Test.YtbdfbmohdbigfaaCoQ
import Derived.Laws.BitsAllLaws
import Derived.Laws.Bits64b
import Derived.WalkKit

namespace Go.Proofs.Ytbdfbmohdbigfaa
set_option linter.unusedVariables false
/-- v is the mask of the places below S where p is true. -/
structure Mk_ (S v : Nat) (p : Nat → Bool) : Prop where
  lt : v < 2 ^ S
  bit : ∀ i, i < S → v.testBit i = p i
theorem Mk_.uniq {S v v' : Nat} {p : Nat → Bool} (h : Mk_ S v p) (h' : Mk_ S v' p) : v = v' := by
  apply Nat.eq_of_testBit_eq
  intro i
  rcases Nat.lt_or_ge i S with hi | hi
  · rw [h.bit i hi, h'.bit i hi]
  · rw [Nat.testBit_lt_two_pow (Nat.lt_of_lt_of_le h.lt (Nat.pow_le_pow_right (by omega) hi)), Nat.testBit_lt_two_pow (Nat.lt_of_lt_of_le h'.lt (Nat.pow_le_pow_right (by omega) hi))]
theorem Mk_.congr {S v : Nat} {p q : Nat → Bool} (h : Mk_ S v p) (e : ∀ i, i < S → p i = q i) : Mk_ S v q := ⟨h.lt, fun i hi => (h.bit i hi).trans (e i hi)⟩
theorem Mk_.zero (S : Nat) : Mk_ S 0 (fun _ => false) := ⟨Nat.two_pow_pos _, fun i _ => by simp⟩
theorem Mk_.put {S v i : Nat} {p : Nat → Bool} (h : Mk_ S v p) (hi : i < S) : Mk_ S (v ||| 2 ^ i) (fun k => p k || decide (k = i)) := by
  refine ⟨Nat.or_lt_two_pow h.lt (Nat.pow_lt_pow_right (by omega) hi), fun k hk => ?_⟩
  rw [Nat.testBit_or, h.bit k hk, Nat.testBit_two_pow]
  congr 1
  exact decide_eq_decide.2 ⟨fun e => e.symm, fun e => e.symm⟩
/-- The mask itself. -/
def mkN (p : Nat → Bool) : Nat → Nat
  | 0 => 0
  | S + 1 => if p S then mkN p S ||| 2 ^ S else mkN p S
theorem mkN_bit (p : Nat → Bool) : ∀ S, mkN p S < 2 ^ S ∧ ∀ i, (mkN p S).testBit i = (decide (i < S) && p i)
  | 0 => ⟨by simp [mkN], fun i => by simp [mkN]⟩
  | S + 1 => by
    obtain ⟨h1, h2⟩ := mkN_bit p S
    have h3 : mkN p S < 2 ^ (S + 1) := Nat.lt_of_lt_of_le h1 (Nat.pow_le_pow_right (by omega) (by omega))
    rw [mkN]
    split
    · rename_i hp
      refine ⟨Nat.or_lt_two_pow h3 (Nat.pow_lt_pow_right (by omega) (by omega)), fun i => ?_⟩
      rw [Nat.testBit_or, h2, Nat.testBit_two_pow]
      rcases Nat.lt_trichotomy i S with h | h | h
      · simp [h, show i < S + 1 by omega, show ¬ S = i by omega]
      · subst h; simp [hp]
      · simp [show ¬ i < S by omega, show ¬ i < S + 1 by omega, show ¬ S = i by omega]
    · rename_i hp
      refine ⟨h3, fun i => ?_⟩
      rw [h2]
      rcases Nat.lt_trichotomy i S with h | h | h
      · simp [h, show i < S + 1 by omega]
      · subst h; simp [hp]
      · simp [show ¬ i < S by omega, show ¬ i < S + 1 by omega]
theorem mkN_is (p : Nat → Bool) (S : Nat) : Mk_ S (mkN p S) p := ⟨(mkN_bit p S).1, fun i hi => by rw [(mkN_bit p S).2]; simp [hi]⟩
theorem Mk_.is {S v : Nat} {p : Nat → Bool} (h : Mk_ S v p) : v = mkN p S := h.uniq (mkN_is p S)
theorem pow16 {i : Nat} (hi : i < 16) : 2 ^ i ≤ 32768 := Nat.le_trans (Nat.pow_le_pow_right (by omega) (show i ≤ 15 by omega)) (by decide)
theorem Mk_.small {S v : Nat} {p : Nat → Bool} (h : Mk_ S v p) (hS : S ≤ 16) : v < 65536 := Nat.lt_of_lt_of_le h.lt (Nat.le_trans (Nat.pow_le_pow_right (by omega) hS) (by decide))
theorem and_u32 (a b : Nat) (ha : a < 4294967296) (hb : b < 4294967296) : bits .and .u32 (a : Int) (b : Int) = ((a &&& b : Nat) : Int) := by
  have hx : a &&& b < 2 ^ 32 := Nat.and_lt_two_pow _ (by omega)
  show IntKind.u32.wrap ((BitVec.ofInt 32 (a : Int) &&& BitVec.ofInt 32 (b : Int)).toNat : Int) = _
  rw [BitVec.toNat_and, ofInt_u32 a ha, ofInt_u32 b hb, IntKind.wrap_u32]
  omega
theorem or_u32 (a b : Nat) (ha : a < 4294967296) (hb : b < 4294967296) : bits .or .u32 (a : Int) (b : Int) = ((a ||| b : Nat) : Int) := by
  have hx : a ||| b < 2 ^ 32 := Nat.or_lt_two_pow (by omega) (by omega)
  show IntKind.u32.wrap ((BitVec.ofInt 32 (a : Int) ||| BitVec.ofInt 32 (b : Int)).toNat : Int) = _
  rw [BitVec.toNat_or, ofInt_u32 a ha, ofInt_u32 b hb, IntKind.wrap_u32]
  omega
theorem wrap_small (n : Nat) (h : n < 9223372036854775808) : IntKind.i64.wrap (n : Int) = (n : Int) := by
  rw [IntKind.wrap_i64]; omega
theorem and_i64 (a b : Nat) (ha : a < 9223372036854775808) (hb : b < 9223372036854775808) : bits .and .i64 (a : Int) (b : Int) = ((a &&& b : Nat) : Int) := by
  have hx : a &&& b < 2 ^ 63 := Nat.and_lt_two_pow _ (by omega)
  show IntKind.i64.wrap ((BitVec.ofInt 64 (a : Int) &&& BitVec.ofInt 64 (b : Int)).toNat : Int) = _
  rw [BitVec.toNat_and, ofInt_u64 a (by omega), ofInt_u64 b (by omega)]
  exact wrap_small _ (by omega)
theorem or_i64 (a b : Nat) (ha : a < 9223372036854775808) (hb : b < 9223372036854775808) : bits .or .i64 (a : Int) (b : Int) = ((a ||| b : Nat) : Int) := by
  have hx : a ||| b < 2 ^ 63 := Nat.or_lt_two_pow (by omega) (by omega)
  show IntKind.i64.wrap ((BitVec.ofInt 64 (a : Int) ||| BitVec.ofInt 64 (b : Int)).toNat : Int) = _
  rw [BitVec.toNat_or, ofInt_u64 a (by omega), ofInt_u64 b (by omega)]
  exact wrap_small _ (by omega)
theorem bit_div (v i : Nat) : v / 2 ^ i &&& 1 = if v.testBit i then 1 else 0 := by
  rw [Nat.and_one_is_mod, Nat.testBit_eq_decide_div_mod_eq]
  by_cases h : v / 2 ^ i % 2 = 1
  · simp [h]
  · simp [h]; omega
theorem div_cast (v i : Nat) : (v : Int) / 2 ^ i = ((v / 2 ^ i : Nat) : Int) := by
  rw [Int.natCast_ediv, Int.natCast_pow]; rfl
/-- What the walks write of 'set>>i&1'. -/
theorem tst_u32 {v i : Nat} (hv : v < 65536) : bits .and .u32 ((v : Int) / 2 ^ i) 1 = if v.testBit i then 1 else 0 := by
  have h1 : v / 2 ^ i ≤ v := Nat.div_le_self _ _
  rw [div_cast, show (1 : Int) = ((1 : Nat) : Int) from rfl, and_u32 _ 1 (by omega) (by omega), bit_div]
  split <;> rfl
theorem tst_i64 {v i : Nat} (hv : v < 65536) : bits .and .i64 ((v : Int) / 2 ^ i) 1 = if v.testBit i then 1 else 0 := by
  have h1 : v / 2 ^ i ≤ v := Nat.div_le_self _ _
  rw [div_cast, show (1 : Int) = ((1 : Nat) : Int) from rfl, and_i64 _ 1 (by omega) (by omega), bit_div]
  split <;> rfl
theorem pow_cast (i : Nat) : (2 : Int) ^ i = ((2 ^ i : Nat) : Int) := by rw [Int.natCast_pow]; rfl
theorem wrapu_pow {i : Nat} (hi : i < 16) : IntKind.u32.wrap (2 ^ i) = ((2 ^ i : Nat) : Int) := by
  have h := pow16 hi
  rw [pow_cast]; generalize 2 ^ i = q at *; rw [IntKind.wrap_u32]; omega
theorem wrap_pow {i : Nat} (hi : i < 16) : IntKind.i64.wrap (2 ^ i) = ((2 ^ i : Nat) : Int) := by
  have h := pow16 hi
  rw [pow_cast]; generalize 2 ^ i = q at *; rw [IntKind.wrap_i64]; omega
theorem put_u32 {v i : Nat} (hv : v < 65536) (hi : i < 16) : bits .or .u32 (v : Int) ((2 ^ i : Nat) : Int) = ((v ||| 2 ^ i : Nat) : Int) := by
  have h := pow16 hi
  exact or_u32 _ _ (by omega) (by omega)
theorem put_i64 {v i : Nat} (hv : v < 65536) (hi : i < 16) : bits .or .i64 (v : Int) ((2 ^ i : Nat) : Int) = ((v ||| 2 ^ i : Nat) : Int) := by
  have h := pow16 hi
  exact or_i64 _ _ (by omega) (by omega)
end Go.Proofs.Ytbdfbmohdbigfaa
