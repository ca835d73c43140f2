/- Rows of chances, plainly: sums from +0 on, and how near to 1 they are. -/
import Derived.Test.YtomofghiafcefaaSmP

namespace Go.Proofs.Ytomofghiafcefaa
open Go.RowKit Ieee
set_option linter.unusedVariables false
def ordF (x y : Nat) : Option Ordering := (FloatKind.format .f32).order x y
def leF (x y : Nat) : Bool := ordF x y == some .lt || ordF x y == some .eq
def geF (x y : Nat) : Bool := ordF x y == some .gt || ordF x y == some .eq
/-- A number that is at least 0 (either zero), or the infinity. -/
def NN (x : Nat) : Prop := (∃ s m e, Ieee.single.read x = .number s m e ∧ (s = false ∨ m = 0)) ∨ Ieee.single.read x = .infinity false
theorem read_zero : Ieee.single.read 0 = .number false 0 (-149) := by decide +kernel
theorem read_one : Ieee.single.read 1065353216 = .number false 8388608 (-23) := by decide +kernel
theorem NN.zero : NN 0 := .inl ⟨_, _, _, read_zero, .inl rfl⟩
theorem NN.notNaN {x : Nat} (h : NN x) : isN .f32 x = false := by
  show (Ieee.single.read x).isNaN = false
  rcases h with ⟨s, m, e, h, _⟩ | h <;> rw [h] <;> rfl
theorem signed_neg {s : Bool} {m k : Nat} : Ieee.signed s m k < 0 ↔ s = true ∧ m ≠ 0 := by
  have hp := Nat.two_pow_pos k
  cases s
  · simp only [Ieee.signed]
    constructor
    · intro h; exfalso; exact absurd h (Int.not_lt.2 (Int.natCast_nonneg _))
    · intro h; cases h.1
  · simp only [Ieee.signed, Nat.shiftLeft_eq, if_true, true_and]
    constructor
    · intro h e; subst e; simp at h
    · intro h
      have : 0 < m * 2 ^ k := Nat.mul_pos (by omega) hp
      omega
theorem signed_zero (s : Bool) (k : Nat) : Ieee.signed s 0 k = 0 := by cases s <;> simp [Ieee.signed]
theorem cmp_lt {a b : Int} : compare a b = .lt ↔ a < b := by
  simp only [compare, compareOfLessAndEq]
  split
  · simp; assumption
  · split <;> simp <;> omega
theorem cmp_gt {a b : Int} : compare a b = .gt ↔ b < a := by
  simp only [compare, compareOfLessAndEq]
  split
  · simp; omega
  · split <;> simp <;> omega
theorem cmp_eq {a b : Int} : compare a b = .eq ↔ a = b := by
  simp only [compare, compareOfLessAndEq]
  split
  · simp; omega
  · split <;> simp <;> omega
theorem NN.of_ge {x : Nat} (h : geF x 0 = true) : NN x := by
  unfold geF ordF at h
  have e : (FloatKind.format .f32).order x 0 = (Ieee.single.read x).order (Ieee.single.read 0) := rfl
  rw [e, read_zero] at h
  cases hd : Ieee.single.read x with
  | nan s f => rw [hd] at h; simp [Datum.order] at h
  | infinity s => rw [hd] at h; cases s
                  · exact .inr hd
                  · simp [Datum.order] at h
  | number s m i =>
    rw [hd] at h
    refine .inl ⟨s, m, i, hd, ?_⟩
    simp only [Datum.order, signed_zero] at h
    by_cases hs : s = true ∧ m ≠ 0
    · have := cmp_lt.2 (signed_neg (k := (i - min i (-149)).toNat).2 hs)
      rw [this] at h; simp at h
    · cases s
      · exact .inl rfl
      · right
        rcases Nat.eq_zero_or_pos m with h0 | h0
        · exact h0
        · exact absurd ⟨rfl, by omega⟩ hs
theorem nearest_false (f : Format) (m : Nat) (p : Int) : ∃ r, r ≤ f.infRung ∧ f.nearest false m p = r := by
  obtain ⟨r, hr, e⟩ := nearest_form f false m p
  exact ⟨r, hr, by rw [e]; rfl⟩
theorem NN.of_rung {r : Nat} (h : r ≤ 2139095040) : NN r := by
  have e0 : r / 2147483648 % 2 = 0 := by omega
  have e1 : r % 2147483648 = r := Nat.mod_eq_of_lt (by omega)
  unfold NN Format.read
  simp only [sg1, sg2, sg3, sg4, e0, e1]
  by_cases h1 : r < 8388608
  · rw [if_pos h1]; exact .inl ⟨_, _, _, rfl, .inl rfl⟩
  · rw [if_neg h1]
    by_cases h2 : r < 2139095040
    · rw [if_pos h2]; exact .inl ⟨_, _, _, rfl, .inl rfl⟩
    · rw [if_neg h2, if_pos (by omega)]; exact .inr rfl
theorem NN.zeroS (s : Bool) (p : Int) : NN (Ieee.single.nearest s 0 p) := by
  cases s
  · obtain ⟨r, hr, e⟩ := nearest_false Ieee.single 0 p
    rw [e]; exact NN.of_rung (by rw [sg3] at hr; exact hr)
  · have e : Ieee.single.nearest true 0 p = 2147483648 := by simp [Format.nearest, Format.word, sg1]
    rw [e]
    exact .inl ⟨true, 0, -149, by decide +kernel, .inr rfl⟩
theorem NN.nearest (m : Nat) (p : Int) : NN (Ieee.single.nearest false m p) := by
  obtain ⟨r, hr, e⟩ := nearest_false Ieee.single m p
  rw [e]; exact NN.of_rung (by rw [sg3] at hr; exact hr)
theorem NN.inf : NN (Ieee.single.write (.infinity false)) := NN.of_rung (by rw [show Ieee.single.write (.infinity false) = 2139095040 from by decide +kernel]; omega)
/-- A sum of two of them is one of them. -/
theorem NN.add {x y : Nat} (hx : NN x) (hy : NN y) : ∃ r, floatBits .add .f32 x y = some r ∧ NN r ∧ r < 4294967296 := by
  have key : ∃ r, floatBits .add .f32 x y = some r ∧ NN r := by
    show ∃ r, (((Ieee.single.read x).sum (Ieee.single.read y)).map Ieee.single.write) = some r ∧ NN r
    rcases hx with ⟨s, m, i, hx, h1⟩ | hx
    · rcases hy with ⟨t, n, j, hy, h2⟩ | hy
      · rw [hx, hy]
        refine ⟨_, rfl, ?_⟩
        simp only [Format.write]
        have g1 : 0 ≤ Ieee.signed s m (i - min i j).toNat := by
          have := mt (signed_neg (s := s) (m := m) (k := (i - min i j).toNat)).1 (by rcases h1 with rfl | rfl <;> simp); omega
        have g2 : 0 ≤ Ieee.signed t n (j - min i j).toNat := by
          have := mt (signed_neg (s := t) (m := n) (k := (j - min i j).toNat)).1 (by rcases h2 with rfl | rfl <;> simp); omega
        generalize Ieee.signed s m (i - min i j).toNat = u at g1 ⊢
        generalize Ieee.signed t n (j - min i j).toNat = v at g2 ⊢
        by_cases h0 : u + v = 0
        · rw [h0]; exact NN.zeroS _ _
        · rw [if_neg h0, decide_eq_false (by omega)]; exact NN.nearest _ _
      · rw [hx, hy]; exact ⟨_, rfl, NN.inf⟩
    · rcases hy with ⟨t, n, j, hy, h2⟩ | hy
      · rw [hx, hy]; exact ⟨_, rfl, NN.inf⟩
      · rw [hx, hy]; exact ⟨_, rfl, NN.inf⟩
  obtain ⟨r, hr, hn⟩ := key
  exact ⟨r, hr, hn, by have := FloatKind.f32.format.add_lt (show FloatKind.f32.format.add x y = some r from hr); exact this⟩
def fop (op : BinOp) (x y : F32) : F32 := match h : floatBits op .f32 x.b y.b with
  | some r => ⟨r, by have := floatBits_wf h; simpa [Lit.wf] using this⟩
  | none => ⟨0, by omega⟩
theorem fop_some {op : BinOp} {x y : F32} {r : Nat} (h : floatBits op .f32 x.b y.b = some r) : (fop op x y).b = r := by
  unfold fop
  split
  · rename_i r' h'; rw [h] at h'; exact (Option.some.inj h').symm
  · rename_i h'; rw [h] at h'; cases h'
theorem fop_run {op : BinOp} {x y : F32} (h : (floatBits op .f32 x.b y.b).isSome = true) : floatBits op .f32 x.b y.b = some (fop op x y).b := by
  obtain ⟨r, hr⟩ := Option.isSome_iff_exists.1 h
  rw [hr, fop_some hr]
theorem NN.fadd {x y : F32} (hx : NN x.b) (hy : NN y.b) : floatBits .add .f32 x.b y.b = some (fop .add x y).b ∧ NN (fop .add x y).b := by
  obtain ⟨r, hr, hn, _⟩ := NN.add hx hy
  exact ⟨fop_run (by rw [hr]; rfl), by rw [fop_some hr]; exact hn⟩
def f0 : F32 := ⟨0, by omega⟩
def f1 : F32 := ⟨1065353216, by omega⟩
def fsum (xs : List F32) : F32 := xs.foldl (fop .add) f0
theorem fsum_nil : fsum [] = f0 := rfl
theorem fsum_snoc (xs : List F32) (x : F32) : fsum (xs ++ [x]) = fop .add (fsum xs) x := by simp [fsum, List.foldl_append]
theorem fsum_NN {xs : List F32} (h : ∀ x ∈ xs, NN x.b) : NN (fsum xs).b := by
  suffices H : ∀ (xs : List F32) (a : F32), NN a.b → (∀ x ∈ xs, NN x.b) → NN (xs.foldl (fop .add) a).b from H xs f0 NN.zero h
  intro xs
  induction xs with
  | nil => intro a ha _; exact ha
  | cons x xs ih => intro a ha hx; exact ih _ (NN.fadd ha (hx x (by simp))).2 (fun y hy => hx y (by simp [hy]))
/-- What is left of 1: some number. -/
theorem NN.sub1 {x : F32} (hx : NN x.b) : floatBits .sub .f32 x.b 1065353216 = some (fop .sub x f1).b ∧ isN .f32 (fop .sub x f1).b = false := by
  have key : ∃ r, floatBits .sub .f32 x.b f1.b = some r ∧ isN .f32 r = false := by
    show ∃ r, (((Ieee.single.read x.b).sum (Ieee.single.read 1065353216).opposite).map Ieee.single.write) = some r ∧ (Ieee.single.read r).isNaN = false
    rw [read_one]
    rcases hx with ⟨s, m, i, hx, h1⟩ | hx
    · rw [hx]; exact ⟨_, rfl, write_notNaN _ rfl⟩
    · rw [hx]; exact ⟨_, rfl, write_notNaN _ rfl⟩
  obtain ⟨r, hr, hn⟩ := key
  exact ⟨fop_run (y := f1) (by rw [hr]; rfl), by rw [fop_some hr]; exact hn⟩
theorem xor_top {r : Nat} (h : r < 2147483648) : r ^^^ 2147483648 = 2147483648 + r := by
  have e : (2147483648 : Nat) = 2 ^ 31 := by decide
  rw [e] at h ⊢
  apply Nat.eq_of_testBit_eq
  intro i
  rw [Nat.testBit_xor]
  rcases Nat.lt_trichotomy i 31 with hi | hi | hi
  · rw [Nat.testBit_two_pow_add_gt hi, Nat.testBit_two_pow_of_ne (by omega)]; simp
  · subst hi; rw [Nat.testBit_two_pow_add_eq, Nat.testBit_two_pow_self]; simp
  · rw [Nat.testBit_lt_two_pow (Nat.lt_of_lt_of_le h (Nat.pow_le_pow_right (by omega) (by omega))), Nat.testBit_two_pow_of_ne (by omega), Nat.testBit_lt_two_pow]
    · rfl
    · have : 2 ^ 32 ≤ 2 ^ i := Nat.pow_le_pow_right (by omega) (by omega)
      have e2 : (2 : Nat) ^ 32 = 2 ^ 31 + 2 ^ 31 := by decide
      omega
theorem xor_top' {r : Nat} (h : r < 2147483648) : (2147483648 + r) ^^^ 2147483648 = r := by
  rw [← xor_top h, Nat.xor_assoc, Nat.xor_self, Nat.xor_zero]
theorem neg_bits {b : Nat} (hb : b < 4294967296) : (Op.negFloat .f32 b) % 2147483648 = b % 2147483648 ∧ sgn (Op.negFloat .f32 b) = !sgn b ∧ Op.negFloat .f32 b < 4294967296 := by
  have e : Op.negFloat .f32 b = b ^^^ 2147483648 := rfl
  rw [e]
  unfold sgn
  rcases Nat.lt_or_ge b 2147483648 with h | h
  · rw [xor_top h]
    refine ⟨by omega, ?_, by omega⟩
    rw [show (2147483648 + b) / 2147483648 = 1 by omega, show b / 2147483648 = 0 by omega]; rfl
  · obtain ⟨r, rfl⟩ : ∃ r, b = 2147483648 + r := ⟨b - 2147483648, by omega⟩
    rw [xor_top' (by omega)]
    refine ⟨by omega, ?_, by omega⟩
    rw [show (2147483648 + r) / 2147483648 = 1 by omega, show r / 2147483648 = 0 by omega]; rfl
theorem read_neg {b : Nat} (hb : b < 4294967296) : Ieee.single.read (Op.negFloat .f32 b) = (Ieee.single.read b).opposite := by
  obtain ⟨h1, h2, _⟩ := neg_bits hb
  unfold sgn at h2
  unfold Format.read
  simp only [sg1, sg2, sg3, sg4, h1, h2]
  split
  · rfl
  · split
    · rfl
    · split <;> rfl
theorem signed_not (s : Bool) (m k : Nat) : Ieee.signed (!s) m k = - Ieee.signed s m k := by cases s <;> simp [Ieee.signed]
theorem cmp_neg (a b : Int) : compare (-a) (-b) = (compare b a) := by
  rcases Int.lt_trichotomy a b with h | h | h
  · rw [cmp_gt.2 (show -b < -a by omega), cmp_gt.2 h]
  · subst h; rw [cmp_eq.2 rfl, cmp_eq.2 rfl]
  · rw [cmp_lt.2 (show -a < -b by omega), cmp_lt.2 h]
theorem order_opp (d e : Datum) : d.opposite.order e.opposite = e.order d := by
  cases d with
  | nan s f => cases e <;> simp [Datum.opposite, Datum.order]
  | infinity s => cases e with
    | nan t g => simp [Datum.opposite, Datum.order]
    | infinity t => cases s <;> cases t <;> simp [Datum.opposite, Datum.order]
    | number t n j => cases s <;> simp [Datum.opposite, Datum.order]
  | number s m i => cases e with
    | nan t g => simp [Datum.opposite, Datum.order]
    | infinity t => cases t <;> simp [Datum.opposite, Datum.order]
    | number t n j =>
      simp only [Datum.opposite, Datum.order, signed_not, cmp_neg]
      rw [Int.min_comm]
def cN : Nat := 981668463
def cM : Nat := 3129152111
theorem read_cN : Ieee.single.read cN = .number false 8589935 (-33) := by decide +kernel
theorem read_cM : Ieee.single.read cM = .number true 8589935 (-33) := by decide +kernel
theorem ord_swap (x y : Nat) : ordF x y = (ordF y x).map Ordering.swap := by
  show (Ieee.single.read x).order (Ieee.single.read y) = ((Ieee.single.read y).order (Ieee.single.read x)).map Ordering.swap
  cases Ieee.single.read x with
  | nan s f => cases Ieee.single.read y <;> simp [Datum.order]
  | infinity s => cases Ieee.single.read y with
    | nan t g => simp [Datum.order]
    | infinity t => cases s <;> cases t <;> simp [Datum.order] <;> decide
    | number t n j => cases s <;> simp [Datum.order]
  | number s m i => cases Ieee.single.read y with
    | nan t g => simp [Datum.order]
    | infinity t => cases t <;> simp [Datum.order]
    | number t n j =>
      simp only [Datum.order, Option.map]
      rw [Int.min_comm j i]
      generalize Ieee.signed s m (i - min i j).toNat = u
      generalize Ieee.signed t n (j - min i j).toNat = v
      rcases Int.lt_trichotomy u v with h | h | h
      · rw [cmp_lt.2 h, cmp_gt.2 h]; rfl
      · subst h; rw [cmp_eq.2 rfl]; rfl
      · rw [cmp_gt.2 h, cmp_lt.2 h]; rfl
theorem ord_neg_c {d : Nat} (hd : d < 4294967296) : ordF (Op.negFloat .f32 d) cN = ordF cM d := by
  show (Ieee.single.read (Op.negFloat .f32 d)).order (Ieee.single.read cN) = (Ieee.single.read cM).order (Ieee.single.read d)
  rw [read_neg hd, read_cN, read_cM]
  exact order_opp (Ieee.single.read d) (.number true 8589935 (-33))
/-- Near to 0 by the absolute value, or by both sides. -/
theorem near_neg {d : Nat} (hd : d < 4294967296) (hl : ordF d 0 = some .lt) : leF (Op.negFloat .f32 d) cN = (leF d cN && geF d cM) := by
  have e1 : leF d cN = true := by
    have h' : (Ieee.single.read d).order (Ieee.single.read 0) = some .lt := hl
    rw [read_zero] at h'
    show ((Ieee.single.read d).order (Ieee.single.read cN) == some .lt || (Ieee.single.read d).order (Ieee.single.read cN) == some .eq) = true
    rw [read_cN]
    cases hr : Ieee.single.read d with
    | nan s f => rw [hr] at h'; simp [Datum.order] at h'
    | infinity s => rw [hr] at h'; cases s
                    · simp [Datum.order] at h'
                    · simp [Datum.order]
    | number s m i =>
      rw [hr] at h'
      simp only [Datum.order, signed_zero, Option.some.injEq] at h'
      have h2 := (signed_neg).1 (cmp_lt.1 h')
      simp only [Datum.order]
      have h3 := (signed_neg (k := (i - min i (-33)).toNat)).2 h2
      have h4 := mt (signed_neg (s := false) (m := 8589935) (k := (-33 - min i (-33)).toNat)).1 (by simp)
      rw [cmp_lt.2 (by omega)]; rfl
  rw [e1, Bool.true_and]
  unfold leF geF
  rw [ord_neg_c hd, ord_swap d cM]
  cases ordF cM d with
  | none => rfl
  | some o => cases o <;> rfl
theorem near_pos {d : Nat} (hn : isN .f32 d = false) (hl : ordF d 0 ≠ some .lt) : leF d cN = (leF d cN && geF d cM) := by
  have e1 : geF d cM = true := by
    have h' : (Ieee.single.read d).order (Ieee.single.read 0) ≠ some .lt := hl
    have hn' : (Ieee.single.read d).isNaN = false := hn
    rw [read_zero] at h'
    show ((Ieee.single.read d).order (Ieee.single.read cM) == some .gt || (Ieee.single.read d).order (Ieee.single.read cM) == some .eq) = true
    rw [read_cM]
    cases hr : Ieee.single.read d with
    | nan s f => rw [hr] at hn'; simp [Datum.isNaN] at hn'
    | infinity s => rw [hr] at h'; cases s
                    · simp [Datum.order]
                    · simp [Datum.order] at h'
    | number s m i =>
      rw [hr] at h'
      simp only [Datum.order, signed_zero] at h'
      have h2 : ¬ (s = true ∧ m ≠ 0) := fun q => h' (by rw [cmp_lt.2 ((signed_neg).2 q)])
      simp only [Datum.order]
      have h3 := mt (signed_neg (s := s) (m := m) (k := (i - min i (-33)).toNat)).1 h2
      have h4 := (signed_neg (s := true) (m := 8589935) (k := (-33 - min i (-33)).toNat)).2 (by simp)
      rw [cmp_gt.2 (by omega)]; rfl
  rw [e1, Bool.and_true]
end Go.Proofs.Ytomofghiafcefaa
