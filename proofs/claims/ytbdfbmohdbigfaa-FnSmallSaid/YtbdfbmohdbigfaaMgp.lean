/- Several texts in one: Sets of states as masks, plainly: bits, and what the walks write of them. Closing masks under empty arcs, plainly: by the laws of least costs at arcs without cost. Plain machines that are explored from a first state on, plainly: states in the order in which they are found. -/
import Derived.Test.YtbdfbmohdbigfaaMgd
import Derived.Laws.BitsAllLaws
import Derived.Laws.Bits64b
import Derived.WalkKit
import Derived.Test.YtbdfbmohdbigfaaMga

namespace Go.Proofs.Ytbdfbmohdbigfaa
set_option linter.unusedVariables false
/-- v is the mask of the places below S where p is true. -/
structure Mk_ (S v : Nat) (p : Nat → Bool) : Prop where
  lt : v < 2 ^ S
  bit : ∀ i, i < S → v.testBit i = p i
theorem Mk_.uniq {S v v' : Nat} {p : Nat → Bool} (h : Mk_ S v p) (h' : Mk_ S v' p) : v = v' := by
  apply Nat.eq_of_testBit_eq
  intro i
  rcases Nat.lt_or_ge i S with hi | hi
  · rw [h.bit i hi, h'.bit i hi]
  · rw [Nat.testBit_lt_two_pow (Nat.lt_of_lt_of_le h.lt (Nat.pow_le_pow_right (by omega) hi)), Nat.testBit_lt_two_pow (Nat.lt_of_lt_of_le h'.lt (Nat.pow_le_pow_right (by omega) hi))]
theorem Mk_.congr {S v : Nat} {p q : Nat → Bool} (h : Mk_ S v p) (e : ∀ i, i < S → p i = q i) : Mk_ S v q := ⟨h.lt, fun i hi => (h.bit i hi).trans (e i hi)⟩
theorem Mk_.zero (S : Nat) : Mk_ S 0 (fun _ => false) := ⟨Nat.two_pow_pos _, fun i _ => by simp⟩
theorem Mk_.put {S v i : Nat} {p : Nat → Bool} (h : Mk_ S v p) (hi : i < S) : Mk_ S (v ||| 2 ^ i) (fun k => p k || decide (k = i)) := by
  refine ⟨Nat.or_lt_two_pow h.lt (Nat.pow_lt_pow_right (by omega) hi), fun k hk => ?_⟩
  rw [Nat.testBit_or, h.bit k hk, Nat.testBit_two_pow]
  congr 1
  exact decide_eq_decide.2 ⟨fun e => e.symm, fun e => e.symm⟩
/-- The mask itself. -/
def mkN (p : Nat → Bool) : Nat → Nat
  | 0 => 0
  | S + 1 => if p S then mkN p S ||| 2 ^ S else mkN p S
theorem mkN_bit (p : Nat → Bool) : ∀ S, mkN p S < 2 ^ S ∧ ∀ i, (mkN p S).testBit i = (decide (i < S) && p i)
  | 0 => ⟨by simp [mkN], fun i => by simp [mkN]⟩
  | S + 1 => by
    obtain ⟨h1, h2⟩ := mkN_bit p S
    have h3 : mkN p S < 2 ^ (S + 1) := Nat.lt_of_lt_of_le h1 (Nat.pow_le_pow_right (by omega) (by omega))
    rw [mkN]
    split
    · rename_i hp
      refine ⟨Nat.or_lt_two_pow h3 (Nat.pow_lt_pow_right (by omega) (by omega)), fun i => ?_⟩
      rw [Nat.testBit_or, h2, Nat.testBit_two_pow]
      rcases Nat.lt_trichotomy i S with h | h | h
      · simp [h, show i < S + 1 by omega, show ¬ S = i by omega]
      · subst h; simp [hp]
      · simp [show ¬ i < S by omega, show ¬ i < S + 1 by omega, show ¬ S = i by omega]
    · rename_i hp
      refine ⟨h3, fun i => ?_⟩
      rw [h2]
      rcases Nat.lt_trichotomy i S with h | h | h
      · simp [h, show i < S + 1 by omega]
      · subst h; simp [hp]
      · simp [show ¬ i < S by omega, show ¬ i < S + 1 by omega]
theorem mkN_is (p : Nat → Bool) (S : Nat) : Mk_ S (mkN p S) p := ⟨(mkN_bit p S).1, fun i hi => by rw [(mkN_bit p S).2]; simp [hi]⟩
theorem Mk_.is {S v : Nat} {p : Nat → Bool} (h : Mk_ S v p) : v = mkN p S := h.uniq (mkN_is p S)
theorem pow16 {i : Nat} (hi : i < 16) : 2 ^ i ≤ 32768 := Nat.le_trans (Nat.pow_le_pow_right (by omega) (show i ≤ 15 by omega)) (by decide)
theorem Mk_.small {S v : Nat} {p : Nat → Bool} (h : Mk_ S v p) (hS : S ≤ 16) : v < 65536 := Nat.lt_of_lt_of_le h.lt (Nat.le_trans (Nat.pow_le_pow_right (by omega) hS) (by decide))
theorem and_u32 (a b : Nat) (ha : a < 4294967296) (hb : b < 4294967296) : bits .and .u32 (a : Int) (b : Int) = ((a &&& b : Nat) : Int) := by
  have hx : a &&& b < 2 ^ 32 := Nat.and_lt_two_pow _ (by omega)
  show IntKind.u32.wrap ((BitVec.ofInt 32 (a : Int) &&& BitVec.ofInt 32 (b : Int)).toNat : Int) = _
  rw [BitVec.toNat_and, ofInt_u32 a ha, ofInt_u32 b hb, IntKind.wrap_u32]
  omega
theorem or_u32 (a b : Nat) (ha : a < 4294967296) (hb : b < 4294967296) : bits .or .u32 (a : Int) (b : Int) = ((a ||| b : Nat) : Int) := by
  have hx : a ||| b < 2 ^ 32 := Nat.or_lt_two_pow (by omega) (by omega)
  show IntKind.u32.wrap ((BitVec.ofInt 32 (a : Int) ||| BitVec.ofInt 32 (b : Int)).toNat : Int) = _
  rw [BitVec.toNat_or, ofInt_u32 a ha, ofInt_u32 b hb, IntKind.wrap_u32]
  omega
theorem wrap_small (n : Nat) (h : n < 9223372036854775808) : IntKind.i64.wrap (n : Int) = (n : Int) := by
  rw [IntKind.wrap_i64]; omega
theorem and_i64 (a b : Nat) (ha : a < 9223372036854775808) (hb : b < 9223372036854775808) : bits .and .i64 (a : Int) (b : Int) = ((a &&& b : Nat) : Int) := by
  have hx : a &&& b < 2 ^ 63 := Nat.and_lt_two_pow _ (by omega)
  show IntKind.i64.wrap ((BitVec.ofInt 64 (a : Int) &&& BitVec.ofInt 64 (b : Int)).toNat : Int) = _
  rw [BitVec.toNat_and, ofInt_u64 a (by omega), ofInt_u64 b (by omega)]
  exact wrap_small _ (by omega)
theorem or_i64 (a b : Nat) (ha : a < 9223372036854775808) (hb : b < 9223372036854775808) : bits .or .i64 (a : Int) (b : Int) = ((a ||| b : Nat) : Int) := by
  have hx : a ||| b < 2 ^ 63 := Nat.or_lt_two_pow (by omega) (by omega)
  show IntKind.i64.wrap ((BitVec.ofInt 64 (a : Int) ||| BitVec.ofInt 64 (b : Int)).toNat : Int) = _
  rw [BitVec.toNat_or, ofInt_u64 a (by omega), ofInt_u64 b (by omega)]
  exact wrap_small _ (by omega)
theorem bit_div (v i : Nat) : v / 2 ^ i &&& 1 = if v.testBit i then 1 else 0 := by
  rw [Nat.and_one_is_mod, Nat.testBit_eq_decide_div_mod_eq]
  by_cases h : v / 2 ^ i % 2 = 1
  · simp [h]
  · simp [h]; omega
theorem div_cast (v i : Nat) : (v : Int) / 2 ^ i = ((v / 2 ^ i : Nat) : Int) := by
  rw [Int.natCast_ediv, Int.natCast_pow]; rfl
/-- What the walks write of 'set>>i&1'. -/
theorem tst_u32 {v i : Nat} (hv : v < 65536) : bits .and .u32 ((v : Int) / 2 ^ i) 1 = if v.testBit i then 1 else 0 := by
  have h1 : v / 2 ^ i ≤ v := Nat.div_le_self _ _
  rw [div_cast, show (1 : Int) = ((1 : Nat) : Int) from rfl, and_u32 _ 1 (by omega) (by omega), bit_div]
  split <;> rfl
theorem tst_i64 {v i : Nat} (hv : v < 65536) : bits .and .i64 ((v : Int) / 2 ^ i) 1 = if v.testBit i then 1 else 0 := by
  have h1 : v / 2 ^ i ≤ v := Nat.div_le_self _ _
  rw [div_cast, show (1 : Int) = ((1 : Nat) : Int) from rfl, and_i64 _ 1 (by omega) (by omega), bit_div]
  split <;> rfl
theorem pow_cast (i : Nat) : (2 : Int) ^ i = ((2 ^ i : Nat) : Int) := by rw [Int.natCast_pow]; rfl
theorem wrapu_pow {i : Nat} (hi : i < 16) : IntKind.u32.wrap (2 ^ i) = ((2 ^ i : Nat) : Int) := by
  have h := pow16 hi
  rw [pow_cast]; generalize 2 ^ i = q at *; rw [IntKind.wrap_u32]; omega
theorem wrap_pow {i : Nat} (hi : i < 16) : IntKind.i64.wrap (2 ^ i) = ((2 ^ i : Nat) : Int) := by
  have h := pow16 hi
  rw [pow_cast]; generalize 2 ^ i = q at *; rw [IntKind.wrap_i64]; omega
theorem put_u32 {v i : Nat} (hv : v < 65536) (hi : i < 16) : bits .or .u32 (v : Int) ((2 ^ i : Nat) : Int) = ((v ||| 2 ^ i : Nat) : Int) := by
  have h := pow16 hi
  exact or_u32 _ _ (by omega) (by omega)
theorem put_i64 {v i : Nat} (hv : v < 65536) (hi : i < 16) : bits .or .i64 (v : Int) ((2 ^ i : Nat) : Int) = ((v ||| 2 ^ i : Nat) : Int) := by
  have h := pow16 hi
  exact or_i64 _ _ (by omega) (by omega)
end Go.Proofs.Ytbdfbmohdbigfaa


namespace Go.Proofs.Ytbdfbmohdbigfaa
set_option linter.unusedVariables false
def e0 (a : A4) : A4 := (a.1, a.2.1, a.2.2.1, 0)
def Rch (L : List A4) (i k : Nat) : Prop := ∃ c, Wy (Em L) i k c
theorem em0 {L : List A4} {i k : Nat} {c : Int} : Em (L.map e0) i k c ↔ (∃ c', Em L i k c') ∧ c = 0 := by
  constructor
  · rintro ⟨a, ha, h1, h2, h3, h4⟩
    obtain ⟨b, hb, rfl⟩ := List.mem_map.1 ha
    exact ⟨⟨b.2.2.2, b, hb, h1, h2, h3, rfl⟩, h4.symm⟩
  · rintro ⟨⟨c', b, hb, h1, h2, h3, h4⟩, rfl⟩
    exact ⟨e0 b, List.mem_map.2 ⟨b, hb, rfl⟩, h1, h2, h3, rfl⟩
theorem wy0 {L : List A4} {i k : Nat} {c : Int} (h : Wy (Em (L.map e0)) i k c) : Rch L i k ∧ c = 0 := by
  induction h with
  | refl i => exact ⟨⟨0, .refl i⟩, rfl⟩
  | cons h1 h2 ih =>
    obtain ⟨⟨c', h1'⟩, rfl⟩ := em0.1 h1
    obtain ⟨⟨c2, h2'⟩, rfl⟩ := ih
    exact ⟨⟨_, .cons h1' h2'⟩, by omega⟩
theorem wy0_of {L : List A4} {i k : Nat} {c : Int} (h : Wy (Em L) i k c) : Wy (Em (L.map e0)) i k 0 := by
  induction h with
  | refl i => exact .refl i
  | cons h1 h2 ih => exact (Wy.cons (em0.2 ⟨⟨_, h1⟩, rfl⟩) ih : Wy (Em (L.map e0)) _ _ (0 + 0))
theorem okM0 {n : Nat} {L : List A4} (h : okM n L) : okM n (L.map e0) := fun a ha => by
  obtain ⟨b, hb, rfl⟩ := List.mem_map.1 ha
  have := h b hb
  exact ⟨this.1, this.2.1, Int.le_refl 0, by show (0 : Int) ≤ 1000; omega⟩
/-- A mask as costs. -/
def vOf (F : Int) (n v : Nat) : List Int := (List.range n).map fun k => if v.testBit k then 0 else F
theorem vOf_len (F : Int) (n v : Nat) : (vOf F n v).length = n := by simp [vOf]
theorem vOf_get {F : Int} {n v k : Nat} (h : k < n) : (vOf F n v)[k]? = some (if v.testBit k then 0 else F) := by simp [vOf, h]
theorem g0_vOf {F : Int} {n v k : Nat} (h : k < n) : g0 (vOf F n v) k = if v.testBit k then 0 else F := g0_get (vOf_get h)
def clS (v : Nat) (a : A4) : Nat := if a.2.2.1 < 0 ∧ v.testBit a.1.toNat = true then v ||| 2 ^ a.2.1.toNat else v
def clT (L : List A4) (v : Nat) : Nat := L.foldl clS v
def clN (L : List A4) (v : Nat) : Nat → Nat
  | 0 => v
  | r + 1 => clT L (clN L v r)
theorem clT_take {L : List A4} {v j : Nat} {a : A4} (h : L[j]? = some a) : clT (L.take (j + 1)) v = clS (clT (L.take j) v) a := by
  obtain ⟨hj, rfl⟩ := List.getElem?_eq_some_iff.1 h
  unfold clT
  rw [List.take_succ_eq_append_getElem hj, List.foldl_append]; rfl
theorem clS_lt {n v : Nat} {a : A4} (hv : v < 2 ^ n) (ha : 0 ≤ a.2.1 ∧ a.2.1 < (n : Int)) : clS v a < 2 ^ n := by
  unfold clS
  split
  · exact Nat.or_lt_two_pow hv (Nat.pow_lt_pow_right (by omega) (by omega))
  · exact hv
theorem clT_lt {n : Nat} : ∀ {L : List A4} {v : Nat}, okM n L → v < 2 ^ n → clT L v < 2 ^ n
  | [], _, _, h => h
  | a :: L, v, hL, h => clT_lt (L := L) (v := clS v a) (fun b hb => hL b (List.mem_cons_of_mem _ hb)) (clS_lt h (hL a (by simp)).2.1)
theorem clT_take_lt {n v : Nat} {L : List A4} (hL : okM n L) (hv : v < 2 ^ n) (j : Nat) : clT (L.take j) v < 2 ^ n := clT_lt (fun b hb => hL b (List.mem_of_mem_take hb)) hv
theorem clN_lt {n v : Nat} {L : List A4} (hL : okM n L) (hv : v < 2 ^ n) : ∀ r, clN L v r < 2 ^ n
  | 0 => hv
  | r + 1 => clT_lt hL (clN_lt hL hv r)
theorem bit_or_pow (v t k : Nat) : (v ||| 2 ^ t).testBit k = (v.testBit k || decide (t = k)) := by rw [Nat.testBit_or, Nat.testBit_two_pow]
theorem rel1_vOf {F : Int} {n v : Nat} (hF : 0 ≤ F) {a : A4} (ha : (0 ≤ a.1 ∧ a.1 < (n : Int)) ∧ (0 ≤ a.2.1 ∧ a.2.1 < (n : Int))) : rel1 (vOf F n v) (e0 a) = vOf F n (clS v a) := by
  obtain ⟨⟨h1, h2⟩, h3, h4⟩ := ha
  have hi : a.1.toNat < n := by omega
  have hk : a.2.1.toNat < n := by omega
  unfold rel1 clS
  show (if a.2.2.1 < 0 then (vOf F n v).set a.2.1.toNat (Min.min (g0 (vOf F n v) a.2.1.toNat) (g0 (vOf F n v) a.1.toNat + 0)) else vOf F n v) = _
  by_cases hl : a.2.2.1 < 0
  · rw [if_pos hl, g0_vOf hi, g0_vOf hk]
    by_cases hb : v.testBit a.1.toNat = true
    · have e : (if a.2.2.1 < 0 ∧ v.testBit a.1.toNat = true then v ||| 2 ^ a.2.1.toNat else v) = v ||| 2 ^ a.2.1.toNat := if_pos ⟨hl, hb⟩
      rw [e, if_pos hb]
      apply List.ext_getElem?
      intro j
      by_cases hj : j < n
      · rw [List.getElem?_set, vOf_get hj, vOf_get hj, bit_or_pow]
        by_cases he : a.2.1.toNat = j
        · subst he
          rw [if_pos rfl, if_pos (by rw [vOf_len]; exact hk)]
          simp
          split <;> omega
        · rw [if_neg he]; simp [he]
      · rw [List.getElem?_eq_none (by rw [List.length_set, vOf_len]; omega), List.getElem?_eq_none (by rw [vOf_len]; omega)]
    · have e : (if a.2.2.1 < 0 ∧ v.testBit a.1.toNat = true then v ||| 2 ^ a.2.1.toNat else v) = v := if_neg (fun h => hb h.2)
      rw [e, if_neg hb]
      apply List.ext_getElem?
      intro j
      by_cases hj : j < n
      · rw [List.getElem?_set, vOf_get hj]
        by_cases he : a.2.1.toNat = j
        · subst he
          rw [if_pos rfl, if_pos (by rw [vOf_len]; exact hk)]
          congr 1
          split <;> omega
        · rw [if_neg he]
      · rw [List.getElem?_eq_none (by rw [List.length_set, vOf_len]; omega), List.getElem?_eq_none (by rw [vOf_len]; omega)]
  · rw [if_neg hl, if_neg (fun h => hl h.1)]
theorem rel_vOf {F : Int} {n : Nat} (hF : 0 ≤ F) : ∀ {L : List A4} {v : Nat}, okM n L → rel (L.map e0) (vOf F n v) = vOf F n (clT L v)
  | [], v, _ => rfl
  | a :: L, v, hL => by
    show rel (L.map e0) (rel1 (vOf F n v) (e0 a)) = vOf F n (clT L (clS v a))
    rw [rel1_vOf hF ⟨(hL a (by simp)).1, (hL a (by simp)).2.1⟩]
    exact rel_vOf hF (fun b hb => hL b (List.mem_cons_of_mem _ hb))
theorem relN_vOf {F : Int} {n v : Nat} (hF : 0 ≤ F) {L : List A4} (hL : okM n L) : ∀ r, relN (L.map e0) (vOf F n v) r = vOf F n (clN L v r)
  | 0 => rfl
  | r + 1 => by
    show rel (L.map e0) (relN (L.map e0) (vOf F n v) r) = _
    rw [relN_vOf hF hL r, rel_vOf hF hL]; rfl
def Bt (v i : Nat) (c : Int) : Prop := v.testBit i = true ∧ c = 0
theorem rep_vOf {F : Int} (hF : 0 < F) (n v : Nat) : Rep F n (vOf F n v) (Bt v) := by
  refine ⟨vOf_len F n v, fun k x hx => ?_⟩
  have hk : k < n := by have := (List.getElem?_eq_some_iff.1 hx).1; rw [vOf_len] at this; exact this
  rw [vOf_get hk] at hx
  injection hx with hx
  subst hx
  by_cases hb : v.testBit k = true
  · rw [hb, if_pos rfl]
    exact ⟨by omega, fun c hc => by rw [hc.2]; exact Int.le_refl _, fun _ => ⟨hb, rfl⟩⟩
  · have hb' : v.testBit k = false := by simpa using hb
    rw [hb']
    exact ⟨Int.le_refl _, fun c hc => absurd hc.1 hb, fun h => absurd h (by simp)⟩
/-- What a closed mask holds. -/
theorem cl_bit {n v k : Nat} {L : List A4} (hL : okM n L) (hk : k < n) : (clN L v n).testBit k = true ↔ ∃ i, i < n ∧ v.testBit i = true ∧ Rch L i k := by
  have h := (rep_vOf (F := 1) (by omega) n v).relax (okM0 hL)
  rw [relN_vOf (by omega) hL] at h
  obtain ⟨-, h2, h3⟩ := h.2 k _ (vOf_get hk)
  constructor
  · intro hb
    rw [hb] at h3
    obtain ⟨i, c1, c2, hi, ⟨hb1, -⟩, hw, -⟩ := h3 (by simp)
    exact ⟨i, hi, hb1, (wy0 hw).1⟩
  · rintro ⟨i, hi, hb, c, hw⟩
    have h4 := h2 0 ⟨i, 0, 0, hi, ⟨hb, rfl⟩, wy0_of hw, rfl⟩
    by_cases hq : (clN L v n).testBit k = true
    · exact hq
    · rw [if_neg hq] at h4; omega
/-- The states to which a letter leads from a mask. -/
def nxS (l : Int) (v t : Nat) (a : A4) : Nat := if a.2.2.1 = l ∧ v.testBit a.1.toNat = true then t ||| 2 ^ a.2.1.toNat else t
def nxT (L : List A4) (l : Int) (v : Nat) : Nat := L.foldl (nxS l v) 0
theorem nxT_take {L : List A4} {l : Int} {v j : Nat} {a : A4} (h : L[j]? = some a) : nxT (L.take (j + 1)) l v = nxS l v (nxT (L.take j) l v) a := by
  obtain ⟨hj, rfl⟩ := List.getElem?_eq_some_iff.1 h
  unfold nxT
  rw [List.take_succ_eq_append_getElem hj, List.foldl_append]; rfl
theorem nxT_lt {n : Nat} {L : List A4} (hL : okM n L) (l : Int) (v : Nat) : ∀ j, nxT (L.take j) l v < 2 ^ n
  | 0 => by simp [nxT]; exact Nat.two_pow_pos n
  | j + 1 => by
    cases h : L[j]? with
    | none =>
      have := nxT_lt hL l v j
      have hl := List.getElem?_eq_none_iff.1 h
      rw [List.take_of_length_le (by omega)] at this ⊢
      exact this
    | some a =>
      rw [nxT_take h]
      have ha := (hL a (List.mem_of_getElem? h)).2.1
      unfold nxS
      split
      · exact Nat.or_lt_two_pow (nxT_lt hL l v j) (Nat.pow_lt_pow_right (by omega) (by omega))
      · exact nxT_lt hL l v j
theorem nx_fold {n : Nat} (l : Int) (v : Nat) : ∀ (L : List A4) (t k : Nat), okM n L → ((L.foldl (nxS l v) t).testBit k = true ↔ t.testBit k = true ∨ ∃ i c, v.testBit i = true ∧ Lt L l i k c)
  | [], t, k, _ => by
    constructor
    · intro h; exact .inl h
    · rintro (h | ⟨i, c, -, a, ha, -⟩)
      · exact h
      · cases ha
  | a :: L, t, k, hL => by
    have ih := nx_fold l v L (nxS l v t a) k (fun b hb => hL b (List.mem_cons_of_mem _ hb))
    obtain ⟨⟨h1, h2⟩, ⟨h3, h4⟩, -, -⟩ := hL a (by simp)
    rw [List.foldl_cons, ih]
    unfold nxS
    constructor
    · rintro (h | ⟨i, c, hb, b, hb', q⟩)
      · split at h
        · rename_i hc
          rw [bit_or_pow, Bool.or_eq_true] at h
          rcases h with h | h
          · exact .inl h
          · exact .inr ⟨a.1.toNat, a.2.2.2, hc.2, a, by simp, by omega, by have := of_decide_eq_true h; omega, hc.1, rfl⟩
        · exact .inl h
      · exact .inr ⟨i, c, hb, b, List.mem_cons_of_mem _ hb', q⟩
    · rintro (h | ⟨i, c, hb, b, hb', q1, q2, q3, q4⟩)
      · refine .inl ?_
        split
        · rw [bit_or_pow, h]; rfl
        · exact h
      · rcases List.mem_cons.1 hb' with e | e
        · subst e
          refine .inl ?_
          have e1 : b.1.toNat = i := by omega
          have e2 : b.2.1.toNat = k := by omega
          rw [if_pos ⟨q3, by rw [e1]; exact hb⟩, bit_or_pow, e2]; simp
        · exact .inr ⟨i, c, hb, b, e, q1, q2, q3, q4⟩
theorem nx_bit {n v k : Nat} {L : List A4} {l : Int} (hL : okM n L) : (nxT L l v).testBit k = true ↔ ∃ i c, v.testBit i = true ∧ Lt L l i k c := by
  unfold nxT
  rw [nx_fold l v L 0 k hL]; simp
/-- States that are reached: from the first ones, and by a letter. -/
def pxF (L : List A4) (P : List Int) : Nat := clN L (mkN (fun i => decide (0 ≤ g0 P i)) P.length) P.length
def pxN (L : List A4) (n : Nat) (v : Nat) (l : Nat) : Nat := clN L (nxT L (l : Int) v) n
def pxE (E : List Int) (v : Nat) : Bool := decide (v &&& mkN (fun i => decide (0 ≤ g0 E i)) E.length ≠ 0)
end Go.Proofs.Ytbdfbmohdbigfaa


namespace Go.Proofs.Ytbdfbmohdbigfaa
set_option linter.unusedVariables false
section
variable {α : Type} [DecidableEq α]
/-- A list with x, at its end if x is new. -/
def addL (ls : List α) (x : α) : List α := if x ∈ ls then ls else ls ++ [x]
theorem addL_in {ls : List α} {x : α} (h : x ∈ ls) : addL ls x = ls := if_pos h
theorem addL_new {ls : List α} {x : α} (h : x ∉ ls) : addL ls x = ls ++ [x] := if_neg h
theorem addL_mem (ls : List α) (x : α) : x ∈ addL ls x := by
  unfold addL; split
  · assumption
  · simp
theorem addL_nodup {ls : List α} (h : ls.Nodup) (x : α) : (addL ls x).Nodup := by
  unfold addL; split
  · exact h
  · rename_i hx
    rw [List.nodup_append]
    refine ⟨h, by simp, fun a ha b hb => ?_⟩
    have : b = x := by simpa using hb
    subst this
    exact fun e => hx (e ▸ ha)
theorem addL_app (ls : List α) (x : α) : ∃ r, addL ls x = ls ++ r := by
  unfold addL; split
  · exact ⟨[], by simp⟩
  · exact ⟨[x], rfl⟩
theorem addL_len (ls : List α) (x : α) : ls.length ≤ (addL ls x).length ∧ (addL ls x).length ≤ ls.length + 1 := by
  unfold addL; split
  · omega
  · simp
theorem idx_end : ∀ {ls : List α} {x : α}, x ∉ ls → (ls ++ [x]).idxOf x = ls.length
  | [], x, _ => by simp
  | a :: l, x, h => by
    have h1 : ¬ a = x := fun e => h (by simp [e])
    have h2 := idx_end (ls := l) (x := x) (fun m => h (List.mem_cons_of_mem _ m))
    rw [List.cons_append, List.idxOf_cons, beq_false_of_ne h1]
    simp [h2]
theorem idx_new {ls : List α} {x : α} (h : x ∉ ls) : (addL ls x).idxOf x = ls.length := by
  rw [addL_new h]; exact idx_end h
theorem idx_app : ∀ {ls r : List α} {x : α}, x ∈ ls → (ls ++ r).idxOf x = ls.idxOf x
  | [], r, x, h => absurd h (by simp)
  | a :: l, r, x, h => by
    rw [List.cons_append, List.idxOf_cons, List.idxOf_cons]
    by_cases e : a = x
    · simp [e]
    · have h2 : x ∈ l := by
        rcases List.mem_cons.1 h with q | q
        · exact absurd q.symm e
        · exact q
      rw [idx_app h2]
theorem idx_of : ∀ {ls : List α}, ls.Nodup → ∀ {i : Nat} {x : α}, ls[i]? = some x → ls.idxOf x = i
  | [], _, i, x, h => by simp at h
  | a :: l, hn, 0, x, h => by
    have : a = x := by simpa using h
    subst this; simp
  | a :: l, hn, i + 1, x, h => by
    have h1 : l[i]? = some x := by simpa using h
    have hn' := List.nodup_cons.1 hn
    have h2 : ¬ a = x := fun e => hn'.1 (e ▸ List.mem_of_getElem? h1)
    rw [List.idxOf_cons, beq_false_of_ne h2]
    simp [idx_of hn'.2 h1]
variable (nx : α → Nat → α)
/-- One state's letters, the first l of them. -/
def exR (k : α) (st : List α × List Int) : Nat → List α × List Int
  | 0 => st
  | l + 1 => (addL (exR k st l).1 (nx k l), (exR k st l).2 ++ [((addL (exR k st l).1 (nx k l)).idxOf (nx k l) : Int)])
variable (first : α) (T : Nat)
/-- The states found and the next ones told when n states are done. -/
def exA : Nat → List α × List Int
  | 0 => ([first], [])
  | n + 1 => match (exA n).1[n]? with
    | none => exA n
    | some k => exR nx k (exA n) T
/-- How many states there are in all; none if they are too many. -/
def exE : Nat → Nat → Option Nat
  | 0, _ => none
  | f + 1, n => if n < (exA nx first T n).1.length then (if 64 < (exA nx first T (n + 1)).1.length then none else exE f (n + 1)) else some n
def exAll : Option Nat := exE nx first T 65 0
theorem exA_succ {n : Nat} {k : α} (h : (exA nx first T n).1[n]? = some k) : exA nx first T (n + 1) = exR nx k (exA nx first T n) T := by rw [exA, h]
theorem exR_app (k : α) (st : List α × List Int) : ∀ l, ∃ r, (exR nx k st l).1 = st.1 ++ r
  | 0 => ⟨[], by simp [exR]⟩
  | l + 1 => by
    obtain ⟨r, hr⟩ := exR_app k st l
    obtain ⟨q, hq⟩ := addL_app (exR nx k st l).1 (nx k l)
    exact ⟨r ++ q, by rw [exR, hq, hr, List.append_assoc]⟩
theorem exR_len (k : α) (st : List α × List Int) : ∀ l, st.1.length ≤ (exR nx k st l).1.length ∧ (exR nx k st l).1.length ≤ st.1.length + l
  | 0 => ⟨Nat.le_refl _, Nat.le_refl _⟩
  | l + 1 => by
    have h := exR_len k st l
    have h2 := addL_len (exR nx k st l).1 (nx k l)
    rw [exR]; show _ ≤ (addL _ _).length ∧ (addL _ _).length ≤ _
    omega
/-- What holds while states are found: n states are done, and l letters of state n. -/
structure ExI (st : List α × List Int) (n l : Nat) : Prop where
  nd : st.1.Nodup
  fst : st.1[0]? = some first
  len : st.2.length = n * T + l
  at_ : ∀ s j, j < T → s * T + j < n * T + l → ∃ k, st.1[s]? = some k ∧ nx k j ∈ st.1 ∧ st.2[s * T + j]? = some ((st.1.idxOf (nx k j) : Nat) : Int)
theorem ExI.start : ExI nx first T ([first], []) 0 0 := ⟨by simp, rfl, by simp, fun s j _ h => absurd h (by omega)⟩
variable {nx first T}
theorem ExI.step {st : List α × List Int} {n l : Nat} (h : ExI nx first T st n l) {k : α} (hk : st.1[n]? = some k) (hl : l < T) :
    ExI nx first T (addL st.1 (nx k l), st.2 ++ [((addL st.1 (nx k l)).idxOf (nx k l) : Int)]) n (l + 1) := by
  obtain ⟨r, hr⟩ := addL_app st.1 (nx k l)
  refine ⟨addL_nodup h.nd _, ?_, by simp [h.len]; omega, fun s j hj hs => ?_⟩
  · show (addL st.1 (nx k l))[0]? = _
    rw [hr, List.getElem?_append_left (List.getElem?_eq_some_iff.1 h.fst).1]; exact h.fst
  · show ∃ k', (addL st.1 (nx k l))[s]? = some k' ∧ nx k' j ∈ addL st.1 (nx k l) ∧ (st.2 ++ _)[s * T + j]? = some (((addL st.1 (nx k l)).idxOf (nx k' j) : Nat) : Int)
    rcases Nat.lt_or_ge (s * T + j) (n * T + l) with hlt | hge
    · obtain ⟨k', e1, e2, e3⟩ := h.at_ s j hj hlt
      refine ⟨k', ?_, ?_, ?_⟩
      · rw [hr, List.getElem?_append_left (List.getElem?_eq_some_iff.1 e1).1]; exact e1
      · rw [hr]; exact List.mem_append_left _ e2
      · rw [List.getElem?_append_left (by rw [h.len]; exact hlt), e3, hr, idx_app e2]
    · have he : s * T + j = n * T + l := by omega
      have hsn : s = n := by
        rcases Nat.lt_trichotomy s n with q | q | q
        · have : (s + 1) * T ≤ n * T := Nat.mul_le_mul_right T (by omega)
          rw [Nat.succ_mul] at this; omega
        · exact q
        · have : (n + 1) * T ≤ s * T := Nat.mul_le_mul_right T (by omega)
          rw [Nat.succ_mul] at this; omega
      subst hsn
      have hjl : j = l := by omega
      subst hjl
      refine ⟨k, ?_, addL_mem _ _, ?_⟩
      · rw [hr, List.getElem?_append_left (List.getElem?_eq_some_iff.1 hk).1]; exact hk
      · rw [List.getElem?_append_right (by rw [h.len]; omega), h.len]; simp
theorem ExI.row {st : List α × List Int} {n : Nat} (h : ExI nx first T st n 0) {k : α} (hk : st.1[n]? = some k) : ∀ l, l ≤ T → ExI nx first T (exR nx k st l) n l
  | 0, _ => h
  | l + 1, hl => by
    have h1 := ExI.row h hk l (by omega)
    obtain ⟨r, hr⟩ := exR_app nx k st l
    exact h1.step (by rw [hr, List.getElem?_append_left (List.getElem?_eq_some_iff.1 hk).1]; exact hk) (by omega)
theorem ExI.next {st : List α × List Int} {n : Nat} (h : ExI nx first T st n T) : ExI nx first T st (n + 1) 0 := by
  have e : (n + 1) * T + 0 = n * T + T := by rw [Nat.succ_mul]; rfl
  exact ⟨h.nd, h.fst, by rw [e]; exact h.len, fun s j hj hs => h.at_ s j hj (by omega)⟩
theorem exA_inv : ∀ n, n ≤ (exA nx first T n).1.length → ExI nx first T (exA nx first T n) n 0
  | 0, _ => ExI.start nx first T
  | n + 1, h => by
    cases hk : (exA nx first T n).1[n]? with
    | none =>
      exfalso
      have h2 := List.getElem?_eq_none_iff.1 hk
      have e : exA nx first T (n + 1) = exA nx first T n := by rw [exA, hk]
      rw [e] at h; omega
    | some k =>
      rw [exA_succ nx first T hk]
      have hn := (List.getElem?_eq_some_iff.1 hk).1
      exact ((exA_inv n (by omega)).row hk T (Nat.le_refl _)).next
theorem exE_some : ∀ (f n N : Nat), n ≤ (exA nx first T n).1.length → (exA nx first T n).1.length ≤ 64 → exE nx first T f n = some N → N = (exA nx first T N).1.length ∧ N ≤ 64
  | 0, n, N, _, _, h => by cases h
  | f + 1, n, N, hn, h64, h => by
    rw [exE] at h
    split at h
    · rename_i hlt
      split at h
      · cases h
      · rename_i hle
        refine exE_some f (n + 1) N ?_ (by omega) h
        obtain ⟨k, hk⟩ : ∃ k, (exA nx first T n).1[n]? = some k := ⟨_, List.getElem?_eq_getElem hlt⟩
        rw [exA_succ nx first T hk]
        have := (exR_len nx k (exA nx first T n) T).1
        omega
    · injection h with h
      subst h
      omega
theorem exAll_some {N : Nat} (h : exAll nx first T = some N) : N = (exA nx first T N).1.length ∧ N ≤ 64 := exE_some 65 0 N (by omega) (by show 1 ≤ 64; omega) h
/-- The whole: each state's next ones. -/
theorem ex_whole {N : Nat} (h : exAll nx first T = some N) : (exA nx first T N).1.length = N ∧ 1 ≤ N ∧ N ≤ 64 ∧ (exA nx first T N).1.Nodup ∧ (exA nx first T N).1[0]? = some first ∧ (exA nx first T N).2.length = N * T
    ∧ ∀ s j, s < N → j < T → ∃ k, (exA nx first T N).1[s]? = some k ∧ nx k j ∈ (exA nx first T N).1 ∧ (exA nx first T N).2[s * T + j]? = some (((exA nx first T N).1.idxOf (nx k j) : Nat) : Int) := by
  obtain ⟨h1, h2⟩ := exAll_some h
  have hi := exA_inv (nx := nx) (first := first) (T := T) N (by omega)
  have h0 := (List.getElem?_eq_some_iff.1 hi.fst).1
  refine ⟨h1.symm, by omega, h2, hi.nd, hi.fst, by rw [hi.len]; rfl, fun s j hs hj => hi.at_ s j hj ?_⟩
  have : (s + 1) * T ≤ N * T := Nat.mul_le_mul_right T (by omega)
  rw [Nat.succ_mul] at this
  omega
/-- Where a word leads. -/
def exW (nx : α → Nat → α) (first : α) (xs : List Nat) : α := xs.foldl nx first
theorem ex_reads {N : Nat} (h : exAll nx first T = some N) (xs : List Nat) (hx : ∀ x ∈ xs, x < T) : ∀ (k : α) (s : Nat), (exA nx first T N).1[s]? = some k →
    ∃ t, xs.foldl (fun s j => ((exA nx first T N).2.getD (s * T + j) 0).toNat) s = t ∧ (exA nx first T N).1[t]? = some (xs.foldl nx k) := by
  obtain ⟨h1, h2, h3, h4, h5, h6, h7⟩ := ex_whole h
  induction xs with
  | nil => intro k s hs; exact ⟨s, rfl, hs⟩
  | cons x xs ih =>
    intro k s hs
    have hsl := (List.getElem?_eq_some_iff.1 hs).1
    obtain ⟨k', e1, e2, e3⟩ := h7 s x (by omega) (hx x (by simp))
    obtain rfl : k' = k := by rw [hs] at e1; injection e1 with e1; exact e1.symm
    have hg : ((exA nx first T N).2.getD (s * T + x) 0).toNat = (exA nx first T N).1.idxOf (nx k' x) := by
      rw [List.getD_eq_getElem?_getD, e3]; simp
    simp only [List.foldl_cons]
    rw [hg]
    refine ih (fun y hy => hx y (List.mem_cons_of_mem _ hy)) _ _ ?_
    have hlt := List.idxOf_lt_length_of_mem e2
    rw [List.getElem?_eq_getElem hlt, List.getElem_idxOf hlt]
end
end Go.Proofs.Ytbdfbmohdbigfaa
