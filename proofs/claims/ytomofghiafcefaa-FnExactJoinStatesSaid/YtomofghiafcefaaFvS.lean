/- A model's rest, plainly: how far numbers change, rounds of rows, and that all of them stay finite. -/
import Derived.Test.YtomofghiafcefaaFvR
import Derived.Test.YtomofghiafcefaaVd
import Derived.Test.YtomofghiafcefaaEv

namespace Go.Proofs.Ytomofghiafcefaa
open Go.RowKit Ieee
set_option linter.unusedVariables false
theorem vl_zero_iff {r : Nat} : vl r = 0 ↔ r = 0 := by
  unfold vl
  by_cases h : r < 8388608
  · rw [if_pos h]
  · rw [if_neg h]
    have h1 : 0 < (8388608 + r % 8388608) * 2 ^ (r / 8388608 - 1) := Nat.mul_pos (by omega) (Nat.two_pow_pos _)
    omega
theorem cut_mul (m L : Nat) (hm : m ≠ 0) : Toward.even.cut false (m * 2 ^ L) L = m := by
  have hp := Nat.two_pow_pos L
  have h1 : L ≤ (m * 2 ^ L).log2 + 2 := by
    have : L ≤ (m * 2 ^ L).log2 := by
      rw [Nat.le_log2 (by have := Nat.mul_pos (Nat.pos_of_ne_zero hm) hp; omega)]
      exact Nat.le_mul_of_pos_left _ (Nat.pos_of_ne_zero hm)
    omega
  rw [cut_is, Nat.min_eq_left h1]
  unfold cutN
  rw [Nat.mul_mod_left, Nat.mul_div_cancel _ hp]
  have e : (decide (2 ^ L < 2 * 0) || (2 ^ L == 2 * 0 && m % 2 == 1)) = false := by
    rw [decide_eq_false (by omega)]
    have : (2 ^ L == 2 * 0) = false := beq_false_of_ne (by omega)
    rw [this]; rfl
  rw [e]; rfl
/-- A rung's value is written as that rung. -/
theorem near_exact {r : Nat} (h : r < 2139095040) : Ieee.single.nearest false (vl r) (-149) = r := by
  by_cases h0 : r = 0
  · subst h0; rfl
  have hv : vl r ≠ 0 := fun e => h0 (vl_zero_iff.1 e)
  have e1 : Ieee.single.leastPlace = -149 := by decide
  have e2 : ((Ieee.single.fractionBits : Nat) : Int) = 23 := rfl
  unfold Format.nearest
  rw [if_neg hv]
  simp only [e1, e2, sg2, sg3, Nat.shiftLeft_eq]
  unfold vl at hv ⊢
  by_cases h1 : r < 8388608
  · rw [if_pos h1] at hv ⊢
    have hl : r.log2 < 23 := (Nat.log2_lt hv).2 (by omega)
    have em : max (-149 + (r.log2 : Int) - 23) (-149) = -149 := by omega
    simp only [em]
    rw [show ((-149 : Int) - -149).toNat = 0 from rfl, cut_zero]
    simp only [Format.word, Bool.false_eq_true, if_false]
    rw [Nat.pow_zero, Nat.mul_one, Nat.min_eq_left (by omega)]; omega
  · rw [if_neg h1] at hv ⊢
    obtain ⟨M, hM⟩ : ∃ M, M = 8388608 + r % 8388608 := ⟨_, rfl⟩
    obtain ⟨L, hL⟩ : ∃ L, L = r / 8388608 - 1 := ⟨_, rfl⟩
    rw [← hM, ← hL] at hv ⊢
    have hp := Nat.two_pow_pos L
    have hlo : (M * 2 ^ L).log2 = 23 + L := by
      apply Nat.le_antisymm
      · have : (M * 2 ^ L).log2 < 24 + L := by
          rw [Nat.log2_lt hv, Nat.pow_add]
          exact Nat.mul_lt_mul_of_pos_right (by rw [show (2 : Nat) ^ 24 = 16777216 from by decide]; omega) hp
        omega
      · rw [Nat.le_log2 hv, Nat.pow_add]
        exact Nat.mul_le_mul_right _ (by rw [show (2 : Nat) ^ 23 = 8388608 from by decide]; omega)
    rw [hlo]
    have em : max (-149 + ((23 + L : Nat) : Int) - 23) (-149) = (L : Int) - 149 := by omega
    simp only [em]
    rw [show ((-149 : Int) - ((L : Int) - 149)).toNat = 0 by omega, show ((L : Int) - 149 - -149).toNat = L by omega, Nat.pow_zero, Nat.mul_one, cut_mul M L (by omega)]
    simp only [Format.word, Bool.false_eq_true, if_false]
    rw [Nat.min_eq_left (by omega)]; omega
theorem near_true (M : Nat) (p : Int) (h : M ≠ 0) : Ieee.single.nearest true M p = 2147483648 + Ieee.single.nearest false M p := by
  unfold Format.nearest
  rw [if_neg h, if_neg h]
  have e : ∀ n d, Toward.even.cut true n d = Toward.even.cut false n d := fun _ _ => rfl
  simp only [e, Format.word, if_true, Bool.false_eq_true, if_false, sg1]
theorem read_top {r : Nat} (h : r < 2139095040) : Ieee.single.read (2147483648 + r) = (Ieee.single.read r).opposite := by
  have e : Op.negFloat .f32 r = 2147483648 + r := xor_top (by omega)
  rw [← e]; exact read_neg (by omega)
/-- What is between two positive numbers: a number or one with the sign before it. -/
theorem sub_any {a b : Nat} (ha : a < 2139095040) (hb : b < 2139095040) (hA : vz a < pw 276) (hB : vz b < pw 276) : ∃ r, r < 2139095040 ∧ (floatBits .sub .f32 a b = some r ∨ floatBits .sub .f32 a b = some (2147483648 + r)) := by
  obtain ⟨s, m, i, r1, v1, -, s1⟩ := read_fz (.inl ha)
  obtain ⟨t, n, j, r2, v2, -, t1⟩ := read_fz (.inl hb)
  obtain rfl := s1 ha
  obtain rfl := t1 hb
  obtain ⟨k, hk⟩ : ∃ k : Nat, k = min i j := ⟨_, rfl⟩
  have e1 : min ((i : Int) - 149) ((j : Int) - 149) = (k : Int) - 149 := by omega
  have e2 : ((i : Int) - 149 - ((k : Int) - 149)).toNat = i - k := by omega
  have e3 : ((j : Int) - 149 - ((k : Int) - 149)).toNat = j - k := by omega
  have q1 : vz a = m * 2 ^ (i - k) * 2 ^ k := by rw [v1, Nat.mul_assoc, ← Nat.pow_add, show i - k + k = i by omega]
  have q2 : vz b = n * 2 ^ (j - k) * 2 ^ k := by rw [v2, Nat.mul_assoc, ← Nat.pow_add, show j - k + k = j by omega]
  have hsg : Ieee.signed true n (j - k) = -((n * 2 ^ (j - k) : Nat) : Int) := by simp only [Ieee.signed, Nat.shiftLeft_eq, if_true]
  have hsf : Ieee.signed false m (i - k) = ((m * 2 ^ (i - k) : Nat) : Int) := by simp only [Ieee.signed, Nat.shiftLeft_eq, Bool.false_eq_true, if_false]
  have hop : floatBits .sub .f32 a b = (((Ieee.single.read a).sum (Ieee.single.read b).opposite).map Ieee.single.write) := rfl
  rw [hop, r1, r2]
  simp only [Datum.opposite, Bool.not_false, Datum.sum, e1, e2, e3, hsg, hsf]
  rw [q1] at hA
  rw [q2] at hB
  generalize m * 2 ^ (i - k) = u at hA
  generalize n * 2 ^ (j - k) = v at hB
  have hp := Nat.two_pow_pos k
  have hM : ∀ M : Nat, M ≤ u ∨ M ≤ v → M * 2 ^ k < pw 276 := by
    intro M h
    rcases h with h | h
    · exact Nat.lt_of_le_of_lt (Nat.mul_le_mul_right _ h) hA
    · exact Nat.lt_of_le_of_lt (Nat.mul_le_mul_right _ h) hB
  rcases Nat.lt_trichotomy u v with h | h | h
  · obtain ⟨R, n1, n2, -, -⟩ := near_vl (v - u) ((k : Int) - 149) 0 k (by omega) (hM _ (.inr (by omega)))
    refine ⟨R, n2, .inr ?_⟩
    rw [show (u : Int) + -(v : Int) = -((v - u : Nat) : Int) by omega, if_neg (by omega), decide_eq_true (by omega)]
    show some (Ieee.single.nearest true (-((v - u : Nat) : Int)).natAbs _) = _
    rw [Int.natAbs_neg, Int.natAbs_natCast, near_true _ _ (by omega), n1]
  · subst h
    refine ⟨0, by omega, .inl ?_⟩
    rw [show (u : Int) + -(u : Int) = 0 by omega]
    rfl
  · obtain ⟨R, n1, n2, -, -⟩ := near_vl (u - v) ((k : Int) - 149) 0 k (by omega) (hM _ (.inl (by omega)))
    refine ⟨R, n2, .inl ?_⟩
    rw [show (u : Int) + -(v : Int) = ((u - v : Nat) : Int) by omega, if_neg (by omega), decide_eq_false (by omega)]
    show some (Ieee.single.nearest false ((u - v : Nat) : Int).natAbs _) = _
    rw [Int.natAbs_natCast, n1]
/-- Taken away from +0: the sign is gone. -/
theorem sub0_top {r : Nat} (h : r < 2139095040) : floatBits .sub .f32 0 (2147483648 + r) = some r := by
  obtain ⟨m, a, e, v⟩ := read_vl h
  have hop : floatBits .sub .f32 0 (2147483648 + r) = (((Ieee.single.read 0).sum (Ieee.single.read (2147483648 + r)).opposite).map Ieee.single.write) := rfl
  rw [hop, read_zero, read_top h, e]
  have e1 : min (-149 : Int) ((a : Int) - 149) = -149 := by omega
  have e3 : ((a : Int) - 149 - -149).toNat = a := by omega
  simp only [Datum.opposite, Bool.not_false, Bool.not_true, Datum.sum, e1, e3, signed_zero]
  have hsf : Ieee.signed false m a = ((m * 2 ^ a : Nat) : Int) := by simp only [Ieee.signed, Nat.shiftLeft_eq, Bool.false_eq_true, if_false]
  rw [hsf, ← v]
  have hsg : (if (0 : Int) + (vl r : Int) = 0 then (false && false) else decide ((0 : Int) + (vl r : Int) < 0)) = false := by
    split
    · rfl
    · exact decide_eq_false (by omega)
  rw [hsg]
  show some (Ieee.single.nearest false ((0 : Int) + (vl r : Int)).natAbs _) = _
  rw [show (0 : Int) + (vl r : Int) = (vl r : Int) by omega, Int.natAbs_natCast, near_exact h]
theorem sub0_zero : floatBits .sub .f32 0 0 = some 0 := by decide +kernel
/-- A number without its sign; the greater one of two. -/
def abF (x : F32) : F32 := ⟨x.b % 2147483648, by omega⟩
def mxF (c x : F32) : F32 := if vz c.b < vz x.b then x else c
theorem mxF_lt {c x : F32} (hc : c.b < 2139095040) (hx : x.b < 2139095040) : (mxF c x).b < 2139095040 := by unfold mxF; split <;> assumption
theorem ord_top {r : Nat} (h : r < 2139095040) (h0 : r ≠ 0) : ordF (2147483648 + r) 0 = some .lt := by
  obtain ⟨m, a, e, v⟩ := read_vl h
  show (Ieee.single.read (2147483648 + r)).order (Ieee.single.read 0) = _
  rw [read_top h, e, read_zero]
  simp only [Datum.opposite, Bool.not_false, Datum.order, signed_zero]
  have hm : m ≠ 0 := by intro hm; subst hm; rw [Nat.zero_mul] at v; exact h0 (vl_zero_iff.1 v)
  have := (signed_neg (s := true) (m := m) (k := ((a : Int) - 149 - min ((a : Int) - 149) (-149)).toNat)).2 ⟨rfl, hm⟩
  rw [cmp_lt.2 this]
theorem neg_top {r : Nat} (h : r < 2139095040) : Op.negFloat .f32 (2147483648 + r) = r := xor_top' (by omega)
/-- One way or the other: what a difference is, and what both programs make of it. -/
structure Dif (R r : Nat) : Prop where
  lt : r < 2139095040
  ab : R % 2147483648 = r
  ge : ordF R 0 ≠ some .lt → R = r ∨ (R = 2147483648 ∧ r = 0)
  lo : ordF R 0 = some .lt → Op.negFloat .f32 R = r
  le : leF R 0 = true → floatBits .sub .f32 0 R = some r
  gt : leF R 0 = false → R = r
theorem ord_pos {r : Nat} (h : r < 2139095040) (h0 : r ≠ 0) : ordF r 0 = some .gt := by
  rw [ord_fz (.inl h) (.inl (by omega)), vz_lt h, vz_zero]
  have : vl r ≠ 0 := fun e => h0 (vl_zero_iff.1 e)
  rw [cmp_gt.2 (by omega)]
theorem ord_00 : ordF 0 0 = some .eq := by decide +kernel
theorem ord_m0 : ordF 2147483648 0 = some .eq := by decide +kernel
theorem dif_of {R r : Nat} (h : r < 2139095040) (hR : R = r ∨ R = 2147483648 + r) : Dif R r := by
  rcases hR with rfl | rfl
  · by_cases h0 : R = 0
    · subst h0
      refine ⟨by omega, rfl, fun _ => .inl rfl, fun h => ?_, fun _ => sub0_zero, fun h => rfl⟩
      rw [ord_00] at h; cases h
    · refine ⟨h, Nat.mod_eq_of_lt (by omega), fun _ => .inl rfl, fun hh => ?_, fun hh => ?_, fun _ => rfl⟩
      · rw [ord_pos h h0] at hh; cases hh
      · unfold leF at hh; rw [ord_pos h h0] at hh; cases hh
  · by_cases h0 : r = 0
    · subst h0
      refine ⟨by omega, rfl, fun _ => .inr ⟨rfl, rfl⟩, fun h => ?_, fun _ => sub0_top h, fun hh => ?_⟩
      · rw [ord_m0] at h; cases h
      · unfold leF at hh; rw [ord_m0] at hh; cases hh
    · refine ⟨h, by omega, fun hh => ?_, fun _ => neg_top h, fun _ => sub0_top h, fun hh => ?_⟩
      · exact absurd (ord_top h h0) hh
      · unfold leF at hh; rw [ord_top h h0] at hh; cases hh
theorem ord_mx {c x : F32} (hc : c.b < 2139095040) (hx : x.b < 2139095040) : (ordF x.b c.b == some .gt) = decide (vz c.b < vz x.b) := by
  rw [ord_fz (.inl hx) (.inl hc)]
  by_cases h : vz c.b < vz x.b
  · rw [cmp_gt.2 (by omega), decide_eq_true h]; rfl
  · rw [decide_eq_false h]
    rcases Nat.lt_or_ge (vz x.b) (vz c.b) with h2 | h2
    · rw [cmp_lt.2 (by omega)]; rfl
    · rw [show vz c.b = vz x.b by omega, cmp_eq.2 rfl]; rfl
theorem dec_pos {c : Nat} (hc : c < 2139095040) : (FloatKind.decode .f32 c).neg = false := by
  obtain ⟨m, a, e, v⟩ := read_vl hc
  show (Ieee.single.read c).neg = false
  rw [e]; rfl
/-- Go's max of a positive number and a number that is not negative. -/
theorem max_run {c r : Nat} {R : Nat} (hc : c < 2139095040) (hr : r < 2139095040) (hR : R = r ∨ (R = 2147483648 ∧ r = 0)) (tys : Array TypeId) (ty : TypeId) (P : Program) (w : World) : (Builtin.max_ tys ty #[.float .f32 c, .float .f32 R]).run P w = .ok (.float .f32 (mxF ⟨c, by omega⟩ ⟨r, by omega⟩).b) w := by
  have key : Builtin.max_ tys ty #[.float .f32 c, .float .f32 R] = pure (.float .f32 (mxF ⟨c, by omega⟩ ⟨r, by omega⟩).b) := by
    show (Builtin.max2 (.float .f32 c) (.float .f32 R) >>= fun x => pure x) = _
    have hFR : Fz R := hR.elim (fun h => .inl (h ▸ hr)) (fun h => .inr h.1)
    have hvR : vz R = vz r := hR.elim (fun h => by rw [h]) (fun h => by rw [h.1, h.2]; rfl)
    have ho : (FloatKind.format .f32).order c R = some (compare ((vz c : Nat) : Int) ((vz r : Nat) : Int)) := by rw [← hvR]; exact ord_fz (.inl hc) hFR
    have hd := dec_pos hc
    have hmx : (mxF ⟨c, by omega⟩ ⟨r, by omega⟩).b = if vz c < vz r then r else c := by
      unfold mxF
      by_cases h : vz c < vz r
      · rw [if_pos h, if_pos h]
      · rw [if_neg h, if_neg h]
    rw [hmx]
    have h3 : Builtin.max2 (.float .f32 c) (.float .f32 R) = pure (.float .f32 (if vz c < vz r then r else c)) := by
      unfold Builtin.max2
      simp only [ho]
      rcases Nat.lt_trichotomy (vz c) (vz r) with h | h | h
      · rw [cmp_lt.2 (by omega), if_pos h]
        have : R = r := by
          rcases hR with h1 | ⟨h1, h2⟩
          · exact h1
          · subst h2; rw [vz_zero] at h; omega
        subst this; rfl
      · rw [cmp_eq.2 (by omega), if_neg (show ¬ vz c < vz r by omega)]
        simp only [hd, Bool.false_eq_true, if_false]
      · rw [cmp_gt.2 (by omega), if_neg (show ¬ vz c < vz r by omega)]
    rw [h3]; rfl
  rw [key]; rfl
/-- The next row, and how far a row's numbers change. -/
def atF (xs : List F32) (i : Nat) : F32 := xs.getD i f0
def tbF (Q : List F32) (s : Nat) (i k : Nat) : F32 := atF Q (i * s + k)
def nxL (Q : List F32) (s : Nat) (row : List F32) : List F32 := (List.range s).map (nxF (atF row) (tbF Q s) s)
def cgL (nx row : List F32) : Nat → F32
  | 0 => f0
  | k + 1 => mxF (cgL nx row k) (abF (fop .sub (atF nx k) (atF row k)))
/-- The rounds. -/
def rsF (Q : List F32) (s : Nat) (near : F32) : Nat → List F32 → Nat → Option (List F32 × Nat)
  | 0, _, _ => none
  | m + 1, row, n => if leF (cgL (nxL Q s row) row s).b near.b then some (nxL Q s row, n + 1) else rsF Q s near m (nxL Q s row) (n + 1)
theorem nxL_len (Q : List F32) (s : Nat) (row : List F32) : (nxL Q s row).length = s := by simp [nxL]
theorem nxL_at {Q : List F32} {s k : Nat} {row : List F32} (h : k < s) : atF (nxL Q s row) k = nxF (atF row) (tbF Q s) s k := by
  unfold atF nxL
  rw [List.getD_eq_getElem?_getD, List.getElem?_map, List.getElem?_range h]; rfl
theorem nxL_take {Q : List F32} {s k : Nat} {row : List F32} (h : k < s) : (nxL Q s row)[k]? = some (nxF (atF row) (tbF Q s) s k) := by
  unfold nxL
  rw [List.getElem?_map, List.getElem?_range h]; rfl
theorem atF_some {xs : List F32} {i : Nat} {x : F32} (h : xs[i]? = some x) : atF xs i = x := by
  unfold atF; rw [List.getD_eq_getElem?_getD, h]; rfl
theorem atF_get {xs : List F32} {i : Nat} (h : i < xs.length) : xs[i]? = some (atF xs i) := by
  unfold atF; rw [List.getD_eq_getElem?_getD, List.getElem?_eq_getElem h]; rfl
def mass (s : Nat) (row : List F32) : Nat := su (fun i => vz (atF row i).b) s
structure Gd (s n : Nat) (row : List F32) : Prop where
  len : row.length = s
  fin : ∀ i, i < s → (atF row i).b < 2139095040
  mas : 10 ^ n * (mass s row + 10000) ≤ 11 ^ n * (6 * one1)
theorem Gd.low {s n : Nat} {row : List F32} (h : Gd s n row) (hn : n ≤ 256) : 100 * mass s row ≤ pw 200 := by
  have h1 := h.mas
  have h2 : 10 ^ 256 * (mass s row + 10000) ≤ 11 ^ 256 * (6 * one1) := by
    have e1 : (10 : Nat) ^ 256 = 10 ^ (256 - n) * 10 ^ n := by rw [← Nat.pow_add, show 256 - n + n = 256 by omega]
    have e2 : (11 : Nat) ^ 256 = 11 ^ (256 - n) * 11 ^ n := by rw [← Nat.pow_add, show 256 - n + n = 256 by omega]
    rw [e1, e2, Nat.mul_assoc, Nat.mul_assoc]
    exact Nat.mul_le_mul (Nat.pow_le_pow_left (by omega) _) h1
  have h3 : 11 ^ 256 * (6 * one1) * 100 ≤ 10 ^ 256 * pw 200 := by decide +kernel
  have h4 : 10 ^ 256 * (100 * (mass s row + 10000)) ≤ 10 ^ 256 * pw 200 := by
    rw [Nat.mul_left_comm, Nat.mul_comm 100]
    exact Nat.le_trans (Nat.mul_le_mul_right _ h2) h3
  have h5 := Nat.le_of_mul_le_mul_left h4 (Nat.pow_pos (by omega))
  omega
/-- What a round does to a good row. -/
structure Rd8 (Q : List F32) (s n : Nat) (row : List F32) : Prop where
  mul : ∀ k i, k < s → i < s → floatBits .mul .f32 (atF row i).b (tbF Q s i k).b = some (fop .mul (atF row i) (tbF Q s i k)).b
  add : ∀ k i, k < s → i < s → floatBits .add .f32 (acc (fun i => fop .mul (atF row i) (tbF Q s i k)) i).b (fop .mul (atF row i) (tbF Q s i k)).b = some (acc (fun i => fop .mul (atF row i) (tbF Q s i k)) (i + 1)).b
  sub : ∀ k, k < s → floatBits .sub .f32 (nxF (atF row) (tbF Q s) s k).b (atF row k).b = some (fop .sub (nxF (atF row) (tbF Q s) s k) (atF row k)).b
  dif : ∀ k, k < s → Dif (fop .sub (nxF (atF row) (tbF Q s) s k) (atF row k)).b (abF (fop .sub (nxF (atF row) (tbF Q s) s k) (atF row k))).b
  cg : ∀ k, k ≤ s → (cgL (nxL Q s row) row k).b < 2139095040
  next : Gd s (n + 1) (nxL Q s row)
theorem step_arith {A B : Nat} (h : 10 * B ≤ 11 * A + 1000) : 10 * (B + 10000) ≤ 11 * (A + 10000) := by omega
theorem round_ok {Q : List F32} {s n : Nat} {row : List F32} (ht : Tb (tbF Q s) s) (h : Gd s n row) (hn : n ≤ 256) : Rd8 Q s n row := by
  have hlow := h.low hn
  obtain ⟨hr, hm⟩ := round_fz ht h.fin hlow
  have hrow : ∀ k, k < s → vz (atF row k).b < pw 276 := by
    intro k hk
    have h1 : vz (atF row k).b ≤ mass s row := su_one (fun i => vz (atF row i).b) hk
    have h2 : pw 200 < pw 276 := by decide +kernel
    omega
  have hsub : ∀ k, k < s → floatBits .sub .f32 (nxF (atF row) (tbF Q s) s k).b (atF row k).b = some (fop .sub (nxF (atF row) (tbF Q s) s k) (atF row k)).b ∧ Dif (fop .sub (nxF (atF row) (tbF Q s) s k) (atF row k)).b (abF (fop .sub (nxF (atF row) (tbF Q s) s k) (atF row k))).b := by
    intro k hk
    obtain ⟨-, h2, h3⟩ := hr k hk
    have h4 : pw 200 < pw 276 := by decide +kernel
    obtain ⟨r, hlt, he⟩ := sub_any h2 (h.fin k hk) (by omega) (hrow k hk)
    have hsome : floatBits .sub .f32 (nxF (atF row) (tbF Q s) s k).b (atF row k).b = some (fop .sub (nxF (atF row) (tbF Q s) s k) (atF row k)).b := fop_run (by rcases he with he | he <;> rw [he] <;> rfl)
    refine ⟨hsome, ?_⟩
    rw [hsome] at he
    have he' : (fop .sub (nxF (atF row) (tbF Q s) s k) (atF row k)).b = r ∨ (fop .sub (nxF (atF row) (tbF Q s) s k) (atF row k)).b = 2147483648 + r := he.imp Option.some.inj Option.some.inj
    have hD := dif_of hlt he'
    have e : (abF (fop .sub (nxF (atF row) (tbF Q s) s k) (atF row k))).b = r := hD.ab
    rw [e]; exact hD
  refine ⟨fun k i hk hi => ((hr k hk).1 i hi).1, fun k i hk hi => ((hr k hk).1 i hi).2, fun k hk => (hsub k hk).1, fun k hk => (hsub k hk).2, ?_, nxL_len _ _ _, fun i hi => by rw [nxL_at hi]; exact (hr i hi).2.1, ?_⟩
  · intro k
    induction k with
    | zero => intro _; exact (show (0 : Nat) < 2139095040 by omega)
    | succ k ih =>
      intro hk
      have := (hsub k (by omega)).2.lt
      refine mxF_lt (ih (by omega)) ?_
      rw [nxL_at (by omega)]; exact this
  · have e : mass s (nxL Q s row) = su (fun k => vz (nxF (atF row) (tbF Q s) s k).b) s := by
      have : ∀ m, m ≤ s → su (fun i => vz (atF (nxL Q s row) i).b) m = su (fun k => vz (nxF (atF row) (tbF Q s) s k).b) m := by
        intro m
        induction m with
        | zero => intro _; rfl
        | succ m ih => intro hm; rw [su_succ, su_succ, ih (by omega), nxL_at (by omega)]
      exact this s (Nat.le_refl _)
    rw [e]
    have h1 := h.mas
    have hm' : 10 * su (fun k => vz (nxF (atF row) (tbF Q s) s k).b) s ≤ 11 * mass s row + 1000 := hm
    generalize su (fun k => vz (nxF (atF row) (tbF Q s) s k).b) s = B at hm' ⊢
    generalize mass s row = A at hm' h1
    rw [Nat.pow_succ, Nat.pow_succ, Nat.mul_assoc, Nat.mul_comm (11 ^ n) 11, Nat.mul_assoc 11]
    have h2 : 10 ^ n * (10 * (B + 10000)) ≤ 10 ^ n * (11 * (A + 10000)) := Nat.mul_le_mul_left _ (step_arith hm')
    rw [Nat.mul_left_comm (10 ^ n) 11] at h2
    exact Nat.le_trans h2 (Nat.mul_le_mul_left _ h1)
theorem vsum_su (xs : List F32) : ∀ m, m ≤ xs.length → su (fun k => vz (atF xs k).b) m = vsum (xs.take m) := by
  intro m
  induction m with
  | zero => intro _; rfl
  | succ m ih =>
    intro hm
    rw [su_succ, ih (by omega), List.take_succ_eq_append_getElem (by omega), vsum_snoc]
    have : atF xs m = xs[m] := atF_some (List.getElem?_eq_getElem (by omega))
    rw [this]
/-- A valid model's steps are a table of chances. -/
theorem tb_of {s : Nat} {Q : List F32} (hs : 1 ≤ s) (h5 : s ≤ 5) (h : arB Q s s = true) : Tb (tbF Q s) s := by
  have hb := Bool.and_eq_true_iff.1 h
  have hlen : Q.length = s * s := of_decide_eq_true hb.1
  have hrow : ∀ i, i < s → (∀ x ∈ chk Q s i, Fz x.b ∧ vz x.b ≤ one1) ∧ 100 * vsum (chk Q s i) ≤ 102 * one1 := by
    intro i hi
    have h1 := List.all_eq_true.1 hb.2 i (List.mem_range.2 hi)
    have h2 := Bool.and_eq_true_iff.1 h1
    refine rowB_sum (by rw [chk_len hlen hi]; exact h5) (fun x hx => ?_) (Bool.and_eq_true_iff.1 h2.2).1
    exact Bool.and_eq_true_iff.1 (List.all_eq_true.1 h2.1 x hx)
  have hat : ∀ i k, i < s → k < s → (chk Q s i)[k]? = some (tbF Q s i k) := by
    intro i k hi hk
    have hlt : i * s + k < Q.length := by
      have : (i + 1) * s ≤ s * s := Nat.mul_le_mul_right _ hi
      rw [Nat.add_mul, Nat.one_mul] at this; omega
    unfold chk tbF
    rw [List.getElem?_take_of_lt hk, List.getElem?_drop]
    exact atF_get hlt
  refine ⟨h5, fun i k hi hk => (hrow i hi).1 _ (List.mem_of_getElem? (hat i k hi hk)), fun i hi => ?_⟩
  have e : su (fun k => vz (tbF Q s i k).b) s = vsum (chk Q s i) := by
    have h3 := vsum_su (chk Q s i) s (by rw [chk_len hlen hi]; exact Nat.le_refl _)
    rw [take_all (chk_len hlen hi)] at h3
    rw [← h3]
    have : ∀ m, m ≤ s → su (fun k => vz (tbF Q s i k).b) m = su (fun k => vz (atF (chk Q s i) k).b) m := by
      intro m
      induction m with
      | zero => intro _; rfl
      | succ m ih => intro hm; rw [su_succ, su_succ, ih (by omega), atF_some (hat i m hi (by omega))]
    exact this s (Nat.le_refl _)
  rw [e]; exact (hrow i hi).2
/-- The first row: equal chances. -/
theorem gd_even {s : Nat} (hs : 1 ≤ s) (h5 : s ≤ 5) : Gd s 0 (evR s s) := by
  have hq : ∀ i, i < s → atF (evR s s) i = evQ s := by
    intro i hi
    unfold atF evR
    rw [List.getD_eq_getElem?_getD, List.getElem?_replicate_of_lt hi]; rfl
  have hv : (evQ s).b < 2139095040 ∧ vz (evQ s).b ≤ one1 := by
    have : s = 1 ∨ s = 2 ∨ s = 3 ∨ s = 4 ∨ s = 5 := by omega
    rcases this with rfl | rfl | rfl | rfl | rfl <;> decide +kernel
  refine ⟨evR_len _ _, fun i hi => by rw [hq i hi]; exact hv.1, ?_⟩
  have hm : mass s (evR s s) ≤ su (fun _ => one1) s := su_le fun i hi => by rw [hq i hi]; exact hv.2
  rw [su_const] at hm
  have h6 : s * one1 ≤ 5 * one1 := Nat.mul_le_mul_right _ h5
  have h7 : 10000 ≤ one1 := by decide +kernel
  rw [Nat.pow_zero, Nat.one_mul, Nat.one_mul]
  generalize one1 = z at hm h6 h7 ⊢
  omega
end Go.Proofs.Ytomofghiafcefaa
