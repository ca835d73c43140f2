/- Stems on three ends and hyphens by three patterns (for FnTold), plainly. -/
import Derived.Test.YtpmklldochpnlaaDoorStP
import Derived.Test.YtpmklldochpnlaaDoorHyM

namespace Go.Proofs.YtpmklldochpnlaaDoor
set_option linter.unusedVariables false
def eA : ByteArray := ⟨#[97]⟩
def eBA : ByteArray := ⟨#[98, 97]⟩
def eCBA : ByteArray := ⟨#[99, 98, 97]⟩
def endsL : List ByteArray := [eA, eBA, eCBA]
def xyzL : List ByteArray := [⟨#[120]⟩, ⟨#[121]⟩, ⟨#[122]⟩]
def stWant (t : ByteArray) : ByteArray :=
  if hsB t eCBA then t.extract 0 (t.size - 3) ++ ⟨#[122]⟩ else if hsB t eBA then t.extract 0 (t.size - 2) ++ ⟨#[121]⟩ else if hsB t eA then t.extract 0 (t.size - 1) ++ ⟨#[120]⟩ else t
theorem hsB_le {t s : ByteArray} (h : hsB t s = true) : s.size ≤ t.size := by
  unfold hsB at h; rw [Bool.and_eq_true] at h; exact of_decide_eq_true h.1
theorem ok_zero (t e : ByteArray) : okAt t 0 e = hsB t e := by
  unfold okAt
  cases h : hsB t e with
  | false => rfl
  | true =>
    have := hsB_le h
    rw [decide_eq_true (by omega)]; rfl
theorem stb3 (t : ByteArray) : stb endsL t 0 3 = if hsB t eCBA then 2 else if hsB t eBA then 1 else if hsB t eA then 0 else -1 := by
  have s1 : stb endsL t 0 1 = if hsB t eA then 0 else -1 := by
    rw [stb, ok_zero, stb]
    show (if (hsB t eA && _) = true then _ else _) = _
    cases hsB t eA <;> rfl
  have s2 : stb endsL t 0 2 = if hsB t eBA then 1 else if hsB t eA then 0 else -1 := by
    rw [stb, ok_zero, s1]
    show (if (hsB t eBA && _) = true then _ else _) = _
    cases hsB t eBA <;> cases hsB t eA <;> rfl
  rw [stb, ok_zero, s2]
  show (if (hsB t eCBA && _) = true then _ else _) = _
  cases hsB t eCBA <;> cases hsB t eBA <;> cases hsB t eA <;> rfl
theorem stem_want {t : ByteArray} (h : t.size ≤ 40) : stV endsL xyzL t 0 = (stWant t, true) := by
  have hB : stB endsL xyzL t 0 = true := by
    unfold stB
    rw [show txtB t = true from decide_eq_true (by omega)]; decide
  unfold stV
  rw [if_pos hB, show endsL.length = 3 from rfl, stb3]
  have z1 (x : UInt8) : (⟨#[x]⟩ : ByteArray).size = 1 := rfl
  have key (n : Nat) (x : UInt8) : txtB (t.extract 0 n ++ ⟨#[x]⟩) = true := by
    refine decide_eq_true ?_
    rw [ByteArray.size_append, ByteArray.size_extract, z1]; omega
  unfold stWant
  cases hsB t eCBA with
  | true => exact if_pos (key _ _)
  | false =>
    cases hsB t eBA with
    | true => exact if_pos (key _ _)
    | false =>
      cases hsB t eA with
      | true => exact if_pos (key _ _)
      | false => rfl
theorem stem_kept {t : ByteArray} (h : t.size < 40) : stV endsL xyzL t 40 = (t, true) := by
  have hB : stB endsL xyzL t 40 = true := by
    unfold stB
    rw [show txtB t = true from decide_eq_true (by omega)]; decide
  have no (e : ByteArray) : okAt t 40 e = false := by
    unfold okAt
    rw [decide_eq_false (by omega), Bool.and_false]
  have h3 : stb endsL t 40 3 = -1 := by
    rw [stb, no, stb, no, stb, no]; rfl
  unfold stV
  rw [if_pos hB, show endsL.length = 3 from rfl, h3]; rfl
-- Hyphens.
def pA : ByteArray := ⟨#[97, 49, 98]⟩
def pB : ByteArray := ⟨#[98, 49, 99]⟩
def pC : ByteArray := ⟨#[97, 98, 50, 99]⟩
def patsL : List ByteArray := [pA, pB, pC]
theorem patA : hyStr pA = ⟨#[97, 98]⟩ ∧ hyDs pA = [0, 1, 0] := by decide +kernel
theorem patB : hyStr pB = ⟨#[98, 99]⟩ ∧ hyDs pB = [0, 1, 0] := by decide +kernel
theorem patC : hyStr pC = ⟨#[97, 98, 99]⟩ ∧ hyDs pC = [0, 0, 2, 0] := by decide +kernel
theorem pats_ok : patsL.all hyK = true := by decide +kernel
theorem pats_B {t : ByteArray} (h : letB t = true) : hyB t patsL = true := by
  unfold hyB; rw [h, pats_ok]; rfl
/-- One digit alone. -/
def Spk (D : List Int) (q : Nat) (d : Int) : Prop := 0 ≤ d ∧ q < D.length ∧ ∀ m, D.getD m 0 = if m = q then d else 0
theorem spk_ab : Spk [0, 1, 0] 1 1 := ⟨by decide, by decide, fun m => by
  match m with
  | 0 | 1 | 2 => rfl
  | m + 3 => simp⟩
theorem spk_abc : Spk [0, 0, 2, 0] 2 2 := ⟨by decide, by decide, fun m => by
  match m with
  | 0 | 1 | 2 | 3 => rfl
  | m + 4 => simp⟩
theorem getD_set (M : List Int) (i p : Nat) (x : Int) (h : p < M.length) : (M.set i x).getD p 0 = if p = i then x else M.getD p 0 := by
  rw [List.getD_eq_getElem?_getD, List.getD_eq_getElem?_getD, List.getElem?_set]
  by_cases e : i = p
  · subst e; rw [if_pos rfl, if_pos h, if_pos rfl]; rfl
  · rw [if_neg e, if_neg (fun x => e x.symm)]
theorem hyU_spk {M D : List Int} {q : Nat} {d : Int} (h9 : Dg9 M) (hD : Dg9 D) (hs : Spk D q d) (i p : Nat) (hp : p < M.length) : ∀ k, (hyU M i D k).getD p 0 = if p = i + q ∧ q < k then max (M.getD p 0) d else M.getD p 0
  | 0 => by rw [if_neg (by omega)]; rfl
  | k + 1 => by
    have ih := hyU_spk h9 hD hs i p hp k
    have hk := (hyU_9 h9 hD i k).getD (i + k)
    rw [hyU, getD_set _ _ _ _ (by rw [hyU_len]; exact hp), hs.2.2 k, ih]
    by_cases e : p = i + k
    · rw [if_pos e]
      subst e
      rw [ih]
      by_cases e2 : k = q
      · subst e2
        rw [if_neg (by omega), if_pos rfl, if_pos (by omega)]
      · have := h9.getD (i + k)
        rw [if_neg e2, if_neg (by omega), if_neg (by omega)]; omega
    · rw [if_neg e]
      by_cases e2 : p = i + q ∧ q < k
      · rw [if_pos e2, if_pos (by omega)]
      · rw [if_neg e2, if_neg (by omega)]
theorem hyV_spk {s x : ByteArray} {M D : List Int} {q : Nat} {d : Int} (h9 : Dg9 M) (hD : Dg9 D) (hs : Spk D q d) (p : Nat) (hp : p < M.length) : ∀ n, (hyV s x D M n).getD p 0 = if q ≤ p ∧ p < n + q ∧ hyHit s x (p - q) = true then max (M.getD p 0) d else M.getD p 0
  | 0 => by rw [if_neg (by omega)]; rfl
  | n + 1 => by
    have ih := hyV_spk (s := s) (x := x) h9 hD hs p hp n
    rw [hyV]
    by_cases hh : hyHit s x n = true
    · rw [if_pos hh, hyU_spk (hyV_9 h9 hD n) hD hs n p (by rw [hyV_len]; exact hp), ih]
      by_cases e : p = n + q
      · subst e
        rw [if_pos ⟨rfl, hs.2.1⟩, if_neg (by omega), if_pos ⟨by omega, by omega, by rw [show n + q - q = n by omega]; exact hh⟩]
      · rw [if_neg (by omega)]
        by_cases e2 : q ≤ p ∧ p < n + q ∧ hyHit s x (p - q) = true
        · rw [if_pos e2, if_pos ⟨e2.1, by omega, e2.2.2⟩]
        · rw [if_neg e2, if_neg (fun e3 => e2 ⟨e3.1, by omega, e3.2.2⟩)]
    · rw [if_neg hh, ih]
      by_cases e2 : q ≤ p ∧ p < n + q ∧ hyHit s x (p - q) = true
      · rw [if_pos e2, if_pos ⟨e2.1, by omega, e2.2.2⟩]
      · rw [if_neg e2, if_neg (fun e3 => e2 ⟨e3.1, ?_, e3.2.2⟩)]
        by_cases e4 : p = n + q
        · subst e4
          rw [show n + q - q = n by omega] at e3
          exact absurd e3.2.2 hh
        · omega
theorem d9_ab : Dg9 [0, 1, 0] := by intro x hx; simp at hx; omega
theorem d9_abc : Dg9 [0, 0, 2, 0] := by intro x hx; simp at hx; omega
def hyM (t : ByteArray) : List Int := hyN (hyE t) patsL 3
/-- Whether a hyphen stands ahead of place k: the law's own words. -/
def part (t : ByteArray) (k : Nat) : Bool := decide (b8 t (k - 1) = 97 ∧ b8 t k = 98) || decide ((b8 t (k - 1) = 98 ∧ b8 t k = 99) ∧ b8 t (k - 2) ≠ 97)
theorem hyE_b8 {t : ByteArray} {j : Nat} (h : j < t.size) : b8 (hyE t) (j + 1) = b8 t j := by
  unfold hyE b8
  have h1 : j + 1 < ((⟨#[46]⟩ : ByteArray) ++ t ++ ⟨#[46]⟩).size := by
    rw [ByteArray.size_append, ByteArray.size_append, show (⟨#[46]⟩ : ByteArray).size = 1 from rfl]; omega
  have h2 : j + 1 < ((⟨#[46]⟩ : ByteArray) ++ t).size := by
    rw [ByteArray.size_append, show (⟨#[46]⟩ : ByteArray).size = 1 from rfl]; omega
  rw [dif_pos h1, dif_pos h, ByteArray.getElem_append_left h2, ByteArray.getElem_append_right (by rw [show (⟨#[46]⟩ : ByteArray).size = 1 from rfl]; omega)]
  simp only [show (⟨#[46]⟩ : ByteArray).size = 1 from rfl, Nat.add_sub_cancel]
theorem b8_ext {t : ByteArray} {i j m : Nat} (hj : j < m - i) (hm : m ≤ t.size) : b8 (t.extract i m) j = b8 t (i + j) := by
  have h1 : j < (t.extract i m).size := by rw [ByteArray.size_extract]; omega
  unfold b8
  rw [dif_pos h1, dif_pos (by omega)]
  exact ByteArray.getElem_extract ..
theorem hit2 {t : ByteArray} {k : Nat} {x y : UInt8} (h1 : 1 ≤ k) (h2 : k < t.size) : hyHit (hyE t) ⟨#[x, y]⟩ k = decide (b8 t (k - 1) = x ∧ b8 t k = y) := by
  have hs := hyE_size t
  have z : (⟨#[x, y]⟩ : ByteArray).size = 2 := rfl
  rw [hit_is (by rw [z]; omega), z, decide_eq_decide]
  have e0 : b8 ((hyE t).extract k (k + 2)) 0 = b8 t (k - 1) := by
    rw [b8_ext (by omega) (by omega), show k + 0 = (k - 1) + 1 by omega, hyE_b8 (by omega)]
  have e1 : b8 ((hyE t).extract k (k + 2)) 1 = b8 t k := by
    rw [b8_ext (by omega) (by omega), hyE_b8 (by omega)]
  constructor
  · intro e
    rw [e] at e0 e1
    exact ⟨e0.symm, e1.symm⟩
  · rintro ⟨a, b⟩
    refine ext_b8 (by rw [ByteArray.size_extract, z]; omega) (fun j hj => ?_)
    rw [ByteArray.size_extract] at hj
    have : j = 0 ∨ j = 1 := by omega
    rcases this with rfl | rfl
    · rw [e0, a]; rfl
    · rw [e1, b]; rfl
theorem hit3 {t : ByteArray} {k : Nat} {x y z : UInt8} (h1 : 1 ≤ k) (h2 : k + 1 < t.size) : hyHit (hyE t) ⟨#[x, y, z]⟩ k = decide (b8 t (k - 1) = x ∧ b8 t k = y ∧ b8 t (k + 1) = z) := by
  have hs := hyE_size t
  have zz : (⟨#[x, y, z]⟩ : ByteArray).size = 3 := rfl
  rw [hit_is (by rw [zz]; omega), zz, decide_eq_decide]
  have e0 : b8 ((hyE t).extract k (k + 3)) 0 = b8 t (k - 1) := by
    rw [b8_ext (by omega) (by omega), show k + 0 = (k - 1) + 1 by omega, hyE_b8 (by omega)]
  have e1 : b8 ((hyE t).extract k (k + 3)) 1 = b8 t k := by
    rw [b8_ext (by omega) (by omega), hyE_b8 (by omega)]
  have e2 : b8 ((hyE t).extract k (k + 3)) 2 = b8 t (k + 1) := by
    rw [b8_ext (by omega) (by omega), show k + 2 = (k + 1) + 1 by omega, hyE_b8 (by omega)]
  constructor
  · intro e
    rw [e] at e0 e1 e2
    exact ⟨e0.symm, e1.symm, e2.symm⟩
  · rintro ⟨a, b, c⟩
    refine ext_b8 (by rw [ByteArray.size_extract, zz]; omega) (fun j hj => ?_)
    rw [ByteArray.size_extract] at hj
    have : j = 0 ∨ j = 1 ∨ j = 2 := by omega
    rcases this with rfl | rfl | rfl
    · rw [e0, a]; rfl
    · rw [e1, b]; rfl
    · rw [e2, c]; rfl
theorem odd_of (P Q A : Prop) [Decidable P] [Decidable Q] [Decidable A] (h : ¬ (P ∧ Q)) : decide ((if A ∧ Q then max (if Q then max (if P then max (0 : Int) 1 else 0) 1 else if P then max 0 1 else 0) 2 else if Q then max (if P then max 0 1 else 0) 1 else if P then max 0 1 else 0) % 2 = 1) = (decide P || decide (Q ∧ ¬ A)) := by
  by_cases p : P
  · have q : ¬ Q := fun q => h ⟨p, q⟩
    by_cases a : A <;> simp [p, q, a] <;> decide
  · by_cases q : Q <;> by_cases a : A <;> simp [p, q, a] <;> decide
theorem hyM_part {t : ByteArray} {k : Nat} (h1 : 2 ≤ k) (h2 : k + 2 ≤ t.size) : decide ((hyM t).getD (k + 1) 0 % 2 = 1) = part t k := by
  have hs := hyE_size t
  have l0 : (List.replicate ((hyE t).size + 1) (0 : Int)).getD (k + 1) 0 = 0 := by
    rw [List.getD_eq_getElem?_getD, List.getElem?_replicate]; split <;> rfl
  have M0 := Dg9.zeros ((hyE t).size + 1)
  have M1 := hyV_9 (s := hyE t) (x := ⟨#[97, 98]⟩) M0 d9_ab (hyE t).size
  have M2 := hyV_9 (s := hyE t) (x := ⟨#[98, 99]⟩) M1 d9_ab (hyE t).size
  have e1 := hyV_spk (s := hyE t) (x := ⟨#[97, 98]⟩) M0 d9_ab spk_ab (k + 1) (by rw [List.length_replicate]; omega) (hyE t).size
  have e2 := hyV_spk (s := hyE t) (x := ⟨#[98, 99]⟩) M1 d9_ab spk_ab (k + 1) (by rw [hyV_len, List.length_replicate]; omega) (hyE t).size
  have e3 := hyV_spk (s := hyE t) (x := ⟨#[97, 98, 99]⟩) M2 d9_abc spk_abc (k + 1) (by rw [hyV_len, hyV_len, List.length_replicate]; omega) (hyE t).size
  have eM : hyM t = hyV (hyE t) ⟨#[97, 98, 99]⟩ [0, 0, 2, 0] (hyV (hyE t) ⟨#[98, 99]⟩ [0, 1, 0] (hyV (hyE t) ⟨#[97, 98]⟩ [0, 1, 0] (List.replicate ((hyE t).size + 1) 0) (hyE t).size) (hyE t).size) (hyE t).size := by
    unfold hyM
    rw [hyN, hyN, hyN, hyN]
    show hyV _ (hyStr pC) (hyDs pC) (hyV _ (hyStr pB) (hyDs pB) (hyV _ (hyStr pA) (hyDs pA) _ _) _) _ = _
    rw [patA.1, patA.2, patB.1, patB.2, patC.1, patC.2]
  rw [eM, e3, e2, e1, l0, Nat.add_sub_cancel, show k + 1 - 2 = k - 1 by omega, hit2 (by omega) (by omega), hit2 (by omega) (by omega), hit3 (by omega) (by omega), show k - 1 - 1 = k - 2 by omega, show k - 1 + 1 = k by omega]
  unfold part
  simp only [decide_eq_true_eq, show (1 ≤ k + 1) = True from eq_true (by omega), show (2 ≤ k + 1) = True from eq_true (by omega), show (k + 1 < (hyE t).size + 1) = True from eq_true (by omega), show (k + 1 < (hyE t).size + 2) = True from eq_true (by omega), true_and]
  exact odd_of _ _ _ (fun ⟨p, q⟩ => absurd (p.1.symm.trans q.1) (by decide))
/-- The places that hold hyphens, up to k. -/
def hyC (t : ByteArray) (k : Nat) : List Int := hyO (hyM t) (k - 2)
theorem hyC_two (t : ByteArray) : hyC t 2 = [] := rfl
theorem hyC_yes {t : ByteArray} {k : Nat} (h1 : 2 ≤ k) (h2 : k + 2 ≤ t.size) (h : part t k = true) : hyC t (k + 1) = hyC t k ++ [(k : Int)] := by
  unfold hyC
  rw [show k + 1 - 2 = (k - 2) + 1 by omega, hyO, show k - 2 + 3 = k + 1 by omega]
  rw [← hyM_part h1 h2] at h
  rw [if_pos (of_decide_eq_true h), show (((k - 2 : Nat) : Int) + 2) = (k : Int) by omega]
theorem hyC_no {t : ByteArray} {k : Nat} (h1 : 2 ≤ k) (h2 : k + 2 ≤ t.size) (h : part t k = false) : hyC t (k + 1) = hyC t k := by
  unfold hyC
  rw [show k + 1 - 2 = (k - 2) + 1 by omega, hyO, show k - 2 + 3 = k + 1 by omega]
  rw [← hyM_part h1 h2] at h
  rw [if_neg (of_decide_eq_false h)]
theorem hyC_all (t : ByteArray) : hyC t (t.size - 1) = hyR t patsL := by
  unfold hyC hyR hyM
  rw [show t.size - 1 - 2 = t.size - 3 by omega]; rfl
theorem hyC_pre (t : ByteArray) : ∀ m k, ∃ r, hyC t (k + m) = hyC t k ++ r
  | 0, k => ⟨[], by simp⟩
  | m + 1, k => by
    obtain ⟨r, hr⟩ := hyC_pre t m k
    unfold hyC at hr ⊢
    by_cases h : k + m < 2
    · exact ⟨r, by rw [← hr, show k + (m + 1) - 2 = k + m - 2 by omega]⟩
    · rw [show k + (m + 1) - 2 = (k + m - 2) + 1 by omega, hyO, hr]
      split
      · exact ⟨r ++ [_], by rw [List.append_assoc]⟩
      · exact ⟨r, rfl⟩
/-- What stands at a hyphen's number. -/
theorem hyC_at {t : ByteArray} {k : Nat} (h1 : 2 ≤ k) (h2 : k + 2 ≤ t.size) (h : part t k = true) : (hyR t patsL)[(hyC t k).length]? = some (k : Int) := by
  obtain ⟨r, hr⟩ := hyC_pre t (t.size - 1 - (k + 1)) (k + 1)
  rw [show k + 1 + (t.size - 1 - (k + 1)) = t.size - 1 by omega, hyC_all, hyC_yes h1 h2 h] at hr
  rw [hr, List.append_assoc, List.getElem?_append_right (Nat.le_refl _), Nat.sub_self]; rfl
end Go.Proofs.YtpmklldochpnlaaDoor
