/- Hyphens, plainly: the table of the greatest digits, and the places. -/
import Derived.Test.YtpmklldochpnlaaDoorHyP
import Derived.Test.YtpmklldochpnlaaDoorCsT

namespace Go.Proofs.YtpmklldochpnlaaDoor
open Go.RowKit
set_option linter.unusedVariables false
/-- The digits laid at place i: the first k of them. -/
def hyU (M : List Int) (i : Nat) (D : List Int) : Nat → List Int
  | 0 => M
  | k + 1 => (hyU M i D k).set (i + k) (max ((hyU M i D k).getD (i + k) 0) (D.getD k 0))
def hyHit (s : ByteArray) (x : ByteArray) (i : Nat) : Bool := hpB (s.extract i s.size) x
/-- The places ahead of i. -/
def hyV (s x : ByteArray) (D M : List Int) : Nat → List Int
  | 0 => M
  | i + 1 => if hyHit s x i then hyU (hyV s x D M i) i D D.length else hyV s x D M i
def hyStr (p : ByteArray) : ByteArray := ⟨(hyLs p).toArray⟩
/-- The first n patterns. -/
def hyN (s : ByteArray) (ps : List ByteArray) : Nat → List Int
  | 0 => List.replicate (s.size + 1) 0
  | n + 1 => hyV s (hyStr (ps.getD n ByteArray.empty)) (hyDs (ps.getD n ByteArray.empty)) (hyN s ps n) s.size
def hyE (t : ByteArray) : ByteArray := (⟨#[46]⟩ : ByteArray) ++ t ++ ⟨#[46]⟩
def hyO (M : List Int) : Nat → List Int
  | 0 => []
  | j + 1 => if M.getD (j + 3) 0 % 2 = 1 then hyO M j ++ [((j : Int) + 2)] else hyO M j
def hyB (t : ByteArray) (ps : List ByteArray) : Bool := letB t && decide (ps.length ≤ 32) && ps.all hyK
def hyR (t : ByteArray) (ps : List ByteArray) : List Int := hyO (hyN (hyE t) ps ps.length) (t.size - 3)
theorem hyU_len (M : List Int) (i : Nat) (D : List Int) (k : Nat) : (hyU M i D k).length = M.length := by
  induction k with
  | zero => rfl
  | succ k ih => rw [hyU, List.length_set, ih]
theorem hyV_len (s x : ByteArray) (D M : List Int) (i : Nat) : (hyV s x D M i).length = M.length := by
  induction i with
  | zero => rfl
  | succ i ih =>
    rw [hyV]
    split
    · rw [hyU_len, ih]
    · exact ih
theorem hyN_len (s : ByteArray) (ps : List ByteArray) (n : Nat) : (hyN s ps n).length = s.size + 1 := by
  induction n with
  | zero => simp [hyN]
  | succ n ih => rw [hyN, hyV_len, ih]
theorem hyO_len (M : List Int) (j : Nat) : (hyO M j).length ≤ j := by
  induction j with
  | zero => simp [hyO]
  | succ j ih =>
    rw [hyO]
    split
    · simp; omega
    · omega
def Dg9 (M : List Int) : Prop := ∀ x ∈ M, 0 ≤ x ∧ x ≤ 9
theorem Dg9.getD {M : List Int} (h : Dg9 M) (k : Nat) : 0 ≤ M.getD k 0 ∧ M.getD k 0 ≤ 9 := by
  rw [List.getD_eq_getElem?_getD]
  cases hx : M[k]? with
  | none => simp
  | some x => exact h x (List.mem_of_getElem? hx)
theorem Dg9.set {M : List Int} (h : Dg9 M) {k : Nat} {x : Int} (hx : 0 ≤ x ∧ x ≤ 9) : Dg9 (M.set k x) := fun y hy => by
  rcases List.mem_or_eq_of_mem_set hy with h1 | rfl
  · exact h y h1
  · exact hx
theorem hyU_9 {M D : List Int} (h : Dg9 M) (hD : Dg9 D) (i k : Nat) : Dg9 (hyU M i D k) := by
  induction k with
  | zero => exact h
  | succ k ih =>
    rw [hyU]
    refine ih.set ?_
    have h1 := ih.getD (i + k); have h2 := hD.getD k
    omega
theorem hyV_9 {s x : ByteArray} {M D : List Int} (h : Dg9 M) (hD : Dg9 D) (i : Nat) : Dg9 (hyV s x D M i) := by
  induction i with
  | zero => exact h
  | succ i ih =>
    rw [hyV]
    split
    · exact hyU_9 ih hD _ _
    · exact ih
theorem Dg9.zeros (n : Nat) : Dg9 (List.replicate n 0) := fun x hx => by have := List.eq_of_mem_replicate hx; omega
theorem hit_le {s x : ByteArray} {i : Nat} (hi : i ≤ s.size) (h : hyHit s x i = true) : i + x.size ≤ s.size := by
  unfold hyHit hpB at h
  rw [Bool.and_eq_true] at h
  have := of_decide_eq_true h.1
  rw [ByteArray.size_extract] at this
  omega
theorem hit_is {s x : ByteArray} {i : Nat} (h : i + x.size ≤ s.size) : hyHit s x i = decide (s.extract i (i + x.size) = x) := by
  unfold hyHit hpB
  rw [decide_eq_true (by rw [ByteArray.size_extract]; omega), Bool.true_and]
  have e : (s.extract i s.size).extract 0 x.size = s.extract i (i + x.size) := by
    rw [ByteArray.extract_extract]; congr 1; omega
  rw [e]
/-- Behind the last place where x has room nothing changes. -/
theorem hyV_stop {s x : ByteArray} {D M : List Int} {i : Nat} (h1 : s.size < i + x.size) : ∀ k, i + k ≤ s.size → hyV s x D M (i + k) = hyV s x D M i
  | 0, _ => rfl
  | k + 1, hk => by
    rw [show i + (k + 1) = (i + k) + 1 by omega, hyV, if_neg, hyV_stop h1 k (by omega)]
    intro h
    have := hit_le (by omega) h
    omega
theorem hyV_end {s x : ByteArray} {D M : List Int} {i : Nat} (h1 : s.size < i + x.size) (h2 : i ≤ s.size) : hyV s x D M s.size = hyV s x D M i := by
  have := hyV_stop (D := D) (M := M) h1 (s.size - i) (by omega)
  rwa [show i + (s.size - i) = s.size by omega] at this
theorem hyE_size (t : ByteArray) : (hyE t).size = t.size + 2 := by
  unfold hyE
  rw [ByteArray.size_append, ByteArray.size_append]
  have : (⟨#[46]⟩ : ByteArray).size = 1 := rfl
  omega
end Go.Proofs.YtpmklldochpnlaaDoor
