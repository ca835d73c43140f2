/- JoinStates of the reference: what stands behind some rows, plainly. -/
import Derived.Test.YtomofghiafcefaaJsK

namespace Go.Proofs.Ytomofghiafcefaa
open Go.RowKit Ieee
set_option linter.unusedVariables false
def pP (P : List F32) (i k p : Nat) : List F32 := (ids p k).map (jpF P i k)
def pQ (Q : List F32) (s i k : Nat) (x y : F32) (p : Nat) : List F32 := (ids p k).flatMap fun p' => (ids s k).map (jsF Q s i k x y p')
def pQ2 (Q : List F32) (s i k : Nat) (x y : F32) (p q : Nat) : List F32 := pQ Q s i k x y p ++ (ids q k).map (jsF Q s i k x y p)
def pR (R : List F32) (t i k : Nat) (x y : F32) (p : Nat) : List F32 := (ids p k).flatMap fun p' => (List.range t).map fun q => jrA R t i k x y (p' * t + q)
section
variable {P Q R : List F32} {s t i k p q : Nat} {x y : F32}
theorem ids_same (h : p = k) : ids (p + 1) k = ids p k := by rw [ids_succ, if_pos h]
theorem ids_more (h : p ≠ k) : ids (p + 1) k = ids p k ++ [p] := by rw [ids_succ, if_neg h]
theorem ids_le (p k : Nat) : (ids p k).length ≤ p := by
  have := List.length_filter_le (fun p => !(p == k)) (List.range p)
  unfold ids; simpa using this
theorem pP_same (h : p = k) : pP P i k (p + 1) = pP P i k p := by unfold pP; rw [ids_same h]
theorem pP_more (h : p ≠ k) : pP P i k (p + 1) = pP P i k p ++ [jpF P i k p] := by unfold pP; rw [ids_more h]; simp
theorem pQ_same (h : p = k) : pQ Q s i k x y (p + 1) = pQ Q s i k x y p := by unfold pQ; rw [ids_same h]
theorem pQ_more (h : p ≠ k) : pQ Q s i k x y (p + 1) = pQ2 Q s i k x y p s := by unfold pQ pQ2; rw [ids_more h]; simp [pQ]
theorem pQ2_zero : pQ2 Q s i k x y p 0 = pQ Q s i k x y p := by unfold pQ2 ids; simp
theorem pQ2_same (h : q = k) : pQ2 Q s i k x y p (q + 1) = pQ2 Q s i k x y p q := by unfold pQ2; rw [ids_same h]
theorem pQ2_more (h : q ≠ k) : pQ2 Q s i k x y p (q + 1) = pQ2 Q s i k x y p q ++ [jsF Q s i k x y p q] := by unfold pQ2; rw [ids_more h]; simp
theorem pR_same (h : p = k) : pR R t i k x y (p + 1) = pR R t i k x y p := by unfold pR; rw [ids_same h]
theorem pR_more (h : p ≠ k) : pR R t i k x y (p + 1) = pR R t i k x y p ++ (List.range t).map (fun q => jrA R t i k x y (p * t + q)) := by unfold pR; rw [ids_more h]; simp
theorem pR_all : pR R t i k x y s = jrL R s t i k x y := by unfold pR jrL idx; rw [List.map_flatMap]; simp [List.map_map, Function.comp_def]
theorem pP_all : pP P i k s = jpL P s i k := rfl
theorem pQ_all : pQ Q s i k x y s = jsL Q s i k x y := rfl
theorem pP_len : (pP P i k p).length ≤ p := by unfold pP; rw [List.length_map]; exact ids_le p k
theorem pQ_len (hp : p ≤ 5) (hs : s ≤ 5) : (pQ Q s i k x y p).length ≤ 25 := by
  unfold pQ
  rw [flat_len _ (ids s k).length _ (fun _ _ => by rw [List.length_map])]
  exact Nat.mul_le_mul (Nat.le_trans (ids_le p k) hp) (Nat.le_trans (ids_le s k) hs)
theorem pQ2_len (hp : p ≤ 5) (hs : s ≤ 5) (hq : q ≤ 5) : (pQ2 Q s i k x y p q).length ≤ 30 := by
  unfold pQ2
  rw [List.length_append, List.length_map]
  have h1 := pQ_len (Q := Q) (i := i) (k := k) (x := x) (y := y) hp hs
  have h2 := ids_le q k
  omega
theorem pR_len (hp : p ≤ 5) (ht : t ≤ 5) : (pR R t i k x y p).length ≤ 25 := by
  unfold pR
  rw [flat_len _ t _ (fun _ _ => by rw [List.length_map, List.length_range])]
  exact Nat.mul_le_mul (Nat.le_trans (ids_le p k) hp) ht
theorem jrS_jrA {l : Nat} (hl : i * l + l ≤ R.length) (j : Nat) : atF (jrS R l i k x y l) j = jrA R l i k x y j := by rw [jrS_at hl l (Nat.le_refl _)]; rfl
/-- A row of the joined table, out of the table whose row i is written. -/
theorem jr_chunk {l : Nat} (hl : R.length = s * l) (hi : i < s) (hp : p < s) : ((jrS R l i k x y l).drop (p * l)).take l = (List.range l).map (fun q => jrA R l i k x y (p * l + q)) := by
  have h1 : (p + 1) * l ≤ s * l := Nat.mul_le_mul_right _ hp
  rw [Nat.add_mul, Nat.one_mul] at h1
  rw [jrS_all hl hi, ← List.map_drop, ← List.map_take]
  have e : ((List.range (s * l)).drop (p * l)).take l = (List.range l).map (fun q => p * l + q) := by
    apply List.ext_getElem?
    intro j
    rcases Nat.lt_or_ge j l with hj | hj
    · rw [List.getElem?_take_of_lt hj, List.getElem?_drop, List.getElem?_range (by omega), List.getElem?_map, List.getElem?_range hj]; rfl
    · rw [List.getElem?_eq_none (by simp; omega), List.getElem?_eq_none (by simp; omega)]
  rw [e, List.map_map]; rfl
end
end Go.Proofs.Ytomofghiafcefaa
