/- Tidy arcs, plainly: the order of arcs, one arc for each place and letter. -/
import Derived.Test.YtegponioggpkcaaArc
import Derived.Sort.LotA
namespace Go.Proofs.Ytegponioggpkcaa
open Go.RowKit
set_option linter.unusedVariables false
/-- Whether an arc comes before another one; whether they lead alike. -/
def arLt (a b : A4) : Bool :=
  if a.1 = b.1 then (if a.2.2.1 = b.2.2.1 then (if a.2.1 = b.2.1 then decide (a.2.2.2 < b.2.2.2) else decide (a.2.1 < b.2.1)) else decide (a.2.2.1 < b.2.2.1)) else decide (a.1 < b.1)
def arEq (a b : A4) : Bool := decide (a.1 = b.1) && decide (a.2.2.1 = b.2.2.1) && decide (a.2.1 = b.2.1)
theorem arLt_iff (a b : A4) : arLt a b = true ↔ a.1 < b.1 ∨ (a.1 = b.1 ∧ (a.2.2.1 < b.2.2.1 ∨ (a.2.2.1 = b.2.2.1 ∧ (a.2.1 < b.2.1 ∨ (a.2.1 = b.2.1 ∧ a.2.2.2 < b.2.2.2))))) := by
  unfold arLt
  by_cases h1 : a.1 = b.1
  · rw [if_pos h1]
    by_cases h2 : a.2.2.1 = b.2.2.1
    · rw [if_pos h2]
      by_cases h3 : a.2.1 = b.2.1
      · rw [if_pos h3, decide_eq_true_eq]; omega
      · rw [if_neg h3, decide_eq_true_eq]; omega
    · rw [if_neg h2, decide_eq_true_eq]; omega
  · rw [if_neg h1, decide_eq_true_eq]; omega
theorem arLt_false (a b : A4) : arLt a b = false ↔ ¬ (a.1 < b.1 ∨ (a.1 = b.1 ∧ (a.2.2.1 < b.2.2.1 ∨ (a.2.2.1 = b.2.2.1 ∧ (a.2.1 < b.2.1 ∨ (a.2.1 = b.2.1 ∧ a.2.2.2 < b.2.2.2)))))) := by
  rw [← arLt_iff]; cases arLt a b <;> simp
theorem arLt_swo : Sort.SWO arLt where
  irrefl x := by rw [arLt_false]; omega
  trans x y z h1 h2 := by rw [arLt_iff] at *; omega
  ntrans x y z h1 h2 := by rw [arLt_false] at *; omega
theorem arLt_total (x y : A4) (h1 : arLt x y = false) (h2 : arLt y x = false) : x = y := by
  rw [arLt_false] at h1 h2
  obtain ⟨x1, x2, x3, x4⟩ := x
  obtain ⟨y1, y2, y3, y4⟩ := y
  simp only [] at h1 h2
  have e1 : x1 = y1 := by omega
  subst e1
  have e3 : x3 = y3 := by omega
  subst e3
  have e2 : x2 = y2 := by omega
  subst e2
  have e4 : x4 = y4 := by omega
  subst e4
  rfl
theorem arEq_iff (a b : A4) : arEq a b = true ↔ a.1 = b.1 ∧ a.2.2.1 = b.2.2.1 ∧ a.2.1 = b.2.1 := by
  unfold arEq; rw [Bool.and_eq_true, Bool.and_eq_true, decide_eq_true_eq, decide_eq_true_eq, decide_eq_true_eq, and_assoc]
theorem arEq_trans {a b c : A4} (h : arEq a b = true) : arEq a c = arEq b c := by
  rw [arEq_iff] at h
  have : ∀ u v : Bool, (u = true ↔ v = true) → u = v := by decide
  exact this _ _ (by rw [arEq_iff, arEq_iff]; omega)
theorem arEq_symm (a b : A4) : arEq a b = arEq b a := by
  have : ∀ u v : Bool, (u = true ↔ v = true) → u = v := by decide
  exact this _ _ (by rw [arEq_iff, arEq_iff]; omega)
/-- The arcs in order. -/
def tdS (L : List A4) : List A4 := L.mergeSort (fun x y => !arLt y x)
theorem tdS_of {L M : List A4} (hp : Sort.PermIn 0 L.toArray.size L.toArray M.toArray) (hs : Sort.SortedIn arLt 0 L.toArray.size M.toArray) : M = tdS L :=
  Sort.sorted_unique_holds arLt_swo arLt_total L.toArray M.toArray hp hs
theorem tdS_ins (L : List A4) : (Sort.insertionSort arLt L.toArray 0 L.length).toList = tdS L := by
  obtain ⟨h1, h2⟩ := Sort.insertionSort_holds (lt := arLt) arLt_swo L.toArray 0 L.length (Nat.zero_le _) (by simp)
  have e : (Sort.insertionSort arLt L.toArray 0 L.length).toList.toArray = Sort.insertionSort arLt L.toArray 0 L.length := by simp
  exact tdS_of (by rw [e]; exact h1) (by rw [e]; exact h2)
theorem tdS_perm (L : List A4) : (tdS L).Perm L := List.mergeSort_perm _ _
theorem tdS_len (L : List A4) : (tdS L).length = L.length := (tdS_perm L).length_eq
theorem tdS_mem {L : List A4} {a : A4} : a ∈ tdS L ↔ a ∈ L := (tdS_perm L).mem_iff
/-- What the program keeps of the first k arcs: those unlike the one before; what the reference keeps: those unlike the last one kept. -/
def kpA (l : List A4) (k : Nat) : Bool := match k with
  | 0 => true
  | k + 1 => !arEq (l.getD (k + 1) default) (l.getD k default)
def pG (l : List A4) : Nat → List A4
  | 0 => []
  | k + 1 => pG l k ++ (if kpA l k then [l.getD k default] else [])
def rG (l : List A4) : Nat → List A4
  | 0 => []
  | k + 1 => match (rG l k).getLast? with
    | none => rG l k ++ [l.getD k default]
    | some p => if arEq p (l.getD k default) then rG l k else rG l k ++ [l.getD k default]
theorem pG_step_pos {l : List A4} {k : Nat} (h : kpA l k = true) : pG l (k + 1) = pG l k ++ [l.getD k default] := by show pG l k ++ _ = _; rw [if_pos h]
theorem pG_step_neg {l : List A4} {k : Nat} (h : kpA l k = false) : pG l (k + 1) = pG l k := by show pG l k ++ _ = _; rw [if_neg (by rw [h]; decide), List.append_nil]
theorem rG_last {l : List A4} : ∀ k, ∃ p, (rG l (k + 1)).getLast? = some p ∧ arEq p (l.getD k default) = true
  | 0 => ⟨l.getD 0 default, rfl, by rw [arEq_iff]; exact ⟨rfl, rfl, rfl⟩⟩
  | k + 1 => by
    obtain ⟨p, hp, he⟩ := rG_last (l := l) k
    show ∃ q, (match (rG l (k + 1)).getLast? with
      | none => rG l (k + 1) ++ [l.getD (k + 1) default]
      | some p => if arEq p (l.getD (k + 1) default) then rG l (k + 1) else rG l (k + 1) ++ [l.getD (k + 1) default]).getLast? = some q ∧ _
    rw [hp]
    simp only []
    by_cases h : arEq p (l.getD (k + 1) default) = true
    · rw [if_pos h]; exact ⟨p, hp, h⟩
    · rw [if_neg h]; exact ⟨l.getD (k + 1) default, List.getLast?_concat, by rw [arEq_iff]; exact ⟨rfl, rfl, rfl⟩⟩
theorem pG_rG (l : List A4) : ∀ k, pG l k = rG l k
  | 0 => rfl
  | 1 => rfl
  | k + 2 => by
    obtain ⟨p, hp, he⟩ := rG_last (l := l) k
    have ih := pG_rG l (k + 1)
    have e1 : rG l (k + 2) = if arEq p (l.getD (k + 1) default) then rG l (k + 1) else rG l (k + 1) ++ [l.getD (k + 1) default] := by
      show (match (rG l (k + 1)).getLast? with
        | none => rG l (k + 1) ++ [l.getD (k + 1) default]
        | some p => if arEq p (l.getD (k + 1) default) then rG l (k + 1) else rG l (k + 1) ++ [l.getD (k + 1) default]) = _
      rw [hp]
    have e2 : arEq p (l.getD (k + 1) default) = arEq (l.getD (k + 1) default) (l.getD k default) := by rw [arEq_trans he, arEq_symm]
    rw [e1, e2]
    cases h : arEq (l.getD (k + 1) default) (l.getD k default) with
    | true => rw [pG_step_neg (show kpA l (k + 1) = false by show (!arEq _ _) = false; rw [h]; rfl), ih, if_pos rfl]
    | false => rw [pG_step_pos (show kpA l (k + 1) = true by show (!arEq _ _) = true; rw [h]; rfl), ih, if_neg (by decide)]
theorem pG_len (l : List A4) : ∀ k, (pG l k).length ≤ k
  | 0 => Nat.le_refl _
  | k + 1 => by
    have := pG_len l k
    show (pG l k ++ _).length ≤ k + 1
    rw [List.length_append]
    split <;> simp <;> omega
theorem pG_mem {l : List A4} {a : A4} : ∀ {k}, k ≤ l.length → a ∈ pG l k → a ∈ l
  | 0, _, h => by simp [pG] at h
  | k + 1, hk, h => by
    have hm : l.getD k default ∈ l := by rw [List.getD_eq_getElem?_getD, List.getElem?_eq_getElem (by omega)]; exact List.getElem_mem _
    have h2 : a ∈ pG l k ++ (if kpA l k then [l.getD k default] else []) := h
    rcases List.mem_append.1 h2 with h3 | h3
    · exact pG_mem (by omega) h3
    · split at h3
      · simp at h3; rw [h3]; exact hm
      · simp at h3
/-- Tidy arcs. -/
def tdy (L : List A4) : List A4 := pG (tdS L) L.length
theorem tdy_len (L : List A4) : (tdy L).length ≤ L.length := pG_len _ _
theorem tdy_mem {L : List A4} {a : A4} (h : a ∈ tdy L) : a ∈ L := tdS_mem.1 (pG_mem (by rw [tdS_len]; exact Nat.le_refl _) h)
end Go.Proofs.Ytegponioggpkcaa
