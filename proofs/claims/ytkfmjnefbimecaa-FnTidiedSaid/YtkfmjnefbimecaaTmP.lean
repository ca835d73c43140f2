/- TrimOf plainly: states that are reached, their new numbers, what is left. -/
import Derived.Test.YtkfmjnefbimecaaMgc
import Derived.Test.YtkfmjnefbimecaaMge


namespace Go.Proofs.Ytkfmjnefbimecaa
open Go.RowKit
set_option linter.unusedVariables false
/-- One arc: its end is reached where its beginning is (the other way round if 'back'). -/
def rcF (back : Bool) (a : A4) : Nat := if back then a.2.1.toNat else a.1.toNat
def rcT (back : Bool) (a : A4) : Nat := if back then a.1.toNat else a.2.1.toNat
def rcA (back : Bool) (o : List Bool) (a : A4) : List Bool := o.set (rcT back a) (o.getD (rcT back a) false || o.getD (rcF back a) false)
def rcL (back : Bool) (L : List A4) (o : List Bool) : Nat → List Bool
  | 0 => o
  | k + 1 => match L[k]? with
    | some a => rcA back (rcL back L o k) a
    | none => rcL back L o k
def rcN (back : Bool) (L : List A4) (o : List Bool) : Nat → List Bool
  | 0 => o
  | k + 1 => rcL back L (rcN back L o k) L.length
def rc0 (F : List Int) : List Bool := F.map fun x => decide (0 ≤ x)
def rc (back : Bool) (L : List A4) (F : List Int) : List Bool := rcN back L (rc0 F) F.length
theorem rcA_len {back : Bool} {o : List Bool} {a : A4} : (rcA back o a).length = o.length := by unfold rcA; rw [List.length_set]
theorem rcL_len {back : Bool} {L : List A4} {o : List Bool} : ∀ k, (rcL back L o k).length = o.length
  | 0 => rfl
  | k + 1 => by
    show (match L[k]? with | some a => rcA back (rcL back L o k) a | none => rcL back L o k).length = _
    cases L[k]? with
    | none => exact rcL_len k
    | some a => exact rcA_len.trans (rcL_len k)
theorem rcN_len {back : Bool} {L : List A4} {o : List Bool} : ∀ k, (rcN back L o k).length = o.length
  | 0 => rfl
  | k + 1 => (rcL_len _).trans (rcN_len k)
theorem rc_len {back : Bool} {L : List A4} {F : List Int} : (rc back L F).length = F.length := by unfold rc; rw [rcN_len]; simp [rc0]
theorem rcL_step {back : Bool} {L : List A4} {o : List Bool} {k : Nat} {a : A4} (h : L[k]? = some a) : rcL back L o (k + 1) = rcA back (rcL back L o k) a := by
  show (match L[k]? with | some a => rcA back (rcL back L o k) a | none => rcL back L o k) = _
  rw [h]
/-- Which states stay; how many of the first k; the new number of a state; the lists that are left. -/
def kpB (ah bh : List Bool) (i : Nat) : Bool := ah.getD i false && bh.getD i false
def tmC (ah bh : List Bool) : Nat → Nat
  | 0 => 0
  | k + 1 => if kpB ah bh k then tmC ah bh k + 1 else tmC ah bh k
def tmM (ah bh : List Bool) (i : Nat) : Int := if kpB ah bh i then (tmC ah bh i : Int) else -1
def tmX (ah bh : List Bool) (X : List Int) : Nat → List Int
  | 0 => []
  | k + 1 => if kpB ah bh k then tmX ah bh X k ++ [X.getD k 0] else tmX ah bh X k
def tmO (ah bh : List Bool) (a : A4) : Bool := decide (0 ≤ tmM ah bh a.1.toNat) && decide (0 ≤ tmM ah bh a.2.1.toNat)
def tmB (ah bh : List Bool) (a : A4) : A4 := (tmM ah bh a.1.toNat, tmM ah bh a.2.1.toNat, a.2.2.1, a.2.2.2)
def tmA (ah bh : List Bool) (L : List A4) : Nat → List A4
  | 0 => []
  | k + 1 => match L[k]? with
    | some a => if tmO ah bh a then tmA ah bh L k ++ [tmB ah bh a] else tmA ah bh L k
    | none => tmA ah bh L k
/-- The row of numbers behind k states: those told, then -1. -/
def tmR (ah bh : List Bool) (S k : Nat) : List Int := (List.range S).map fun i => if i < k then tmM ah bh i else -1
section
variable {ah bh : List Bool}
theorem tmX_len (X : List Int) : ∀ k, (tmX ah bh X k).length = tmC ah bh k
  | 0 => rfl
  | k + 1 => by
    show (if kpB ah bh k then tmX ah bh X k ++ [X.getD k 0] else tmX ah bh X k).length = if kpB ah bh k then tmC ah bh k + 1 else tmC ah bh k
    split
    · rw [List.length_append, tmX_len X k]; rfl
    · exact tmX_len X k
theorem tmC_le : ∀ k, tmC ah bh k ≤ k
  | 0 => Nat.le_refl _
  | k + 1 => by
    have := tmC_le k
    show (if kpB ah bh k then tmC ah bh k + 1 else tmC ah bh k) ≤ k + 1
    split <;> omega
theorem tmC_mono {j k : Nat} (h : j ≤ k) : tmC ah bh j ≤ tmC ah bh k := by
  induction h with
  | refl => exact Nat.le_refl _
  | step h ih =>
    rename_i m
    have : tmC ah bh m ≤ tmC ah bh (m + 1) := by
      show tmC ah bh m ≤ if kpB ah bh m then tmC ah bh m + 1 else tmC ah bh m
      split <;> omega
    exact Nat.le_trans ih this
theorem tmC_yes {k : Nat} (h : kpB ah bh k = true) : tmC ah bh (k + 1) = tmC ah bh k + 1 := by show (if _ then _ else _) = _; rw [if_pos h]
theorem tmC_no {k : Nat} (h : kpB ah bh k = false) : tmC ah bh (k + 1) = tmC ah bh k := by show (if _ then _ else _) = _; rw [if_neg (by rw [h]; decide)]
theorem tmX_yes {X : List Int} {k : Nat} {x : Int} (h : kpB ah bh k = true) (hx : X[k]? = some x) : tmX ah bh X (k + 1) = tmX ah bh X k ++ [x] := by
  show (if _ then _ else _) = _; rw [if_pos h, List.getD_eq_getElem?_getD, hx]; rfl
theorem tmX_no {X : List Int} {k : Nat} (h : kpB ah bh k = false) : tmX ah bh X (k + 1) = tmX ah bh X k := by show (if _ then _ else _) = _; rw [if_neg (by rw [h]; decide)]
theorem tmA_yes {L : List A4} {k : Nat} {a : A4} (ha : L[k]? = some a) (h : tmO ah bh a = true) : tmA ah bh L (k + 1) = tmA ah bh L k ++ [tmB ah bh a] := by
  show (match L[k]? with | some a => if tmO ah bh a then tmA ah bh L k ++ [tmB ah bh a] else tmA ah bh L k | none => tmA ah bh L k) = _
  rw [ha]; exact if_pos h
theorem tmA_no {L : List A4} {k : Nat} {a : A4} (ha : L[k]? = some a) (h : tmO ah bh a = false) : tmA ah bh L (k + 1) = tmA ah bh L k := by
  show (match L[k]? with | some a => if tmO ah bh a then tmA ah bh L k ++ [tmB ah bh a] else tmA ah bh L k | none => tmA ah bh L k) = _
  rw [ha]; exact if_neg (by rw [h]; decide)
theorem tmA_len (L : List A4) : ∀ k, (tmA ah bh L k).length ≤ k
  | 0 => Nat.le_refl _
  | k + 1 => by
    have := tmA_len L k
    show (match L[k]? with | some a => if tmO ah bh a then tmA ah bh L k ++ [tmB ah bh a] else tmA ah bh L k | none => tmA ah bh L k).length ≤ k + 1
    cases L[k]? with
    | none => simp only []; omega
    | some a =>
      simp only []
      split
      · rw [List.length_append]; simp only [List.length_cons, List.length_nil]; omega
      · omega
theorem tmA_mem {L : List A4} {b : A4} : ∀ {k}, b ∈ tmA ah bh L k → ∃ a ∈ L, tmO ah bh a = true ∧ b = tmB ah bh a
  | 0, h => by cases h
  | k + 1, h => by
    have h2 : b ∈ (match L[k]? with | some a => if tmO ah bh a then tmA ah bh L k ++ [tmB ah bh a] else tmA ah bh L k | none => tmA ah bh L k) := h
    cases hL : L[k]? with
    | none => rw [hL] at h2; exact tmA_mem h2
    | some a =>
      rw [hL] at h2
      simp only [] at h2
      by_cases ho : tmO ah bh a = true
      · rw [if_pos ho] at h2
        rcases List.mem_append.1 h2 with h3 | h3
        · exact tmA_mem h3
        · exact ⟨a, List.mem_of_getElem? hL, ho, by simpa using h3⟩
      · rw [if_neg ho] at h2; exact tmA_mem h2
theorem tmR_len (S k : Nat) : (tmR ah bh S k).length = S := by unfold tmR; simp
theorem tmR_zero (S : Nat) : tmR ah bh S 0 = List.replicate S (-1) := by
  unfold tmR
  apply List.ext_getElem?
  intro i
  by_cases h : i < S
  · rw [List.getElem?_map, List.getElem?_range h, List.getElem?_replicate, if_pos h]; simp
  · rw [List.getElem?_eq_none (by simp; omega), List.getElem?_eq_none (by simp; omega)]
theorem tmR_at {S k i : Nat} (h : i < S) : (tmR ah bh S k)[i]? = some (if i < k then tmM ah bh i else -1) := by
  unfold tmR
  rw [List.getElem?_map, List.getElem?_range h]; rfl
theorem tmR_yes {S k : Nat} (h : k < S) (hk : kpB ah bh k = true) : tmR ah bh S (k + 1) = (tmR ah bh S k).set k (tmC ah bh k : Int) := by
  apply List.ext_getElem?
  intro i
  by_cases hi : i < S
  · rw [tmR_at hi, List.getElem?_set]
    by_cases e : k = i
    · subst e; rw [if_pos (show k < k + 1 by omega), if_pos rfl, if_pos (by rw [tmR_len]; exact h)]; unfold tmM; rw [if_pos hk]
    · rw [if_neg e, tmR_at hi]
      by_cases e2 : i < k
      · rw [if_pos e2, if_pos (by omega)]
      · rw [if_neg e2, if_neg (by omega)]
  · rw [List.getElem?_eq_none (by rw [tmR_len]; omega), List.getElem?_eq_none (by rw [List.length_set, tmR_len]; omega)]
theorem tmR_no {S k : Nat} (hk : kpB ah bh k = false) : tmR ah bh S (k + 1) = tmR ah bh S k := by
  apply List.ext_getElem?
  intro i
  by_cases hi : i < S
  · rw [tmR_at hi, tmR_at hi]
    by_cases e : i = k
    · subst e; rw [if_pos (by omega), if_neg (by omega)]; unfold tmM; rw [if_neg (by rw [hk]; decide)]
    · by_cases e2 : i < k
      · rw [if_pos e2, if_pos (by omega)]
      · rw [if_neg e2, if_neg (by omega)]
  · rw [List.getElem?_eq_none (by rw [tmR_len]; omega), List.getElem?_eq_none (by rw [tmR_len]; omega)]
theorem tmM_bd {S i : Nat} (h : i < S) (h0 : 0 ≤ tmM ah bh i) : tmM ah bh i < (tmC ah bh S : Int) := by
  unfold tmM at h0 ⊢
  by_cases hk : kpB ah bh i = true
  · rw [if_pos hk]
    have := tmC_mono (ah := ah) (bh := bh) (show i + 1 ≤ S by omega)
    rw [tmC_yes hk] at this
    omega
  · rw [if_neg hk] at h0; omega
theorem tmM_ge {i : Nat} : -1 ≤ tmM ah bh i := by unfold tmM; split <;> omega
theorem tmM_le {i : Nat} : tmM ah bh i ≤ (i : Int) := by
  have := tmC_le (ah := ah) (bh := bh) i
  unfold tmM; split <;> omega
theorem tmX_mem {X : List Int} {x : Int} : ∀ {k}, k ≤ X.length → x ∈ tmX ah bh X k → x ∈ X
  | 0, _, h => by cases h
  | k + 1, hk, h => by
    have hm : X.getD k 0 ∈ X := by rw [List.getD_eq_getElem?_getD, List.getElem?_eq_getElem (by omega)]; exact List.getElem_mem _
    have h2 : x ∈ (if kpB ah bh k then tmX ah bh X k ++ [X.getD k 0] else tmX ah bh X k) := h
    split at h2
    · rcases List.mem_append.1 h2 with h3 | h3
      · exact tmX_mem (by omega) h3
      · simp at h3; rw [h3]; exact hm
    · exact tmX_mem (by omega) h2
end
/-- What TrimOf tells. -/
def tmAh (L : List A4) (P : List Int) : List Bool := rc false L P
def tmBh (L : List A4) (E : List Int) : List Bool := rc true L E
def tmS (L : List A4) (P E : List Int) : Nat := tmC (tmAh L P) (tmBh L E) P.length
def tmL (L : List A4) (P E : List Int) : List A4 := tmA (tmAh L P) (tmBh L E) L L.length
def tmPp (L : List A4) (P E : List Int) : List Int := tmX (tmAh L P) (tmBh L E) P P.length
def tmEe (L : List A4) (P E : List Int) : List Int := tmX (tmAh L P) (tmBh L E) E P.length
def tmOk (S T : Int) (L : List A4) (P E : List Int) : Bool := vmB S T L P E && decide (1 ≤ tmS L P E)
theorem vm_mk {S T : Int} {L : List A4} {P E : List Int} (hS : 1 ≤ S ∧ S ≤ 16) (hT : 1 ≤ T ∧ T ≤ 4) (hL : L.length ≤ 128) (ha : ∀ a ∈ L, (0 ≤ a.1 ∧ a.1 ≤ S - 1) ∧ (0 ≤ a.2.1 ∧ a.2.1 ≤ S - 1) ∧ (-1 ≤ a.2.2.1 ∧ a.2.2.1 ≤ T - 1) ∧ 0 ≤ a.2.2.2 ∧ a.2.2.2 ≤ 1000)
    (hP : (P.length : Int) = S) (hp : ∀ x ∈ P, -1 ≤ x ∧ x ≤ 1000) (hE : (E.length : Int) = S) (he : ∀ x ∈ E, -1 ≤ x ∧ x ≤ 1000) : vmB S T L P E = true := by
  have hi : ∀ {x a b : Int}, a ≤ x ∧ x ≤ b → inB x a b = true := fun h => decide_eq_true h
  simp only [vmB, mkB, okAm, allIn, Bool.and_eq_true, decide_eq_true_eq, List.all_eq_true]
  exact ⟨hi hS, hi hT, hL, fun a h => ⟨hi (ha a h).1, hi (ha a h).2.1, hi (ha a h).2.2.1, hi (ha a h).2.2.2⟩, ⟨hP, fun x h => hi (hp x h)⟩, hE, fun x h => hi (he x h)⟩
theorem tmS_le (L : List A4) (P E : List Int) : tmS L P E ≤ P.length := tmC_le _
theorem tmL_len (L : List A4) (P E : List Int) : (tmL L P E).length ≤ L.length := tmA_len _ _
theorem tmPp_len (L : List A4) (P E : List Int) : (tmPp L P E).length = tmS L P E := tmX_len _ _
theorem tmEe_len (L : List A4) (P E : List Int) : (tmEe L P E).length = tmS L P E := tmX_len _ _
/-- Of a valid machine: what is left is valid, before and behind it is made tidy, if a state is left. -/
theorem tm_valid {S T : Int} {L M : List A4} {P E : List Int} (h : vmB S T L P E = true) (hM : M.length ≤ L.length) (hm : ∀ a ∈ M, a ∈ tmL L P E) : vmB (tmS L P E) T M (tmPp L P E) (tmEe L P E) = decide (1 ≤ tmS L P E) := by
  obtain ⟨qS, qT, qL, qA, qP, qE⟩ := vmB_true h
  obtain ⟨qP1, qP2⟩ := mkB_true qP
  obtain ⟨qE1, qE2⟩ := mkB_true qE
  have hle := tmS_le L P E
  by_cases h1 : 1 ≤ tmS L P E
  · rw [decide_eq_true h1]
    refine vm_mk (by omega) (by omega) (by omega) (fun a ha => ?_) (by rw [tmPp_len]) (fun x hx => qP2 x (tmX_mem (Nat.le_refl _) hx)) (by rw [tmEe_len]) (fun x hx => qE2 x (tmX_mem (by omega) hx))
    obtain ⟨b, hb, ho, rfl⟩ := tmA_mem (hm a ha)
    have hk := okAm_true (qA b hb)
    unfold tmO at ho
    rw [Bool.and_eq_true, decide_eq_true_eq, decide_eq_true_eq] at ho
    have b1 := tmM_bd (ah := tmAh L P) (bh := tmBh L E) (S := P.length) (i := b.1.toNat) (by omega) ho.1
    have b2 := tmM_bd (ah := tmAh L P) (bh := tmBh L E) (S := P.length) (i := b.2.1.toNat) (by omega) ho.2
    show (0 ≤ tmM _ _ _ ∧ tmM _ _ _ ≤ _) ∧ (0 ≤ tmM _ _ _ ∧ tmM _ _ _ ≤ _) ∧ (-1 ≤ b.2.2.1 ∧ b.2.2.1 ≤ T - 1) ∧ 0 ≤ b.2.2.2 ∧ b.2.2.2 ≤ 1000
    unfold tmS
    omega
  · rw [decide_eq_false h1]
    unfold vmB inB
    rw [decide_eq_false (by omega)]
    rfl
end Go.Proofs.Ytkfmjnefbimecaa
