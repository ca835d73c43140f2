/- Several texts in one: Tidy arcs, plainly: the order of arcs, one arc for each place and letter. Tidy arcs, plainly: for each arc a tidy one that leads alike and costs no more; tidy arcs stay as they are. -/
import Derived.Test.YtkfmjnefbimecaaMgb
import Derived.Sort.LotA


namespace Go.Proofs.Ytkfmjnefbimecaa
open Go.RowKit
set_option linter.unusedVariables false
/-- Whether an arc comes before another one; whether they lead alike. -/
def arLt (a b : A4) : Bool :=
  if a.1 = b.1 then (if a.2.2.1 = b.2.2.1 then (if a.2.1 = b.2.1 then decide (a.2.2.2 < b.2.2.2) else decide (a.2.1 < b.2.1)) else decide (a.2.2.1 < b.2.2.1)) else decide (a.1 < b.1)
def arEq (a b : A4) : Bool := decide (a.1 = b.1) && decide (a.2.2.1 = b.2.2.1) && decide (a.2.1 = b.2.1)
theorem arLt_iff (a b : A4) : arLt a b = true ↔ a.1 < b.1 ∨ (a.1 = b.1 ∧ (a.2.2.1 < b.2.2.1 ∨ (a.2.2.1 = b.2.2.1 ∧ (a.2.1 < b.2.1 ∨ (a.2.1 = b.2.1 ∧ a.2.2.2 < b.2.2.2))))) := by
  unfold arLt
  by_cases h1 : a.1 = b.1
  · rw [if_pos h1]
    by_cases h2 : a.2.2.1 = b.2.2.1
    · rw [if_pos h2]
      by_cases h3 : a.2.1 = b.2.1
      · rw [if_pos h3, decide_eq_true_eq]; omega
      · rw [if_neg h3, decide_eq_true_eq]; omega
    · rw [if_neg h2, decide_eq_true_eq]; omega
  · rw [if_neg h1, decide_eq_true_eq]; omega
theorem arLt_false (a b : A4) : arLt a b = false ↔ ¬ (a.1 < b.1 ∨ (a.1 = b.1 ∧ (a.2.2.1 < b.2.2.1 ∨ (a.2.2.1 = b.2.2.1 ∧ (a.2.1 < b.2.1 ∨ (a.2.1 = b.2.1 ∧ a.2.2.2 < b.2.2.2)))))) := by
  rw [← arLt_iff]; cases arLt a b <;> simp
theorem arLt_swo : Sort.SWO arLt where
  irrefl x := by rw [arLt_false]; omega
  trans x y z h1 h2 := by rw [arLt_iff] at *; omega
  ntrans x y z h1 h2 := by rw [arLt_false] at *; omega
theorem arLt_total (x y : A4) (h1 : arLt x y = false) (h2 : arLt y x = false) : x = y := by
  rw [arLt_false] at h1 h2
  obtain ⟨x1, x2, x3, x4⟩ := x
  obtain ⟨y1, y2, y3, y4⟩ := y
  simp only [] at h1 h2
  have e1 : x1 = y1 := by omega
  subst e1
  have e3 : x3 = y3 := by omega
  subst e3
  have e2 : x2 = y2 := by omega
  subst e2
  have e4 : x4 = y4 := by omega
  subst e4
  rfl
theorem arEq_iff (a b : A4) : arEq a b = true ↔ a.1 = b.1 ∧ a.2.2.1 = b.2.2.1 ∧ a.2.1 = b.2.1 := by
  unfold arEq; rw [Bool.and_eq_true, Bool.and_eq_true, decide_eq_true_eq, decide_eq_true_eq, decide_eq_true_eq, and_assoc]
theorem arEq_trans {a b c : A4} (h : arEq a b = true) : arEq a c = arEq b c := by
  rw [arEq_iff] at h
  have : ∀ u v : Bool, (u = true ↔ v = true) → u = v := by decide
  exact this _ _ (by rw [arEq_iff, arEq_iff]; omega)
theorem arEq_symm (a b : A4) : arEq a b = arEq b a := by
  have : ∀ u v : Bool, (u = true ↔ v = true) → u = v := by decide
  exact this _ _ (by rw [arEq_iff, arEq_iff]; omega)
/-- The arcs in order. -/
def tdS (L : List A4) : List A4 := L.mergeSort (fun x y => !arLt y x)
theorem tdS_of {L M : List A4} (hp : Sort.PermIn 0 L.toArray.size L.toArray M.toArray) (hs : Sort.SortedIn arLt 0 L.toArray.size M.toArray) : M = tdS L :=
  Sort.sorted_unique_holds arLt_swo arLt_total L.toArray M.toArray hp hs
theorem tdS_ins (L : List A4) : (Sort.insertionSort arLt L.toArray 0 L.length).toList = tdS L := by
  obtain ⟨h1, h2⟩ := Sort.insertionSort_holds (lt := arLt) arLt_swo L.toArray 0 L.length (Nat.zero_le _) (by simp)
  have e : (Sort.insertionSort arLt L.toArray 0 L.length).toList.toArray = Sort.insertionSort arLt L.toArray 0 L.length := by simp
  exact tdS_of (by rw [e]; exact h1) (by rw [e]; exact h2)
theorem tdS_perm (L : List A4) : (tdS L).Perm L := List.mergeSort_perm _ _
theorem tdS_len (L : List A4) : (tdS L).length = L.length := (tdS_perm L).length_eq
theorem tdS_mem {L : List A4} {a : A4} : a ∈ tdS L ↔ a ∈ L := (tdS_perm L).mem_iff
/-- What the program keeps of the first k arcs: those unlike the one before; what the reference keeps: those unlike the last one kept. -/
def kpA (l : List A4) (k : Nat) : Bool := match k with
  | 0 => true
  | k + 1 => !arEq (l.getD (k + 1) default) (l.getD k default)
def pG (l : List A4) : Nat → List A4
  | 0 => []
  | k + 1 => pG l k ++ (if kpA l k then [l.getD k default] else [])
def rG (l : List A4) : Nat → List A4
  | 0 => []
  | k + 1 => match (rG l k).getLast? with
    | none => rG l k ++ [l.getD k default]
    | some p => if arEq p (l.getD k default) then rG l k else rG l k ++ [l.getD k default]
theorem pG_step_pos {l : List A4} {k : Nat} (h : kpA l k = true) : pG l (k + 1) = pG l k ++ [l.getD k default] := by show pG l k ++ _ = _; rw [if_pos h]
theorem pG_step_neg {l : List A4} {k : Nat} (h : kpA l k = false) : pG l (k + 1) = pG l k := by show pG l k ++ _ = _; rw [if_neg (by rw [h]; decide), List.append_nil]
theorem rG_last {l : List A4} : ∀ k, ∃ p, (rG l (k + 1)).getLast? = some p ∧ arEq p (l.getD k default) = true
  | 0 => ⟨l.getD 0 default, rfl, by rw [arEq_iff]; exact ⟨rfl, rfl, rfl⟩⟩
  | k + 1 => by
    obtain ⟨p, hp, he⟩ := rG_last (l := l) k
    show ∃ q, (match (rG l (k + 1)).getLast? with
      | none => rG l (k + 1) ++ [l.getD (k + 1) default]
      | some p => if arEq p (l.getD (k + 1) default) then rG l (k + 1) else rG l (k + 1) ++ [l.getD (k + 1) default]).getLast? = some q ∧ _
    rw [hp]
    simp only []
    by_cases h : arEq p (l.getD (k + 1) default) = true
    · rw [if_pos h]; exact ⟨p, hp, h⟩
    · rw [if_neg h]; exact ⟨l.getD (k + 1) default, List.getLast?_concat, by rw [arEq_iff]; exact ⟨rfl, rfl, rfl⟩⟩
theorem pG_rG (l : List A4) : ∀ k, pG l k = rG l k
  | 0 => rfl
  | 1 => rfl
  | k + 2 => by
    obtain ⟨p, hp, he⟩ := rG_last (l := l) k
    have ih := pG_rG l (k + 1)
    have e1 : rG l (k + 2) = if arEq p (l.getD (k + 1) default) then rG l (k + 1) else rG l (k + 1) ++ [l.getD (k + 1) default] := by
      show (match (rG l (k + 1)).getLast? with
        | none => rG l (k + 1) ++ [l.getD (k + 1) default]
        | some p => if arEq p (l.getD (k + 1) default) then rG l (k + 1) else rG l (k + 1) ++ [l.getD (k + 1) default]) = _
      rw [hp]
    have e2 : arEq p (l.getD (k + 1) default) = arEq (l.getD (k + 1) default) (l.getD k default) := by rw [arEq_trans he, arEq_symm]
    rw [e1, e2]
    cases h : arEq (l.getD (k + 1) default) (l.getD k default) with
    | true => rw [pG_step_neg (show kpA l (k + 1) = false by show (!arEq _ _) = false; rw [h]; rfl), ih, if_pos rfl]
    | false => rw [pG_step_pos (show kpA l (k + 1) = true by show (!arEq _ _) = true; rw [h]; rfl), ih, if_neg (by decide)]
theorem pG_len (l : List A4) : ∀ k, (pG l k).length ≤ k
  | 0 => Nat.le_refl _
  | k + 1 => by
    have := pG_len l k
    show (pG l k ++ _).length ≤ k + 1
    rw [List.length_append]
    split <;> simp <;> omega
theorem pG_mem {l : List A4} {a : A4} : ∀ {k}, k ≤ l.length → a ∈ pG l k → a ∈ l
  | 0, _, h => by simp [pG] at h
  | k + 1, hk, h => by
    have hm : l.getD k default ∈ l := by rw [List.getD_eq_getElem?_getD, List.getElem?_eq_getElem (by omega)]; exact List.getElem_mem _
    have h2 : a ∈ pG l k ++ (if kpA l k then [l.getD k default] else []) := h
    rcases List.mem_append.1 h2 with h3 | h3
    · exact pG_mem (by omega) h3
    · split at h3
      · simp at h3; rw [h3]; exact hm
      · simp at h3
/-- Tidy arcs. -/
def tdy (L : List A4) : List A4 := pG (tdS L) L.length
theorem tdy_len (L : List A4) : (tdy L).length ≤ L.length := pG_len _ _
theorem tdy_mem {L : List A4} {a : A4} (h : a ∈ tdy L) : a ∈ L := tdS_mem.1 (pG_mem (by rw [tdS_len]; exact Nat.le_refl _) h)
end Go.Proofs.Ytkfmjnefbimecaa



namespace Go.Proofs.Ytkfmjnefbimecaa
open Go.RowKit
set_option linter.unusedVariables false
def leA (x y : A4) : Bool := !arLt y x
theorem leA_trans (a b c : A4) (h1 : leA a b = true) (h2 : leA b c = true) : leA a c = true := by
  unfold leA at *
  simp only [Bool.not_eq_true'] at *
  exact arLt_swo.ntrans _ _ _ h2 h1
theorem leA_total (a b : A4) : (leA a b || leA b a) = true := by
  unfold leA
  cases h : arLt b a with
  | false => rfl
  | true =>
    cases h2 : arLt a b with
    | false => rfl
    | true =>
      have := arLt_swo.trans _ _ _ h h2
      rw [arLt_swo.irrefl] at this; cases this
theorem tdS_sorted (L : List A4) : (tdS L).Pairwise (fun x y => leA x y = true) := List.pairwise_mergeSort leA_trans leA_total L
theorem leA_cost {a b : A4} (h : leA a b = true) (e : arEq b a = true) : a.2.2.2 ≤ b.2.2.2 := by
  unfold leA at h
  simp only [Bool.not_eq_true'] at h
  rw [arLt_false] at h
  rw [arEq_iff] at e
  omega
theorem pw_adj {l : List A4} (h : l.Pairwise (fun x y => leA x y = true)) {j : Nat} {a b : A4} (ha : l[j]? = some a) (hb : l[j + 1]? = some b) : leA a b = true := by
  obtain ⟨h1, rfl⟩ := List.getElem?_eq_some_iff.1 ha
  obtain ⟨h2, rfl⟩ := List.getElem?_eq_some_iff.1 hb
  exact List.pairwise_iff_getElem.1 h j (j + 1) h1 h2 (Nat.lt_succ_self j)
theorem kpA_s {X : List A4} {j : Nat} {a b : A4} (ha : X[j + 1]? = some a) (hb : X[j]? = some b) : kpA X (j + 1) = !arEq a b := by
  show (!arEq (X.getD (j + 1) default) (X.getD j default)) = _
  rw [List.getD_eq_getElem?_getD, List.getD_eq_getElem?_getD, ha, hb]; rfl
theorem getD_s {X : List A4} {j : Nat} {a : A4} (ha : X[j]? = some a) : X.getD j default = a := by rw [List.getD_eq_getElem?_getD, ha]; rfl
theorem pG_has {l : List A4} (h : l.Pairwise (fun x y => leA x y = true)) : ∀ (j : Nat) (a : A4), l[j]? = some a → ∃ b ∈ pG l (j + 1), arEq a b = true ∧ b.2.2.2 ≤ a.2.2.2
  | 0, a, ha => ⟨a, by rw [pG_step_pos rfl, getD_s ha]; exact List.mem_append_right _ (List.mem_singleton.2 rfl), by rw [arEq_iff]; exact ⟨rfl, rfl, rfl⟩, Int.le_refl _⟩
  | j + 1, a, ha => by
    have hj : j < l.length := by have := (List.getElem?_eq_some_iff.1 ha).1; omega
    obtain ⟨p, hp⟩ : ∃ p, l[j]? = some p := ⟨_, List.getElem?_eq_getElem hj⟩
    have hk := kpA_s ha hp
    cases he : arEq a p with
    | false =>
      rw [he] at hk
      exact ⟨a, by rw [pG_step_pos (by rw [hk]; rfl), getD_s ha]; exact List.mem_append_right _ (List.mem_singleton.2 rfl), by rw [arEq_iff]; exact ⟨rfl, rfl, rfl⟩, Int.le_refl _⟩
    | true =>
      rw [he] at hk
      obtain ⟨b, hb, e, hc⟩ := pG_has h j p hp
      refine ⟨b, by rw [pG_step_neg (by rw [hk]; rfl)]; exact hb, by rw [← e]; exact arEq_trans he, ?_⟩
      have := leA_cost (pw_adj h hp ha) he
      omega
theorem pG_mono {l : List A4} {b : A4} {j : Nat} (hb : b ∈ pG l j) : ∀ k, b ∈ pG l (j + k)
  | 0 => hb
  | k + 1 => by
    show b ∈ pG l (j + k) ++ _
    exact List.mem_append_left _ (pG_mono hb k)
/-- For each arc a tidy one that leads alike and costs no more. -/
theorem tdy_has {L : List A4} {a : A4} (h : a ∈ L) : ∃ b ∈ tdy L, b.1 = a.1 ∧ b.2.1 = a.2.1 ∧ b.2.2.1 = a.2.2.1 ∧ b.2.2.2 ≤ a.2.2.2 := by
  obtain ⟨j, hj⟩ := List.getElem?_of_mem (tdS_mem.2 h)
  obtain ⟨b, hb, e, hc⟩ := pG_has (tdS_sorted L) j a hj
  have hl := (List.getElem?_eq_some_iff.1 hj).1
  rw [tdS_len] at hl
  refine ⟨b, ?_, ?_⟩
  · unfold tdy
    have := pG_mono hb (L.length - (j + 1))
    rwa [show j + 1 + (L.length - (j + 1)) = L.length by omega] at this
  · rw [arEq_iff] at e; omega
theorem pG_sub (l : List A4) : ∀ k, k ≤ l.length → (pG l k).Sublist (l.take k)
  | 0, _ => by simp [pG]
  | k + 1, h => by
    have ih := pG_sub l k (by omega)
    have ht : l.take (k + 1) = l.take k ++ [l.getD k default] := by
      rw [List.take_succ_eq_append_getElem (by omega), getD_s (List.getElem?_eq_getElem (show k < l.length by omega))]
    rw [ht]
    show (pG l k ++ (if kpA l k then [l.getD k default] else [])).Sublist _
    split
    · exact ih.append (List.Sublist.refl _)
    · rw [List.append_nil]; exact ih.trans (List.sublist_append_left _ _)
theorem tdy_sorted (L : List A4) : (tdy L).Pairwise (fun x y => leA x y = true) := by
  unfold tdy
  have := pG_sub (tdS L) L.length (by rw [tdS_len]; exact Nat.le_refl _)
  exact ((tdS_sorted L).sublist (List.take_sublist _ _)).sublist this
/-- No two neighbours lead alike. -/
def NoAdj (M : List A4) : Prop := ∀ j a b, M[j]? = some a → M[j + 1]? = some b → arEq b a = false
theorem pG_noadj (l : List A4) : ∀ k, k ≤ l.length → NoAdj (pG l k)
  | 0, _ => fun j a b h _ => by simp [pG] at h
  | 1, _ => fun j a b h h' => by
    have hl := pG_len l 1
    have := (List.getElem?_eq_some_iff.1 h').1
    omega
  | k + 2, hk => by
    have ih := pG_noadj l (k + 1) (by omega)
    cases hkp : kpA l (k + 1) with
    | false => rw [pG_step_neg hkp]; exact ih
    | true =>
      rw [pG_step_pos hkp]
      intro j a b ha hb
      by_cases hj : j + 1 < (pG l (k + 1)).length
      · rw [List.getElem?_append_left (by omega)] at ha
        rw [List.getElem?_append_left hj] at hb
        exact ih j a b ha hb
      · have hb2 := (List.getElem?_eq_some_iff.1 hb).1
        rw [List.length_append] at hb2
        simp only [List.length_cons, List.length_nil] at hb2
        have hj2 : j + 1 = (pG l (k + 1)).length := by omega
        rw [List.getElem?_append_right (by omega), hj2, Nat.sub_self] at hb
        rw [List.getElem?_append_left (by omega)] at ha
        have hbe : l.getD (k + 1) default = b := by simpa using hb
        obtain ⟨p, hp, he⟩ := rG_last (l := l) k
        rw [← pG_rG, List.getLast?_eq_getElem?, ← hj2, Nat.add_sub_cancel, ha] at hp
        have hpa : a = p := Option.some.inj hp
        subst hpa
        have hkk : (!arEq (l.getD (k + 1) default) (l.getD k default)) = true := hkp
        rw [hbe] at hkk
        rw [arEq_symm, arEq_trans he, arEq_symm]
        simpa using hkk
theorem pG_all {M : List A4} (h : NoAdj M) : ∀ k, k ≤ M.length → pG M k = M.take k
  | 0, _ => by simp [pG]
  | k + 1, hk => by
    have hkp : kpA M k = true := by
      cases k with
      | zero => rfl
      | succ k =>
        have h1 := List.getElem?_eq_getElem (l := M) (show k + 1 < M.length by omega)
        have h2 := List.getElem?_eq_getElem (l := M) (show k < M.length by omega)
        rw [kpA_s h1 h2, h k _ _ h2 h1]; rfl
    rw [pG_step_pos hkp, pG_all h k (by omega), List.take_succ_eq_append_getElem (by omega), getD_s (List.getElem?_eq_getElem (show k < M.length by omega))]
/-- Tidy arcs stay as they are. -/
theorem tdy_idem (L : List A4) : tdy (tdy L) = tdy L := by
  have hs : tdS (tdy L) = tdy L := List.mergeSort_of_pairwise (tdy_sorted L)
  have hn : NoAdj (tdy L) := pG_noadj (tdS L) L.length (by rw [tdS_len]; exact Nat.le_refl _)
  have h1 : tdy (tdy L) = pG (tdS (tdy L)) (tdy L).length := rfl
  rw [h1, hs, pG_all hn _ (Nat.le_refl _), List.take_of_length_le (Nat.le_refl _)]
end Go.Proofs.Ytkfmjnefbimecaa
