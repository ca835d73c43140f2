/- Plain machines that are explored from a first state on, plainly: states in the order in which they are found. -/
import Derived.Test.YtbdfbmohdbigfaaMga

namespace Go.Proofs.Ytbdfbmohdbigfaa
set_option linter.unusedVariables false
section
variable {α : Type} [DecidableEq α]
/-- A list with x, at its end if x is new. -/
def addL (ls : List α) (x : α) : List α := if x ∈ ls then ls else ls ++ [x]
theorem addL_in {ls : List α} {x : α} (h : x ∈ ls) : addL ls x = ls := if_pos h
theorem addL_new {ls : List α} {x : α} (h : x ∉ ls) : addL ls x = ls ++ [x] := if_neg h
theorem addL_mem (ls : List α) (x : α) : x ∈ addL ls x := by
  unfold addL; split
  · assumption
  · simp
theorem addL_nodup {ls : List α} (h : ls.Nodup) (x : α) : (addL ls x).Nodup := by
  unfold addL; split
  · exact h
  · rename_i hx
    rw [List.nodup_append]
    refine ⟨h, by simp, fun a ha b hb => ?_⟩
    have : b = x := by simpa using hb
    subst this
    exact fun e => hx (e ▸ ha)
theorem addL_app (ls : List α) (x : α) : ∃ r, addL ls x = ls ++ r := by
  unfold addL; split
  · exact ⟨[], by simp⟩
  · exact ⟨[x], rfl⟩
theorem addL_len (ls : List α) (x : α) : ls.length ≤ (addL ls x).length ∧ (addL ls x).length ≤ ls.length + 1 := by
  unfold addL; split
  · omega
  · simp
theorem idx_end : ∀ {ls : List α} {x : α}, x ∉ ls → (ls ++ [x]).idxOf x = ls.length
  | [], x, _ => by simp
  | a :: l, x, h => by
    have h1 : ¬ a = x := fun e => h (by simp [e])
    have h2 := idx_end (ls := l) (x := x) (fun m => h (List.mem_cons_of_mem _ m))
    rw [List.cons_append, List.idxOf_cons, beq_false_of_ne h1]
    simp [h2]
theorem idx_new {ls : List α} {x : α} (h : x ∉ ls) : (addL ls x).idxOf x = ls.length := by
  rw [addL_new h]; exact idx_end h
theorem idx_app : ∀ {ls r : List α} {x : α}, x ∈ ls → (ls ++ r).idxOf x = ls.idxOf x
  | [], r, x, h => absurd h (by simp)
  | a :: l, r, x, h => by
    rw [List.cons_append, List.idxOf_cons, List.idxOf_cons]
    by_cases e : a = x
    · simp [e]
    · have h2 : x ∈ l := by
        rcases List.mem_cons.1 h with q | q
        · exact absurd q.symm e
        · exact q
      rw [idx_app h2]
theorem idx_of : ∀ {ls : List α}, ls.Nodup → ∀ {i : Nat} {x : α}, ls[i]? = some x → ls.idxOf x = i
  | [], _, i, x, h => by simp at h
  | a :: l, hn, 0, x, h => by
    have : a = x := by simpa using h
    subst this; simp
  | a :: l, hn, i + 1, x, h => by
    have h1 : l[i]? = some x := by simpa using h
    have hn' := List.nodup_cons.1 hn
    have h2 : ¬ a = x := fun e => hn'.1 (e ▸ List.mem_of_getElem? h1)
    rw [List.idxOf_cons, beq_false_of_ne h2]
    simp [idx_of hn'.2 h1]
variable (nx : α → Nat → α)
/-- One state's letters, the first l of them. -/
def exR (k : α) (st : List α × List Int) : Nat → List α × List Int
  | 0 => st
  | l + 1 => (addL (exR k st l).1 (nx k l), (exR k st l).2 ++ [((addL (exR k st l).1 (nx k l)).idxOf (nx k l) : Int)])
variable (first : α) (T : Nat)
/-- The states found and the next ones told when n states are done. -/
def exA : Nat → List α × List Int
  | 0 => ([first], [])
  | n + 1 => match (exA n).1[n]? with
    | none => exA n
    | some k => exR nx k (exA n) T
/-- How many states there are in all; none if they are too many. -/
def exE : Nat → Nat → Option Nat
  | 0, _ => none
  | f + 1, n => if n < (exA nx first T n).1.length then (if 64 < (exA nx first T (n + 1)).1.length then none else exE f (n + 1)) else some n
def exAll : Option Nat := exE nx first T 65 0
theorem exA_succ {n : Nat} {k : α} (h : (exA nx first T n).1[n]? = some k) : exA nx first T (n + 1) = exR nx k (exA nx first T n) T := by rw [exA, h]
theorem exR_app (k : α) (st : List α × List Int) : ∀ l, ∃ r, (exR nx k st l).1 = st.1 ++ r
  | 0 => ⟨[], by simp [exR]⟩
  | l + 1 => by
    obtain ⟨r, hr⟩ := exR_app k st l
    obtain ⟨q, hq⟩ := addL_app (exR nx k st l).1 (nx k l)
    exact ⟨r ++ q, by rw [exR, hq, hr, List.append_assoc]⟩
theorem exR_len (k : α) (st : List α × List Int) : ∀ l, st.1.length ≤ (exR nx k st l).1.length ∧ (exR nx k st l).1.length ≤ st.1.length + l
  | 0 => ⟨Nat.le_refl _, Nat.le_refl _⟩
  | l + 1 => by
    have h := exR_len k st l
    have h2 := addL_len (exR nx k st l).1 (nx k l)
    rw [exR]; show _ ≤ (addL _ _).length ∧ (addL _ _).length ≤ _
    omega
/-- What holds while states are found: n states are done, and l letters of state n. -/
structure ExI (st : List α × List Int) (n l : Nat) : Prop where
  nd : st.1.Nodup
  fst : st.1[0]? = some first
  len : st.2.length = n * T + l
  at_ : ∀ s j, j < T → s * T + j < n * T + l → ∃ k, st.1[s]? = some k ∧ nx k j ∈ st.1 ∧ st.2[s * T + j]? = some ((st.1.idxOf (nx k j) : Nat) : Int)
theorem ExI.start : ExI nx first T ([first], []) 0 0 := ⟨by simp, rfl, by simp, fun s j _ h => absurd h (by omega)⟩
variable {nx first T}
theorem ExI.step {st : List α × List Int} {n l : Nat} (h : ExI nx first T st n l) {k : α} (hk : st.1[n]? = some k) (hl : l < T) :
    ExI nx first T (addL st.1 (nx k l), st.2 ++ [((addL st.1 (nx k l)).idxOf (nx k l) : Int)]) n (l + 1) := by
  obtain ⟨r, hr⟩ := addL_app st.1 (nx k l)
  refine ⟨addL_nodup h.nd _, ?_, by simp [h.len]; omega, fun s j hj hs => ?_⟩
  · show (addL st.1 (nx k l))[0]? = _
    rw [hr, List.getElem?_append_left (List.getElem?_eq_some_iff.1 h.fst).1]; exact h.fst
  · show ∃ k', (addL st.1 (nx k l))[s]? = some k' ∧ nx k' j ∈ addL st.1 (nx k l) ∧ (st.2 ++ _)[s * T + j]? = some (((addL st.1 (nx k l)).idxOf (nx k' j) : Nat) : Int)
    rcases Nat.lt_or_ge (s * T + j) (n * T + l) with hlt | hge
    · obtain ⟨k', e1, e2, e3⟩ := h.at_ s j hj hlt
      refine ⟨k', ?_, ?_, ?_⟩
      · rw [hr, List.getElem?_append_left (List.getElem?_eq_some_iff.1 e1).1]; exact e1
      · rw [hr]; exact List.mem_append_left _ e2
      · rw [List.getElem?_append_left (by rw [h.len]; exact hlt), e3, hr, idx_app e2]
    · have he : s * T + j = n * T + l := by omega
      have hsn : s = n := by
        rcases Nat.lt_trichotomy s n with q | q | q
        · have : (s + 1) * T ≤ n * T := Nat.mul_le_mul_right T (by omega)
          rw [Nat.succ_mul] at this; omega
        · exact q
        · have : (n + 1) * T ≤ s * T := Nat.mul_le_mul_right T (by omega)
          rw [Nat.succ_mul] at this; omega
      subst hsn
      have hjl : j = l := by omega
      subst hjl
      refine ⟨k, ?_, addL_mem _ _, ?_⟩
      · rw [hr, List.getElem?_append_left (List.getElem?_eq_some_iff.1 hk).1]; exact hk
      · rw [List.getElem?_append_right (by rw [h.len]; omega), h.len]; simp
theorem ExI.row {st : List α × List Int} {n : Nat} (h : ExI nx first T st n 0) {k : α} (hk : st.1[n]? = some k) : ∀ l, l ≤ T → ExI nx first T (exR nx k st l) n l
  | 0, _ => h
  | l + 1, hl => by
    have h1 := ExI.row h hk l (by omega)
    obtain ⟨r, hr⟩ := exR_app nx k st l
    exact h1.step (by rw [hr, List.getElem?_append_left (List.getElem?_eq_some_iff.1 hk).1]; exact hk) (by omega)
theorem ExI.next {st : List α × List Int} {n : Nat} (h : ExI nx first T st n T) : ExI nx first T st (n + 1) 0 := by
  have e : (n + 1) * T + 0 = n * T + T := by rw [Nat.succ_mul]; rfl
  exact ⟨h.nd, h.fst, by rw [e]; exact h.len, fun s j hj hs => h.at_ s j hj (by omega)⟩
theorem exA_inv : ∀ n, n ≤ (exA nx first T n).1.length → ExI nx first T (exA nx first T n) n 0
  | 0, _ => ExI.start nx first T
  | n + 1, h => by
    cases hk : (exA nx first T n).1[n]? with
    | none =>
      exfalso
      have h2 := List.getElem?_eq_none_iff.1 hk
      have e : exA nx first T (n + 1) = exA nx first T n := by rw [exA, hk]
      rw [e] at h; omega
    | some k =>
      rw [exA_succ nx first T hk]
      have hn := (List.getElem?_eq_some_iff.1 hk).1
      exact ((exA_inv n (by omega)).row hk T (Nat.le_refl _)).next
theorem exE_some : ∀ (f n N : Nat), n ≤ (exA nx first T n).1.length → (exA nx first T n).1.length ≤ 64 → exE nx first T f n = some N → N = (exA nx first T N).1.length ∧ N ≤ 64
  | 0, n, N, _, _, h => by cases h
  | f + 1, n, N, hn, h64, h => by
    rw [exE] at h
    split at h
    · rename_i hlt
      split at h
      · cases h
      · rename_i hle
        refine exE_some f (n + 1) N ?_ (by omega) h
        obtain ⟨k, hk⟩ : ∃ k, (exA nx first T n).1[n]? = some k := ⟨_, List.getElem?_eq_getElem hlt⟩
        rw [exA_succ nx first T hk]
        have := (exR_len nx k (exA nx first T n) T).1
        omega
    · injection h with h
      subst h
      omega
theorem exAll_some {N : Nat} (h : exAll nx first T = some N) : N = (exA nx first T N).1.length ∧ N ≤ 64 := exE_some 65 0 N (by omega) (by show 1 ≤ 64; omega) h
/-- The whole: each state's next ones. -/
theorem ex_whole {N : Nat} (h : exAll nx first T = some N) : (exA nx first T N).1.length = N ∧ 1 ≤ N ∧ N ≤ 64 ∧ (exA nx first T N).1.Nodup ∧ (exA nx first T N).1[0]? = some first ∧ (exA nx first T N).2.length = N * T
    ∧ ∀ s j, s < N → j < T → ∃ k, (exA nx first T N).1[s]? = some k ∧ nx k j ∈ (exA nx first T N).1 ∧ (exA nx first T N).2[s * T + j]? = some (((exA nx first T N).1.idxOf (nx k j) : Nat) : Int) := by
  obtain ⟨h1, h2⟩ := exAll_some h
  have hi := exA_inv (nx := nx) (first := first) (T := T) N (by omega)
  have h0 := (List.getElem?_eq_some_iff.1 hi.fst).1
  refine ⟨h1.symm, by omega, h2, hi.nd, hi.fst, by rw [hi.len]; rfl, fun s j hs hj => hi.at_ s j hj ?_⟩
  have : (s + 1) * T ≤ N * T := Nat.mul_le_mul_right T (by omega)
  rw [Nat.succ_mul] at this
  omega
/-- Where a word leads. -/
def exW (nx : α → Nat → α) (first : α) (xs : List Nat) : α := xs.foldl nx first
theorem ex_reads {N : Nat} (h : exAll nx first T = some N) (xs : List Nat) (hx : ∀ x ∈ xs, x < T) : ∀ (k : α) (s : Nat), (exA nx first T N).1[s]? = some k →
    ∃ t, xs.foldl (fun s j => ((exA nx first T N).2.getD (s * T + j) 0).toNat) s = t ∧ (exA nx first T N).1[t]? = some (xs.foldl nx k) := by
  obtain ⟨h1, h2, h3, h4, h5, h6, h7⟩ := ex_whole h
  induction xs with
  | nil => intro k s hs; exact ⟨s, rfl, hs⟩
  | cons x xs ih =>
    intro k s hs
    have hsl := (List.getElem?_eq_some_iff.1 hs).1
    obtain ⟨k', e1, e2, e3⟩ := h7 s x (by omega) (hx x (by simp))
    obtain rfl : k' = k := by rw [hs] at e1; injection e1 with e1; exact e1.symm
    have hg : ((exA nx first T N).2.getD (s * T + x) 0).toNat = (exA nx first T N).1.idxOf (nx k' x) := by
      rw [List.getD_eq_getElem?_getD, e3]; simp
    simp only [List.foldl_cons]
    rw [hg]
    refine ih (fun y hy => hx y (List.mem_cons_of_mem _ hy)) _ _ ?_
    have hlt := List.idxOf_lt_length_of_mem e2
    rw [List.getElem?_eq_getElem hlt, List.getElem_idxOf hlt]
end
end Go.Proofs.Ytbdfbmohdbigfaa
