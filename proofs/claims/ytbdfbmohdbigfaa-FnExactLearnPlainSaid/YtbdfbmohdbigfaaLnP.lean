/- Learning a plain machine by questions, plainly: words whose rows differ, the machine that they tell, and why it ends. -/
import Derived.Test.YtbdfbmohdbigfaaFpP

namespace Go.Proofs.Ytbdfbmohdbigfaa
set_option linter.unusedVariables false
section
variable (T : Nat) (P : List Int) (E : List Bool)
/-- What the teacher says of a word behind which each test is put. -/
def rkW (Q : List (List Nat)) (w : List Nat) : List Bool := Q.map fun q => rdP T P E (w ++ q)
def gsR (Q : List (List Nat)) (w : List Nat) (st : List (List Nat) × List Int) : Nat → List (List Nat) × List Int
  | 0 => st
  | l + 1 => if rkW T P E Q (w ++ [l]) ∈ (gsR Q w st l).1.map (rkW T P E Q) then ((gsR Q w st l).1, (gsR Q w st l).2 ++ [((ixL ((gsR Q w st l).1.map (rkW T P E Q)) (rkW T P E Q (w ++ [l])) : Nat) : Int)])
    else ((gsR Q w st l).1 ++ [w ++ [l]], (gsR Q w st l).2 ++ [(((gsR Q w st l).1.length : Nat) : Int)])
def gsA (Q W : List (List Nat)) : Nat → List (List Nat) × List Int
  | 0 => (W, [])
  | n + 1 => match (gsA Q W n).1[n]? with
    | none => gsA Q W n
    | some w => gsR T P E Q w (gsA Q W n) T
def gsE (Q W : List (List Nat)) : Nat → Nat → Nat
  | 0, n => n
  | f + 1, n => if n < (gsA T P E Q W n).1.length then gsE Q W f (n + 1) else n
/-- How many words there are in the end. -/
def gsN (Q W : List (List Nat)) : Nat := gsE T P E Q W 65 0
/-- The ends of a word that are no tests yet become tests. -/
def tsA (wd : List Nat) (Q : List (List Nat)) : Nat → List (List Nat)
  | 0 => Q
  | k + 1 => if wd.drop k ∈ tsA wd Q k then tsA wd Q k else tsA wd Q k ++ [wd.drop k]
/-- The guess of words and tests. -/
def gsW (Q W : List (List Nat)) : List (List Nat) := (gsA T P E Q W (gsN T P E Q W)).1
def gsP (Q W : List (List Nat)) : List Int := (gsA T P E Q W (gsN T P E Q W)).2
def gsD (Q W : List (List Nat)) : List Bool := (gsW T P E Q W).map (rdP T P E)
def lnF (Q W : List (List Nat)) : Option (List Int) := faAll (plX T P (gsP T P E Q W)) (plD E (gsD T P E Q W)) (0, 0) T
def lnQ (Q W : List (List Nat)) (wd : List Int) : List (List Nat) := tsA (wd.map Int.toNat) Q wd.length
def lnE : Nat → List (List Nat) → List (List Nat) → Nat → Option (List Int × List Bool × Nat)
  | 0, _, _, _ => none
  | f + 1, Q, W, c => match lnF T P E Q W with
    | none => some (gsP T P E Q W, gsD T P E Q W, c)
    | some wd => lnE f (lnQ Q W wd) (gsW T P E Q W) (c + 1)
def lnAll : Option (List Int × List Bool × Nat) := lnE T P E 65 [[]] [[]] 1
end
/-- The teacher. -/
structure TeO (S T : Nat) (P : List Int) (E : List Bool) : Prop where
  hS : 1 ≤ S ∧ S ≤ 64
  hT : 1 ≤ T ∧ T ≤ 4
  hl : P.length = S * T
  hP : ∀ x ∈ P, 0 ≤ x ∧ x < (S : Int)
  hE : E.length = S
/-- What holds of words: they begin with the empty one, each is short, and their rows differ. -/
structure WdO (T : Nat) (P : List Int) (E : List Bool) (Q W : List (List Nat)) : Prop where
  nd : (W.map (rkW T P E Q)).Nodup
  fst : W[0]? = some []
  let_ : ∀ w ∈ W, ∀ x ∈ w, x < T
  short : ∀ (i : Nat) (w : List Nat), W[i]? = some w → w.length ≤ i
section
variable {S T : Nat} {P : List Int} {E : List Bool} {Q W : List (List Nat)}
theorem rd_app (w q : List Nat) : rdP T P E (w ++ q) = E.getD (q.foldl (plT T P) (w.foldl (plT T P) 0)) false := by unfold rdP; rw [List.foldl_append]
theorem rk_state {w w' : List Nat} (h : w.foldl (plT T P) 0 = w'.foldl (plT T P) 0) : rkW T P E Q w = rkW T P E Q w' := by
  unfold rkW
  exact List.map_congr_left (fun q _ => by rw [rd_app, rd_app, h])
/-- There are no more words than states. -/
theorem WdO.len (h : TeO S T P E) (hw : WdO T P E Q W) : W.length ≤ S := by
  have := nodup_le S (W.map fun w => w.foldl (plT T P) 0) (by
    have hn := hw.nd
    rw [List.Nodup, List.pairwise_map] at hn ⊢
    exact hn.imp (fun {a b} hab e => hab (rk_state e))) (fun x hx => by
    obtain ⟨w, hw', rfl⟩ := List.mem_map.1 hx
    exact plF_lt rfl h.hl h.hP w 0 (by have := h.hS; omega) (hw.let_ w hw'))
  simpa using this
theorem gsR_in {w : List Nat} {st : List (List Nat) × List Int} {l : Nat} (h : rkW T P E Q (w ++ [l]) ∈ (gsR T P E Q w st l).1.map (rkW T P E Q)) : gsR T P E Q w st (l + 1) = ((gsR T P E Q w st l).1, (gsR T P E Q w st l).2 ++ [((ixL ((gsR T P E Q w st l).1.map (rkW T P E Q)) (rkW T P E Q (w ++ [l])) : Nat) : Int)]) := by
  rw [gsR]; exact if_pos h
theorem gsR_new {w : List Nat} {st : List (List Nat) × List Int} {l : Nat} (h : rkW T P E Q (w ++ [l]) ∉ (gsR T P E Q w st l).1.map (rkW T P E Q)) : gsR T P E Q w st (l + 1) = ((gsR T P E Q w st l).1 ++ [w ++ [l]], (gsR T P E Q w st l).2 ++ [(((gsR T P E Q w st l).1.length : Nat) : Int)]) := by
  rw [gsR]; exact if_neg h
/-- While words are found: n are done, and l letters of word n. -/
structure GsI (T : Nat) (P : List Int) (E : List Bool) (Q W : List (List Nat)) (st : List (List Nat) × List Int) (n l : Nat) : Prop where
  wd : WdO T P E Q st.1
  app : ∃ r, st.1 = W ++ r
  len : st.2.length = n * T + l
  at_ : ∀ s j, j < T → s * T + j < n * T + l → ∃ (w w' : List Nat) (k : Nat), st.1[s]? = some w ∧ st.1[k]? = some w' ∧ rkW T P E Q w' = rkW T P E Q (w ++ [j]) ∧ st.2[s * T + j]? = some (k : Int)
theorem ix_at {α : Type} [DecidableEq α] {L : List α} {x : α} (h : x ∈ L) : L[ixL L x]? = some x ∧ ixL L x < L.length := by
  have h1 := List.idxOf_lt_length_of_mem h
  exact ⟨by unfold ixL; rw [List.getElem?_eq_getElem h1, List.getElem_idxOf h1], h1⟩
theorem GsI.start (hw : WdO T P E Q W) : GsI T P E Q W (W, []) 0 0 := ⟨hw, ⟨[], by simp⟩, by simp, fun s j _ h => absurd h (by omega)⟩
theorem GsI.split {st : List (List Nat) × List Int} {n l s j : Nat} (hj : j < T) (hl : l < T) (h : s * T + j < n * T + (l + 1)) : s * T + j < n * T + l ∨ (s = n ∧ j = l) := by
  rcases Nat.lt_or_ge (s * T + j) (n * T + l) with hlt | hge
  · exact .inl hlt
  · right
    have he : s * T + j = n * T + l := by omega
    have hsn : s = n := by
      rcases Nat.lt_trichotomy s n with q | q | q
      · have : (s + 1) * T ≤ n * T := Nat.mul_le_mul_right T (by omega)
        rw [Nat.succ_mul] at this; omega
      · exact q
      · have : (n + 1) * T ≤ s * T := Nat.mul_le_mul_right T (by omega)
        rw [Nat.succ_mul] at this; omega
    subst hsn
    exact ⟨rfl, by omega⟩
theorem GsI.old {st : List (List Nat) × List Int} {n l : Nat} (h : GsI T P E Q W st n l) {w : List Nat} (hw : st.1[n]? = some w) (hl : l < T) (hin : rkW T P E Q (w ++ [l]) ∈ st.1.map (rkW T P E Q)) : GsI T P E Q W (st.1, st.2 ++ [((ixL (st.1.map (rkW T P E Q)) (rkW T P E Q (w ++ [l])) : Nat) : Int)]) n (l + 1) := by
  obtain ⟨i1, i2⟩ := ix_at hin
  refine ⟨h.wd, h.app, by simp [h.len]; omega, fun s j hj hs => ?_⟩
  rcases GsI.split (st := st) hj hl hs with q | ⟨rfl, rfl⟩
  · obtain ⟨a, b, k, e1, e2, e3, e4⟩ := h.at_ s j hj q
    exact ⟨a, b, k, e1, e2, e3, by rw [List.getElem?_append_left (by rw [h.len]; exact q)]; exact e4⟩
  · rw [List.getElem?_map] at i1
    obtain ⟨w', hw', e⟩ := Option.map_eq_some_iff.1 i1
    exact ⟨w, w', _, hw, hw', e, by rw [List.getElem?_append_right (by rw [h.len]; exact Nat.le_refl _), h.len, Nat.sub_self]; rfl⟩
theorem GsI.fresh {st : List (List Nat) × List Int} {n l : Nat} (h : GsI T P E Q W st n l) {w : List Nat} (hw : st.1[n]? = some w) (hl : l < T) (hin : rkW T P E Q (w ++ [l]) ∉ st.1.map (rkW T P E Q)) : GsI T P E Q W (st.1 ++ [w ++ [l]], st.2 ++ [((st.1.length : Nat) : Int)]) n (l + 1) := by
  have hn := (List.getElem?_eq_some_iff.1 hw).1
  obtain ⟨r, hr⟩ := h.app
  refine ⟨⟨?_, ?_, ?_, ?_⟩, ⟨r ++ [w ++ [l]], by rw [hr, List.append_assoc]⟩, by simp [h.len]; omega, fun s j hj hs => ?_⟩
  · rw [List.map_append, List.nodup_append]
    refine ⟨h.wd.nd, by simp, fun a ha b hb => ?_⟩
    have : b = rkW T P E Q (w ++ [l]) := by simpa using hb
    subst this
    exact fun e => hin (e ▸ ha)
  · exact get_left h.wd.fst
  · intro x hx
    rcases List.mem_append.1 hx with hx | hx
    · exact h.wd.let_ x hx
    · rw [show x = w ++ [l] from by simpa using hx]
      intro y hy
      rcases List.mem_append.1 hy with hy | hy
      · exact h.wd.let_ w (List.mem_of_getElem? hw) y hy
      · rw [show y = l from by simpa using hy]; exact hl
  · intro i x hx
    rcases get_snoc hx with hx | ⟨hi, rfl⟩
    · exact h.wd.short i x hx
    · have := h.wd.short n w hw
      simp; omega
  · rcases GsI.split (st := st) hj hl hs with q | ⟨rfl, rfl⟩
    · obtain ⟨a, b, k, e1, e2, e3, e4⟩ := h.at_ s j hj q
      exact ⟨a, b, k, get_left e1, get_left e2, e3, by rw [List.getElem?_append_left (by rw [h.len]; exact q)]; exact e4⟩
    · exact ⟨w, w ++ [j], st.1.length, get_left hw, by simp, rfl, by rw [List.getElem?_append_right (by rw [h.len]; exact Nat.le_refl _), h.len, Nat.sub_self]; rfl⟩
theorem gsR_app (w : List Nat) (st : List (List Nat) × List Int) : ∀ l, ∃ r, (gsR T P E Q w st l).1 = st.1 ++ r
  | 0 => ⟨[], by simp [gsR]⟩
  | l + 1 => by
    obtain ⟨r, hr⟩ := gsR_app w st l
    rw [gsR]
    split
    · exact ⟨r, hr⟩
    · exact ⟨r ++ [w ++ [l]], by show _ ++ _ = _; rw [hr, List.append_assoc]⟩
theorem GsI.row {st : List (List Nat) × List Int} {n : Nat} (h : GsI T P E Q W st n 0) {w : List Nat} (hw : st.1[n]? = some w) : ∀ l, l ≤ T → GsI T P E Q W (gsR T P E Q w st l) n l
  | 0, _ => h
  | l + 1, hl => by
    have ih := GsI.row h hw l (by omega)
    obtain ⟨r, hr⟩ := gsR_app (T := T) (P := P) (E := E) (Q := Q) w st l
    have hw' : (gsR T P E Q w st l).1[n]? = some w := by rw [hr]; exact get_left hw
    by_cases hin : rkW T P E Q (w ++ [l]) ∈ (gsR T P E Q w st l).1.map (rkW T P E Q)
    · rw [gsR_in hin]; exact ih.old hw' (by omega) hin
    · rw [gsR_new hin]; exact ih.fresh hw' (by omega) hin
theorem GsI.next {st : List (List Nat) × List Int} {n : Nat} (h : GsI T P E Q W st n T) : GsI T P E Q W st (n + 1) 0 := by
  have e : (n + 1) * T + 0 = n * T + T := by rw [Nat.succ_mul]; rfl
  exact ⟨h.wd, h.app, by rw [e]; exact h.len, fun s j hj hs => h.at_ s j hj (by omega)⟩
theorem gsA_succ {n : Nat} {w : List Nat} (h : (gsA T P E Q W n).1[n]? = some w) : gsA T P E Q W (n + 1) = gsR T P E Q w (gsA T P E Q W n) T := by rw [gsA, h]
theorem gsA_inv (hw : WdO T P E Q W) : ∀ n, n ≤ (gsA T P E Q W n).1.length → GsI T P E Q W (gsA T P E Q W n) n 0
  | 0, _ => GsI.start hw
  | n + 1, h => by
    cases hk : (gsA T P E Q W n).1[n]? with
    | none =>
      exfalso
      have h2 := List.getElem?_eq_none_iff.1 hk
      have e : gsA T P E Q W (n + 1) = gsA T P E Q W n := by rw [gsA, hk]
      rw [e] at h; omega
    | some w =>
      rw [gsA_succ hk]
      have hn := (List.getElem?_eq_some_iff.1 hk).1
      exact ((gsA_inv hw n (by omega)).row hk T (Nat.le_refl _)).next
theorem gsE_is (h : TeO S T P E) (hw : WdO T P E Q W) : ∀ (f n : Nat), n + f = 65 → n ≤ (gsA T P E Q W n).1.length → gsE T P E Q W f n = (gsA T P E Q W (gsE T P E Q W f n)).1.length
  | 0, n, hf, hn => by have := (gsA_inv hw n hn).wd.len h; have := h.hS; omega
  | f + 1, n, hf, hn => by
    rw [gsE]
    split
    · rename_i hlt
      refine gsE_is h hw f (n + 1) (by omega) ?_
      obtain ⟨w, hk⟩ : ∃ w, (gsA T P E Q W n).1[n]? = some w := ⟨_, List.getElem?_eq_getElem hlt⟩
      rw [gsA_succ hk]
      obtain ⟨r, hr⟩ := gsR_app (T := T) (P := P) (E := E) (Q := Q) w (gsA T P E Q W n) T
      rw [hr, List.length_append]; omega
    · omega
/-- The guess. -/
theorem gs_whole (h : TeO S T P E) (hw : WdO T P E Q W) : gsN T P E Q W = (gsW T P E Q W).length ∧ GsI T P E Q W (gsW T P E Q W, gsP T P E Q W) (gsW T P E Q W).length 0 := by
  have e := gsE_is h hw 65 0 rfl (Nat.zero_le _)
  have e' : gsN T P E Q W = (gsW T P E Q W).length := e
  refine ⟨e', ?_⟩
  have hi := gsA_inv hw (gsN T P E Q W) (Nat.le_of_eq e)
  rw [← e']
  exact hi
/-- The guess is a plain machine. -/
theorem gs_ok (h : TeO S T P E) (hw : WdO T P E Q W) : TeO (gsW T P E Q W).length T (gsP T P E Q W) (gsD T P E Q W) := by
  obtain ⟨e, hi⟩ := gs_whole h hw
  have h0 : 0 < (gsW T P E Q W).length := (List.getElem?_eq_some_iff.1 hi.wd.fst).1
  have hle : (gsW T P E Q W).length ≤ S := hi.wd.len h
  have hl : (gsP T P E Q W).length = (gsW T P E Q W).length * T := by have := hi.len; simpa using this
  refine ⟨⟨h0, by have := h.hS; omega⟩, h.hT, hl, fun x hx => ?_, by unfold gsD; simp⟩
  obtain ⟨i, hi'⟩ := List.getElem?_of_mem hx
  have hil := (List.getElem?_eq_some_iff.1 hi').1
  rw [hl] at hil
  have hT := h.hT.1
  have hs : i / T < (gsW T P E Q W).length := Nat.div_lt_of_lt_mul (by rw [Nat.mul_comm]; exact hil)
  have hsT : (i / T + 1) * T ≤ (gsW T P E Q W).length * T := Nat.mul_le_mul_right T hs
  rw [Nat.succ_mul] at hsT
  have hm := Nat.mod_lt i (show 0 < T by omega)
  obtain ⟨a, b, k, e1, e2, e3, e4⟩ := hi.at_ (i / T) (i % T) hm (by omega)
  rw [show i / T * T + i % T = i from by rw [Nat.mul_comm]; exact Nat.div_add_mod _ _] at e4
  have e4' : (gsP T P E Q W)[i]? = some (k : Int) := e4
  rw [hi'] at e4'
  injection e4' with e4'
  have := (List.getElem?_eq_some_iff.1 e2).1
  rw [e4']
  exact ⟨by omega, by have h2 : k < (gsW T P E Q W).length := this; omega⟩
theorem tsA_app (wd : List Nat) (Q : List (List Nat)) : ∀ k, ∃ r, tsA wd Q k = Q ++ r
  | 0 => ⟨[], by simp [tsA]⟩
  | k + 1 => by
    obtain ⟨r, hr⟩ := tsA_app wd Q k
    rw [tsA]
    split
    · exact ⟨r, hr⟩
    · exact ⟨r ++ [wd.drop k], by rw [hr, List.append_assoc]⟩
theorem tsA_has (wd : List Nat) (Q : List (List Nat)) : ∀ k i, i < k → wd.drop i ∈ tsA wd Q k
  | 0, i, h => by omega
  | k + 1, i, h => by
    rw [tsA]
    rcases Nat.lt_or_ge i k with q | q
    · have := tsA_has wd Q k i q
      split
      · exact this
      · exact List.mem_append_left _ this
    · rw [show i = k by omega]
      split
      · rename_i hin; exact hin
      · simp
theorem rk_mem {Q' : List (List Nat)} (hs : ∀ q ∈ Q, q ∈ Q') {w w' : List Nat} (h : rkW T P E Q' w = rkW T P E Q' w') : rkW T P E Q w = rkW T P E Q w' := by
  unfold rkW at h ⊢
  refine List.map_congr_left (fun q hq => ?_)
  have := List.map_inj_left.1 h q (hs q hq)
  exact this
/-- More tests: the words' rows still differ. -/
theorem WdO.more (hw : WdO T P E Q W) {Q' : List (List Nat)} (hs : ∀ q ∈ Q, q ∈ Q') : WdO T P E Q' W :=
  ⟨by
    have hn := hw.nd
    rw [List.Nodup, List.pairwise_map] at hn ⊢
    exact hn.imp (fun {a b} hab e => hab (rk_mem hs e)), hw.fst, hw.let_, hw.short⟩
theorem WdO.start (T : Nat) (P : List Int) (E : List Bool) : WdO T P E [[]] [[]] where
  nd := by simp
  fst := rfl
  let_ := fun w hw x hx => by
    rw [show w = [] from by simpa using hw] at hx
    cases hx
  short := fun i w hi => by
    cases i with
    | zero => simp at hi; subst hi; simp
    | succ i => simp at hi
/-- If the words stay as they are, then the guess reads an end of the word as the teacher does. -/
theorem gs_same (h : TeO S T P E) (hw : WdO T P E Q W) {wd : List Nat} (hwd : ∀ x ∈ wd, x < T) {Q' : List (List Nat)} (hs : ∀ q ∈ Q, q ∈ Q') (hd : ∀ i, i < wd.length → wd.drop i ∈ Q') (he : [] ∈ Q')
    (hst : gsW T P E Q' (gsW T P E Q W) = gsW T P E Q W) : rdP T (gsP T P E Q W) (gsD T P E Q W) wd = rdP T P E wd := by
  obtain ⟨-, h1⟩ := gs_whole h hw
  have hw' : WdO T P E Q' (gsW T P E Q W) := h1.wd.more hs
  obtain ⟨-, h2⟩ := gs_whole h hw'
  rw [hst] at h2
  have hok := gs_ok h hw
  obtain ⟨WW, hWW⟩ : ∃ x, x = gsW T P E Q W := ⟨_, rfl⟩
  obtain ⟨PP, hPP⟩ : ∃ x, x = gsP T P E Q W := ⟨_, rfl⟩
  have hDD : gsD T P E Q W = WW.map (rdP T P E) := by unfold gsD; rw [hWW]
  rw [hDD]
  rw [← hWW, ← hPP] at h1
  rw [← hWW] at h2
  rw [hDD, ← hWW, ← hPP] at hok
  rw [← hPP]
  have key : ∀ (m : Nat) (i s : Nat) (w : List Nat), i ≤ wd.length → wd.length - i = m → WW[s]? = some w → (WW.map (rdP T P E)).getD ((wd.drop i).foldl (plT T PP) s) false = rdP T P E (w ++ wd.drop i) := by
    intro m
    induction m with
    | zero =>
      intro i s w hi hm hs'
      have e : wd.drop i = [] := List.drop_of_length_le (by omega)
      rw [e, List.getD_eq_getElem?_getD, List.foldl_nil, List.getElem?_map, hs', List.append_nil]; rfl
    | succ m ih =>
      intro i s w hi hm hs'
      have hil : i < wd.length := by omega
      have e : wd.drop i = wd[i] :: wd.drop (i + 1) := List.drop_eq_getElem_cons hil
      have hj : wd[i] < T := hwd _ (List.getElem_mem hil)
      have hsl := (List.getElem?_eq_some_iff.1 hs').1
      have hsT : (s + 1) * T ≤ WW.length * T := Nat.mul_le_mul_right T hsl
      rw [Nat.succ_mul] at hsT
      obtain ⟨a, b, k, q1, q2, q3, q4⟩ := h1.at_ s wd[i] hj (by omega)
      obtain ⟨a', b', k', r1, r2, r3, r4⟩ := h2.at_ s wd[i] hj (by omega)
      have q1' : WW[s]? = some a := q1
      have r1' : WW[s]? = some a' := r1
      rw [hs'] at q1' r1'
      injection q1' with q1'
      injection r1' with r1'
      rw [← q1'] at q3
      rw [← r1'] at r3
      have hkk : rkW T P E Q b = rkW T P E Q b' := by rw [q3]; exact (rk_mem hs r3).symm
      have hk : k = k' := by
        have n1 : (WW.map (rkW T P E Q))[k]? = some (rkW T P E Q b) := by rw [List.getElem?_map, show WW[k]? = some b from q2]; rfl
        have n2 : (WW.map (rkW T P E Q))[k']? = some (rkW T P E Q b) := by rw [List.getElem?_map, show WW[k']? = some b' from r2, hkk]; rfl
        have h3 := idx_of h1.wd.nd n1
        have h4 := idx_of h1.wd.nd n2
        omega
      subst hk
      have hbb : b = b' := by rw [show WW[k]? = some b from q2] at r2; injection r2
      subst hbb
      have hpt : plT T PP s wd[i] = k := by
        unfold plT
        rw [List.getD_eq_getElem?_getD, show PP[s * T + wd[i]]? = some (k : Int) from q4]; simp
      rw [e, List.foldl_cons, hpt, ih (i + 1) k b (by omega) (by omega) q2]
      have hin : wd.drop (i + 1) ∈ Q' := by
        rcases Nat.lt_or_ge (i + 1) wd.length with q | q
        · exact hd _ q
        · rw [List.drop_of_length_le q]; exact he
      have := List.map_inj_left.1 (show Q'.map (fun q => rdP T P E (b ++ q)) = Q'.map (fun q => rdP T P E (w ++ [wd[i]] ++ q)) from r3) _ hin
      rw [this]
      congr 1
      simp
  have := key _ 0 0 [] (Nat.zero_le _) rfl h1.wd.fst
  rw [List.drop_zero] at this
  exact this
theorem faAll_nat {xs : List Nat} : (natW xs).map Int.toNat = xs := by
  unfold natW
  rw [List.map_map]
  exact (List.map_congr_left (fun x _ => by simp)).trans (List.map_id xs)
/-- What firstApart tells of the teacher and the guess. -/
theorem lnF_law (h : TeO S T P E) (hw : WdO T P E Q W) : match lnF T P E Q W with
    | none => True
    | some wd => wd.length ≤ 12 ∧ ∃ xs : List Nat, wd = natW xs ∧ (∀ x ∈ xs, x < T) ∧ rdP T P E xs ≠ rdP T (gsP T P E Q W) (gsD T P E Q W) xs := by
  have hok := gs_ok h hw
  have hl := faAll_law (nx := plX T P (gsP T P E Q W)) (df := plD E (gsD T P E Q W)) (T := T) (Sa := S) (Sb := (gsW T P E Q W).length) h.hS.2 hok.hS.2 ⟨by have := h.hS; omega, by have := hok.hS; omega⟩ (fun p j h1 h2 h3 => ⟨(plT_bd rfl h.hl h.hP h1 h3).2, (plT_bd rfl hok.hl hok.hP h2 h3).2⟩)
  cases hf : lnF T P E Q W with
  | none => trivial
  | some wd =>
    unfold lnF at hf
    rw [hf] at hl
    obtain ⟨h1, ⟨xs, h2, h3, h4⟩, -⟩ := hl
    refine ⟨h1, xs, h2, h3, ?_⟩
    rw [plX_fold] at h4
    unfold rdP
    intro e
    unfold plD at h4
    simp only [e] at h4
    simp at h4
/-- Each round finds more words. -/
theorem ln_grows (h : TeO S T P E) (hw : WdO T P E Q W) (he : [] ∈ Q) {wd : List Int} (hf : lnF T P E Q W = some wd) : (gsW T P E Q W).length < (gsW T P E (lnQ Q W wd) (gsW T P E Q W)).length ∧ WdO T P E (lnQ Q W wd) (gsW T P E Q W) ∧ [] ∈ lnQ Q W wd := by
  have hl := lnF_law h hw
  rw [hf] at hl
  obtain ⟨h12, xs, rfl, hx, hne⟩ := hl
  have hq : lnQ Q W (natW xs) = tsA xs Q xs.length := by unfold lnQ; rw [faAll_nat]; unfold natW; simp
  rw [hq]
  obtain ⟨r, hr⟩ := tsA_app xs Q xs.length
  have hs : ∀ q ∈ Q, q ∈ tsA xs Q xs.length := fun q hq => by rw [hr]; exact List.mem_append_left _ hq
  obtain ⟨-, h1⟩ := gs_whole h hw
  have hw' : WdO T P E (tsA xs Q xs.length) (gsW T P E Q W) := h1.wd.more hs
  refine ⟨?_, hw', hs _ he⟩
  obtain ⟨-, h2⟩ := gs_whole h hw'
  obtain ⟨r2, hr2⟩ := h2.app
  have hr2' : gsW T P E (tsA xs Q xs.length) (gsW T P E Q W) = gsW T P E Q W ++ r2 := hr2
  rcases Nat.eq_zero_or_pos r2.length with e | e
  · exfalso
    rw [List.length_eq_zero_iff.1 e, List.append_nil] at hr2'
    exact hne (gs_same h hw hx hs (fun i hi => tsA_has xs Q xs.length i hi) (hs _ he) hr2').symm
  · rw [hr2', List.length_append]; omega
/-- It ends. -/
theorem lnE_is (h : TeO S T P E) : ∀ (f : Nat) (Q W : List (List Nat)) (c : Nat), WdO T P E Q W → [] ∈ Q → 65 ≤ (gsW T P E Q W).length + f → ∃ r, lnE T P E f Q W c = some r
  | 0, Q, W, c, hw, he, hf => by have := (gs_ok h hw).hS; omega
  | f + 1, Q, W, c, hw, he, hf => by
    rw [lnE]
    cases hl : lnF T P E Q W with
    | none => exact ⟨_, rfl⟩
    | some wd =>
      obtain ⟨h1, h2, h3⟩ := ln_grows h hw he hl
      exact lnE_is h f _ _ _ h2 h3 (by omega)
end
end Go.Proofs.Ytbdfbmohdbigfaa
