/- Several texts in one: The first shortest word behind which two machines differ, plainly: a queue of pairs of states, each with the word that leads to it. A map from keys of any kind to places: its keys in the order in which they were put, each with its place. A map from keys of any kind to truth values, all true: a set of keys in the order in which they were put. Pairs of numbers as keys of maps. Clones of lists of numbers that may be nil. -/
import Derived.Test.YtbdfbmohdbigfaaMga
import Derived.Test.YtbdfbmohdbigfaaMgb
import Derived.Test.YtbdfbmohdbigfaaMgp
import Derived.Maps.OwnOps
import Derived.DeepKeys3
import Derived.MapFrom
import Derived.Test.YtbdfbmohdbigfaaMgg

namespace Go.Proofs.Ytbdfbmohdbigfaa
set_option linter.unusedVariables false
section
variable {α : Type} {nx : α → Nat → α} {df : α → Bool} {first : α} {T : Nat}
/-- What holds of the queue behind n places (and l letters of place n, if it is being done). -/
structure FaI (nx : α → Nat → α) (df : α → Bool) (first : α) (T : Nat) (L : List (α × List Int)) (n : Nat) : Prop where
  nd : (L.map Prod.fst).Nodup
  fst : L[0]? = some (first, [])
  wd : ∀ (i : Nat) (p : α × List Int), L[i]? = some p → p.2.length ≤ 12 ∧ ∃ xs : List Nat, p.2 = xs.map (fun (x : Nat) => (x : Int)) ∧ (∀ x ∈ xs, x < T) ∧ xs.foldl nx first = p.1
  mono : ∀ (i j : Nat) (p q : α × List Int), i ≤ j → L[i]? = some p → L[j]? = some q → p.2.length ≤ q.2.length
  top : ∀ (j : Nat) (p q : α × List Int), L[n]? = some p → L[j]? = some q → q.2.length ≤ p.2.length + 1
  top' : ∀ (i j : Nat) (p q : α × List Int), i + 1 = n → L[i]? = some p → L[j]? = some q → q.2.length ≤ p.2.length + 1
  done : ∀ (i : Nat) (p : α × List Int), i < n → L[i]? = some p → df p.1 = false ∧ (p.2.length < 12 → ∀ j, j < T → ∃ (i' : Nat) (q : α × List Int), L[i']? = some q ∧ q.1 = nx p.1 j ∧ q.2.length ≤ p.2.length + 1)
  lt : n ≤ L.length
theorem FaI.start : FaI nx df first T [(first, [])] 0 where
  nd := by simp
  fst := rfl
  wd := fun i p h => by
    cases i with
    | zero => simp at h; subst h; exact ⟨by simp, [], rfl, (fun x hx => by cases hx), rfl⟩
    | succ i => simp at h
  mono := fun i j p q _ h1 h2 => by
    cases i with
    | zero =>
      cases j with
      | zero => simp at h1 h2; subst h1; subst h2; exact Nat.le_refl _
      | succ j => simp at h2
    | succ i => simp at h1
  top := fun j p q h1 h2 => by
    cases j with
    | zero => simp at h1 h2; subst h1; subst h2; simp
    | succ j => simp at h2
  top' := fun i j p q h => by omega
  done := fun i p h => by omega
  lt := by simp
/-- While place n is being done: the first l letters. -/
structure FaJ (nx : α → Nat → α) (df : α → Bool) (first : α) (T : Nat) (L0 L : List (α × List Int)) (n : Nat) (p : α × List Int) (l : Nat) : Prop where
  nd : (L.map Prod.fst).Nodup
  app : ∃ r, L = L0 ++ r
  wd : ∀ (i : Nat) (q : α × List Int), L[i]? = some q → q.2.length ≤ 12 ∧ ∃ xs : List Nat, q.2 = xs.map (fun (x : Nat) => (x : Int)) ∧ (∀ x ∈ xs, x < T) ∧ xs.foldl nx first = q.1
  mono : ∀ (i j : Nat) (a b : α × List Int), i ≤ j → L[i]? = some a → L[j]? = some b → a.2.length ≤ b.2.length
  top : ∀ (j : Nat) (b : α × List Int), L[j]? = some b → b.2.length ≤ p.2.length + 1
  did : ∀ j, j < l → ∃ (i' : Nat) (q : α × List Int), L[i']? = some q ∧ q.1 = nx p.1 j ∧ q.2.length ≤ p.2.length + 1
theorem get_left {β : Type} {L r : List β} {i : Nat} {p : β} (h : L[i]? = some p) : (L ++ r)[i]? = some p := by
  rw [List.getElem?_append_left (List.getElem?_eq_some_iff.1 h).1]; exact h
theorem get_snoc {β : Type} {L : List β} {i : Nat} {p q : β} (h : (L ++ [p])[i]? = some q) : L[i]? = some q ∨ (i = L.length ∧ q = p) := by
  rcases Nat.lt_or_ge i L.length with hlt | hge
  · rw [List.getElem?_append_left hlt] at h; exact .inl h
  · rw [List.getElem?_append_right hge] at h
    rcases Nat.eq_zero_or_pos (i - L.length) with e | e
    · rw [e] at h; simp at h; exact .inr ⟨by omega, h.symm⟩
    · rw [List.getElem?_eq_none (by simp; omega)] at h; cases h
theorem FaI.begin {L : List (α × List Int)} {n : Nat} {p : α × List Int} (h : FaI nx df first T L n) (hp : L[n]? = some p) : FaJ nx df first T L L n p 0 :=
  ⟨h.nd, ⟨[], by simp⟩, h.wd, h.mono, fun j b hb => h.top j p b hp hb, fun j hj => absurd hj (by omega)⟩
theorem FaJ.close {L0 L : List (α × List Int)} {n l : Nat} {p : α × List Int} (h : FaJ nx df first T L0 L n p l) (h0 : FaI nx df first T L0 n) (hp : L0[n]? = some p) (hd : df p.1 = false) (hl : p.2.length < 12 → T ≤ l) : FaI nx df first T L (n + 1) := by
  obtain ⟨r, hr⟩ := h.app
  have hn := (List.getElem?_eq_some_iff.1 hp).1
  have hpL : L[n]? = some p := by rw [hr]; exact get_left hp
  refine ⟨h.nd, by rw [hr]; exact get_left h0.fst, h.wd, h.mono, ?_, ?_, ?_, by rw [hr]; simp; omega⟩
  · intro j a b ha hb
    have := h.top j b hb
    have := h.mono n (n + 1) p a (by omega) hpL ha
    omega
  · intro i j a b hi ha hb
    obtain rfl : i = n := by omega
    rw [hpL] at ha; injection ha with ha; subst ha
    exact h.top j b hb
  · intro i a hi ha
    rcases Nat.lt_or_ge i n with hin | hin
    · have ha0 : L0[i]? = some a := by rw [hr, List.getElem?_append_left (by omega)] at ha; exact ha
      obtain ⟨e1, e2⟩ := h0.done i a hin ha0
      refine ⟨e1, fun h12 j hj => ?_⟩
      obtain ⟨i', q, q1, q2, q3⟩ := e2 h12 j hj
      exact ⟨i', q, by rw [hr]; exact get_left q1, q2, q3⟩
    · obtain rfl : i = n := by omega
      rw [hpL] at ha; injection ha with ha; subst ha
      exact ⟨hd, fun h12 j hj => h.did j (by have := hl h12; omega)⟩
/-- A word is found in the queue, or a place that is still to be done has a shorter word. -/
theorem FaI.find {L : List (α × List Int)} {n : Nat} (h : FaI nx df first T L n) (ys : List Nat) (hy : ∀ y ∈ ys, y < T) (hl : ys.length ≤ 12) :
    (∃ (i : Nat) (q : α × List Int), L[i]? = some q ∧ q.1 = ys.foldl nx first ∧ q.2.length ≤ ys.length) ∨ (∃ (i : Nat) (q : α × List Int), n ≤ i ∧ L[i]? = some q ∧ q.2.length < ys.length) := by
  have key : ∀ m (ys : List Nat), ys.length = m → (∀ y ∈ ys, y < T) → ys.length ≤ 12 → (∃ (i : Nat) (q : α × List Int), L[i]? = some q ∧ q.1 = ys.foldl nx first ∧ q.2.length ≤ ys.length) ∨ (∃ (i : Nat) (q : α × List Int), n ≤ i ∧ L[i]? = some q ∧ q.2.length < ys.length) := by
    intro m
    induction m with
    | zero =>
      intro ys e _ _
      rw [List.length_eq_zero_iff.1 e]
      exact .inl ⟨0, _, h.fst, rfl, Nat.le_refl _⟩
    | succ m ih =>
      intro ys e hy hl
      have hne : ys ≠ [] := fun q => by rw [q] at e; simp at e
      obtain ⟨zs, j, rfl⟩ : ∃ zs j, ys = zs ++ [j] := ⟨_, _, (List.dropLast_concat_getLast hne).symm⟩
      rw [List.length_append, List.length_singleton] at e hl ⊢
      have hj : j < T := hy j (by simp)
      rcases ih zs (by omega) (fun y q => hy y (List.mem_append_left _ q)) (by omega) with ⟨i, q, q1, q2, q3⟩ | ⟨i, q, q1, q2, q3⟩
      · rcases Nat.lt_or_ge i n with hin | hin
        · obtain ⟨-, hd⟩ := h.done i q hin q1
          obtain ⟨i', q', r1, r2, r3⟩ := hd (by omega) j hj
          exact .inl ⟨i', q', r1, by rw [r2, q2, List.foldl_append]; rfl, by omega⟩
        · exact .inr ⟨i, q, hin, q1, by omega⟩
      · exact .inr ⟨i, q, q1, q2, by omega⟩
  exact key _ ys rfl hy hl
/-- A list of different numbers below n is not longer than n. -/
theorem nodup_le : ∀ (n : Nat) (l : List Nat), l.Nodup → (∀ x ∈ l, x < n) → l.length ≤ n
  | 0, l, _, h => by
    cases l with
    | nil => simp
    | cons a l => exact absurd (h a (by simp)) (by omega)
  | n + 1, l, hn, h => by
    by_cases hm : n ∈ l
    · have ih := nodup_le n (l.erase n) (hn.erase n) (fun x hx => by
        have h1 := h x (List.mem_of_mem_erase hx)
        have h2 : x ≠ n := ((List.Nodup.mem_erase_iff hn).1 hx).1
        omega)
      rw [List.length_erase_of_mem hm] at ih
      omega
    · have ih := nodup_le n l hn (fun x hx => by
        have h1 := h x hx
        have h2 : x ≠ n := fun e => hm (e ▸ hx)
        omega)
      omega
theorem FaJ.old {L0 L : List (α × List Int)} {n l : Nat} {p : α × List Int} (h : FaJ nx df first T L0 L n p l) (hp : L0[n]? = some p) (h12 : p.2.length < 12) (hl : l < T) (hin : nx p.1 l ∈ L.map Prod.fst) : FaJ nx df first T L0 L n p (l + 1) := by
  refine ⟨h.nd, h.app, h.wd, h.mono, h.top, fun j hj => ?_⟩
  rcases Nat.lt_or_ge j l with hjl | hjl
  · exact h.did j hjl
  · obtain rfl : j = l := by omega
    obtain ⟨q, hq, e⟩ := List.mem_map.1 hin
    obtain ⟨i', hi'⟩ := List.getElem?_of_mem hq
    exact ⟨i', q, hi', e, h.top i' q hi'⟩
theorem FaJ.new {L0 L : List (α × List Int)} {n l : Nat} {p : α × List Int} (h : FaJ nx df first T L0 L n p l) (hp : L0[n]? = some p) (h12 : p.2.length < 12) (hl : l < T) (hin : nx p.1 l ∉ L.map Prod.fst) : FaJ nx df first T L0 (L ++ [(nx p.1 l, p.2 ++ [(l : Int)])]) n p (l + 1) := by
  obtain ⟨r, hr⟩ := h.app
  have hpL : L[n]? = some p := by rw [hr]; exact get_left hp
  refine ⟨?_, ⟨r ++ [(nx p.1 l, p.2 ++ [(l : Int)])], by rw [hr, List.append_assoc]⟩, ?_, ?_, ?_, ?_⟩
  · rw [List.map_append, List.nodup_append]
    refine ⟨h.nd, by simp, fun a ha b hb => ?_⟩
    have : b = nx p.1 l := by simpa using hb
    subst this
    exact fun e => hin (e ▸ ha)
  · intro i q hq
    rcases get_snoc hq with hq | ⟨-, rfl⟩
    · exact h.wd i q hq
    · obtain ⟨e1, xs, e2, e3, e4⟩ := h.wd n p hpL
      refine ⟨by simp; omega, xs ++ [l], by simp [e2], fun x hx => ?_, by rw [List.foldl_append, e4]; rfl⟩
      rcases List.mem_append.1 hx with hx | hx
      · exact e3 x hx
      · rw [show x = l from by simpa using hx]; exact hl
  · intro i j a b hij ha hb
    rcases get_snoc ha with ha | ⟨hi, rfl⟩
    · rcases get_snoc hb with hb | ⟨-, rfl⟩
      · exact h.mono i j a b hij ha hb
      · have := h.top i a ha; simp; omega
    · rcases get_snoc hb with hb | ⟨-, rfl⟩
      · have := (List.getElem?_eq_some_iff.1 hb).1; omega
      · exact Nat.le_refl _
  · intro j b hb
    rcases get_snoc hb with hb | ⟨-, rfl⟩
    · exact h.top j b hb
    · simp
  · intro j hj
    rcases Nat.lt_or_ge j l with hjl | hjl
    · obtain ⟨i', q, e1, e2, e3⟩ := h.did j hjl
      exact ⟨i', q, get_left e1, e2, e3⟩
    · obtain rfl : j = l := by omega
      exact ⟨L.length, (nx p.1 j, p.2 ++ [(j : Int)]), by simp, rfl, by simp⟩
end
section
variable {α : Type} [DecidableEq α] (nx : α → Nat → α) (df : α → Bool) (first : α) (T : Nat)
/-- The queue with the first l letters behind (k, wd), those that are new. -/
def faR (k : α) (wd : List Int) (L : List (α × List Int)) : Nat → List (α × List Int)
  | 0 => L
  | l + 1 => if nx k l ∈ (faR k wd L l).map Prod.fst then faR k wd L l else faR k wd L l ++ [(nx k l, wd ++ [(l : Int)])]
/-- One place of the queue done. -/
def faS (L : List (α × List Int)) (p : α × List Int) : List (α × List Int) := if p.2.length = 12 then L else faR nx p.1 p.2 L T
def faE : Nat → List (α × List Int) → Nat → Option (List Int)
  | 0, _, _ => none
  | f + 1, L, n => match L[n]? with
    | none => none
    | some p => if df p.1 then some p.2 else faE f (faS nx T L p) (n + 1)
def faAll : Option (List Int) := faE nx df T 4097 [(first, [])] 0
variable {nx df first T}
theorem faE_hit {f : Nat} {L : List (α × List Int)} {n : Nat} {p : α × List Int} (h : L[n]? = some p) (hd : df p.1 = true) : faE nx df T (f + 1) L n = some p.2 := by
  rw [faE, h]; exact if_pos hd
theorem faE_miss {f : Nat} {L : List (α × List Int)} {n : Nat} {p : α × List Int} (h : L[n]? = some p) (hd : df p.1 = false) : faE nx df T (f + 1) L n = faE nx df T f (faS nx T L p) (n + 1) := by
  rw [faE, h]; exact if_neg (by rw [hd]; simp)
theorem faE_end {f : Nat} {L : List (α × List Int)} {n : Nat} (h : L.length ≤ n) : faE nx df T f L n = none := by
  cases f with
  | zero => rfl
  | succ f => rw [faE, List.getElem?_eq_none h]
theorem faR_app (k : α) (wd : List Int) (L : List (α × List Int)) : ∀ l, ∃ r, faR nx k wd L l = L ++ r
  | 0 => ⟨[], by simp [faR]⟩
  | l + 1 => by
    obtain ⟨r, hr⟩ := faR_app k wd L l
    rw [faR]
    split
    · exact ⟨r, hr⟩
    · exact ⟨r ++ [(nx k l, wd ++ [(l : Int)])], by rw [hr, List.append_assoc]⟩
theorem faR_len (k : α) (wd : List Int) (L : List (α × List Int)) : ∀ l, (faR nx k wd L l).length ≤ L.length + l
  | 0 => Nat.le_refl _
  | l + 1 => by
    have h := faR_len k wd L l
    rw [faR]
    split
    · omega
    · simp; omega
theorem faR_in {k : α} {wd : List Int} {L : List (α × List Int)} {l : Nat} (h : nx k l ∈ (faR nx k wd L l).map Prod.fst) : faR nx k wd L (l + 1) = faR nx k wd L l := by rw [faR]; exact if_pos h
theorem faR_new {k : α} {wd : List Int} {L : List (α × List Int)} {l : Nat} (h : nx k l ∉ (faR nx k wd L l).map Prod.fst) : faR nx k wd L (l + 1) = faR nx k wd L l ++ [(nx k l, wd ++ [(l : Int)])] := by rw [faR]; exact if_neg h
theorem faS_app (L : List (α × List Int)) (p : α × List Int) : ∃ r, faS nx T L p = L ++ r := by
  unfold faS
  split
  · exact ⟨[], by simp⟩
  · exact faR_app _ _ _ _
theorem FaJ.all {L : List (α × List Int)} {n : Nat} {p : α × List Int} (h : FaJ nx df first T L L n p 0) (hp : L[n]? = some p) (h12 : p.2.length < 12) : ∀ l, l ≤ T → FaJ nx df first T L (faR nx p.1 p.2 L l) n p l
  | 0, _ => h
  | l + 1, hl => by
    have ih := FaJ.all h hp h12 l (by omega)
    rw [faR]
    split
    · rename_i hin; exact ih.old hp h12 (by omega) hin
    · rename_i hin; exact ih.new hp h12 (by omega) hin
theorem FaI.next {L : List (α × List Int)} {n : Nat} {p : α × List Int} (h : FaI nx df first T L n) (hp : L[n]? = some p) (hd : df p.1 = false) : FaI nx df first T (faS nx T L p) (n + 1) := by
  have hb := h.begin hp
  have h12 := (h.wd n p hp).1
  unfold faS
  split
  · rename_i e
    exact hb.close h hp hd (fun q => by omega)
  · exact (FaJ.all hb hp (by omega) T (Nat.le_refl _)).close h hp hd (fun _ => Nat.le_refl _)
/-- The whole. -/
theorem faE_law : ∀ (f : Nat) (L : List (α × List Int)) (n : Nat), FaI nx df first T L n → (∀ L' n', FaI nx df first T L' n' → L'.length < n + f) →
    match faE nx df T f L n with
    | none => ∀ ys : List Nat, (∀ y ∈ ys, y < T) → ys.length ≤ 12 → df (ys.foldl nx first) = false
    | some wd => wd.length ≤ 12 ∧ (∃ xs : List Nat, wd = xs.map (fun (x : Nat) => (x : Int)) ∧ (∀ x ∈ xs, x < T) ∧ df (xs.foldl nx first) = true) ∧ ∀ ys : List Nat, (∀ y ∈ ys, y < T) → ys.length ≤ 12 → df (ys.foldl nx first) = true → wd.length ≤ ys.length
  | 0, L, n, h, hb => by have := hb L n h; have := h.lt; omega
  | f + 1, L, n, h, hb => by
    cases hp : L[n]? with
    | none =>
      have hge := List.getElem?_eq_none_iff.1 hp
      rw [faE_end hge]
      intro ys hy hl
      rcases h.find ys hy hl with ⟨i, q, q1, q2, q3⟩ | ⟨i, q, q1, q2, q3⟩
      · have hi := (List.getElem?_eq_some_iff.1 q1).1
        rw [← q2]
        exact (h.done i q (by omega) q1).1
      · have hi := (List.getElem?_eq_some_iff.1 q2).1
        omega
    | some p =>
      cases hd : df p.1 with
      | true =>
        rw [faE_hit hp hd]
        obtain ⟨e1, xs, e2, e3, e4⟩ := h.wd n p hp
        refine ⟨e1, ⟨xs, e2, e3, by rw [e4]; exact hd⟩, fun ys hy hl hdy => ?_⟩
        rcases Nat.lt_or_ge ys.length p.2.length with hlt | hge
        · exfalso
          rcases h.find ys hy hl with ⟨i, q, q1, q2, q3⟩ | ⟨i, q, q1, q2, q3⟩
          · rcases Nat.lt_or_ge i n with hin | hin
            · have := (h.done i q hin q1).1
              rw [q2, hdy] at this; cases this
            · have := h.mono n i p q hin hp q1; omega
          · have := h.mono n i p q q1 hp q2; omega
        · exact hge
      | false =>
        rw [faE_miss hp hd]
        exact faE_law f (faS nx T L p) (n + 1) (h.next hp hd) (fun L' n' q => by have := hb L' n' q; omega)
end
/-- Pairs of states of two machines. -/
theorem faI_len {nx : Nat × Nat → Nat → Nat × Nat} {df : Nat × Nat → Bool} {T Sa Sb : Nat} (ha : Sa ≤ 64) (hb : Sb ≤ 64) (h0 : 0 < Sa ∧ 0 < Sb) (hnx : ∀ p j, p.1 < Sa → p.2 < Sb → j < T → (nx p j).1 < Sa ∧ (nx p j).2 < Sb) {L : List ((Nat × Nat) × List Int)} {n : Nat} (h : FaI nx df (0, 0) T L n) :
    (∀ p ∈ L, p.1.1 < Sa ∧ p.1.2 < Sb) ∧ L.length ≤ 4096 := by
  have hin : ∀ p ∈ L, p.1.1 < Sa ∧ p.1.2 < Sb := by
    intro p hp
    obtain ⟨i, hi⟩ := List.getElem?_of_mem hp
    obtain ⟨-, xs, -, e3, e4⟩ := h.wd i p hi
    rw [← e4]
    have : ∀ (xs : List Nat) (p : Nat × Nat), p.1 < Sa → p.2 < Sb → (∀ x ∈ xs, x < T) → (xs.foldl nx p).1 < Sa ∧ (xs.foldl nx p).2 < Sb := by
      intro xs
      induction xs with
      | nil => intro p h1 h2 _; exact ⟨h1, h2⟩
      | cons x xs ih =>
        intro p h1 h2 h3
        have := hnx p x h1 h2 (h3 x (by simp))
        exact ih _ this.1 this.2 (fun y hy => h3 y (List.mem_cons_of_mem _ hy))
    exact this xs (0, 0) h0.1 h0.2 e3
  refine ⟨hin, ?_⟩
  have hl := nodup_le 4096 (L.map fun p => p.1.1 * 64 + p.1.2) ?_ ?_
  · simpa using hl
  · have e : (L.map fun p => p.1.1 * 64 + p.1.2) = (L.map Prod.fst).map fun q => q.1 * 64 + q.2 := by rw [List.map_map]; rfl
    rw [e]
    refine List.pairwise_map.2 (List.Pairwise.imp_of_mem (fun {a b} ha' hb' hne he => ?_) h.nd)
    obtain ⟨p, hp, rfl⟩ := List.mem_map.1 ha'
    obtain ⟨q, hq, rfl⟩ := List.mem_map.1 hb'
    have h1 := hin p hp
    have h2 := hin q hq
    refine hne (Prod.ext ?_ ?_)
    · show p.1.1 = q.1.1
      have he' : p.1.1 * 64 + p.1.2 = q.1.1 * 64 + q.1.2 := he
      omega
    · show p.1.2 = q.1.2
      have he' : p.1.1 * 64 + p.1.2 = q.1.1 * 64 + q.1.2 := he
      omega
  · intro x hx
    obtain ⟨p, hp, rfl⟩ := List.mem_map.1 hx
    have := hin p hp
    omega
theorem faJ_in {nx : Nat × Nat → Nat → Nat × Nat} {df : Nat × Nat → Bool} {T Sa Sb : Nat} (h0 : 0 < Sa ∧ 0 < Sb) (hnx : ∀ p j, p.1 < Sa → p.2 < Sb → j < T → (nx p j).1 < Sa ∧ (nx p j).2 < Sb) {L0 L : List ((Nat × Nat) × List Int)} {n l : Nat} {p : (Nat × Nat) × List Int} (h : FaJ nx df (0, 0) T L0 L n p l) :
    ∀ p ∈ L, p.1.1 < Sa ∧ p.1.2 < Sb := by
  intro p hp
  obtain ⟨i, hi⟩ := List.getElem?_of_mem hp
  obtain ⟨-, xs, -, e3, e4⟩ := h.wd i p hi
  rw [← e4]
  have : ∀ (xs : List Nat) (p : Nat × Nat), p.1 < Sa → p.2 < Sb → (∀ x ∈ xs, x < T) → (xs.foldl nx p).1 < Sa ∧ (xs.foldl nx p).2 < Sb := by
    intro xs
    induction xs with
    | nil => intro p h1 h2 _; exact ⟨h1, h2⟩
    | cons x xs ih =>
      intro p h1 h2 h3
      have := hnx p x h1 h2 (h3 x (by simp))
      exact ih _ this.1 this.2 (fun y hy => h3 y (List.mem_cons_of_mem _ hy))
  exact this xs (0, 0) h0.1 h0.2 e3
theorem faAll_law {nx : Nat × Nat → Nat → Nat × Nat} {df : Nat × Nat → Bool} {T Sa Sb : Nat} (ha : Sa ≤ 64) (hb : Sb ≤ 64) (h0 : 0 < Sa ∧ 0 < Sb) (hnx : ∀ p j, p.1 < Sa → p.2 < Sb → j < T → (nx p j).1 < Sa ∧ (nx p j).2 < Sb) :
    match faAll nx df (0, 0) T with
    | none => ∀ ys : List Nat, (∀ y ∈ ys, y < T) → ys.length ≤ 12 → df (ys.foldl nx (0, 0)) = false
    | some wd => wd.length ≤ 12 ∧ (∃ xs : List Nat, wd = xs.map (fun (x : Nat) => (x : Int)) ∧ (∀ x ∈ xs, x < T) ∧ df (xs.foldl nx (0, 0)) = true) ∧ ∀ ys : List Nat, (∀ y ∈ ys, y < T) → ys.length ≤ 12 → df (ys.foldl nx (0, 0)) = true → wd.length ≤ ys.length :=
  faE_law 4097 _ 0 FaI.start (fun L' n' q => by have := (faI_len ha hb h0 hnx q).2; omega)
end Go.Proofs.Ytbdfbmohdbigfaa


namespace Go.Proofs.Ytbdfbmohdbigfaa
open Go.RowKit Go.Maps
set_option linter.unusedVariables false
/-- What the laws ask of a map's type: P's type mt is a map from kt to int64 (vt); kv tells a key's value. -/
structure KeyOk {α : Type} (P : Program) (mt kt vt : TypeId) (kv : α → Value) (ok : α → Prop) : Prop where
  K : Keyed P kt
  und : P.underlying mt = some (.map kt vt)
  zero : ∀ w : World, (zeroValue vt).run P w = .ok (.int .i64 0) w
  key : ∀ x, ok x → ∃ l, keyOf P kt (kv x) = some l
  inj : ∀ x y, kv x = kv y → x = y
section
variable {α : Type} {kv : α → Value}
def mpE (kv : α → Value) (L : List α) : List (Value × Value) := L.zipIdx.map fun p => (kv p.1, Value.int .i64 (p.2 : Int))
theorem mpE_snoc (L : List α) (x : α) : mpE kv (L ++ [x]) = mpE kv L ++ [(kv x, Value.int .i64 (L.length : Int))] := by
  unfold mpE
  rw [List.zipIdx_append, List.map_append]
  simp
theorem mpE_get (L : List α) (j : Nat) : (mpE kv L)[j]? = (L[j]?).map fun x => (kv x, Value.int .i64 (j : Int)) := by
  unfold mpE
  rw [List.getElem?_map, List.getElem?_zipIdx]
  cases L[j]? <;> simp
/-- Block g is a map that tells the places of the keys L. -/
def NamesO (kv : α → Value) (o : Obj) (L : List α) : Prop := ∃ (es : Array MapEntry) (clock : Nat), o = .map es clock ∧ es.toList.map (fun e => (e.key, e.val)) = mpE kv L
theorem NamesO.nil (kv : α → Value) : NamesO kv (.map #[] 0) [] := ⟨#[], 0, rfl, rfl⟩
end
section
variable {α : Type} [DecidableEq α] {P : Program} {mt kt vt : TypeId} {kv : α → Value} {ok : α → Prop}
theorem names_find (H : KeyOk P mt kt vt kv ok) {L : List α} (hL : ∀ y ∈ L, ok y) (hn : L.Nodup) {es : Array MapEntry} (he : es.toList.map (fun e => (e.key, e.val)) = mpE kv L) {x : α} (hx : ok x) (w : World) :
    (x ∉ L ∧ (Instr.findKey kt (kv x) es.toList).run P w = .ok none w) ∨ (x ∈ L ∧ ∃ j, (Instr.findKey kt (kv x) es.toList).run P w = .ok (some (j, .int .i64 (L.idxOf x : Int))) w) := by
  obtain ⟨l, hl⟩ := H.key x hx
  have hk : ∀ (j : Nat) (e : MapEntry), es.toList[j]? = some e → ∃ y, L[j]? = some y ∧ e.key = kv y ∧ e.val = .int .i64 (j : Int) := by
    intro j e hj
    have h1 : (es.toList.map (fun e => (e.key, e.val)))[j]? = some (e.key, e.val) := by rw [List.getElem?_map, hj]; rfl
    rw [he, mpE_get] at h1
    cases hy : L[j]? with
    | none => rw [hy] at h1; cases h1
    | some y =>
      rw [hy] at h1
      simp only [Option.map_some, Option.some.injEq, Prod.mk.injEq] at h1
      exact ⟨y, rfl, h1.1.symm, h1.2.symm⟩
  rcases H.K.find w hl es.toList (fun e hm => by
    obtain ⟨j, hj, e2⟩ := List.getElem_of_mem hm
    obtain ⟨y, hy, e1, _⟩ := hk j e (by rw [← e2]; exact List.getElem?_eq_getElem hj)
    rw [e1]; exact H.key y (hL y (List.mem_of_getElem? hy))) with ⟨h1, h2⟩ | ⟨j, e, h1, h2, h3⟩
  · refine .inl ⟨fun hm => ?_, h1⟩
    obtain ⟨j, hj, e2⟩ := List.getElem_of_mem hm
    have hge : (es.toList.map (fun e => (e.key, e.val)))[j]? = some (kv x, .int .i64 (j : Int)) := by rw [he, mpE_get, List.getElem?_eq_getElem hj, e2]; rfl
    rw [List.getElem?_map] at hge
    cases hes : es.toList[j]? with
    | none => rw [hes] at hge; cases hge
    | some e =>
      rw [hes] at hge
      simp only [Option.map_some, Option.some.injEq, Prod.mk.injEq] at hge
      exact h2 e (List.mem_of_getElem? hes) hge.1
  · obtain ⟨y, hy, e1, e2⟩ := hk j e h2
    obtain rfl : y = x := H.inj _ _ (by rw [← e1, h3])
    refine .inr ⟨List.mem_of_getElem? hy, j, ?_⟩
    rw [h1, e2, idx_of hn hy]
theorem names_look (H : KeyOk P mt kt vt kv ok) {L : List α} (hL : ∀ y ∈ L, ok y) (hn : L.Nodup) {w : World} {g : Nat} {o : Obj} (hb : w.heap[g]? = some o) (ho : NamesO kv o L) {x : α} (hx : ok x) :
    (Instr.lookup mt (.map (some g)) (kv x) true).run P w = .ok (.tuple #[.int .i64 (if x ∈ L then (L.idxOf x : Int) else 0), .bool (decide (x ∈ L))]) w := by
  obtain ⟨es, clock, rfl, he⟩ := ho
  obtain ⟨l, hl⟩ := H.key x hx
  rcases names_find H hL hn he hx w with ⟨h1, h2⟩ | ⟨h1, j, h2⟩
  · simp [Instr.lookup, run_underlying H.und, run_getObj_map _ _ _ _ hb, H.K.check w _ hl, h2, H.zero, Result.andThen, h1]
  · simp [Instr.lookup, run_underlying H.und, run_getObj_map _ _ _ _ hb, H.K.check w _ hl, h2, Result.andThen, h1]
theorem names_put (H : KeyOk P mt kt vt kv ok) {L : List α} (hL : ∀ y ∈ L, ok y) (hn : L.Nodup) {w : World} {g : Nat} {o : Obj} (hb : w.heap[g]? = some o) (ho : NamesO kv o L) {x : α} (hx : ok x) (hnew : x ∉ L) :
    ∃ w' o', (Instr.mapUpdate mt (.map (some g)) (kv x) (.int .i64 (L.length : Int))).run P w = .ok () w' ∧ w'.heap[g]? = some o' ∧ NamesO kv o' (L ++ [x]) ∧ But g w w' := by
  obtain ⟨es, clock, rfl, he⟩ := ho
  obtain ⟨l, hl⟩ := H.key x hx
  have hlt : g < w.heap.size := by
    rcases Nat.lt_or_ge g w.heap.size with hlt | hge
    · exact hlt
    · rw [Array.getElem?_eq_none hge] at hb; cases hb
  rcases names_find H hL hn he hx w with ⟨h1, h2⟩ | ⟨h1, j, h2⟩
  · refine ⟨{ w with heap := w.heap.setIfInBounds g (.map (es.push ⟨kv x, .int .i64 (L.length : Int), clock⟩) (clock + 1)) }, .map (es.push ⟨kv x, .int .i64 (L.length : Int), clock⟩) (clock + 1), ?_, ?_, ⟨_, _, rfl, ?_⟩, ⟨rfl, rfl, rfl, by simp, fun k hk hne => ?_⟩⟩
    · simp [Instr.mapUpdate, run_underlying H.und, run_getObj_map _ _ _ _ hb, H.K.check w _ hl, h2, MapKept.run_setObj_map _ hb, Result.andThen]
    · show (w.heap.setIfInBounds g _)[g]? = _
      rw [Array.getElem?_setIfInBounds_self_of_lt hlt]
    · rw [mpE_snoc]; simp [he]
    · show (w.heap.setIfInBounds g _)[k]? = _
      rw [Array.getElem?_setIfInBounds_ne (by omega)]
  · exact absurd h1 hnew
theorem wpList_names_put (H : KeyOk P mt kt vt kv ok) {ops : Array Oper} {rest : List Oper} {op : Oper} {a : Act} {Q : Exit → Act → World → Prop} (w : World) (hg : op.guard = none) (m x v : Operand) (hop : op.op = Op.mapUpdate mt m x v ∨ op.op = Op.insert mt m x v)
    (g : Nat) {L : List α} (hL : ∀ y ∈ L, ok y) (hn : L.Nodup) {o : Obj} (hb : w.heap[g]? = some o) (ho : NamesO kv o L) {y : α} (hy : ok y) (hnew : y ∉ L)
    (hm : a.eval m = .map (some g)) (hx : a.eval x = kv y) (hv : a.eval v = .int .i64 (L.length : Int))
    (hK : ∀ w' o', w'.heap[g]? = some o' → NamesO kv o' (L ++ [y]) → But g w w' → wpList P ops Q rest (a.put op.dst undef) w') :
    wpList P ops Q (op :: rest) a w := by
  refine wpList_plain hg fun K' hK' => ?_
  obtain ⟨w', o', hrun, r1, r2, r3⟩ := names_put H hL hn hb ho hy hnew
  unfold Oper.wp
  rcases hop with hop | hop
  · simp [execOp, hop, hm, hx, hv, hrun, Result.andThen]
    exact hK' _ _ (hK w' o' r1 r2 r3)
  · simp [execOp, hop, hm, hx, hv, hrun, Result.andThen]
    exact hK' _ _ (hK w' o' r1 r2 r3)
theorem wpList_names_look (H : KeyOk P mt kt vt kv ok) {ops : Array Oper} {rest : List Oper} {op : Oper} {a : Act} {Q : Exit → Act → World → Prop} (w : World) (hg : op.guard = none) (m x : Operand) (hop : op.op = Op.lookup mt m x true)
    (g : Nat) {L : List α} (hL : ∀ y ∈ L, ok y) (hn : L.Nodup) {o : Obj} (hb : w.heap[g]? = some o) (ho : NamesO kv o L) {y : α} (hy : ok y) (i : Int) (q : Bool) (hi : (if y ∈ L then (L.idxOf y : Int) else 0) = i) (hq : decide (y ∈ L) = q)
    (hm : a.eval m = .map (some g)) (hx : a.eval x = kv y)
    (hK : wpList P ops Q rest (a.put op.dst (.tuple #[.int .i64 i, .bool q])) w) :
    wpList P ops Q (op :: rest) a w := by
  subst hi hq
  refine wpList_plain hg fun K' hK' => ?_
  have hrun := names_look H hL hn hb ho hy
  unfold Oper.wp
  simp [execOp, hop, hm, hx, hrun, Result.andThen]
  exact hK' _ _ hK
end
end Go.Proofs.Ytbdfbmohdbigfaa


namespace Go.Proofs.Ytbdfbmohdbigfaa
open Go.RowKit Go.Maps
set_option linter.unusedVariables false
structure KeyB {α : Type} (P : Program) (mt kt vt : TypeId) (kv : α → Value) (ok : α → Prop) : Prop where
  K : Keyed P kt
  und : P.underlying mt = some (.map kt vt)
  zero : ∀ w : World, (zeroValue vt).run P w = .ok (.bool false) w
  key : ∀ x, ok x → ∃ l, keyOf P kt (kv x) = some l
  inj : ∀ x y, kv x = kv y → x = y
section
variable {α : Type} {kv : α → Value}
/-- The object is a map that holds just the keys L, in their order, each with true. -/
def SetO (kv : α → Value) (o : Obj) (L : List α) : Prop := ∃ (es : Array MapEntry) (clock : Nat), o = .map es clock ∧ es.toList.map (fun e => (e.key, e.val)) = L.map (fun x => (kv x, Value.bool true))
theorem SetO.nil (kv : α → Value) : SetO kv (.map #[] 0) [] := ⟨#[], 0, rfl, rfl⟩
end
section
variable {α : Type} {P : Program} {mt kt vt : TypeId} {kv : α → Value} {ok : α → Prop}
theorem setO_find (H : KeyB P mt kt vt kv ok) {L : List α} (hL : ∀ y ∈ L, ok y) {es : Array MapEntry} (he : es.toList.map (fun e => (e.key, e.val)) = L.map (fun x => (kv x, Value.bool true))) {x : α} (hx : ok x) (w : World) :
    (x ∉ L ∧ (Instr.findKey kt (kv x) es.toList).run P w = .ok none w) ∨ (x ∈ L ∧ ∃ j, (Instr.findKey kt (kv x) es.toList).run P w = .ok (some (j, .bool true)) w) := by
  obtain ⟨l, hl⟩ := H.key x hx
  have hk : ∀ e ∈ es.toList, ∃ y ∈ L, e.key = kv y ∧ e.val = .bool true := by
    intro e hm
    have : (e.key, e.val) ∈ L.map (fun x => (kv x, Value.bool true)) := by rw [← he]; exact List.mem_map.2 ⟨e, hm, rfl⟩
    obtain ⟨y, hy, e2⟩ := List.mem_map.1 this
    simp only [Prod.mk.injEq] at e2
    exact ⟨y, hy, e2.1.symm, e2.2.symm⟩
  rcases H.K.find w hl es.toList (fun e hm => by
    obtain ⟨y, hy, e1, _⟩ := hk e hm
    rw [e1]; exact H.key y (hL y hy)) with ⟨h1, h2⟩ | ⟨j, e, h1, h2, h3⟩
  · refine .inl ⟨fun hm => ?_, h1⟩
    have : (kv x, Value.bool true) ∈ es.toList.map (fun e => (e.key, e.val)) := by rw [he]; exact List.mem_map.2 ⟨x, hm, rfl⟩
    obtain ⟨e, hme, e2⟩ := List.mem_map.1 this
    simp only [Prod.mk.injEq] at e2
    exact h2 e hme e2.1
  · obtain ⟨y, hy, e1, e2⟩ := hk e (List.mem_of_getElem? h2)
    obtain rfl : y = x := H.inj _ _ (by rw [← e1, h3])
    exact .inr ⟨hy, j, by rw [h1, e2]⟩
theorem setO_look [DecidableEq α] (H : KeyB P mt kt vt kv ok) {L : List α} (hL : ∀ y ∈ L, ok y) {w : World} {g : Nat} {o : Obj} (hb : w.heap[g]? = some o) (ho : SetO kv o L) {x : α} (hx : ok x) :
    (Instr.lookup mt (.map (some g)) (kv x) false).run P w = .ok (.bool (decide (x ∈ L))) w := by
  obtain ⟨es, clock, rfl, he⟩ := ho
  obtain ⟨l, hl⟩ := H.key x hx
  rcases setO_find H hL he hx w with ⟨h1, h2⟩ | ⟨h1, j, h2⟩
  · simp [Instr.lookup, run_underlying H.und, run_getObj_map _ _ _ _ hb, H.K.check w _ hl, h2, H.zero, Result.andThen, h1]
  · simp [Instr.lookup, run_underlying H.und, run_getObj_map _ _ _ _ hb, H.K.check w _ hl, h2, Result.andThen, h1]
theorem setO_put (H : KeyB P mt kt vt kv ok) {L : List α} (hL : ∀ y ∈ L, ok y) {w : World} {g : Nat} {o : Obj} (hb : w.heap[g]? = some o) (ho : SetO kv o L) {x : α} (hx : ok x) (hnew : x ∉ L) :
    ∃ w' o', (Instr.mapUpdate mt (.map (some g)) (kv x) (.bool true)).run P w = .ok () w' ∧ w'.heap[g]? = some o' ∧ SetO kv o' (L ++ [x]) ∧ But g w w' := by
  obtain ⟨es, clock, rfl, he⟩ := ho
  obtain ⟨l, hl⟩ := H.key x hx
  have hlt : g < w.heap.size := by
    rcases Nat.lt_or_ge g w.heap.size with hlt | hge
    · exact hlt
    · rw [Array.getElem?_eq_none hge] at hb; cases hb
  rcases setO_find H hL he hx w with ⟨h1, h2⟩ | ⟨h1, j, h2⟩
  · refine ⟨{ w with heap := w.heap.setIfInBounds g (.map (es.push ⟨kv x, .bool true, clock⟩) (clock + 1)) }, .map (es.push ⟨kv x, .bool true, clock⟩) (clock + 1), ?_, ?_, ⟨_, _, rfl, ?_⟩, ⟨rfl, rfl, rfl, by simp, fun k hk hne => ?_⟩⟩
    · simp [Instr.mapUpdate, run_underlying H.und, run_getObj_map _ _ _ _ hb, H.K.check w _ hl, h2, MapKept.run_setObj_map _ hb, Result.andThen]
    · show (w.heap.setIfInBounds g _)[g]? = _
      rw [Array.getElem?_setIfInBounds_self_of_lt hlt]
    · simp [he]
    · show (w.heap.setIfInBounds g _)[k]? = _
      rw [Array.getElem?_setIfInBounds_ne (by omega)]
  · exact absurd h1 hnew
theorem wpList_setO_put (H : KeyB P mt kt vt kv ok) {ops : Array Oper} {rest : List Oper} {op : Oper} {a : Act} {Q : Exit → Act → World → Prop} (w : World) (hg : op.guard = none) (m x v : Operand) (hop : op.op = Op.mapUpdate mt m x v ∨ op.op = Op.insert mt m x v)
    (g : Nat) {L : List α} (hL : ∀ y ∈ L, ok y) {o : Obj} (hb : w.heap[g]? = some o) (ho : SetO kv o L) {y : α} (hy : ok y) (hnew : y ∉ L)
    (hm : a.eval m = .map (some g)) (hx : a.eval x = kv y) (hv : a.eval v = .bool true)
    (hK : ∀ w' o', w'.heap[g]? = some o' → SetO kv o' (L ++ [y]) → But g w w' → wpList P ops Q rest (a.put op.dst undef) w') :
    wpList P ops Q (op :: rest) a w := by
  refine wpList_plain hg fun K' hK' => ?_
  obtain ⟨w', o', hrun, r1, r2, r3⟩ := setO_put H hL hb ho hy hnew
  unfold Oper.wp
  rcases hop with hop | hop
  · simp [execOp, hop, hm, hx, hv, hrun, Result.andThen]
    exact hK' _ _ (hK w' o' r1 r2 r3)
  · simp [execOp, hop, hm, hx, hv, hrun, Result.andThen]
    exact hK' _ _ (hK w' o' r1 r2 r3)
theorem wpList_setO_look [DecidableEq α] (H : KeyB P mt kt vt kv ok) {ops : Array Oper} {rest : List Oper} {op : Oper} {a : Act} {Q : Exit → Act → World → Prop} (w : World) (hg : op.guard = none) (m x : Operand) (hop : op.op = Op.lookup mt m x false)
    (g : Nat) {L : List α} (hL : ∀ y ∈ L, ok y) {o : Obj} (hb : w.heap[g]? = some o) (ho : SetO kv o L) {y : α} (hy : ok y) (q : Bool) (hq : y ∈ L ↔ q = true)
    (hm : a.eval m = .map (some g)) (hx : a.eval x = kv y)
    (hK : wpList P ops Q rest (a.put op.dst (.bool q)) w) :
    wpList P ops Q (op :: rest) a w := by
  obtain rfl : decide (y ∈ L) = q := by
    cases q with
    | true => exact decide_eq_true (hq.2 rfl)
    | false => exact decide_eq_false (fun h => by have := hq.1 h; cases this)
  refine wpList_plain hg fun K' hK' => ?_
  have hrun := setO_look H hL hb ho hy
  unfold Oper.wp
  simp [execOp, hop, hm, hx, hrun, Result.andThen]
  exact hK' _ _ hK
end
end Go.Proofs.Ytbdfbmohdbigfaa


namespace Go.Proofs.Ytbdfbmohdbigfaa
open Go.RowKit Go.Maps
set_option linter.unusedVariables false
/-- A pair as a value. -/
def qv (p : Nat × Nat) : Value := .agg #[.int .i64 (p.1 : Int), .int .i64 (p.2 : Int)]
theorem qv_inj (p q : Nat × Nat) (h : qv p = qv q) : p = q := by
  obtain ⟨a, b⟩ := p
  obtain ⟨a', b'⟩ := q
  simp only [qv, Value.agg.injEq] at h
  simp at h
  obtain ⟨h1, h2⟩ := h
  rw [show a = a' by omega, show b = b' by omega]
def okQ (p : Nat × Nat) : Prop := p.1 < 64 ∧ p.2 < 64
theorem pairLaw : WideMaps.KeyLaw Try.prog 84 := deep_law (m := 2) (by omega) (by kernel_rfl) (by kernel_rfl) (by kernel_rfl)
theorem pairK : Keyed Try.prog 84 := Keyed.of_law pairLaw
theorem key_pair (p : Nat × Nat) (h : okQ p) : ∃ l, keyOf Try.prog 84 (qv p) = some l := by
  obtain ⟨a, b⟩ := p
  obtain ⟨h1, h2⟩ := h
  simp only at h1 h2
  have w1 : (Lit.int .i64 (a : Int)).wf = true := WalkArith.wf_i64 (by omega)
  have w2 : (Lit.int .i64 (b : Int)).wf = true := WalkArith.wf_i64 (by omega)
  have k1 : Try.prog.keyType 84 = true := by kernel_rfl
  have k2 : (qv (a, b)).formed Try.prog 84 = true := by kernel_rfl
  have c1 : Try.prog.cellsOf 84 = 2 := by kernel_rfl
  have c3 : Try.prog.cellsOf 2 = 1 := by kernel_rfl
  have hs : 0 < Try.prog.types.size := of_decide_eq_true (by kernel_rfl)
  obtain ⟨d, hd⟩ : ∃ d, Try.prog.types.size = d + 1 := ⟨Try.prog.types.size - 1, by omega⟩
  have kl : Try.prog.keyLits (Try.prog.types.size + 1) 84 [.int .i64 (a : Int), .int .i64 (b : Int)] = some [.int .i64 (a : Int), .int .i64 (b : Int)] := by
    rw [hd]
    simp [Program.keyLits, Try.underlying84, Try.underlying2, c1, c3, w1, w2, List.range_succ]
  refine ⟨.string (keyBytes [.int .i64 (a : Int), .int .i64 (b : Int)]), ?_⟩
  unfold keyOf
  rw [Try.underlying84]
  have hc : (qv (a, b)).cells.toList = [.int .i64 (a : Int), .int .i64 (b : Int)] := rfl
  simp only [k1, k2, Bool.and_self, if_true, hc, kl, Option.map_some]
theorem keyQ : KeyOk Try.prog 136 84 2 qv okQ where
  K := pairK
  und := Try.underlying136
  zero := fun w => by kernel_rfl
  key := key_pair
  inj := qv_inj
theorem setQ : KeyB Try.prog 141 84 4 qv okQ where
  K := pairK
  und := Try.underlying141
  zero := fun w => by kernel_rfl
  key := key_pair
  inj := qv_inj
end Go.Proofs.Ytbdfbmohdbigfaa


namespace Go.Proofs.Ytbdfbmohdbigfaa
open Go.RowKit
set_option linter.unusedVariables false
/-- A plain head of a slice: nil, or a place of its own. -/
def NilA (A : Option Addr) : Prop := A = none ∨ ∃ b o, A = some ⟨b, o, none⟩
theorem ownA_nil {w : World} {lo n c sz : Nat} {t : TypeId} {A : Option Addr} {xs : List Value} (h : w.ownsRow lo t sz (.slice A n c) n xs) : NilA A := by
  obtain ⟨_, h2⟩ := h
  rcases h2 with ⟨e, -⟩ | ⟨g', cap, cur, e, hb, hg, hnc, hm, hs, ht⟩
  · injection e with e1 _ _; exact .inl e1
  · injection e with e1 _ _; exact .inr ⟨g', 0, e1⟩
set_option maxHeartbeats 1000000 in
theorem iClo0 (c : Nat) (w : World) :
    Calls Try.prog 48 #[.slice none 0 c] w fun e w' => e = .returned (.slice none 0 0) ∧ w = w' := by
  have hnil := fun w => Lib.run_eql_slice_nil (P := Try.prog) w 26 2 none 0 c 0 0 Try.underlying26
  go_enter Try.func48, Try.ntmps48
  go_wp2_with fail
  go_ret
  exact ⟨rfl, rfl⟩
theorem iClo_any (A : Option Addr) (n c : Nat) (xs : List Int) (w : World) (hp : NilA A) (h : SlI w w.heap.size A n xs) (hn : n ≤ 4294967296) :
    Calls Try.prog 48 #[.slice A n c] w fun e w' => ∃ A' c', e = .returned (.slice A' xs.length c') ∧ RowI w' w.heap.size 2 (.slice A' xs.length c') xs ∧ Below w.heap.size w w' := by
  rcases hp with rfl | ⟨b, o, rfl⟩
  · have h0 : n = 0 := by
      rcases Nat.eq_zero_or_pos n with h0 | h0
      · exact h0
      · obtain ⟨_, _, e, _⟩ := h.2 h0; cases e
    subst h0
    have hl : xs = [] := List.length_eq_zero_iff.1 h.len
    subst hl
    refine (iClo0 c w).mono ?_
    rintro e w' ⟨rfl, rfl⟩
    exact ⟨none, 0, rfl, World.ownsRow_nil w _ _ 1, Below.refl _ _⟩
  · exact iCloneI_any b o n c xs w h hn
end Go.Proofs.Ytbdfbmohdbigfaa
