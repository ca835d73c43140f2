/- Several texts in one: Machines built of others, plainly: either one, one behind the other. Machines built of others, plainly: one behind the other, any number of words. Machines built of others, plainly: any number of words; least costs that are told as numbers. -/
import Derived.Test.YtedbngnkkfpbeaaMgm

namespace Go.Proofs.Ytedbngnkkfpbeaa
open Go.RowKit
set_option linter.unusedVariables false
theorem em_app {L M : List A4} {i k : Nat} {c : Int} : Em (L ++ M) i k c ↔ Em L i k c ∨ Em M i k c := by
  constructor
  · rintro ⟨a, ha, h⟩
    rcases List.mem_append.1 ha with ha | ha
    · exact .inl ⟨a, ha, h⟩
    · exact .inr ⟨a, ha, h⟩
  · rintro (⟨a, ha, h⟩ | ⟨a, ha, h⟩)
    · exact ⟨a, List.mem_append.2 (.inl ha), h⟩
    · exact ⟨a, List.mem_append.2 (.inr ha), h⟩
theorem lt_app {L M : List A4} {l : Int} {i k : Nat} {c : Int} : Lt (L ++ M) l i k c ↔ Lt L l i k c ∨ Lt M l i k c := by
  constructor
  · rintro ⟨a, ha, h⟩
    rcases List.mem_append.1 ha with ha | ha
    · exact .inl ⟨a, ha, h⟩
    · exact .inr ⟨a, ha, h⟩
  · rintro (⟨a, ha, h⟩ | ⟨a, ha, h⟩)
    · exact ⟨a, List.mem_append.2 (.inl ha), h⟩
    · exact ⟨a, List.mem_append.2 (.inr ha), h⟩
theorem em_mv {n d : Nat} {L : List A4} (hL : okM n L) {i k : Nat} {c : Int} : Em (L.map (mvA (d : Int))) i k c ↔ ∃ i' k', i = i' + d ∧ k = k' + d ∧ Em L i' k' c := by
  constructor
  · rintro ⟨b, hb, e1, e2, e3, e4⟩
    obtain ⟨a, ha, rfl⟩ := List.mem_map.1 hb
    have h := hL a ha
    have f1 : a.1 + (d : Int) = (i : Int) := e1
    have f2 : a.2.1 + (d : Int) = (k : Int) := e2
    exact ⟨a.1.toNat, a.2.1.toNat, by omega, by omega, a, ha, by omega, by omega, e3, e4⟩
  · rintro ⟨i', k', rfl, rfl, a, ha, e1, e2, e3, e4⟩
    exact ⟨mvA (d : Int) a, List.mem_map_of_mem ha, by show a.1 + (d : Int) = _; omega, by show a.2.1 + (d : Int) = _; omega, e3, e4⟩
theorem lt_mv {n d : Nat} {L : List A4} (hL : okM n L) {l : Int} {i k : Nat} {c : Int} : Lt (L.map (mvA (d : Int))) l i k c ↔ ∃ i' k', i = i' + d ∧ k = k' + d ∧ Lt L l i' k' c := by
  constructor
  · rintro ⟨b, hb, e1, e2, e3, e4⟩
    obtain ⟨a, ha, rfl⟩ := List.mem_map.1 hb
    have h := hL a ha
    have f1 : a.1 + (d : Int) = (i : Int) := e1
    have f2 : a.2.1 + (d : Int) = (k : Int) := e2
    exact ⟨a.1.toNat, a.2.1.toNat, by omega, by omega, a, ha, by omega, by omega, e3, e4⟩
  · rintro ⟨i', k', rfl, rfl, a, ha, e1, e2, e3, e4⟩
    exact ⟨mvA (d : Int) a, List.mem_map_of_mem ha, by show a.1 + (d : Int) = _; omega, by show a.2.1 + (d : Int) = _; omega, e3, e4⟩
theorem Rd.mono {L M : List A4} (h1 : ∀ i k c, Em L i k c → Em M i k c) (h2 : ∀ l i k c, Lt L l i k c → Lt M l i k c) {w : List Int} {i k : Nat} {c : Int} (h : Rd L w i k c) : Rd M w i k c := by
  induction h with
  | nil i => exact .nil i
  | emp hr _ ih => exact .emp (h1 _ _ _ hr) ih
  | let_ hr _ ih => exact .let_ (h2 _ _ _ _ hr) ih
theorem Rd.up {n d : Nat} {L : List A4} (hL : okM n L) {w : List Int} {i k : Nat} {c : Int} (h : Rd L w i k c) : Rd (L.map (mvA (d : Int))) w (i + d) (k + d) c := by
  induction h with
  | nil i => exact .nil _
  | emp hr _ ih => exact .emp ((em_mv hL).2 ⟨_, _, rfl, rfl, hr⟩) ih
  | let_ hr _ ih => exact .let_ ((lt_mv hL).2 ⟨_, _, rfl, rfl, hr⟩) ih
/-- In a part that no arc leaves. -/
theorem Rd.stay {n : Nat} {L M : List A4} (hL : okM n L) (h1 : ∀ i k c, i < n → Em M i k c → Em L i k c) (h2 : ∀ l i k c, i < n → Lt M l i k c → Lt L l i k c) {w : List Int} {i k : Nat} {c : Int} (h : Rd M w i k c) : i < n → Rd L w i k c := by
  induction h with
  | nil i => exact fun _ => .nil i
  | emp hr _ ih => exact fun hi => .emp (h1 _ _ _ hi hr) (ih (hL.em (h1 _ _ _ hi hr)).2.1)
  | let_ hr _ ih => exact fun hi => .let_ (h2 _ _ _ _ hi hr) (ih (hL.lt (h2 _ _ _ _ hi hr)).2.1)
theorem Rd.down {d : Nat} {L M : List A4} (h1 : ∀ i k c, Em M (i + d) k c → ∃ k', k = k' + d ∧ Em L i k' c) (h2 : ∀ l i k c, Lt M l (i + d) k c → ∃ k', k = k' + d ∧ Lt L l i k' c) {w : List Int} {j k : Nat} {c : Int} (h : Rd M w j k c) : ∀ i, j = i + d → ∃ k', k = k' + d ∧ Rd L w i k' c := by
  induction h with
  | nil i => exact fun i' e => ⟨i', e, .nil i'⟩
  | emp hr _ ih =>
    intro i' e
    subst e
    obtain ⟨x', rfl, g⟩ := h1 _ _ _ hr
    obtain ⟨k', e2, g2⟩ := ih x' rfl
    exact ⟨k', e2, .emp g g2⟩
  | let_ hr _ ih =>
    intro i' e
    subst e
    obtain ⟨x', rfl, g⟩ := h2 _ _ _ _ hr
    obtain ⟨k', e2, g2⟩ := ih x' rfl
    exact ⟨k', e2, .let_ g g2⟩
theorem Stt.left {P Q : List Int} {i : Nat} {c : Int} (h : Stt P i c) : Stt (P ++ Q) i c := ⟨by rw [List.getElem?_append_left h.lt]; exact h.1, h.2⟩
theorem Stt.right {P Q : List Int} {i : Nat} {c : Int} (h : Stt Q i c) : Stt (P ++ Q) (i + P.length) c := ⟨by rw [List.getElem?_append_right (by omega)]; rw [show i + P.length - P.length = i by omega]; exact h.1, h.2⟩
theorem Stt.app {P Q : List Int} {i : Nat} {c : Int} (h : Stt (P ++ Q) i c) : Stt P i c ∨ ∃ j, i = j + P.length ∧ Stt Q j c := by
  by_cases hi : i < P.length
  · exact .inl ⟨by have := h.1; rwa [List.getElem?_append_left hi] at this, h.2⟩
  · exact .inr ⟨i - P.length, by omega, by have := h.1; rwa [List.getElem?_append_right (by omega)] at this, h.2⟩
theorem Stt.none {n i : Nat} {c : Int} (h : Stt (List.replicate n (-1)) i c) : False := by
  have h1 := h.1; have h2 := h.2
  rw [List.getElem?_replicate] at h1
  split at h1
  · have := Option.some.inj h1; omega
  · cases h1
section
variable {L L' : List A4} {P P' E E' : List Int}
/-- Either one of two machines. -/
theorem wc_either (hL : okM P.length L) (hL' : okM P'.length L') (hE : E.length = P.length) (w : List Int) (c : Int) :
    Wc (eiL (P.length : Int) L L') (P ++ P') (E ++ E') w c ↔ Wc L P E w c ∨ Wc L' P' E' w c := by
  have m1 : ∀ i k c, i < P.length → Em (eiL (P.length : Int) L L') i k c → Em L i k c := fun i k c hi h => by
    rcases em_app.1 h with h | h
    · exact h
    · obtain ⟨i', k', e1, _, _⟩ := (em_mv hL').1 h; omega
  have m2 : ∀ l i k c, i < P.length → Lt (eiL (P.length : Int) L L') l i k c → Lt L l i k c := fun l i k c hi h => by
    rcases lt_app.1 h with h | h
    · exact h
    · obtain ⟨i', k', e1, _, _⟩ := (lt_mv hL').1 h; omega
  have m3 : ∀ i k c, Em (eiL (P.length : Int) L L') (i + P.length) k c → ∃ k', k = k' + P.length ∧ Em L' i k' c := fun i k c h => by
    rcases em_app.1 h with h | h
    · have := (hL.em h).1; omega
    · obtain ⟨i', k', e1, e2, g⟩ := (em_mv hL').1 h
      obtain rfl : i = i' := by omega
      exact ⟨k', e2, g⟩
  have m4 : ∀ l i k c, Lt (eiL (P.length : Int) L L') l (i + P.length) k c → ∃ k', k = k' + P.length ∧ Lt L' l i k' c := fun l i k c h => by
    rcases lt_app.1 h with h | h
    · have := (hL.lt h).1; omega
    · obtain ⟨i', k', e1, e2, g⟩ := (lt_mv hL').1 h
      obtain rfl : i = i' := by omega
      exact ⟨k', e2, g⟩
  constructor
  · rintro ⟨i, k, c0, c1, c2, h1, h2, h3, e⟩
    rcases h1.app with a1 | ⟨j, rfl, a1⟩
    · have g := h2.stay hL m1 m2 a1.lt
      have hk := g.lt hL a1.lt
      rcases h3.app with a3 | ⟨j, rfl, a3⟩
      · exact .inl ⟨i, k, c0, c1, c2, a1, g, a3, e⟩
      · omega
    · obtain ⟨k', rfl, g⟩ := h2.down m3 m4 j rfl
      rcases h3.app with a3 | ⟨j', e', a3⟩
      · have := a3.lt; omega
      · obtain rfl : k' = j' := by omega
        exact .inr ⟨j, k', c0, c1, c2, a1, g, a3, e⟩
  · rintro (⟨i, k, c0, c1, c2, h1, h2, h3, e⟩ | ⟨i, k, c0, c1, c2, h1, h2, h3, e⟩)
    · exact ⟨i, k, c0, c1, c2, h1.left, h2.mono (fun _ _ _ h => em_app.2 (.inl h)) (fun _ _ _ _ h => lt_app.2 (.inl h)), h3.left, e⟩
    · have h3' := h3.right (P := E)
      rw [hE] at h3'
      exact ⟨i + P.length, k + P.length, c0, c1, c2, h1.right, (h2.up hL').mono (fun _ _ _ h => em_app.2 (.inr h)) (fun _ _ _ _ h => lt_app.2 (.inr h)), h3', e⟩
/-- The arcs between the ends of one and the starts of the other. -/
theorem gath_mem {f : Nat → Int → List A4} {a : A4} : ∀ {xs : List Int} {k : Nat}, a ∈ gath f k xs ↔ ∃ j x, xs[j]? = some x ∧ a ∈ f (k + j) x
  | [], k => by simp [gath]
  | x :: xs, k => by
    show a ∈ f k x ++ gath f (k + 1) xs ↔ _
    rw [List.mem_append, gath_mem (xs := xs) (k := k + 1)]
    constructor
    · rintro (h | ⟨j, y, h1, h2⟩)
      · exact ⟨0, x, rfl, h⟩
      · exact ⟨j + 1, y, by simpa using h1, by rw [show k + (j + 1) = k + 1 + j by omega]; exact h2⟩
    · rintro ⟨j, y, h1, h2⟩
      cases j with
      | zero => simp at h1; subst h1; exact .inl h2
      | succ j => exact .inr ⟨j, y, by simpa using h1, by rw [show k + 1 + j = k + (j + 1) by omega]; exact h2⟩
def Cr (n : Nat) (P' E : List Int) (i k : Nat) (c : Int) : Prop := ∃ j e x, k = j + n ∧ Stt E i e ∧ Stt P' j x ∧ c = e + x
theorem em_cross {n : Nat} {i k : Nat} {c : Int} : Em (gath (jRw (n : Int) P') 0 E) i k c ↔ Cr n P' E i k c := by
  constructor
  · rintro ⟨a, ha, e1, e2, e3, e4⟩
    obtain ⟨i', e, h1, h2⟩ := gath_mem.1 ha
    obtain ⟨j, x, h3, h4⟩ := gath_mem.1 h2
    unfold jAr at h4
    split at h4
    · rename_i hp
      simp at h4
      subst h4
      simp at e1 e2 e4
      obtain rfl : i' = i := by omega
      exact ⟨j, e, x, by omega, ⟨h1, hp.1⟩, ⟨h3, hp.2⟩, by omega⟩
    · simp at h4
  · rintro ⟨j, e, x, rfl, h1, h2, e4⟩
    refine ⟨((i : Int), (n : Int) + (j : Int), -1, e + x), gath_mem.2 ⟨i, e, h1.1, gath_mem.2 ⟨j, x, h2.1, ?_⟩⟩, rfl, by show (n : Int) + (j : Int) = _; omega, by show (-1 : Int) < 0; omega, e4.symm⟩
    rw [jAr_pos h1.2 h2.2]; simp
theorem lt_cross {n : Nat} {l : Int} (hl : 0 ≤ l) {i k : Nat} {c : Int} (h : Lt (gath (jRw (n : Int) P') 0 E) l i k c) : False := by
  obtain ⟨a, ha, e1, e2, e3, e4⟩ := h
  obtain ⟨i', e, h1, h2⟩ := gath_mem.1 ha
  obtain ⟨j, x, h3, h4⟩ := gath_mem.1 h2
  unfold jAr at h4
  split at h4
  · simp at h4; subst h4; simp at e3; omega
  · simp at h4
end
end Go.Proofs.Ytedbngnkkfpbeaa


namespace Go.Proofs.Ytedbngnkkfpbeaa
open Go.RowKit
set_option linter.unusedVariables false
section
variable {L L' : List A4} {P P' E E' : List Int}
theorem joA_eq (n : Int) : joA n L L' P' E = (L ++ L'.map (mvA n)) ++ gath (jRw n P') 0 E := by
  unfold joA jo1 eiL; rw [List.take_length]
/-- From the first machine's states to the second one's: over one of the arcs between. -/
theorem Rd.cross {n : Nat} (hL : okM n L) (hL' : okM P'.length L') (hE : E.length = n) {w : List Int} {i k : Nat} {c : Int} (h : Rd (joA (n : Int) L L' P' E) w i k c) :
    (∀ l ∈ w, 0 ≤ l) → i < n → n ≤ k → ∃ u v p q c1 c2 e x k', w = u ++ v ∧ Rd L u i p c1 ∧ Stt E p e ∧ Stt P' q x ∧ k = k' + n ∧ Rd L' v q k' c2 ∧ c = c1 + (e + x) + c2 := by
  have m3 : ∀ i k c, Em (joA (n : Int) L L' P' E) (i + n) k c → ∃ k', k = k' + n ∧ Em L' i k' c := fun i k c h => by
    rw [joA_eq] at h
    rcases em_app.1 h with h | h
    · rcases em_app.1 h with h | h
      · have := (hL.em h).1; omega
      · obtain ⟨i', k', e1, e2, g⟩ := (em_mv hL').1 h
        obtain rfl : i = i' := by omega
        exact ⟨k', e2, g⟩
    · obtain ⟨j, e, x, _, h1, _⟩ := em_cross.1 h
      have := h1.lt; omega
  have m4 : ∀ l i k c, 0 ≤ l → Lt (joA (n : Int) L L' P' E) l (i + n) k c → ∃ k', k = k' + n ∧ Lt L' l i k' c := fun l i k c hl h => by
    rw [joA_eq] at h
    rcases lt_app.1 h with h | h
    · rcases lt_app.1 h with h | h
      · have := (hL.lt h).1; omega
      · obtain ⟨i', k', e1, e2, g⟩ := (lt_mv hL').1 h
        obtain rfl : i = i' := by omega
        exact ⟨k', e2, g⟩
    · exact (lt_cross hl h).elim
  have hdown : ∀ {w : List Int} {j k : Nat} {c : Int}, Rd (joA (n : Int) L L' P' E) w j k c → (∀ l ∈ w, 0 ≤ l) → ∀ i, j = i + n → ∃ k', k = k' + n ∧ Rd L' w i k' c := fun h => by
    induction h with
    | nil i => exact fun _ i' e => ⟨i', e, .nil i'⟩
    | emp hr _ ih =>
      intro hw i' e
      subst e
      obtain ⟨x', rfl, g⟩ := m3 _ _ _ hr
      obtain ⟨k', e2, g2⟩ := ih hw x' rfl
      exact ⟨k', e2, .emp g g2⟩
    | let_ hr _ ih =>
      intro hw i' e
      subst e
      obtain ⟨x', rfl, g⟩ := m4 _ _ _ _ (hw _ (by simp)) hr
      obtain ⟨k', e2, g2⟩ := ih (fun l hl => hw l (by simp [hl])) x' rfl
      exact ⟨k', e2, .let_ g g2⟩
  induction h with
  | nil i => intro _ h1 h2; omega
  | @emp w i x k c c' hr hd ih =>
    intro hw hi hk
    have hr' := hr
    rw [joA_eq] at hr'
    rcases em_app.1 hr' with h | h
    · rcases em_app.1 h with h | h
      · obtain ⟨u, v, p, q, c1, c2, e, y, k', e1, g1, g2, g3, g4, g5, e2⟩ := ih hw (hL.em h).2.1 hk
        exact ⟨u, v, p, q, c + c1, c2, e, y, k', e1, .emp h g1, g2, g3, g4, g5, by omega⟩
      · obtain ⟨i', k', e1, _, _⟩ := (em_mv hL').1 h; omega
    · obtain ⟨j, e, y, rfl, h1, h2, e1⟩ := em_cross.1 h
      obtain ⟨k', e2, g⟩ := hdown hd hw j rfl
      exact ⟨[], w, i, j, 0, c', e, y, k', rfl, .nil i, h1, h2, e2, g, by omega⟩
  | @let_ w l i x k c c' hr hd ih =>
    intro hw hi hk
    have hr' := hr
    rw [joA_eq] at hr'
    rcases lt_app.1 hr' with h | h
    · rcases lt_app.1 h with h | h
      · obtain ⟨u, v, p, q, c1, c2, e, y, k', e1, g1, g2, g3, g4, g5, e2⟩ := ih (fun l hl => hw l (by simp [hl])) (hL.lt h).2.1 hk
        exact ⟨l :: u, v, p, q, c + c1, c2, e, y, k', by rw [e1]; rfl, .let_ h g1, g2, g3, g4, g5, by omega⟩
      · obtain ⟨i', k', e1, _, _⟩ := (lt_mv hL').1 h; omega
    · exact (lt_cross (hw l (by simp)) h).elim
/-- A word of one, and then one of the other. -/
theorem wc_joined (hL : okM P.length L) (hL' : okM P'.length L') (hE : E.length = P.length) {w : List Int} (hw : ∀ l ∈ w, 0 ≤ l) (c : Int) :
    Wc (joA (P.length : Int) L L' P' E) (joS P P') (joE P E') w c ↔ ∃ u v c1 c2, w = u ++ v ∧ Wc L P E u c1 ∧ Wc L' P' E' v c2 ∧ c = c1 + c2 := by
  constructor
  · rintro ⟨i, k, c0, c1, c2, h1, h2, h3, e⟩
    rcases h1.app with a1 | ⟨j, rfl, a1⟩
    · rcases h3.app with a3 | ⟨j', e', a3⟩
      · exact a3.none.elim
      · rw [List.length_replicate] at e'
        obtain ⟨u, v, p, q, d1, d2, f, x, k', e1, g1, g2, g3, g4, g5, e2⟩ := h2.cross hL hL' hE hw a1.lt (by omega)
        obtain rfl : k' = j' := by omega
        exact ⟨u, v, c0 + d1 + f, x + d2 + c2, e1, ⟨i, p, c0, d1, f, a1, g1, g2, rfl⟩, ⟨q, k', x, d2, c2, g3, g5, a3, rfl⟩, by omega⟩
    · exact a1.none.elim
  · rintro ⟨u, v, c1, c2, rfl, ⟨i, p, a0, a1, a2, h1, h2, h3, e1⟩, ⟨q, k, b0, b1, b2, h4, h5, h6, e2⟩, e⟩
    have g1 : Rd (joA (P.length : Int) L L' P' E) u i p a1 := h2.mono (fun _ _ _ h => by rw [joA_eq]; exact em_app.2 (.inl (em_app.2 (.inl h)))) (fun _ _ _ _ h => by rw [joA_eq]; exact lt_app.2 (.inl (lt_app.2 (.inl h))))
    have g2 : Rd (joA (P.length : Int) L L' P' E) v (q + P.length) (k + P.length) b1 := (h5.up hL').mono (fun _ _ _ h => by rw [joA_eq]; exact em_app.2 (.inl (em_app.2 (.inr h)))) (fun _ _ _ _ h => by rw [joA_eq]; exact lt_app.2 (.inl (lt_app.2 (.inr h))))
    have g3 : Em (joA (P.length : Int) L L' P' E) p (q + P.length) (a2 + b0) := by rw [joA_eq]; exact em_app.2 (.inr (em_cross.2 ⟨q, a2, b0, rfl, h3, h4, rfl⟩))
    have h6' := h6.right (P := List.replicate P.length (-1))
    rw [List.length_replicate] at h6'
    exact ⟨i, k + P.length, a0, a1 + ((a2 + b0) + b1), b2, h1.left, g1.trans (.emp g3 g2), h6', by omega⟩
/-- Any number of words, one behind the other. -/
inductive Str (W : List Int → Int → Prop) : List Int → Int → Prop
  | nil : Str W [] 0
  | cons {u v : List Int} {c c' : Int} : W u c → Str W v c' → Str W (u ++ v) (c + c')
end
end Go.Proofs.Ytedbngnkkfpbeaa


namespace Go.Proofs.Ytedbngnkkfpbeaa
open Go.RowKit
set_option linter.unusedVariables false
section
variable {L : List A4} {P E : List Int}
theorem rpA_eq : rpA L P E = (L.map (mvA ((1 : Nat) : Int)) ++ gath sAr 0 P) ++ gath eAr 0 E := by
  unfold rpA rp2 rp1; rw [List.take_length, List.take_length]; rfl
theorem em_sAr {i k : Nat} {c : Int} : Em (gath sAr 0 P) i k c ↔ i = 0 ∧ ∃ j, k = j + 1 ∧ Stt P j c := by
  constructor
  · rintro ⟨a, ha, e1, e2, e3, e4⟩
    obtain ⟨j, x, h1, h2⟩ := gath_mem.1 ha
    unfold sAr at h2
    split at h2
    · rename_i hp
      simp at h2
      subst h2
      simp at e1 e2 e4
      subst e4
      exact ⟨by omega, j, by omega, h1, hp⟩
    · simp at h2
  · rintro ⟨rfl, j, rfl, h⟩
    exact ⟨(0, (j : Int) + 1, -1, c), gath_mem.2 ⟨j, c, h.1, by rw [Nat.zero_add, sAr_pos h.2]; simp⟩, rfl, rfl, by show (-1 : Int) < 0; omega, rfl⟩
theorem em_eAr {i k : Nat} {c : Int} : Em (gath eAr 0 E) i k c ↔ k = 0 ∧ ∃ j, i = j + 1 ∧ Stt E j c := by
  constructor
  · rintro ⟨a, ha, e1, e2, e3, e4⟩
    obtain ⟨j, x, h1, h2⟩ := gath_mem.1 ha
    unfold eAr at h2
    split at h2
    · rename_i hp
      simp at h2
      subst h2
      simp at e1 e2 e4
      subst e4
      exact ⟨by omega, j, by omega, h1, hp⟩
    · simp at h2
  · rintro ⟨rfl, j, rfl, h⟩
    exact ⟨((j : Int) + 1, 0, -1, c), gath_mem.2 ⟨j, c, h.1, by rw [Nat.zero_add, eAr_pos h.2]; simp⟩, rfl, rfl, by show (-1 : Int) < 0; omega, rfl⟩
theorem lt_sAr {l : Int} (hl : 0 ≤ l) {i k : Nat} {c : Int} (h : Lt (gath sAr 0 P) l i k c) : False := by
  obtain ⟨a, ha, e1, e2, e3, e4⟩ := h
  obtain ⟨j, x, h1, h2⟩ := gath_mem.1 ha
  unfold sAr at h2
  split at h2
  · simp at h2; subst h2; simp at e3; omega
  · simp at h2
theorem lt_eAr {l : Int} (hl : 0 ≤ l) {i k : Nat} {c : Int} (h : Lt (gath eAr 0 E) l i k c) : False := by
  obtain ⟨a, ha, e1, e2, e3, e4⟩ := h
  obtain ⟨j, x, h1, h2⟩ := gath_mem.1 ha
  unfold eAr at h2
  split at h2
  · simp at h2; subst h2; simp at e3; omega
  · simp at h2
theorem em_rp {n : Nat} (hL : okM n L) {i k : Nat} {c : Int} : Em (rpA L P E) i k c ↔ (∃ i' k', i = i' + 1 ∧ k = k' + 1 ∧ Em L i' k' c) ∨ (i = 0 ∧ ∃ j, k = j + 1 ∧ Stt P j c) ∨ (k = 0 ∧ ∃ j, i = j + 1 ∧ Stt E j c) := by
  rw [rpA_eq, em_app, em_app, em_mv hL, em_sAr, em_eAr, or_assoc]
theorem lt_rp {n : Nat} (hL : okM n L) {l : Int} (hl : 0 ≤ l) {i k : Nat} {c : Int} : Lt (rpA L P E) l i k c ↔ ∃ i' k', i = i' + 1 ∧ k = k' + 1 ∧ Lt L l i' k' c := by
  rw [rpA_eq, lt_app, lt_app, lt_mv hL]
  exact ⟨fun h => h.elim (fun h => h.elim id (fun h => (lt_sAr hl h).elim)) (fun h => (lt_eAr hl h).elim), fun h => .inl (.inl h)⟩
theorem Rd.star {n : Nat} (hL : okM n L) {w : List Int} {i k : Nat} {c : Int} (h : Rd (rpA L P E) w i k c) :
    (∀ l ∈ w, 0 ≤ l) → k = 0 → (i = 0 → Str (Wc L P E) w c) ∧ ∀ j, i = j + 1 → ∃ u v p c1 e c2, w = u ++ v ∧ Rd L u j p c1 ∧ Stt E p e ∧ Str (Wc L P E) v c2 ∧ c = c1 + e + c2 := by
  induction h with
  | nil i => exact fun _ hk => ⟨fun _ => .nil, fun j e => by omega⟩
  | @emp w i x k c c' hr hd ih =>
    intro hw hk
    obtain ⟨ih1, ih2⟩ := ih hw hk
    rcases (em_rp hL).1 hr with ⟨i', k', rfl, rfl, g⟩ | ⟨rfl, j, rfl, g⟩ | ⟨rfl, j, rfl, g⟩
    · refine ⟨fun e => by omega, fun j e => ?_⟩
      obtain rfl : i' = j := by omega
      obtain ⟨u, v, p, c1, e, c2, e1, g1, g2, g3, e2⟩ := ih2 k' rfl
      exact ⟨u, v, p, c + c1, e, c2, e1, .emp g g1, g2, g3, by omega⟩
    · refine ⟨fun _ => ?_, fun j e => by omega⟩
      obtain ⟨u, v, p, c1, e, c2, rfl, g1, g2, g3, e2⟩ := ih2 j rfl
      have := Str.cons (W := Wc L P E) ⟨j, p, c, c1, e, g, g1, g2, rfl⟩ g3
      rwa [show c + c1 + e + c2 = c + c' by omega] at this
    · refine ⟨fun e => by omega, fun j' e => ?_⟩
      obtain rfl : j = j' := by omega
      exact ⟨[], w, j, 0, c, c', rfl, .nil j, g, ih1 rfl, by omega⟩
  | @let_ w l i x k c c' hr hd ih =>
    intro hw hk
    obtain ⟨ih1, ih2⟩ := ih (fun l hl => hw l (by simp [hl])) hk
    obtain ⟨i', k', rfl, rfl, g⟩ := (lt_rp hL (hw l (by simp))).1 hr
    refine ⟨fun e => by omega, fun j e => ?_⟩
    obtain rfl : i' = j := by omega
    obtain ⟨u, v, p, c1, e, c2, e1, g1, g2, g3, e2⟩ := ih2 k' rfl
    exact ⟨l :: u, v, p, c + c1, e, c2, by rw [e1]; rfl, .let_ g g1, g2, g3, by omega⟩
theorem Rd.upR {n : Nat} (hL : okM n L) {w : List Int} {i k : Nat} {c : Int} (h : Rd L w i k c) : Rd (rpA L P E) w (i + 1) (k + 1) c :=
  (h.up hL (d := 1)).mono (fun _ _ _ h => by rw [rpA_eq]; exact em_app.2 (.inl (em_app.2 (.inl h)))) (fun _ _ _ _ h => by rw [rpA_eq]; exact lt_app.2 (.inl (lt_app.2 (.inl h))))
theorem Str.rd {n : Nat} (hL : okM n L) {w : List Int} {c : Int} (h : Str (Wc L P E) w c) : Rd (rpA L P E) w 0 0 c := by
  induction h with
  | nil => exact .nil 0
  | @cons u v c c' h1 _ ih =>
    obtain ⟨i, k, a0, a1, a2, g1, g2, g3, e⟩ := h1
    have s1 : Em (rpA L P E) 0 (i + 1) a0 := (em_rp hL).2 (.inr (.inl ⟨rfl, i, rfl, g1⟩))
    have s2 : Em (rpA L P E) (k + 1) 0 a2 := (em_rp hL).2 (.inr (.inr ⟨rfl, k, rfl, g3⟩))
    exact (Rd.emp s1 ((g2.upR hL).trans (.emp s2 ih))).cast (by omega)
theorem stt_rpS {n i : Nat} {c : Int} : Stt (rpS n) i c ↔ i = 0 ∧ c = 0 := by
  constructor
  · intro h
    cases i with
    | zero => have h1 : some (0 : Int) = some c := h.1; exact ⟨rfl, (Option.some.inj h1).symm⟩
    | succ i => exact (Stt.none (n := n) (i := i) (c := c) ⟨by have := h.1; simpa [rpS] using this, h.2⟩).elim
  · rintro ⟨rfl, rfl⟩; exact ⟨rfl, Int.le_refl _⟩
/-- Any number of words of a machine. -/
theorem wc_repeat {n m : Nat} (hL : okM n L) {w : List Int} (hw : ∀ l ∈ w, 0 ≤ l) (c : Int) : Wc (rpA L P E) (rpS m) (rpS m) w c ↔ Str (Wc L P E) w c := by
  constructor
  · rintro ⟨i, k, c0, c1, c2, h1, h2, h3, e⟩
    obtain ⟨rfl, rfl⟩ := stt_rpS.1 h1
    obtain ⟨rfl, rfl⟩ := stt_rpS.1 h3
    have := (h2.star hL hw rfl).1 rfl
    rwa [show c = c1 by omega]
  · intro h
    exact ⟨0, 0, 0, c, 0, stt_rpS.2 ⟨rfl, rfl⟩, h.rd hL, stt_rpS.2 ⟨rfl, rfl⟩, by omega⟩
end
/-- v tells the least of the costs: -1 if there is none. -/
def Cv (v : Int) (Q : Int → Prop) : Prop := (v = -1 ∧ ∀ c, ¬ Q c) ∨ (0 ≤ v ∧ Q v ∧ ∀ c, Q c → v ≤ c)
theorem Cv.uniq {x y : Int} {Q : Int → Prop} (hx : Cv x Q) (hy : Cv y Q) : x = y := by
  rcases hx with ⟨e1, n1⟩ | ⟨p1, q1, l1⟩ <;> rcases hy with ⟨e2, n2⟩ | ⟨p2, q2, l2⟩
  · omega
  · exact absurd q2 (n1 _)
  · exact absurd q1 (n2 _)
  · have := l1 _ q2; have := l2 _ q1; omega
theorem Cv.congr {x : Int} {Q R : Int → Prop} (h : Cv x Q) (e : ∀ c, Q c ↔ R c) : Cv x R := by
  have : Q = R := funext fun c => propext (e c)
  rwa [← this]
/-- Costs of another set that is no worse. -/
theorem Cv.sub {x : Int} {Q R : Int → Prop} (h : Cv x Q) (h1 : ∀ c, Q c → R c) (h2 : ∀ c, R c → ∃ c', c' ≤ c ∧ Q c') : Cv x R := by
  rcases h with ⟨e, n⟩ | ⟨p, q, l⟩
  · exact .inl ⟨e, fun c hc => by obtain ⟨c', _, h⟩ := h2 c hc; exact n c' h⟩
  · exact .inr ⟨p, h1 _ q, fun c hc => by obtain ⟨c', a, h⟩ := h2 c hc; have := l c' h; omega⟩
theorem Cv.of_lst {F x : Int} {Q : Int → Prop} (h : Lst F x Q) (hn : ∀ c, Q c → 0 ≤ c) (hs : ∀ c, Q c → ∃ c', Q c' ∧ c' < F) : Cv (tld F x) Q := by
  unfold tld
  by_cases hx : F ≤ x
  · rw [if_pos hx]
    refine .inl ⟨rfl, fun c hc => ?_⟩
    obtain ⟨c', h1, h2⟩ := hs c hc
    have := h.2.1 c' h1; omega
  · rw [if_neg hx]
    exact .inr ⟨hn _ (h.2.2 (by omega)), h.2.2 (by omega), h.2.1⟩
/-- The lesser one of two costs; two costs together. -/
def r8L (a b : Int) : Int := if a < 0 then b else if b < 0 then a else Min.min a b
def r8A (a b : Int) : Int := if 0 ≤ a ∧ 0 ≤ b then a + b else -1
theorem Cv.or {x y : Int} {Q R : Int → Prop} (hx : Cv x Q) (hy : Cv y R) : Cv (r8L x y) (fun c => Q c ∨ R c) := by
  unfold r8L
  rcases hx with ⟨e1, n1⟩ | ⟨p1, q1, l1⟩
  · rw [if_pos (by omega)]
    exact Cv.congr hy (fun c => ⟨.inr, fun h => h.elim (fun h => absurd h (n1 c)) id⟩)
  · rw [if_neg (by omega)]
    rcases hy with ⟨e2, n2⟩ | ⟨p2, q2, l2⟩
    · rw [if_pos (by omega)]
      exact .inr ⟨p1, .inl q1, fun c h => h.elim (l1 c) (fun h => absurd h (n2 c))⟩
    · rw [if_neg (by omega)]
      refine .inr ⟨by omega, ?_, fun c h => h.elim (fun h => by have := l1 c h; omega) (fun h => by have := l2 c h; omega)⟩
      by_cases h : x ≤ y
      · rw [show Min.min x y = x by omega]; exact .inl q1
      · rw [show Min.min x y = y by omega]; exact .inr q2
theorem Cv.add {x y : Int} {Q R : Int → Prop} (hx : Cv x Q) (hy : Cv y R) : Cv (r8A x y) (fun c => ∃ c1 c2, Q c1 ∧ R c2 ∧ c = c1 + c2) := by
  unfold r8A
  rcases hx with ⟨e1, n1⟩ | ⟨p1, q1, l1⟩
  · rw [if_neg (by omega)]; exact .inl ⟨rfl, fun c ⟨c1, c2, h, _⟩ => n1 c1 h⟩
  · rcases hy with ⟨e2, n2⟩ | ⟨p2, q2, l2⟩
    · rw [if_neg (by omega)]; exact .inl ⟨rfl, fun c ⟨c1, c2, _, h, _⟩ => n2 c2 h⟩
    · rw [if_pos ⟨p1, p2⟩]
      exact .inr ⟨by omega, ⟨x, y, q1, q2, rfl⟩, fun c ⟨c1, c2, h1, h2, e⟩ => by have := l1 c1 h1; have := l2 c2 h2; omega⟩
theorem Cv.none : Cv (-1) (fun _ => False) := .inl ⟨rfl, fun _ h => h⟩
end Go.Proofs.Ytedbngnkkfpbeaa
