/- Several texts in one: Machines built of others, plainly: one behind the other, any number of words. Machines built of others, plainly: any number of words; least costs that are told as numbers. Best words, plainly: program and reference choose the same word. -/
import Derived.Test.YtbdfbmohdbigfaaMgm
import Derived.Test.YtbdfbmohdbigfaaMgl

namespace Go.Proofs.Ytbdfbmohdbigfaa
open Go.RowKit
set_option linter.unusedVariables false
section
variable {L L' : List A4} {P P' E E' : List Int}
theorem joA_eq (n : Int) : joA n L L' P' E = (L ++ L'.map (mvA n)) ++ gath (jRw n P') 0 E := by
  unfold joA jo1 eiL; rw [List.take_length]
/-- From the first machine's states to the second one's: over one of the arcs between. -/
theorem Rd.cross {n : Nat} (hL : okM n L) (hL' : okM P'.length L') (hE : E.length = n) {w : List Int} {i k : Nat} {c : Int} (h : Rd (joA (n : Int) L L' P' E) w i k c) :
    (∀ l ∈ w, 0 ≤ l) → i < n → n ≤ k → ∃ u v p q c1 c2 e x k', w = u ++ v ∧ Rd L u i p c1 ∧ Stt E p e ∧ Stt P' q x ∧ k = k' + n ∧ Rd L' v q k' c2 ∧ c = c1 + (e + x) + c2 := by
  have m3 : ∀ i k c, Em (joA (n : Int) L L' P' E) (i + n) k c → ∃ k', k = k' + n ∧ Em L' i k' c := fun i k c h => by
    rw [joA_eq] at h
    rcases em_app.1 h with h | h
    · rcases em_app.1 h with h | h
      · have := (hL.em h).1; omega
      · obtain ⟨i', k', e1, e2, g⟩ := (em_mv hL').1 h
        obtain rfl : i = i' := by omega
        exact ⟨k', e2, g⟩
    · obtain ⟨j, e, x, _, h1, _⟩ := em_cross.1 h
      have := h1.lt; omega
  have m4 : ∀ l i k c, 0 ≤ l → Lt (joA (n : Int) L L' P' E) l (i + n) k c → ∃ k', k = k' + n ∧ Lt L' l i k' c := fun l i k c hl h => by
    rw [joA_eq] at h
    rcases lt_app.1 h with h | h
    · rcases lt_app.1 h with h | h
      · have := (hL.lt h).1; omega
      · obtain ⟨i', k', e1, e2, g⟩ := (lt_mv hL').1 h
        obtain rfl : i = i' := by omega
        exact ⟨k', e2, g⟩
    · exact (lt_cross hl h).elim
  have hdown : ∀ {w : List Int} {j k : Nat} {c : Int}, Rd (joA (n : Int) L L' P' E) w j k c → (∀ l ∈ w, 0 ≤ l) → ∀ i, j = i + n → ∃ k', k = k' + n ∧ Rd L' w i k' c := fun h => by
    induction h with
    | nil i => exact fun _ i' e => ⟨i', e, .nil i'⟩
    | emp hr _ ih =>
      intro hw i' e
      subst e
      obtain ⟨x', rfl, g⟩ := m3 _ _ _ hr
      obtain ⟨k', e2, g2⟩ := ih hw x' rfl
      exact ⟨k', e2, .emp g g2⟩
    | let_ hr _ ih =>
      intro hw i' e
      subst e
      obtain ⟨x', rfl, g⟩ := m4 _ _ _ _ (hw _ (by simp)) hr
      obtain ⟨k', e2, g2⟩ := ih (fun l hl => hw l (by simp [hl])) x' rfl
      exact ⟨k', e2, .let_ g g2⟩
  induction h with
  | nil i => intro _ h1 h2; omega
  | @emp w i x k c c' hr hd ih =>
    intro hw hi hk
    have hr' := hr
    rw [joA_eq] at hr'
    rcases em_app.1 hr' with h | h
    · rcases em_app.1 h with h | h
      · obtain ⟨u, v, p, q, c1, c2, e, y, k', e1, g1, g2, g3, g4, g5, e2⟩ := ih hw (hL.em h).2.1 hk
        exact ⟨u, v, p, q, c + c1, c2, e, y, k', e1, .emp h g1, g2, g3, g4, g5, by omega⟩
      · obtain ⟨i', k', e1, _, _⟩ := (em_mv hL').1 h; omega
    · obtain ⟨j, e, y, rfl, h1, h2, e1⟩ := em_cross.1 h
      obtain ⟨k', e2, g⟩ := hdown hd hw j rfl
      exact ⟨[], w, i, j, 0, c', e, y, k', rfl, .nil i, h1, h2, e2, g, by omega⟩
  | @let_ w l i x k c c' hr hd ih =>
    intro hw hi hk
    have hr' := hr
    rw [joA_eq] at hr'
    rcases lt_app.1 hr' with h | h
    · rcases lt_app.1 h with h | h
      · obtain ⟨u, v, p, q, c1, c2, e, y, k', e1, g1, g2, g3, g4, g5, e2⟩ := ih (fun l hl => hw l (by simp [hl])) (hL.lt h).2.1 hk
        exact ⟨l :: u, v, p, q, c + c1, c2, e, y, k', by rw [e1]; rfl, .let_ h g1, g2, g3, g4, g5, by omega⟩
      · obtain ⟨i', k', e1, _, _⟩ := (lt_mv hL').1 h; omega
    · exact (lt_cross (hw l (by simp)) h).elim
/-- A word of one, and then one of the other. -/
theorem wc_joined (hL : okM P.length L) (hL' : okM P'.length L') (hE : E.length = P.length) {w : List Int} (hw : ∀ l ∈ w, 0 ≤ l) (c : Int) :
    Wc (joA (P.length : Int) L L' P' E) (joS P P') (joE P E') w c ↔ ∃ u v c1 c2, w = u ++ v ∧ Wc L P E u c1 ∧ Wc L' P' E' v c2 ∧ c = c1 + c2 := by
  constructor
  · rintro ⟨i, k, c0, c1, c2, h1, h2, h3, e⟩
    rcases h1.app with a1 | ⟨j, rfl, a1⟩
    · rcases h3.app with a3 | ⟨j', e', a3⟩
      · exact a3.none.elim
      · rw [List.length_replicate] at e'
        obtain ⟨u, v, p, q, d1, d2, f, x, k', e1, g1, g2, g3, g4, g5, e2⟩ := h2.cross hL hL' hE hw a1.lt (by omega)
        obtain rfl : k' = j' := by omega
        exact ⟨u, v, c0 + d1 + f, x + d2 + c2, e1, ⟨i, p, c0, d1, f, a1, g1, g2, rfl⟩, ⟨q, k', x, d2, c2, g3, g5, a3, rfl⟩, by omega⟩
    · exact a1.none.elim
  · rintro ⟨u, v, c1, c2, rfl, ⟨i, p, a0, a1, a2, h1, h2, h3, e1⟩, ⟨q, k, b0, b1, b2, h4, h5, h6, e2⟩, e⟩
    have g1 : Rd (joA (P.length : Int) L L' P' E) u i p a1 := h2.mono (fun _ _ _ h => by rw [joA_eq]; exact em_app.2 (.inl (em_app.2 (.inl h)))) (fun _ _ _ _ h => by rw [joA_eq]; exact lt_app.2 (.inl (lt_app.2 (.inl h))))
    have g2 : Rd (joA (P.length : Int) L L' P' E) v (q + P.length) (k + P.length) b1 := (h5.up hL').mono (fun _ _ _ h => by rw [joA_eq]; exact em_app.2 (.inl (em_app.2 (.inr h)))) (fun _ _ _ _ h => by rw [joA_eq]; exact lt_app.2 (.inl (lt_app.2 (.inr h))))
    have g3 : Em (joA (P.length : Int) L L' P' E) p (q + P.length) (a2 + b0) := by rw [joA_eq]; exact em_app.2 (.inr (em_cross.2 ⟨q, a2, b0, rfl, h3, h4, rfl⟩))
    have h6' := h6.right (P := List.replicate P.length (-1))
    rw [List.length_replicate] at h6'
    exact ⟨i, k + P.length, a0, a1 + ((a2 + b0) + b1), b2, h1.left, g1.trans (.emp g3 g2), h6', by omega⟩
/-- Any number of words, one behind the other. -/
inductive Str (W : List Int → Int → Prop) : List Int → Int → Prop
  | nil : Str W [] 0
  | cons {u v : List Int} {c c' : Int} : W u c → Str W v c' → Str W (u ++ v) (c + c')
end
end Go.Proofs.Ytbdfbmohdbigfaa


namespace Go.Proofs.Ytbdfbmohdbigfaa
open Go.RowKit
set_option linter.unusedVariables false
section
variable {L : List A4} {P E : List Int}
theorem rpA_eq : rpA L P E = (L.map (mvA ((1 : Nat) : Int)) ++ gath sAr 0 P) ++ gath eAr 0 E := by
  unfold rpA rp2 rp1; rw [List.take_length, List.take_length]; rfl
theorem em_sAr {i k : Nat} {c : Int} : Em (gath sAr 0 P) i k c ↔ i = 0 ∧ ∃ j, k = j + 1 ∧ Stt P j c := by
  constructor
  · rintro ⟨a, ha, e1, e2, e3, e4⟩
    obtain ⟨j, x, h1, h2⟩ := gath_mem.1 ha
    unfold sAr at h2
    split at h2
    · rename_i hp
      simp at h2
      subst h2
      simp at e1 e2 e4
      subst e4
      exact ⟨by omega, j, by omega, h1, hp⟩
    · simp at h2
  · rintro ⟨rfl, j, rfl, h⟩
    exact ⟨(0, (j : Int) + 1, -1, c), gath_mem.2 ⟨j, c, h.1, by rw [Nat.zero_add, sAr_pos h.2]; simp⟩, rfl, rfl, by show (-1 : Int) < 0; omega, rfl⟩
theorem em_eAr {i k : Nat} {c : Int} : Em (gath eAr 0 E) i k c ↔ k = 0 ∧ ∃ j, i = j + 1 ∧ Stt E j c := by
  constructor
  · rintro ⟨a, ha, e1, e2, e3, e4⟩
    obtain ⟨j, x, h1, h2⟩ := gath_mem.1 ha
    unfold eAr at h2
    split at h2
    · rename_i hp
      simp at h2
      subst h2
      simp at e1 e2 e4
      subst e4
      exact ⟨by omega, j, by omega, h1, hp⟩
    · simp at h2
  · rintro ⟨rfl, j, rfl, h⟩
    exact ⟨((j : Int) + 1, 0, -1, c), gath_mem.2 ⟨j, c, h.1, by rw [Nat.zero_add, eAr_pos h.2]; simp⟩, rfl, rfl, by show (-1 : Int) < 0; omega, rfl⟩
theorem lt_sAr {l : Int} (hl : 0 ≤ l) {i k : Nat} {c : Int} (h : Lt (gath sAr 0 P) l i k c) : False := by
  obtain ⟨a, ha, e1, e2, e3, e4⟩ := h
  obtain ⟨j, x, h1, h2⟩ := gath_mem.1 ha
  unfold sAr at h2
  split at h2
  · simp at h2; subst h2; simp at e3; omega
  · simp at h2
theorem lt_eAr {l : Int} (hl : 0 ≤ l) {i k : Nat} {c : Int} (h : Lt (gath eAr 0 E) l i k c) : False := by
  obtain ⟨a, ha, e1, e2, e3, e4⟩ := h
  obtain ⟨j, x, h1, h2⟩ := gath_mem.1 ha
  unfold eAr at h2
  split at h2
  · simp at h2; subst h2; simp at e3; omega
  · simp at h2
theorem em_rp {n : Nat} (hL : okM n L) {i k : Nat} {c : Int} : Em (rpA L P E) i k c ↔ (∃ i' k', i = i' + 1 ∧ k = k' + 1 ∧ Em L i' k' c) ∨ (i = 0 ∧ ∃ j, k = j + 1 ∧ Stt P j c) ∨ (k = 0 ∧ ∃ j, i = j + 1 ∧ Stt E j c) := by
  rw [rpA_eq, em_app, em_app, em_mv hL, em_sAr, em_eAr, or_assoc]
theorem lt_rp {n : Nat} (hL : okM n L) {l : Int} (hl : 0 ≤ l) {i k : Nat} {c : Int} : Lt (rpA L P E) l i k c ↔ ∃ i' k', i = i' + 1 ∧ k = k' + 1 ∧ Lt L l i' k' c := by
  rw [rpA_eq, lt_app, lt_app, lt_mv hL]
  exact ⟨fun h => h.elim (fun h => h.elim id (fun h => (lt_sAr hl h).elim)) (fun h => (lt_eAr hl h).elim), fun h => .inl (.inl h)⟩
theorem Rd.star {n : Nat} (hL : okM n L) {w : List Int} {i k : Nat} {c : Int} (h : Rd (rpA L P E) w i k c) :
    (∀ l ∈ w, 0 ≤ l) → k = 0 → (i = 0 → Str (Wc L P E) w c) ∧ ∀ j, i = j + 1 → ∃ u v p c1 e c2, w = u ++ v ∧ Rd L u j p c1 ∧ Stt E p e ∧ Str (Wc L P E) v c2 ∧ c = c1 + e + c2 := by
  induction h with
  | nil i => exact fun _ hk => ⟨fun _ => .nil, fun j e => by omega⟩
  | @emp w i x k c c' hr hd ih =>
    intro hw hk
    obtain ⟨ih1, ih2⟩ := ih hw hk
    rcases (em_rp hL).1 hr with ⟨i', k', rfl, rfl, g⟩ | ⟨rfl, j, rfl, g⟩ | ⟨rfl, j, rfl, g⟩
    · refine ⟨fun e => by omega, fun j e => ?_⟩
      obtain rfl : i' = j := by omega
      obtain ⟨u, v, p, c1, e, c2, e1, g1, g2, g3, e2⟩ := ih2 k' rfl
      exact ⟨u, v, p, c + c1, e, c2, e1, .emp g g1, g2, g3, by omega⟩
    · refine ⟨fun _ => ?_, fun j e => by omega⟩
      obtain ⟨u, v, p, c1, e, c2, rfl, g1, g2, g3, e2⟩ := ih2 j rfl
      have := Str.cons (W := Wc L P E) ⟨j, p, c, c1, e, g, g1, g2, rfl⟩ g3
      rwa [show c + c1 + e + c2 = c + c' by omega] at this
    · refine ⟨fun e => by omega, fun j' e => ?_⟩
      obtain rfl : j = j' := by omega
      exact ⟨[], w, j, 0, c, c', rfl, .nil j, g, ih1 rfl, by omega⟩
  | @let_ w l i x k c c' hr hd ih =>
    intro hw hk
    obtain ⟨ih1, ih2⟩ := ih (fun l hl => hw l (by simp [hl])) hk
    obtain ⟨i', k', rfl, rfl, g⟩ := (lt_rp hL (hw l (by simp))).1 hr
    refine ⟨fun e => by omega, fun j e => ?_⟩
    obtain rfl : i' = j := by omega
    obtain ⟨u, v, p, c1, e, c2, e1, g1, g2, g3, e2⟩ := ih2 k' rfl
    exact ⟨l :: u, v, p, c + c1, e, c2, by rw [e1]; rfl, .let_ g g1, g2, g3, by omega⟩
theorem Rd.upR {n : Nat} (hL : okM n L) {w : List Int} {i k : Nat} {c : Int} (h : Rd L w i k c) : Rd (rpA L P E) w (i + 1) (k + 1) c :=
  (h.up hL (d := 1)).mono (fun _ _ _ h => by rw [rpA_eq]; exact em_app.2 (.inl (em_app.2 (.inl h)))) (fun _ _ _ _ h => by rw [rpA_eq]; exact lt_app.2 (.inl (lt_app.2 (.inl h))))
theorem Str.rd {n : Nat} (hL : okM n L) {w : List Int} {c : Int} (h : Str (Wc L P E) w c) : Rd (rpA L P E) w 0 0 c := by
  induction h with
  | nil => exact .nil 0
  | @cons u v c c' h1 _ ih =>
    obtain ⟨i, k, a0, a1, a2, g1, g2, g3, e⟩ := h1
    have s1 : Em (rpA L P E) 0 (i + 1) a0 := (em_rp hL).2 (.inr (.inl ⟨rfl, i, rfl, g1⟩))
    have s2 : Em (rpA L P E) (k + 1) 0 a2 := (em_rp hL).2 (.inr (.inr ⟨rfl, k, rfl, g3⟩))
    exact (Rd.emp s1 ((g2.upR hL).trans (.emp s2 ih))).cast (by omega)
theorem stt_rpS {n i : Nat} {c : Int} : Stt (rpS n) i c ↔ i = 0 ∧ c = 0 := by
  constructor
  · intro h
    cases i with
    | zero => have h1 : some (0 : Int) = some c := h.1; exact ⟨rfl, (Option.some.inj h1).symm⟩
    | succ i => exact (Stt.none (n := n) (i := i) (c := c) ⟨by have := h.1; simpa [rpS] using this, h.2⟩).elim
  · rintro ⟨rfl, rfl⟩; exact ⟨rfl, Int.le_refl _⟩
/-- Any number of words of a machine. -/
theorem wc_repeat {n m : Nat} (hL : okM n L) {w : List Int} (hw : ∀ l ∈ w, 0 ≤ l) (c : Int) : Wc (rpA L P E) (rpS m) (rpS m) w c ↔ Str (Wc L P E) w c := by
  constructor
  · rintro ⟨i, k, c0, c1, c2, h1, h2, h3, e⟩
    obtain ⟨rfl, rfl⟩ := stt_rpS.1 h1
    obtain ⟨rfl, rfl⟩ := stt_rpS.1 h3
    have := (h2.star hL hw rfl).1 rfl
    rwa [show c = c1 by omega]
  · intro h
    exact ⟨0, 0, 0, c, 0, stt_rpS.2 ⟨rfl, rfl⟩, h.rd hL, stt_rpS.2 ⟨rfl, rfl⟩, by omega⟩
end
/-- v tells the least of the costs: -1 if there is none. -/
def Cv (v : Int) (Q : Int → Prop) : Prop := (v = -1 ∧ ∀ c, ¬ Q c) ∨ (0 ≤ v ∧ Q v ∧ ∀ c, Q c → v ≤ c)
theorem Cv.uniq {x y : Int} {Q : Int → Prop} (hx : Cv x Q) (hy : Cv y Q) : x = y := by
  rcases hx with ⟨e1, n1⟩ | ⟨p1, q1, l1⟩ <;> rcases hy with ⟨e2, n2⟩ | ⟨p2, q2, l2⟩
  · omega
  · exact absurd q2 (n1 _)
  · exact absurd q1 (n2 _)
  · have := l1 _ q2; have := l2 _ q1; omega
theorem Cv.congr {x : Int} {Q R : Int → Prop} (h : Cv x Q) (e : ∀ c, Q c ↔ R c) : Cv x R := by
  have : Q = R := funext fun c => propext (e c)
  rwa [← this]
/-- Costs of another set that is no worse. -/
theorem Cv.sub {x : Int} {Q R : Int → Prop} (h : Cv x Q) (h1 : ∀ c, Q c → R c) (h2 : ∀ c, R c → ∃ c', c' ≤ c ∧ Q c') : Cv x R := by
  rcases h with ⟨e, n⟩ | ⟨p, q, l⟩
  · exact .inl ⟨e, fun c hc => by obtain ⟨c', _, h⟩ := h2 c hc; exact n c' h⟩
  · exact .inr ⟨p, h1 _ q, fun c hc => by obtain ⟨c', a, h⟩ := h2 c hc; have := l c' h; omega⟩
theorem Cv.of_lst {F x : Int} {Q : Int → Prop} (h : Lst F x Q) (hn : ∀ c, Q c → 0 ≤ c) (hs : ∀ c, Q c → ∃ c', Q c' ∧ c' < F) : Cv (tld F x) Q := by
  unfold tld
  by_cases hx : F ≤ x
  · rw [if_pos hx]
    refine .inl ⟨rfl, fun c hc => ?_⟩
    obtain ⟨c', h1, h2⟩ := hs c hc
    have := h.2.1 c' h1; omega
  · rw [if_neg hx]
    exact .inr ⟨hn _ (h.2.2 (by omega)), h.2.2 (by omega), h.2.1⟩
/-- The lesser one of two costs; two costs together. -/
def r8L (a b : Int) : Int := if a < 0 then b else if b < 0 then a else Min.min a b
def r8A (a b : Int) : Int := if 0 ≤ a ∧ 0 ≤ b then a + b else -1
theorem Cv.or {x y : Int} {Q R : Int → Prop} (hx : Cv x Q) (hy : Cv y R) : Cv (r8L x y) (fun c => Q c ∨ R c) := by
  unfold r8L
  rcases hx with ⟨e1, n1⟩ | ⟨p1, q1, l1⟩
  · rw [if_pos (by omega)]
    exact Cv.congr hy (fun c => ⟨.inr, fun h => h.elim (fun h => absurd h (n1 c)) id⟩)
  · rw [if_neg (by omega)]
    rcases hy with ⟨e2, n2⟩ | ⟨p2, q2, l2⟩
    · rw [if_pos (by omega)]
      exact .inr ⟨p1, .inl q1, fun c h => h.elim (l1 c) (fun h => absurd h (n2 c))⟩
    · rw [if_neg (by omega)]
      refine .inr ⟨by omega, ?_, fun c h => h.elim (fun h => by have := l1 c h; omega) (fun h => by have := l2 c h; omega)⟩
      by_cases h : x ≤ y
      · rw [show Min.min x y = x by omega]; exact .inl q1
      · rw [show Min.min x y = y by omega]; exact .inr q2
theorem Cv.add {x y : Int} {Q R : Int → Prop} (hx : Cv x Q) (hy : Cv y R) : Cv (r8A x y) (fun c => ∃ c1 c2, Q c1 ∧ R c2 ∧ c = c1 + c2) := by
  unfold r8A
  rcases hx with ⟨e1, n1⟩ | ⟨p1, q1, l1⟩
  · rw [if_neg (by omega)]; exact .inl ⟨rfl, fun c ⟨c1, c2, h, _⟩ => n1 c1 h⟩
  · rcases hy with ⟨e2, n2⟩ | ⟨p2, q2, l2⟩
    · rw [if_neg (by omega)]; exact .inl ⟨rfl, fun c ⟨c1, c2, _, h, _⟩ => n2 c2 h⟩
    · rw [if_pos ⟨p1, p2⟩]
      exact .inr ⟨by omega, ⟨x, y, q1, q2, rfl⟩, fun c ⟨c1, c2, h1, h2, e⟩ => by have := l1 c1 h1; have := l2 c2 h2; omega⟩
theorem Cv.none : Cv (-1) (fun _ => False) := .inl ⟨rfl, fun _ h => h⟩
end Go.Proofs.Ytbdfbmohdbigfaa


namespace Go.Proofs.Ytbdfbmohdbigfaa
open Go.RowKit
set_option linter.unusedVariables false
/-- The costs behind these letters (told backwards), as the program and the reference reckon them. -/
def cwV (F : Int) (L : List A4) (P : List Int) : List Int → List Int
  | [] => fiV F L P
  | l :: rw => stV F L l (cwV F L P rw)
def nwV (F : Int) (L : List A4) (P : List Int) (C : List (List Int)) : List Int → List Int
  | [] => frL F P
  | l :: rw => mvV F (nwV F L P C rw) (spV F L l C)
theorem cwV_len (F : Int) (L : List A4) (P : List Int) : ∀ rw, (cwV F L P rw).length = P.length
  | [] => fiV_len F L P
  | l :: rw => by rw [cwV, stV_len, cwV_len F L P rw]
theorem nwV_len (F : Int) (L : List A4) (P : List Int) (C : List (List Int)) : ∀ rw, (nwV F L P C rw).length = P.length
  | [] => frL_len F P
  | l :: rw => by rw [nwV, mvV_len, nwV_len F L P C rw]
theorem cwV_bd {F : Int} (hF : 0 ≤ F) {L : List A4} {P : List Int} (hP : ∀ x ∈ P, x ≤ F) (hL : ∀ a ∈ L, 0 ≤ a.2.2.2) : ∀ rw, Bd F (cwV F L P rw)
  | [] => fiV_bd hF hP hL
  | l :: rw => stV_bd hF (cwV_bd hF hP hL rw) hL
theorem nwV_bd {F : Int} (hF : 0 ≤ F) {L : List A4} {P : List Int} {C : List (List Int)} (hP : ∀ x ∈ P, x ≤ F) (hL : ∀ a ∈ L, 0 ≤ a.2.2.2) (hC : BdR F C) : ∀ rw, Bd F (nwV F L P C rw)
  | [] => frL_bd hF hP
  | l :: rw => mvV_bd hF (nwV_bd hF hP hL hC rw) (spV_bd hF hC hL)
theorem rep_cw {F : Int} (hF : 0 ≤ F) {L : List A4} {P : List Int} (hL : okM P.length L) (hP : ∀ x ∈ P, x ≤ F) : ∀ rw, Rep F P.length (cwV F L P rw) (Cl P.length L (Bw P.length L P rw))
  | [] => (rep_fr hP).relax hL
  | l :: rw => by
    have h := rep_cw hF hL hP rw
    have h2 := Rep.step (l := l) hL h hF L.length
    rw [List.take_length] at h2
    have h3 := h2.relax hL
    rw [cwV]
    unfold stV
    rw [cwV_len]
    exact h3
theorem rep_nw {F : Int} (hF : 0 ≤ F) {L : List A4} {P : List Int} {C : List (List Int)} (hL : okM P.length L) (hP : ∀ x ∈ P, x ≤ F) (hC : ClsT F P.length L C) : ∀ rw, Rep F P.length (nwV F L P C rw) (Bw P.length L P rw)
  | [] => rep_fr hP
  | l :: rw => rep_move hF hL (rep_nw hF hL hP hC rw) (nwV_bd hF hP hL.cost hC.2.1 rw) hC
/-- A machine's numbers, as both programs want them. -/
structure Okw (T : Nat) (L : List A4) (P E : List Int) : Prop where
  len : E.length = P.length
  n : P.length ≤ 16
  arcs : okM P.length L
  st : ∀ x ∈ P, x ≤ 1000
  en : ∀ x ∈ E, x ≤ 1000
/-- The least cost of all ways; the tests. -/
def bcI (F : Int) (L : List A4) (P E : List Int) : Int := lsm F (frL F P) (edV F L E) P.length
def lgI (F : Int) (T : Nat) (L : List A4) (P E : List Int) (r : Nat) : Int := lsm F (frL F P) (rsV F T L E r) P.length
def htI (F : Int) (T : Nat) (L : List A4) (P E : List Int) (rw : List Int) (r l : Nat) : Int := lsm F (stV F L (l : Int) (cwV F L P rw)) (rsV F T L E r) P.length
def lgR (F : Int) (T : Nat) (L : List A4) (P E : List Int) (C : List (List Int)) (r : Nat) : Int := lsm F (frL F P) (reV F T L E C r) P.length
def htR (F : Int) (T : Nat) (L : List A4) (P E : List Int) (C : List (List Int)) (rw : List Int) (r l : Nat) : Int := lsm F (mvV F (nwV F L P C rw) (spV F L (l : Int) C)) (reV F T L E C r) P.length
section
variable {F : Int} {T : Nat} {L : List A4} {P E : List Int} {C : List (List Int)}
theorem Stt.nonneg {P : List Int} (i : Nat) (c : Int) (h : Stt P i c) : 0 ≤ c := h.2
theorem Al.nonneg {n : Nat} (hL : okM n L) (i : Nat) (c : Int) (h : Al n L E i c) : 0 ≤ c := by
  obtain ⟨k, c1, c2, hk, h1, h2, e⟩ := h
  have := h1.nonneg (fun i k c h => (hL.an h).2.2.1)
  have := h2.2
  omega
theorem Bst.nonneg {n : Nat} (hL : okM n L) {c : Int} (h : Bst n L P E c) : 0 ≤ c := by
  obtain ⟨i, c1, c2, hi, h1, h2, e⟩ := h
  have := h1.2; have := Al.nonneg hL i c2 h2
  omega
theorem lst_bc (ho : Okw T L P E) (hF : 1000 ≤ F) : Lst F (bcI F L P E) (Bst P.length L P E) := by
  have hL := ho.arcs
  have h1 := rep_fr (F := F) (P := P) (fun x hx => by have := ho.st x hx; omega)
  have h2 := rep_ed (F := F) (L := L) (E := E) (by rw [ho.len]; exact hL) (fun x hx => by have := ho.en x hx; omega)
  rw [ho.len] at h2
  exact lst_sm (by omega) h1 h2 (fun i c => Stt.nonneg i c) (fun i c => Al.nonneg hL i c)
theorem lst_lgI (ho : Okw T L P E) (hF : 1000 ≤ F) (r : Nat) : Lst F (lgI F T L P E r) (Ht P.length T L P E [] r) := by
  have hL := ho.arcs
  have h1 := rep_fr (F := F) (P := P) (fun x hx => by have := ho.st x hx; omega)
  have h2 := rep_rs (F := F) (T := T) (L := L) (E := E) (by omega) (by rw [ho.len]; exact hL) (fun x hx => by have := ho.en x hx; omega) r
  rw [ho.len] at h2
  exact lst_sm (by omega) h1 h2 (fun i c => Stt.nonneg i c) (fun i c h => h.nonneg hL)
theorem lst_htI (ho : Okw T L P E) (hF : 1000 ≤ F) (rw : List Int) (r l : Nat) : Lst F (htI F T L P E rw r l) (Ht P.length T L P E ((l : Int) :: rw) r) := by
  have hL := ho.arcs
  have h1 := rep_cw (F := F) (by omega) hL (fun x hx => by have := ho.st x hx; omega) ((l : Int) :: rw)
  have h2 := rep_rs (F := F) (T := T) (L := L) (E := E) (by omega) (by rw [ho.len]; exact hL) (fun x hx => by have := ho.en x hx; omega) r
  rw [ho.len] at h2
  exact (lst_sm (by omega) h1 h2 (fun i c h => h.nonneg hL (fun i c h => Bw.nonneg hL _ i c h)) (fun i c h => h.nonneg hL)).congr (fun c => Ht.cl)
theorem lst_lgR (ho : Okw T L P E) (hF : 1000 ≤ F) (hC : ClsT F P.length L C) (r : Nat) : Lst F (lgR F T L P E C r) (Ht P.length T L P E [] r) := by
  have hL := ho.arcs
  have h1 := rep_fr (F := F) (P := P) (fun x hx => by have := ho.st x hx; omega)
  have h2 := rep_re (F := F) (T := T) (L := L) (E := E) (C := C) (by omega) (by rw [ho.len]; exact hL) (by rw [ho.len]; exact hC) r
  rw [ho.len] at h2
  exact lst_sm (by omega) h1 h2 (fun i c => Stt.nonneg i c) (fun i c h => h.nonneg hL)
theorem lst_htR (ho : Okw T L P E) (hF : 1000 ≤ F) (hC : ClsT F P.length L C) (rw : List Int) (r l : Nat) : Lst F (htR F T L P E C rw r l) (Ht P.length T L P E ((l : Int) :: rw) r) := by
  have hL := ho.arcs
  have h1 := rep_nw (F := F) (by omega) hL (fun x hx => by have := ho.st x hx; omega) hC ((l : Int) :: rw)
  have h2 := rep_re (F := F) (T := T) (L := L) (E := E) (C := C) (by omega) (by rw [ho.len]; exact hL) (by rw [ho.len]; exact hC) r
  rw [ho.len] at h2
  exact lst_sm (by omega) h1 h2 (fun i c h => Bw.nonneg hL _ i c h) (fun i c h => h.nonneg hL)
theorem Bst.short (ho : Okw T L P E) {c : Int} (h : Bst P.length L P E c) : ∃ c', Bst P.length L P E c' ∧ c' ≤ 18000 := by
  have hL := ho.arcs
  obtain ⟨i, c1, c2, hi, h1, ⟨k, d1, d2, hk, h2, h3, e2⟩, e⟩ := h
  obtain ⟨l, d1', p1, p2, _, p3⟩ := h2.short (b := 1000) (fun i k c h => (hL.an h).2.2.1) (fun i k c h => (hL.an h).2.2.2) (fun i k c h => (hL.an h).2.1) (by omega) hi
  have a1 := ho.st c1 (List.mem_of_getElem? h1.1)
  have a2 := ho.en d2 (List.mem_of_getElem? h3.1)
  have a3 := ho.n
  refine ⟨c1 + (d1' + d2), ⟨i, c1, d1' + d2, hi, h1, ⟨k, d1', d2, hk, p1.way, h3, rfl⟩, rfl⟩, ?_⟩
  omega
/-- The least cost is told alike. -/
theorem bc_same (ho : Okw T L P E) {F' : Int} (hF : 20000 ≤ F) (hF' : 20000 ≤ F') : tld F (bcI F L P E) = tld F' (bcI F' L P E) :=
  tld_same (lst_bc ho (by omega)) (lst_bc ho (by omega)) (fun c hc => by
    obtain ⟨c', h1, h2⟩ := Bst.short ho hc
    exact ⟨c', h1, by omega, by omega⟩)
theorem bc_nn (ho : Okw T L P E) (hF : 1000 ≤ F) : 0 ≤ bcI F L P E := (lst_bc ho hF).nn (by omega) (fun c h => Bst.nonneg ho.arcs h)
theorem bc_both (ho : Okw T L P E) {F' : Int} (hF : 20000 ≤ F) (hF' : 20000 ≤ F') : (bcI F L P E < F ↔ bcI F' L P E < F') ∧ (bcI F L P E < F → bcI F L P E = bcI F' L P E) := by
  have h := bc_same ho hF hF'
  have h1 := bc_nn ho (F := F) (by omega)
  have h2 := bc_nn ho (F := F') (by omega)
  unfold tld at h
  by_cases a : F ≤ bcI F L P E <;> by_cases b : F' ≤ bcI F' L P E
  · rw [if_pos a, if_pos b] at h; exact ⟨by omega, fun _ => by omega⟩
  · rw [if_pos a, if_neg b] at h; exact ⟨by omega, fun _ => by omega⟩
  · rw [if_neg a, if_pos b] at h; exact ⟨by omega, fun _ => by omega⟩
  · rw [if_neg a, if_neg b] at h; exact ⟨by omega, fun _ => by omega⟩
/-- What the program's tests say; what the reference's say. -/
theorem lgI_iff (ho : Okw T L P E) (hF : 1000 ≤ F) (hb : bcI F L P E < F) (r : Nat) : tld F (lgI F T L P E r) = bcI F L P E ↔ Ht P.length T L P E [] r (bcI F L P E) := hit_tld (lst_lgI ho hF r) (lst_bc ho hF) (fun c h => h.bst) hb (bc_nn ho hF)
theorem htI_iff (ho : Okw T L P E) (hF : 1000 ≤ F) (hb : bcI F L P E < F) (rw : List Int) (r l : Nat) : tld F (htI F T L P E rw r l) = bcI F L P E ↔ Ht P.length T L P E ((l : Int) :: rw) r (bcI F L P E) := hit_tld (lst_htI ho hF rw r l) (lst_bc ho hF) (fun c h => h.bst) hb (bc_nn ho hF)
theorem lgR_iff (ho : Okw T L P E) (hF : 1000 ≤ F) (hC : ClsT F P.length L C) (hb : bcI F L P E < F) (r : Nat) : lgR F T L P E C r ≤ bcI F L P E ↔ Ht P.length T L P E [] r (bcI F L P E) := hit_le (lst_lgR ho hF hC r) (lst_bc ho hF) (fun c h => h.bst) hb
theorem htR_iff (ho : Okw T L P E) (hF : 1000 ≤ F) (hC : ClsT F P.length L C) (hb : bcI F L P E < F) (rw : List Int) (r l : Nat) : htR F T L P E C rw r l ≤ bcI F L P E ↔ Ht P.length T L P E ((l : Int) :: rw) r (bcI F L P E) := hit_le (lst_htR ho hF hC rw r l) (lst_bc ho hF) (fun c h => h.bst) hb
/-- The program's letters: 'h' is its test. -/
def hI (F : Int) (T : Nat) (L : List A4) (P E : List Int) (rw : List Int) (r l : Nat) : Bool := decide (tld F (htI F T L P E rw r l) = bcI F L P E)
def hR (F : Int) (T : Nat) (L : List A4) (P E : List Int) (C : List (List Int)) (rw : List Int) (r l : Nat) : Bool := decide (htR F T L P E C rw r l ≤ bcI F L P E)
def lI (F : Int) (T : Nat) (L : List A4) (P E : List Int) : Nat := fstT (fun r => decide (tld F (lgI F T L P E r) = bcI F L P E)) 13 0
def lR (F : Int) (T : Nat) (L : List A4) (P E : List Int) (C : List (List Int)) : Nat := fstT (fun r => decide (lgR F T L P E C r ≤ bcI F L P E)) 13 0
theorem h_same (ho : Okw T L P E) {F' : Int} (hF : 20000 ≤ F) (hF' : 20000 ≤ F') (hC : ClsT F' P.length L C) (hb : bcI F L P E < F) : hI F T L P E = hR F' T L P E C ∧ lI F T L P E = lR F' T L P E C := by
  obtain ⟨b1, b2⟩ := bc_both ho hF hF'
  have hb' := b1.1 hb
  have e := b2 hb
  have q : ∀ {p q : Prop} [Decidable p] [Decidable q], (p ↔ q) → decide p = decide q := fun h => by simp [h]
  refine ⟨funext fun rw => funext fun r => funext fun l => ?_, ?_⟩
  · refine q ((htI_iff ho (by omega) hb rw r l).trans ?_)
    rw [e]
    exact (htR_iff ho (by omega) hC hb' rw r l).symm
  · unfold lI lR
    congr 1
    refine funext fun r => q ((lgI_iff ho (by omega) hb r).trans ?_)
    rw [e]
    exact (lgR_iff ho (by omega) hC hb' r).symm
/-- The next letter is there. -/
theorem nextL {rw : List Int} {r : Nat} {b : Int} {h : Nat → Bool} (hh : ∀ l, h l = true ↔ Ht P.length T L P E ((l : Int) :: rw) r b) (hw : Ht P.length T L P E rw (r + 1) b) :
    h (fstT h T 0) = true ∧ fstT h T 0 < T ∧ (∀ j, j < fstT h T 0 → h j = false) ∧ Ht P.length T L P E ((fstT h T 0 : Int) :: rw) r b := by
  obtain ⟨l, hl, hx⟩ := Ht.succ.1 hw
  obtain ⟨a, _, c, d⟩ := fstT_spec (p := h) (f := T) (l := 0) (m := l) (by omega) (by omega) ((hh l).2 hx)
  exact ⟨a, by omega, fun j hj => d j (by omega) hj, (hh _).1 a⟩
end
end Go.Proofs.Ytbdfbmohdbigfaa
