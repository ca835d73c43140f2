/- Several texts in one: The plain law of a search through places: a list that grows, looked at from its head on. The plain law of least costs: ways through a machine, relaxing along empty arcs, the closure. -/
import Derived.Test.YtedbngnkkfpbeaaMgb

namespace Go.Proofs.Ytedbngnkkfpbeaa
open Go.RowKit
set_option linter.unusedVariables false
theorem nodup_lt {n : Nat} : ∀ {l : List Nat}, l.Nodup → (∀ x ∈ l, x < n) → l.length ≤ n := by
  induction n with
  | zero =>
    intro l _ h
    cases l with
    | nil => simp
    | cons a l => exact absurd (h a (by simp)) (by omega)
  | succ n ih =>
    intro l hn h
    by_cases hm : n ∈ l
    · have h1 : (l.erase n).Nodup := hn.erase n
      have h2 : (l.erase n).length ≤ n := ih h1 (fun x hx => by
        have hx' := (hn.mem_erase_iff).1 hx
        have := h x hx'.2
        omega)
      rw [List.length_erase_of_mem hm] at h2
      omega
    · have := ih hn (fun x hx => by
        have := h x hx
        have : x ≠ n := fun e => hm (e ▸ hx)
        omega)
      omega
abbrev P3 := Nat × Nat × Int
def pss (ws : List Int) (k : Nat) (letter : Int) : Option Nat := if letter < 0 then some k else if ws[k]? = some letter then some (k + 1) else none
theorem pss_le {ws : List Int} {k i : Nat} {letter : Int} (h : pss ws k letter = some i) (hk : k ≤ ws.length) : i ≤ ws.length := by
  unfold pss at h
  split at h
  · simp at h; omega
  · split at h
    · rename_i h2
      have := (List.getElem?_eq_some_iff.1 h2).1
      simp at h; omega
    · cases h
def nxt (xs ys : List Int) (p : P3) (a : A4) : Option P3 :=
  if a.1 = p.2.2 then match pss xs p.1 a.2.2.1, pss ys p.2.1 a.2.2.2 with
    | some i, some k => some (i, k, a.2.1)
    | _, _ => none
  else none
def addp (ps : List P3) : Option P3 → List P3
  | none => ps
  | some q => if q ∈ ps then ps else ps ++ [q]
def rnd (xs ys : List Int) (L : List A4) (p : P3) (ps : List P3) : List P3 := L.foldl (fun ps a => addp ps (nxt xs ys p a)) ps
theorem rnd_zero (xs ys : List Int) (L : List A4) (p : P3) (ps : List P3) : rnd xs ys (L.take 0) p ps = ps := by simp [rnd]
theorem rnd_succ {xs ys : List Int} {L : List A4} {p : P3} {ps : List P3} {j : Nat} {a : A4} (h : L[j]? = some a) : rnd xs ys (L.take (j + 1)) p ps = addp (rnd xs ys (L.take j) p ps) (nxt xs ys p a) := by
  obtain ⟨hj, rfl⟩ := List.getElem?_eq_some_iff.1 h
  unfold rnd
  rw [List.take_succ_eq_append_getElem hj, List.foldl_append]
  rfl
/-- A place is within the words and the states. -/
def okP (S : Int) (xs ys : List Int) (p : P3) : Prop := p.1 ≤ xs.length ∧ p.2.1 ≤ ys.length ∧ 0 ≤ p.2.2 ∧ p.2.2 < S
def okL (S : Int) (xs ys : List Int) (ps : List P3) : Prop := ps.Nodup ∧ ∀ p ∈ ps, okP S xs ys p
theorem nxt_ok {S : Int} {xs ys : List Int} {p q : P3} {a : A4} (hp : okP S xs ys p) (ha : 0 ≤ a.2.1 ∧ a.2.1 < S) (h : nxt xs ys p a = some q) : okP S xs ys q := by
  unfold nxt at h
  split at h
  · split at h
    · rename_i i k h1 h2
      simp at h; subst h
      exact ⟨pss_le h1 hp.1, pss_le h2 hp.2.1, ha.1, ha.2⟩
    · cases h
  · cases h
theorem addp_ok {S : Int} {xs ys : List Int} {ps : List P3} {o : Option P3} (h : okL S xs ys ps) (ho : ∀ q, o = some q → okP S xs ys q) : okL S xs ys (addp ps o) := by
  cases o with
  | none => exact h
  | some q =>
    by_cases hm : q ∈ ps
    · rw [show addp ps (some q) = ps from if_pos hm]; exact h
    · rw [show addp ps (some q) = ps ++ [q] from if_neg hm]
      refine ⟨?_, fun x hx => ?_⟩
      · rw [List.nodup_append]
        refine ⟨h.1, by simp, fun a ha b hb => ?_⟩
        simp at hb; subst hb
        exact fun e => hm (e ▸ ha)
      · rcases List.mem_append.1 hx with hx | hx
        · exact h.2 x hx
        · simp at hx; subst hx; exact ho _ rfl
def encP (wide count : Nat) (p : P3) : Nat := p.2.2.toNat * count + p.1 * wide + p.2.1
theorem encP_lt {S : Int} {xs ys : List Int} {p : P3} (h : okP S xs ys p) : encP (ys.length + 1) ((xs.length + 1) * (ys.length + 1)) p < S.toNat * ((xs.length + 1) * (ys.length + 1)) := by
  obtain ⟨h1, h2, h3, h4⟩ := h
  unfold encP
  have a1 : p.2.2.toNat + 1 ≤ S.toNat := by omega
  have a2 := Nat.mul_le_mul_right ((xs.length + 1) * (ys.length + 1)) a1
  have a3 := Nat.mul_le_mul_right (ys.length + 1) (show p.1 + 1 ≤ xs.length + 1 by omega)
  rw [Nat.add_mul, Nat.one_mul] at a2 a3
  omega
theorem encP_inj {S : Int} {xs ys : List Int} {p q : P3} (hp : okP S xs ys p) (hq : okP S xs ys q) (h : encP (ys.length + 1) ((xs.length + 1) * (ys.length + 1)) p = encP (ys.length + 1) ((xs.length + 1) * (ys.length + 1)) q) : p = q := by
  obtain ⟨p1, p2, p3, p4⟩ := hp
  obtain ⟨q1, q2, q3, q4⟩ := hq
  obtain ⟨a, b, c⟩ := p
  obtain ⟨a', b', c'⟩ := q
  simp only at *
  unfold encP at h
  simp only at h
  have r1 : a * (ys.length + 1) + b < (xs.length + 1) * (ys.length + 1) := by
    have a3 := Nat.mul_le_mul_right (ys.length + 1) (show a + 1 ≤ xs.length + 1 by omega)
    rw [Nat.add_mul, Nat.one_mul] at a3
    omega
  have r2 : a' * (ys.length + 1) + b' < (xs.length + 1) * (ys.length + 1) := by
    have a3 := Nat.mul_le_mul_right (ys.length + 1) (show a' + 1 ≤ xs.length + 1 by omega)
    rw [Nat.add_mul, Nat.one_mul] at a3
    omega
  have d1 : ∀ (s r : Nat), r < (xs.length + 1) * (ys.length + 1) → (s * ((xs.length + 1) * (ys.length + 1)) + r) / ((xs.length + 1) * (ys.length + 1)) = s ∧ (s * ((xs.length + 1) * (ys.length + 1)) + r) % ((xs.length + 1) * (ys.length + 1)) = r := by
    intro s r hr
    rw [Nat.mul_comm s]
    exact ⟨by rw [Nat.mul_add_div (by omega), Nat.div_eq_of_lt hr, Nat.add_zero], by rw [Nat.mul_add_mod, Nat.mod_eq_of_lt hr]⟩
  have d2 : ∀ (s r : Nat), r < ys.length + 1 → (s * (ys.length + 1) + r) / (ys.length + 1) = s ∧ (s * (ys.length + 1) + r) % (ys.length + 1) = r := by
    intro s r hr
    rw [Nat.mul_comm s]
    exact ⟨by rw [Nat.mul_add_div (by omega), Nat.div_eq_of_lt hr, Nat.add_zero], by rw [Nat.mul_add_mod, Nat.mod_eq_of_lt hr]⟩
  rw [Nat.add_assoc, Nat.add_assoc] at h
  obtain ⟨e1, e2⟩ := d1 c.toNat _ r1
  obtain ⟨e3, e4⟩ := d1 c'.toNat _ r2
  have hc : c.toNat = c'.toNat := by rw [← e1, h, e3]
  have hr : a * (ys.length + 1) + b = a' * (ys.length + 1) + b' := by rw [← e2, h, e4]
  obtain ⟨e5, e6⟩ := d2 a b (by omega)
  obtain ⟨e7, e8⟩ := d2 a' b' (by omega)
  have ha : a = a' := by rw [← e5, hr, e7]
  have hb : b = b' := by rw [← e6, hr, e8]
  have hcc : c = c' := by omega
  rw [ha, hb, hcc]
theorem okL_len {S : Int} {xs ys : List Int} {ps : List P3} (h : okL S xs ys ps) : ps.length ≤ S.toNat * ((xs.length + 1) * (ys.length + 1)) := by
  have h1 : (ps.map (encP (ys.length + 1) ((xs.length + 1) * (ys.length + 1)))).Nodup := by
    obtain ⟨hn, ho⟩ := h
    induction ps with
    | nil => simp
    | cons p ps ih =>
      rw [List.map_cons, List.nodup_cons]
      rw [List.nodup_cons] at hn
      refine ⟨fun hm => ?_, ih hn.2 (fun x hx => ho x (by simp [hx]))⟩
      obtain ⟨q, hq, e⟩ := List.mem_map.1 hm
      have := encP_inj (ho q (by simp [hq])) (ho p (by simp)) e
      exact hn.1 (this ▸ hq)
  have h2 := nodup_lt h1 (n := S.toNat * ((xs.length + 1) * (ys.length + 1))) (fun x hx => by
    obtain ⟨q, hq, rfl⟩ := List.mem_map.1 hx
    exact encP_lt (h.2 q hq))
  rw [List.length_map] at h2
  exact h2
def accP (xs ys : List Int) (E : List Bool) (p : P3) : Bool := decide (p.1 = xs.length) && (decide (p.2.1 = ys.length) && decide (E[p.2.2.toNat]? = some true))
def srch (xs ys : List Int) (L : List A4) (E : List Bool) : Nat → List P3 → Nat → Bool
  | 0, _, _ => false
  | f + 1, ps, k => match ps[k]? with
    | none => false
    | some p => if accP xs ys E p then true else srch xs ys L E f (rnd xs ys L p ps) (k + 1)
theorem srch_none {xs ys : List Int} {L : List A4} {E : List Bool} {f k : Nat} {ps : List P3} (h : ps.length ≤ k) : srch xs ys L E f ps k = false := by
  cases f with
  | zero => rfl
  | succ f => unfold srch; rw [List.getElem?_eq_none h]
theorem srch_acc {xs ys : List Int} {L : List A4} {E : List Bool} {f k : Nat} {ps : List P3} {p : P3} (h : ps[k]? = some p) (ha : accP xs ys E p = true) : srch xs ys L E (f + 1) ps k = true := by
  unfold srch; rw [h]; simp [ha]
theorem srch_next {xs ys : List Int} {L : List A4} {E : List Bool} {f k : Nat} {ps : List P3} {p : P3} (h : ps[k]? = some p) (ha : accP xs ys E p = false) : srch xs ys L E (f + 1) ps k = srch xs ys L E f (rnd xs ys L p ps) (k + 1) := by
  rw [srch, h]; simp [ha]
/-- Whether the pair is read. -/
def rdS (S : Int) (L : List A4) (E : List Bool) (xs ys : List Int) : Bool := srch xs ys L E (S.toNat * ((xs.length + 1) * (ys.length + 1)) + 1) [(0, 0, 0)] 0
theorem okL_start {S : Int} {xs ys : List Int} (hS : 0 < S) : okL S xs ys [(0, 0, 0)] := ⟨by simp, fun p hp => by simp at hp; subst hp; exact ⟨Nat.zero_le _, Nat.zero_le _, Int.le_refl _, hS⟩⟩
theorem addp_pre {ps : List P3} {o : Option P3} {k : Nat} {p : P3} (h : ps[k]? = some p) : (addp ps o)[k]? = some p := by
  cases o with
  | none => exact h
  | some q =>
    by_cases hm : q ∈ ps
    · rw [show addp ps (some q) = ps from if_pos hm]; exact h
    · rw [show addp ps (some q) = ps ++ [q] from if_neg hm, List.getElem?_append_left (List.getElem?_eq_some_iff.1 h).1]; exact h
end Go.Proofs.Ytedbngnkkfpbeaa


namespace Go.Proofs.Ytedbngnkkfpbeaa
open Go.RowKit
set_option linter.unusedVariables false
/-- x is the least of the costs that P allows, 'far' if there is none below 'far'. -/
def Lst (far x : Int) (P : Int → Prop) : Prop := x ≤ far ∧ (∀ c, P c → x ≤ c) ∧ (x < far → P x)
theorem Lst.congr {far x : Int} {P Q : Int → Prop} (h : Lst far x P) (e : ∀ c, P c ↔ Q c) : Lst far x Q := ⟨h.1, fun c hc => h.2.1 c ((e c).2 hc), fun hx => (e x).1 (h.2.2 hx)⟩
theorem Lst.uniq {far x y : Int} {P : Int → Prop} (hx : Lst far x P) (hy : Lst far y P) : x = y := by
  rcases Int.lt_trichotomy x y with h | h | h
  · have := hy.2.1 x (hx.2.2 (by have := hy.1; omega)); omega
  · exact h
  · have := hx.2.1 y (hy.2.2 (by have := hx.1; omega)); omega
theorem Lst.none {far : Int} {P : Int → Prop} (h : ∀ c, P c → far ≤ c) : Lst far far P := ⟨Int.le_refl _, h, fun h => by omega⟩
/-- the least of two -/
theorem Lst.min {far x y : Int} {P Q : Int → Prop} (hx : Lst far x P) (hy : y < far → Q y) (hy2 : ∀ c, Q c → y ≤ c) : Lst far (Min.min x y) (fun c => P c ∨ Q c) := by
  refine ⟨by have := hx.1; omega, ?_, fun h => ?_⟩
  · rintro c (h | h)
    · have := hx.2.1 c h; omega
    · have := hy2 c h; omega
  · by_cases hxy : x ≤ y
    · rw [show Min.min x y = x by omega] at h ⊢; exact .inl (hx.2.2 h)
    · rw [show Min.min x y = y by omega] at h ⊢; exact .inr (hy h)
section
variable {R : Nat → Nat → Int → Prop} {n : Nat}
inductive Wy (R : Nat → Nat → Int → Prop) : Nat → Nat → Int → Prop
  | refl (i : Nat) : Wy R i i 0
  | cons {i x k : Nat} {c c' : Int} : R i x c → Wy R x k c' → Wy R i k (c + c')
inductive Pth (R : Nat → Nat → Int → Prop) : List Nat → Nat → Nat → Int → Prop
  | one (i : Nat) : Pth R [i] i i 0
  | cons {i x k : Nat} {l : List Nat} {c c' : Int} : R i x c → Pth R l x k c' → Pth R (i :: l) i k (c + c')
theorem Wy.trans {i k j : Nat} {c c' : Int} (h : Wy R i k c) (h' : Wy R k j c') : Wy R i j (c + c') := by
  induction h with
  | refl i => rw [Int.zero_add]; exact h'
  | cons hr _ ih => rw [Int.add_assoc]; exact .cons hr (ih h')
theorem Wy.arc {i k : Nat} {c : Int} (h : R i k c) : Wy R i k c := by
  have := Wy.cons h (Wy.refl k); rwa [Int.add_zero] at this
theorem Wy.nonneg (hR : ∀ i k c, R i k c → 0 ≤ c) {i k : Nat} {c : Int} (h : Wy R i k c) : 0 ≤ c := by
  induction h with
  | refl => omega
  | cons hr _ ih => have := hR _ _ _ hr; omega
theorem Wy.lt (hR : ∀ i k c, R i k c → k < n) {i k : Nat} {c : Int} (h : Wy R i k c) (hi : i < n) : k < n := by
  induction h with
  | refl => exact hi
  | cons hr _ ih => exact ih (hR _ _ _ hr)
theorem Pth.suffix (hR : ∀ i k c, R i k c → 0 ≤ c) {l : List Nat} {x k i : Nat} {c : Int} (h : Pth R l x k c) (hi : i ∈ l) : ∃ l' c', Pth R l' i k c' ∧ c' ≤ c ∧ l'.Sublist l := by
  induction h with
  | one j => simp at hi; subst hi; exact ⟨_, _, .one _, Int.le_refl _, List.Sublist.refl _⟩
  | cons hr hp ih =>
    rcases List.mem_cons.1 hi with rfl | hi
    · exact ⟨_, _, .cons hr hp, Int.le_refl _, List.Sublist.refl _⟩
    · obtain ⟨l', c', h1, h2, h3⟩ := ih hi
      have := hR _ _ _ hr
      exact ⟨l', c', h1, by omega, h3.trans (List.sublist_cons_self _ _)⟩
theorem Wy.simple (hR : ∀ i k c, R i k c → 0 ≤ c) {i k : Nat} {c : Int} (h : Wy R i k c) : ∃ l c', Pth R l i k c' ∧ c' ≤ c ∧ l.Nodup := by
  induction h with
  | refl i => exact ⟨[i], 0, .one i, Int.le_refl _, by simp⟩
  | @cons i x k c c' hr _ ih =>
    obtain ⟨l, c1, h1, h2, h3⟩ := ih
    have h0 := hR _ _ _ hr
    by_cases hi : i ∈ l
    · obtain ⟨l', c2, g1, g2, g3⟩ := h1.suffix hR hi
      exact ⟨l', c2, g1, by omega, h3.sublist g3⟩
    · exact ⟨i :: l, c + c1, .cons hr h1, by omega, List.nodup_cons.2 ⟨hi, h3⟩⟩
theorem Pth.mem_lt (hR : ∀ i k c, R i k c → k < n) {l : List Nat} {i k : Nat} {c : Int} (h : Pth R l i k c) (hi : i < n) : ∀ y ∈ l, y < n := by
  induction h with
  | one j => intro y hy; simp at hy; omega
  | cons hr _ ih =>
    intro y hy
    rcases List.mem_cons.1 hy with rfl | hy
    · exact hi
    · exact ih (hR _ _ _ hr) y hy
theorem Pth.way {l : List Nat} {i k : Nat} {c : Int} (h : Pth R l i k c) : Wy R i k c := by
  induction h with
  | one j => exact .refl j
  | cons hr _ ih => exact .cons hr ih
theorem Pth.cost {b : Int} (hR : ∀ i k c, R i k c → c ≤ b) {l : List Nat} {i k : Nat} {c : Int} (h : Pth R l i k c) : c + b ≤ b * l.length := by
  induction h with
  | one j => simp
  | cons hr _ ih => have := hR _ _ _ hr; simp only [List.length_cons]; rw [show ((_ + 1 : Nat) : Int) = (_ : Int) + 1 from by push_cast; rfl, Int.mul_add]; omega
/-- A way that costs no more, and no more than (n - 1) b. -/
theorem Wy.short {b : Int} (h0 : ∀ i k c, R i k c → 0 ≤ c) (hb : ∀ i k c, R i k c → c ≤ b) (hn : ∀ i k c, R i k c → k < n) (hb0 : 0 ≤ b) {i k : Nat} {c : Int} (h : Wy R i k c) (hi : i < n) :
    ∃ l c', Pth R l i k c' ∧ c' ≤ c ∧ l.length ≤ n ∧ c' ≤ b * n := by
  obtain ⟨l, c', h1, h2, h3⟩ := h.simple h0
  have hl := nodup_lt h3 (h1.mem_lt hn hi)
  have hc := h1.cost hb
  refine ⟨l, c', h1, h2, hl, ?_⟩
  have : b * (l.length : Int) ≤ b * (n : Int) := Int.mul_le_mul_of_nonneg_left (by omega) hb0
  omega
end
/-- Empty arcs, and arcs with a letter. -/
def Em (L : List A4) (i k : Nat) (c : Int) : Prop := ∃ a ∈ L, a.1 = (i : Int) ∧ a.2.1 = (k : Int) ∧ a.2.2.1 < 0 ∧ a.2.2.2 = c
def Lt (L : List A4) (l : Int) (i k : Nat) (c : Int) : Prop := ∃ a ∈ L, a.1 = (i : Int) ∧ a.2.1 = (k : Int) ∧ a.2.2.1 = l ∧ a.2.2.2 = c
/-- The arcs of a valid machine of n states. -/
def okM (n : Nat) (L : List A4) : Prop := ∀ a ∈ L, (0 ≤ a.1 ∧ a.1 < (n : Int)) ∧ (0 ≤ a.2.1 ∧ a.2.1 < (n : Int)) ∧ 0 ≤ a.2.2.2 ∧ a.2.2.2 ≤ 1000
theorem okM.em {n : Nat} {L : List A4} (h : okM n L) {i k : Nat} {c : Int} (he : Em L i k c) : i < n ∧ k < n ∧ 0 ≤ c ∧ c ≤ 1000 := by
  obtain ⟨a, ha, e1, e2, _, e4⟩ := he
  have := h a ha
  omega
theorem okM.lt {n : Nat} {L : List A4} (h : okM n L) {l : Int} {i k : Nat} {c : Int} (he : Lt L l i k c) : i < n ∧ k < n ∧ 0 ≤ c ∧ c ≤ 1000 := by
  obtain ⟨a, ha, e1, e2, _, e4⟩ := he
  have := h a ha
  omega
/-- The list v tells the least costs of A. -/
def Rep (far : Int) (n : Nat) (v : List Int) (A : Nat → Int → Prop) : Prop := v.length = n ∧ ∀ k x, v[k]? = some x → Lst far x (A k)
theorem Rep.get {far : Int} {n k : Nat} {v : List Int} {A : Nat → Int → Prop} (h : Rep far n v A) (hk : k < n) : ∃ x, v[k]? = some x ∧ Lst far x (A k) := by
  have hl := h.1
  exact ⟨v[k], List.getElem?_eq_getElem (by omega), h.2 k _ (List.getElem?_eq_getElem (by omega))⟩
theorem Rep.congr {far : Int} {n : Nat} {v : List Int} {A B : Nat → Int → Prop} (h : Rep far n v A) (e : ∀ k c, k < n → (A k c ↔ B k c)) : Rep far n v B :=
  ⟨h.1, fun k x hx => (h.2 k x hx).congr (fun c => e k c (by have := (List.getElem?_eq_some_iff.1 hx).1; have := h.1; omega))⟩
theorem Rep.uniq {far : Int} {n : Nat} {v u : List Int} {A : Nat → Int → Prop} (h : Rep far n v A) (h' : Rep far n u A) : v = u := by
  apply List.ext_getElem?
  intro k
  by_cases hk : k < n
  · obtain ⟨x, hx, h1⟩ := h.get hk
    obtain ⟨y, hy, h2⟩ := h'.get hk
    rw [hx, hy, h1.uniq h2]
  · rw [List.getElem?_eq_none (by have := h.1; omega), List.getElem?_eq_none (by have := h'.1; omega)]
/-! Relaxing, as the program does it -/
def g0 (v : List Int) (k : Nat) : Int := v.getD k 0
theorem g0_get {v : List Int} {k : Nat} {x : Int} (h : v[k]? = some x) : g0 v k = x := by unfold g0; rw [List.getD_eq_getElem?_getD, h]; rfl
theorem g0_some {v : List Int} {k : Nat} (h : k < v.length) : v[k]? = some (g0 v k) := by
  rw [List.getElem?_eq_getElem h, g0, List.getD_eq_getElem?_getD, List.getElem?_eq_getElem h]; rfl
def rel1 (v : List Int) (a : A4) : List Int := if a.2.2.1 < 0 then v.set a.2.1.toNat (Min.min (g0 v a.2.1.toNat) (g0 v a.1.toNat + a.2.2.2)) else v
def rel (L : List A4) (v : List Int) : List Int := L.foldl rel1 v
def relN (L : List A4) (v : List Int) : Nat → List Int
  | 0 => v
  | r + 1 => rel L (relN L v r)
theorem rel_take {L : List A4} {v : List Int} {j : Nat} {a : A4} (h : L[j]? = some a) : rel (L.take (j + 1)) v = rel1 (rel (L.take j) v) a := by
  obtain ⟨hj, rfl⟩ := List.getElem?_eq_some_iff.1 h
  unfold rel; rw [List.take_succ_eq_append_getElem hj, List.foldl_append]; rfl
theorem rel1_len (v : List Int) (a : A4) : (rel1 v a).length = v.length := by unfold rel1; split <;> simp
theorem rel_len (L : List A4) (v : List Int) : (rel L v).length = v.length := by
  unfold rel
  induction L generalizing v with
  | nil => rfl
  | cons a L ih => rw [List.foldl_cons, ih, rel1_len]
theorem relN_len (L : List A4) (v : List Int) (r : Nat) : (relN L v r).length = v.length := by
  induction r with
  | zero => rfl
  | succ r ih => rw [relN, rel_len, ih]
theorem g0_set {v : List Int} {k j : Nat} {y : Int} (hk : k < v.length) (hj : j < v.length) : g0 (v.set k y) j = if k = j then y else g0 v j := by
  unfold g0
  rw [List.getD_eq_getElem?_getD, List.getD_eq_getElem?_getD, List.getElem?_set]
  split
  · rename_i h; subst h; rfl
  · rfl
theorem rel1_le {n : Nat} {v : List Int} {a : A4} (hv : v.length = n) (ha : (0 ≤ a.1 ∧ a.1 < (n : Int)) ∧ (0 ≤ a.2.1 ∧ a.2.1 < (n : Int))) (k : Nat) (hk : k < n) : g0 (rel1 v a) k ≤ g0 v k := by
  unfold rel1
  split
  · rw [g0_set (by omega) (by omega)]
    split
    · rename_i h; rw [h]; omega
    · omega
  · omega
theorem rel_le {n : Nat} {L : List A4} {v : List Int} (hv : v.length = n) (hL : okM n L) (k : Nat) (hk : k < n) : g0 (rel L v) k ≤ g0 v k := by
  unfold rel
  induction L generalizing v with
  | nil => exact Int.le_refl _
  | cons a L ih =>
    rw [List.foldl_cons]
    have h1 := ih (v := rel1 v a) (by rw [rel1_len, hv]) (fun b hb => hL b (by simp [hb]))
    have ha := hL a (by simp)
    have h2 := rel1_le hv ⟨ha.1, ha.2.1⟩ k hk
    omega
theorem rel_arc {n : Nat} {L : List A4} {v : List Int} (hv : v.length = n) (hL : okM n L) {i k : Nat} {c : Int} (h : Em L i k c) : g0 (rel L v) k ≤ g0 v i + c := by
  unfold rel
  induction L generalizing v with
  | nil => obtain ⟨a, ha, _⟩ := h; simp at ha
  | cons a L ih =>
    rw [List.foldl_cons]
    obtain ⟨b, hb, e1, e2, e3, e4⟩ := h
    have ha := hL a (by simp)
    have hL' : okM n L := fun b hb => hL b (by simp [hb])
    have hlen : (rel1 v a).length = n := by rw [rel1_len, hv]
    rcases List.mem_cons.1 hb with rfl | hb
    · have h1 := rel_le (L := L) hlen hL' k (by omega)
      have h2 : g0 (rel1 v b) k ≤ g0 v i + c := by
        unfold rel1
        rw [if_pos e3, g0_set (by omega) (by omega), if_pos (by omega), show b.1.toNat = i by omega, e4]
        omega
      unfold rel at h1
      omega
    · have h1 := ih hlen hL' ⟨b, hb, e1, e2, e3, e4⟩
      have hb' := hL b (by simp [hb])
      have h2 := rel1_le hv ⟨ha.1, ha.2.1⟩ i (by omega)
      omega
theorem relN_le {n : Nat} {L : List A4} {v : List Int} (hv : v.length = n) (hL : okM n L) (r : Nat) (k : Nat) (hk : k < n) : g0 (relN L v r) k ≤ g0 v k := by
  induction r with
  | zero => exact Int.le_refl _
  | succ r ih => have := rel_le (L := L) (v := relN L v r) (by rw [relN_len, hv]) hL k hk; rw [relN]; omega
theorem relN_shift (L : List A4) (v : List Int) (r : Nat) : relN L v (r + 1) = relN L (rel L v) r := by
  induction r with
  | zero => rfl
  | succ r ih => rw [relN, ih]; rfl
theorem relN_path {n : Nat} {L : List A4} (hL : okM n L) {l : List Nat} {i k : Nat} {c : Int} (h : Pth (Em L) l i k c) (hi : i < n) : ∀ (r : Nat) (v : List Int), v.length = n → l.length ≤ r + 1 → g0 (relN L v r) k ≤ g0 v i + c := by
  induction h with
  | one j => intro r v hv _; have := relN_le hv hL r j hi; omega
  | @cons i x k l c c' hr hp ih =>
    intro r v hv hl
    have hx := (hL.em hr).2.1
    obtain ⟨r', rfl⟩ : ∃ r', r = r' + 1 := by
      cases r with
      | zero => cases hp <;> simp at hl
      | succ r' => exact ⟨r', rfl⟩
    rw [relN_shift]
    have h1 := ih hx r' (rel L v) (by rw [rel_len, hv]) (by simp at hl; omega)
    have h2 := rel_arc hv hL hr
    omega
/-- What a relaxed cost comes from. -/
def From (far : Int) (n : Nat) (L : List A4) (v u : List Int) : Prop := u.length = n ∧ ∀ k, k < n → g0 u k < far → ∃ i c, i < n ∧ g0 v i < far ∧ Wy (Em L) i k c ∧ g0 u k = g0 v i + c
theorem From.start {far : Int} {n : Nat} {L : List A4} {v : List Int} (hv : v.length = n) : From far n L v v := ⟨hv, fun k hk h => ⟨k, 0, hk, h, .refl k, by omega⟩⟩
theorem From.rel1 {far : Int} {n : Nat} {L : List A4} {v u : List Int} {a : A4} (hL : okM n L) (ha : a ∈ L) (h : From far n L v u) : From far n L v (rel1 u a) := by
  obtain ⟨hu, h⟩ := h
  have hok := hL a ha
  refine ⟨by rw [rel1_len, hu], fun k hk hlt => ?_⟩
  unfold Go.Proofs.Ytedbngnkkfpbeaa.rel1 at hlt ⊢
  split at hlt
  · rename_i h3
    rw [if_pos h3]
    rw [g0_set (by omega) (by omega)] at hlt ⊢
    split at hlt
    · rename_i e
      rw [if_pos e]
      by_cases hm : g0 u a.2.1.toNat ≤ g0 u a.1.toNat + a.2.2.2
      · rw [show Min.min (g0 u a.2.1.toNat) (g0 u a.1.toNat + a.2.2.2) = g0 u a.2.1.toNat by omega] at hlt ⊢
        rw [e] at hlt ⊢
        exact h k hk hlt
      · rw [show Min.min (g0 u a.2.1.toNat) (g0 u a.1.toNat + a.2.2.2) = g0 u a.1.toNat + a.2.2.2 by omega] at hlt ⊢
        obtain ⟨i, c, h1, h2, h4, h5⟩ := h a.1.toNat (by omega) (by omega)
        refine ⟨i, c + a.2.2.2, h1, h2, h4.trans (.arc ⟨a, ha, by omega, by omega, h3, rfl⟩), by omega⟩
    · rename_i e
      rw [if_neg e]
      exact h k hk hlt
  · rename_i h3
    rw [if_neg h3]
    exact h k hk hlt
theorem From.relT {far : Int} {n : Nat} {L : List A4} {v u : List Int} (hL : okM n L) (h : From far n L v u) (j : Nat) : From far n L v (rel (L.take j) u) := by
  induction j with
  | zero => simpa [rel] using h
  | succ j ih =>
    by_cases hj : j < L.length
    · rw [rel_take (List.getElem?_eq_getElem hj)]
      exact ih.rel1 hL (List.getElem_mem hj)
    · rw [List.take_of_length_le (by omega)]
      rw [List.take_of_length_le (by omega)] at ih
      exact ih
theorem From.relN {far : Int} {n : Nat} {L : List A4} {v : List Int} (hL : okM n L) (hv : v.length = n) (r : Nat) : From far n L v (relN L v r) := by
  induction r with
  | zero => exact From.start hv
  | succ r ih =>
    have := ih.relT hL L.length
    rw [List.take_length] at this
    exact this
/-- The costs behind empty arcs. -/
def Cl (n : Nat) (L : List A4) (A : Nat → Int → Prop) (k : Nat) (c : Int) : Prop := ∃ i c1 c2, i < n ∧ A i c1 ∧ Wy (Em L) i k c2 ∧ c = c1 + c2
theorem Rep.relax {far : Int} {n : Nat} {L : List A4} {v : List Int} {A : Nat → Int → Prop} (hL : okM n L) (h : Rep far n v A) : Rep far n (relN L v n) (Cl n L A) := by
  refine ⟨by rw [relN_len, h.1], fun k x hx => ?_⟩
  have hk : k < n := by have := (List.getElem?_eq_some_iff.1 hx).1; rw [relN_len, h.1] at this; exact this
  have e := g0_get hx
  subst e
  have hat : ∀ i, i < n → Lst far (g0 v i) (A i) := fun i hi => h.2 i _ (g0_some (by rw [h.1]; exact hi))
  refine ⟨?_, ?_, ?_⟩
  · have := relN_le h.1 hL n k hk
    have := (hat k hk).1
    omega
  · rintro c ⟨i, c1, c2, hi, h1, h2, rfl⟩
    obtain ⟨l, c', p1, p2, p3, _⟩ := h2.short (b := 1000) (fun i k c h => (hL.em h).2.2.1) (fun i k c h => (hL.em h).2.2.2) (fun i k c h => (hL.em h).2.1) (by omega) hi
    have := relN_path hL p1 hi n v h.1 (by omega)
    have := (hat i hi).2.1 c1 h1
    omega
  · intro hlt
    obtain ⟨i, c, h1, h2, h3, h4⟩ := (From.relN (far := far) hL h.1 n).2 k hk hlt
    exact ⟨i, _, c, h1, (hat i h1).2.2 h2, h3, h4⟩
end Go.Proofs.Ytedbngnkkfpbeaa
