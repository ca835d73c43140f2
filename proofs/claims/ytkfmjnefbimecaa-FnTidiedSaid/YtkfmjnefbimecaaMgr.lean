/- Several texts in one: TrimOf plainly: the states that stay are those on some way; words cost as before. TrimOf plainly: words cost as before; a state stays just where some word is read. -/
import Derived.Test.YtkfmjnefbimecaaMgq
import Derived.Test.YtkfmjnefbimecaaTmP


namespace Go.Proofs.Ytkfmjnefbimecaa
open Go.RowKit
set_option linter.unusedVariables false
section
variable {back : Bool} {L : List A4} {F : List Int}
/-- One arc leads on. -/
def Rr (back : Bool) (L : List A4) (i k : Nat) (c : Int) : Prop := c = 0 ∧ ∃ a ∈ L, rcF back a = i ∧ rcT back a = k
def Rch (back : Bool) (L : List A4) (F : List Int) (i : Nat) : Prop := ∃ s c d, Stt F s c ∧ Wy (Rr back L) s i d
theorem getD_set {o : List Bool} {t i : Nat} {v : Bool} : (o.set t v).getD i false = if t = i ∧ t < o.length then v else o.getD i false := by
  rw [List.getD_eq_getElem?_getD, List.getD_eq_getElem?_getD, List.getElem?_set]
  by_cases e : t = i
  · subst e
    by_cases h : t < o.length
    · rw [if_pos rfl, if_pos h, if_pos ⟨rfl, h⟩]; rfl
    · rw [if_pos rfl, if_neg h, if_neg (fun h' => h h'.2), List.getElem?_eq_none (by omega)]
  · rw [if_neg e, if_neg (fun h' => e h'.1)]
theorem rcA_ok {o : List Bool} {a : A4} (ha : a ∈ L) (h : ∀ i, o.getD i false = true → Rch back L F i) : ∀ i, (rcA back o a).getD i false = true → Rch back L F i := by
  intro i hi
  unfold rcA at hi
  rw [getD_set] at hi
  split at hi
  · rename_i e
    rw [Bool.or_eq_true] at hi
    rcases hi with hi | hi
    · rw [← e.1]; exact h _ hi
    · obtain ⟨s, c, d, h1, h2⟩ := h _ hi
      exact ⟨s, c, d + 0, h1, h2.snoc ⟨rfl, a, ha, rfl, e.1⟩⟩
  · exact h _ hi
theorem rcL_ok {o : List Bool} (h : ∀ i, o.getD i false = true → Rch back L F i) : ∀ k i, (rcL back L o k).getD i false = true → Rch back L F i
  | 0 => h
  | k + 1 => by
    cases hk : L[k]? with
    | none =>
      have e : rcL back L o (k + 1) = rcL back L o k := by
        show (match L[k]? with | some a => _ | none => _) = _
        rw [hk]
      rw [e]; exact rcL_ok h k
    | some a => rw [rcL_step hk]; exact rcA_ok (List.mem_of_getElem? hk) (rcL_ok h k)
theorem rcN_ok {o : List Bool} (h : ∀ i, o.getD i false = true → Rch back L F i) : ∀ k i, (rcN back L o k).getD i false = true → Rch back L F i
  | 0 => h
  | k + 1 => rcL_ok (rcN_ok h k) _
theorem rc0_iff {i : Nat} : (rc0 F).getD i false = true ↔ ∃ c, Stt F i c := by
  unfold rc0 Stt
  rw [List.getD_eq_getElem?_getD, List.getElem?_map]
  cases h : F[i]? with
  | none => simp
  | some x => simp
theorem rc_ok {i : Nat} (h : (rc back L F).getD i false = true) : Rch back L F i :=
  rcN_ok (fun j hj => by obtain ⟨c, hc⟩ := rc0_iff.1 hj; exact ⟨j, c, 0, hc, .refl j⟩) _ _ h
theorem rcA_mono {o : List Bool} {a : A4} {i : Nat} (h : o.getD i false = true) : (rcA back o a).getD i false = true := by
  unfold rcA
  rw [getD_set]
  split
  · rename_i e; rw [e.1, h]; rfl
  · exact h
theorem rcL_mono {o : List Bool} {i : Nat} (h : o.getD i false = true) : ∀ k, (rcL back L o k).getD i false = true
  | 0 => h
  | k + 1 => by
    cases hk : L[k]? with
    | none =>
      have e : rcL back L o (k + 1) = rcL back L o k := by
        show (match L[k]? with | some a => _ | none => _) = _
        rw [hk]
      rw [e]; exact rcL_mono h k
    | some a => rw [rcL_step hk]; exact rcA_mono (rcL_mono h k)
theorem rcL_more {o : List Bool} {i j : Nat} (h : (rcL back L o j).getD i false = true) : ∀ m, (rcL back L o (j + m)).getD i false = true
  | 0 => h
  | m + 1 => by
    have ih := rcL_more h m
    cases hk : L[j + m]? with
    | none =>
      have e : rcL back L o (j + m + 1) = rcL back L o (j + m) := by
        show (match L[j + m]? with | some a => _ | none => _) = _
        rw [hk]
      rw [← Nat.add_assoc, e]; exact ih
    | some a => rw [← Nat.add_assoc, rcL_step hk]; exact rcA_mono ih
theorem rcL_arc {o : List Bool} {i k : Nat} {c : Int} (hr : Rr back L i k c) (hk : k < o.length) (h : o.getD i false = true) : (rcL back L o L.length).getD k false = true := by
  obtain ⟨_, a, ha, e1, e2⟩ := hr
  obtain ⟨j, hj⟩ := List.getElem?_of_mem ha
  have hl := (List.getElem?_eq_some_iff.1 hj).1
  have h1 : (rcL back L o (j + 1)).getD k false = true := by
    rw [rcL_step hj]
    unfold rcA
    rw [getD_set, if_pos ⟨e2, by rw [rcL_len, e2]; exact hk⟩, e1, rcL_mono h j, Bool.or_true]
  have h2 := rcL_more h1 (L.length - (j + 1))
  rwa [show j + 1 + (L.length - (j + 1)) = L.length by omega] at h2
theorem rcN_shift (o : List Bool) : ∀ r, rcN back L o (r + 1) = rcN back L (rcL back L o L.length) r
  | 0 => rfl
  | r + 1 => by
    show rcL back L (rcN back L o (r + 1)) L.length = rcL back L (rcN back L (rcL back L o L.length) r) L.length
    rw [rcN_shift o r]
theorem rcN_mono {o : List Bool} {i : Nat} (h : o.getD i false = true) : ∀ r, (rcN back L o r).getD i false = true
  | 0 => h
  | r + 1 => rcL_mono (rcN_mono h r) _
theorem rcN_path {n : Nat} (hL : ∀ i k c, Rr back L i k c → k < n) {l : List Nat} {i k : Nat} {c : Int} (h : Pth (Rr back L) l i k c) : ∀ (r : Nat) (o : List Bool), o.length = n → l.length ≤ r + 1 → o.getD i false = true → (rcN back L o r).getD k false = true := by
  induction h with
  | one i => exact fun r o _ _ h => rcN_mono h r
  | @cons i x k l c c' hr hp ih =>
    intro r o ho hl h
    cases r with
    | zero =>
      cases hp <;> simp at hl
    | succ r =>
      rw [rcN_shift]
      refine ih r _ (by rw [rcL_len]; exact ho) (by simp at hl; omega) (rcL_arc hr (by rw [ho]; exact hL _ _ _ hr) h)
theorem rc_iff (hL : ∀ i k c, Rr back L i k c → k < F.length) {i : Nat} : (rc back L F).getD i false = true ↔ Rch back L F i := by
  refine ⟨rc_ok, ?_⟩
  rintro ⟨s, c, d, h1, h2⟩
  obtain ⟨l, c', g1, g2, g3⟩ := h2.simple (fun _ _ _ h => by rw [h.1]; exact Int.le_refl _)
  have g4 := nodup_lt g3 (g1.mem_lt hL h1.lt)
  unfold rc
  exact rcN_path hL g1 _ _ (by simp [rc0]) (by omega) (rc0_iff.2 ⟨c, h1⟩)
end
section
variable {L : List A4} {P E : List Int}
/-- States that are reached from a start; states that reach an end. -/
def Fwd (L : List A4) (P : List Int) (i : Nat) : Prop := ∃ s c d, Stt P s c ∧ Wy (An L) s i d
def Bwd (L : List A4) (E : List Int) (i : Nat) : Prop := ∃ s c d, Stt E s c ∧ Wy (An L) i s d
theorem rr_an {n : Nat} (hL : okM n L) {i k : Nat} : (∃ c, Rr false L i k c) ↔ ∃ c, An L i k c := by
  constructor
  · rintro ⟨_, _, a, ha, e1, e2⟩
    have h := hL a ha
    refine ⟨a.2.2.2, a, ha, ?_, ?_, rfl⟩
    · have : a.1.toNat = i := e1; omega
    · have : a.2.1.toNat = k := e2; omega
  · rintro ⟨c, a, ha, e1, e2, _⟩
    exact ⟨0, rfl, a, ha, by show a.1.toNat = i; omega, by show a.2.1.toNat = k; omega⟩
theorem rr_an' {n : Nat} (hL : okM n L) {i k : Nat} : (∃ c, Rr true L i k c) ↔ ∃ c, An L k i c := by
  constructor
  · rintro ⟨_, _, a, ha, e1, e2⟩
    have h := hL a ha
    refine ⟨a.2.2.2, a, ha, ?_, ?_, rfl⟩
    · have : a.1.toNat = k := e2; omega
    · have : a.2.1.toNat = i := e1; omega
  · rintro ⟨c, a, ha, e1, e2, _⟩
    exact ⟨0, rfl, a, ha, by show a.2.1.toNat = i; omega, by show a.1.toNat = k; omega⟩
theorem wy_some {R S : Nat → Nat → Int → Prop} (h : ∀ i k c, R i k c → ∃ c', S i k c') {i k : Nat} {c : Int} (hw : Wy R i k c) : ∃ c', Wy S i k c' := by
  induction hw with
  | refl i => exact ⟨0, .refl i⟩
  | cons hr _ ih =>
    obtain ⟨d, hd⟩ := h _ _ _ hr
    obtain ⟨e, he⟩ := ih
    exact ⟨_, .cons hd he⟩
theorem wy_rev {R S : Nat → Nat → Int → Prop} (h : ∀ i k c, R i k c → ∃ c', S k i c') {i k : Nat} {c : Int} (hw : Wy R i k c) : ∃ c', Wy S k i c' := by
  induction hw with
  | refl i => exact ⟨0, .refl i⟩
  | cons hr _ ih =>
    obtain ⟨d, hd⟩ := h _ _ _ hr
    obtain ⟨e, he⟩ := ih
    exact ⟨_, he.snoc hd⟩
theorem ah_iff (hL : okM P.length L) {i : Nat} : (tmAh L P).getD i false = true ↔ Fwd L P i := by
  unfold tmAh
  rw [rc_iff (fun i k c h => by obtain ⟨c', h'⟩ := (rr_an hL).1 ⟨c, h⟩; exact (hL.an h').2.1)]
  constructor
  · rintro ⟨s, c, d, h1, h2⟩
    obtain ⟨d', h3⟩ := wy_some (fun i k c h => (rr_an hL).1 ⟨c, h⟩) h2
    exact ⟨s, c, d', h1, h3⟩
  · rintro ⟨s, c, d, h1, h2⟩
    obtain ⟨d', h3⟩ := wy_some (fun i k c h => (rr_an hL).2 ⟨c, h⟩) h2
    exact ⟨s, c, d', h1, h3⟩
theorem bh_iff (hL : okM E.length L) {i : Nat} : (tmBh L E).getD i false = true ↔ Bwd L E i := by
  unfold tmBh
  rw [rc_iff (fun i k c h => by obtain ⟨c', h'⟩ := (rr_an' hL).1 ⟨c, h⟩; exact (hL.an h').1)]
  constructor
  · rintro ⟨s, c, d, h1, h2⟩
    obtain ⟨d', h3⟩ := wy_rev (fun i k c h => (rr_an' hL).1 ⟨c, h⟩) h2
    exact ⟨s, c, d', h1, h3⟩
  · rintro ⟨s, c, d, h1, h2⟩
    obtain ⟨d', h3⟩ := wy_rev (fun i k c h => (rr_an' hL).2 ⟨c, h⟩) h2
    exact ⟨s, c, d', h1, h3⟩
theorem kp_iff (hL : okM P.length L) (hE : E.length = P.length) {i : Nat} : kpB (tmAh L P) (tmBh L E) i = true ↔ Fwd L P i ∧ Bwd L E i := by
  unfold kpB
  rw [Bool.and_eq_true, ah_iff hL, bh_iff (by rw [hE]; exact hL)]
end
end Go.Proofs.Ytkfmjnefbimecaa



namespace Go.Proofs.Ytkfmjnefbimecaa
open Go.RowKit
set_option linter.unusedVariables false
section
variable {ah bh : List Bool}
theorem tmC_lt {i j : Nat} (hi : kpB ah bh i = true) (h : i < j) : tmC ah bh i < tmC ah bh j := by
  have h1 := tmC_yes hi
  have h2 := tmC_mono (ah := ah) (bh := bh) (show i + 1 ≤ j from h)
  omega
theorem tmC_inj {i j : Nat} (hi : kpB ah bh i = true) (hj : kpB ah bh j = true) (e : tmC ah bh i = tmC ah bh j) : i = j := by
  rcases Nat.lt_trichotomy i j with h | h | h
  · have := tmC_lt hi h; omega
  · exact h
  · have := tmC_lt hj h; omega
theorem tmM_yes {i : Nat} (h : kpB ah bh i = true) : tmM ah bh i = (tmC ah bh i : Int) := by unfold tmM; rw [if_pos h]
theorem tmM_nn {i : Nat} : 0 ≤ tmM ah bh i ↔ kpB ah bh i = true := by
  unfold tmM
  by_cases h : kpB ah bh i = true
  · rw [if_pos h]; exact ⟨fun _ => h, fun _ => by omega⟩
  · rw [if_neg h]; exact ⟨fun h => by omega, fun h' => absurd h' h⟩
theorem tmO_iff {a : A4} : tmO ah bh a = true ↔ kpB ah bh a.1.toNat = true ∧ kpB ah bh a.2.1.toNat = true := by
  unfold tmO
  rw [Bool.and_eq_true, decide_eq_true_eq, decide_eq_true_eq, tmM_nn, tmM_nn]
theorem tmA_has {L : List A4} {a : A4} {j : Nat} (hj : L[j]? = some a) (ho : tmO ah bh a = true) : ∀ m, tmB ah bh a ∈ tmA ah bh L (j + 1 + m)
  | 0 => by rw [Nat.add_zero, tmA_yes hj ho]; exact List.mem_append_right _ (List.mem_singleton.2 rfl)
  | m + 1 => by
    have ih := tmA_has hj ho m
    cases hk : L[j + 1 + m]? with
    | none =>
      have e : tmA ah bh L (j + 1 + m + 1) = tmA ah bh L (j + 1 + m) := by
        show (match L[j + 1 + m]? with | some a => _ | none => _) = _
        rw [hk]
      rw [← Nat.add_assoc, e]; exact ih
    | some b =>
      rw [← Nat.add_assoc]
      by_cases hb : tmO ah bh b = true
      · rw [tmA_yes hk hb]; exact List.mem_append_left _ ih
      · rw [tmA_no hk (by simpa using hb)]; exact ih
theorem tmA_iff {L : List A4} {b : A4} : b ∈ tmA ah bh L L.length ↔ ∃ a ∈ L, tmO ah bh a = true ∧ b = tmB ah bh a := by
  refine ⟨tmA_mem, ?_⟩
  rintro ⟨a, ha, ho, rfl⟩
  obtain ⟨j, hj⟩ := List.getElem?_of_mem ha
  have hl := (List.getElem?_eq_some_iff.1 hj).1
  have := tmA_has hj ho (L.length - (j + 1))
  rwa [show j + 1 + (L.length - (j + 1)) = L.length by omega] at this
theorem tmX_at {X : List Int} : ∀ {k m : Nat} {x : Int}, k ≤ X.length → ((tmX ah bh X k)[m]? = some x ↔ ∃ i, i < k ∧ kpB ah bh i = true ∧ m = tmC ah bh i ∧ X[i]? = some x)
  | 0, m, x, _ => ⟨fun h => by simp [tmX] at h, fun ⟨i, h, _⟩ => (Nat.not_lt_zero _ h).elim⟩
  | k + 1, m, x, hk => by
    have ih := @tmX_at X k m x (by omega)
    have hx := List.getElem?_eq_getElem (show k < X.length by omega)
    by_cases hb : kpB ah bh k = true
    · rw [tmX_yes hb hx]
      by_cases hm : m < tmC ah bh k
      · rw [List.getElem?_append_left (by rw [tmX_len]; exact hm), ih]
        constructor
        · rintro ⟨i, hi, h⟩; exact ⟨i, by omega, h⟩
        · rintro ⟨i, hi, h1, h2, h3⟩
          refine ⟨i, ?_, h1, h2, h3⟩
          by_cases e : i = k
          · subst e; omega
          · omega
      · rw [List.getElem?_append_right (by rw [tmX_len]; omega), tmX_len]
        by_cases e : m = tmC ah bh k
        · subst e
          rw [Nat.sub_self]
          constructor
          · intro h; exact ⟨k, by omega, hb, rfl, by rw [hx]; exact h⟩
          · rintro ⟨i, hi, h1, h2, h3⟩
            rw [tmC_inj h1 hb h2.symm, hx] at h3
            exact h3
        · constructor
          · intro h
            have := (List.getElem?_eq_some_iff.1 h).1
            simp at this; omega
          · rintro ⟨i, hi, h1, h2, h3⟩
            have := tmC_mono (ah := ah) (bh := bh) (show i ≤ k by omega)
            omega
    · rw [tmX_no (by simpa using hb), ih]
      constructor
      · rintro ⟨i, hi, h⟩; exact ⟨i, by omega, h⟩
      · rintro ⟨i, hi, h1, h2, h3⟩
        refine ⟨i, ?_, h1, h2, h3⟩
        by_cases e : i = k
        · subst e; exact absurd h1 hb
        · omega
theorem stt_tmX {X : List Int} {m : Nat} {c : Int} : Stt (tmX ah bh X X.length) m c ↔ ∃ i, kpB ah bh i = true ∧ m = tmC ah bh i ∧ Stt X i c := by
  unfold Stt
  rw [tmX_at (Nat.le_refl _)]
  constructor
  · rintro ⟨⟨i, hi, h1, h2, h3⟩, h0⟩; exact ⟨i, h1, h2, h3, h0⟩
  · rintro ⟨i, h1, h2, h3, h0⟩; exact ⟨⟨i, (List.getElem?_eq_some_iff.1 h3).1, h1, h2, h3⟩, h0⟩
theorem tmC_pos {k : Nat} : 1 ≤ tmC ah bh k ↔ ∃ i, i < k ∧ kpB ah bh i = true := by
  constructor
  · induction k with
    | zero => intro h; exact absurd h (by show ¬ 1 ≤ 0; omega)
    | succ k ih =>
      intro h
      by_cases hb : kpB ah bh k = true
      · exact ⟨k, by omega, hb⟩
      · rw [tmC_no (by simpa using hb)] at h
        obtain ⟨i, hi, h1⟩ := ih h
        exact ⟨i, by omega, h1⟩
  · rintro ⟨i, hi, h⟩
    have := tmC_lt h hi; omega
section
variable {n : Nat} {L : List A4}
theorem em_tm (hL : okM n L) {i k : Nat} {c : Int} (hi : kpB ah bh i = true) (hk : kpB ah bh k = true) (h : Em L i k c) : Em (tmA ah bh L L.length) (tmC ah bh i) (tmC ah bh k) c := by
  obtain ⟨a, ha, e1, e2, e3, e4⟩ := h
  have f1 : a.1.toNat = i := by omega
  have f2 : a.2.1.toNat = k := by omega
  refine ⟨tmB ah bh a, tmA_iff.2 ⟨a, ha, tmO_iff.2 ⟨by rw [f1]; exact hi, by rw [f2]; exact hk⟩, rfl⟩, ?_, ?_, e3, e4⟩
  · show tmM ah bh a.1.toNat = _; rw [f1, tmM_yes hi]
  · show tmM ah bh a.2.1.toNat = _; rw [f2, tmM_yes hk]
theorem lt_tm (hL : okM n L) {l : Int} {i k : Nat} {c : Int} (hi : kpB ah bh i = true) (hk : kpB ah bh k = true) (h : Lt L l i k c) : Lt (tmA ah bh L L.length) l (tmC ah bh i) (tmC ah bh k) c := by
  obtain ⟨a, ha, e1, e2, e3, e4⟩ := h
  have f1 : a.1.toNat = i := by omega
  have f2 : a.2.1.toNat = k := by omega
  refine ⟨tmB ah bh a, tmA_iff.2 ⟨a, ha, tmO_iff.2 ⟨by rw [f1]; exact hi, by rw [f2]; exact hk⟩, rfl⟩, ?_, ?_, e3, e4⟩
  · show tmM ah bh a.1.toNat = _; rw [f1, tmM_yes hi]
  · show tmM ah bh a.2.1.toNat = _; rw [f2, tmM_yes hk]
theorem em_tm' (hL : okM n L) {i x : Nat} {c : Int} (hi : kpB ah bh i = true) (h : Em (tmA ah bh L L.length) (tmC ah bh i) x c) : ∃ k, kpB ah bh k = true ∧ x = tmC ah bh k ∧ Em L i k c := by
  obtain ⟨b, hb, e1, e2, e3, e4⟩ := h
  obtain ⟨a, ha, ho, rfl⟩ := tmA_iff.1 hb
  have h := hL a ha
  obtain ⟨k1, k2⟩ := tmO_iff.1 ho
  have f1 : tmM ah bh a.1.toNat = (tmC ah bh i : Int) := e1
  have f2 : tmM ah bh a.2.1.toNat = (x : Int) := e2
  rw [tmM_yes k1] at f1
  rw [tmM_yes k2] at f2
  have f3 := tmC_inj k1 hi (by omega)
  exact ⟨a.2.1.toNat, k2, by omega, a, ha, by omega, by omega, e3, e4⟩
theorem lt_tm' (hL : okM n L) {l : Int} {i x : Nat} {c : Int} (hi : kpB ah bh i = true) (h : Lt (tmA ah bh L L.length) l (tmC ah bh i) x c) : ∃ k, kpB ah bh k = true ∧ x = tmC ah bh k ∧ Lt L l i k c := by
  obtain ⟨b, hb, e1, e2, e3, e4⟩ := h
  obtain ⟨a, ha, ho, rfl⟩ := tmA_iff.1 hb
  have h := hL a ha
  obtain ⟨k1, k2⟩ := tmO_iff.1 ho
  have f1 : tmM ah bh a.1.toNat = (tmC ah bh i : Int) := e1
  have f2 : tmM ah bh a.2.1.toNat = (x : Int) := e2
  rw [tmM_yes k1] at f1
  rw [tmM_yes k2] at f2
  have f3 := tmC_inj k1 hi (by omega)
  exact ⟨a.2.1.toNat, k2, by omega, a, ha, by omega, by omega, e3, e4⟩
theorem rd_tm' (hL : okM n L) {w : List Int} {i' k' : Nat} {c : Int} (h : Rd (tmA ah bh L L.length) w i' k' c) : ∀ i, kpB ah bh i = true → i' = tmC ah bh i → ∃ k, kpB ah bh k = true ∧ k' = tmC ah bh k ∧ Rd L w i k c := by
  induction h with
  | nil i' => exact fun i hi e => ⟨i, hi, e, .nil i⟩
  | emp hr _ ih =>
    intro i hi e
    rw [e] at hr
    obtain ⟨x, hx, e2, h1⟩ := em_tm' hL hi hr
    obtain ⟨k, hk, e3, h2⟩ := ih x hx e2
    exact ⟨k, hk, e3, .emp h1 h2⟩
  | let_ hr _ ih =>
    intro i hi e
    rw [e] at hr
    obtain ⟨x, hx, e2, h1⟩ := lt_tm' hL hi hr
    obtain ⟨k, hk, e3, h2⟩ := ih x hx e2
    exact ⟨k, hk, e3, .let_ h1 h2⟩
theorem Rd.an {w : List Int} {i k : Nat} {c : Int} (h : Rd L w i k c) : Wy (An L) i k c := by
  induction h with
  | nil i => exact .refl i
  | emp hr _ ih => exact .cons (em_an hr) ih
  | let_ hr _ ih => exact .cons (lt_an hr) ih
theorem Fwd.next {P : List Int} {i k : Nat} {c : Int} (h : Fwd L P i) (hr : An L i k c) : Fwd L P k := by
  obtain ⟨s, c0, d, h1, h2⟩ := h
  exact ⟨s, c0, _, h1, h2.snoc hr⟩
theorem rd_tm (hL : okM n L) {P E : List Int} (hk : ∀ i, kpB ah bh i = true ↔ Fwd L P i ∧ Bwd L E i) {w : List Int} {i k : Nat} {c : Int} (h : Rd L w i k c) : Fwd L P i → ∀ {c2 : Int}, Stt E k c2 → Rd (tmA ah bh L L.length) w (tmC ah bh i) (tmC ah bh k) c := by
  induction h with
  | nil i => exact fun _ _ _ => .nil _
  | emp hr hd ih =>
    intro hf c2 hs
    have hf2 := hf.next (em_an hr)
    exact .emp (em_tm hL ((hk _).2 ⟨hf, _, _, _, hs, (Wy.cons (em_an hr) hd.an)⟩) ((hk _).2 ⟨hf2, _, _, _, hs, hd.an⟩) hr) (ih hf2 hs)
  | let_ hr hd ih =>
    intro hf c2 hs
    have hf2 := hf.next (lt_an hr)
    exact .let_ (lt_tm hL ((hk _).2 ⟨hf, _, _, _, hs, (Wy.cons (lt_an hr) hd.an)⟩) ((hk _).2 ⟨hf2, _, _, _, hs, hd.an⟩) hr) (ih hf2 hs)
end
end
section
variable {t : Nat} {L : List A4} {P E : List Int}
theorem wc_trim (ho : Okw t L P E) (w : List Int) (c : Int) : Wc (tmL L P E) (tmPp L P E) (tmEe L P E) w c ↔ Wc L P E w c := by
  have hk := fun i => kp_iff ho.arcs ho.len (i := i)
  have eE : tmEe L P E = tmX (tmAh L P) (tmBh L E) E E.length := by unfold tmEe; rw [ho.len]
  constructor
  · rintro ⟨i', k', c0, c1, c2, h1, h2, h3, e⟩
    unfold tmPp at h1
    obtain ⟨i, hi, e1, s1⟩ := stt_tmX.1 h1
    rw [eE] at h3
    obtain ⟨k, hkk, e3, s3⟩ := stt_tmX.1 h3
    obtain ⟨k2, hk2, e4, h4⟩ := rd_tm' ho.arcs h2 i hi e1
    rw [← tmC_inj hkk hk2 (by omega)] at h4
    exact ⟨i, k, c0, c1, c2, s1, h4, s3, e⟩
  · rintro ⟨i, k, c0, c1, c2, h1, h2, h3, e⟩
    have hf : Fwd L P i := ⟨i, c0, 0, h1, .refl i⟩
    have ki := (hk i).2 ⟨hf, k, c2, c1, h3, h2.an⟩
    have kk := (hk k).2 ⟨⟨i, c0, c1, h1, h2.an⟩, k, c2, 0, h3, .refl k⟩
    refine ⟨_, _, c0, c1, c2, stt_tmX.2 ⟨i, ki, rfl, h1⟩, rd_tm ho.arcs hk h2 hf h3, ?_, e⟩
    rw [eE]
    exact stt_tmX.2 ⟨k, kk, rfl, h3⟩
theorem cst_trim (ho : Okw t L P E) (hc : Okw t (tdy (tmL L P E)) (tmPp L P E) (tmEe L P E)) {w : List Int} (hw : w.length ≤ 12) :
    cst (tdy (tmL L P E)) (tmPp L P E) (tmEe L P E) w = cst L P E w :=
  Cv.uniq ((cv_co hc hw).sub (R := Wc L P E w) (fun _ h => (wc_trim ho w _).1 (wc_tdy h)) (fun c h => wc_tdy' ((wc_trim ho w c).2 h))) (cv_co ho hw)
/-- A state stays just where some way leads from a start to an end. -/
theorem tmS_pos (ho : Okw t L P E) : 1 ≤ tmS L P E ↔ ∃ c, Bst P.length L P E c := by
  unfold tmS
  rw [tmC_pos]
  constructor
  · rintro ⟨i, hi, h⟩
    obtain ⟨⟨s, c, d, h1, h2⟩, s', c', d', h3, h4⟩ := (kp_iff ho.arcs ho.len).1 h
    exact ⟨_, s, c, _, h1.lt, h1, ⟨s', _, c', by have := h3.lt; rwa [ho.len] at this, h2.trans h4, h3, rfl⟩, rfl⟩
  · rintro ⟨_, i, c1, c2, hi, h1, ⟨k, d1, d2, hk, h2, h3, _⟩, _⟩
    exact ⟨i, hi, (kp_iff ho.arcs ho.len).2 ⟨⟨i, c1, 0, h1, .refl i⟩, k, d2, d1, h3, h2⟩⟩
end
end Go.Proofs.Ytkfmjnefbimecaa
