/- Several texts in one: States that no word tells apart: short words tell apart whatever any word tells apart. Classes of states, refined round by round: two states are in one class just if no short word tells them apart. -/
import Derived.Test.YtbdfbmohdbigfaaMgx

namespace Go.Proofs.Ytbdfbmohdbigfaa
set_option linter.unusedVariables false
section
variable {T : Nat} {st : Nat → Nat → Nat} {en : Nat → Bool} {r s t u n : Nat}
/-- No word of at most r letters tells s and t apart. -/
def eqv (T : Nat) (st : Nat → Nat → Nat) (en : Nat → Bool) (r s t : Nat) : Prop := ∀ w : List Nat, (∀ x ∈ w, x < T) → w.length ≤ r → en (w.foldl st s) = en (w.foldl st t)
theorem eqv_zero : eqv T st en 0 s t ↔ en s = en t := by
  constructor
  · intro h; exact h [] (fun x hx => by cases hx) (Nat.le_refl _)
  · intro h w _ hl
    rw [List.length_eq_zero_iff.1 (Nat.le_zero.1 hl)]; exact h
theorem eqv_succ : eqv T st en (r + 1) s t ↔ eqv T st en r s t ∧ ∀ l, l < T → eqv T st en r (st s l) (st t l) := by
  constructor
  · intro h
    refine ⟨fun w hw hl => h w hw (by omega), fun l hl w hw hlen => h (l :: w) (fun x hx => ?_) (by simp; omega)⟩
    rcases List.mem_cons.1 hx with rfl | hx
    · exact hl
    · exact hw x hx
  · rintro ⟨h0, h1⟩ w hw hl
    cases w with
    | nil => exact h0 [] hw (Nat.zero_le _)
    | cons x w => exact h1 x (hw x (by simp)) w (fun y hy => hw y (List.mem_cons_of_mem _ hy)) (by simp at hl; omega)
theorem eqv_mono {r' : Nat} (h : eqv T st en r s t) (hr : r' ≤ r) : eqv T st en r' s t := fun w hw hl => h w hw (by omega)
theorem eqv_refl : eqv T st en r s s := fun _ _ _ => rfl
theorem eqv_symm (h : eqv T st en r s t) : eqv T st en r t s := fun w hw hl => (h w hw hl).symm
theorem eqv_trans (h : eqv T st en r s t) (h' : eqv T st en r t u) : eqv T st en r s u := fun w hw hl => (h w hw hl).trans (h' w hw hl)
/-- From here on nothing more is told apart. -/
def stab (T : Nat) (st : Nat → Nat → Nat) (en : Nat → Bool) (n r : Nat) : Prop := ∀ s t, s < n → t < n → eqv T st en r s t → eqv T st en (r + 1) s t
theorem eqv_stay (hst : ∀ s l, s < n → l < T → st s l < n) (h : stab T st en n r) : ∀ (k s t : Nat), s < n → t < n → eqv T st en r s t → eqv T st en (r + k) s t
  | 0, s, t, _, _, e => e
  | k + 1, s, t, hs, ht, e => by
    have h1 := eqv_succ.1 (h s t hs ht e)
    have h2 := eqv_stay hst h k s t hs ht e
    exact eqv_succ.2 ⟨h2, fun l hl => eqv_stay hst h k _ _ (hst s l hs hl) (hst t l ht hl) (h1.2 l hl)⟩
theorem pw_ne {R : Nat → Nat → Prop} (hs : ∀ x y, R x y → R y x) {L : List Nat} (h : L.Pairwise R) {x y : Nat} (hx : x ∈ L) (hy : y ∈ L) (hne : x ≠ y) : R x y := by
  induction L with
  | nil => cases hx
  | cons a L ih =>
    obtain ⟨h1, h2⟩ := List.pairwise_cons.1 h
    rcases List.mem_cons.1 hx with ex | hx'
    · rcases List.mem_cons.1 hy with ey | hy'
      · exact absurd (ex.trans ey.symm) hne
      · rw [ex]; exact h1 y hy'
    · rcases List.mem_cons.1 hy with ey | hy'
      · rw [ey]; exact hs _ _ (h1 x hx')
      · exact ih h2 hx' hy'
theorem pw_snoc {R : Nat → Nat → Prop} {L : List Nat} {z : Nat} (h : L.Pairwise R) (hz : ∀ x ∈ L, R x z) : (L ++ [z]).Pairwise R :=
  List.pairwise_append.2 ⟨h, List.pairwise_singleton _ _, fun x hx y hy => by rw [List.mem_singleton.1 hy]; exact hz x hx⟩
theorem eqv_grow (h0 : 0 < n) : ∀ R, (∀ r, r < R → ¬ stab T st en n r) → ∃ L : List Nat, L.length = R + 1 ∧ (∀ x ∈ L, x < n) ∧ L.Pairwise (fun x y => ¬ eqv T st en R x y)
  | 0, _ => ⟨[0], rfl, fun x hx => by rw [List.mem_singleton.1 hx]; exact h0, List.pairwise_singleton _ _⟩
  | R + 1, h => by
    obtain ⟨L, hl, hx, hp⟩ := eqv_grow h0 R (fun r hr => h r (by omega))
    have hp' : L.Pairwise (fun x y => ¬ eqv T st en (R + 1) x y) := hp.imp (fun {a b} hab e => hab (eqv_mono e (Nat.le_succ _)))
    have hsym : ∀ x y, ¬ eqv T st en R x y → ¬ eqv T st en R y x := fun x y hxy e => hxy (eqv_symm e)
    have hns := h R (Nat.lt_succ_self _)
    obtain ⟨s, t, hs, ht, e1, e2⟩ : ∃ s t, s < n ∧ t < n ∧ eqv T st en R s t ∧ ¬ eqv T st en (R + 1) s t := by
      refine Classical.byContradiction fun hc => hns fun s t hs ht e => Classical.byContradiction fun e2 => hc ⟨s, t, hs, ht, e, e2⟩
    have fin : ∀ z, z < n → (∀ x ∈ L, ¬ eqv T st en (R + 1) x z) → ∃ L : List Nat, L.length = R + 1 + 1 ∧ (∀ x ∈ L, x < n) ∧ L.Pairwise (fun x y => ¬ eqv T st en (R + 1) x y) := fun z hz hzL =>
      ⟨L ++ [z], by simp [hl], fun x hx' => by
        rcases List.mem_append.1 hx' with q | q
        · exact hx x q
        · rw [List.mem_singleton.1 q]; exact hz, pw_snoc hp' hzL⟩
    by_cases hm : ∃ x ∈ L, eqv T st en R x s
    · obtain ⟨x, hxL, ex⟩ := hm
      have exn : ∀ z, eqv T st en R x z → ¬ eqv T st en (R + 1) x z → ∀ y ∈ L, ¬ eqv T st en (R + 1) y z := by
        intro z ez nz y hy e
        by_cases hyx : y = x
        · rw [hyx] at e; exact nz e
        · exact pw_ne hsym hp hy hxL hyx (eqv_trans (eqv_mono e (Nat.le_succ _)) (eqv_symm ez))
      by_cases e3 : eqv T st en (R + 1) x s
      · refine fin t ht (exn t (eqv_trans ex e1) (fun e4 => e2 (eqv_trans (eqv_symm e3) e4)))
      · exact fin s hs (exn s ex e3)
    · refine fin s hs (fun x hxL e => hm ⟨x, hxL, eqv_mono e (Nat.le_succ _)⟩)
/-- What words of n letters do not tell apart, no word does. -/
theorem eqv_all (hst : ∀ s l, s < n → l < T → st s l < n) (hs : s < n) (ht : t < n) (h : eqv T st en n s t) : ∀ w : List Nat, (∀ x ∈ w, x < T) → en (w.foldl st s) = en (w.foldl st t) := by
  obtain ⟨r, hr, hb⟩ : ∃ r, r < n ∧ stab T st en n r := by
    refine Classical.byContradiction fun hc => ?_
    obtain ⟨L, hl, hx, hp⟩ := eqv_grow (T := T) (st := st) (en := en) (n := n) (by omega) n (fun r hr hb => hc ⟨r, hr, hb⟩)
    have := nodup_le n L (hp.imp (fun {a b} hab => fun (e : a = b) => hab (by rw [e]; exact eqv_refl))) hx
    omega
  intro w hw
  exact eqv_stay hst hb w.length s t hs ht (eqv_mono h (by omega)) w hw (by omega)
end
/-- Two machines of at most twelve states together: what words of twelve letters do not tell apart, no word does. -/
theorem two_all {T Sa Sb : Nat} {Pa Pb : List Int} {Ea Eb : List Bool} (ha : TeO Sa T Pa Ea) (hb : TeO Sb T Pb Eb) (h12 : Sa + Sb ≤ 12) (h : ∀ w : List Nat, (∀ x ∈ w, x < T) → w.length ≤ 12 → rdP T Pa Ea w = rdP T Pb Eb w) :
    ∀ w : List Nat, (∀ x ∈ w, x < T) → rdP T Pa Ea w = rdP T Pb Eb w := by
  obtain ⟨st, hstd⟩ : ∃ st : Nat → Nat → Nat, st = fun s l => if s < Sa then plT T Pa s l else Sa + plT T Pb (s - Sa) l := ⟨_, rfl⟩
  obtain ⟨en, hend⟩ : ∃ en : Nat → Bool, en = fun s => if s < Sa then Ea.getD s false else Eb.getD (s - Sa) false := ⟨_, rfl⟩
  have hA : ∀ s l, s < Sa → l < T → plT T Pa s l < Sa := fun s l hs hl => (plT_bd rfl ha.hl ha.hP hs hl).2
  have hB : ∀ s l, s < Sb → l < T → plT T Pb s l < Sb := fun s l hs hl => (plT_bd rfl hb.hl hb.hP hs hl).2
  have hst : ∀ s l, s < Sa + Sb → l < T → st s l < Sa + Sb := fun s l hs hl => by
    rw [hstd]
    show (if s < Sa then _ else _) < _
    split
    · rename_i h1; have := hA s l h1 hl; omega
    · have := hB (s - Sa) l (by omega) hl; omega
  have fa : ∀ (w : List Nat) (s : Nat), s < Sa → (∀ x ∈ w, x < T) → w.foldl st s = w.foldl (plT T Pa) s := by
    intro w
    induction w with
    | nil => intro s _ _; rfl
    | cons x w ih =>
      intro s hs hw
      have e : st s x = plT T Pa s x := by rw [hstd]; exact if_pos hs
      rw [List.foldl_cons, List.foldl_cons, e]
      exact ih _ (hA s x hs (hw x (by simp))) (fun y hy => hw y (List.mem_cons_of_mem _ hy))
  have fb : ∀ (w : List Nat) (s : Nat), s < Sb → (∀ x ∈ w, x < T) → w.foldl st (Sa + s) = Sa + w.foldl (plT T Pb) s := by
    intro w
    induction w with
    | nil => intro s _ _; rfl
    | cons x w ih =>
      intro s hs hw
      have e : st (Sa + s) x = Sa + plT T Pb s x := by
        rw [hstd]
        show (if Sa + s < Sa then _ else _) = _
        rw [if_neg (by omega), Nat.add_sub_cancel_left]
      rw [List.foldl_cons, List.foldl_cons, e]
      exact ih _ (hB s x hs (hw x (by simp))) (fun y hy => hw y (List.mem_cons_of_mem _ hy))
  have ra : ∀ w : List Nat, (∀ x ∈ w, x < T) → en (w.foldl st 0) = rdP T Pa Ea w := fun w hw => by
    rw [fa w 0 (by have := ha.hS; omega) hw, hend]
    exact if_pos (plF_lt rfl ha.hl ha.hP w 0 (by have := ha.hS; omega) hw)
  have rb : ∀ w : List Nat, (∀ x ∈ w, x < T) → en (w.foldl st Sa) = rdP T Pb Eb w := fun w hw => by
    have h1 := fb w 0 (by have := hb.hS; omega) hw
    rw [Nat.add_zero] at h1
    rw [h1, hend]
    show (if Sa + _ < Sa then _ else _) = _
    rw [if_neg (by omega), Nat.add_sub_cancel_left]; rfl
  have := ha.hS; have := hb.hS
  have key := eqv_all (s := 0) (t := Sa) (en := en) hst (by omega) (by omega) (fun w hw hl => by rw [ra w hw, rb w hw]; exact h w hw (by omega))
  intro w hw
  rw [← ra w hw, ← rb w hw]
  exact key w hw
end Go.Proofs.Ytbdfbmohdbigfaa


namespace Go.Proofs.Ytbdfbmohdbigfaa
set_option linter.unusedVariables false
section
variable {κ : Type} [DecidableEq κ]
/-- The different keys among the first ones, in the order in which they are found. -/
def nmK (ks : Nat → κ) : Nat → List κ
  | 0 => []
  | i + 1 => addL (nmK ks i) (ks i)
def nmV (ks : Nat → κ) (n : Nat) : List Nat := (List.range n).map fun i => (nmK ks (i + 1)).idxOf (ks i)
theorem nmV_len (ks : Nat → κ) (n : Nat) : (nmV ks n).length = n := by simp [nmV]
theorem nmK_nodup (ks : Nat → κ) : ∀ n, (nmK ks n).Nodup
  | 0 => List.nodup_nil
  | n + 1 => addL_nodup (nmK_nodup ks n) _
theorem nmK_len (ks : Nat → κ) : ∀ n, (nmK ks n).length ≤ n
  | 0 => Nat.le_refl _
  | n + 1 => by have := nmK_len ks n; have := (addL_len (nmK ks n) (ks n)).2; show (addL _ _).length ≤ _; omega
theorem nmK_app (ks : Nat → κ) : ∀ (n k : Nat), ∃ r, nmK ks (n + k) = nmK ks n ++ r
  | n, 0 => ⟨[], by simp⟩
  | n, k + 1 => by
    obtain ⟨r, hr⟩ := nmK_app ks n k
    obtain ⟨q, hq⟩ := addL_app (nmK ks (n + k)) (ks (n + k))
    exact ⟨r ++ q, by show addL (nmK ks (n + k)) (ks (n + k)) = _; rw [hq, hr, List.append_assoc]⟩
theorem nmK_mem (ks : Nat → κ) {i n : Nat} (h : i < n) : ks i ∈ nmK ks n := by
  obtain ⟨r, hr⟩ := nmK_app ks (i + 1) (n - (i + 1))
  rw [show n = i + 1 + (n - (i + 1)) by omega, hr]
  exact List.mem_append_left _ (addL_mem _ _)
theorem nmV_at (ks : Nat → κ) {i n : Nat} (h : i < n) : (nmV ks n)[i]? = some ((nmK ks n).idxOf (ks i)) := by
  obtain ⟨r, hr⟩ := nmK_app ks (i + 1) (n - (i + 1))
  unfold nmV
  rw [List.getElem?_map, List.getElem?_range h]
  show some _ = some _
  rw [show nmK ks n = nmK ks (i + 1) ++ r from by rw [← hr]; congr 1; omega, idx_app (nmK_mem ks (Nat.lt_succ_self i))]
theorem nmV_ix (ks : Nat → κ) {i n : Nat} (h : i < n) : (nmV ks n)[i]? = some (ixL (addL (nmK ks i) (ks i)) (ks i)) := by
  unfold nmV
  rw [List.getElem?_map, List.getElem?_range h]; rfl
theorem ixL_new {L : List κ} {x : κ} (h : x ∉ L) : ixL (addL L x) x = L.length := idx_new h
theorem nmV_eq (ks : Nat → κ) {i j n : Nat} (hi : i < n) (hj : j < n) : (nmV ks n).getD i 0 = (nmV ks n).getD j 0 ↔ ks i = ks j := by
  rw [List.getD_eq_getElem?_getD, List.getD_eq_getElem?_getD, nmV_at ks hi, nmV_at ks hj, Option.getD_some, Option.getD_some]
  constructor
  · intro h
    have h1 := ix_at (nmK_mem ks hi)
    have h2 := ix_at (nmK_mem ks hj)
    unfold ixL at h1 h2
    rw [h] at h1
    exact Option.some.inj (h1.1.symm.trans h2.1)
  · intro h; rw [h]
theorem nmV_lt (ks : Nat → κ) {n : Nat} : ∀ x ∈ nmV ks n, x < n := by
  intro x hx
  obtain ⟨i, hi⟩ := List.getElem?_of_mem hx
  have hil := (List.getElem?_eq_some_iff.1 hi).1
  rw [nmV_len] at hil
  rw [nmV_at ks hil] at hi
  have h1 := (ix_at (nmK_mem ks hil)).2
  unfold ixL at h1
  have := nmK_len ks n
  injection hi with hi
  omega
end
/-- The key of a state: its class, and the classes of its next ones. -/
abbrev Ky := Nat × Nat × Nat × Nat × Nat
def kyG (T : Nat) (P : List Int) (C : List Nat) (i m : Nat) : Nat := if m < T then C.getD (plT T P i m) 0 else 0
def kyF (T : Nat) (P : List Int) (C : List Nat) (i : Nat) : Ky := (C.getD i 0, kyG T P C i 0, kyG T P C i 1, kyG T P C i 2, kyG T P C i 3)
def clR (S T : Nat) (P : List Int) (E : List Bool) : Nat → List Nat
  | 0 => E.map fun e => if e then 1 else 0
  | r + 1 => nmV (kyF T P (clR S T P E r)) S
section
variable {S T : Nat} {P : List Int} {E : List Bool}
theorem clR_len (h : TeO S T P E) : ∀ r, (clR S T P E r).length = S
  | 0 => by unfold clR; rw [List.length_map]; exact h.hE
  | r + 1 => nmV_len _ _
theorem clR_lt (h : TeO S T P E) : ∀ r, ∀ x ∈ clR S T P E r, x ≤ 64
  | 0, x, hx => by
    unfold clR at hx
    obtain ⟨e, -, rfl⟩ := List.mem_map.1 hx
    split <;> omega
  | r + 1, x, hx => by
    have := nmV_lt _ x hx
    have := h.hS
    omega
theorem kyF_eq (hT : T ≤ 4) {C : List Nat} {i j : Nat} : kyF T P C i = kyF T P C j ↔ C.getD i 0 = C.getD j 0 ∧ ∀ l, l < T → C.getD (plT T P i l) 0 = C.getD (plT T P j l) 0 := by
  unfold kyF
  constructor
  · intro h
    simp only [Prod.mk.injEq] at h
    obtain ⟨h0, h1, h2, h3, h4⟩ := h
    refine ⟨h0, fun l hl => ?_⟩
    unfold kyG at h1 h2 h3 h4
    have hl4 : l = 0 ∨ l = 1 ∨ l = 2 ∨ l = 3 := by omega
    rcases hl4 with rfl | rfl | rfl | rfl
    · rwa [if_pos hl, if_pos hl] at h1
    · rwa [if_pos hl, if_pos hl] at h2
    · rwa [if_pos hl, if_pos hl] at h3
    · rwa [if_pos hl, if_pos hl] at h4
  · rintro ⟨h0, h1⟩
    have e : ∀ m, kyG T P C i m = kyG T P C j m := fun m => by
      unfold kyG
      split
      · exact h1 m (by assumption)
      · rfl
    rw [h0, e 0, e 1, e 2, e 3]
/-- Two states are in one class of round r just if no word of r letters tells them apart. -/
theorem clR_eqv (h : TeO S T P E) : ∀ (r s t : Nat), s < S → t < S → ((clR S T P E r).getD s 0 = (clR S T P E r).getD t 0 ↔ eqv T (plT T P) (fun s => E.getD s false) r s t)
  | 0, s, t, hs, ht => by
    rw [eqv_zero]
    have e : ∀ s, s < S → (clR S T P E 0).getD s 0 = if E.getD s false then 1 else 0 := fun s hs => by
      unfold clR
      have hl : s < E.length := by rw [h.hE]; exact hs
      rw [List.getD_eq_getElem?_getD, List.getD_eq_getElem?_getD, List.getElem?_map, List.getElem?_eq_getElem hl]; rfl
    rw [e s hs, e t ht]
    cases E.getD s false <;> cases E.getD t false <;> simp
  | r + 1, s, t, hs, ht => by
    have hn : ∀ s l, s < S → l < T → plT T P s l < S := fun s l hs hl => (plT_bd rfl h.hl h.hP hs hl).2
    show (nmV (kyF T P (clR S T P E r)) S).getD s 0 = (nmV (kyF T P (clR S T P E r)) S).getD t 0 ↔ _
    rw [nmV_eq _ hs ht, kyF_eq h.hT.2, eqv_succ, clR_eqv h r s t hs ht]
    constructor
    · rintro ⟨h0, h1⟩
      exact ⟨h0, fun l hl => (clR_eqv h r _ _ (hn s l hs hl) (hn t l ht hl)).1 (h1 l hl)⟩
    · rintro ⟨h0, h1⟩
      exact ⟨h0, fun l hl => (clR_eqv h r _ _ (hn s l hs hl) (hn t l ht hl)).2 (h1 l hl)⟩
end
section
variable (S T : Nat) (P : List Int) (E : List Bool)
/-- The classes in the end. -/
def clF : List Nat := clR S T P E S
/-- The smallest machine, explored: where a class leads, whether it is an end. -/
def lsN (c l : Nat) : Nat := (clF S T P E).getD (plT T P ((clF S T P E).idxOf c) l) 0
def lsE (c : Nat) : Bool := E.getD ((clF S T P E).idxOf c) false
def lsF : Nat := (clF S T P E).getD 0 0
/-- The class to which a word leads. -/
def lsW (u : List Nat) : Nat := (clF S T P E).getD (u.foldl (plT T P) 0) 0
end
section
variable {S T : Nat} {P : List Int} {E : List Bool}
theorem clF_same (h : TeO S T P E) {s t : Nat} (hs : s < S) (ht : t < S) : (clF S T P E).getD s 0 = (clF S T P E).getD t 0 ↔ ∀ w : List Nat, (∀ x ∈ w, x < T) → E.getD (w.foldl (plT T P) s) false = E.getD (w.foldl (plT T P) t) false := by
  have hn : ∀ s l, s < S → l < T → plT T P s l < S := fun s l hs hl => (plT_bd rfl h.hl h.hP hs hl).2
  unfold clF
  rw [clR_eqv h S s t hs ht]
  constructor
  · intro he w hw
    exact eqv_all (en := fun s => E.getD s false) hn hs ht he w hw
  · intro ha w hw _
    exact ha w hw
theorem clF_mem (h : TeO S T P E) {s : Nat} (hs : s < S) : (clF S T P E).getD s 0 ∈ clF S T P E := by
  have hl : s < (clF S T P E).length := by unfold clF; rw [clR_len h]; exact hs
  rw [List.getD_eq_getElem?_getD, List.getElem?_eq_getElem hl]
  exact List.getElem_mem hl
/-- The first state of a class. -/
theorem clF_ix (h : TeO S T P E) {c : Nat} (hc : c ∈ clF S T P E) : (clF S T P E).idxOf c < S ∧ (clF S T P E).getD ((clF S T P E).idxOf c) 0 = c := by
  obtain ⟨h1, h2⟩ := ix_at hc
  unfold ixL at h1 h2
  have hl : (clF S T P E).length = S := by unfold clF; exact clR_len h S
  exact ⟨by omega, by rw [List.getD_eq_getElem?_getD, h1]; rfl⟩
theorem run_lt (h : TeO S T P E) {u : List Nat} (hu : ∀ x ∈ u, x < T) : u.foldl (plT T P) 0 < S := plF_lt rfl h.hl h.hP u 0 (by have := h.hS; omega) hu
theorem lsW_mem (h : TeO S T P E) {u : List Nat} (hu : ∀ x ∈ u, x < T) : lsW S T P E u ∈ clF S T P E := clF_mem h (run_lt h hu)
theorem lsW_nil : lsW S T P E [] = lsF S T P E := rfl
/-- Two words lead to one class just if the machine goes on alike behind both. -/
theorem lsW_same (h : TeO S T P E) {u v : List Nat} (hu : ∀ x ∈ u, x < T) (hv : ∀ x ∈ v, x < T) : lsW S T P E u = lsW S T P E v ↔ ∀ w : List Nat, (∀ x ∈ w, x < T) → rdP T P E (u ++ w) = rdP T P E (v ++ w) := by
  have := clF_same h (run_lt h hu) (run_lt h hv)
  unfold lsW
  rw [this]
  constructor
  · intro ha w hw; rw [rd_app, rd_app]; exact ha w hw
  · intro ha w hw; have := ha w hw; rwa [rd_app, rd_app] at this
theorem lsN_word (h : TeO S T P E) {u : List Nat} (hu : ∀ x ∈ u, x < T) {l : Nat} (hl : l < T) : lsN S T P E (lsW S T P E u) l = lsW S T P E (u ++ [l]) := by
  obtain ⟨h1, h2⟩ := clF_ix h (lsW_mem h hu)
  have hr := run_lt h hu
  have hn : ∀ s l, s < S → l < T → plT T P s l < S := fun s l hs hl => (plT_bd rfl h.hl h.hP hs hl).2
  have hs := (clF_same h h1 hr).1 h2
  unfold lsN
  have e : lsW S T P E (u ++ [l]) = (clF S T P E).getD (plT T P (u.foldl (plT T P) 0) l) 0 := by unfold lsW; rw [List.foldl_append]; rfl
  rw [e]
  refine (clF_same h (hn _ l h1 hl) (hn _ l hr hl)).2 (fun w hw => ?_)
  exact hs (l :: w) (fun x hx => by
    rcases List.mem_cons.1 hx with rfl | hx
    · exact hl
    · exact hw x hx)
theorem lsE_word (h : TeO S T P E) {u : List Nat} (hu : ∀ x ∈ u, x < T) : lsE S T P E (lsW S T P E u) = rdP T P E u := by
  obtain ⟨h1, h2⟩ := clF_ix h (lsW_mem h hu)
  have hs := (clF_same h h1 (run_lt h hu)).1 h2
  exact hs [] (fun x hx => by cases hx)
theorem lsN_fold (h : TeO S T P E) : ∀ (w u : List Nat), (∀ x ∈ u, x < T) → (∀ x ∈ w, x < T) → w.foldl (lsN S T P E) (lsW S T P E u) = lsW S T P E (u ++ w)
  | [], u, hu, _ => by rw [List.append_nil]; rfl
  | x :: w, u, hu, hw => by
    have hx := hw x (by simp)
    rw [List.foldl_cons, lsN_word h hu hx, lsN_fold h w (u ++ [x]) (fun y hy => by
      rcases List.mem_append.1 hy with q | q
      · exact hu y q
      · rw [List.mem_singleton.1 q]; exact hx) (fun y hy => hw y (List.mem_cons_of_mem _ hy)), List.append_assoc]; rfl
/-- What the walk wants of classes. -/
theorem lsN_ok (h : TeO S T P E) : ∀ k l, k ∈ clF S T P E → l < T → lsN S T P E k l ∈ clF S T P E := fun k l hk hl => clF_mem h ((plT_bd rfl h.hl h.hP (clF_ix h hk).1 hl).2)
theorem lsF_ok (h : TeO S T P E) : lsF S T P E ∈ clF S T P E := clF_mem h (by have := h.hS; omega)
theorem clF_lt (h : TeO S T P E) {c : Nat} (hc : c ∈ clF S T P E) : c < 65536 := by have := clR_lt h S c hc; omega
/-- All is found, and there are no more states than before. -/
theorem ls_is (h : TeO S T P E) : ∃ N, exAll (lsN S T P E) (lsF S T P E) T = some N ∧ N ≤ S :=
  exAll_is (ok := fun c => c ∈ clF S T P E) h.hS.2 (lsF_ok h) (lsN_ok h) (fun c => (clF S T P E).idxOf c) (fun a b ha hb e => by
    have h1 := (clF_ix h ha).2
    have h2 := (clF_ix h hb).2
    rw [← h1, ← h2, e]) (fun a ha => (clF_ix h ha).1)
end
end Go.Proofs.Ytbdfbmohdbigfaa
