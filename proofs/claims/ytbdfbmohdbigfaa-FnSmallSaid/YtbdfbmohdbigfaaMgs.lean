/- Several texts in one: The least fit, plainly: tables and ends as numbers, forced ends, the first fit of both orders. A Plain (numbers and lists): what the laws' helpers do with one. -/
import Derived.Test.YtbdfbmohdbigfaaMga
import Derived.Test.YtbdfbmohdbigfaaMgd
import Derived.Test.YtbdfbmohdbigfaaMgf

namespace Go.Proofs.Ytbdfbmohdbigfaa
set_option linter.unusedVariables false
/-- The n digits of N to the base b, the greatest first. -/
def digs (b : Nat) : Nat → Nat → List Nat
  | 0, _ => []
  | n + 1, N => digs b n (N / b) ++ [N % b]
theorem digs_len (b : Nat) : ∀ n N, (digs b n N).length = n
  | 0, _ => rfl
  | n + 1, N => by simp [digs, digs_len b n]
theorem digs_lt {b : Nat} (hb : 0 < b) : ∀ n N, ∀ x ∈ digs b n N, x < b
  | 0, _, x, h => by cases h
  | n + 1, N, x, h => by
    simp only [digs, List.mem_append, List.mem_singleton] at h
    rcases h with h | h
    · exact digs_lt hb n _ x h
    · subst h; exact Nat.mod_lt _ hb
theorem digs_zero (b : Nat) : ∀ n, digs b n 0 = List.replicate n 0
  | 0 => rfl
  | n + 1 => by rw [digs, Nat.zero_div, Nat.zero_mod, digs_zero b n, List.replicate_succ']
theorem div_succ {N b : Nat} (h : N % b + 1 < b) : (N + 1) / b = N / b ∧ (N + 1) % b = N % b + 1 := by
  have h1 := Nat.div_add_mod N b
  have h0 : 0 < b := by omega
  have e : N + 1 = b * (N / b) + (N % b + 1) := by omega
  constructor
  · rw [e, Nat.mul_add_div h0, Nat.div_eq_of_lt h, Nat.add_zero]
  · rw [e, Nat.mul_add_mod, Nat.mod_eq_of_lt h]
theorem div_carry {N b : Nat} (h0 : 0 < b) (h : N % b + 1 = b) : (N + 1) / b = N / b + 1 ∧ (N + 1) % b = 0 := by
  have h1 := Nat.div_add_mod N b
  have e : N + 1 = b * (N / b + 1) := by rw [Nat.mul_add, Nat.mul_one]; omega
  constructor
  · rw [e, Nat.mul_div_cancel_left _ h0]
  · rw [e, Nat.mul_mod_right]
theorem digs_succ {b n N : Nat} (h : N % b + 1 < b) : digs b (n + 1) (N + 1) = digs b n (N / b) ++ [N % b + 1] := by
  rw [digs, (div_succ h).1, (div_succ h).2]
theorem digs_carry {b n N : Nat} (h0 : 0 < b) (h : N % b + 1 = b) : digs b (n + 1) (N + 1) = digs b n (N / b + 1) ++ [0] := by
  rw [digs, (div_carry h0 h).1, (div_carry h0 h).2]
/-- The table with a number. -/
def tb (S n N : Nat) : List Int := (digs S n N).map fun (x : Nat) => (x : Int)
theorem tb_len (S n N : Nat) : (tb S n N).length = n := by simp [tb, digs_len]
theorem tb_bd {S : Nat} (hS : 0 < S) (n N : Nat) : ∀ x ∈ tb S n N, 0 ≤ x ∧ x < (S : Int) := by
  intro x hx
  simp only [tb, List.mem_map] at hx
  obtain ⟨y, hy, rfl⟩ := hx
  have := digs_lt hS n N y hy
  omega
/-- Where letters lead. -/
def rnW (t : List Int) (T : Int) (xs : List Int) : Int := xs.foldl (fun s x => t.getD (s * T + x).toNat 0) 0
theorem rnW_nil (t : List Int) (T : Int) : rnW t T [] = 0 := rfl
theorem rnW_take {t : List Int} {T : Int} {xs : List Int} {k : Nat} {x : Int} (h : xs[k]? = some x) : rnW t T (xs.take (k + 1)) = t.getD (rnW t T (xs.take k) * T + x).toNat 0 := by
  obtain ⟨hk, rfl⟩ := List.getElem?_eq_some_iff.1 h
  unfold rnW
  rw [List.take_succ_eq_append_getElem hk, List.foldl_append]; rfl
theorem rnW_bd {t : List Int} {T : Int} {S : Nat} (hS : 0 < S) (ht : ∀ x ∈ t, 0 ≤ x ∧ x < (S : Int)) (xs : List Int) : 0 ≤ rnW t T xs ∧ rnW t T xs < (S : Int) := by
  unfold rnW
  have : ∀ (ys : List Int) (s : Int), 0 ≤ s ∧ s < (S : Int) → 0 ≤ ys.foldl (fun s x => t.getD (s * T + x).toNat 0) s ∧ ys.foldl (fun s x => t.getD (s * T + x).toNat 0) s < (S : Int) := by
    intro ys
    induction ys with
    | nil => intro s h; exact h
    | cons y ys ih =>
      intro s h
      refine ih _ ?_
      show 0 ≤ t.getD (s * T + y).toNat 0 ∧ t.getD (s * T + y).toNat 0 < (S : Int)
      rw [List.getD_eq_getElem?_getD]
      cases hq : t[(s * T + y).toNat]? with
      | none => simp; omega
      | some v => exact ht v (List.mem_of_getElem? hq)
  exact this xs 0 (by omega)
/-- The ends that samples force. -/
def frcW (f : List Int → Nat) (S : Nat) (good : List (List Int)) : List Bool := good.foldl (fun E w => E.set (f w) true) (List.replicate S false)
theorem frcW_take {f : List Int → Nat} {S : Nat} {good : List (List Int)} {k : Nat} {x : List Int} (h : good[k]? = some x) : frcW f S (good.take (k + 1)) = (frcW f S (good.take k)).set (f x) true := by
  obtain ⟨hk, rfl⟩ := List.getElem?_eq_some_iff.1 h
  unfold frcW
  rw [List.take_succ_eq_append_getElem hk, List.foldl_append]; rfl
theorem frc_fold_len (f : List Int → Nat) : ∀ (good : List (List Int)) (E : List Bool), (good.foldl (fun E w => E.set (f w) true) E).length = E.length
  | [], E => rfl
  | g :: good, E => by rw [List.foldl_cons, frc_fold_len f good]; simp
theorem frcW_len (f : List Int → Nat) (S : Nat) (good : List (List Int)) : (frcW f S good).length = S := by unfold frcW; rw [frc_fold_len]; simp
theorem frc_fold_get (f : List Int → Nat) (i : Nat) : ∀ (good : List (List Int)) (E : List Bool), i < E.length → ((good.foldl (fun E w => E.set (f w) true) E)[i]? = some true ↔ E[i]? = some true ∨ ∃ w ∈ good, f w = i)
  | [], E, h => by simp
  | g :: good, E, h => by
    rw [List.foldl_cons, frc_fold_get f i good _ (by simpa using h)]
    by_cases e : f g = i
    · subst e
      rw [List.getElem?_set_self h]
      simp
    · rw [List.getElem?_set_ne e]
      constructor
      · rintro (h1 | ⟨w, hw, e2⟩)
        · exact .inl h1
        · exact .inr ⟨w, List.mem_cons_of_mem _ hw, e2⟩
      · rintro (h1 | ⟨w, hw, e2⟩)
        · exact .inl h1
        · rcases List.mem_cons.1 hw with rfl | hw
          · exact absurd e2 e
          · exact .inr ⟨w, hw, e2⟩
theorem frcW_get {f : List Int → Nat} {S i : Nat} {good : List (List Int)} (h : i < S) : (frcW f S good)[i]? = some true ↔ ∃ w ∈ good, f w = i := by
  unfold frcW
  rw [frc_fold_get f i good _ (by simpa using h)]
  simp [h]
/-- Whether ends fit samples. -/
def fitE (f : List Int → Nat) (E : List Bool) (good bad : List (List Int)) : Bool := (good.all fun w => E.getD (f w) false) && bad.all fun w => !E.getD (f w) false
def fitF (f : List Int → Nat) (S : Nat) (good bad : List (List Int)) : Bool := bad.all fun w => !(frcW f S good).getD (f w) false
theorem getD_true {E : List Bool} {i : Nat} : E.getD i false = true ↔ E[i]? = some true := by
  rw [List.getD_eq_getElem?_getD]
  cases E[i]? with
  | none => simp
  | some v => simp
theorem fitE_frc {f : List Int → Nat} {S : Nat} {good bad : List (List Int)} (hf : ∀ w ∈ good, f w < S) (h : fitF f S good bad = true) : fitE f (frcW f S good) good bad = true := by
  unfold fitE
  rw [Bool.and_eq_true]
  refine ⟨?_, h⟩
  rw [List.all_eq_true]
  intro w hw
  rw [getD_true]
  exact (frcW_get (hf w hw)).2 ⟨w, hw, rfl⟩
theorem frc_sub {f : List Int → Nat} {S : Nat} {good bad : List (List Int)} {E : List Bool} (hl : E.length = S) (h : fitE f E good bad = true) : ∀ i : Nat, (frcW f S good)[i]? = some true → E[i]? = some true := by
  intro i hi
  have hi' := (List.getElem?_eq_some_iff.1 hi).1
  rw [frcW_len] at hi'
  obtain ⟨w, hw, rfl⟩ := (frcW_get hi').1 hi
  unfold fitE at h
  rw [Bool.and_eq_true, List.all_eq_true] at h
  exact getD_true.1 (h.1 w hw)
theorem fitF_of {f : List Int → Nat} {S : Nat} {good bad : List (List Int)} {E : List Bool} (hl : E.length = S) (h : fitE f E good bad = true) : fitF f S good bad = true := by
  have hs := frc_sub hl h
  unfold fitE at h
  rw [Bool.and_eq_true, List.all_eq_true, List.all_eq_true] at h
  unfold fitF
  rw [List.all_eq_true]
  intro w hw
  have := h.2 w hw
  cases hq : (frcW f S good).getD (f w) false with
  | false => rfl
  | true =>
    have h1 := getD_true.2 (hs _ (getD_true.1 hq))
    rw [h1] at this
    cases this
/-- Ends as a number. -/
def vlB (E : List Bool) : Nat := E.foldl (fun n b => 2 * n + b.toNat) 0
theorem vlB_snoc (E : List Bool) (b : Bool) : vlB (E ++ [b]) = 2 * vlB E + b.toNat := by unfold vlB; rw [List.foldl_append]; rfl
theorem snoc_ind {α : Type} {p : List α → Prop} (h0 : p []) (hs : ∀ l a, p l → p (l ++ [a])) (l : List α) : p l := by
  have : ∀ l : List α, p l.reverse := by
    intro l
    induction l with
    | nil => exact h0
    | cons a l ih => rw [List.reverse_cons]; exact hs _ _ ih
  have := this l.reverse
  rwa [List.reverse_reverse] at this
/-- The ends with a number. -/
def eb (S e : Nat) : List Bool := (digs 2 S e).map fun x => decide (x = 1)
theorem eb_len (S e : Nat) : (eb S e).length = S := by simp [eb, digs_len]
theorem eb_succ (S e : Nat) : eb (S + 1) e = eb S (e / 2) ++ [decide (e % 2 = 1)] := by simp [eb, digs]
theorem eb_vl (E : List Bool) : eb E.length (vlB E) = E := by
  induction E using snoc_ind with
  | h0 => rfl
  | hs l a ih =>
    rw [List.length_append, vlB_snoc]
    show eb (l.length + 1) _ = _
    rw [eb_succ]
    cases a
    · rw [show (2 * vlB l + Bool.toNat false) / 2 = vlB l from by simp, ih, show (2 * vlB l + Bool.toNat false) % 2 = 0 from by simp]; rfl
    · rw [show (2 * vlB l + Bool.toNat true) / 2 = vlB l from by rw [Bool.toNat_true]; omega, ih, show (2 * vlB l + Bool.toNat true) % 2 = 1 from by rw [Bool.toNat_true]; omega]; rfl
theorem vlB_lt (E : List Bool) : vlB E < 2 ^ E.length := by
  induction E using snoc_ind with
  | h0 => decide
  | hs l a ih => rw [vlB_snoc, List.length_append, List.length_singleton, Nat.pow_succ]; cases a <;> simp <;> omega
theorem vlB_eb : ∀ (S e : Nat), vlB (eb S e) = e % 2 ^ S
  | 0, e => by rw [Nat.pow_zero, Nat.mod_one]; rfl
  | S + 1, e => by
    rw [eb_succ, vlB_snoc, vlB_eb S, Nat.pow_succ, Nat.mul_comm (2 ^ S) 2, Nat.mod_mul]
    have h : e % 2 = 0 ∨ e % 2 = 1 := by omega
    rcases h with h | h <;> simp [h] <;> omega
theorem vlB_mono : ∀ (S : Nat) (E F : List Bool), E.length = S → F.length = S → (∀ i : Nat, E[i]? = some true → F[i]? = some true) → vlB E ≤ vlB F
  | 0, E, F, h1, h2, _ => by rw [List.eq_nil_of_length_eq_zero h1, List.eq_nil_of_length_eq_zero h2]; exact Nat.le_refl _
  | S + 1, E, F, h1, h2, h => by
    obtain ⟨E', a, rfl⟩ : ∃ l x, E = l ++ [x] := ⟨E.dropLast, E.getLast (by intro e; rw [e] at h1; cases h1), (List.dropLast_concat_getLast _).symm⟩
    obtain ⟨F', b, rfl⟩ : ∃ l x, F = l ++ [x] := ⟨F.dropLast, F.getLast (by intro e; rw [e] at h2; cases h2), (List.dropLast_concat_getLast _).symm⟩
    simp at h1 h2
    rw [vlB_snoc, vlB_snoc]
    have hm := vlB_mono S E' F' h1 h2 (fun i hi => by
      have hi' := (List.getElem?_eq_some_iff.1 hi).1
      have := h i (by rw [List.getElem?_append_left hi']; exact hi)
      rwa [List.getElem?_append_left (by omega)] at this)
    have hl : a = true → b = true := by
      intro ha
      have := h S (by rw [List.getElem?_append_right (by omega), h1, Nat.sub_self, ha]; rfl)
      rw [List.getElem?_append_right (by omega), h2, Nat.sub_self] at this
      simpa using this
    cases a <;> cases b <;> simp at hl ⊢ <;> omega
/-- The first table that fits, with a number of states. -/
def lfN (F : Nat → Nat → List Int → Nat) (S n : Nat) (good bad : List (List Int)) : Option Nat := (List.range n).find? fun N => fitF (F S N) S good bad
theorem lfN_some {F : Nat → Nat → List Int → Nat} {S n N : Nat} {good bad : List (List Int)} (h0 : N < n) (h1 : fitF (F S N) S good bad = true) (h2 : ∀ M, M < N → fitF (F S M) S good bad = false) : lfN F S n good bad = some N := by
  unfold lfN
  rw [List.find?_range_eq_some]
  exact ⟨h1, by simpa using h0, fun j hj => by rw [h2 j hj]; rfl⟩
theorem lfN_none {F : Nat → Nat → List Int → Nat} {S n : Nat} {good bad : List (List Int)} (h2 : ∀ M, M < n → fitF (F S M) S good bad = false) : lfN F S n good bad = none := by
  unfold lfN
  rw [List.find?_eq_none]
  intro x hx
  rw [h2 x (by simpa using hx)]; simp
section
variable {f : Nat → List Int → Nat} {S : Nat} {good bad : List (List Int)}
/-- The reference's order: a first fit is the first table with its forced ends. -/
theorem ref_some {n : Nat} (hf : ∀ N, ∀ w ∈ good, f N w < S) (h : fitE (f (n / 2 ^ S)) (eb S n) good bad = true) (hm : ∀ m, m < n → fitE (f (m / 2 ^ S)) (eb S m) good bad = false) :
    fitF (f (n / 2 ^ S)) S good bad = true ∧ frcW (f (n / 2 ^ S)) S good = eb S n ∧ ∀ M, M < n / 2 ^ S → fitF (f M) S good bad = false := by
  have hp : 0 < 2 ^ S := Nat.two_pow_pos S
  have hF := fitF_of (eb_len S n) h
  have hs := frc_sub (eb_len S n) h
  have key : ∀ M, fitF (f M) S good bad = true → n ≤ M * 2 ^ S + vlB (frcW (f M) S good) := by
    intro M hM
    rcases Nat.lt_or_ge (M * 2 ^ S + vlB (frcW (f M) S good)) n with hlt | hge
    · exfalso
      have hv := vlB_lt (frcW (f M) S good)
      rw [frcW_len] at hv
      have h1 := hm _ hlt
      have hd : (M * 2 ^ S + vlB (frcW (f M) S good)) / 2 ^ S = M := by rw [Nat.mul_comm, Nat.mul_add_div hp, Nat.div_eq_of_lt hv, Nat.add_zero]
      have he : eb S (M * 2 ^ S + vlB (frcW (f M) S good)) = frcW (f M) S good := by
        have e1 : vlB (eb S (M * 2 ^ S + vlB (frcW (f M) S good))) = vlB (frcW (f M) S good) := by
          rw [vlB_eb, Nat.mul_comm, Nat.mul_add_mod, Nat.mod_eq_of_lt hv]
        have e2 := eb_vl (eb S (M * 2 ^ S + vlB (frcW (f M) S good)))
        have e3 := eb_vl (frcW (f M) S good)
        rw [eb_len, e1] at e2
        rw [frcW_len] at e3
        exact e2.symm.trans e3
      rw [hd, he, fitE_frc (hf M) hM] at h1
      cases h1
    · exact hge
  have hdm := Nat.div_add_mod n (2 ^ S)
  refine ⟨hF, ?_, ?_⟩
  · have h1 := key _ hF
    have h2 := vlB_mono S _ _ (frcW_len _ _ _) (eb_len S n) hs
    rw [vlB_eb] at h2
    rw [Nat.mul_comm] at h1
    have h3 : vlB (frcW (f (n / 2 ^ S)) S good) = n % 2 ^ S := by omega
    have e3 := eb_vl (frcW (f (n / 2 ^ S)) S good)
    have e2 := eb_vl (eb S n)
    rw [frcW_len, h3] at e3
    rw [eb_len, vlB_eb] at e2
    exact e3.symm.trans e2
  · intro M hM
    cases hq : fitF (f M) S good bad with
    | false => rfl
    | true =>
      exfalso
      have h1 := key M hq
      have hv := vlB_lt (frcW (f M) S good)
      rw [frcW_len] at hv
      have h2 : (M + 1) * 2 ^ S ≤ n / 2 ^ S * 2 ^ S := Nat.mul_le_mul_right _ hM
      rw [Nat.add_mul, Nat.one_mul] at h2
      rw [Nat.mul_comm (2 ^ S)] at hdm
      omega
theorem ref_none {n : Nat} (hf : ∀ N, ∀ w ∈ good, f N w < S) (hm : ∀ m, m < n * 2 ^ S → fitE (f (m / 2 ^ S)) (eb S m) good bad = false) : ∀ M, M < n → fitF (f M) S good bad = false := by
  intro M hM
  have hp : 0 < 2 ^ S := Nat.two_pow_pos S
  cases hq : fitF (f M) S good bad with
  | false => rfl
  | true =>
    exfalso
    have hv := vlB_lt (frcW (f M) S good)
    rw [frcW_len] at hv
    have h2 : (M + 1) * 2 ^ S ≤ n * 2 ^ S := Nat.mul_le_mul_right _ hM
    rw [Nat.add_mul, Nat.one_mul] at h2
    have h1 := hm (M * 2 ^ S + vlB (frcW (f M) S good)) (by omega)
    have hd : (M * 2 ^ S + vlB (frcW (f M) S good)) / 2 ^ S = M := by rw [Nat.mul_comm, Nat.mul_add_div hp, Nat.div_eq_of_lt hv, Nat.add_zero]
    have he : eb S (M * 2 ^ S + vlB (frcW (f M) S good)) = frcW (f M) S good := by
      have e1 : vlB (eb S (M * 2 ^ S + vlB (frcW (f M) S good))) = vlB (frcW (f M) S good) := by
        rw [vlB_eb, Nat.mul_comm, Nat.mul_add_mod, Nat.mod_eq_of_lt hv]
      have e2 := eb_vl (eb S (M * 2 ^ S + vlB (frcW (f M) S good)))
      have e3 := eb_vl (frcW (f M) S good)
      rw [eb_len, e1] at e2
      rw [frcW_len] at e3
      exact e2.symm.trans e3
    rw [hd, he, fitE_frc (hf M) hq] at h1
    cases h1
end
end Go.Proofs.Ytbdfbmohdbigfaa


namespace Go.Proofs.Ytbdfbmohdbigfaa
open Go.RowKit
set_option linter.unusedVariables false
def Pl (w : World) (B : Nat) (v : Value) (S : Int) (T : Int) (P : List Int) (E : List Bool) : Prop :=
  ∃ A2 n2 c2 A3 n3 c3, v = .agg #[.int .i64 S, .int .i64 T, .slice A2 n2 c2, .slice A3 n3 c3] ∧ SlI w B A2 n2 P ∧ SlB w B A3 n3 E
theorem Pl.below {w w' : World} {B B' : Nat} {v : Value} {S T : Int} {P : List Int} {E : List Bool} (h : Pl w B v S T P E) (hb : Below B' w w') (hB : B ≤ B') : Pl w' B v S T P E := by
  obtain ⟨A2, n2, c2, A3, n3, c3, e, h2, h3⟩ := h
  exact ⟨A2, n2, c2, A3, n3, c3, e, h2.below hb hB, h3.below hb hB⟩
theorem Pl.more {w : World} {B B' : Nat} {v : Value} {S T : Int} {P : List Int} {E : List Bool} (h : Pl w B v S T P E) (hB : B ≤ B') : Pl w B' v S T P E := by
  obtain ⟨A2, n2, c2, A3, n3, c3, e, h2, h3⟩ := h
  exact ⟨A2, n2, c2, A3, n3, c3, e, h2.more hB, h3.more hB⟩
/-- v is a Plain of the call's own: rows of their own, in this order. -/
def PlR (w : World) (base : Nat) (v : Value) (S : Int) (T : Int) (P : List Int) (E : List Bool) : Prop :=
  ∃ g2 g3, v = .agg #[.int .i64 S, .int .i64 T, .slice (some ⟨g2, 0, none⟩) P.length P.length, .slice (some ⟨g3, 0, none⟩) E.length E.length] ∧ base ≤ g2 ∧ g2 < g3 ∧ Row w g2 2 (iv P) ∧ Row w g3 4 (bv E)
theorem PlR.cg {w : World} {base : Nat} {v : Value} {S T : Int} {P : List Int} {E : List Bool} (h : PlR w base v S T P E) : Pl w w.heap.size v S T P E := by
  obtain ⟨g2, g3, e, _, _, h2, h3⟩ := h
  exact ⟨_, _, _, _, _, _, e, h2.slI, h3.slB⟩
theorem PlR.shape {w : World} {base : Nat} {v : Value} {S T : Int} {P : List Int} {E : List Bool} (h : PlR w base v S T P E) : ∃ g2 g3, v = .agg #[.int .i64 S, .int .i64 T, .slice (some ⟨g2, 0, none⟩) P.length P.length, .slice (some ⟨g3, 0, none⟩) E.length E.length] := by
  obtain ⟨g2, g3, e, _⟩ := h
  exact ⟨g2, g3, e⟩
theorem PlR.below {w w' : World} {base B : Nat} {v : Value} {S T : Int} {P : List Int} {E : List Bool} (h : PlR w base v S T P E) (hb : Below B w w') (hB : w.heap.size ≤ B) : PlR w' base v S T P E := by
  obtain ⟨g2, g3, e, q0, q1, h2, h3⟩ := h
  exact ⟨g2, g3, e, q0, q1, h2.below hb (Nat.lt_of_lt_of_le h2.lt hB), h3.below hb (Nat.lt_of_lt_of_le h3.lt hB)⟩
set_option maxHeartbeats 2000000 in
theorem szPlain_any (v : Value) (S : Int) (T : Int) (P : List Int) (E : List Bool) (left : Int) (w : World) (h : Pl w w.heap.size v S T P E) (h0 : 0 ≤ left) (h1 : left ≤ 1048576) (b2 : P.length ≤ 9223372036854775807) (b3 : E.length ≤ 9223372036854775807) :
    Calls Try.prog 27 #[v, .int .i64 left] w fun e w' => ∃ z : Int, e = .returned (.int .i64 z) ∧ -1 ≤ z ∧ z ≤ 1048576 ∧ (0 ≤ z → P.length ≤ 1048576 ∧ E.length ≤ 1048576) ∧ Below w.heap.size w w' := by
  obtain ⟨A2, n2, c2, A3, n3, c3, rfl, h2, h3⟩ := h
  have e2 : P.length = n2 := h2.len
  rw [e2] at b2 ⊢
  have e3 : E.length = n3 := h3.len
  rw [e3] at b3 ⊢
  clear h2 e2 h3 e3
  have hbx : Below w.heap.size w (w.alloc (.cells #[.int .i64 S, .int .i64 T, .slice A2 n2 c2, .slice A3 n3 c3] 56)) := (Below.refl _ _).alloc (Nat.le_refl _) _
  go_enter Try.func27, Try.ntmps27
  go_wp2_with fail
  refine (szInt64S_any A2 n2 c2 left _ (by omega) (by omega) b2).mono ?_
  rintro e w' ⟨z2, rfl, hz2, hy2, hn2, hw⟩
  subst hw
  by_cases hneg2 : z2 < 0
  · go_wp2_with fail
    go_ret
    exact ⟨_, rfl, by omega, by omega, fun h => by omega, hbx⟩
  have hp2 : 0 ≤ z2 := by omega
  have hm2 := hn2 hp2
  clear hneg2 hn2
  go_wp2_with fail
  refine (szBoolS_any A3 n3 c3 z2 _ (by omega) (by omega) b3).mono ?_
  rintro e w' ⟨z3, rfl, hz3, hy3, hn3, hw⟩
  subst hw
  by_cases hneg3 : z3 < 0
  · go_wp2_with fail
    go_ret
    exact ⟨_, rfl, by omega, by omega, fun h => by omega, hbx⟩
  have hp3 : 0 ≤ z3 := by omega
  have hm3 := hn3 hp3
  clear hneg3 hn3
  go_wp2_with fail
  go_ret
  exact ⟨z3, rfl, by omega, by omega, fun h => ⟨hm2, hm3⟩, hbx⟩
/-- While a Plain is copied: the boxes of what came in, of the result, of the copy. -/
structure TPl (w x : World) (src out : List Value) : Prop where
  bel : Below w.heap.size w x
  src : Row x w.heap.size 56 src
  res : Row x (w.heap.size + 1) 33 [.int .i64 0, .int .i64 0, .slice none 0 0, .slice none 0 0]
  out : Row x (w.heap.size + 1 + 1) 33 out
  room : w.heap.size + 3 ≤ x.heap.size
theorem TPl.start (w : World) (src out : List Value) :
    TPl w (((w.alloc (.cells src.toArray 56)).alloc (.cells #[.int .i64 0, .int .i64 0, .slice none 0 0, .slice none 0 0] 33)).alloc (.cells out.toArray 33)) src out := by
  have s1 : (w.alloc (.cells src.toArray 56)).heap.size = w.heap.size + 1 := by simp
  have r1 := Row.new w 56 src
  have r2 := Row.new (w.alloc (.cells src.toArray 56)) 33 [.int .i64 0, .int .i64 0, .slice none 0 0, .slice none 0 0]
  rw [s1] at r2
  have r3 := Row.new ((w.alloc (.cells src.toArray 56)).alloc (.cells #[.int .i64 0, .int .i64 0, .slice none 0 0, .slice none 0 0] 33)) 33 out
  have s2 : ((w.alloc (.cells src.toArray 56)).alloc (.cells #[.int .i64 0, .int .i64 0, .slice none 0 0, .slice none 0 0] 33)).heap.size = w.heap.size + 1 + 1 := by simp
  rw [s2] at r3
  exact ⟨(((Below.refl _ _).alloc (Nat.le_refl _) _).alloc (by rw [s1]; omega) _).alloc (by rw [s2]; omega) _, (r1.alloc _).alloc _, r2.alloc _, r3, by simp⟩
theorem TPl.call {w x x' : World} {src out : List Value} (h : TPl w x src out) (hb : Below x.heap.size x x') : TPl w x' src out :=
  ⟨h.bel.trans (hb.mono h.bel.size), h.src.below hb h.src.lt, h.res.below hb h.res.lt, h.out.below hb h.out.lt, Nat.le_trans h.room hb.size⟩
theorem TPl.set {w x : World} {src out : List Value} (h : TPl w x src out) (q : Nat) (u : Value) : TPl w (x.setCell ⟨w.heap.size + 1 + 1, q, none⟩ u) src (out.set q u) :=
  ⟨h.bel.setCell (p := ⟨w.heap.size + 1 + 1, q, none⟩) (show w.heap.size ≤ w.heap.size + 1 + 1 by omega) u, h.src.far (show w.heap.size ≠ w.heap.size + 1 + 1 by omega) u, h.res.far (show w.heap.size + 1 ≠ w.heap.size + 1 + 1 by omega) u, h.out.set_ q u, by have := h.room; simpa using this⟩
set_option maxHeartbeats 2000000 in
theorem toPlain_any (v : Value) (S : Int) (T : Int) (P : List Int) (E : List Bool) (w : World) (h : Pl w w.heap.size v S T P E) (b2 : P.length ≤ 4294967296) (b3 : E.length ≤ 4294967296) :
    Calls Try.prog 29 #[v] w fun e w' => ∃ v', e = .returned v' ∧ PlR w' w.heap.size v' S T P E ∧ Below w.heap.size w w' := by
  obtain ⟨A2, n2, c2, A3, n3, c3, rfl, h2, h3⟩ := h
  have hn2 : P.length = n2 := h2.len
  rw [hn2] at b2
  have H2 := Lib.hid h2; have N2 := Lib.hid hn2; clear h2 hn2
  have hn3 : E.length = n3 := h3.len
  rw [hn3] at b3
  have H3 := Lib.hid h3; have N3 := Lib.hid hn3; clear h3 hn3
  go_enter Try.func29, Try.ntmps29
  go_wp2_with fail
  have t0 := TPl.start w [.int .i64 S, .int .i64 T, .slice A2 n2 c2, .slice A3 n3 c3] [(.int .i64 S), (.int .i64 T), (.slice none 0 0), (.slice none 0 0)]
  obtain ⟨x0, hx0⟩ : ∃ x, x = ((w.alloc (.cells ([.int .i64 S, .int .i64 T, .slice A2 n2 c2, .slice A3 n3 c3] : List Value).toArray 56)).alloc (.cells #[.int .i64 0, .int .i64 0, .slice none 0 0, .slice none 0 0] 33)).alloc (.cells ([(.int .i64 S), (.int .i64 T), (.slice none 0 0), (.slice none 0 0)] : List Value).toArray 33) := ⟨_, rfl⟩
  have t0 : TPl w x0 [.int .i64 S, .int .i64 T, .slice A2 n2 c2, .slice A3 n3 c3] [(.int .i64 S), (.int .i64 T), (.slice none 0 0), (.slice none 0 0)] := by rw [hx0]; exact t0
  change Calls _ _ _ (((w.alloc (.cells ([.int .i64 S, .int .i64 T, .slice A2 n2 c2, .slice A3 n3 c3] : List Value).toArray 56)).alloc (.cells #[.int .i64 0, .int .i64 0, .slice none 0 0, .slice none 0 0] 33)).alloc (.cells ([(.int .i64 S), (.int .i64 T), (.slice none 0 0), (.slice none 0 0)] : List Value).toArray 33)) _
  rw [← hx0]
  clear hx0
  refine (toInt64S_any A2 n2 c2 P x0 ((H2.out.below t0.bel (Nat.le_refl _)).more t0.bel.size) b2).mono ?_
  rintro e w1 ⟨g2, rfl, hg2, hr2, hb1⟩
  have T1 := t0.call hb1
  have t1 := T1.set 2 (.slice (some ⟨g2, 0, none⟩) n2 n2)
  have t1 : TPl w (w1.setCell ⟨w.heap.size + 1 + 1, 2, none⟩ (.slice (some ⟨g2, 0, none⟩) n2 n2)) [.int .i64 S, .int .i64 T, .slice A2 n2 c2, .slice A3 n3 c3] [(.int .i64 S), (.int .i64 T), (.slice (some ⟨g2, 0, none⟩) n2 n2), (.slice none 0 0)] := t1
  have a2 := T1.out.cell 2
  have f2 := T1.out.frozen 2
  have p2 : w.heap.size + 3 ≤ g2 := Nat.le_trans t0.room hg2
  have r2 : Hid (Row (w1.setCell ⟨w.heap.size + 1 + 1, 2, none⟩ (.slice (some ⟨g2, 0, none⟩) n2 n2)) g2 2 (iv P)) := Row.far hr2 (show g2 ≠ w.heap.size + 1 + 1 by omega) _
  have k2 : g2 < (w1.setCell ⟨w.heap.size + 1 + 1, 2, none⟩ (.slice (some ⟨g2, 0, none⟩) n2 n2)).heap.size := by have := hr2.lt; simpa using this
  clear hr2
  have b'2 := t1.src.cell 3
  go_wp2_with fail
  clear a2 f2 b'2 T1
  obtain ⟨x1, hx⟩ : ∃ x, x = (w1.setCell ⟨w.heap.size + 1 + 1, 2, none⟩ (.slice (some ⟨g2, 0, none⟩) n2 n2)) := ⟨_, rfl⟩
  rw [← hx] at t1 k2 ⊢ r2
  clear hx
  refine (toBoolS_any A3 n3 c3 E x1 ((H3.out.below t1.bel (Nat.le_refl _)).more t1.bel.size) b3).mono ?_
  rintro e w2 ⟨g3, rfl, hg3, hr3, hb2⟩
  have T2 := t1.call hb2
  have t2 := T2.set 3 (.slice (some ⟨g3, 0, none⟩) n3 n3)
  have t2 : TPl w (w2.setCell ⟨w.heap.size + 1 + 1, 3, none⟩ (.slice (some ⟨g3, 0, none⟩) n3 n3)) [.int .i64 S, .int .i64 T, .slice A2 n2 c2, .slice A3 n3 c3] [(.int .i64 S), (.int .i64 T), (.slice (some ⟨g2, 0, none⟩) n2 n2), (.slice (some ⟨g3, 0, none⟩) n3 n3)] := t2
  have a3 := T2.out.cell 3
  have f3 := T2.out.frozen 3
  have p3 : w.heap.size + 3 ≤ g3 := Nat.le_trans t1.room hg3
  have o3 : g2 < g3 := Nat.lt_of_lt_of_le k2 hg3
  have r2 : Hid (Row (w2.setCell ⟨w.heap.size + 1 + 1, 3, none⟩ (.slice (some ⟨g3, 0, none⟩) n3 n3)) g2 2 (iv P)) := Row.far (r2.out.below hb2 r2.out.lt) (show g2 ≠ w.heap.size + 1 + 1 by omega) _
  have r3 : Hid (Row (w2.setCell ⟨w.heap.size + 1 + 1, 3, none⟩ (.slice (some ⟨g3, 0, none⟩) n3 n3)) g3 4 (bv E)) := Row.far hr3 (show g3 ≠ w.heap.size + 1 + 1 by omega) _
  have k3 : g3 < (w2.setCell ⟨w.heap.size + 1 + 1, 3, none⟩ (.slice (some ⟨g3, 0, none⟩) n3 n3)).heap.size := by have := hr3.lt; simpa using this
  clear hr3
  have ou0 := t2.out.cell 0
  have re0 := t2.res.cell 0
  have rf0 := t2.res.frozen 0
  have ou1 := t2.out.cell 1
  have re1 := t2.res.cell 1
  have rf1 := t2.res.frozen 1
  have ou2 := t2.out.cell 2
  have re2 := t2.res.cell 2
  have rf2 := t2.res.frozen 2
  have ou3 := t2.out.cell 3
  have re3 := t2.res.cell 3
  have rf3 := t2.res.frozen 3
  go_wp2_with fail
  clear ou0 re0 rf0 ou1 re1 rf1 ou2 re2 rf2 ou3 re3 rf3
  have hF := ((((t2.res.set_ 0 (.int .i64 S)).set_ 1 (.int .i64 T)).set_ 2 (.slice (some ⟨g2, 0, none⟩) n2 n2)).set_ 3 (.slice (some ⟨g3, 0, none⟩) n3 n3))
  have hbF := ((((t2.bel.setCell (p := ⟨w.heap.size + 1, 0, none⟩) (show w.heap.size ≤ w.heap.size + 1 by omega) (.int .i64 S)).setCell (p := ⟨w.heap.size + 1, 1, none⟩) (show w.heap.size ≤ w.heap.size + 1 by omega) (.int .i64 T)).setCell (p := ⟨w.heap.size + 1, 2, none⟩) (show w.heap.size ≤ w.heap.size + 1 by omega) (.slice (some ⟨g2, 0, none⟩) n2 n2)).setCell (p := ⟨w.heap.size + 1, 3, none⟩) (show w.heap.size ≤ w.heap.size + 1 by omega) (.slice (some ⟨g3, 0, none⟩) n3 n3))
  have q2 := ((((r2.out.far (p := ⟨w.heap.size + 1, 0, none⟩) (show g2 ≠ w.heap.size + 1 by omega) (.int .i64 S)).far (p := ⟨w.heap.size + 1, 1, none⟩) (show g2 ≠ w.heap.size + 1 by omega) (.int .i64 T)).far (p := ⟨w.heap.size + 1, 2, none⟩) (show g2 ≠ w.heap.size + 1 by omega) (.slice (some ⟨g2, 0, none⟩) n2 n2)).far (p := ⟨w.heap.size + 1, 3, none⟩) (show g2 ≠ w.heap.size + 1 by omega) (.slice (some ⟨g3, 0, none⟩) n3 n3))
  have q3 := ((((r3.out.far (p := ⟨w.heap.size + 1, 0, none⟩) (show g3 ≠ w.heap.size + 1 by omega) (.int .i64 S)).far (p := ⟨w.heap.size + 1, 1, none⟩) (show g3 ≠ w.heap.size + 1 by omega) (.int .i64 T)).far (p := ⟨w.heap.size + 1, 2, none⟩) (show g3 ≠ w.heap.size + 1 by omega) (.slice (some ⟨g2, 0, none⟩) n2 n2)).far (p := ⟨w.heap.size + 1, 3, none⟩) (show g3 ≠ w.heap.size + 1 by omega) (.slice (some ⟨g3, 0, none⟩) n3 n3))
  (try simp only [Exit.inBlock, Exit.then])
  refine bodyPost_ret (results_cell_row rfl _ _ (w.heap.size + 1) 33 #[(.int .i64 S), (.int .i64 T), (.slice (some ⟨g2, 0, none⟩) n2 n2), (.slice (some ⟨g3, 0, none⟩) n3 n3)] (0, 0) _ rfl hF Try.underlying33 rfl (by kernel_rfl)) rfl ?_
  refine ⟨_, rfl, ⟨g2, g3, by rw [N2.out, N3.out], by omega, o3, q2, q3⟩, hbF⟩
set_option maxHeartbeats 2000000 in
theorem eqPlain_same (v v' : Value) (S : Int) (T : Int) (P : List Int) (E : List Bool) (w : World) (h : Pl w w.heap.size v S T P E) (h' : Pl w w.heap.size v' S T P E) (b2 : P.length ≤ 4294967296) (b3 : E.length ≤ 4294967296) :
    Calls Try.prog 22 #[v, v'] w fun e w' => e = .returned (.bool true) ∧ Below w.heap.size w w' := by
  obtain ⟨A2, n2, c2, A3, n3, c3, rfl, h2, h3⟩ := h
  obtain ⟨A2', n2', c2', A3', n3', c3', rfl, h2', h3'⟩ := h'
  have m2 : n2 ≤ 4294967296 := by have := h2.len; rw [← this]; exact b2
  have e2 : n2 = n2' := by have h1 := h2.len; have h2 := h2'.len; rw [← h1, ← h2]
  subst e2
  have H2 := Lib.hid h2; have H2' := Lib.hid h2'
  have m3 : n3 ≤ 4294967296 := by have := h3.len; rw [← this]; exact b3
  have e3 : n3 = n3' := by have h1 := h3.len; have h2 := h3'.len; rw [← h1, ← h2]
  subst e3
  have H3 := Lib.hid h3; have H3' := Lib.hid h3'
  clear h2 h2' b2 h3 h3' b3
  have ra := Lib.hid ((Row.new w 33 [.int .i64 S, .int .i64 T, .slice A2 n2 c2, .slice A3 n3 c3]).alloc (.cells ([.int .i64 S, .int .i64 T, .slice A2' n2 c2', .slice A3' n3 c3'] : List Value).toArray 33))
  have rb := Row.new (w.alloc (.cells ([.int .i64 S, .int .i64 T, .slice A2 n2 c2, .slice A3 n3 c3] : List Value).toArray 33)) 33 [.int .i64 S, .int .i64 T, .slice A2' n2 c2', .slice A3' n3 c3']
  rw [show (w.alloc (.cells ([.int .i64 S, .int .i64 T, .slice A2 n2 c2, .slice A3 n3 c3] : List Value).toArray 33)).heap.size = w.heap.size + 1 by simp] at rb
  have rb := Lib.hid rb
  have bx : Below w.heap.size w ((w.alloc (.cells ([.int .i64 S, .int .i64 T, .slice A2 n2 c2, .slice A3 n3 c3] : List Value).toArray 33)).alloc (.cells ([.int .i64 S, .int .i64 T, .slice A2' n2 c2', .slice A3' n3 c3'] : List Value).toArray 33)) := ((Below.refl _ _).alloc (Nat.le_refl _) _).alloc (by simp) _
  have BX := Lib.hid bx; clear bx
  go_enter Try.func22, Try.ntmps22
  go_wp2_with fail
  obtain ⟨x0, hx0⟩ : ∃ x, x = (w.alloc (.cells ([.int .i64 S, .int .i64 T, .slice A2 n2 c2, .slice A3 n3 c3] : List Value).toArray 33)).alloc (.cells ([.int .i64 S, .int .i64 T, .slice A2' n2 c2', .slice A3' n3 c3'] : List Value).toArray 33) := ⟨_, rfl⟩
  have ra : Hid (Row x0 w.heap.size 33 [.int .i64 S, .int .i64 T, .slice A2 n2 c2, .slice A3 n3 c3]) := by rw [hx0]; exact ra
  have rb : Hid (Row x0 (w.heap.size + 1) 33 [.int .i64 S, .int .i64 T, .slice A2' n2 c2', .slice A3' n3 c3']) := by rw [hx0]; exact rb
  have bx : Hid (Below w.heap.size w x0) := by rw [hx0]; exact BX
  change Calls _ _ _ ((w.alloc (.cells ([.int .i64 S, .int .i64 T, .slice A2 n2 c2, .slice A3 n3 c3] : List Value).toArray 33)).alloc (.cells ([.int .i64 S, .int .i64 T, .slice A2' n2 c2', .slice A3' n3 c3'] : List Value).toArray 33)) _
  rw [← hx0]
  clear hx0 BX
  refine (eqInt64S_same A2 n2 c2 A2' c2' P x0 (B := x0.heap.size) (B' := x0.heap.size) ((H2.out.below bx.out (Nat.le_refl _)).more bx.out.size) ((H2'.out.below bx.out (Nat.le_refl _)).more bx.out.size) m2).mono ?_
  rintro e w1 ⟨rfl, hb1⟩
  have ra : Hid (Row w1 w.heap.size 33 [.int .i64 S, .int .i64 T, .slice A2 n2 c2, .slice A3 n3 c3]) := ra.out.below hb1 ra.out.lt
  have rb : Hid (Row w1 (w.heap.size + 1) 33 [.int .i64 S, .int .i64 T, .slice A2' n2 c2', .slice A3' n3 c3']) := rb.out.below hb1 rb.out.lt
  have bx : Hid (Below w.heap.size w w1) := bx.out.trans (hb1.mono bx.out.size)
  clear hb1
  have ca3 := ra.out.cell 3
  have cb3 := rb.out.cell 3
  go_wp2_with fail
  clear ca3 cb3
  refine (eqBoolS_same A3 n3 c3 A3' c3' E w1 (B := w1.heap.size) (B' := w1.heap.size) ((H3.out.below bx.out (Nat.le_refl _)).more bx.out.size) ((H3'.out.below bx.out (Nat.le_refl _)).more bx.out.size) m3).mono ?_
  rintro e w2 ⟨rfl, hb2⟩
  have ra : Hid (Row w2 w.heap.size 33 [.int .i64 S, .int .i64 T, .slice A2 n2 c2, .slice A3 n3 c3]) := ra.out.below hb2 ra.out.lt
  have rb : Hid (Row w2 (w.heap.size + 1) 33 [.int .i64 S, .int .i64 T, .slice A2' n2 c2', .slice A3' n3 c3']) := rb.out.below hb2 rb.out.lt
  have bx : Hid (Below w.heap.size w w2) := bx.out.trans (hb2.mono bx.out.size)
  clear hb2
  go_wp2_with fail
  go_ret
  exact ⟨rfl, bx.out⟩
end Go.Proofs.Ytbdfbmohdbigfaa
