/- Several texts in one: Near texts in order, plainly: a list of places that is sorted by a key is one. NearShared of both programs. -/
import Derived.Test.YtkfmjnefbimecaaMge

namespace Go.Proofs.Ytkfmjnefbimecaa
set_option linter.unusedVariables false
/-- Sorted by f, each once. -/
def SortK (f : Nat → Int) (l : List Nat) : Prop := l.Pairwise fun a b => f a < f b
theorem sortK_uniq (f : Nat → Int) : ∀ (l l' : List Nat), SortK f l → SortK f l' → (∀ x, x ∈ l ↔ x ∈ l') → l = l' := by
  intro l
  induction l with
  | nil =>
    intro l' _ _ h
    cases l' with
    | nil => rfl
    | cons y ys => exact absurd ((h y).2 (by simp)) (by simp)
  | cons x xs ih =>
    intro l' h1 h2 h
    cases l' with
    | nil => exact absurd ((h x).1 (by simp)) (by simp)
    | cons y ys =>
      have a1 := List.pairwise_cons.1 h1
      have a2 := List.pairwise_cons.1 h2
      have hxy : x = y := by
        rcases List.mem_cons.1 ((h x).1 (by simp)) with e | e
        · exact e
        · have q1 := a2.1 x e
          rcases List.mem_cons.1 ((h y).2 (by simp)) with e' | e'
          · exact e'.symm
          · have q2 := a1.1 y e'
            omega
      subst hxy
      rw [ih ys a1.2 a2.2 (fun z => ?_)]
      constructor
      · intro hz
        rcases List.mem_cons.1 ((h z).1 (List.mem_cons_of_mem _ hz)) with e | e
        · subst e; have := a1.1 z hz; omega
        · exact e
      · intro hz
        rcases List.mem_cons.1 ((h z).2 (List.mem_cons_of_mem _ hz)) with e | e
        · subst e; have := a2.1 z hz; omega
        · exact e
theorem sortK_snoc {f : Nat → Int} {l : List Nat} {x : Nat} (h : SortK f l) (hx : ∀ y ∈ l, f y < f x) : SortK f (l ++ [x]) :=
  List.pairwise_append.2 ⟨h, by simp, fun a ha b hb => by simp at hb; subst hb; exact hx a ha⟩
section
variable (cs : Nat → Int) (n : Nat)
def ntKey (j : Nat) : Int := cs j * 64 + j
/-- The places j < m whose cost is q. -/
def ntAt (q : Int) (m : Nat) : List Nat := (List.range m).filter fun j => decide (cs j = q)
/-- The places in order, of the costs below q. -/
def ntTo : Nat → List Nat
  | 0 => []
  | q + 1 => ntTo q ++ ntAt cs (q : Int) n
theorem ntAt_succ_yes {q : Int} {m : Nat} (h : cs m = q) : ntAt cs q (m + 1) = ntAt cs q m ++ [m] := by
  simp [ntAt, List.range_succ, List.filter_append, h]
theorem ntAt_succ_no {q : Int} {m : Nat} (h : cs m ≠ q) : ntAt cs q (m + 1) = ntAt cs q m := by
  simp [ntAt, List.range_succ, List.filter_append, h]
theorem mem_ntAt {q : Int} {m x : Nat} : x ∈ ntAt cs q m ↔ x < m ∧ cs x = q := by simp [ntAt]
theorem mem_ntTo (h0 : ∀ j, 0 ≤ cs j) {q x : Nat} : x ∈ ntTo cs n q ↔ x < n ∧ cs x < q := by
  induction q with
  | zero => simp [ntTo]; intro _; exact h0 x
  | succ q ih =>
    rw [ntTo, List.mem_append, ih, mem_ntAt]
    constructor
    · rintro (⟨a, b⟩ | ⟨a, b⟩) <;> exact ⟨a, by omega⟩
    · rintro ⟨a, b⟩
      by_cases h : cs x = q
      · exact .inr ⟨a, h⟩
      · exact .inl ⟨a, by omega⟩
theorem sort_ntAt (q : Int) (m : Nat) : SortK (ntKey cs) (ntAt cs q m) := by
  induction m with
  | zero => simp [ntAt, SortK]
  | succ m ih =>
    by_cases h : cs m = q
    · rw [ntAt_succ_yes cs h]
      refine sortK_snoc ih (fun y hy => ?_)
      have := (mem_ntAt cs).1 hy
      unfold ntKey
      rw [this.2, h]; omega
    · rw [ntAt_succ_no cs h]; exact ih
theorem sort_ntTo (h0 : ∀ j, 0 ≤ cs j) (hn : n ≤ 64) (q : Nat) : SortK (ntKey cs) (ntTo cs n q) := by
  induction q with
  | zero => simp [ntTo, SortK]
  | succ q ih =>
    refine List.pairwise_append.2 ⟨ih, sort_ntAt cs _ _, fun a ha b hb => ?_⟩
    have h1 := (mem_ntTo cs n h0).1 ha
    have h2 := (mem_ntAt cs).1 hb
    unfold ntKey
    rw [h2.2]; omega
end
/-- A place put where it belongs. -/
theorem sort_put (cs : Nat → Int) {A B : List Nat} {i : Nat} (h : SortK (ntKey cs) (A ++ B)) (hi : ∀ x, x ∈ A ++ B → x < i) (h64 : i < 64) (hB : ∀ b, b ∈ B → cs i < cs b)
    (hA : A = [] ∨ ∃ A' x, A = A' ++ [x] ∧ cs x ≤ cs i) : SortK (ntKey cs) (A ++ i :: B) := by
  have hp := List.pairwise_append.1 h
  have hAi : ∀ a, a ∈ A → ntKey cs a < ntKey cs i := by
    intro a ha
    rcases hA with rfl | ⟨A', x, rfl, hx⟩
    · simp at ha
    · have hxi := hi x (by simp)
      have hai := hi a (by simp at ha ⊢; rcases ha with h | h; exact .inl h; exact .inr (.inl h))
      rcases List.mem_append.1 ha with h' | h'
      · have := (List.pairwise_append.1 hp.1).2.2 a h' x (by simp)
        unfold ntKey at this ⊢; omega
      · have : a = x := by simpa using h'
        subst this
        unfold ntKey; omega
  refine List.pairwise_append.2 ⟨hp.1, List.pairwise_cons.2 ⟨fun b hb => ?_, hp.2.1⟩, fun a ha b hb => ?_⟩
  · have h1 := hB b hb
    unfold ntKey; omega
  · rcases List.mem_cons.1 hb with rfl | hb
    · exact hAi a ha
    · exact hp.2.2 a ha b hb
open Go.PlainAid in
theorem sw_max (a b : ByteArray) : ∀ n i k, i + k ≤ n → sw a b i k ≤ (max i k : Nat) := by
  intro n
  induction n with
  | zero =>
    intro i k h
    obtain rfl : i = 0 := by omega
    obtain rfl : k = 0 := by omega
    simp [sw_row0]
  | succ n ih =>
    intro i k h
    rcases Nat.eq_zero_or_pos i with rfl | hi
    · rw [sw_row0]; omega
    · rcases Nat.eq_zero_or_pos k with rfl | hk
      · rw [sw_col0]; omega
      · obtain ⟨i, rfl⟩ : ∃ j, i = j + 1 := ⟨i - 1, by omega⟩
        obtain ⟨k, rfl⟩ : ∃ j, k = j + 1 := ⟨k - 1, by omega⟩
        have h1 := ih i k (by omega)
        have h4 : sw3 a b i k ≤ (max (i + 1) (k + 1) : Nat) := by
          unfold sw3; split <;> omega
        by_cases hg : swG a b i k
        · rw [sw_yes a b hg]; omega
        · rw [sw_no a b hg]; exact h4
theorem sw_48 {a b : ByteArray} (ha : a.size ≤ 48) (hb : b.size ≤ 48) : 0 ≤ sw a b a.size b.size ∧ sw a b a.size b.size ≤ 48 := by
  have h1 := sw_max a b _ a.size b.size (Nat.le_refl _)
  have h2 := sw_bd a b _ a.size b.size (Nat.le_refl _)
  omega
end Go.Proofs.Ytkfmjnefbimecaa


namespace Go.Proofs.Ytkfmjnefbimecaa
open Go.RowKit Go.PlainAid
set_option linter.unusedVariables false
def nshB (ss : List ByteArray) (t : ByteArray) (k : Int) : Bool := nsB ss t && inB k 1 8
theorem lt_parts {ss : List ByteArray} (h : ltB ss = true) : ss.length ≤ 32 ∧ ss.all txtB = true := by
  have h' : (decide (ss.length ≤ 32) && ss.all txtB) = true := h
  rw [Bool.and_eq_true] at h'
  exact ⟨of_decide_eq_true h'.1, h'.2⟩
set_option maxHeartbeats 1000000 in
theorem iNearShared_any (A : Option Addr) (n c : Nat) (ss : List ByteArray) (t : ByteArray) (k : Int) (w : World) (h : SlS w w.heap.size A n ss) (hn : n ≤ maxLen) (wt : t.size ≤ maxLen) :
    Calls Try.prog 40 #[.slice A n c, .string t, .int .i64 k] w fun e w' => ∃ v, e = .returned (.tuple #[v, .bool (nshB ss t k)]) ∧ NsOut w' w.heap.size v (nshB ss t k) (nrs ss t) ∧ Below w.heap.size w w' := by
  have hS := iSwapCosts_any A n c ss t w h hn wt
  clear h
  by_cases h3 : inB k 1 8 = true
  · have hB := Lib.hid (show nshB ss t k = nsB ss t by rw [nshB, h3, Bool.and_true])
    go_enter Try.func40, Try.ntmps40
    go_wp2_with (first | (go_at_call 91; refine (iIn_any _ _ _ _).mono ?_; rintro e w' ⟨rfl, hw⟩; subst hw) | (go_at_call 90; refine hS.mono ?_; rintro e w2 ⟨v, rfl, hv, hb2⟩; clear hS))
    go_ret2
    exact ⟨v, by rw [hB.out]; rfl, by rw [hB.out]; exact hv, hb2⟩
  · have h3' : inB k 1 8 = false := by simpa using h3
    have hB := Lib.hid (show nshB ss t k = false by rw [nshB, h3', Bool.and_false])
    clear h3 hS
    go_enter Try.func40, Try.ntmps40
    go_wp2_with (first | (go_at_call 91; refine (iIn_any _ _ _ _).mono ?_; rintro e w' ⟨rfl, hw⟩; subst hw))
    go_ret2
    exact ⟨_, by rw [hB.out]; rfl, by rw [NsOut, hB.out]; rfl, Below.refl _ _⟩
end Go.Proofs.Ytkfmjnefbimecaa
