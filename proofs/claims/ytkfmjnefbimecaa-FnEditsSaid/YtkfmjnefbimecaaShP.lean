/- The longest text that is in both, plainly. -/
import Derived.Test.YtkfmjnefbimecaaMgb
import Derived.Lib.IndexMore

namespace Go.Proofs.Ytkfmjnefbimecaa
open Go.PlainAid
set_option linter.unusedVariables false
def exF (a b : ByteArray) : Nat → Nat → Nat → Nat
  | 0, _, _ => 0
  | f + 1, i, k => if i < a.size ∧ k < b.size ∧ b8 a i = b8 b k then exF a b f (i + 1) (k + 1) + 1 else 0
/-- How many bytes are the same from two places on. -/
def ext (a b : ByteArray) (i k : Nat) : Nat := exF a b (a.size - i) i k
theorem ext_yes {a b : ByteArray} {i k : Nat} (h : i < a.size ∧ k < b.size ∧ b8 a i = b8 b k) : ext a b i k = ext a b (i + 1) (k + 1) + 1 := by
  obtain ⟨f, hf⟩ : ∃ f, a.size - i = f + 1 := ⟨a.size - i - 1, by omega⟩
  rw [ext, hf, exF, if_pos h, ext, show a.size - (i + 1) = f from by omega]
theorem ext_no {a b : ByteArray} {i k : Nat} (h : ¬ (i < a.size ∧ k < b.size ∧ b8 a i = b8 b k)) : ext a b i k = 0 := by
  unfold ext
  cases hf : a.size - i with
  | zero => rfl
  | succ f => rw [exF, if_neg h]
theorem ext_ge {a b : ByteArray} : ∀ (n i k : Nat), i ≤ a.size → k ≤ b.size → (n ≤ ext a b i k ↔ i + n ≤ a.size ∧ k + n ≤ b.size ∧ ∀ j, j < n → b8 a (i + j) = b8 b (k + j)) := by
  intro n
  induction n with
  | zero => intro i k hi hk; exact ⟨fun _ => ⟨hi, hk, fun j hj => absurd hj (by omega)⟩, fun _ => Nat.zero_le _⟩
  | succ n ih =>
    intro i k hi hk
    by_cases h : i < a.size ∧ k < b.size ∧ b8 a i = b8 b k
    · rw [ext_yes h, Nat.succ_le_succ_iff, ih (i + 1) (k + 1) (by omega) (by omega)]
      constructor
      · rintro ⟨h1, h2, h3⟩
        refine ⟨by omega, by omega, fun j hj => ?_⟩
        cases j with
        | zero => exact h.2.2
        | succ j =>
          have := h3 j (by omega)
          rw [show i + (j + 1) = i + 1 + j from by omega, show k + (j + 1) = k + 1 + j from by omega]; exact this
      · rintro ⟨h1, h2, h3⟩
        refine ⟨by omega, by omega, fun j hj => ?_⟩
        have := h3 (j + 1) (by omega)
        rw [show i + (j + 1) = i + 1 + j from by omega, show k + (j + 1) = k + 1 + j from by omega] at this; exact this
    · rw [ext_no h]
      constructor
      · intro h'; omega
      · rintro ⟨h1, h2, h3⟩
        exact absurd ⟨by omega, by omega, h3 0 (by omega)⟩ h
theorem ext_room {a b : ByteArray} {i k : Nat} (hi : i ≤ a.size) (hk : k ≤ b.size) : i + ext a b i k ≤ a.size ∧ k + ext a b i k ≤ b.size := by
  have := (ext_ge (ext a b i k) i k hi hk).1 (Nat.le_refl _)
  exact ⟨this.1, this.2.1⟩
/-- (x, y) is the first pair of places of those before (I, K) where most bytes are the same, and these are l. -/
structure ShTo (a b : ByteArray) (I K x y l : Nat) : Prop where
  le : ∀ i k, i < a.size → k < b.size → (i < I ∨ i = I ∧ k < K) → ext a b i k ≤ l
  at_ : (l = 0 ∧ x = 0 ∧ y = 0) ∨ (0 < l ∧ x < a.size ∧ y < b.size ∧ ext a b x y = l ∧ (x < I ∨ x = I ∧ y < K) ∧ ∀ i k, i < a.size → k < b.size → (i < x ∨ i = x ∧ k < y) → ext a b i k < l)
theorem ShTo.zero (a b : ByteArray) : ShTo a b 0 0 0 0 0 := ⟨fun i k _ _ h => by omega, .inl ⟨rfl, rfl, rfl⟩⟩
theorem ShTo.more {a b : ByteArray} {I K x y l n : Nat} (h : ShTo a b I K x y l) (hI : I < a.size) (hK : K < b.size) (hn : ext a b I K = n) (hl : l < n) : ShTo a b I (K + 1) I K n := by
  subst hn
  refine ⟨fun i k hi hk hb => ?_, .inr ⟨by omega, hI, hK, rfl, by omega, fun i k hi hk hb => ?_⟩⟩
  · by_cases h1 : i = I ∧ k = K
    · rw [h1.1, h1.2]; exact Nat.le_refl _
    · have := h.le i k hi hk (by omega); omega
  · have := h.le i k hi hk (by omega); omega
theorem ShTo.same {a b : ByteArray} {I K x y l n : Nat} (h : ShTo a b I K x y l) (hn : ext a b I K = n) (hl : n ≤ l) : ShTo a b I (K + 1) x y l := by
  subst hn
  refine ⟨fun i k hi hk hb => ?_, ?_⟩
  · by_cases h1 : i = I ∧ k = K
    · rw [h1.1, h1.2]; exact hl
    · exact h.le i k hi hk (by omega)
  · rcases h.at_ with h' | ⟨h1, h2, h3, h4, h5, h6⟩
    · exact .inl h'
    · exact .inr ⟨h1, h2, h3, h4, by omega, h6⟩
theorem ShTo.row {a b : ByteArray} {I x y l : Nat} (h : ShTo a b I b.size x y l) : ShTo a b (I + 1) 0 x y l := by
  refine ⟨fun i k hi hk hb => h.le i k hi hk (by omega), ?_⟩
  rcases h.at_ with h' | ⟨h1, h2, h3, h4, h5, h6⟩
  · exact .inl h'
  · exact .inr ⟨h1, h2, h3, h4, by omega, h6⟩
theorem ShTo.uniq {a b : ByteArray} {x y l x' y' l' : Nat} (h : ShTo a b a.size 0 x y l) (h' : ShTo a b a.size 0 x' y' l') : x = x' ∧ y = y' ∧ l = l' := by
  rcases h.at_ with ⟨h1, h2, h3⟩ | ⟨h1, h2, h3, h4, h5, h6⟩
  · rcases h'.at_ with ⟨g1, g2, g3⟩ | ⟨g1, g2, g3, g4, g5, g6⟩
    · omega
    · have := h.le x' y' g2 g3 (by omega); omega
  · rcases h'.at_ with ⟨g1, g2, g3⟩ | ⟨g1, g2, g3, g4, g5, g6⟩
    · have := h'.le x y h2 h3 (by omega); omega
    · have e1 := h.le x' y' g2 g3 (by omega)
      have e2 := h'.le x y h2 h3 (by omega)
      rcases Nat.lt_trichotomy x x' with q | q | q
      · have := g6 x y h2 h3 (.inl q); omega
      · rcases Nat.lt_trichotomy y y' with p | p | p
        · have := g6 x y h2 h3 (.inr ⟨q, p⟩); omega
        · omega
        · have := h6 x' y' g2 g3 (.inr ⟨q.symm, p⟩); omega
      · have := h6 x' y' g2 g3 (.inl q); omega
theorem shTo_ex (a b : ByteArray) : ∃ x y l, ShTo a b a.size 0 x y l := by
  have row : ∀ I, I < a.size → ∀ K, K ≤ b.size → (∃ x y l, ShTo a b I 0 x y l) → ∃ x y l, ShTo a b I K x y l := by
    intro I hI K
    induction K with
    | zero => intro _ h; exact h
    | succ K ih =>
      intro hK h
      obtain ⟨x, y, l, h1⟩ := ih (by omega) h
      by_cases hl : l < ext a b I K
      · exact ⟨_, _, _, h1.more hI (by omega) rfl hl⟩
      · exact ⟨_, _, _, h1.same rfl (by omega)⟩
  have all : ∀ I, I ≤ a.size → ∃ x y l, ShTo a b I 0 x y l := by
    intro I
    induction I with
    | zero => intro _; exact ⟨_, _, _, ShTo.zero a b⟩
    | succ I ih =>
      intro hI
      obtain ⟨x, y, l, h1⟩ := row I (by omega) b.size (Nat.le_refl _) (ih (by omega))
      exact ⟨_, _, _, h1.row⟩
  exact all a.size (Nat.le_refl _)
/-- What a search from the longest on downwards finds. -/
theorem shTo_found {a b : ByteArray} {i k n : Nat} (h0 : 0 < n) (hi : i < a.size) (hk : k < b.size) (hup : ∀ i k, i < a.size → k < b.size → ext a b i k ≤ n) (hat : n ≤ ext a b i k)
    (hrow : ∀ i' k', i' < i → k' < b.size → ext a b i' k' < n) (hfst : ∀ k', k' < k → ext a b i k' < n) : ShTo a b a.size 0 i k n := by
  refine ⟨fun i' k' h1 h2 _ => hup i' k' h1 h2, .inr ⟨h0, hi, hk, by have := hup i k hi hk; omega, by omega, fun i' k' h1 h2 h => ?_⟩⟩
  rcases h with h | ⟨rfl, h⟩
  · exact hrow i' k' h h2
  · exact hfst k' h
theorem shTo_none {a b : ByteArray} (hup : ∀ i k, i < a.size → k < b.size → ext a b i k ≤ 0) : ShTo a b a.size 0 0 0 0 :=
  ⟨fun i' k' h1 h2 _ => hup i' k' h1 h2, .inl ⟨rfl, rfl, rfl⟩⟩
theorem list_get {s : ByteArray} {k : Nat} (h : k < s.size) : s.data.toList[k]? = some (b8 s k) := by
  have h' : k < s.data.size := h
  unfold b8
  rw [dif_pos h, Array.getElem?_toList, Array.getElem?_eq_getElem h']
  rfl
theorem occ_iff {a b : ByteArray} {i n k : Nat} (hn : i + n ≤ a.size) (h0 : 0 < n) : Lib.occAt b.data.toList (a.extract i (i + n)).data.toList k = true ↔ (k ≤ b.size ∧ n ≤ ext a b i k) := by
  have hs : (a.extract i (i + n)).data.toList.length = n := by
    rw [Array.length_toList]; show (a.extract i (i + n)).size = n; rw [ByteArray.size_extract]; omega
  have hb : b.data.toList.length = b.size := by rw [Array.length_toList]; rfl
  have hget : ∀ j, j < n → (a.extract i (i + n)).data.toList[j]? = some (b8 a (i + j)) := by
    intro j hj
    have h1 : j < (a.extract i (i + n)).size := by rw [ByteArray.size_extract]; omega
    rw [list_get h1]
    congr 1
    unfold b8
    rw [dif_pos h1, dif_pos (show i + j < a.size from by omega)]
    simp [ByteArray.getElem_extract]
  constructor
  · intro h
    rcases Lib.occAt_room h with hr | hr
    · rw [hs, hb] at hr
      refine ⟨by omega, (ext_ge n i k (by omega) (by omega)).2 ⟨hn, hr, fun j hj => ?_⟩⟩
      rw [Lib.occAt_iff_take _ _ _ (by rw [hs, hb]; exact hr), hs, beq_iff_eq] at h
      have h2 := hget j hj
      rw [← h, List.getElem?_take_of_lt hj, List.getElem?_drop, list_get (by omega)] at h2
      exact (Option.some.inj h2).symm
    · rw [hr] at hs; simp at hs; omega
  · rintro ⟨hk, hg⟩
    obtain ⟨h1, h2, h3⟩ := (ext_ge n i k (by omega) hk).1 hg
    rw [Lib.occAt_iff_take _ _ _ (by rw [hs, hb]; exact h2), hs, beq_iff_eq]
    apply List.ext_getElem?
    intro j
    rcases Nat.lt_or_ge j n with hj | hj
    · rw [List.getElem?_take_of_lt hj, List.getElem?_drop, list_get (by omega), hget j hj, h3 j hj]
    · rw [List.getElem?_eq_none (by rw [List.length_take]; omega), List.getElem?_eq_none (by rw [hs]; exact hj)]
/-- What strings.Index answers. -/
theorem index_is {a b : ByteArray} {i n : Nat} (hn : i + n ≤ a.size) (h0 : 0 < n) :
    (Lib.index b.data.toList (a.extract i (i + n)).data.toList = -1 ∧ ∀ k, k < b.size → ext a b i k < n) ∨
    ∃ k : Nat, Lib.index b.data.toList (a.extract i (i + n)).data.toList = (k : Int) ∧ k < b.size ∧ n ≤ ext a b i k ∧ ∀ k', k' < k → ext a b i k' < n := by
  have hb : b.data.toList.length = b.size := by rw [Array.length_toList]; rfl
  rcases Lib.index_spec b.data.toList (a.extract i (i + n)).data.toList with ⟨h1, h2⟩ | ⟨k, h1, h2, h3, h4⟩
  · refine .inl ⟨h1, fun k hk => ?_⟩
    have h5 := h2 k (by omega)
    rcases Nat.lt_or_ge (ext a b i k) n with h6 | h6
    · exact h6
    · rw [(occ_iff hn h0).2 ⟨by omega, h6⟩] at h5; cases h5
  · have h5 := (occ_iff hn h0).1 h3
    have h6 := (ext_ge n i k (by omega) h5.1).1 h5.2
    refine .inr ⟨k, h1, by omega, h5.2, fun k' hk' => ?_⟩
    have h7 := h4 k' hk'
    rcases Nat.lt_or_ge (ext a b i k') n with h8 | h8
    · exact h8
    · rw [(occ_iff hn h0).2 ⟨by omega, h8⟩] at h7; cases h7
end Go.Proofs.Ytkfmjnefbimecaa
