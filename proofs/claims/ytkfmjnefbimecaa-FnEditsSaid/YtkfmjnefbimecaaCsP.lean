/- The common start of texts, plainly. -/
import Derived.Test.YtkfmjnefbimecaaCsT
import Derived.Test.YtkfmjnefbimecaaMgb

namespace Go.Proofs.Ytkfmjnefbimecaa
open Go.PlainAid
set_option linter.unusedVariables false
def alkF (a b : ByteArray) : Nat → Nat → Nat
  | 0, i => i
  | f + 1, i => if i < a.size ∧ i < b.size ∧ b8 a i = b8 b i then alkF a b f (i + 1) else i
/-- How many bytes of the beginnings are the same. -/
def alk (a b : ByteArray) : Nat := alkF a b a.size 0
structure IsAlk (a b : ByteArray) (n : Nat) : Prop where
  la : n ≤ a.size
  lb : n ≤ b.size
  eq : ∀ j, j < n → b8 a j = b8 b j
  fin : n = a.size ∨ n = b.size ∨ b8 a n ≠ b8 b n
theorem alkF_is (a b : ByteArray) : ∀ f i, i + f = a.size → i ≤ b.size → (∀ j, j < i → b8 a j = b8 b j) → IsAlk a b (alkF a b f i) := by
  intro f
  induction f with
  | zero => intro i h1 h2 h3; exact ⟨by simp [alkF]; omega, h2, h3, .inl (by simp [alkF]; omega)⟩
  | succ f ih =>
    intro i h1 h2 h3
    rw [alkF]
    split
    · rename_i h
      refine ih (i + 1) (by omega) (by omega) (fun j hj => ?_)
      rcases Nat.lt_or_ge j i with h' | h'
      · exact h3 j h'
      · rw [show j = i from by omega]; exact h.2.2
    · rename_i h
      refine ⟨by omega, h2, h3, ?_⟩
      by_cases hb : i = b.size
      · exact .inr (.inl hb)
      · exact .inr (.inr (fun e => h ⟨by omega, by omega, e⟩))
theorem alk_is (a b : ByteArray) : IsAlk a b (alk a b) := alkF_is a b a.size 0 (by omega) (by omega) (fun j hj => by omega)
theorem IsAlk.uniq {a b : ByteArray} {n m : Nat} (h : IsAlk a b n) (h' : IsAlk a b m) : n = m := by
  rcases Nat.lt_trichotomy n m with hlt | he | hlt
  · rcases h.fin with e | e | e
    · have := h'.la; omega
    · have := h'.lb; omega
    · exact absurd (h'.eq n hlt) e
  · exact he
  · rcases h'.fin with e | e | e
    · have := h.la; omega
    · have := h.lb; omega
    · exact absurd (h.eq m hlt) e
theorem alk_self (a : ByteArray) : alk a a = a.size := (alk_is a a).uniq ⟨Nat.le_refl _, Nat.le_refl _, fun _ _ => rfl, .inl rfl⟩
theorem b8_extract {a : ByteArray} {m j : Nat} (hm : m ≤ a.size) (hj : j < m) : b8 (a.extract 0 m) j = b8 a j := by
  have h1 : j < (a.extract 0 m).size := by rw [ByteArray.size_extract]; omega
  have h2 : j < a.size := by omega
  unfold b8
  rw [dif_pos h1, dif_pos h2]
  simp [ByteArray.getElem_extract]
theorem ext_b8 {a b : ByteArray} (hs : a.size = b.size) (h : ∀ j, j < a.size → b8 a j = b8 b j) : a = b := by
  apply ByteArray.ext_getElem hs
  intro i h1 h2
  have := h i h1
  unfold b8 at this
  rw [dif_pos h1, dif_pos h2] at this
  exact this
theorem extract_all (a : ByteArray) : a.extract 0 a.size = a := by
  apply ext_b8
  · rw [ByteArray.size_extract]; omega
  · intro j hj
    rw [ByteArray.size_extract] at hj
    exact b8_extract (Nat.le_refl _) (by omega)
/-- Whether t begins with s. -/
def hpB (t s : ByteArray) : Bool := decide (s.size ≤ t.size) && decide (t.extract 0 s.size = s)
theorem hp_iff {o t : ByteArray} {m : Nat} (h1 : alk o t ≤ m) (h2 : m ≤ o.size) : hpB t (o.extract 0 m) = true ↔ m = alk o t := by
  have hs : (o.extract 0 m).size = m := by rw [ByteArray.size_extract]; omega
  have ha := alk_is o t
  unfold hpB
  rw [hs, Bool.and_eq_true, decide_eq_true_iff, decide_eq_true_iff]
  constructor
  · rintro ⟨h3, h4⟩
    refine IsAlk.uniq ⟨h2, h3, fun j hj => ?_, ?_⟩ ha
    · have : b8 (t.extract 0 m) j = b8 (o.extract 0 m) j := by rw [h4]
      rw [b8_extract h3 hj, b8_extract h2 hj] at this
      exact this.symm
    · rcases Nat.lt_or_ge (alk o t) m with h | h
      · exfalso
        rcases ha.fin with e | e | e
        · omega
        · omega
        · have : b8 (t.extract 0 m) (alk o t) = b8 (o.extract 0 m) (alk o t) := by rw [h4]
          rw [b8_extract h3 h, b8_extract h2 h] at this
          exact e this.symm
      · rw [show m = alk o t from by omega]; exact ha.fin
  · rintro rfl
    refine ⟨ha.lb, ?_⟩
    apply ext_b8
    · rw [ByteArray.size_extract, ByteArray.size_extract]; have := ha.la; have := ha.lb; omega
    · intro j hj
      rw [ByteArray.size_extract] at hj
      have hj' : j < alk o t := by omega
      rw [b8_extract ha.lb hj', b8_extract ha.la hj', ha.eq j hj']
def csF : List ByteArray → ByteArray → ByteArray
  | [], o => o
  | t :: ts, o => csF ts (o.extract 0 (alk o t))
def csB (ss : List ByteArray) : Bool := ltB ss && decide (0 < ss.length)
def csV (ss : List ByteArray) : ByteArray := if csB ss then csF ss (ss.getD 0 ⟨#[]⟩) else ⟨#[]⟩
theorem drop_cons {ss : List ByteArray} {k : Nat} {x : ByteArray} (h : ss[k]? = some x) : ss.drop k = x :: ss.drop (k + 1) := by
  obtain ⟨hk, rfl⟩ := List.getElem?_eq_some_iff.1 h
  exact List.drop_eq_getElem_cons hk
theorem csF_step {ss : List ByteArray} {k : Nat} {x o : ByteArray} (h : ss[k]? = some x) : csF (ss.drop k) o = csF (ss.drop (k + 1)) (o.extract 0 (alk o x)) := by rw [drop_cons h, csF]
theorem csF_first {ss : List ByteArray} {x : ByteArray} (h : ss[0]? = some x) : csF ss x = csF (ss.drop 1) x := by
  have := csF_step (o := x) h
  rw [List.drop_zero, alk_self, extract_all] at this
  exact this
theorem csF_done (ss : List ByteArray) (o : ByteArray) : csF (ss.drop ss.length) o = o := by rw [List.drop_length]; rfl
end Go.Proofs.Ytkfmjnefbimecaa
