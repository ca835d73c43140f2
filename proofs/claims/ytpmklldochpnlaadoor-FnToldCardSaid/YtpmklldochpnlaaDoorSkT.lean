/- The sound key of a text and of the text with three 'a' behind it (for FnTold). -/
import Derived.Test.YtpmklldochpnlaaDoorSkP

namespace Go.Proofs.YtpmklldochpnlaaDoor
set_option linter.unusedVariables false
def aaa : ByteArray := ⟨#[97, 97, 97]⟩
theorem b8_left {t x : ByteArray} {j : Nat} (h : j < t.size) : b8 (t ++ x) j = b8 t j := by
  have h1 : j < (t ++ x).size := by rw [ByteArray.size_append]; omega
  unfold b8
  rw [dif_pos h1, dif_pos h]
  exact ByteArray.getElem_append_left h
theorem b8_aaa {t : ByteArray} {j : Nat} (h1 : t.size ≤ j) (h2 : j < t.size + 3) : b8 (t ++ aaa) j = 97 := by
  have h3 : j < (t ++ aaa).size := by rw [ByteArray.size_append]; exact h2
  unfold b8
  rw [dif_pos h3, ByteArray.getElem_append_right h1]
  obtain ⟨k, rfl⟩ : ∃ k, j = t.size + k := ⟨j - t.size, by omega⟩
  have hk : k < 3 := by omega
  simp only [Nat.add_sub_cancel_left]
  match k, hk with
  | 0, _ | 1, _ | 2, _ => rfl
theorem snd_a : snd 97 = 48 := by decide
theorem skRun_aaa {t : ByteArray} : ∀ (f i : Nat) (key : List UInt8) (last : UInt8), i + f = t.size → skRun (t ++ aaa) (f + 3) i key last = skRun t f i key last
  | 0, i, key, last, h => by
    have e0 := b8_aaa (t := t) (j := i) (by omega) (by omega)
    have e1 := b8_aaa (t := t) (j := i + 1) (by omega) (by omega)
    have e2 := b8_aaa (t := t) (j := i + 2) (by omega) (by omega)
    rw [skRun_keep (by rw [e0]; decide) (.inl (by rw [e0]; exact snd_a)), skRun_keep (by rw [e1]; decide) (.inl (by rw [e1]; exact snd_a)), skRun_keep (by rw [e2]; decide) (.inl (by rw [e2]; exact snd_a))]
    rfl
  | f + 1, i, key, last, h => by
    have e : b8 (t ++ aaa) i = b8 t i := b8_left (by omega)
    rw [show f + 1 + 3 = (f + 3) + 1 by omega]
    by_cases hc : b8 t i = 104 ∨ b8 t i = 119
    · rw [skRun_skip (by rw [e]; exact hc), skRun_skip hc, skRun_aaa f _ _ _ (by omega)]
    · by_cases h1 : snd (b8 t i) = 48 ∨ snd (b8 t i) = last ∨ 4 ≤ key.length
      · rw [skRun_keep (by rw [e]; exact hc) (by rw [e]; exact h1), skRun_keep hc h1, e, skRun_aaa f _ _ _ (by omega)]
      · have a : snd (b8 t i) ≠ 48 := fun x => h1 (.inl x)
        have b : snd (b8 t i) ≠ last := fun x => h1 (.inr (.inl x))
        have c : key.length < 4 := by
          by_cases q : key.length < 4
          · exact q
          · exact absurd (.inr (.inr (by omega))) h1
        rw [skRun_put (by rw [e]; exact hc) (by rw [e]; exact a) (by rw [e]; exact b) c, skRun_put hc a b c, e, skRun_aaa f _ _ _ (by omega)]
theorem skAll_aaa {t : ByteArray} (h : 0 < t.size) : skAll (t ++ aaa) = skAll t := by
  unfold skAll
  rw [b8_left h, show (t ++ aaa).size - 1 = (t.size - 1) + 3 by rw [ByteArray.size_append]; show t.size + 3 - 1 = _; omega, skRun_aaa _ _ _ _ (by omega)]
theorem skRun_head {t : ByteArray} {c : UInt8} : ∀ (f i : Nat) (key : List UInt8) (last : UInt8), ∃ r, skRun t f i (c :: key) last = c :: r
  | 0, i, key, last => ⟨key, rfl⟩
  | f + 1, i, key, last => by
    rw [skRun]
    split
    · exact skRun_head f _ _ _
    · split
      · rw [List.cons_append]; exact skRun_head f _ _ _
      · exact skRun_head f _ _ _
theorem skV_four {t : ByteArray} (h : skB t = true) : (skV t).size = 4 ∧ b8 (skV t) 0 = b8 t 0 := by
  have hl := skAll_len t
  have hv : skV t = skPad (skAll t) (4 - (skAll t).length) := by unfold skV; rw [if_pos h]
  refine ⟨by rw [hv, skPad_size]; omega, ?_⟩
  obtain ⟨r, hr⟩ := skRun_head (t := t) (c := b8 t 0) (t.size - 1) 1 [] (snd (b8 t 0))
  have e : skAll t = b8 t 0 :: r := hr
  rw [hv, e]
  rfl
theorem skV_aaa {t : ByteArray} (h : skB t = true) (h2 : skB (t ++ aaa) = true) : skV (t ++ aaa) = skV t := by
  have h0 : 0 < t.size := by
    unfold skB at h
    rw [Bool.and_eq_true] at h
    exact of_decide_eq_true h.2
  unfold skV
  rw [if_pos h, if_pos h2, skAll_aaa h0]
end Go.Proofs.YtpmklldochpnlaaDoor
