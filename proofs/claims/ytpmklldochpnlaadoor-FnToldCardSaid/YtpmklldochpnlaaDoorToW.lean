/- Numbers in words are read back (for FnTold), plainly. -/
import Derived.Test.YtpmklldochpnlaaDoorRwS
import Derived.Lib.IndexMore

namespace Go.Proofs.YtpmklldochpnlaaDoor
set_option linter.unusedVariables false
def hashW (l : List UInt8) : Nat := l.foldl (fun a c => a * 256 + c.toNat) 0
def tabW : List (Nat × Nat) := (onesL ++ tensL).zipIdx.map fun p => (hashW p.1.data.toList, if p.2 < 20 then p.2 else (p.2 - 18) * 10)
def lookW : List (Nat × Nat) → Nat → Nat
  | [], h => 0
  | (a, b) :: r, h => if a = h then b else lookW r h
def hunH : Nat := hashW [104, 117, 110, 100, 114, 101, 100]
def stepW (T : List (Nat × Nat)) (H acc h : Nat) : Nat := if h = H then acc * 100 else acc + lookW T h
def dW (T : List (Nat × Nat)) (H : Nat) : List UInt8 → Nat → Nat → Nat
  | [], acc, h => stepW T H acc h
  | c :: r, acc, h => if c.toNat ≤ 45 then dW T H r (stepW T H acc h) 0 else dW T H r acc (h * 256 + c.toNat)
def wdB (T : List (Nat × Nat)) (H n : Nat) : Bool := let l := (w1000 n).data.toList; decide (dW T H l 0 0 = n) && (match l.getLast? with | some c => decide (c ≠ 32) | none => false)
def wdAll : Bool := let T := tabW; let H := hunH; (List.range 1000).all (wdB T H)
theorem wdAll_yes : wdAll = true := by decide +kernel
theorem wd_at {n : Nat} (h : n < 1000) : dW tabW hunH (w1000 n).data.toList 0 0 = n ∧ ∃ c, (w1000 n).data.toList.getLast? = some c ∧ c ≠ 32 := by
  have h1 := List.all_eq_true.1 wdAll_yes n (List.mem_range.2 h)
  unfold wdB at h1
  rw [Bool.and_eq_true] at h1
  refine ⟨of_decide_eq_true h1.1, ?_⟩
  have h2 := h1.2
  split at h2
  · rename_i c hc
    exact ⟨c, hc, of_decide_eq_true h2⟩
  · cases h2
theorem w1000_inj {m n : Nat} (hm : m < 1000) (hn : n < 1000) (h : w1000 m = w1000 n) : m = n := by
  have a := (wd_at hm).1
  have b := (wd_at hn).1
  rw [h, b] at a
  exact a.symm
theorem smF_hit {t : ByteArray} {m : Nat} (hm : w1000 m = t) : ∀ (f n : Nat), n ≤ m → m < n + f → (smF t f n).isSome = true
  | 0, n, h1, h2 => by omega
  | f + 1, n, h1, h2 => by
    rw [smF]
    split
    · rfl
    · rename_i e
      refine smF_hit hm f (n + 1) ?_ (by omega)
      by_cases h : n = m
      · subst h; exact absurd hm e
      · omega
theorem sm_back {n : Nat} (h : n < 1000) : sm (w1000 n) = some n := by
  have h1 : (sm (w1000 n)).isSome = true := smF_hit rfl 1000 0 (by omega) (by omega)
  obtain ⟨k, hk⟩ := Option.isSome_iff_exists.1 h1
  have h2 := sm_some hk
  rw [hk, w1000_inj h2.2 h h2.1]
theorem sm_space {t : ByteArray} {l : List UInt8} (h : t.data.toList = l ++ [32]) : sm t = none := by
  cases hs : sm t with
  | none => rfl
  | some m =>
    have h2 := sm_some hs
    obtain ⟨c, hc, hne⟩ := (wd_at h2.2).2
    rw [h2.1, h] at hc
    simp at hc
    exact absurd hc.symm hne
theorem sm_nil {t : ByteArray} (h : t.data.toList = []) : sm t = none := by
  cases hs : sm t with
  | none => rfl
  | some m =>
    have h2 := sm_some hs
    obtain ⟨c, hc, hne⟩ := (wd_at h2.2).2
    rw [h2.1, h] at hc
    cases hc
theorem mk9_at (j : Nat) (h1 : 1 ≤ j) (h2 : j < 9) : mk9[j]? ≠ some 32 := by
  have h : ∀ k : Fin 8, mk9[k.1 + 1]? ≠ some 32 := by decide
  have := h ⟨j - 1, by omega⟩
  rwa [show j - 1 + 1 = j by omega] at this
theorem noMk_occ {n : Nat} (h : n < 1000) {j : Nat} : Lib.occAt (w1000 n).data.toList mk9 j = false := by
  rcases Lib.index_spec (w1000 n).data.toList mk9 with ⟨_, h2⟩ | ⟨i, h1, _⟩
  · by_cases hj : j ≤ (w1000 n).data.toList.length
    · exact h2 j hj
    · unfold Lib.occAt
      rw [List.drop_eq_nil_of_le (by omega)]
      rfl
  · have := w1000_noMk h; omega
theorem occ_in {L R : List UInt8} {k : Nat} (h : Lib.occAt (L ++ R) mk9 k = true) (hk : k + 9 ≤ L.length) : Lib.occAt L mk9 k = true := by
  have h9 := mk9_len
  rw [Lib.occAt_iff_take _ _ _ (by rw [List.length_append]; omega)] at h
  rw [Lib.occAt_iff_take _ _ _ (by omega)]
  rw [← h, List.drop_append_of_le_length (by omega), List.take_append_of_le_length (by rw [List.length_drop]; omega)]
theorem occ_at {L : List UInt8} {k j : Nat} (h : Lib.occAt L mk9 k = true) (hj : j < 9) : L[k + j]? = mk9[j]? := by
  unfold Lib.occAt at h
  obtain ⟨r, hr⟩ := List.isPrefixOf_iff_prefix.1 h
  have h9 := mk9_len
  rw [← List.getElem?_drop, ← hr, List.getElem?_append_left (by omega)]
/-- The mark stands behind the thousands. -/
theorem mk_place {g : Nat} (h : g < 1000) (R : List UInt8) : Lib.index ((w1000 g).data.toList ++ (mk9 ++ R)) mk9 = ((w1000 g).data.toList.length : Int) := by
  have h9 := mk9_len
  refine Lib.index_first (by rw [List.length_append]; omega) ?_ (fun j hj => ?_)
  · unfold Lib.occAt
    rw [List.drop_left' rfl]
    exact List.isPrefixOf_iff_prefix.2 ⟨R, rfl⟩
  · cases ho : Lib.occAt ((w1000 g).data.toList ++ (mk9 ++ R)) mk9 j with
    | false => rfl
    | true =>
      by_cases hk : j + 9 ≤ (w1000 g).data.toList.length
      · have := occ_in ho hk
        rw [noMk_occ h] at this
        cases this
      · exfalso
        have e := occ_at (j := (w1000 g).data.toList.length - j) ho (by omega)
        rw [show j + ((w1000 g).data.toList.length - j) = (w1000 g).data.toList.length by omega, List.getElem?_append_right (Nat.le_refl _), Nat.sub_self, List.getElem?_append_left (by omega)] at e
        exact mk9_at _ (by omega) (by omega) (e.symm.trans rfl)
theorem mk_nosp {g : Nat} (h : g < 1000) : Lib.index ((w1000 g).data.toList ++ [32]) mk9 = -1 := by
  have h9 := mk9_len
  refine Lib.index_none (fun j hj => ?_)
  cases ho : Lib.occAt ((w1000 g).data.toList ++ [32]) mk9 j with
  | false => rfl
  | true =>
    by_cases hk : j + 9 ≤ (w1000 g).data.toList.length
    · have := occ_in ho hk
      rw [noMk_occ h] at this
      cases this
    · exfalso
      rcases Lib.occAt_room ho with hr | hr
      · rw [List.length_append, List.length_singleton] at hr
        have e := occ_at (j := 8) ho (by omega)
        rw [show j + 8 = (w1000 g).data.toList.length by omega, List.getElem?_append_right (Nat.le_refl _), Nat.sub_self] at e
        exact absurd e (by decide)
      · exact absurd hr (by decide)
theorem rwR_big {t : ByteArray} {W R : List UInt8} (h : t.data.toList = W ++ (mk9 ++ R)) : rwR t W.length = R := by
  unfold rwR
  rw [h, ← List.drop_drop, List.drop_left' rfl, List.drop_left' mk9_len]
theorem rwH_big {t : ByteArray} {g : Nat} {R : List UInt8} (h : t.data.toList = (w1000 g).data.toList ++ (mk9 ++ R)) : rwH t (w1000 g).data.toList.length = w1000 g := by
  apply ba_ext
  unfold rwH
  rw [h, List.take_left' rfl]
theorem bl_of (b : ByteArray) : bl b.data.toList = b := by apply ba_ext; simp [bl]
theorem wAll_list {n : Nat} (h0 : 1000 ≤ n) (h : n < 1000000) : (wAll n).data.toList = (w1000 (n / 1000)).data.toList ++ (mk9 ++ (if n % 1000 = 0 then [] else 32 :: (w1000 (n % 1000)).data.toList)) := by
  unfold wAll
  rw [if_neg (by omega)]
  split
  · rw [app_list, th_mk, List.append_nil]
  · rw [app_list, app_list, app_list, th_mk, sp_list, List.append_assoc, List.append_assoc]; rfl
/-- What was written is read back. -/
theorem rw_back {n : Nat} (h : n < 1000000) : rwV (wAll n) = ((n : Int), true) := by
  by_cases hn : n < 1000
  · rw [show wAll n = w1000 n from if_pos hn, rwV_no (w1000_noMk hn), sm_back hn]; rfl
  · have hl := wAll_list (by omega) h
    have hg : n / 1000 < 1000 := by omega
    have hi := mk_place hg (if n % 1000 = 0 then [] else 32 :: (w1000 (n % 1000)).data.toList)
    rw [← hl] at hi
    rw [rwV_at hi]
    unfold rwS
    rw [rwR_big hl, rwH_big hl, sm_back hg]
    by_cases hm : n % 1000 = 0
    · rw [if_pos hm]
      have : go0 (some (n / 1000)) = n / 1000 := rfl
      simp only [this]
      rw [Prod.mk.injEq]
      refine ⟨by omega, ?_⟩
      rw [show (some (n / 1000)).isSome = true from rfl, decide_eq_true (by omega)]; rfl
    · rw [if_neg hm]
      simp only [bl_of]
      rw [sm_back (n := n % 1000) (by omega)]
      have e1 : go0 (some (n / 1000)) = n / 1000 := rfl
      have e2 : go0 (some (n % 1000)) = n % 1000 := rfl
      rw [e1, e2, if_neg (by simp), if_neg (by simp; omega)]
      rw [Prod.mk.injEq]
      exact ⟨by omega, rfl⟩
/-- With a blank behind it: no words of a number. -/
theorem rw_blank {n : Nat} (h : n < 1000000) : (rwV (wAll n ++ ⟨#[32]⟩)).2 = false := by
  by_cases hn : n < 1000
  · have hl : (wAll n ++ ⟨#[32]⟩ : ByteArray).data.toList = (w1000 n).data.toList ++ [32] := by
      rw [show wAll n = w1000 n from if_pos hn, app_list]
    rw [rwV_no (by rw [hl]; exact mk_nosp hn), sm_space hl]; rfl
  · have hl0 := wAll_list (by omega) h
    have hg : n / 1000 < 1000 := by omega
    have hl : (wAll n ++ ⟨#[32]⟩ : ByteArray).data.toList = (w1000 (n / 1000)).data.toList ++ (mk9 ++ ((if n % 1000 = 0 then [] else 32 :: (w1000 (n % 1000)).data.toList) ++ [32])) := by
      rw [app_list, hl0, List.append_assoc, List.append_assoc]
    have hi := mk_place hg ((if n % 1000 = 0 then [] else 32 :: (w1000 (n % 1000)).data.toList) ++ [32])
    rw [← hl] at hi
    rw [rwV_at hi]
    unfold rwS
    rw [rwR_big hl]
    by_cases hm : n % 1000 = 0
    · rw [if_pos hm]
      show (if (32 : UInt8) ≠ 32 then _ else _ : Int × Bool).2 = false
      rw [if_neg (by simp), sm_nil (t := bl []) rfl, if_pos (by simp)]
    · rw [if_neg hm, List.cons_append]
      generalize hL : (w1000 (n % 1000)).data.toList ++ [32] = L
      have hs : sm (bl L) = none := sm_space (l := (w1000 (n % 1000)).data.toList) (by rw [hL]; simp [bl])
      show (if (32 : UInt8) ≠ 32 then _ else _ : Int × Bool).2 = false
      rw [if_neg (by simp), hs, if_pos (by simp)]
theorem wAll_ne {n : Nat} (h : n < 1000000) : (wAll n).data.toList ≠ [] := by
  intro e
  by_cases hn : n < 1000
  · rw [show wAll n = w1000 n from if_pos hn] at e
    obtain ⟨c, hc, _⟩ := (wd_at hn).2
    rw [e] at hc; cases hc
  · have hl := wAll_list (by omega) h
    rw [e] at hl
    have := congrArg List.length hl
    rw [List.length_append, List.length_append, mk9_len] at this
    simp at this
    omega
end Go.Proofs.YtpmklldochpnlaaDoor
