/- Numbers read from words, plainly: what both programs answer is the same. -/
import Derived.Test.YtpmklldochpnlaaDoorNumW
import Derived.Lib.IndexMore

namespace Go.Proofs.YtpmklldochpnlaaDoor
set_option linter.unusedVariables false
def smF (t : ByteArray) : Nat → Nat → Option Nat
  | 0, _ => none
  | f + 1, n => if w1000 n = t then some n else smF t f (n + 1)
/-- The number below 1000 with these words. -/
def sm (t : ByteArray) : Option Nat := smF t 1000 0
theorem smF_some {t : ByteArray} : ∀ {f n m : Nat}, smF t f n = some m → w1000 m = t ∧ m < n + f
  | 0, n, m, h => by cases h
  | f + 1, n, m, h => by
    rw [smF] at h
    split at h
    · cases h; exact ⟨by assumption, by omega⟩
    · have := smF_some h; exact ⟨this.1, by omega⟩
theorem sm_some {t : ByteArray} {m : Nat} (h : sm t = some m) : w1000 m = t ∧ m < 1000 := by
  have := smF_some h; exact ⟨this.1, by omega⟩
theorem smF_here {t : ByteArray} {f n : Nat} (h : w1000 n = t) : smF t (f + 1) n = some n := by rw [smF, if_pos h]
theorem smF_next {t : ByteArray} {f n : Nat} (h : w1000 n ≠ t) : smF t (f + 1) n = smF t f (n + 1) := by rw [smF, if_neg h]
def mk9 : List UInt8 := thousand.data.toList
def noMk (k : Nat) : Bool := (List.range k).all fun n => decide (Lib.index (w1000 n).data.toList mk9 = -1)
theorem noMk_all : noMk 1000 = true := by decide +kernel
theorem w1000_noMk {n : Nat} (h : n < 1000) : Lib.index (w1000 n).data.toList mk9 = -1 :=
  of_decide_eq_true (List.all_eq_true.1 noMk_all n (List.mem_range.2 h))
theorem ba_ext {a b : ByteArray} (h : a.data.toList = b.data.toList) : a = b := by
  cases a; cases b; congr 1; exact Array.toList_inj.1 h
theorem sm_none_of_mk {t : ByteArray} (h : Lib.index t.data.toList mk9 ≠ -1) : sm t = none := by
  cases hs : sm t with
  | none => rfl
  | some m =>
    have := sm_some hs
    rw [← this.1] at h
    exact absurd (w1000_noMk this.2) h
/-- The two texts around the mark. -/
def rwH (t : ByteArray) (i : Nat) : ByteArray := ⟨(t.data.toList.take i).toArray⟩
def rwR (t : ByteArray) (i : Nat) : List UInt8 := t.data.toList.drop (i + 9)
def bl (l : List UInt8) : ByteArray := ⟨l.toArray⟩
def go0 (o : Option Nat) : Nat := o.getD 0
/-- What the reference answers if the mark stands at place i. -/
def rwS (t : ByteArray) (i : Nat) : Int × Bool :=
  match rwR t i with
  | [] => ((go0 (sm (rwH t i)) : Int) * 1000, (sm (rwH t i)).isSome && decide (0 < go0 (sm (rwH t i))))
  | c :: l => if c ≠ 32 then (0, false)
    else if (sm (rwH t i)).isNone ∨ (sm (bl l)).isNone ∨ go0 (sm (rwH t i)) = 0 ∨ go0 (sm (bl l)) = 0 then (0, false)
    else ((go0 (sm (rwH t i)) : Int) * 1000 + go0 (sm (bl l)), true)
def rwM : List UInt8 → Nat
  | [] => 0
  | _ :: l => go0 (sm (bl l))
def rwN (t : ByteArray) (i : Nat) : Nat := go0 (sm (rwH t i)) * 1000 + rwM (rwR t i)
/-- What the program answers there. -/
def rwI (t : ByteArray) (i : Nat) : Int × Bool :=
  if (sm (rwH t i)).isNone ∨ rwN t i = 0 ∨ wAll (rwN t i) ≠ t then (0, false) else ((rwN t i : Int), true)
theorem app_list (a b : ByteArray) : (a ++ b).data.toList = a.data.toList ++ b.data.toList := by simp
theorem wAll_big {h m : Nat} (h0 : 0 < h) (hm : m < 1000) : wAll (h * 1000 + m) = if m = 0 then w1000 h ++ thousand else w1000 h ++ thousand ++ ⟨#[32]⟩ ++ w1000 m := by
  unfold wAll
  rw [if_neg (by omega), show (h * 1000 + m) % 1000 = m from by omega, show (h * 1000 + m) / 1000 = h from by omega]
theorem rw_parts {t : ByteArray} {i : Nat} (h : Lib.index t.data.toList mk9 = (i : Int)) : t.data.toList = t.data.toList.take i ++ (mk9 ++ rwR t i) := by
  rcases Lib.index_spec t.data.toList mk9 with ⟨h1, _⟩ | ⟨k, h1, h2, h3, _⟩
  · omega
  · obtain rfl : k = i := by omega
    unfold Lib.occAt at h3
    obtain ⟨r, hr⟩ := List.isPrefixOf_iff_prefix.1 h3
    have h4 : rwR t k = r := by
      unfold rwR
      rw [← List.drop_drop, ← hr]
      exact List.drop_left' rfl
    rw [h4, hr, List.take_append_drop]
theorem mk9_len : mk9.length = 9 := by decide
theorem th_mk : thousand.data.toList = mk9 := rfl
theorem sp_list : (⟨#[32]⟩ : ByteArray).data.toList = [32] := rfl
theorem rw_same {t : ByteArray} {i : Nat} (h : Lib.index t.data.toList mk9 = (i : Int)) : rwI t i = rwS t i := by
  have hp := rw_parts h
  have hnm : Lib.index t.data.toList mk9 ≠ -1 := by omega
  have hno : ∀ n, n < 1000 → w1000 n ≠ t := fun n hn e => hnm (by rw [← e]; exact w1000_noMk hn)
  have hH : (rwH t i).data.toList = t.data.toList.take i := by simp [rwH]
  obtain ⟨H, hHe⟩ : ∃ H, t.data.toList.take i = H := ⟨_, rfl⟩
  rw [hHe] at hp hH
  obtain ⟨R, hRe⟩ : ∃ R, rwR t i = R := ⟨_, rfl⟩
  rw [hRe] at hp
  obtain ⟨N, hNe⟩ : ∃ N, rwN t i = N := ⟨_, rfl⟩
  unfold rwI rwS
  rw [hNe, hRe]
  have hNr : N = go0 (sm (rwH t i)) * 1000 + rwM R := by rw [← hNe, rwN, hRe]
  clear hNe hRe hHe
  obtain ⟨U, hU⟩ : ∃ U, rwH t i = U := ⟨_, rfl⟩
  rw [hU] at hNr hH ⊢
  clear hU
  cases hs : sm U with
  | none =>
    rw [if_pos (.inl rfl)]
    cases R with
    | nil => simp [go0]
    | cons c l =>
      by_cases hc : c = 32
      · simp [hc]
      · simp [hc]
  | some g =>
    have hg := sm_some hs
    rw [hs] at hNr
    have hgl : (w1000 g).data.toList = H := by rw [hg.1]; exact hH
    have e0 : go0 (some g) = g := rfl
    rw [e0] at hNr
    cases R with
    | nil =>
      have hN : N = g * 1000 := by rw [hNr, rwM, Nat.add_zero]
      rcases Nat.eq_zero_or_pos g with rfl | hg0
      · rw [if_pos (.inr (.inl (by omega)))]; simp [go0]
      · have hw : wAll N = t := by
          have := wAll_big (m := 0) hg0 (by omega)
          rw [Nat.add_zero, if_pos rfl, ← hN] at this
          rw [this]
          apply ba_ext
          rw [app_list, hgl, hp, List.append_nil, th_mk]
        rw [if_neg (by rintro (e | e | e); exact absurd e (by simp); omega; exact e hw)]
        simp [go0, hg0, hN]
    | cons c l =>
      have hN : N = g * 1000 + go0 (sm (bl l)) := hNr
      have hm : go0 (sm (bl l)) < 1000 := by
        cases hl : sm (bl l) with
        | none => simp [go0]
        | some m => exact (sm_some hl).2
      rcases Nat.eq_zero_or_pos g with rfl | hg0
      · have e1 : wAll N ≠ t := by
          rw [hN, Nat.zero_mul, Nat.zero_add]
          unfold wAll
          rw [if_pos hm]
          exact hno _ hm
        rw [if_pos (.inr (.inr e1))]
        by_cases hc : c = 32
        · simp [hc, go0]
        · simp [hc]
      · rcases Nat.eq_zero_or_pos (go0 (sm (bl l))) with h0 | h0
        · have e1 : wAll N ≠ t := by
            rw [hN, wAll_big hg0 hm, if_pos h0]
            intro e
            have : (w1000 g ++ thousand).data.toList = t.data.toList := by rw [e]
            rw [app_list, hgl, hp, th_mk] at this
            have := congrArg List.length this
            simp only [List.length_append, List.length_cons] at this
            omega
          rw [if_pos (.inr (.inr e1))]
          by_cases hc : c = 32
          · subst hc
            show _ = if (32 : UInt8) ≠ 32 then _ else _
            rw [if_neg (fun e => e rfl), if_pos (.inr (.inr (.inr h0)))]
          · show _ = if c ≠ 32 then _ else _
            rw [if_pos hc]
        · obtain ⟨m, hl⟩ : ∃ m, sm (bl l) = some m := by
            cases hl : sm (bl l) with
            | none => rw [hl] at h0; simp [go0] at h0
            | some m => exact ⟨m, rfl⟩
          have hml := (sm_some hl).1
          have hgo : go0 (sm (bl l)) = m := by rw [hl]; rfl
          rw [hgo] at h0 hm hN
          have hwl : (wAll N).data.toList = H ++ (mk9 ++ (32 :: l)) := by
            rw [hN, wAll_big hg0 hm, if_neg (by omega), app_list, app_list, app_list, hgl, hml, th_mk, sp_list]
            simp [bl]
          show _ = if c ≠ 32 then _ else _
          by_cases hc : c = 32
          · subst hc
            have e1 : wAll N = t := ba_ext (by rw [hwl]; exact hp.symm)
            rw [if_neg (by rintro (e | e | e); exact absurd e (by simp); omega; exact e e1), if_neg (fun e => e rfl), if_neg (by rw [hl]; rintro (e | e | e | e); exact absurd e (by simp); exact absurd e (by simp); have : g = 0 := e; omega; have : m = 0 := e; omega)]
            rw [hgo, e0, hN]
            exact Prod.ext (show ((g * 1000 + m : Nat) : Int) = (g : Int) * 1000 + (m : Int) by omega) rfl
          · have e1 : wAll N ≠ t := by
              intro e
              have : (wAll N).data.toList = t.data.toList := by rw [e]
              rw [hwl, hp] at this
              have := List.append_cancel_left (List.append_cancel_left this)
              exact hc (List.cons.inj this).1.symm
            rw [if_pos (.inr (.inr e1)), if_pos hc]
end Go.Proofs.YtpmklldochpnlaaDoor
