/- What was packed is unpacked (for FnTold). -/
import Derived.Test.YtpmklldochpnlaaDoorUpP

namespace Go.Proofs.YtpmklldochpnlaaDoor
set_option linter.unusedVariables false
def upL : List UInt8 → List UInt8 → Nat → Option (List UInt8)
  | [], out, n => some out
  | c :: r, out, n => if isDg c then (if 10 * n + (c.toNat - 48) ≤ 48 then upL r out (10 * n + (c.toNat - 48)) else none) else upL r (out ++ List.replicate (max n 1) c) 0
theorem b8_arr {L : List UInt8} {i : Nat} {c : UInt8} (h : L[i]? = some c) : b8 ⟨L.toArray⟩ i = c := by
  obtain ⟨hi, rfl⟩ := List.getElem?_eq_some_iff.1 h
  unfold b8
  rw [dif_pos (show i < (⟨L.toArray⟩ : ByteArray).size by rw [size_arr]; exact hi)]
  rfl
theorem upF_upL (L : List UInt8) : ∀ (f i : Nat) (out : List UInt8) (n : Nat), f + i = L.length → upF ⟨L.toArray⟩ f i out n = upL (L.drop i) out n
  | 0, i, out, n, h => by rw [List.drop_eq_nil_of_le (by omega)]; rfl
  | f + 1, i, out, n, h => by
    have hi : i < L.length := by omega
    rw [List.drop_eq_getElem_cons hi, upF, upL, b8_arr (List.getElem?_eq_getElem hi), upF_upL L f (i + 1) _ _ (by omega), upF_upL L f (i + 1) _ _ (by omega)]
theorem up_upL (L : List UInt8) : up ⟨L.toArray⟩ = upL L [] 0 := by
  unfold up
  rw [upF_upL L _ 0 [] 0 (by rw [size_arr]; omega), List.drop_zero]
def decB (z : Nat) : Bool := (dec2 z).all isDg && (match dec2 z with | [a] => decide (a.toNat - 48 = z) | [a, b] => decide (10 * (a.toNat - 48) + (b.toNat - 48) = z) && decide (a.toNat - 48 ≤ 48) | _ => false)
theorem decB_all : (List.range 49).all decB = true := by decide +kernel
theorem upL_dec {z : Nat} (hz : z ≤ 48) (r out : List UInt8) : upL (dec2 z ++ r) out 0 = upL r out z := by
  have h := List.all_eq_true.1 decB_all z (List.mem_range.2 (by omega))
  unfold decB at h
  rw [Bool.and_eq_true] at h
  obtain ⟨h1, h2⟩ := h
  cases hd : dec2 z with
  | nil => rw [hd] at h2; cases h2
  | cons a l =>
    cases l with
    | nil =>
      rw [hd] at h1 h2
      simp only [List.all_cons, List.all_nil, Bool.and_true] at h1
      have h2 := of_decide_eq_true h2
      show upL (a :: r) out 0 = _
      rw [upL, if_pos h1, Nat.mul_zero, Nat.zero_add, h2, if_pos hz]
    | cons b l =>
      cases l with
      | nil =>
        rw [hd] at h1 h2
        simp only [List.all_cons, List.all_nil, Bool.and_true, Bool.and_eq_true] at h1
        simp only [Bool.and_eq_true, decide_eq_true_eq] at h2
        show upL (a :: b :: r) out 0 = _
        rw [upL, if_pos h1.1, Nat.mul_zero, Nat.zero_add, if_pos h2.2, upL, if_pos h1.2, h2.1, if_pos hz]
      | cons c l => rw [hd] at h2; cases h2
theorem pkF_app (t : ByteArray) : ∀ (f i : Nat) (acc : List UInt8), pkF t f i acc = acc ++ pkF t f i []
  | 0, i, acc => by simp [pkF]
  | f + 1, i, acc => by
    rw [pkF, pkF]
    split
    · rw [pkF_app t f _ (acc ++ pkPut t i), pkF_app t f _ ([] ++ pkPut t i), List.nil_append, List.append_assoc]
    · simp
theorem pkRun_eq (t : ByteArray) (i : Nat) : ∀ (f k j : Nat), k ≤ j → j < pkRun t i f k → b8 t j = b8 t i
  | 0, k, j, h1, h2 => by rw [pkRun] at h2; omega
  | f + 1, k, j, h1, h2 => by
    rw [pkRun] at h2
    split at h2
    · rename_i e
      by_cases hj : j = k
      · subst hj; exact e
      · exact pkRun_eq t i f (k + 1) j (by omega) h2
    · omega
theorem drop_run (t : ByteArray) (c : UInt8) : ∀ (m i : Nat), i + m ≤ t.size → (∀ j, i ≤ j → j < i + m → b8 t j = c) → t.data.toList.drop i = List.replicate m c ++ t.data.toList.drop (i + m)
  | 0, i, h1, h2 => by simp
  | m + 1, i, h1, h2 => by
    have hi : i < t.data.toList.length := by rw [Array.length_toList]; exact (show i < t.size by omega)
    have e : t.data.toList[i] = c := by
      have := h2 i (Nat.le_refl _) (by omega)
      unfold b8 at this
      rw [dif_pos (show i < t.size by omega)] at this
      rw [← this]; rfl
    rw [List.drop_eq_getElem_cons hi, e, drop_run t c m (i + 1) (by omega) (fun j h3 h4 => h2 j (by omega) (by omega)), List.replicate_succ, show i + 1 + m = i + (m + 1) by omega]
    rfl
theorem up_pk {t : ByteArray} (h48 : t.size ≤ 48) (hl : ∀ j, j < t.size → isDg (b8 t j) = false) : ∀ (m i : Nat) (out : List UInt8), t.size - i ≤ m → i ≤ t.size → upL (pkG t i []) out 0 = some (out ++ t.data.toList.drop i) := by
  intro m
  induction m with
  | zero =>
    intro i out h1 h2
    obtain rfl : i = t.size := by omega
    rw [pkG_end, List.drop_eq_nil_of_le (by rw [Array.length_toList]; exact Nat.le_refl _)]; simp [upL]
  | succ m ih =>
    intro i out h1 h2
    by_cases hi : i < t.size
    · have he := pkE_bd hi
      have hr := fun j a b => pkRun_eq t i (t.size - i) i j a b
      have hd := drop_run t (b8 t i) (pkE t i - i) i (by omega) (fun j a b => hr j a (show j < pkE t i by omega))
      rw [show i + (pkE t i - i) = pkE t i by omega] at hd
      have hc := hl i hi
      have e1 : pkG t i [] = pkPut t i ++ pkG t (pkE t i) [] := by
        rw [pkG_step hi, List.nil_append]
        unfold pkG
        rw [pkF_app]
      rw [e1, hd]
      have e2 : upL (pkPut t i ++ pkG t (pkE t i) []) out 0 = upL (pkG t (pkE t i) []) (out ++ List.replicate (pkE t i - i) (b8 t i)) 0 := by
        unfold pkPut
        split
        · rw [List.append_assoc, upL_dec (by omega)]
          show upL (b8 t i :: _) out _ = _
          rw [upL, hc, show max (pkE t i - i) 1 = pkE t i - i by omega]; rfl
        · show upL (b8 t i :: _) out _ = _
          rw [upL, hc, show pkE t i - i = 1 by omega]; rfl
      rw [e2, ih (pkE t i) _ (by omega) he.2, List.append_assoc]
    · obtain rfl : i = t.size := by omega
      rw [pkG_end, List.drop_eq_nil_of_le (by rw [Array.length_toList]; exact Nat.le_refl _)]; simp [upL]
theorem up_back {t : ByteArray} (h : letB t = true) : up (pkV t) = some t.data.toList := by
  have h2 : (letsB t && txtB t) = true := h
  rw [Bool.and_eq_true] at h2
  unfold pkV
  rw [up_upL, up_pk (letB_le h) (fun j hj => ?_) t.size 0 [] (by omega) (by omega)]
  · simp
  · have := isLet_bd (letsB_at h2.1 hj)
    exact decide_eq_false (by omega)
/-- What was packed is unpacked. -/
theorem unpack_back {t : ByteArray} (h : letB t = true) : upOk (pkV t) = true ∧ upV (pkV t) = t := by
  have hu := up_back h
  have e : (⟨t.data.toList.toArray⟩ : ByteArray) = t := by rw [Array.toArray_toList]
  have h1 : upOk (pkV t) = true := by rw [upOk_some hu, e, h]; simp
  exact ⟨h1, by rw [upV_some hu h1, e]⟩
end Go.Proofs.YtpmklldochpnlaaDoor
