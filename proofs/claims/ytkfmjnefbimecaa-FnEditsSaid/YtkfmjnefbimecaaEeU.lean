/- Steps told are applied, common texts lie in both, shared runs are the same, near texts come in order, and common starts, plainly (FnEdits). -/
import Derived.Test.YtkfmjnefbimecaaEeQ
import Derived.Test.YtkfmjnefbimecaaMgd
import Derived.Test.YtkfmjnefbimecaaShP
import Derived.Test.YtkfmjnefbimecaaCsP
import Derived.Test.YtkfmjnefbimecaaNtI
import Derived.Test.YtkfmjnefbimecaaEsI
import Derived.Test.YtkfmjnefbimecaaCmI
import Derived.Test.YtkfmjnefbimecaaAp

namespace Go.Proofs.Ytkfmjnefbimecaa
open Go.PlainAid
set_option linter.unusedVariables false
theorem bt_iff (a b : ByteArray) (i k : Nat) : bt a i = bt b k ↔ b8 a i = b8 b k := by
  rw [bt_b8', bt_b8']
  constructor
  · intro h; exact UInt8.toNat_inj.1 (by omega)
  · intro h; rw [h]
section
variable (a b : ByteArray)
/-- Steps taken one after the other. -/
def runL : List UInt8 → Nat × Nat → Option (Nat × Nat)
  | [], p => some p
  | c :: l, p => match apStep a b c p.1 p.2 with
    | none => none
    | some q => runL l q
theorem runL_snoc (c : UInt8) : ∀ (l : List UInt8) (p q : Nat × Nat), runL a b l p = some q → runL a b (l ++ [c]) p = apStep a b c q.1 q.2 := by
  intro l
  induction l with
  | nil =>
    intro p q h
    obtain rfl : p = q := by simpa [runL] using h
    simp only [List.nil_append, runL]
    split <;> simp [*]
  | cons d l ih =>
    intro p q h
    simp only [List.cons_append, runL] at h ⊢
    split at h
    · exact absurd h (by simp)
    · rename_i r hr
      exact ih r q h
theorem es_run : ∀ f i k : Nat, i + k ≤ f → i ≤ a.size → k ≤ b.size → runL a b (esW a b f i k).reverse (0, 0) = some (i, k) := by
  intro f
  induction f with
  | zero =>
    intro i k h _ _
    obtain rfl : i = 0 := by omega
    obtain rfl : k = 0 := by omega
    rfl
  | succ f ih =>
    intro i k h ha hb
    rw [esW]
    by_cases h0 : i = 0 ∧ k = 0
    · obtain ⟨rfl, rfl⟩ := h0
      rw [if_pos ⟨rfl, rfl⟩]; rfl
    rw [if_neg h0]
    by_cases h1 : 0 < i ∧ 0 < k ∧ e1 a b (i - 1) (k - 1) + esCost a b (i - 1) (k - 1) = e1 a b i k
    · rw [if_pos h1, List.reverse_cons, runL_snoc a b _ _ _ _ (ih (i - 1) (k - 1) (by omega) (by omega) (by omega))]
      unfold esMark
      have e1 : i - 1 + 1 = i := by omega
      have e2 : k - 1 + 1 = k := by omega
      have n1 : ¬ i - 1 = a.size := by omega
      have n2 : ¬ k - 1 = b.size := by omega
      by_cases he : bt a (i - 1) = bt b (k - 1)
      · have he' := (bt_iff a b _ _).1 he
        rw [if_pos he]
        simp [apStep, n1, n2, he', e1, e2]
      · rw [if_neg he]
        simp [apStep, n1, n2, e1, e2]
    rw [if_neg h1]
    by_cases h2 : 0 < i ∧ e1 a b (i - 1) k + 1 = e1 a b i k
    · rw [if_pos h2, List.reverse_cons, runL_snoc a b _ _ _ _ (ih (i - 1) k (by omega) (by omega) (by omega))]
      have e1 : i - 1 + 1 = i := by omega
      have n1 : ¬ i - 1 = a.size := by omega
      simp [apStep, n1, e1]
    have hk : 0 < k := by
      rcases k with _ | k
      · rcases i with _ | i
        · exact absurd ⟨rfl, rfl⟩ h0
        · exact absurd ⟨Nat.succ_pos _, e1_col0 a b i⟩ h2
      · exact Nat.succ_pos _
    rw [if_neg h2, List.reverse_cons, runL_snoc a b _ _ _ _ (ih i (k - 1) (by omega) (by omega) (by omega))]
    have e2 : k - 1 + 1 = k := by omega
    have n2 : ¬ k - 1 = b.size := by omega
    simp [apStep, n2, e2]
theorem b8_get (s : ByteArray) {t : Nat} (h : t < s.size) : s.data.toList.drop t = b8 s t :: s.data.toList.drop (t + 1) := by
  have h' : t < s.data.toList.length := by rw [Array.length_toList]; exact h
  rw [List.drop_eq_getElem_cons h']
  congr 1
  unfold b8
  rw [dif_pos h]
  rfl
theorem apRun_list (s : ByteArray) : ∀ (f t i k : Nat), f = s.size - t → apRun a b s f t i k = match runL a b (s.data.toList.drop t) (i, k) with
    | none => false
    | some q => decide (a.size ≤ q.1 ∧ b.size ≤ q.2) := by
  intro f
  induction f with
  | zero =>
    intro t i k h
    have h' : s.data.toList.drop t = [] := List.drop_eq_nil_of_le (by rw [Array.length_toList]; show s.size ≤ t; omega)
    rw [h']; rfl
  | succ f ih =>
    intro t i k h
    rw [b8_get s (by omega), apRun, runL]
    cases hq : apStep a b (b8 s t) i k with
    | none => rfl
    | some q =>
      simp only
      rw [ih (t + 1) q.1 q.2 (by omega)]
theorem es_applies (ha : txtB a = true) (hb : txtB b = true) : apB a b (esV a b) = true ∧ apV a b (esV a b) = b := by
  have h : apB a b (esV a b) = true := by
    have he : esB a b = true := by unfold esB; rw [ha, hb]; rfl
    unfold apB esV
    rw [ha, hb, if_pos he, Bool.true_and, Bool.true_and, apRun_list a b _ _ 0 0 0 (by simp)]
    rw [List.drop_zero, show (ByteArray.mk (esAll a b).reverse.toArray).data.toList = (esAll a b).reverse from by simp]
    unfold esAll
    rw [es_run a b _ _ _ (Nat.le_refl _) (Nat.le_refl _) (Nat.le_refl _)]
    simp
  exact ⟨h, by unfold apV; rw [if_pos h]⟩
/-- The longest common text is as long as the table tells. -/
theorem cmW_cm : ∀ f i k : Nat, i + k ≤ f → ((cmW a b f i k).length : Int) = cm a b i k := by
  intro f
  induction f with
  | zero =>
    intro i k h
    obtain rfl : i = 0 := by omega
    obtain rfl : k = 0 := by omega
    rfl
  | succ f ih =>
    intro i k h
    rw [cmW]
    by_cases h0 : i = 0 ∨ k = 0
    · rw [if_pos h0]
      rcases h0 with rfl | rfl
      · rw [cm_row0]; rfl
      · rw [cm_col0]; rfl
    obtain ⟨i, rfl⟩ : ∃ j, i = j + 1 := ⟨i - 1, by omega⟩
    obtain ⟨k, rfl⟩ : ∃ j, k = j + 1 := ⟨k - 1, by omega⟩
    rw [if_neg h0, Nat.add_sub_cancel, Nat.add_sub_cancel]
    by_cases he : bt a i = bt b k
    · rw [if_pos he, cm_eq a b he, ← ih i k (by omega)]; simp
    rw [if_neg he]
    by_cases hc : cm a b i (k + 1) = cm a b (i + 1) (k + 1)
    · rw [if_pos hc, ih i (k + 1) (by omega), hc]
    · rw [if_neg hc, ih (i + 1) k (by omega)]
      rw [cm_ne a b he] at hc ⊢
      omega
theorem take_b8 (s : ByteArray) {i : Nat} (h : i < s.size) : s.data.toList.take (i + 1) = s.data.toList.take i ++ [b8 s i] := by
  have h' : i < s.data.toList.length := by rw [Array.length_toList]; exact h
  rw [List.take_succ_eq_append_getElem h']
  congr 2
  unfold b8
  rw [dif_pos h]
  rfl
theorem take_sub {l : List UInt8} {n m : Nat} (h : n ≤ m) : (l.take n).Sublist (l.take m) := by
  have : l.take n = (l.take m).take n := by rw [List.take_take]; congr 1; omega
  rw [this]; exact List.take_sublist _ _
theorem cmW_sub : ∀ f i k : Nat, i + k ≤ f → i ≤ a.size → k ≤ b.size → ((cmW a b f i k).reverse.Sublist (a.data.toList.take i)) ∧ ((cmW a b f i k).reverse.Sublist (b.data.toList.take k)) := by
  intro f
  induction f with
  | zero => intro i k h _ _; exact ⟨List.nil_sublist _, List.nil_sublist _⟩
  | succ f ih =>
    intro i k h ha hb
    rw [cmW]
    by_cases h0 : i = 0 ∨ k = 0
    · rw [if_pos h0]; exact ⟨List.nil_sublist _, List.nil_sublist _⟩
    obtain ⟨i, rfl⟩ : ∃ j, i = j + 1 := ⟨i - 1, by omega⟩
    obtain ⟨k, rfl⟩ : ∃ j, k = j + 1 := ⟨k - 1, by omega⟩
    rw [if_neg h0, Nat.add_sub_cancel, Nat.add_sub_cancel]
    by_cases he : bt a i = bt b k
    · rw [if_pos he, List.reverse_cons, take_b8 a (by omega), take_b8 b (by omega)]
      have hi := ih i k (by omega) (by omega) (by omega)
      refine ⟨hi.1.append (List.Sublist.refl _), ?_⟩
      rw [(bt_iff a b _ _).1 he]
      exact hi.2.append (List.Sublist.refl _)
    rw [if_neg he]
    split
    · have hi := ih i (k + 1) (by omega) (by omega) (by omega)
      exact ⟨hi.1.trans (take_sub (by omega)), hi.2⟩
    · have hi := ih (i + 1) k (by omega) (by omega) (by omega)
      exact ⟨hi.1, hi.2.trans (take_sub (by omega))⟩
/-- Part p lies in w from place 'at_' of p and place i of w on. -/
def Lies (p w : ByteArray) (at_ i : Nat) : Prop := (p.data.toList.drop at_).Sublist (w.data.toList.drop i)
theorem co_lies (ha : txtB a = true) (hb : txtB b = true) : Lies (coV a b) a 0 0 ∧ Lies (coV a b) b 0 0 ∧ ((coV a b).size : Int) = cm a b a.size b.size := by
  have he : coB a b = true := by unfold coB; rw [ha, hb]; rfl
  have h := cmW_sub a b (a.size + b.size) a.size b.size (Nat.le_refl _) (Nat.le_refl _) (Nat.le_refl _)
  have hl := cmW_cm a b (a.size + b.size) a.size b.size (Nat.le_refl _)
  unfold coV Lies
  rw [if_pos he, List.drop_zero, List.drop_zero, List.drop_zero, show (ByteArray.mk (cmAll a b).reverse.toArray).data.toList = (cmAll a b).reverse from by simp]
  have e1 : a.data.toList.take a.size = a.data.toList := List.take_of_length_le (by rw [Array.length_toList]; exact Nat.le_refl _)
  have e2 : b.data.toList.take b.size = b.data.toList := List.take_of_length_le (by rw [Array.length_toList]; exact Nat.le_refl _)
  rw [e1, e2] at h
  refine ⟨h.1, h.2, ?_⟩
  rw [← hl]
  show (((cmAll a b).reverse.toArray.size : Nat) : Int) = _
  simp [cmAll]
end
theorem Lies.hit {p w : ByteArray} {q i : Nat} (h : Lies p w q i) (hq : q < p.size) (hi : i < w.size) (he : b8 p q = b8 w i) : Lies p w (q + 1) (i + 1) := by
  unfold Lies at h ⊢
  rw [b8_get p hq, b8_get w hi, he] at h
  exact List.Sublist.of_cons_cons h
theorem sub_miss {x y : UInt8} {l r : List UInt8} (h : (x :: l).Sublist (y :: r)) (hn : x ≠ y) : (x :: l).Sublist r := by
  cases h with
  | cons _ h => exact h
  | cons_cons _ h => exact absurd rfl hn
theorem Lies.miss {p w : ByteArray} {q i : Nat} (h : Lies p w q i) (hq : q < p.size) (hi : i < w.size) (he : b8 p q ≠ b8 w i) : Lies p w q (i + 1) := by
  unfold Lies at h ⊢
  rw [b8_get p hq, b8_get w hi] at h
  rw [b8_get p hq]
  exact sub_miss h he
theorem Lies.full {p w : ByteArray} {q i : Nat} (hq : p.size ≤ q) : Lies p w q i := by
  unfold Lies
  rw [List.drop_eq_nil_of_le (by rw [Array.length_toList]; exact hq)]
  exact List.nil_sublist _
theorem Lies.end_ {p w : ByteArray} {q i : Nat} (h : Lies p w q i) (hi : w.size ≤ i) : p.size ≤ q := by
  unfold Lies at h
  rw [show w.data.toList.drop i = [] from List.drop_eq_nil_of_le (by rw [Array.length_toList]; exact hi)] at h
  have := List.sublist_nil.1 h
  have h2 : (p.data.toList.drop q).length = 0 := by rw [this]; rfl
  rw [List.length_drop, Array.length_toList] at h2
  have h3 : p.size = p.data.size := rfl
  omega
section
variable (a b : ByteArray)
theorem eu_eq (h : eu a b a.size b.size = 0) : a = b := by
  obtain ⟨h1, h2⟩ := eu_zero a b _ _ h
  exact ext_b8 h1 (fun j hj => (bt_iff a b j j).1 (h2 j hj))
theorem eu_self : eu a a a.size a.size = 0 := eu_same a a _ (fun _ _ => rfl)
theorem cm_mono_k : ∀ d i k : Nat, cm a b i k ≤ cm a b i (k + d)
  | 0, i, k => Int.le_refl _
  | d + 1, i, k => Int.le_trans (cm_mono_k d i k) (cm_grow a b _ i (k + d) (Nat.le_refl _)).1.1
theorem cm_mono_i : ∀ d i k : Nat, cm a b i k ≤ cm a b (i + d) k
  | 0, i, k => Int.le_refl _
  | d + 1, i, k => Int.le_trans (cm_mono_i d i k) (cm_grow a b _ (i + d) k (Nat.le_refl _)).2.1
theorem cm_along (i k : Nat) : ∀ L : Nat, (∀ j, j < L → b8 a (i + j) = b8 b (k + j)) → (L : Int) ≤ cm a b (i + L) (k + L)
  | 0, _ => by have := cm_bd a b (i + 0) (k + 0); omega
  | L + 1, h => by
    have h1 := cm_along i k L (fun j hj => h j (by omega))
    have h2 := cm_eq a b ((bt_iff a b (i + L) (k + L)).2 (h L (by omega)))
    show ((L + 1 : Nat) : Int) ≤ cm a b (i + L + 1) (k + L + 1)
    omega
theorem sh_law {x y l : Nat} (h : ShTo a b a.size 0 x y l) : x + l ≤ a.size ∧ y + l ≤ b.size ∧ (∀ j, j < l → b8 a (x + j) = b8 b (y + j)) ∧ (l : Int) ≤ cm a b a.size b.size := by
  rcases h.at_ with ⟨rfl, rfl, rfl⟩ | ⟨h1, h2, h3, h4, -, -⟩
  · exact ⟨by omega, by omega, fun j hj => absurd hj (by omega), (cm_bd a b _ _).1⟩
  · obtain ⟨g1, g2, g3⟩ := (ext_ge (a := a) (b := b) l x y (by omega) (by omega)).1 (by omega)
    refine ⟨g1, g2, g3, ?_⟩
    have c1 := cm_along a b x y l g3
    have c2 := cm_mono_k a b (b.size - (y + l)) (x + l) (y + l)
    have c3 := cm_mono_i a b (a.size - (x + l)) (x + l) b.size
    rw [show y + l + (b.size - (y + l)) = b.size from by omega] at c2
    rw [show x + l + (a.size - (x + l)) = a.size from by omega] at c3
    omega
theorem b8_cut {s : ByteArray} {i n j : Nat} (hn : i + n ≤ s.size) (hj : j < n) : b8 (s.extract i (i + n)) j = b8 s (i + j) := by
  have h1 : j < (s.extract i (i + n)).size := by rw [ByteArray.size_extract]; omega
  have h2 : i + j < s.size := by omega
  unfold b8
  rw [dif_pos h1, dif_pos h2]
  simp [ByteArray.getElem_extract]
theorem sh_cut {x y l : Nat} (h : ShTo a b a.size 0 x y l) : a.extract x (x + l) = b.extract y (y + l) := by
  obtain ⟨h1, h2, h3, -⟩ := sh_law a b h
  apply ext_b8
  · rw [ByteArray.size_extract, ByteArray.size_extract]; omega
  · intro j hj
    rw [ByteArray.size_extract] at hj
    rw [b8_cut h1 (by omega), b8_cut h2 (by omega), h3 j (by omega)]
theorem sw_self : sw a a a.size a.size = 0 := by
  have h1 := sw_le a a _ a.size a.size (Nat.le_refl _)
  have h2 := sw_bd a a _ a.size a.size (Nat.le_refl _)
  have h3 := eu_self a
  omega
end
/-- The common start of a, b and a. -/
theorem cs_law (a b : ByteArray) (h : csB [a, b, a] = true) : ∃ m, csV [a, b, a] = a.extract 0 m ∧ IsAlk a b m := by
  have hk := alk_is a b
  refine ⟨alk a b, ?_, hk⟩
  unfold csV
  rw [if_pos h]
  show csF [a, b, a] a = _
  simp only [csF]
  rw [alk_self, extract_all]
  have hs : (a.extract 0 (alk a b)).size = alk a b := by rw [ByteArray.size_extract]; have := hk.la; omega
  have h2 : alk (a.extract 0 (alk a b)) a = (a.extract 0 (alk a b)).size := by
    refine (alk_is _ _).uniq ⟨Nat.le_refl _, by rw [hs]; exact hk.la, fun j hj => ?_, .inl rfl⟩
    rw [hs] at hj
    exact b8_extract hk.la hj
  rw [h2, extract_all]
/-- What NearTexts tells of three texts: places in order of their costs. -/
theorem nt_law (ss : List ByteArray) (t : ByteArray) (h3 : ss.length = 3) (h : nsB ss t = true) (h1 : ntC ss t 1 = 0) :
    1 ≤ (ntTo (ntC ss t) ss.length 5).length ∧ (∀ k x : Nat, (ntTo (ntC ss t) ss.length 5)[k]? = some x → x < 3 ∧ ntC ss t x ≤ 4)
      ∧ ∀ k x y : Nat, (ntTo (ntC ss t) ss.length 5)[k]? = some x → (ntTo (ntC ss t) ss.length 5)[k + 1]? = some y → ntC ss t x ≤ ntC ss t y := by
  have h0 : ∀ j, 0 ≤ ntC ss t j := fun j => (ntC_bd h j).1
  have hm : ∀ {x}, x ∈ ntTo (ntC ss t) ss.length 5 ↔ x < ss.length ∧ ntC ss t x < (5 : Nat) := fun {x} => mem_ntTo _ _ h0
  have hs := sort_ntTo (ntC ss t) ss.length h0 (by omega) 5
  refine ⟨List.length_pos_of_mem (hm.2 ⟨by omega, by omega⟩ : 1 ∈ _), fun k x hx => ?_, fun k x y hx hy => ?_⟩
  · have := hm.1 (List.mem_of_getElem? hx); omega
  · have mx := hm.1 (List.mem_of_getElem? hx)
    have my := hm.1 (List.mem_of_getElem? hy)
    obtain ⟨kx, ex⟩ := List.getElem?_eq_some_iff.1 hx
    obtain ⟨ky, ey⟩ := List.getElem?_eq_some_iff.1 hy
    have := List.pairwise_iff_getElem.1 hs k (k + 1) kx ky (by omega)
    rw [ex, ey] at this
    unfold ntKey at this
    omega
theorem bt_neq (a b : ByteArray) {i k : Nat} (h : b8 a i ≠ b8 b k) : bt a i ≠ bt b k := fun e => h ((bt_iff a b i k).1 e)
end Go.Proofs.Ytkfmjnefbimecaa
