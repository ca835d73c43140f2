/- What FnEdits' parts answer at three short texts, gathered (plainly). -/
import Derived.Test.YtkfmjnefbimecaaEeA
import Derived.Test.YtkfmjnefbimecaaEsI
import Derived.Test.YtkfmjnefbimecaaCmI
import Derived.Test.YtkfmjnefbimecaaAp
import Derived.Test.YtkfmjnefbimecaaNtI
import Derived.Test.YtkfmjnefbimecaaMgf

namespace Go.Proofs.Ytkfmjnefbimecaa
open Go.RowKit Go.PlainAid
set_option linter.unusedVariables false
section
variable {a b c : ByteArray}
theorem txt9 (h : a.size ≤ 9) : txtB a = true := decide_eq_true (by omega)
theorem ee_unit (ha : txtB a = true) (hb : txtB b = true) : ecB a b 1 1 1 = true ∧ ecV a b 1 1 1 = eu a b a.size b.size := by
  have h : ecB a b 1 1 1 = true := by unfold ecB; rw [ha, hb]; rfl
  exact ⟨h, by unfold ecV; rw [if_pos h]; rfl⟩
theorem co_size (ha : txtB a = true) (hb : txtB b = true) : (coV a b).size ≤ a.size ∧ (coV a b).size ≤ b.size := by
  obtain ⟨h1, h2, -⟩ := co_lies a b ha hb
  unfold Lies at h1 h2
  have e1 := h1.length_le
  have e2 := h2.length_le
  rw [List.drop_zero, List.drop_zero, Array.length_toList, Array.length_toList] at e1 e2
  exact ⟨e1, e2⟩
theorem ee_two (ha : txtB a = true) (hb : txtB b = true) : ecB a b 1 1 2 = true ∧ ecV a b 1 1 2 = (a.size : Int) + (b.size : Int) - 2 * ((coV a b).size : Int) := by
  have h : ecB a b 1 1 2 = true := by unfold ecB; rw [ha, hb]; rfl
  refine ⟨h, ?_⟩
  have h1 := ed2_cm a b _ a.size b.size (Nat.le_refl _)
  have h2 := (co_lies a b ha hb).2.2
  unfold ecV; rw [if_pos h]; omega
theorem es_len : ∀ f i k : Nat, (esW a b f i k).length ≤ f := by
  intro f
  induction f with
  | zero => intro i k; exact Nat.le_refl _
  | succ f ih =>
    intro i k
    rw [esW]
    split
    · exact Nat.zero_le _
    · split
      · exact Nat.succ_le_succ (ih _ _)
      · split
        · exact Nat.succ_le_succ (ih _ _)
        · exact Nat.succ_le_succ (ih _ _)
theorem ee_steps (ha : txtB a = true) (hb : txtB b = true) : esB a b = true ∧ (esV a b).size ≤ a.size + b.size ∧ edits (esV a b).data.toList = eu a b a.size b.size := by
  have h : esB a b = true := by unfold esB; rw [ha, hb]; rfl
  have h2 : esV a b = ⟨(esAll a b).reverse.toArray⟩ := by unfold esV; rw [if_pos h]
  refine ⟨h, ?_, ?_⟩
  · rw [h2]
    show (esAll a b).reverse.toArray.size ≤ _
    have := es_len (a := a) (b := b) (a.size + b.size) a.size b.size
    simpa [esAll] using this
  · rw [h2, show (ByteArray.mk (esAll a b).reverse.toArray).data.toList = (esAll a b).reverse from by simp, edits_rev]
    exact es_count a b _ _ _ (Nat.le_refl _)
theorem ee_swap (ha : txtB a = true) (hb : txtB b = true) : scB a b = true ∧ scV a b = sw a b a.size b.size := by
  have h : scB a b = true := by unfold scB; rw [ha, hb]; rfl
  exact ⟨h, by unfold scV; rw [if_pos h]⟩
theorem ee_local (ha : txtB a = true) (hb : txtB b = true) : lgOk a b 3 1 2 = true ∧ lgV a b 3 1 2 = lgB a b 3 1 2 b.size a.size := by
  have h : lgOk a b 3 1 2 = true := by unfold lgOk; rw [ha, hb]; rfl
  exact ⟨h, by unfold lgV; rw [if_pos h]⟩
theorem ee_nsB (ha : txtB a = true) (hb : txtB b = true) (hc : txtB c = true) : nsB [a, b, c] b = true ∧ csB [a, b, a] = true := by
  unfold nsB csB ltB
  simp [ha, hb, hc]
/-- What the steps before place t count. -/
def edTo (s : ByteArray) (t : Nat) : Int := edits (s.data.toList.take t)
theorem edits_app (l l' : List UInt8) : edits (l ++ l') = edits l + edits l' := by
  unfold edits; rw [List.filter_append, List.length_append]; omega
theorem edTo_zero (s : ByteArray) : edTo s 0 = 0 := rfl
theorem edTo_same {s : ByteArray} {t : Nat} (ht : t < s.size) (h : b8 s t = 61) : edTo s (t + 1) = edTo s t := by
  unfold edTo
  rw [take_b8 s ht, edits_app, edits_cons, if_pos h]; show _ + (0 + 0 : Int) = _; omega
theorem edTo_more {s : ByteArray} {t : Nat} (ht : t < s.size) (h : b8 s t ≠ 61) : edTo s (t + 1) = edTo s t + 1 := by
  unfold edTo
  rw [take_b8 s ht, edits_app, edits_cons, if_neg h]; show _ + (0 + 1 : Int) = _; omega
theorem edTo_full (s : ByteArray) : edTo s s.size = edits s.data.toList := by
  unfold edTo; rw [List.take_of_length_le (by rw [Array.length_toList]; exact Nat.le_refl _)]
theorem edits_bd (l : List UInt8) : 0 ≤ edits l ∧ edits l ≤ (l.length : Int) := by
  unfold edits
  have := List.length_filter_le (fun c : UInt8 => c != 61) l
  omega
theorem edTo_bd (s : ByteArray) (t : Nat) : 0 ≤ edTo s t ∧ edTo s t ≤ (t : Int) := by
  have h := edits_bd (s.data.toList.take t)
  have h2 := List.length_take_le t s.data.toList
  unfold edTo; omega
end
/-- All that the law asks, of texts a, b and c. X: edits; Z, V: edits over c; SW: swaps; ST: steps; CO: a common text; x, y, l: a shared run; G: a gain; LO: a local gain; Y: swaps of c; m: how long the common start is. -/
structure Told (a b c : ByteArray) (X Z V SW Y G LO : Int) (ST CO : ByteArray) (m : Nat) : Prop where
  sa : a.size ≤ 9
  sb : b.size ≤ 9
  sc : c.size ≤ 9
  x0 : 0 ≤ X ∧ X ≤ 18
  z0 : 0 ≤ Z ∧ Z ≤ 18
  v0 : 0 ≤ V ∧ V ≤ 18
  tri : X ≤ Z + V
  eab : ecB a b 1 1 1 = true ∧ ecV a b 1 1 1 = X
  eba : ecB b a 1 1 1 = true ∧ ecV b a 1 1 1 = X
  eac : ecB a c 1 1 1 = true ∧ ecV a c 1 1 1 = Z
  ecb : ecB c b 1 1 1 = true ∧ ecV c b 1 1 1 = V
  st : esB a b = true ∧ esV a b = ST
  stn : ST.size ≤ 18
  sted : edTo ST ST.size = X
  ap : apB a b ST = true ∧ apV a b ST = b
  sab : scB a b = true ∧ scV a b = SW
  sba : scB b a = true ∧ scV b a = SW
  swx : 0 ≤ SW ∧ SW ≤ X ∧ X ≤ 2 * SW
  eq : X = 0 ↔ a = b
  co : coB a b = true ∧ coV a b = CO
  con : CO.size ≤ a.size ∧ CO.size ≤ b.size
  coa : Lies CO a 0 0
  cob : Lies CO b 0 0
  two : ecB a b 1 1 2 = true ∧ ecV a b 1 1 2 = (a.size : Int) + (b.size : Int) - 2 * (CO.size : Int)
  sh : ∀ x y l : Nat, ShOut a b x y l → x + l ≤ a.size ∧ y + l ≤ b.size ∧ l ≤ CO.size ∧ a.extract x (x + l) = b.extract y (y + l) ∧ 3 * (l : Int) ≤ LO
  g1 : agB (ag a a 3 1 2 1 1099511627776 a.size a.size) = 3 * (a.size : Int)
  g2 : agB (ag a b 0 1 0 1 1099511627776 a.size b.size) = -X
  g3 : agB (ag b a 3 1 2 1 1099511627776 b.size a.size) = G
  g4 : agB (ag a b 3 1 2 1 1099511627776 a.size b.size) = G
  l1 : lgOk a b 3 1 2 = true ∧ lgV a b 3 1 2 = LO
  l2 : lgOk a a 3 1 2 = true ∧ lgV a a 3 1 2 = 3 * (a.size : Int)
  shb : shB a b = true
  ns : nsB [a, b, c] b = true
  nr : nrs [a, b, c] b = [SW, 0, Y]
  cs : csB [a, b, a] = true ∧ csV [a, b, a] = a.extract 0 m
  alk : IsAlk a b m
theorem told (a b c : ByteArray) (ha : a.size ≤ 9) (hb : b.size ≤ 9) (hc : c.size ≤ 9) : ∃ (X Z V SW Y G LO : Int) (ST CO : ByteArray) (m : Nat), Told a b c X Z V SW Y G LO ST CO m := by
  have ta := txt9 ha; have tb := txt9 hb; have tc := txt9 hc
  have low := eu_low a b _ a.size b.size (Nat.le_refl _)
  have low2 := eu_low a c _ a.size c.size (Nat.le_refl _)
  have low3 := eu_low c b _ c.size b.size (Nat.le_refl _)
  have symm : eu b a b.size a.size = eu a b a.size b.size := (eu_symm a b _ _ _ (Nat.le_refl _)).symm
  obtain ⟨m, hm, hk⟩ := cs_law a b (ee_nsB ta tb tc).2
  have hns := ee_nsB ta tb tc
  have hes := ee_steps ta tb
  have e0 : 0 ≤ eu a b a.size b.size := (ed_bd (p := 1) (o := 1) (c := 1) a b (by omega) (by omega) (by omega) _ _).1
  have e1 : 0 ≤ eu a c a.size c.size := (ed_bd (p := 1) (o := 1) (c := 1) a c (by omega) (by omega) (by omega) _ _).1
  have e2 : 0 ≤ eu c b c.size b.size := (ed_bd (p := 1) (o := 1) (c := 1) c b (by omega) (by omega) (by omega) _ _).1
  have lo2 : lgB a a 3 1 2 a.size a.size = 3 * (a.size : Int) := lgB_self a
  refine ⟨eu a b a.size b.size, eu a c a.size c.size, eu c b c.size b.size, sw a b a.size b.size, sw c b c.size b.size, agB (ag a b 3 1 2 1 1099511627776 a.size b.size), lgB a b 3 1 2 b.size a.size, esV a b, coV a b, m, ?_⟩
  exact {
    sa := ha
    sb := hb
    sc := hc
    x0 := by omega
    z0 := by omega
    v0 := by omega
    tri := eu_tri a b c _ _ _ _ (Nat.le_refl _)
    eab := ee_unit ta tb
    eba := ⟨(ee_unit tb ta).1, (ee_unit tb ta).2.trans symm⟩
    eac := ee_unit ta tc
    ecb := ee_unit tc tb
    st := ⟨hes.1, rfl⟩
    stn := by omega
    sted := by rw [edTo_full]; exact hes.2.2
    ap := es_applies a b ta tb
    sab := ee_swap ta tb
    sba := ⟨(ee_swap tb ta).1, (ee_swap tb ta).2.trans (sw_symm b a _ _ _ (Nat.le_refl _))⟩
    swx := ⟨(sw_bd a b _ _ _ (Nat.le_refl _)).1, sw_le a b _ _ _ (Nat.le_refl _), le_sw a b _ _ _ (Nat.le_refl _)⟩
    eq := ⟨eu_eq a b, fun h => by subst h; exact eu_self a⟩
    co := ⟨by unfold coB; rw [ta, tb]; rfl, rfl⟩
    con := co_size ta tb
    coa := (co_lies a b ta tb).1
    cob := (co_lies a b ta tb).2.1
    two := ee_two ta tb
    sh := fun x y l h => by
      have hB : shB a b = true := by unfold shB; rw [ta, tb]; rfl
      unfold ShOut at h
      rw [if_pos hB] at h
      obtain ⟨h1, h2, h3, h4⟩ := sh_law a b h
      have h5 := (co_lies a b ta tb).2.2
      exact ⟨h1, h2, by omega, sh_cut a b h, lgB_run a b h1 h2 (fun j hj => (bt_iff a b _ _).2 (h3 j hj))⟩
    g1 := ag_self a _ (by omega) _
    g2 := ag_edits a b _ (by omega) (a.size + b.size) _ _ (Nat.le_refl _) (by omega)
    g3 := ag_turn a b 3 1 2 1 _ _ _
    g4 := rfl
    l1 := ee_local ta tb
    l2 := ⟨(ee_local ta ta).1, (ee_local ta ta).2.trans lo2⟩
    shb := by unfold shB; rw [ta, tb]; rfl
    ns := hns.1
    nr := by show [sw a b a.size b.size, sw b b b.size b.size, sw c b c.size b.size] = _; rw [sw_self b]
    cs := ⟨hns.2, hm⟩
    alk := hk }
end Go.Proofs.Ytkfmjnefbimecaa
