/- What FnMachines says, plainly: the machines are valid, the costs are as they are told. -/
import Derived.Test.YtedbngnkkfpbeaaMgo
import Derived.Test.YtedbngnkkfpbeaaDrS

namespace Go.Proofs.Ytedbngnkkfpbeaa
open Go.RowKit
set_option linter.unusedVariables false
theorem vmB_mk {S T : Int} {L : List A4} {P E : List Int} (hS : 1 ≤ S ∧ S ≤ 16) (hT : 1 ≤ T ∧ T ≤ 4) (hL : L.length ≤ 128) (ha : ∀ a ∈ L, (0 ≤ a.1 ∧ a.1 ≤ S - 1) ∧ (0 ≤ a.2.1 ∧ a.2.1 ≤ S - 1) ∧ (-1 ≤ a.2.2.1 ∧ a.2.2.1 ≤ T - 1) ∧ 0 ≤ a.2.2.2 ∧ a.2.2.2 ≤ 1000)
    (hP : (P.length : Int) = S) (hp : ∀ x ∈ P, -1 ≤ x ∧ x ≤ 1000) (hE : (E.length : Int) = S) (he : ∀ x ∈ E, -1 ≤ x ∧ x ≤ 1000) : vmB S T L P E = true := by
  have hi : ∀ {x a b : Int}, a ≤ x ∧ x ≤ b → inB x a b = true := fun h => decide_eq_true h
  simp only [vmB, mkB, okAm, allIn, Bool.and_eq_true, decide_eq_true_eq, List.all_eq_true]
  exact ⟨hi hS, hi hT, hL, fun a h => ⟨hi (ha a h).1, hi (ha a h).2.1, hi (ha a h).2.2.1, hi (ha a h).2.2.2⟩, ⟨hP, fun x h => hi (hp x h)⟩, hE, fun x h => hi (he x h)⟩
theorem Dwn.vm {s t : Nat} {em : Bool} {L : List A4} {P E : List Int} (h : Dwn s t em L P E) (hs : 1 ≤ s) (hs' : s ≤ 6) (ht : 1 ≤ t) (ht' : t ≤ 4) : vmB s t L P E = true := by
  have h1 := h.np; have h2 := h.ne; have h3 := h.nl
  refine vmB_mk (by omega) (by omega) (by omega) (fun a ha => ?_) (by omega) (fun x hx => ?_) (by omega) (fun x hx => ?_)
  · have := h.arc a ha; omega
  · have := h.st x hx; omega
  · have := h.en x hx; omega
theorem okw_vm {S T : Int} {L : List A4} {P E : List Int} (h : vmB S T L P E = true) (t : Nat) : Okw t L P E := by
  obtain ⟨hLk, hP1, hE1, h0, hPE, hPn, hLn, hS, hT1, hT4⟩ := vm_okM h
  exact ⟨hPE.symm, hPn, hLk, hP1, hE1⟩
section
variable {s s' t : Nat} {em em' : Bool} {L L' : List A4} {P E P' E' : List Int}
theorem eiL_arc (h : Dwn s t em L P E) (h' : Dwn s' t em' L' P' E') : ∀ a ∈ eiL (s : Int) L L', 0 ≤ a.1 ∧ a.1 < s + s' ∧ 0 ≤ a.2.1 ∧ a.2.1 < s + s' ∧ -1 ≤ a.2.2.1 ∧ a.2.2.1 < t ∧ 0 ≤ a.2.2.2 ∧ a.2.2.2 ≤ 8 := by
  intro a ha
  unfold eiL at ha
  rcases List.mem_append.1 ha with ha | ha
  · have := h.arc a ha; omega
  · obtain ⟨b, hb, rfl⟩ := List.mem_map.1 ha
    have := h'.arc b hb
    show 0 ≤ b.1 + (s : Int) ∧ b.1 + (s : Int) < s + s' ∧ 0 ≤ b.2.1 + (s : Int) ∧ b.2.1 + (s : Int) < s + s' ∧ -1 ≤ b.2.2.1 ∧ b.2.2.1 < t ∧ 0 ≤ b.2.2.2 ∧ b.2.2.2 ≤ 8
    omega
theorem vm_either (h : Dwn s t em L P E) (h' : Dwn s' t em' L' P' E') (hs : 1 ≤ s) (hs4 : s ≤ 4) (hs' : 1 ≤ s') (hs4' : s' ≤ 4) (ht : 1 ≤ t) (ht' : t ≤ 4) : vmB ((s : Int) + (s' : Int)) t (eiL s L L') (P ++ P') (E ++ E') = true := by
  have h1 := h.np; have h2 := h.ne; have h3 := h.nl
  have k1 := h'.np; have k2 := h'.ne; have k3 := h'.nl
  refine vmB_mk (by omega) (by omega) (by rw [eiL_len]; omega) (fun a ha => ?_) (by rw [List.length_append]; omega) (fun x hx => ?_) (by rw [List.length_append]; omega) (fun x hx => ?_)
  · have := eiL_arc h h' a ha; omega
  · rcases List.mem_append.1 hx with hx | hx
    · have := h.st x hx; omega
    · have := h'.st x hx; omega
  · rcases List.mem_append.1 hx with hx | hx
    · have := h.en x hx; omega
    · have := h'.en x hx; omega
theorem gath_le {f : Nat → Int → List A4} {m : Nat} (hf : ∀ k x, (f k x).length ≤ m) : ∀ (xs : List Int) (k : Nat), (gath f k xs).length ≤ m * xs.length
  | [], k => by simp [gath]
  | x :: xs, k => by
    have h1 := hf k x
    have h2 := gath_le hf xs (k + 1)
    rw [gath, List.length_append, List.length_cons, Nat.mul_succ]
    omega
theorem vm_joined (h : Dwn s t em L P E) (h' : Dwn s' t em' L' P' E') (hs : 1 ≤ s) (hs4 : s ≤ 4) (hs' : 1 ≤ s') (hs4' : s' ≤ 4) (ht : 1 ≤ t) (ht' : t ≤ 4) : vmB ((s : Int) + (s' : Int)) t (joA s L L' P' E) (joS P P') (joE P E') = true := by
  have h1 := h.np; have h2 := h.ne; have h3 := h.nl
  have k1 := h'.np; have k2 := h'.ne; have k3 := h'.nl
  have g1 : ∀ k x, (jRw (s : Int) P' k x).length ≤ 1 * P'.length := fun k x => gath_le (fun k' x' => jAr_len _ _ _ _ _) P' 0
  have g2 := gath_le g1 E 0
  have g3 : 1 * P'.length * E.length ≤ 16 := by
    rw [Nat.one_mul, k1, h2]
    exact Nat.le_trans (Nat.mul_le_mul hs4' hs4) (by decide)
  refine vmB_mk (by omega) (by omega) (by rw [joA_eq, List.length_append, List.length_append, List.length_map]; omega) (fun a ha => ?_) (by unfold joS; rw [List.length_append, List.length_replicate]; omega) (fun x hx => ?_) (by unfold joE; rw [List.length_append, List.length_replicate]; omega) (fun x hx => ?_)
  · rw [joA_eq] at ha
    rcases List.mem_append.1 ha with ha | ha
    · have := eiL_arc h h' a ha; omega
    · obtain ⟨j, x, hx, ha⟩ := gath_mem.1 ha
      obtain ⟨k, y, hy, ha⟩ := gath_mem.1 ha
      have hj := (List.getElem?_eq_some_iff.1 hx).1
      have hk := (List.getElem?_eq_some_iff.1 hy).1
      have b1 := h.en x (List.mem_of_getElem? hx)
      have b2 := h'.st y (List.mem_of_getElem? hy)
      unfold jAr at ha
      split at ha
      · simp at ha
        subst ha
        simp only
        omega
      · cases ha
  · unfold joS at hx
    rcases List.mem_append.1 hx with hx | hx
    · have := h.st x hx; omega
    · have := List.eq_of_mem_replicate hx; omega
  · unfold joE at hx
    rcases List.mem_append.1 hx with hx | hx
    · have := List.eq_of_mem_replicate hx; omega
    · have := h'.en x hx; omega
theorem vm_repeat (h : Dwn s t em L P E) (hs : 1 ≤ s) (hs4 : s ≤ 4) (ht : 1 ≤ t) (ht' : t ≤ 4) : vmB ((s : Int) + 1) t (rpA L P E) (rpS s) (rpS s) = true := by
  have h1 := h.np; have h2 := h.ne; have h3 := h.nl
  have g1 := gath_len sAr_len P 0
  have g2 := gath_len eAr_len E 0
  have hrs : ∀ x ∈ rpS s, -1 ≤ x ∧ x ≤ 1000 := fun x hx => by
    unfold rpS at hx
    rcases List.mem_cons.1 hx with rfl | hx
    · omega
    · have := List.eq_of_mem_replicate hx; omega
  refine vmB_mk (by omega) (by omega) ?_ (fun a ha => ?_) (by unfold rpS; rw [List.length_cons, List.length_replicate]; omega) hrs (by unfold rpS; rw [List.length_cons, List.length_replicate]; omega) hrs
  · rw [rpA_eq, List.length_append, List.length_append, List.length_map]
    have e1 : (gath sAr 0 P).length ≤ P.length := by omega
    have e2 : (gath eAr 0 E).length ≤ E.length := by omega
    omega
  · rw [rpA_eq] at ha
    rcases List.mem_append.1 ha with ha | ha
    · rcases List.mem_append.1 ha with ha | ha
      · obtain ⟨b, hb, rfl⟩ := List.mem_map.1 ha
        have := h.arc b hb
        show (0 ≤ b.1 + ((1 : Nat) : Int) ∧ b.1 + ((1 : Nat) : Int) ≤ s + 1 - 1) ∧ (0 ≤ b.2.1 + ((1 : Nat) : Int) ∧ b.2.1 + ((1 : Nat) : Int) ≤ s + 1 - 1) ∧ (-1 ≤ b.2.2.1 ∧ b.2.2.1 ≤ t - 1) ∧ 0 ≤ b.2.2.2 ∧ b.2.2.2 ≤ 1000
        omega
      · obtain ⟨j, x, hx, ha⟩ := gath_mem.1 ha
        have hj := (List.getElem?_eq_some_iff.1 hx).1
        have b1 := h.st x (List.mem_of_getElem? hx)
        unfold sAr at ha
        split at ha
        · simp at ha
          subst ha
          simp only
          omega
        · cases ha
    · obtain ⟨j, x, hx, ha⟩ := gath_mem.1 ha
      have hj := (List.getElem?_eq_some_iff.1 hx).1
      have b1 := h.en x (List.mem_of_getElem? hx)
      unfold eAr at ha
      split at ha
      · simp at ha
        subst ha
        simp only
        omega
      · cases ha
theorem vm_back {S T : Int} {L : List A4} {P E : List Int} (h : vmB S T L P E = true) : vmB S T (L.map bkA) E P = true := by
  obtain ⟨qS, qT, qL, qA, qP, qE⟩ := vmB_true h
  refine vmB_mk qS qT (by rw [List.length_map]; exact qL) (fun a ha => ?_) (mkB_true qE).1 (mkB_true qE).2 (mkB_true qP).1 (mkB_true qP).2
  obtain ⟨b, hb, rfl⟩ := List.mem_map.1 ha
  have := okAm_true (qA b hb)
  show (0 ≤ b.2.1 ∧ b.2.1 ≤ S - 1) ∧ (0 ≤ b.1 ∧ b.1 ≤ S - 1) ∧ (-1 ≤ b.2.2.1 ∧ b.2.2.1 ≤ T - 1) ∧ 0 ≤ b.2.2.2 ∧ b.2.2.2 ≤ 1000
  omega
end
/-- What the program tells. -/
abbrev cst (L : List A4) (P E w : List Int) : Int := coV 1099511627776 L P E w
section
variable {t : Nat} {L L' : List A4} {P E P' E' w : List Int}
theorem fm_either (ha : Okw t L P E) (hb : Okw t L' P' E') (he : Okw t (eiL (P.length : Int) L L') (P ++ P') (E ++ E')) (hw : w.length ≤ 12) : cst (eiL (P.length : Int) L L') (P ++ P') (E ++ E') w = r8L (cst L P E w) (cst L' P' E' w) :=
  (cv_co he hw).uniq (((cv_co ha hw).or (cv_co hb hw)).congr (fun c => (wc_either ha.arcs hb.arcs ha.len w c).symm))
theorem fm_joined (ha : Okw t L P E) (hb : Okw t L' P' E') (hj : Okw t (joA (P.length : Int) L L' P' E) (joS P P') (joE P E')) (hw : w.length ≤ 12) (h0 : ∀ l ∈ w, 0 ≤ l) :
    cst (joA (P.length : Int) L L' P' E) (joS P P') (joE P E') w = dpL (fun k => r8A (cst L P E (w.take k)) (cst L' P' E' (w.drop k))) (w.length + 1) :=
  (cv_co hj hw).uniq ((cv_joined (fun k hk => cv_co ha (by rw [List.length_take]; omega)) (fun k hk => cv_co hb (by rw [List.length_drop]; omega))).congr (fun c => (wc_joined ha.arcs hb.arcs ha.len h0 c).symm))
theorem fm_repeat {m : Nat} (ha : Okw t L P E) (hr : Okw t (rpA L P E) (rpS m) (rpS m)) (hw : w.length ≤ 12) (h0 : ∀ l ∈ w, 0 ≤ l) {least : Nat → Int} (l0 : least 0 = 0)
    (hl : ∀ k, 0 < k → k ≤ w.length → least k = dpL (fun i => r8A (least i) (cst L P E ((w.take k).drop i))) k) : cst (rpA L P E) (rpS m) (rpS m) w = least w.length := by
  refine (cv_co hr hw).uniq ?_
  have h := cv_star (W := Wc L P E) (fun u c hc => hc.nonneg ha.arcs) (w := w) (least := least) (p := fun i k => cst L P E ((w.take k).drop i)) l0 hl (fun i k hi hk => cv_co ha (by rw [List.length_drop, List.length_take]; omega)) w.length w.length (Nat.le_refl _) (Nat.le_refl _)
  rw [List.take_length] at h
  exact h.congr (fun c => (wc_repeat ha.arcs h0 c).symm)
theorem fm_empty {m : Nat} (ha : Okw t L P E) (hr : Okw t (rpA L P E) (rpS m) (rpS m)) : cst (rpA L P E) (rpS m) (rpS m) [] = 0 := by
  refine (cv_co hr (by simp)).uniq (.inr ⟨Int.le_refl _, (wc_repeat ha.arcs (by simp) 0).2 .nil, fun c hc => ?_⟩)
  exact Str.nonneg (fun u c hc => hc.nonneg ha.arcs) ((wc_repeat ha.arcs (by simp) c).1 hc)
theorem fm_back (ha : Okw t L P E) (hb : Okw t (L.map bkA) E P) (hw : w.length ≤ 12) : cst (L.map bkA) E P w.reverse = cst L P E w :=
  (cv_co hb (by rw [List.length_reverse]; exact hw)).uniq ((cv_co ha hw).congr (fun c => (wc_back w c).symm))
theorem cst_ge (ha : Okw t L P E) (hw : w.length ≤ 12) : -1 ≤ cst L P E w := by
  show -1 ≤ coV 1099511627776 L P E w
  rcases cv_co ha hw with ⟨h, _⟩ | ⟨h, _⟩ <;> omega
end
theorem cst_lt (L : List A4) (P E w : List Int) : cst L P E w < 1099511627776 := by
  show lsV _ _ _ < _
  unfold lsV tld
  split <;> omega
theorem r8L_none {a : Int} (h : -1 ≤ a) : r8L a (-1) = a := by
  unfold r8L
  by_cases h1 : a < 0
  · rw [if_pos h1]; omega
  · rw [if_neg h1, if_pos (by omega)]
theorem r8L_ge {a b : Int} (h : -1 ≤ a) (h' : -1 ≤ b) : -1 ≤ r8L a b := by
  unfold r8L; split
  · exact h'
  · split <;> omega
theorem r8A_ge {a b : Int} : -1 ≤ r8A a b := by
  unfold r8A; split <;> omega
theorem dpL_ge {f : Nat → Int} (hf : ∀ k, -1 ≤ f k) : ∀ k, -1 ≤ dpL f k
  | 0 => Int.le_refl _
  | k + 1 => r8L_ge (dpL_ge hf k) (hf k)
theorem dpL_congr {f g : Nat → Int} : ∀ {k : Nat}, (∀ i, i < k → f i = g i) → dpL f k = dpL g k
  | 0, _ => rfl
  | k + 1, h => by rw [dpL, dpL, dpL_congr (fun i hi => h i (by omega)), h k (by omega)]
/-- Both there: a step of the least sum; not both: it stays. -/
theorem dpL_both {f : Nat → Int} {k : Nat} {x y : Int} (hf : f k = r8A x y) (hx : 0 ≤ x) (hy : 0 ≤ y) : dpL f (k + 1) = r8L (dpL f k) (x + y) := by
  rw [dpL, hf, r8A, if_pos ⟨hx, hy⟩]
theorem dpL_not {f : Nat → Int} (hg : ∀ k, -1 ≤ f k) {k : Nat} {x y : Int} (hf : f k = r8A x y) (h : ¬ (0 ≤ x ∧ 0 ≤ y)) : dpL f (k + 1) = dpL f k := by
  rw [dpL, hf, r8A, if_neg h]
  exact r8L_none (dpL_ge hg k)
/-- The law's table of least costs. -/
def lsL (p : Nat → Nat → Int) : Nat → List Int
  | 0 => [0]
  | k + 1 => lsL p k ++ [dpL (fun i => r8A (g0 (lsL p k) i) (p i (k + 1))) (k + 1)]
theorem lsL_len (p : Nat → Nat → Int) : ∀ k, (lsL p k).length = k + 1
  | 0 => rfl
  | k + 1 => by rw [lsL, List.length_append, lsL_len p k]; rfl
theorem lsL_at (p : Nat → Nat → Int) : ∀ {k i : Nat}, i ≤ k → g0 (lsL p k) i = g0 (lsL p i) i
  | 0, i, h => by
    obtain rfl : i = 0 := by omega
    rfl
  | k + 1, i, h => by
    by_cases e : i = k + 1
    · subst e; rfl
    · rw [← lsL_at p (show i ≤ k by omega)]
      unfold g0
      rw [lsL, List.getD_eq_getElem?_getD, List.getD_eq_getElem?_getD, List.getElem?_append_left (by rw [lsL_len]; omega)]
theorem lsL_new (p : Nat → Nat → Int) (k : Nat) : g0 (lsL p (k + 1)) (k + 1) = dpL (fun i => r8A (g0 (lsL p k) i) (p i (k + 1))) (k + 1) := by
  refine g0_get ?_
  rw [lsL, List.getElem?_append_right (by rw [lsL_len]; omega), lsL_len, Nat.sub_self]
  rfl
theorem lsL_eq (p : Nat → Nat → Int) {k : Nat} (hk : 0 < k) : g0 (lsL p k) k = dpL (fun i => r8A (g0 (lsL p i) i) (p i k)) k := by
  obtain ⟨k, rfl⟩ : ∃ j, k = j + 1 := ⟨k - 1, by omega⟩
  rw [lsL_new]
  exact dpL_congr (fun i hi => by rw [lsL_at p (show i ≤ k by omega)])
theorem lsL_ge (p : Nat → Nat → Int) {k i : Nat} (h : i ≤ k) : -1 ≤ g0 (lsL p k) i := by
  rw [lsL_at p h]
  rcases Nat.eq_zero_or_pos i with e | e
  · subst e; show (-1 : Int) ≤ 0; omega
  · rw [lsL_eq p e]; exact dpL_ge (fun _ => r8A_ge) _
theorem dpL_le {f : Nat → Int} {B : Int} (hB : -1 ≤ B) : ∀ {k : Nat}, (∀ i, i < k → f i ≤ B) → dpL f k ≤ B
  | 0, _ => hB
  | k + 1, h => by
    have h1 := dpL_le (f := f) hB (k := k) (fun i hi => h i (by omega))
    have h2 := h k (by omega)
    rw [dpL]
    unfold r8L
    split
    · exact h2
    · split
      · exact h1
      · omega
theorem lsL_bd {p : Nat → Nat → Int} (hp : ∀ i k, p i k < 1099511627776) : ∀ (n i : Nat), i ≤ n → g0 (lsL p i) i ≤ (i : Int) * 1099511627776
  | 0, i, h => by
    obtain rfl : i = 0 := by omega
    show (0 : Int) ≤ ((0 : Nat) : Int) * 1099511627776
    omega
  | n + 1, i, h => by
    by_cases e : i ≤ n
    · exact lsL_bd hp n i e
    · obtain rfl : i = n + 1 := by omega
      rw [lsL_eq p (by omega)]
      refine dpL_le (by omega) (fun j hj => ?_)
      have h1 := lsL_bd hp n j (by omega)
      have h2 := hp j (n + 1)
      unfold r8A
      split
      · omega
      · omega
end Go.Proofs.Ytedbngnkkfpbeaa
