/- Several texts in one: The costs of a word, in the reference: CostOf. The costs of a word: program and reference tell the same, plainly. -/
import Derived.Test.YtedbngnkkfpbeaaCoS6

namespace Go.Proofs.Ytedbngnkkfpbeaa
open Go.RowKit
set_option linter.unusedVariables false
def rwV (F : Int) (L : List A4) (P : List Int) (C : List (List Int)) (xs : List Int) : Nat → List Int
  | 0 => frL F P
  | k + 1 => mvV F (rwV F L P C xs k) (spV F L (g0 xs k) C)
theorem rwV_len (F : Int) (L : List A4) (P : List Int) (C : List (List Int)) (xs : List Int) (k : Nat) : (rwV F L P C xs k).length = P.length := by
  induction k with
  | zero => exact frL_len F P
  | succ k ih => rw [rwV, mvV_len, ih]
theorem rwV_bd {F : Int} (hF : 0 ≤ F) {L : List A4} {P : List Int} {C : List (List Int)} (hP : ∀ x ∈ P, x ≤ F) (hL : ∀ a ∈ L, 0 ≤ a.2.2.2) (hC : BdR F C) (xs : List Int) (k : Nat) : Bd F (rwV F L P C xs k) := by
  induction k with
  | zero => exact frL_bd hF hP
  | succ k ih => exact mvV_bd hF ih (spV_bd hF hC hL)
def csR (F : Int) (L : List A4) (P E : List Int) (C : List (List Int)) (xs : List Int) : Int := tld F (lsm F (rwV F L P C xs xs.length) (enV F P.length E C) P.length)
end Go.Proofs.Ytedbngnkkfpbeaa


namespace Go.Proofs.Ytedbngnkkfpbeaa
set_option linter.unusedVariables false
theorem rep_fr {F : Int} {P : List Int} (hP : ∀ x ∈ P, x ≤ F) : Rep F P.length (frL F P) (Stt P) := by
  refine ⟨frL_len F P, fun k x hx => ?_⟩
  have hk : k < P.length := by have := (List.getElem?_eq_some_iff.1 hx).1; rw [frL_len] at this; exact this
  obtain ⟨y, hy⟩ : ∃ y, P[k]? = some y := ⟨_, List.getElem?_eq_getElem hk⟩
  rw [frL_get hy] at hx
  obtain rfl := Option.some.inj hx
  have hyF := hP y (List.mem_of_getElem? hy)
  by_cases h : y < 0
  · rw [if_pos h]
    refine Lst.none (fun c hc => ?_)
    have := hc.1
    rw [hy] at this
    have := Option.some.inj this
    have := hc.2
    omega
  · rw [if_neg h]
    refine ⟨hyF, fun c hc => ?_, fun _ => ⟨hy, by omega⟩⟩
    have := hc.1
    rw [hy] at this
    have := Option.some.inj this
    omega
theorem sum_lst {F : Int} {n : Nat} {x y : Nat → Int} {A B : Nat → Int → Prop} (hx : ∀ i, i < n → Lst F (x i) (A i)) (hy : ∀ i, i < n → Lst F (y i) (B i)) (h0 : ∀ i, i < n → 0 ≤ x i ∧ 0 ≤ y i) :
    Lst F (mins F (fun i => x i + y i) n) (fun c => ∃ i c1 c2, i < n ∧ A i c1 ∧ B i c2 ∧ c = c1 + c2) := by
  have := mins_lst (far := F) (f := fun i => x i + y i) (Q := fun i c => ∃ c1 c2, A i c1 ∧ B i c2 ∧ c = c1 + c2) (k := n) (fun i hi => by
    have h1 := hx i hi; have h2 := hy i hi; have h3 := h0 i hi
    refine ⟨fun h => ⟨x i, y i, h1.2.2 (by have : x i + y i < F := h; omega), h2.2.2 (by have : x i + y i < F := h; omega), rfl⟩, ?_⟩
    rintro c ⟨c1, c2, ha, hb, rfl⟩
    have := h1.2.1 c1 ha; have := h2.2.1 c2 hb
    show x i + y i ≤ _
    omega)
  refine this.congr (fun c => ⟨?_, ?_⟩)
  · rintro ⟨i, hi, c1, c2, ha, hb, e⟩; exact ⟨i, c1, c2, hi, ha, hb, e⟩
  · rintro ⟨i, c1, c2, hi, ha, hb, e⟩; exact ⟨i, hi, c1, c2, ha, hb, e⟩
/-- The first k letters, told backwards. -/
def bwd (xs : List Int) : Nat → List Int
  | 0 => []
  | k + 1 => g0 xs k :: bwd xs k
theorem bwd_len (xs : List Int) (k : Nat) : (bwd xs k).length = k := by
  induction k with
  | zero => rfl
  | succ k ih => rw [bwd, List.length_cons, ih]
theorem rep_wo {F : Int} (hF : 0 ≤ F) {L : List A4} {P : List Int} (hL : okM P.length L) (hP : ∀ x ∈ P, x ≤ F) (xs : List Int) : ∀ k, Rep F P.length (woV F L P xs k) (Cl P.length L (Bw P.length L P (bwd xs k)))
  | 0 => (rep_fr hP).relax hL
  | k + 1 => by
    have h := rep_wo hF hL hP xs k
    have h2 := Rep.step (l := g0 xs k) hL h hF L.length
    rw [List.take_length] at h2
    have h3 := h2.relax hL
    rw [woV]
    unfold stV
    rw [woV_len]
    exact h3
theorem rep_move {F : Int} (hF : 0 ≤ F) {n : Nat} {L : List A4} {v : List Int} {C : List (List Int)} {A : Nat → Int → Prop} {l : Int} (hL : okM n L) (hv : Rep F n v A) (hvb : Bd F v) (hC : ClsT F n L C) : Rep F n (mvV F v (spV F L l C)) (Nx n L l (Cl n L A)) := by
  obtain ⟨hs, hb, hw⟩ := hC
  refine ⟨by rw [mvV_len, hv.1], fun k x hx => ?_⟩
  have hk : k < n := by have := (List.getElem?_eq_some_iff.1 hx).1; rw [mvV_len, hv.1] at this; exact this
  have e : x = mins F (fun i => g0 v i + gg (spV F L l C) i k) n := by
    have h1 : (mvV F v (spV F L l C))[k]? = some (mins F (mvf v (spV F L l C) k) v.length) := by simp [mvV, hv.1, hk]
    rw [h1, hv.1] at hx
    exact (Option.some.inj hx).symm
  subst e
  have hrow : ∀ i, i < n → Rep F n (C.getD i []) (Wy (Em L) i) := fun i hi => by
    obtain ⟨r, h1, h2, _⟩ := hs.at_ hi hi
    have e : C.getD i [] = r := by rw [List.getD_eq_getElem?_getD, h1]; rfl
    rw [e]
    refine ⟨h2, fun k x hx => ?_⟩
    have hk : k < n := by have := (List.getElem?_eq_some_iff.1 hx).1; omega
    have := hw i k hi hk
    rw [gg_get h1 hx] at this
    exact this
  have hgs : ∀ i, i < n → Lst F (gg (spV F L l C) i k) (Nx n L l (Wy (Em L) i) k) := fun i hi => by
    obtain ⟨r, h1, h2, _⟩ := hs.at_ hi hi
    have h3 := Rep.step (l := l) hL (hrow i hi) hF L.length
    rw [List.take_length] at h3
    have e : C.getD i [] = r := by rw [List.getD_eq_getElem?_getD, h1]; rfl
    rw [e] at h3
    have h4 : (spV F L l C)[i]? = some (stpT F L l r L.length) := by
      unfold spV; rw [List.getElem?_map, h1]; rfl
    obtain ⟨y, hy, hl⟩ := h3.get hk
    rw [gg_get h4 hy]
    exact hl
  have hav : ∀ i, i < n → Lst F (g0 v i) (A i) := fun i hi => hv.2 i _ (g0_some (by rw [hv.1]; exact hi))
  have hgb : BdR F (spV F L l C) := spV_bd hF hb hL.cost
  refine (sum_lst hav hgs (fun i hi => ⟨(hvb.g0 hF i).1, (hgb.gg hF i k).1⟩)).congr (fun c => ⟨?_, ?_⟩)
  · rintro ⟨i, c1, c2, hi, ha, ⟨q, d1, d2, hq, hw1, hl, rfl⟩, rfl⟩
    exact ⟨q, c1 + d1, d2, hq, ⟨i, c1, d1, hi, ha, hw1, rfl⟩, hl, by omega⟩
  · rintro ⟨q, c1, c2, hq, ⟨i, d1, d2, hi, ha, hw1, rfl⟩, hl, rfl⟩
    exact ⟨i, d1, d2 + c2, hi, ha, ⟨q, d2, c2, hq, hw1, hl, rfl⟩, by omega⟩
theorem rep_rw {F : Int} (hF : 0 ≤ F) {L : List A4} {P : List Int} {C : List (List Int)} (hL : okM P.length L) (hP : ∀ x ∈ P, x ≤ F) (hC : ClsT F P.length L C) (xs : List Int) : ∀ k, Rep F P.length (rwV F L P C xs k) (Bw P.length L P (bwd xs k))
  | 0 => rep_fr hP
  | k + 1 => rep_move hF hL (rep_rw hF hL hP hC xs k) (rwV_bd hF hP hL.cost hC.2.1 xs k) hC
theorem lst_co {F : Int} (hF : 0 ≤ F) {L : List A4} {P E : List Int} (hL : okM P.length L) (hP : ∀ x ∈ P, x ≤ F) (hE : ∀ x ∈ E, x ≤ F) (hPE : P.length = E.length) (xs : List Int) : Lst F (lsm F (woV F L P xs xs.length) (frL F E) P.length) (Tw P.length L P E (bwd xs xs.length)) := by
  have h1 := rep_wo hF hL hP xs xs.length
  have h2 := rep_fr hE
  rw [← hPE] at h2
  have b1 := woV_bd hF hP hL.cost xs xs.length
  have b2 := frL_bd hF hE
  exact sum_lst (fun i hi => h1.2 i _ (g0_some (by rw [h1.1]; exact hi))) (fun i hi => h2.2 i _ (g0_some (by rw [h2.1]; exact hi))) (fun i hi => ⟨(b1.g0 hF i).1, (b2.g0 hF i).1⟩)
theorem lst_en {F : Int} (hF : 0 ≤ F) {n : Nat} {L : List A4} {E : List Int} {C : List (List Int)} (hC : ClsT F n L C) (hEn : E.length = n) {i : Nat} (hi : i < n) : Lst F (g0 (enV F n E C) i) (fun c => ∃ k c1 c2, k < n ∧ Wy (Em L) i k c1 ∧ Stt E k c2 ∧ c = c1 + c2) := by
  have e : g0 (enV F n E C) i = mins F (enf F E C i) n := g0_get (by simp [enV, hi])
  rw [e]
  have := mins_lst (far := F) (f := enf F E C i) (Q := fun k c => ∃ c1 c2, Wy (Em L) i k c1 ∧ Stt E k c2 ∧ c = c1 + c2) (k := n) (fun k hk => by
    have hw := hC.2.2 i k hi hk
    have hg := hC.2.1.gg hF i k
    have hE : E[k]? = some (g0 E k) := g0_some (by omega)
    unfold enf
    refine ⟨fun h => ?_, ?_⟩
    · split at h
      · rename_i h0
        rw [if_pos h0]
        exact ⟨_, _, hw.2.2 (by omega), ⟨hE, h0⟩, rfl⟩
      · omega
    · rintro c ⟨c1, c2, h1, ⟨h2, h3⟩, rfl⟩
      rw [hE] at h2
      obtain rfl := Option.some.inj h2
      rw [if_pos h3]
      have := hw.2.1 c1 h1
      omega)
  refine this.congr (fun c => ⟨?_, ?_⟩)
  · rintro ⟨i, hi, c1, c2, ha, hb, e⟩; exact ⟨i, c1, c2, hi, ha, hb, e⟩
  · rintro ⟨i, c1, c2, hi, ha, hb, e⟩; exact ⟨i, hi, c1, c2, ha, hb, e⟩
theorem lst_cs {F : Int} (hF : 0 ≤ F) {L : List A4} {P E : List Int} {C : List (List Int)} (hL : okM P.length L) (hP : ∀ x ∈ P, x ≤ F) (hPE : P.length = E.length) (hC : ClsT F P.length L C) (xs : List Int) : Lst F (lsm F (rwV F L P C xs xs.length) (enV F P.length E C) P.length) (Tw P.length L P E (bwd xs xs.length)) := by
  have h1 := rep_rw hF hL hP hC xs xs.length
  have b1 := rwV_bd hF hP hL.cost hC.2.1 xs xs.length
  have b2 := enV_bd hF P.length hC.2.1 (E := E)
  refine (sum_lst (fun i hi => h1.2 i _ (g0_some (by rw [h1.1]; exact hi))) (fun i hi => lst_en hF hC hPE.symm hi) (fun i hi => ⟨(b1.g0 hF i).1, (b2.g0 hF i).1⟩)).congr (fun c => ⟨?_, ?_⟩)
  · rintro ⟨i, c1, c2, hi, ha, ⟨k, d1, d2, hk, hw, hs, rfl⟩, rfl⟩
    exact ⟨k, c1 + d1, d2, hk, ⟨i, c1, d1, hi, ha, hw, rfl⟩, hs, by omega⟩
  · rintro ⟨k, c1, c2, hk, ⟨i, d1, d2, hi, ha, hw, rfl⟩, hs, rfl⟩
    exact ⟨i, d1, d2 + c2, hi, ha, ⟨k, d2, c2, hk, hw, hs, rfl⟩, by omega⟩
/-- Both tell the same. -/
theorem cost_same {L : List A4} {P E xs : List Int} {C : List (List Int)} (hL : okM P.length L) (hP : ∀ x ∈ P, x ≤ 1000) (hE : ∀ x ∈ E, x ≤ 1000) (hPE : P.length = E.length) (hn : P.length ≤ 16) (hx : xs.length ≤ 12) (hC : ClsT 1000000000 P.length L C) : csR 1000000000 L P E C xs = coV 1099511627776 L P E xs := by
  have h1 := lst_cs (by omega) hL (fun x hx => by have := hP x hx; omega) hPE hC xs
  have h2 := lst_co (F := 1099511627776) (by omega) hL (fun x hx => by have := hP x hx; omega) (fun x hx => by have := hE x hx; omega) hPE xs
  unfold csR coV lsV
  rw [woV_len]
  refine tld_same h1 h2 (fun c hc => ?_)
  obtain ⟨c', hle, ht⟩ := hc.short hL hP hE
  rw [bwd_len] at hle
  refine ⟨c', ht, ?_, ?_⟩
  · have : (1000 * (P.length : Int) + 1000) * ((xs.length : Int) + 1) ≤ 17000 * 13 := Int.mul_le_mul (by omega) (by omega) (by omega) (by omega)
    omega
  · have : (1000 * (P.length : Int) + 1000) * ((xs.length : Int) + 1) ≤ 17000 * 13 := Int.mul_le_mul (by omega) (by omega) (by omega) (by omega)
    omega
end Go.Proofs.Ytedbngnkkfpbeaa
