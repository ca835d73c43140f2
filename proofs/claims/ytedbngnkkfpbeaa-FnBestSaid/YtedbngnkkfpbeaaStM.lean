/- Sorting with equals in their order: the entries in memory, what compares them, two rows of them changed about. -/
import Derived.Test.YtedbngnkkfpbeaaMgr
import Derived.Test.YtedbngnkkfpbeaaStO
import Derived.Test.YtedbngnkkfpbeaaTab
import Derived.Deep.LoopGhost
import Derived.Deep.DrawnRows
import Derived.Deep.QuietTactic
import Derived.BigQuiet
import Derived.Deep.RegionHeld3
import Derived.Deep.RegionLaw
import Derived.Shelf.SlSortCmp.QuietGrown

namespace Go.Proofs.Ytedbngnkkfpbeaa
open Go.RowKit
set_option linter.unusedVariables false
attribute [local go_sem ↓] Go.wp_at_zero Go.wp_at_succ
theorem oc_cell {w : World} {base g n c sz : Nat} {t : TypeId} {X : List Value} (h : w.ownsRow base t sz (.slice (some ⟨g, 0, none⟩) n c) n X) {j : Nat} {u : Value} (hj : X[j]? = some u) : w.cell? ⟨g, j, none⟩ = some u ∧ w.frozen? ⟨g, j, none⟩ = false := by
  have h1 := h.cells (g := g) rfl j u hj
  have ea : (⟨g, 0, none⟩ : Addr).add j = ⟨g, j, none⟩ := by unfold Addr.add; by_cases h : j = 0 <;> simp [h]
  rw [ea] at h1
  refine ⟨h1, ?_⟩
  obtain ⟨_, h2⟩ := h
  rcases h2 with ⟨e, -⟩ | ⟨g', cap, cur, e, hb, hg, hnc, hm, hs, ht⟩
  · cases e
  · injection e with e1 _ e3
    injection e1 with e1
    injection e1 with e1 _ _
    subst e1
    simp [World.frozen?, hg]
theorem oc_set {w : World} {base g n c i sz : Nat} {t : TypeId} {X : List Value} {u : Value} (h : w.ownsRow base t sz (.slice (some ⟨g, 0, none⟩) n c) n X) (hi : i < X.length) : (w.setCell ⟨g, i, none⟩ u).ownsRow base t sz (.slice (some ⟨g, 0, none⟩) n c) n (X.set i u) := by
  obtain ⟨h1, h2⟩ := h
  refine ⟨by simpa using h1, ?_⟩
  rcases h2 with ⟨e, -⟩ | ⟨g', cap, cur, e, hb, hg, hnc, hm, hs, ht⟩
  · cases e
  · injection e with e1 _ e3
    injection e1 with e1
    injection e1 with e1 _ _
    subst e1 e3
    refine .inr ⟨g, c, cur.setIfInBounds i u, rfl, hb, ?_, hnc, hm, by simpa using hs, ?_⟩
    · simp [World.setCell, Array.getElem?_modify, hg]
    · rw [Array.toList_setIfInBounds, List.take_set, ht]
def ceV (e : Ce) : List Value := [.slice e.A e.n e.k, .int .i64 e.c]
def cellsC (L : List Ce) : List Value := L.flatMap ceV
theorem cellsC_len (L : List Ce) : (cellsC L).length = L.length * 2 := by
  induction L with
  | nil => rfl
  | cons x L ih => simp [cellsC, ceV] at ih ⊢; omega
theorem cellsC_append (L M : List Ce) : cellsC (L ++ M) = cellsC L ++ cellsC M := by simp [cellsC]
theorem cellsC_at {L : List Ce} {i : Nat} {e : Ce} (h : L[i]? = some e) : (cellsC L)[i * 2]? = some (.slice e.A e.n e.k) ∧ (cellsC L)[i * 2 + 1]? = some (.int .i64 e.c) := by
  obtain ⟨h1, rfl⟩ := List.getElem?_eq_some_iff.1 h
  have e1 : L = L.take i ++ L[i] :: L.drop (i + 1) := by rw [← List.drop_eq_getElem_cons h1, List.take_append_drop]
  have e2 : cellsC L = cellsC (L.take i) ++ (.slice L[i].A L[i].n L[i].k :: .int .i64 L[i].c :: cellsC (L.drop (i + 1))) := by
    have : cellsC (L.take i ++ L[i] :: L.drop (i + 1)) = cellsC (L.take i) ++ (ceV L[i] ++ cellsC (L.drop (i + 1))) := by rw [cellsC_append]; unfold cellsC; rw [List.flatMap_cons]
    rw [← e1] at this; exact this
  have hl : (cellsC (L.take i)).length = i * 2 := by rw [cellsC_len, List.length_take]; omega
  rw [e2]
  constructor
  · rw [List.getElem?_append_right (by omega), hl, Nat.sub_self]; rfl
  · rw [List.getElem?_append_right (by omega), hl, show i * 2 + 1 - i * 2 = 1 by omega]; rfl
theorem cellsC_set {L : List Ce} {i : Nat} {e : Ce} (h : i < L.length) : ((cellsC L).set (i * 2) (.slice e.A e.n e.k)).set (i * 2 + 1) (.int .i64 e.c) = cellsC (L.set i e) := by
  have e1 : L = L.take i ++ L[i] :: L.drop (i + 1) := by rw [← List.drop_eq_getElem_cons h, List.take_append_drop]
  have hl : (L.take i).length = i := by rw [List.length_take]; omega
  have e3 : L.set i e = L.take i ++ e :: L.drop (i + 1) := by
    have : (L.take i ++ L[i] :: L.drop (i + 1)).set i e = L.take i ++ e :: L.drop (i + 1) := by rw [List.set_append_right _ _ (by omega), hl, Nat.sub_self]; rfl
    rw [← e1] at this; exact this
  have e2 : cellsC L = cellsC (L.take i) ++ (.slice L[i].A L[i].n L[i].k :: .int .i64 L[i].c :: cellsC (L.drop (i + 1))) := by
    have : cellsC (L.take i ++ L[i] :: L.drop (i + 1)) = cellsC (L.take i) ++ (ceV L[i] ++ cellsC (L.drop (i + 1))) := by rw [cellsC_append]; unfold cellsC; rw [List.flatMap_cons]
    rw [← e1] at this; exact this
  have hc : (cellsC (L.take i)).length = i * 2 := by rw [cellsC_len, hl]
  rw [e3, e2, cellsC_append, List.set_append_right _ _ (by omega), hc, Nat.sub_self, List.set_cons_zero, List.set_append_right _ _ (by omega), hc, show i * 2 + 1 - i * 2 = 1 by omega]
  rfl
/-- The entries in a row of the caller's own. -/
def Dw (w : World) (base g cap : Nat) (D : List Ce) : Prop := w.ownsRow base 68 2 (.slice (some ⟨g, 0, none⟩) D.length cap) D.length (cellsC D)
section
variable {w w' : World} {base g cap : Nat} {D : List Ce}
theorem Dw.lt (h : Dw w base g cap D) : base ≤ g ∧ g < w.heap.size := World.ownsRow.lt h g rfl
theorem Dw.at (h : Dw w base g cap D) {i : Nat} {e : Ce} (hi : D[i]? = some e) : (w.cell? ⟨g, i * 2, none⟩ = some (.slice e.A e.n e.k) ∧ w.cell? ⟨g, i * 2 + 1, none⟩ = some (.int .i64 e.c)) ∧ w.frozen? ⟨g, i * 2, none⟩ = false ∧ w.frozen? ⟨g, i * 2 + 1, none⟩ = false := by
  obtain ⟨h1, h2⟩ := cellsC_at hi
  have a := oc_cell h h1
  have b := oc_cell h h2
  exact ⟨⟨a.1, b.1⟩, a.2, b.2⟩
theorem Dw.keep {B : Nat} (h : Dw w base g cap D) (hb : Below B w w') (hB : w.heap.size ≤ B) : Dw w' base g cap D := own_move h fun k hk => hb.block k (Nat.lt_of_lt_of_le (h.lt.2) (by simp [Value.ownBlock] at hk; subst hk; exact hB) |> fun q => by simp [Value.ownBlock] at hk; subst hk; exact q)
theorem Dw.drewN (h : Dw w base g cap D) (q : Nat) : Dw (w.drewN q) base g cap D := own_move h (fun _ _ => rfl)
theorem Dw.set (h : Dw w base g cap D) {i : Nat} (hi : i < D.length) (e : Ce) : Dw ((w.setCell ⟨g, i * 2, none⟩ (.slice e.A e.n e.k)).setCell ⟨g, i * 2 + 1, none⟩ (.int .i64 e.c)) base g cap (D.set i e) := by
  have h1 := oc_set (u := .slice e.A e.n e.k) h (i := i * 2) (by rw [cellsC_len]; omega)
  have h2 := oc_set (u := .int .i64 e.c) h1 (i := i * 2 + 1) (by rw [List.length_set, cellsC_len]; omega)
  rw [cellsC_set hi] at h2
  unfold Dw
  rw [List.length_set]
  exact h2
theorem Dw.swap (h : Dw w base g cap D) {i j : Nat} {x y : Ce} (hx : D[i]? = some x) (hy : D[j]? = some y) :
    Dw ((((w.setCell ⟨g, i * 2, none⟩ (.slice y.A y.n y.k)).setCell ⟨g, i * 2 + 1, none⟩ (.int .i64 y.c)).setCell ⟨g, j * 2, none⟩ (.slice x.A x.n x.k)).setCell ⟨g, j * 2 + 1, none⟩ (.int .i64 x.c)) base g cap (swp D i j) := by
  have hi := (List.getElem?_eq_some_iff.1 hx).1
  have hj := (List.getElem?_eq_some_iff.1 hy).1
  have h1 := (h.set hi y).set (i := j) (by rw [List.length_set]; exact hj) x
  have e : swp D i j = (D.set i y).set j x := by unfold swp; rw [List.getD_eq_getElem?_getD, List.getD_eq_getElem?_getD, hx, hy]; rfl
  rw [e]; exact h1
end
theorem lo_swap (lo g : Nat) (w : World) (a b c d : Nat) (u0 u1 u2 u3 : Value) : Lo lo g w ((((w.setCell ⟨g, a, none⟩ u0).setCell ⟨g, b, none⟩ u1).setCell ⟨g, c, none⟩ u2).setCell ⟨g, d, none⟩ u3) :=
  (((Lo.set lo g w a u0).trans (Lo.set _ _ _ b u1)).trans (Lo.set _ _ _ c u2)).trans (Lo.set _ _ _ d u3)
theorem Lo.drew (lo g : Nat) (w : World) : Lo lo g w w.drew := ⟨rfl, rfl, rfl, Nat.le_refl _, fun _ _ _ => rfl⟩
/-- A function value that is only handed on. -/
def cmpV : Value := .func (.func 42) #[] #[]
set_option maxRecDepth 100000 in
set_option maxHeartbeats 4000000 in
theorem swapR_any (P X Q Y S : List Ce) (base g cap a b n : Nat) (cv : Value) (w : World) (hw : Dw w base g cap (P ++ (X ++ (Q ++ (Y ++ S))))) (hcap : (P ++ (X ++ (Q ++ (Y ++ S)))).length ≤ 100000) (hP : P.length = a) (hX : X.length = n) (hY : Y.length = n) (hb : a + n + Q.length = b) :
    Calls Try.prog 83 #[.slice (some ⟨g, 0, none⟩) (P ++ (X ++ (Q ++ (Y ++ S)))).length cap, .int .i64 (a : Int), .int .i64 (b : Int), .int .i64 (n : Int), cv] w fun e w' => e = .returned (.tuple #[]) ∧ Dw w' base g cap (P ++ (Y ++ (Q ++ (X ++ S)))) ∧ Lo w.heap.size g w w' := by
  obtain ⟨N, hN⟩ : ∃ N, N = (P ++ (X ++ (Q ++ (Y ++ S)))).length := ⟨_, rfl⟩
  rw [← hN] at hcap ⊢
  have hNl : N = a + n + Q.length + n + S.length := by rw [hN]; simp; omega
  have HW : Hid (Dw w base g cap (swR P X Q Y S 0)) := by show Dw _ _ _ _ _; rw [swR_zero]; exact hw
  have HX := Lib.hid hX; have HY := Lib.hid hY; have HP := Lib.hid hP; have HB := Lib.hid hb; have HNL := Lib.hid hNl
  have hbn : b + n ≤ N := by omega
  have han : a + n ≤ b := by omega
  clear hN hw hX hY hP hb hNl
  go_enter Try.func83, Try.ntmps83
  go_wp2_with fail
  go_loopg [10] n (fun m i wr => ∃ k : Nat, i = .int .i64 (k : Int) ∧ k ≤ n ∧ n ≤ m + k ∧ Hid (Dw wr base g cap (swR P X Q Y S k)) ∧ Hid (Lo w.heap.size g w wr))
  case atStart => exact ⟨0, by go_num, by omega, by omega, HW.out, Lo.refl _ _ _⟩
  case round =>
    obtain ⟨k, rfl, hk, hm, HD, HL⟩ := hrel
    obtain ⟨wo, rfl⟩ : ∃ z : World, z = wr := ⟨_, rfl⟩
    by_cases hlt : k < n
    · obtain ⟨x, hx⟩ : ∃ x, X[k]? = some x := ⟨_, List.getElem?_eq_getElem (by rw [HX.out]; exact hlt)⟩
      obtain ⟨y, hy⟩ : ∃ x, Y[k]? = some x := ⟨_, List.getElem?_eq_getElem (by rw [HY.out]; exact hlt)⟩
      obtain ⟨f1, -⟩ := swR_forms (P := P) (Q := Q) (S := S) HX.out HY.out hx hy
      have hxa : (swR P X Q Y S k)[a + k]? = some x := by rw [f1]; exact get_at (by rw [List.length_append, List.length_take, HP.out, HY.out]; omega)
      have hyb : (swR P X Q Y S k)[b + k]? = some y := by
        rw [f1, show (P ++ Y.take k) ++ x :: ((X.drop (k + 1) ++ Q ++ X.take k) ++ y :: (Y.drop (k + 1) ++ S)) = ((P ++ Y.take k) ++ x :: (X.drop (k + 1) ++ Q ++ X.take k)) ++ y :: (Y.drop (k + 1) ++ S) by simp only [List.append_assoc, List.cons_append]]
        exact get_at (by simp [HP.out, HX.out, HY.out]; have := HB.out; omega)
      have HST := Lib.hid (swR_step (S := S) HP.out HX.out HY.out HB.out hlt).1
      have hS := HD.out.swap hxa hyb
      rw [HST.out] at hS
      have HS := Lib.hid hS
      obtain ⟨⟨c1, c2⟩, c3, c4⟩ := HD.out.at hxa
      obtain ⟨⟨d1, d2⟩, d3, d4⟩ := HD.out.at hyb
      have w1 : IntKind.i64.wrap ((a : Int) + (k : Int)) = (a : Int) + (k : Int) := IntWalk.i64_in _ (by omega)
      have w2 : IntKind.i64.wrap ((b : Int) + (k : Int)) = (b : Int) + (k : Int) := IntWalk.i64_in _ (by omega)
      have w3 : IntKind.i64.wrap ((k : Int) + 1) = ((k + 1 : Nat) : Int) := by rw [IntWalk.i64_in _ (by omega)]; omega
      have l0 : (0 : Int) ≤ (a : Int) + (k : Int) := by omega
      have l1 : (a : Int) + (k : Int) < (N : Int) := by omega
      have l2 : (0 : Int) ≤ (b : Int) + (k : Int) := by omega
      have l3 : (b : Int) + (k : Int) < (N : Int) := by omega
      have l4 : ((a : Int) + (k : Int)).toNat = a + k := by omega
      have l5 : ((b : Int) + (k : Int)).toNat = b + k := by omega
      clear hx hy f1 hxa hyb hS hcap
      have NE : ¬ (a + k) = (b + k) := by have := HB.out; omega
      go_wp2_with fail
      go_region
      clear c1 c2 c3 c4 d1 d2 d3 d4 l0 l1 l2 l3 l4 l5 NE
      all_goals
        go_wp2_with fail
        go_roundg (gk - 1)
        case measure => omega
        case rel => exact ⟨k + 1, by go_num, by omega, by omega, HS.out.drewN 1, HL.out.trans ((lo_swap _ _ _ _ _ _ _ _ _ _ _).trans (Lo.drew _ _ _))⟩
    · obtain rfl : n = k := by omega
      go_wp2_with fail
      go_end0
      refine ⟨rfl, ?_, HL.out⟩
      have h1 := HD.out
      rw [swR_all HX.out HY.out] at h1
      exact h1
theorem swapR_N (P X Q Y S D : List Ce) (base g cap a b n N : Nat) (cv : Value) (w : World) (hD : D = P ++ (X ++ (Q ++ (Y ++ S)))) (hN : D.length = N) (hw : Dw w base g cap D) (hcap : N ≤ 100000) (hP : P.length = a) (hX : X.length = n) (hY : Y.length = n) (hb : a + n + Q.length = b) :
    Calls Try.prog 83 #[.slice (some ⟨g, 0, none⟩) N cap, .int .i64 (a : Int), .int .i64 (b : Int), .int .i64 (n : Int), cv] w fun e w' => e = .returned (.tuple #[]) ∧ Dw w' base g cap (P ++ (Y ++ (Q ++ (X ++ S)))) ∧ Lo w.heap.size g w w' := by
  subst hD hN
  exact swapR_any P X Q Y S base g cap a b n cv w hw hcap hP hX hY hb
/-- What compares two entries. -/
def cmpI (x y : Ce) : Int := if x.c < y.c then -1 else if y.c < x.c then 1 else 0
theorem cmpI_lt (x y : Ce) : decide (cmpI x y < 0) = decide (x.c < y.c) := by
  unfold cmpI
  by_cases h : x.c < y.c
  · rw [if_pos h, decide_eq_true h]; rfl
  · rw [if_neg h, decide_eq_false h]
    by_cases h2 : y.c < x.c
    · rw [if_pos h2]; rfl
    · rw [if_neg h2]; rfl
theorem cmpB_any (x y : Ce) (w : World) :
    Calls Try.prog 42 #[.agg #[.slice x.A x.n x.k, .int .i64 x.c], .agg #[.slice y.A y.n y.k, .int .i64 y.c]] w fun e w' => e = .returned (.int .i64 (cmpI x y)) ∧ ∃ q os', w' = Go.Sort.grow (w.drewN q) os' := by
  have hNN : ∀ (a : Int) (w : World), Calls Try.prog 67 #[.int .i64 a] w fun e w' => e = .returned (.bool false) ∧ w = w' := by
    intro a w
    go_enter Try.func67, Try.ntmps67
    go_wp2_with fail
    go_ret
    exact ⟨ret_bool (by simp), rfl⟩
  have HNN := Lib.hid hNN
  have hC : ∀ (a b : Int) (w : World), Calls Try.prog 43 #[.int .i64 a, .int .i64 b] w fun e w' => e = .returned (.int .i64 (if a < b then -1 else if b < a then 1 else 0)) ∧ w = w' := by
    intro a b w
    clear hNN
    rcases Int.lt_trichotomy a b with h | h | h
    · have HE : Hid ((if a < b then (-1 : Int) else if b < a then 1 else 0) = -1) := by show _ = _; rw [if_pos h]
      rw [HE.out]
      go_enter Try.func43, Try.ntmps43
      go_wp2_with (go_at_call 67; refine (HNN.out _ _).mono ?_; rintro e w' ⟨rfl, hw⟩; subst hw)
      go_ret
      exact ⟨rfl, rfl⟩
    · subst h
      have h1 : ¬ a < a := by omega
      have HE : Hid ((if a < a then (-1 : Int) else if a < a then 1 else 0) = 0) := by show _ = _; rw [if_neg h1, if_neg h1]
      rw [HE.out]
      go_enter Try.func43, Try.ntmps43
      go_wp2_with (go_at_call 67; refine (HNN.out _ _).mono ?_; rintro e w' ⟨rfl, hw⟩; subst hw)
      go_ret
      exact ⟨rfl, rfl⟩
    · have h1 : ¬ a < b := by omega
      have HE : Hid ((if a < b then (-1 : Int) else if b < a then 1 else 0) = 1) := by show _ = _; rw [if_neg h1, if_pos h]
      rw [HE.out]
      go_enter Try.func43, Try.ntmps43
      go_wp2_with (go_at_call 67; refine (HNN.out _ _).mono ?_; rintro e w' ⟨rfl, hw⟩; subst hw)
      go_ret
      exact ⟨rfl, rfl⟩
  obtain ⟨r, hr⟩ : ∃ r, r = cmpI x y := ⟨_, rfl⟩
  have HC : Hid (∀ w : World, Calls Try.prog 43 #[.int .i64 x.c, .int .i64 y.c] w fun e w' => e = .returned (.int .i64 r) ∧ w = w') := fun w => by rw [hr]; exact hC x.c y.c w
  have HR := Lib.hid hr
  clear hNN HNN hC hr
  have ra := (Row.new w 68 (ceV x)).alloc (.cells (ceV y).toArray 68)
  have rb := Row.new (w.alloc (.cells (ceV x).toArray 68)) 68 (ceV y)
  rw [show (w.alloc (.cells (ceV x).toArray 68)).heap.size = w.heap.size + 1 by simp] at rb
  unfold ceV at ra rb
  have c1 := ra.cell 1
  have c2 := rb.cell 1
  clear ra rb
  go_enter Try.func42, Try.ntmps42
  go_wp2_with (go_at_call 43; refine (HC.out _).mono ?_; rintro e w' ⟨rfl, hw⟩; subst hw)
  go_ret
  exact ⟨ret_int HR.out, 0, _, by rw [Go.Sort.alloc_eq_grow, Go.Sort.alloc_eq_grow, Go.Sort.grow_grow]; rfl⟩
theorem below_grown' (w : World) (n : Nat) (os : Array Obj) : Below w.heap.size w (Go.Sort.grow (w.drewN n) os) := ⟨rfl, rfl, rfl, by simp [Go.Sort.grow], fun k hk => by simp [Go.Sort.grow]; rw [Array.getElem?_append_left hk]⟩
end Go.Proofs.Ytedbngnkkfpbeaa
