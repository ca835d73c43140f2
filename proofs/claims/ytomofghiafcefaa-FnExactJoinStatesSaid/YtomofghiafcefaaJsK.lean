/- JoinStates: what is built, and what is plain about it. -/
import Derived.Test.YtomofghiafcefaaJsI

namespace Go.Proofs.Ytomofghiafcefaa
open Go.RowKit
set_option linter.unusedVariables false
theorem m3_of {x0 w : World} {gx gp cp gq cq n2 n4 : Nat} {a b : Value} {P R : List F32} (hrow : Row w gx 29 [a, b, .slice (some ⟨gp, 0, none⟩) n2 cp, .slice none 0 0, .slice (some ⟨gq, 0, none⟩) n4 cq]) (hb : Below x0.heap.size x0 w) (h1 : x0.heap.size ≤ gx) (hp : RwF w x0.heap.size gp n2 cp P) (hq : RwF w x0.heap.size gq n4 cq R) (e1 : gp ≠ gx) (e2 : gq ≠ gx) (e3 : gp ≠ gq) :
    M3 x0 w x0.heap.size gx 29 25 25 25 1 1 1 a b (.slice (some ⟨gp, 0, none⟩) n2 cp) (.slice none 0 0) (.slice (some ⟨gq, 0, none⟩) n4 cq) n2 0 n4 (fv P) [] (fv R) := by
  refine ⟨hrow, hb, h1, Nat.le_refl _, hp, World.ownsRow_nil _ _ _ _, hq, fun k hk => ?_, fun k hk => by simp [Value.ownBlock] at hk, fun k hk => ?_⟩
  · simp [Value.ownBlock] at hk
    subst hk
    refine ⟨e1, by simp [Value.ownBlock], ?_⟩
    simp [Value.ownBlock]
    exact fun e => e3 e.symm
  · simp [Value.ownBlock] at hk
    subst hk
    exact e2
theorem rwf_set5 {w : World} {base g n c gz : Nat} {xs : List F32} (h : RwF w base g n c xs) (hne : g ≠ gz) (u0 u1 u2 u3 u4 : Value) : RwF (((((w.setCell ⟨gz, 0, none⟩ u0).setCell ⟨gz, 1, none⟩ u1).setCell ⟨gz, 2, none⟩ u2).setCell ⟨gz, 3, none⟩ u3).setCell ⟨gz, 4, none⟩ u4) base g n c xs :=
  own_move h (fun k hk => by simp [Value.ownBlock] at hk; subst hk; exact heap_set5 _ _ _ _ _ hne)
theorem RwF.alloc {w : World} {base g n c : Nat} {xs : List F32} (h : RwF w base g n c xs) (o : Obj) : RwF (w.alloc o) base g n c xs := h.keep ((Below.refl _ _).alloc (Nat.le_refl _) o) (Nat.le_refl _)
/-- The sum that joins two steps is some number. -/
theorem js_add {Q : List F32} {s i k a : Nat} {x y : F32} (hs : s ≤ 5) (hik : i < k) (hk : k < s) (ha : a < s - 1) (hc : ChF Q (s * s)) (ho : ∀ q, q < s → JrOk Q s i k x y q) (W : List F32) (hW : W = ((jrL Q s s i k x y).drop (a * s)).take s) : floatBits .add .f32 (atF W i).b (atF W k).b = some (fop .add (atF W i) (atF W k)).b := by
  have hp : (ids s k).getD a 0 < s := by
    have hl := ids_len s hs k hk
    have : (ids s k)[a]'(by omega) ∈ ids s k := List.getElem_mem _
    rw [List.getD_eq_getElem?_getD, List.getElem?_eq_getElem (by omega)]
    exact (ids_lt this).1
  have hlt : ∀ q, q < s → (ids s k).getD a 0 * s + q < s * s := by
    intro q hq
    have : ((ids s k).getD a 0 + 1) * s ≤ s * s := Nat.mul_le_mul_right _ hp
    rw [Nat.add_mul, Nat.one_mul] at this; omega
  have e : W = (List.range s).map (fun q => jrA Q s i k x y ((ids s k).getD a 0 * s + q)) := by
    rw [hW]
    unfold jrL
    rw [← List.map_drop, ← List.map_take, idx_row s hs k hk a ha, List.map_map]; rfl
  have hat : ∀ q, q < s → atF W q = jrA Q s i k x y ((ids s k).getD a 0 * s + q) := by
    intro q hq
    rw [e]
    refine atF_some ?_
    rw [List.getElem?_map, List.getElem?_range hq]; rfl
  rw [hat i (by omega), hat k hk]
  exact (NN.fadd (jrA_nn hc ho (hlt i (by omega))) (jrA_nn hc ho (hlt k hk))).1
theorem gt_ne {v : F32} (h : gtB v = true) : v.b ≠ 0 := by
  intro e
  unfold gtB at h
  rw [e, ord_00] at h; cases h
/-- All that a rest gives: no operation of the joined tables is without an answer. -/
structure JnOk (P Q R : List F32) (s t i k : Nat) (x y : F32) : Prop where
  s1 : 1 ≤ s
  s5 : s ≤ 5
  t1 : 1 ≤ t
  t5 : t ≤ 4
  pl : P.length = s
  ql : Q.length = s * s
  rl : R.length = s * t
  pa : floatBits .add .f32 (atF P i).b (atF P k).b = some (fop .add (atF P i) (atF P k)).b
  sm : floatBits .add .f32 x.b y.b = some (fop .add x y).b
  qo : ∀ q, q < s → JrOk Q s i k x y q
  ro : ∀ q, q < t → JrOk R t i k x y q
  qc : ChF Q (s * s)
theorem jn_ok {P Q R X : List F32} {s t i k K : Nat} (hr : rsR (s : Int) (t : Int) P Q R nC 200 = some (X, K)) (hik : i < k) (hks : k < s) (hgt : gtB (fop .add (atF X i) (atF X k)) = true) : JnOk P Q R s t i k (atF X i) (atF X k) ∧ X.length = s ∧ jsX (s : Int) (t : Int) P Q R = X := by
  obtain ⟨hvd, hrs⟩ := rsR_some hr
  rw [Int.toNat_natCast] at hrs
  obtain ⟨s', t', e1, e2, q1, q2, q3, q4, q5, q6, q7, q8⟩ := vdM_tb hvd
  obtain rfl : s = s' := by omega
  obtain rfl : t = t' := by omega
  simp only [vdM, Bool.and_eq_true, Int.toNat_natCast] at hvd
  obtain ⟨-, -, v3, v4, v5⟩ := hvd
  have cP : ChF P (1 * s) := arB_ch q1 q2 v3
  have cQ : ChF Q (s * s) := arB_ch q1 q2 v4
  have cR : ChF R (s * t) := arB_ch q3 (by omega) v5
  rw [Nat.one_mul] at cP
  obtain ⟨hadd, hsm⟩ := hrs.sum (i := i) (k := k) (by omega) hks
  have h0 := gt_ne hgt
  have lq : ∀ l q p, q < l → p < s → p * l + q < s * l := by
    intro l q p hq hp
    have : (p + 1) * l ≤ s * l := Nat.mul_le_mul_right _ hp
    rw [Nat.add_mul, Nat.one_mul] at this; omega
  refine ⟨⟨q1, q2, q3, q4, q5, q6, q7, (NN.fadd (cP i (by omega)).1.nn (cP k hks).1.nn).1, hadd, fun q hq => ?_, fun q hq => ?_, cQ⟩, hrs.len, by unfold jsX; rw [hr]; rfl⟩
  · exact jr_ok (hrs.fin i (by omega)) (hrs.fin k hks) hsm h0 (cQ _ (lq s q i hq (by omega))) (cQ _ (lq s q k hq hks))
  · exact jr_ok (hrs.fin i (by omega)) (hrs.fin k hks) hsm h0 (cR _ (lq t q i hq (by omega))) (cR _ (lq t q k hq hks))
end Go.Proofs.Ytomofghiafcefaa
