/- JoinStates plainly: what a joined row, a joined table and the joined steps are; no operation is without an answer. -/
import Derived.Test.YtomofghiafcefaaRsJ

namespace Go.Proofs.Ytomofghiafcefaa
open Go.RowKit Ieee
set_option linter.unusedVariables false
/-- All places but one. -/
def ids (s k : Nat) : List Nat := (List.range s).filter fun p => !(p == k)
def idx (s l k : Nat) : List Nat := (ids s k).flatMap fun p => (List.range l).map fun q => p * l + q
theorem ids_del : ∀ n, n ≤ 5 → ∀ k, k < n → (List.range n).take k ++ (List.range n).drop (k + 1) = ids n k := by decide
theorem idx_del : ∀ s, s ≤ 5 → ∀ l, l ≤ 5 → ∀ k, k < s → (List.range (s * l)).take (k * l) ++ (List.range (s * l)).drop ((k + 1) * l) = idx s l k := by decide +kernel
theorem idx_row : ∀ s, s ≤ 5 → ∀ k, k < s → ∀ a, a < s - 1 → ((idx s s k).drop (a * s)).take s = (List.range s).map (fun q => (ids s k).getD a 0 * s + q) := by decide +kernel
theorem ids_len : ∀ s, s ≤ 5 → ∀ k, k < s → (ids s k).length = s - 1 := by decide
theorem idx_len : ∀ s, s ≤ 5 → ∀ l, l ≤ 5 → ∀ k, k < s → (idx s l k).length = (s - 1) * l := by decide +kernel
theorem ids_lt {s k p : Nat} (h : p ∈ ids s k) : p < s ∧ p ≠ k := by
  unfold ids at h
  rw [List.mem_filter, List.mem_range] at h
  refine ⟨h.1, fun e => ?_⟩
  have := h.2
  rw [e] at this; simp at this
theorem ids_succ (p k : Nat) : ids (p + 1) k = if p = k then ids p k else ids p k ++ [p] := by
  unfold ids
  rw [List.range_succ, List.filter_append]
  by_cases h : p = k
  · rw [if_pos h, h]; simp
  · rw [if_neg h]; simp [h]
/-- A joined row. -/
def jpF (P : List F32) (i k p : Nat) : F32 := if p = i then fop .add (atF P i) (atF P k) else atF P p
def jpL (P : List F32) (n i k : Nat) : List F32 := (ids n k).map (jpF P i k)
def delL (xs : List F32) (i j : Nat) : List F32 := xs.take i ++ xs.drop j
theorem list_of_at {xs : List F32} {n : Nat} (h : xs.length = n) (f : Nat → F32) (hf : ∀ j, j < n → atF xs j = f j) : xs = (List.range n).map f := by
  apply List.ext_getElem?
  intro j
  rcases Nat.lt_or_ge j n with hj | hj
  · rw [List.getElem?_map, List.getElem?_range hj, atF_get (by omega), hf j hj]; rfl
  · rw [List.getElem?_eq_none (by omega), List.getElem?_eq_none (by simp; omega)]
theorem atF_set {xs : List F32} {i j : Nat} {v : F32} (hi : i < xs.length) : atF (xs.set i v) j = if j = i then v else atF xs j := by
  unfold atF
  rw [List.getD_eq_getElem?_getD, List.getD_eq_getElem?_getD, List.getElem?_set]
  by_cases h : j = i
  · rw [if_pos h, if_pos h.symm, if_pos (by omega)]; rfl
  · rw [if_neg h, if_neg (fun e => h e.symm)]
theorem jp_del {P : List F32} {n i k : Nat} (hl : P.length = n) (h5 : n ≤ 5) (hik : i < k) (hk : k < n) : delL (P.set i (fop .add (atF P i) (atF P k))) k (k + 1) = jpL P n i k := by
  have e : P.set i (fop .add (atF P i) (atF P k)) = (List.range n).map (jpF P i k) := list_of_at (by simp [hl]) _ fun j hj => by rw [atF_set (by omega)]; rfl
  unfold delL jpL
  rw [e, ← List.map_take, ← List.map_drop, ← List.map_append, ids_del n h5 k hk]
/-- A joined table. -/
def jrF (R : List F32) (l i k : Nat) (x y : F32) (q : Nat) : F32 := fop .quo (fop .add (fop .mul x (atF R (i * l + q))) (fop .mul y (atF R (k * l + q)))) (fop .add x y)
def jrA (R : List F32) (l i k : Nat) (x y : F32) (j : Nat) : F32 := if i * l ≤ j ∧ j < i * l + l then jrF R l i k x y (j - i * l) else atF R j
def jrL (R : List F32) (s l i k : Nat) (x y : F32) : List F32 := (idx s l k).map (jrA R l i k x y)
/-- The table while its row i is being written. -/
def jrS (R : List F32) (l i k : Nat) (x y : F32) : Nat → List F32
  | 0 => R
  | q + 1 => (jrS R l i k x y q).set (i * l + q) (jrF R l i k x y q)
theorem jrS_len {R : List F32} {l i k : Nat} {x y : F32} : ∀ q, (jrS R l i k x y q).length = R.length
  | 0 => rfl
  | q + 1 => by rw [jrS, List.length_set, jrS_len q]
theorem jrS_at {R : List F32} {l i k : Nat} {x y : F32} (hl : i * l + l ≤ R.length) : ∀ q, q ≤ l → ∀ j, atF (jrS R l i k x y q) j = if i * l ≤ j ∧ j < i * l + q then jrF R l i k x y (j - i * l) else atF R j
  | 0, _, j => by rw [jrS, if_neg (by omega)]
  | q + 1, hq, j => by
    rw [jrS, atF_set (by rw [jrS_len]; omega), jrS_at hl q (by omega) j]
    by_cases h : j = i * l + q
    · rw [if_pos h, if_pos (by omega), h, Nat.add_sub_cancel_left]
    · rw [if_neg h]
      by_cases h2 : i * l ≤ j ∧ j < i * l + q
      · rw [if_pos h2, if_pos (by omega)]
      · rw [if_neg h2, if_neg (by omega)]
theorem jrS_all {R : List F32} {s l i k : Nat} {x y : F32} (hl : R.length = s * l) (hi : i < s) : jrS R l i k x y l = (List.range (s * l)).map (jrA R l i k x y) := by
  have h1 : (i + 1) * l ≤ s * l := Nat.mul_le_mul_right _ hi
  rw [Nat.add_mul, Nat.one_mul] at h1
  exact list_of_at (by rw [jrS_len, hl]) _ fun j _ => by rw [jrS_at (by omega) l (Nat.le_refl _)]; rfl
theorem jr_del {R : List F32} {s l i k : Nat} {x y : F32} (hl : R.length = s * l) (hs : s ≤ 5) (hl5 : l ≤ 5) (hi : i < s) (hk : k < s) : delL (jrS R l i k x y l) (k * l) ((k + 1) * l) = jrL R s l i k x y := by
  unfold delL jrL
  rw [jrS_all hl hi, ← List.map_take, ← List.map_drop, ← List.map_append, idx_del s hs l hl5 k hk]
theorem jrL_len {R : List F32} {s l i k : Nat} {x y : F32} (hs : s ≤ 5) (hl5 : l ≤ 5) (hk : k < s) : (jrL R s l i k x y).length = (s - 1) * l := by unfold jrL; rw [List.length_map, idx_len s hs l hl5 k hk]
theorem jpL_len {P : List F32} {n i k : Nat} (h5 : n ≤ 5) (hk : k < n) : (jpL P n i k).length = n - 1 := by unfold jpL; rw [List.length_map, ids_len n h5 k hk]
/-- The joined steps. -/
def jsF (Q : List F32) (s i k : Nat) (x y : F32) (p q : Nat) : F32 := if q = i then fop .add (jrA Q s i k x y (p * s + i)) (jrA Q s i k x y (p * s + k)) else jrA Q s i k x y (p * s + q)
def jsL (Q : List F32) (s i k : Nat) (x y : F32) : List F32 := (ids s k).flatMap fun p => (ids s k).map (jsF Q s i k x y p)
theorem js_row {Q : List F32} {s i k a : Nat} {x y : F32} (hs : s ≤ 5) (hik : i < k) (hk : k < s) (ha : a < s - 1) : jpL (((jrL Q s s i k x y).drop (a * s)).take s) s i k = (ids s k).map (jsF Q s i k x y ((ids s k).getD a 0)) := by
  have e : ((jrL Q s s i k x y).drop (a * s)).take s = (List.range s).map (fun q => jrA Q s i k x y ((ids s k).getD a 0 * s + q)) := by
    unfold jrL
    rw [← List.map_drop, ← List.map_take, idx_row s hs k hk a ha, List.map_map]; rfl
  rw [e]
  have hat : ∀ q, q < s → atF ((List.range s).map (fun q => jrA Q s i k x y ((ids s k).getD a 0 * s + q))) q = jrA Q s i k x y ((ids s k).getD a 0 * s + q) := by
    intro q hq
    refine atF_some ?_
    rw [List.getElem?_map, List.getElem?_range hq]; rfl
  unfold jpL
  apply List.map_congr_left
  intro p hp
  unfold jpF jsF
  rw [hat i (by omega), hat k hk, hat p (ids_lt hp).1]
def jsT (Q : List F32) (s i k : Nat) (x y : F32) (a : Nat) : List F32 := ((ids s k).take a).flatMap fun p => (ids s k).map (jsF Q s i k x y p)
theorem jsT_succ {Q : List F32} {s i k a : Nat} {x y : F32} (hs : s ≤ 5) (hik : i < k) (hk : k < s) (ha : a < s - 1) : jsT Q s i k x y (a + 1) = jsT Q s i k x y a ++ jpL (((jrL Q s s i k x y).drop (a * s)).take s) s i k := by
  rw [js_row hs hik hk ha]
  unfold jsT
  have hl := ids_len s hs k hk
  rw [List.take_succ_eq_append_getElem (by omega), List.flatMap_append, List.getD_eq_getElem?_getD, List.getElem?_eq_getElem (by omega)]
  simp
theorem jsT_all {Q : List F32} {s i k : Nat} {x y : F32} (hs : s ≤ 5) (hk : k < s) : jsT Q s i k x y (s - 1) = jsL Q s i k x y := by
  unfold jsT jsL
  rw [List.take_of_length_le (by rw [ids_len s hs k hk]; exact Nat.le_refl _)]
theorem flat_len {α β : Type} (f : α → List β) (n : Nat) : ∀ (xs : List α), (∀ x ∈ xs, (f x).length = n) → (xs.flatMap f).length = xs.length * n
  | [], _ => by simp
  | x :: xs, h => by
    rw [List.flatMap_cons, List.length_append, h x (by simp), flat_len f n xs (fun y hy => h y (by simp [hy])), List.length_cons, Nat.add_mul, Nat.one_mul, Nat.add_comm]
theorem jsT_len {Q : List F32} {s i k a : Nat} {x y : F32} (hs : s ≤ 5) (hk : k < s) (ha : a ≤ s - 1) : (jsT Q s i k x y a).length = a * (s - 1) := by
  unfold jsT
  have hl := ids_len s hs k hk
  rw [flat_len _ (s - 1) _ (fun p _ => by rw [List.length_map, hl]), List.length_take, hl, Nat.min_eq_left ha]
theorem jsL_len {Q : List F32} {s i k : Nat} {x y : F32} (hs : s ≤ 5) (hk : k < s) : (jsL Q s i k x y).length = (s - 1) * (s - 1) := by
  rw [← jsT_all hs hk, jsT_len hs hk (Nat.le_refl _)]
/-- A quotient by a positive number. -/
theorem NN.fquo {a s : F32} (ha : NN a.b) (hs : s.b < 2139095040) (h0 : s.b ≠ 0) : floatBits .quo .f32 a.b s.b = some (fop .quo a s).b ∧ NN (fop .quo a s).b := by
  obtain ⟨n, j, hr, hv⟩ := read_vl hs
  have hn : n ≠ 0 := by intro e; subst e; rw [Nat.zero_mul] at hv; exact h0 (vl_zero_iff.1 hv)
  have key : ∃ r, floatBits .quo .f32 a.b s.b = some r ∧ NN r := by
    show ∃ r, ((Ieee.single.read a.b).quotient _ (Ieee.single.read s.b)).map Ieee.single.write = some r ∧ NN r
    rw [hr]
    rcases ha with ⟨t, m, e, ha, h1⟩ | ha
    · rw [ha]
      simp only [Datum.quotient, if_neg hn, Option.map_some]
      refine ⟨_, rfl, ?_⟩
      simp only [Format.write]
      cases t with
      | false => exact NN.nearest _ _
      | true =>
        have hm : m = 0 := h1.resolve_left (by simp)
        subst hm
        simp only [Nat.zero_shiftLeft, Nat.zero_div, Nat.zero_mod]
        exact NN.zeroS _ _
    · rw [ha]; exact ⟨_, rfl, NN.inf⟩
  obtain ⟨r, h1, h2⟩ := key
  exact ⟨fop_run (by rw [h1]; rfl), by rw [fop_some h1]; exact h2⟩
theorem Fz.nn {x : Nat} (h : Fz x) : NN x := by
  obtain ⟨s, m, a, e, v, h1, -⟩ := read_fz h
  refine .inl ⟨s, m, _, e, ?_⟩
  cases s
  · exact .inl rfl
  · exact .inr (h1 rfl)
/-- The numbers of a rest. -/
structure RsOk (X : List F32) (s : Nat) : Prop where
  len : X.length = s
  fin : ∀ i, i < s → (atF X i).b < 2139095040 ∧ vz (atF X i).b ≤ pw 200
theorem Gd.ok {s n : Nat} {row : List F32} (h : Gd s n row) (hn : n ≤ 256) : RsOk row s := by
  refine ⟨h.len, fun i hi => ⟨h.fin i hi, ?_⟩⟩
  have h1 := h.low hn
  have h2 : vz (atF row i).b ≤ mass s row := su_one (fun i => vz (atF row i).b) hi
  omega
theorem rsF_ok {Q : List F32} {s : Nat} {near : F32} (ht : Tb (tbF Q s) s) : ∀ (m : Nat) (row : List F32) (n : Nat), Gd s n row → n + m ≤ 256 → ∀ X k, rsF Q s near m row n = some (X, k) → RsOk X s
  | 0, row, n, hg, hn, X, k, h => by cases h
  | m + 1, row, n, hg, hn, X, k, h => by
    have hr := round_ok ht hg (by omega)
    rw [rsF] at h
    split at h
    · cases h; exact hr.next.ok (by omega)
    · exact rsF_ok ht m _ _ hr.next (by omega) X k h
/-- The sum of two of them. -/
theorem RsOk.sum {X : List F32} {s i k : Nat} (h : RsOk X s) (hi : i < s) (hk : k < s) : floatBits .add .f32 (atF X i).b (atF X k).b = some (fop .add (atF X i) (atF X k)).b ∧ (fop .add (atF X i) (atF X k)).b < 2139095040 := by
  have h1 := h.fin i hi; have h2 := h.fin k hk
  have h3 : pw 200 + pw 200 < pw 276 := by decide +kernel
  obtain ⟨R, a1, a2, -, -⟩ := add_fz h1.1 (.inl h2.1) (by omega)
  exact ⟨by rw [fop_some a1]; exact a1, by rw [fop_some a1]; exact a2⟩
/-- No operation of a joined table is without an answer. -/
structure JrOk (R : List F32) (l i k : Nat) (x y : F32) (q : Nat) : Prop where
  m1 : floatBits .mul .f32 x.b (atF R (i * l + q)).b = some (fop .mul x (atF R (i * l + q))).b
  m2 : floatBits .mul .f32 y.b (atF R (k * l + q)).b = some (fop .mul y (atF R (k * l + q))).b
  ad : floatBits .add .f32 (fop .mul x (atF R (i * l + q))).b (fop .mul y (atF R (k * l + q))).b = some (fop .add (fop .mul x (atF R (i * l + q))) (fop .mul y (atF R (k * l + q)))).b
  qu : floatBits .quo .f32 (fop .add (fop .mul x (atF R (i * l + q))) (fop .mul y (atF R (k * l + q)))).b (fop .add x y).b = some (jrF R l i k x y q).b
  nn : NN (jrF R l i k x y q).b
theorem jr_ok {R : List F32} {l i k q : Nat} {x y : F32} (hx : x.b < 2139095040 ∧ vz x.b ≤ pw 200) (hy : y.b < 2139095040 ∧ vz y.b ≤ pw 200) (hs : (fop .add x y).b < 2139095040) (h0 : (fop .add x y).b ≠ 0) (h1 : Fz (atF R (i * l + q)).b ∧ vz (atF R (i * l + q)).b ≤ one1) (h2 : Fz (atF R (k * l + q)).b ∧ vz (atF R (k * l + q)).b ≤ one1) : JrOk R l i k x y q := by
  have p1 := prod_fz hx.1 h1.1 h1.2 hx.2
  have p2 := prod_fz hy.1 h2.1 h2.2 hy.2
  have p3 := NN.fadd p1.2.1.nn p2.2.1.nn
  have p4 := NN.fquo p3.2 hs h0
  exact ⟨p1.1, p2.1, p3.1, p4.1, p4.2⟩
/-- All numbers of a table are chances. -/
def ChF (R : List F32) (n : Nat) : Prop := ∀ j, j < n → Fz (atF R j).b ∧ vz (atF R j).b ≤ one1
theorem rowB_ch {xs : List F32} (hl : xs.length ≤ 5) (h : rowB xs = true) : ∀ j, j < xs.length → Fz (atF xs j).b ∧ vz (atF xs j).b ≤ one1 := by
  intro j hj
  have h1 := (Bool.and_eq_true_iff.1 h).1
  have h2 := List.all_eq_true.1 h1 xs[j] (List.getElem_mem _)
  have h3 := Bool.and_eq_true_iff.1 h2
  rw [atF_some (List.getElem?_eq_getElem hj)]
  exact Fz.of_chance h3.1 h3.2 xs[j].lt
theorem arB_ch {xs : List F32} {r l : Nat} (hl0 : 1 ≤ l) (hl5 : l ≤ 5) (h : arB xs r l = true) : ChF xs (r * l) := by
  have hb := Bool.and_eq_true_iff.1 h
  have hlen : xs.length = r * l := of_decide_eq_true hb.1
  intro j hj
  have hq : j / l < r := Nat.div_lt_of_lt_mul (by rw [Nat.mul_comm]; exact hj)
  have hm : j % l < l := Nat.mod_lt _ hl0
  have h1 := List.all_eq_true.1 hb.2 (j / l) (List.mem_range.2 hq)
  have hcl := chk_len hlen hq
  have h2 := rowB_ch (by rw [hcl]; exact hl5) h1 (j % l) (by rw [hcl]; exact hm)
  have e : atF (chk xs l (j / l)) (j % l) = atF xs j := by
    refine atF_some ?_
    unfold chk
    rw [List.getElem?_take_of_lt hm, List.getElem?_drop, Nat.mul_comm, Nat.div_add_mod]
    exact atF_get (by omega)
  rw [e] at h2; exact h2
theorem jrA_nn {R : List F32} {s l i k : Nat} {x y : F32} (hc : ChF R (s * l)) (ho : ∀ q, q < l → JrOk R l i k x y q) {j : Nat} (hj : j < s * l) : NN (jrA R l i k x y j).b := by
  unfold jrA
  split
  · rename_i h
    exact (ho (j - i * l) (by omega)).nn
  · exact (hc j hj).1.nn
end Go.Proofs.Ytomofghiafcefaa
