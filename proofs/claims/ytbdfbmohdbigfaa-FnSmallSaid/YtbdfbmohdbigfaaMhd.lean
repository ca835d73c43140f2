/- Several texts in one: slices.Index of numbers, slices.Equal of truths, the closures of LeastPlain. Smallest machines: machines that read the same words have the same one; it reads the same words and has no more states; what is learned has as many. -/
import Derived.Test.YtbdfbmohdbigfaaSqK
import Derived.Test.YtbdfbmohdbigfaaExwI
import Derived.Test.YtbdfbmohdbigfaaLnL
import Derived.Deep.LoopGhost
import Derived.Deep.QuietTactic
import Derived.BigQuiet
import Derived.Deep.RegionHeld3
import Derived.Test.YtbdfbmohdbigfaaMgy

namespace Go.Proofs.Ytbdfbmohdbigfaa
open Go.RowKit
set_option linter.unusedVariables false
theorem ixL_hit {α : Type} [DecidableEq α] {L : List α} {x : α} {k : Nat} (h : L[k]? = some x) (hk : ∀ j, j < k → L[j]? ≠ some x) : ixL L x = k := by
  have hi := ix_at (List.mem_of_getElem? h)
  rcases Nat.lt_trichotomy (ixL L x) k with q | q | q
  · exact absurd hi.1 (hk _ q)
  · exact q
  · exfalso
    obtain ⟨h1, h2⟩ := List.getElem?_eq_some_iff.1 h
    have := List.not_of_lt_findIdx (p := (· == x)) (xs := L) (show k < List.findIdx (· == x) L from q)
    simp [h2] at this
set_option maxRecDepth 100000 in
set_option maxHeartbeats 4000000 in
theorem iIndexN_any (g n c : Nat) (L : List Nat) (x : Nat) (w : World) (hr : Row w g 2 (iv (natW L))) (hn : L.length = n) (hb : n ≤ 100000) (hx : x ∈ L) :
    Calls Try.prog 89 #[.slice (some ⟨g, 0, none⟩) n c, .int .i64 (x : Int)] w fun e w' => e = .returned (.int .i64 ((ixL L x : Nat) : Int)) ∧ ∃ d, w' = w.drewN d := by
  have HR := Lib.hid hr; have HN := Lib.hid hn; have HX := Lib.hid hx
  clear hr hn hx
  go_enter Try.func89, Try.ntmps89
  go_wp2_with fail
  go_loopg [8] n (fun m i wr => ∃ (k d : Nat), i = .int .i64 (k : Int) ∧ k ≤ n ∧ n ≤ m + k ∧ Hid (∀ j, j < k → L[j]? ≠ some x) ∧ Hid (wr = w.drewN d))
  case atStart => exact ⟨0, 0, rfl, by omega, by omega, (fun j hj => absurd hj (by omega)), rfl⟩
  case round =>
    obtain ⟨k, d, rfl, hk, hm, HK, HW⟩ := hrel
    obtain ⟨wo, rfl⟩ : ∃ x : World, x = wr := ⟨_, rfl⟩
    have HRo : Hid (Row wo g 2 (iv (natW L))) := by rw [HW.out]; exact HR.out
    by_cases hlt : k < n
    · have q1 : (k : Int) < (n : Int) := by omega
      have q0 : (0 : Int) ≤ (k : Int) := by omega
      have WK : IntKind.i64.wrap ((k : Int) + 1) = (k : Int) + 1 := IntWalk.i64_in _ (by omega)
      have hkl : k < L.length := by rw [HN.out]; exact hlt
      have c0 := row_nat HRo.out (k := k) hkl
      obtain ⟨y, hy⟩ : ∃ y, L[k]? = some y := ⟨_, List.getElem?_eq_getElem hkl⟩
      have hyd : L.getD k 0 = y := by rw [List.getD_eq_getElem?_getD, hy]; rfl
      rw [hyd] at c0
      by_cases he : y = x
      · subst he
        have HI : Hid (ixL L y = k) := ixL_hit hy HK.out
        have z1 : ((y : Int) == (y : Int)) = true := by simp
        clear hyd hy hkl
        go_wp2_with fail
        go_ret
        exact ⟨by rw [HI.out]; rfl, d, HW.out⟩
      · have HK2 : Hid (∀ j, j < k + 1 → L[j]? ≠ some x) := fun j hj => by
          rcases Nat.lt_or_ge j k with q | q
          · exact HK.out j q
          · rw [show j = k by omega, hy]; simpa using he
        have z1 : ((x : Int) == (y : Int)) = false := by rw [beq_eq_false_iff_ne]; omega
        clear hyd hy hkl he
        go_wp2_with fail
        go_roundg (gk - 1)
        case measure => omega
        case rel => exact ⟨k + 1, d, by go_num, by omega, by omega, HK2.out, HW.out⟩
    · exfalso
      obtain ⟨j, hj⟩ := List.getElem?_of_mem HX.out
      have hjl := (List.getElem?_eq_some_iff.1 hj).1
      rw [HN.out] at hjl
      exact HK.out j (by omega) hj
set_option maxHeartbeats 4000000 in
theorem iEqB_any (A : Option Addr) (n c : Nat) (xs : List Bool) (A' : Option Addr) (c' : Nat) (w : World) (B B' : Nat) (h : SlB w B A n xs) (h' : SlB w B' A' n xs) (hn : n ≤ 4294967296) :
    Calls Try.prog 93 #[.slice A n c, .slice A' n c'] w fun e w' => e = .returned (.bool true) ∧ ∃ q, w' = w.drewN q := by
  have H := Lib.hid h; have H' := Lib.hid h'
  clear h h'
  go_enter Try.func93, Try.ntmps93
  go_wp2
  go_loopw [13] (fun i wr => ∃ k : Nat, k ≤ n ∧ i = .int .i64 k ∧ ∃ q, wr = w.drewN q) (fun i wr => n - (intOf i).toNat)
  case atStart => exact ⟨0, by omega, rfl, 0, rfl⟩
  case round =>
    obtain ⟨k, hk, rfl, q, rfl⟩ := hrel
    by_cases hlt : k < n
    · obtain ⟨b, off, x, rfl, hbB, hx, hc⟩ := H.out.at_ hlt
      obtain ⟨b', off', y, rfl, hbB', hy, hc'⟩ := H'.out.at_ hlt
      have hi0 : (0 : Int) ≤ (k : Int) := by omega
      have hi1 : (k : Int) < (n : Int) := by omega
      obtain rfl : x = y := by have h1 := hx.out; rw [hy.out] at h1; exact (Option.some.inj h1).symm
      have z1 : (x == x) = true := by simp
      go_wp2
      go_quiet (fail)
      go_wp2
      exact ⟨⟨k + 1, by omega, by go_num, _, rfl⟩, by simp [intOf]; omega⟩
    · obtain rfl : n = k := by omega
      go_wp2
      go_ret
      exact ⟨rfl, q, rfl⟩
end Go.Proofs.Ytbdfbmohdbigfaa


namespace Go.Proofs.Ytbdfbmohdbigfaa
set_option linter.unusedVariables false
section
variable {α β : Type} {R : α → β → Prop}
/-- Two lists whose elements belong together. -/
def RL (R : α → β → Prop) (L : List α) (L' : List β) : Prop := L.length = L'.length ∧ ∀ (i : Nat) (a : α) (b : β), L[i]? = some a → L'[i]? = some b → R a b
theorem RL.cons {a : α} {b : β} {L : List α} {L' : List β} (h : RL R (a :: L) (b :: L')) : R a b ∧ RL R L L' :=
  ⟨h.2 0 a b rfl rfl, by have := h.1; simpa using this, fun i x y hx hy => h.2 (i + 1) x y (by simpa using hx) (by simpa using hy)⟩
theorem RL.snoc {L : List α} {L' : List β} (h : RL R L L') {a : α} {b : β} (hab : R a b) : RL R (L ++ [a]) (L' ++ [b]) := by
  refine ⟨by simp [h.1], fun i x y hx hy => ?_⟩
  rcases get_snoc hx with hx | ⟨hi, rfl⟩
  · have hl := (List.getElem?_eq_some_iff.1 hx).1
    rw [List.getElem?_append_left (by rw [← h.1]; exact hl)] at hy
    exact h.2 i x y hx hy
  · rw [hi, h.1, List.getElem?_append_right (Nat.le_refl _), Nat.sub_self] at hy
    obtain rfl : b = y := by simpa using hy
    exact hab
end
section
variable {α β : Type} [DecidableEq α] [DecidableEq β] {nx : α → Nat → α} {nx' : β → Nat → β} {f : α} {f' : β} {T : Nat} {R : α → β → Prop}
theorem RL.idx (hR : ∀ a b a' b', R a b → R a' b' → (a = a' ↔ b = b')) : ∀ {L : List α} {L' : List β}, RL R L L' → ∀ {a : α} {b : β}, R a b → L.idxOf a = L'.idxOf b ∧ (a ∈ L ↔ b ∈ L')
  | [], [], _, a, b, _ => ⟨rfl, by simp⟩
  | [], _ :: _, h, a, b, _ => by have := h.1; simp at this
  | _ :: _, [], h, a, b, _ => by have := h.1; simp at this
  | x :: L, y :: L', h, a, b, hab => by
    obtain ⟨h1, h2⟩ := h.cons
    obtain ⟨i1, i2⟩ := RL.idx hR h2 hab
    have hxy := hR x y a b h1 hab
    rw [List.idxOf_cons, List.idxOf_cons, List.mem_cons, List.mem_cons]
    by_cases e : x = a
    · have e' := hxy.1 e
      subst e; subst e'
      simp
    · have e' : ¬ y = b := fun q => e (hxy.2 q)
      rw [beq_false_of_ne e, beq_false_of_ne e', i1, i2]
      exact ⟨rfl, by constructor <;> rintro (q | q) <;> first | exact absurd q.symm (by assumption) | exact .inr q⟩
theorem RL.add (hR : ∀ a b a' b', R a b → R a' b' → (a = a' ↔ b = b')) {L : List α} {L' : List β} (h : RL R L L') {a : α} {b : β} (hab : R a b) : RL R (addL L a) (addL L' b) := by
  have hm := (RL.idx hR h hab).2
  by_cases e : a ∈ L
  · rw [addL_in e, addL_in (hm.1 e)]; exact h
  · rw [addL_new e, addL_new (fun q => e (hm.2 q))]; exact h.snoc hab
theorem exR_R (hR : ∀ a b a' b', R a b → R a' b' → (a = a' ↔ b = b')) (hn : ∀ a b l, l < T → R a b → R (nx a l) (nx' b l)) {k : α} {k' : β} (hk : R k k') {st : List α × List Int} {st' : List β × List Int} (h1 : RL R st.1 st'.1) (h2 : st.2 = st'.2) : ∀ l, l ≤ T → RL R (exR nx k st l).1 (exR nx' k' st' l).1 ∧ (exR nx k st l).2 = (exR nx' k' st' l).2
  | 0, _ => ⟨h1, h2⟩
  | l + 1, hl => by
    obtain ⟨i1, i2⟩ := exR_R hR hn hk h1 h2 l (by omega)
    have hr := hn k k' l (by omega) hk
    have ha := RL.add hR i1 hr
    rw [exR, exR]
    refine ⟨ha, ?_⟩
    show _ ++ _ = _ ++ _
    rw [i2, (RL.idx hR ha hr).1]
theorem exA_R (hR : ∀ a b a' b', R a b → R a' b' → (a = a' ↔ b = b')) (hn : ∀ a b l, l < T → R a b → R (nx a l) (nx' b l)) (h0 : R f f') : ∀ n, RL R (exA nx f T n).1 (exA nx' f' T n).1 ∧ (exA nx f T n).2 = (exA nx' f' T n).2
  | 0 => ⟨⟨rfl, fun i a b ha hb => by
      have hi : i = 0 := by have := (List.getElem?_eq_some_iff.1 ha).1; simp [exA] at this; exact this
      subst hi
      obtain rfl : f = a := by simpa [exA] using ha
      obtain rfl : f' = b := by simpa [exA] using hb
      exact h0⟩, rfl⟩
  | n + 1 => by
    obtain ⟨i1, i2⟩ := exA_R hR hn h0 n
    rw [exA, exA]
    cases hk : (exA nx f T n).1[n]? with
    | none =>
      have : (exA nx' f' T n).1[n]? = none := List.getElem?_eq_none (by rw [← i1.1]; exact List.getElem?_eq_none_iff.1 hk)
      rw [this]
      exact ⟨i1, i2⟩
    | some k =>
      have hl := (List.getElem?_eq_some_iff.1 hk).1
      obtain ⟨k', hk'⟩ : ∃ k', (exA nx' f' T n).1[n]? = some k' := ⟨_, List.getElem?_eq_getElem (by rw [← i1.1]; exact hl)⟩
      rw [hk']
      exact exR_R hR hn (i1.2 n k k' hk hk') i1 i2 T (Nat.le_refl _)
theorem exE_R (hR : ∀ a b a' b', R a b → R a' b' → (a = a' ↔ b = b')) (hn : ∀ a b l, l < T → R a b → R (nx a l) (nx' b l)) (h0 : R f f') : ∀ m n, exE nx f T m n = exE nx' f' T m n
  | 0, _ => rfl
  | m + 1, n => by
    rw [exE, exE, (exA_R hR hn h0 n).1.1, (exA_R hR hn h0 (n + 1)).1.1, exE_R hR hn h0 m (n + 1)]
end
section
variable {S S' T : Nat} {P P' : List Int} {E E' : List Bool}
/-- Machines that read the same words have the same smallest machine. -/
theorem ls_same (h : TeO S T P E) (h' : TeO S' T P' E') (hl : ∀ w : List Nat, (∀ x ∈ w, x < T) → rdP T P E w = rdP T P' E' w) :
    exAll (lsN S T P E) (lsF S T P E) T = exAll (lsN S' T P' E') (lsF S' T P' E') T ∧ ∀ N, (exA (lsN S T P E) (lsF S T P E) T N).2 = (exA (lsN S' T P' E') (lsF S' T P' E') T N).2 ∧ (exA (lsN S T P E) (lsF S T P E) T N).1.map (lsE S T P E) = (exA (lsN S' T P' E') (lsF S' T P' E') T N).1.map (lsE S' T P' E') := by
  obtain ⟨R, hRd⟩ : ∃ R : Nat → Nat → Prop, R = fun a b => ∃ u : List Nat, (∀ x ∈ u, x < T) ∧ lsW S T P E u = a ∧ lsW S' T P' E' u = b := ⟨_, rfl⟩
  have hR : ∀ a b a' b', R a b → R a' b' → (a = a' ↔ b = b') := by
    intro a b a' b' h1 h2
    rw [hRd] at h1 h2
    obtain ⟨u, hu, rfl, rfl⟩ := h1
    obtain ⟨v, hv, rfl, rfl⟩ := h2
    rw [lsW_same h hu hv, lsW_same h' hu hv]
    have ap : ∀ (u w : List Nat), (∀ x ∈ u, x < T) → (∀ x ∈ w, x < T) → ∀ x ∈ u ++ w, x < T := fun u w h1 h2 x hx => by
      rcases List.mem_append.1 hx with q | q
      · exact h1 x q
      · exact h2 x q
    constructor
    · intro ha w hw; rw [← hl _ (ap u w hu hw), ← hl _ (ap v w hv hw)]; exact ha w hw
    · intro ha w hw; rw [hl _ (ap u w hu hw), hl _ (ap v w hv hw)]; exact ha w hw
  have hn : ∀ a b l, l < T → R a b → R (lsN S T P E a l) (lsN S' T P' E' b l) := by
    intro a b l hlt h1
    rw [hRd] at h1 ⊢
    obtain ⟨u, hu, rfl, rfl⟩ := h1
    refine ⟨u ++ [l], fun x hx => ?_, (lsN_word h hu hlt).symm, (lsN_word h' hu hlt).symm⟩
    rcases List.mem_append.1 hx with q | q
    · exact hu x q
    · rw [List.mem_singleton.1 q]; exact hlt
  have h0 : R (lsF S T P E) (lsF S' T P' E') := by rw [hRd]; exact ⟨[], (fun x hx => by cases hx), rfl, rfl⟩
  refine ⟨exE_R hR hn h0 65 0, fun N => ?_⟩
  obtain ⟨q1, q2⟩ := exA_R (T := T) hR hn h0 N
  refine ⟨q2, List.ext_getElem? fun i => ?_⟩
  rw [List.getElem?_map, List.getElem?_map]
  cases hi : (exA (lsN S T P E) (lsF S T P E) T N).1[i]? with
  | none => rw [List.getElem?_eq_none (by rw [← q1.1]; exact List.getElem?_eq_none_iff.1 hi)]; rfl
  | some a =>
    obtain ⟨b, hb⟩ : ∃ b, (exA (lsN S' T P' E') (lsF S' T P' E') T N).1[i]? = some b := ⟨_, List.getElem?_eq_getElem (by rw [← q1.1]; exact (List.getElem?_eq_some_iff.1 hi).1)⟩
    rw [hb]
    have := q1.2 i a b hi hb
    rw [hRd] at this
    obtain ⟨u, hu, rfl, rfl⟩ := this
    show some _ = some _
    rw [lsE_word h hu, lsE_word h' hu, hl u hu]
/-- The smallest machine is one, has no more states, and reads the same words. -/
theorem ls_res (h : TeO S T P E) {N : Nat} (hN : exAll (lsN S T P E) (lsF S T P E) T = some N) : TeO N T (exA (lsN S T P E) (lsF S T P E) T N).2 ((exA (lsN S T P E) (lsF S T P E) T N).1.map (lsE S T P E)) ∧ N ≤ S ∧ ∀ w : List Nat, (∀ x ∈ w, x < T) → rdP T (exA (lsN S T P E) (lsF S T P E) T N).2 ((exA (lsN S T P E) (lsF S T P E) T N).1.map (lsE S T P E)) w = rdP T P E w := by
  obtain ⟨r1, r2, r3, r4, r5, r6⟩ := ex_res (lsE S T P E) hN
  obtain ⟨N', q1, q2⟩ := ls_is h
  rw [hN] at q1
  injection q1 with q1
  refine ⟨⟨⟨r1, r2⟩, h.hT, r3, r4, r5⟩, by omega, fun w hw => ?_⟩
  rw [r6 w hw, ← lsW_nil, lsN_fold h w [] (fun x hx => by cases hx) hw, List.nil_append, lsE_word h hw]
/-- Words that lead to different classes are not more than states of the smallest machine. -/
theorem ls_words (h : TeO S T P E) {N : Nat} (hN : exAll (lsN S T P E) (lsF S T P E) T = some N) {W : List (List Nat)} (hW : ∀ w ∈ W, ∀ x ∈ w, x < T) (hd : W.Pairwise fun u v => lsW S T P E u ≠ lsW S T P E v) : W.length ≤ N := by
  obtain ⟨h1, h2, h3, h4, h5, h6, h7⟩ := ex_whole hN
  have hin : ∀ w ∈ W, lsW S T P E w ∈ (exA (lsN S T P E) (lsF S T P E) T N).1 := fun w hw => by
    obtain ⟨t, -, e2⟩ := ex_reads hN w (hW w hw) _ 0 h5
    rw [← lsW_nil, lsN_fold h w [] (fun x hx => by cases hx) (hW w hw), List.nil_append] at e2
    exact List.mem_of_getElem? e2
  have := nodup_le N (W.map fun w => (exA (lsN S T P E) (lsF S T P E) T N).1.idxOf (lsW S T P E w)) (List.pairwise_map.2 (List.Pairwise.imp_of_mem (fun {a b} ha hb hne he => hne (by
    have i1 := ix_at (hin a ha)
    have i2 := ix_at (hin b hb)
    unfold ixL at i1 i2
    rw [he] at i1
    exact Option.some.inj (i1.1.symm.trans i2.1))) hd)) (fun x hx => by
    obtain ⟨w, hw, rfl⟩ := List.mem_map.1 hx
    have := List.idxOf_lt_length_of_mem (hin w hw)
    omega)
  simpa using this
/-- What is learned: it reads the same words (where the teacher is small), has as many states as the smallest machine, and not more guesses are made. -/
theorem ln_small (h : TeO S T P E) (h6 : S ≤ 6) {N : Nat} (hN : exAll (lsN S T P E) (lsF S T P E) T = some N) {r : List Int × List Bool × Nat} : ∀ (f : Nat) (Q W : List (List Nat)) (c : Nat), WdO T P E Q W → [] ∈ Q → (∀ q ∈ Q, ∀ y ∈ q, y < T) → 1 ≤ c → c ≤ (gsW T P E Q W).length → lnE T P E f Q W c = some r →
    TeO r.2.1.length T r.1 r.2.1 ∧ r.2.1.length ≤ N ∧ 1 ≤ r.2.2 ∧ r.2.2 ≤ r.2.1.length ∧ r.2.1.length ≤ 6 ∧ ∀ w : List Nat, (∀ x ∈ w, x < T) → rdP T P E w = rdP T r.1 r.2.1 w
  | 0, Q, W, c, hw, he, hq, h1, hc, hr => by cases hr
  | f + 1, Q, W, c, hw, he, hq, h1, hc, hr => by
    rw [lnE] at hr
    cases hl : lnF T P E Q W with
    | some wd =>
      rw [hl] at hr
      obtain ⟨g1, g2, g3⟩ := ln_grows h hw he hl
      refine ln_small h h6 hN f _ _ _ g2 g3 (fun q hm => ?_) (by omega) (by omega) hr
      have hlw := lnF_law h hw
      rw [hl] at hlw
      obtain ⟨-, xs, rfl, hx, -⟩ := hlw
      unfold lnQ at hm
      rw [faAll_nat] at hm
      rcases tsA_mem xs Q _ q hm with q1 | ⟨i, q1⟩
      · exact hq q q1
      · rw [q1]; exact fun y hy => hx y (List.mem_of_mem_drop hy)
    | none =>
      rw [hl] at hr
      injection hr with hr
      subst hr
      have hg := gs_ok h hw
      have e : (gsD T P E Q W).length = (gsW T P E Q W).length := by unfold gsD; simp
      obtain ⟨-, hi⟩ := gs_whole h hw
      have hwl : (gsW T P E Q W).length ≤ S := hi.wd.len h
      show TeO (gsD T P E Q W).length T (gsP T P E Q W) (gsD T P E Q W) ∧ (gsD T P E Q W).length ≤ N ∧ 1 ≤ c ∧ c ≤ (gsD T P E Q W).length ∧ (gsD T P E Q W).length ≤ 6 ∧ ∀ w : List Nat, (∀ x ∈ w, x < T) → rdP T P E w = rdP T (gsP T P E Q W) (gsD T P E Q W) w
      rw [e]
      refine ⟨hg, ?_, h1, hc, by omega, two_all h hg (by omega) (fun w hw' hl12 => ?_)⟩
      · refine ls_words h hN (W := gsW T P E Q W) hi.wd.let_ ?_
        have hn := hi.wd.nd
        rw [List.Nodup, List.pairwise_map] at hn
        refine List.Pairwise.imp_of_mem (fun {u v} hu hv hne he' => hne ?_) hn
        have hs := (lsW_same h (hi.wd.let_ u hu) (hi.wd.let_ v hv)).1 he'
        unfold rkW
        exact List.map_congr_left (fun q hm => hs q (hq q hm))
      · have hlw := faAll_law (nx := plX T P (gsP T P E Q W)) (df := plD E (gsD T P E Q W)) (T := T) (Sa := S) (Sb := (gsW T P E Q W).length) h.hS.2 hg.hS.2 ⟨by have := h.hS; omega, by have := hg.hS; omega⟩ (fun p j h1 h2 h3 => ⟨(plT_bd rfl h.hl h.hP h1 h3).2, (plT_bd rfl hg.hl hg.hP h2 h3).2⟩)
        have hf : faAll (plX T P (gsP T P E Q W)) (plD E (gsD T P E Q W)) (0, 0) T = none := hl
        rw [hf] at hlw
        have := hlw w hw' hl12
        rw [plX_fold] at this
        unfold plD at this
        unfold rdP
        simp only at this
        revert this
        cases E.getD (List.foldl (plT T P) 0 w) false <;> cases (gsD T P E Q W).getD (List.foldl (plT T (gsP T P E Q W)) 0 w) false <;> simp
end
end Go.Proofs.Ytbdfbmohdbigfaa
