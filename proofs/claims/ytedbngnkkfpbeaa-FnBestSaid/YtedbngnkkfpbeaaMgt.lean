/- Several texts in one: Sorting with equals in their order: merging two sorted rows, plainly. Sorting with equals in their order: a row of one entry behind a sorted row. -/
import Derived.Test.YtedbngnkkfpbeaaMgs

namespace Go.Proofs.Ytedbngnkkfpbeaa
open Go.RowKit
set_option linter.unusedVariables false
section
variable {X Y : List Ce} {i j : Nat} {x y z : Ce}
theorem srt_take (h : Srt X) (hi : X[i]? = some z) : ∀ x ∈ X.take (i + 1), x.c ≤ z.c := by
  obtain ⟨h1, rfl⟩ := List.getElem?_eq_some_iff.1 hi
  have e : X = X.take i ++ X[i] :: X.drop (i + 1) := by rw [← List.drop_eq_getElem_cons h1, List.take_append_drop]
  intro x hx
  rw [List.take_succ_eq_append_getElem h1] at hx
  rcases List.mem_append.1 hx with hx | hx
  · have h2 : Srt (X.take i ++ X[i] :: X.drop (i + 1)) := by rw [← e]; exact h
    exact h2.mid x hx _ List.mem_cons_self
  · rw [List.mem_singleton.1 hx]; exact Int.le_refl _
theorem srt_drop (h : Srt X) (hi : X[i]? = some z) : ∀ x ∈ X.drop i, z.c ≤ x.c := by
  obtain ⟨h1, rfl⟩ := List.getElem?_eq_some_iff.1 hi
  have e : X = X.take i ++ X[i] :: X.drop (i + 1) := by rw [← List.drop_eq_getElem_cons h1, List.take_append_drop]
  intro x hx
  rw [List.drop_eq_getElem_cons h1] at hx
  rcases List.mem_cons.1 hx with rfl | hx
  · exact Int.le_refl _
  · have h2 : Srt (X.take i ++ X[i] :: X.drop (i + 1)) := by rw [← e]; exact h
    exact (List.pairwise_cons.1 h2.right).1 x hx
/-- One entry put ahead of those that are no less. -/
theorem srt_put {Y1 Y2 : List Ce} (h : Srt (Y1 ++ Y2)) (h1 : ∀ y ∈ Y1, y.c < x.c) (h2 : ∀ y ∈ Y2, x.c ≤ y.c) : Srt (Y1 ++ x :: Y2) :=
  Srt.append h.left (List.pairwise_cons.2 ⟨h2, h.right⟩) (fun a ha b hb => by
    rcases List.mem_cons.1 hb with rfl | hb
    · exact Int.le_of_lt (h1 a ha)
    · exact h.mid a ha b hb)
theorem stb_put {Y1 Y2 : List Ce} (h1 : ∀ y ∈ Y1, y.c < x.c) : Stb ([x] ++ (Y1 ++ Y2)) (Y1 ++ x :: Y2) := by
  have e1 : [x] ++ (Y1 ++ Y2) = ([x] ++ Y1) ++ Y2 := by simp
  have e2 : Y1 ++ x :: Y2 = (Y1 ++ [x]) ++ Y2 := by simp
  rw [e1, e2]
  exact (Stb.swap fun a ha b hb => by rw [List.mem_singleton.1 ha]; exact h1 b hb).append (Stb.refl Y2)
/-- Both halves merged are the whole merged. -/
theorem srt_merge {X1 X2 Y1 Y2 M1 M2 : List Ce} (hX : Srt (X1 ++ X2)) (hY : Srt (Y1 ++ Y2)) (hl : ∀ x ∈ X1, ∀ y ∈ Y2, x.c ≤ y.c) (hr : ∀ y ∈ Y1, ∀ x ∈ X2, y.c < x.c) (s1 : Srt M1) (s2 : Srt M2) (b1 : Stb (X1 ++ Y1) M1) (b2 : Stb (X2 ++ Y2) M2) : Srt (M1 ++ M2) ∧ Stb ((X1 ++ X2) ++ (Y1 ++ Y2)) (M1 ++ M2) := by
  constructor
  · refine Srt.append s1 s2 fun a ha b hb => ?_
    rcases List.mem_append.1 (b1.mem.1 ha) with ha | ha
    · rcases List.mem_append.1 (b2.mem.1 hb) with hb | hb
      · exact hX.mid a ha b hb
      · exact hl a ha b hb
    · rcases List.mem_append.1 (b2.mem.1 hb) with hb | hb
      · exact Int.le_of_lt (hr a ha b hb)
      · exact hY.mid a ha b hb
  · have h1 : Stb ((X1 ++ X2) ++ (Y1 ++ Y2)) ((X1 ++ Y1) ++ (X2 ++ Y2)) := by
      have e1 : (X1 ++ X2) ++ (Y1 ++ Y2) = X1 ++ ((X2 ++ Y1) ++ Y2) := by simp
      have e2 : (X1 ++ Y1) ++ (X2 ++ Y2) = X1 ++ ((Y1 ++ X2) ++ Y2) := by simp
      rw [e1, e2]
      exact (Stb.refl X1).append ((Stb.swap fun a ha b hb => hr b hb a ha).append (Stb.refl Y2))
    exact h1.trans (b1.append b2)
/-- One of two rows is empty: what they make is sorted. -/
theorem srt_empty (hX : Srt X) (hY : Srt Y) (h : X = [] ∨ Y = []) : Srt (X ++ Y) := by
  rcases h with rfl | rfl
  · exact hY
  · rw [List.append_nil]; exact hX
end
set_option maxRecDepth 100000 in
set_option maxHeartbeats 8000000 in
/-- A row of one entry ahead of a sorted row. -/
theorem sym_left (P Y S D : List Ce) (x : Ce) (base g cap a m b N : Nat) (w : World) (hD : D = P ++ (x :: (Y ++ S))) (hN : D.length = N) (hw : Dw w base g cap D) (hcap : N ≤ 100000) (hP : P.length = a) (hm : a + 1 = m) (hY : m + Y.length = b) (hs : Srt Y) :
    Calls Try.prog 79 #[.slice (some ⟨g, 0, none⟩) N cap, .int .i64 (a : Int), .int .i64 (m : Int), .int .i64 (b : Int), cmpV] w fun e w' => e = .returned (.tuple #[]) ∧ ∃ M, Dw w' base g cap (P ++ (M ++ S)) ∧ Lo w.heap.size g w w' ∧ Srt M ∧ Stb ([x] ++ Y) M := by
  have hb : b ≤ N := by rw [← hN, hD]; simp; omega
  have w0 : IntKind.i64.wrap ((m : Int) - (a : Int)) = 1 := by rw [IntWalk.i64_in _ (by omega)]; omega
  have HW := Lib.hid hw; have HD := Lib.hid hD; have HN := Lib.hid hN; have HP := Lib.hid hP; have HY := Lib.hid hY; have HB := Lib.hid hb; have HS := Lib.hid hs; have HM := Lib.hid hm; have HC9 := Lib.hid hcap
  have HCMP := Lib.hid (fun x y w => cmpB_any x y w)
  clear hw hD hN hP hs hb hm hY
  unfold cmpV
  go_enter Try.func79, Try.ntmps79
  go_wp2_with fail
  go_loopg [10, 11, 12] (b - m) (fun q ti tj th wr => ∃ (i j : Nat), ti = .int .i64 (i : Int) ∧ tj = .int .i64 (j : Int) ∧ Hid (m ≤ i ∧ i ≤ j ∧ j ≤ b ∧ j - i ≤ q) ∧ Hid (∀ y ∈ Y.take (i - m), y.c < x.c) ∧ Hid (∀ y ∈ Y.drop (j - m), x.c ≤ y.c) ∧ Hid (Dw wr base g cap D) ∧ Hid (Lo w.heap.size g w wr))
  case atStart =>
    refine ⟨m, b, rfl, rfl, ?_, ?_, ?_, HW.out, Lo.refl _ _ _⟩
    · show _ ∧ _; have := HY.out; omega
    · show ∀ y ∈ _, _; rw [Nat.sub_self]; intro y hy; simp at hy
    · show ∀ y ∈ _, _; rw [List.drop_of_length_le (by have := HY.out; omega)]; intro y hy; simp at hy
  case round =>
    obtain ⟨wo, rfl⟩ : ∃ z : World, z = wr := ⟨_, rfl⟩
    obtain ⟨i, j, rfl, rfl, EI, E1, E2, HDW, HL⟩ := hrel
    obtain ⟨go, hgo⟩ : ∃ z : Nat, z = gk := ⟨_, rfl⟩
    by_cases hlt : i < j
    · have bnd : i + j ≤ 200000 := by have := EI.out; have := HB.out; have := HC9.out; omega
      obtain ⟨h, hh⟩ : ∃ h, h = (i + j) / 2 := ⟨_, rfl⟩
      have hh1 : i ≤ h ∧ h < j := by omega
      have v1 : IntKind.i64.wrap ((i : Int) + (j : Int)) = ((i + j : Nat) : Int) := by rw [IntWalk.i64_in _ (by omega)]; omega
      have v2 : IntKind.u64.wrap ((i + j : Nat) : Int) = ((i + j : Nat) : Int) := IntWalk.u64_in _ (by omega)
      have v3 : IntKind.i64.wrap (h : Int) = (h : Int) := IntWalk.i64_in _ (by omega)
      have v4 : ((i : Int) + (j : Int)) / 2 = (h : Int) := by omega
      have v5 : IntKind.i64.wrap ((h : Int) + 1) = ((h + 1 : Nat) : Int) := by rw [IntWalk.i64_in _ (by omega)]; omega
      have hY := HY.out; have hei := EI.out; have hbb := HB.out; have hmm := HM.out
      obtain ⟨z, hz⟩ : ∃ z, Y[h - m]? = some z := ⟨_, List.getElem?_eq_getElem (by omega)⟩
      have ga : D[a]? = some x := by rw [HD.out]; exact get_at HP.out
      have gh : D[h]? = some z := by
        rw [HD.out, show P ++ (x :: (Y ++ S)) = (P ++ [x]) ++ (Y ++ S) by simp, List.getElem?_append_right (by simp [HP.out]; omega), List.getElem?_append_left (by simp [HP.out]; omega)]
        rw [show h - (P ++ [x]).length = h - m by simp [HP.out]; omega]; exact hz
      obtain ⟨ca1, ca2⟩ := ce_grown HDW.out gh
      obtain ⟨cb1, cb2⟩ := ce_grown HDW.out ga
      obtain ⟨r, hr⟩ : ∃ r, r = cmpI z x := ⟨_, rfl⟩
      have HC : Hid (∀ w, Calls Try.prog 42 #[.agg #[.slice z.A z.n z.k, .int .i64 z.c], .agg #[.slice x.A x.n x.k, .int .i64 x.c]] w fun e w' => e = .returned (.int .i64 r) ∧ ∃ q os', w' = Go.Sort.grow (w.drewN q) os') := fun w => by rw [hr]; exact HCMP.out z x w
      have hrl := cmpI_lt z x
      rw [← hr] at hrl
      have l1 : (0 : Int) ≤ (h : Int) := by omega
      have l2 : (h : Int) < (N : Int) := by omega
      have l3 : (0 : Int) ≤ (a : Int) := by omega
      have l4 : (a : Int) < (N : Int) := by omega
      have mixed : Try.prog.follows .mixedOrders = true := by kernel_rfl
      have HZ := Lib.hid hz; have HH := Lib.hid hh1
      clear hz ga gh hr hY hei hbb hmm hh bnd hh1
      go_wp2_with fail
      go_quiet_grown ((go_at_call 42; exact Calls.grown_of (HC.out _)))
      have hbq := below_grown' wo nq osq
      obtain ⟨wq, hwq⟩ : ∃ x, x = Go.Sort.grow (wo.drewN nq) osq := ⟨_, rfl⟩
      rw [← hwq] at hbq
      change Exit.then _ _ _ _ (Go.Sort.grow (wo.drewN nq) osq)
      rw [← hwq]
      have HDq := Lib.hid (HDW.out.keep hbq (Nat.le_refl _))
      have HLq : Hid (Lo w.heap.size g w wq) := HL.out.trans (Lo.below hbq HL.out.sz)
      clear hwq hbq ca1 ca2 cb1 cb2 mixed HDW HL l1 l2 l3 l4 v1 v2 v3
      by_cases hzx : z.c < x.c
      · have b1 : decide (z.c < x.c) = true := decide_eq_true hzx
        go_wp2_with fail
        go_roundg (go - 1)
        case measure => have := EI.out; have := HH.out; omega
        case rel =>
          refine ⟨h + 1, j, by go_num, rfl, ?_, ?_, E2.out, HDq.out, HLq.out⟩
          · show _ ∧ _; have := EI.out; have := HH.out; omega
          · show ∀ y ∈ _, _
            intro y hy
            rw [show h + 1 - m = h - m + 1 by have := EI.out; have := HH.out; omega] at hy
            have := srt_take HS.out HZ.out y hy
            omega
      · have b1 : decide (z.c < x.c) = false := decide_eq_false hzx
        go_wp2_with fail
        go_roundg (go - 1)
        case measure => have := EI.out; have := HH.out; omega
        case rel =>
          refine ⟨i, h, rfl, rfl, ?_, E1.out, ?_, HDq.out, HLq.out⟩
          · show _ ∧ _; have := EI.out; have := HH.out; omega
          · show ∀ y ∈ _, _
            intro y hy
            have := srt_drop HS.out HZ.out y hy
            omega
    · have hij : i = j := by have := EI.out; omega
      rw [← hij] at E2
      have hY := HY.out; have hei := EI.out; have hbb := HB.out; have hmm := HM.out
      obtain ⟨n, hn⟩ : ∃ n, n = i - m := ⟨_, rfl⟩
      have hin : i = m + n := by omega
      have hnY : n ≤ Y.length := by omega
      rw [← hn] at E1 E2
      have v1 : IntKind.i64.wrap ((i : Int) - 1) = ((a + n : Nat) : Int) := by rw [IntWalk.i64_in _ (by have := HC9.out; omega)]; omega
      have HNY := Lib.hid hnY; have HIN := Lib.hid hin
      clear hij hn hY hei hbb hmm hin hnY
      go_wp2_with fail
      go_loopg [13] n (fun q tk wr => ∃ (k : Nat) (D' : List Ce), tk = .int .i64 ((a + k : Nat) : Int) ∧ Hid (k ≤ n ∧ n ≤ q + k) ∧ Hid (D' = (P ++ Y.take k) ++ (x :: (Y.drop k ++ S))) ∧ Hid (D'.length = N) ∧ Hid (Dw wr base g cap D') ∧ Hid (Lo w.heap.size g w wr))
      case atStart =>
        refine ⟨0, D, rfl, ?_, ?_, HN.out, HDW.out, HL.out⟩
        · show _ ∧ _; omega
        · show _ = _; rw [HD.out]; simp
      case round =>
        clear HDW HL
        obtain ⟨wi, rfl⟩ : ∃ z : World, z = wr := ⟨_, rfl⟩
        obtain ⟨k, D', rfl, EK, ED, EN, HDW, HL⟩ := hrel
        by_cases hlt2 : k < n
        · obtain ⟨z, hz⟩ : ∃ z, Y[k]? = some z := ⟨_, List.getElem?_eq_getElem (by have := HNY.out; omega)⟩
          obtain ⟨hk1, hz2⟩ := List.getElem?_eq_some_iff.1 hz
          have f1 : D' = (P ++ Y.take k) ++ x :: ([] ++ z :: (Y.drop (k + 1) ++ S)) := by
            rw [ED.out, List.drop_eq_getElem_cons hk1, hz2]; simp
          have hlu : (P ++ Y.take k).length = a + k := by rw [List.length_append, List.length_take, HP.out]; omega
          have g1 : D'[a + k]? = some x := by rw [f1]; exact get_at hlu
          have g2 : D'[a + k + 1]? = some z := by
            rw [f1, show (P ++ Y.take k) ++ x :: ([] ++ z :: (Y.drop (k + 1) ++ S)) = ((P ++ Y.take k) ++ [x]) ++ z :: (Y.drop (k + 1) ++ S) by simp]
            exact get_at (by rw [List.length_append, hlu]; rfl)
          have hN2 : a + k + 1 < N := by have := (List.getElem?_eq_some_iff.1 g2).1; rw [EN.out] at this; exact this
          have hS := HDW.out.swap g1 g2
          have e1 : swp D' (a + k) (a + k + 1) = (P ++ Y.take (k + 1)) ++ (x :: (Y.drop (k + 1) ++ S)) := by
            rw [f1, swp_at hlu (by simp), List.take_succ_eq_append_getElem hk1, hz2]; simp
          rw [e1] at hS
          obtain ⟨⟨c1, c2⟩, c3, c4⟩ := HDW.out.at g1
          obtain ⟨⟨d1, d2⟩, d3, d4⟩ := HDW.out.at g2
          have HS2 := Lib.hid hS
          obtain ⟨K, hK⟩ : ∃ K, K = a + k := ⟨_, rfl⟩
          rw [← hK] at c1 c2 c3 c4 d1 d2 d3 d4 hN2 HS2 ⊢
          have HK := Lib.hid hK
          have w3 : IntKind.i64.wrap ((K : Int) + 1) = ((K + 1 : Nat) : Int) := by rw [IntWalk.i64_in _ (by omega)]; omega
          have l0 : (K : Int) < ((a + n : Nat) : Int) := by omega
          have l1 : (0 : Int) ≤ (K : Int) := by omega
          have l2 : (K : Int) < (N : Int) := by omega
          have l3 : (0 : Int) ≤ ((K + 1 : Nat) : Int) := by omega
          have l4 : ((K + 1 : Nat) : Int) < (N : Int) := by omega
          have l5 : ((K : Int) + 1).toNat = K + 1 := by omega
          have l6 : (K : Int) + 1 < (N : Int) := by omega
          have l7 : (0 : Int) ≤ (K : Int) + 1 := by omega
          have HE1 : Hid ((swp D' (a + k) (a + k + 1)).length = N) := by show _ = _; rw [swp_len]; exact EN.out
          rw [e1] at HE1
          have NE : ¬ K = K + 1 := by omega
          have HLT : Hid (k < n) := hlt2
          clear hS e1 f1 g1 g2 hz hk1 hz2 hlu hK hlt2
          go_wp2_with fail
          go_region
          clear c1 c2 c3 c4 d1 d2 d3 d4 l0 l1 l2 l3 l4 l5 l6 l7 NE hN2
          all_goals
            go_wp2_with fail
            go_roundg (gk - 1)
            case measure => have := EK.out; have := HLT.out; omega
            case rel =>
              refine ⟨k + 1, (P ++ Y.take (k + 1)) ++ (x :: (Y.drop (k + 1) ++ S)), by rw [HK.out]; go_num, ?_, rfl, HE1.out, HS2.out.drewN 1, ?_⟩
              · show _ ∧ _; have := EK.out; have := HLT.out; omega
              · exact HL.out.trans ((lo_swap _ _ _ _ _ _ _ _ _ _ _).trans (Lo.drew _ _ _))
        · have hkn : k = n := by have := EK.out; omega
          have l0 : ¬ ((a + k : Nat) : Int) < ((a + n : Nat) : Int) := by omega
          go_wp2_with fail
          refine bodyPost_ret (v := .tuple #[]) (results_none rfl _ _ _) rfl ?_
          refine ⟨rfl, Y.take n ++ x :: Y.drop n, ?_, HL.out, ?_, ?_⟩
          · have h1 := HDW.out
            rw [ED.out, hkn] at h1
            have e : P ++ ((Y.take n ++ x :: Y.drop n) ++ S) = (P ++ Y.take n) ++ (x :: (Y.drop n ++ S)) := by simp
            rw [e]; exact h1
          · exact srt_put (by rw [List.take_append_drop]; exact HS.out) E1.out E2.out
          · have h1 := stb_put (Y2 := Y.drop n) E1.out
            rw [List.take_append_drop] at h1; exact h1
end Go.Proofs.Ytedbngnkkfpbeaa


namespace Go.Proofs.Ytedbngnkkfpbeaa
open Go.RowKit
set_option linter.unusedVariables false
set_option maxRecDepth 100000 in
set_option maxHeartbeats 8000000 in
/-- A row of one entry behind a sorted row. -/
theorem sym_right (P X S D : List Ce) (y : Ce) (base g cap a m b N : Nat) (w : World) (hD : D = P ++ (X ++ (y :: S))) (hN : D.length = N) (hw : Dw w base g cap D) (hcap : N ≤ 100000) (hP : P.length = a) (hX : a + X.length = m) (hb1 : m + 1 = b) (hx1 : X.length ≠ 1) (hs : Srt X) :
    Calls Try.prog 79 #[.slice (some ⟨g, 0, none⟩) N cap, .int .i64 (a : Int), .int .i64 (m : Int), .int .i64 (b : Int), cmpV] w fun e w' => e = .returned (.tuple #[]) ∧ ∃ M, Dw w' base g cap (P ++ (M ++ S)) ∧ Lo w.heap.size g w w' ∧ Srt M ∧ Stb (X ++ [y]) M := by
  have hb : b ≤ N := by rw [← hN, hD]; simp; omega
  have w0 : IntKind.i64.wrap ((m : Int) - (a : Int)) = ((m - a : Nat) : Int) := by rw [IntWalk.i64_in _ (by omega)]; omega
  have w00 : (((m - a : Nat) : Int) == 1) = false := by rw [beq_eq_false_iff_ne]; omega
  have w01 : IntKind.i64.wrap ((b : Int) - (m : Int)) = 1 := by rw [IntWalk.i64_in _ (by omega)]; omega
  have HW := Lib.hid hw; have HD := Lib.hid hD; have HN := Lib.hid hN; have HP := Lib.hid hP; have HX := Lib.hid hX; have HB := Lib.hid hb; have HS := Lib.hid hs; have HM := Lib.hid hb1; have HC9 := Lib.hid hcap
  have HCMP := Lib.hid (fun x y w => cmpB_any x y w)
  clear hw hD hN hP hs hb hb1 hX hx1
  unfold cmpV
  go_enter Try.func79, Try.ntmps79
  go_wp2_with fail
  go_loopg [14, 15, 16] (m - a) (fun q ti tj th wr => ∃ (i j : Nat), ti = .int .i64 (i : Int) ∧ tj = .int .i64 (j : Int) ∧ Hid (a ≤ i ∧ i ≤ j ∧ j ≤ m ∧ j - i ≤ q) ∧ Hid (∀ x ∈ X.take (i - a), x.c ≤ y.c) ∧ Hid (∀ x ∈ X.drop (j - a), y.c < x.c) ∧ Hid (Dw wr base g cap D) ∧ Hid (Lo w.heap.size g w wr))
  case atStart =>
    refine ⟨a, m, rfl, rfl, ?_, ?_, ?_, HW.out, Lo.refl _ _ _⟩
    · show _ ∧ _; have := HX.out; omega
    · show ∀ y ∈ _, _; rw [Nat.sub_self]; intro y hy; simp at hy
    · show ∀ y ∈ _, _; rw [List.drop_of_length_le (by have := HX.out; omega)]; intro y hy; simp at hy
  case round =>
    obtain ⟨wo, rfl⟩ : ∃ z : World, z = wr := ⟨_, rfl⟩
    obtain ⟨i, j, rfl, rfl, EI, E1, E2, HDW, HL⟩ := hrel
    obtain ⟨go, hgo⟩ : ∃ z : Nat, z = gk := ⟨_, rfl⟩
    by_cases hlt : i < j
    · have bnd : i + j ≤ 200000 := by have := EI.out; have := HB.out; have := HC9.out; have := HM.out; omega
      obtain ⟨h, hh⟩ : ∃ h, h = (i + j) / 2 := ⟨_, rfl⟩
      have hh1 : i ≤ h ∧ h < j := by omega
      have v1 : IntKind.i64.wrap ((i : Int) + (j : Int)) = ((i + j : Nat) : Int) := by rw [IntWalk.i64_in _ (by omega)]; omega
      have v2 : IntKind.u64.wrap ((i + j : Nat) : Int) = ((i + j : Nat) : Int) := IntWalk.u64_in _ (by omega)
      have v3 : IntKind.i64.wrap (h : Int) = (h : Int) := IntWalk.i64_in _ (by omega)
      have v4 : ((i : Int) + (j : Int)) / 2 = (h : Int) := by omega
      have v5 : IntKind.i64.wrap ((h : Int) + 1) = ((h + 1 : Nat) : Int) := by rw [IntWalk.i64_in _ (by omega)]; omega
      have hX := HX.out; have hei := EI.out; have hbb := HB.out; have hmm := HM.out
      obtain ⟨z, hz⟩ : ∃ z, X[h - a]? = some z := ⟨_, List.getElem?_eq_getElem (by omega)⟩
      have ga : D[m]? = some y := by rw [HD.out, ← List.append_assoc]; exact get_at (by rw [List.length_append, HP.out]; exact hX)
      have gh : D[h]? = some z := by
        rw [HD.out, List.getElem?_append_right (by rw [HP.out]; omega), List.getElem?_append_left (by rw [HP.out]; omega), HP.out]; exact hz
      obtain ⟨ca1, ca2⟩ := ce_grown HDW.out gh
      obtain ⟨cb1, cb2⟩ := ce_grown HDW.out ga
      obtain ⟨r, hr⟩ : ∃ r, r = cmpI y z := ⟨_, rfl⟩
      have HC : Hid (∀ w, Calls Try.prog 42 #[.agg #[.slice y.A y.n y.k, .int .i64 y.c], .agg #[.slice z.A z.n z.k, .int .i64 z.c]] w fun e w' => e = .returned (.int .i64 r) ∧ ∃ q os', w' = Go.Sort.grow (w.drewN q) os') := fun w => by rw [hr]; exact HCMP.out y z w
      have hrl := cmpI_lt y z
      rw [← hr] at hrl
      have l1 : (0 : Int) ≤ (h : Int) := by omega
      have l2 : (h : Int) < (N : Int) := by omega
      have l3 : (0 : Int) ≤ (m : Int) := by omega
      have l4 : (m : Int) < (N : Int) := by omega
      have mixed : Try.prog.follows .mixedOrders = true := by kernel_rfl
      have HZ := Lib.hid hz; have HH := Lib.hid hh1
      clear hz ga gh hr hX hei hbb hmm hh bnd hh1
      go_wp2_with fail
      go_quiet_grown ((go_at_call 42; exact Calls.grown_of (HC.out _)))
      have hbq := below_grown' wo nq osq
      obtain ⟨wq, hwq⟩ : ∃ x, x = Go.Sort.grow (wo.drewN nq) osq := ⟨_, rfl⟩
      rw [← hwq] at hbq
      change Exit.then _ _ _ _ (Go.Sort.grow (wo.drewN nq) osq)
      rw [← hwq]
      have HDq := Lib.hid (HDW.out.keep hbq (Nat.le_refl _))
      have HLq : Hid (Lo w.heap.size g w wq) := HL.out.trans (Lo.below hbq HL.out.sz)
      clear hwq hbq ca1 ca2 cb1 cb2 mixed HDW HL l1 l2 l3 l4 v1 v2 v3
      by_cases hzx : y.c < z.c
      · have b1 : (!decide (y.c < z.c)) = false := by rw [decide_eq_true hzx]; rfl
        rw [b1]
        go_wp2_with fail
        go_roundg (go - 1)
        case measure => have := EI.out; have := HH.out; omega
        case rel =>
          refine ⟨i, h, rfl, rfl, ?_, E1.out, ?_, HDq.out, HLq.out⟩
          · show _ ∧ _; have := EI.out; have := HH.out; omega
          · show ∀ y ∈ _, _
            intro y hy
            have := srt_drop HS.out HZ.out y hy
            omega
      · have b1 : (!decide (y.c < z.c)) = true := by rw [decide_eq_false hzx]; rfl
        rw [b1]
        go_wp2_with fail
        go_roundg (go - 1)
        case measure => have := EI.out; have := HH.out; omega
        case rel =>
          refine ⟨h + 1, j, by go_num, rfl, ?_, ?_, E2.out, HDq.out, HLq.out⟩
          · show _ ∧ _; have := EI.out; have := HH.out; omega
          · show ∀ y ∈ _, _
            intro y hy
            rw [show h + 1 - a = h - a + 1 by have := EI.out; have := HH.out; omega] at hy
            have := srt_take HS.out HZ.out y hy
            omega
    · have hij : i = j := by have := EI.out; omega
      rw [← hij] at E2
      have hX := HX.out; have hei := EI.out; have hbb := HB.out; have hmm := HM.out
      obtain ⟨n, hn⟩ : ∃ n, n = i - a := ⟨_, rfl⟩
      have hin : i = a + n := by omega
      have hnX : n ≤ X.length := by omega
      rw [← hn] at E1 E2
      have HNX := Lib.hid hnX; have HIN := Lib.hid hin
      clear hij hn hX hei hbb hmm hin hnX
      go_wp2_with fail
      go_loopg [17] (m - i) (fun q tk wr => ∃ (k : Nat) (D' : List Ce), tk = .int .i64 (k : Int) ∧ Hid (i ≤ k ∧ k ≤ m ∧ k ≤ q + i) ∧ Hid (D' = (P ++ X.take (k - a)) ++ (y :: (X.drop (k - a) ++ S))) ∧ Hid (D'.length = N) ∧ Hid (Dw wr base g cap D') ∧ Hid (Lo w.heap.size g w wr))
      case atStart =>
        refine ⟨m, D, rfl, ?_, ?_, HN.out, HDW.out, HL.out⟩
        · show _ ∧ _; have := EI.out; omega
        · show _ = _; rw [HD.out, List.take_of_length_le (by have := HX.out; omega), List.drop_of_length_le (by have := HX.out; omega)]; simp
      case round =>
        clear HDW HL
        obtain ⟨wi, rfl⟩ : ∃ z : World, z = wr := ⟨_, rfl⟩
        obtain ⟨k, D', rfl, EK, ED, EN, HDW, HL⟩ := hrel
        by_cases hlt2 : i < k
        · obtain ⟨n1, hn1⟩ : ∃ n1, k - a = n1 + 1 := ⟨k - a - 1, by have := EI.out; omega⟩
          have hk1 : n1 < X.length := by have := EK.out; have := HX.out; omega
          obtain ⟨z, hz2⟩ : ∃ z, X[n1] = z := ⟨_, rfl⟩
          have f1 : D' = (P ++ X.take n1) ++ z :: ([] ++ y :: (X.drop (n1 + 1) ++ S)) := by
            rw [ED.out, hn1, List.take_succ_eq_append_getElem hk1, hz2]; simp
          have hlu : (P ++ X.take n1).length = k - 1 := by rw [List.length_append, List.length_take, HP.out]; have := EI.out; omega
          have g1 : D'[k - 1]? = some z := by rw [f1]; exact get_at hlu
          have g2 : D'[k]? = some y := by
            rw [f1, show (P ++ X.take n1) ++ z :: ([] ++ y :: (X.drop (n1 + 1) ++ S)) = ((P ++ X.take n1) ++ [z]) ++ y :: (X.drop (n1 + 1) ++ S) by simp]
            exact get_at (by rw [List.length_append, hlu]; show k - 1 + 1 = k; omega)
          have hkN : k < N := by have := (List.getElem?_eq_some_iff.1 g2).1; rw [EN.out] at this; exact this
          have hS := HDW.out.swap g2 g1
          have e1 : swp D' k (k - 1) = (P ++ X.take n1) ++ (y :: (X.drop n1 ++ S)) := by
            rw [f1, swp_at' hlu (by simp; omega), List.drop_eq_getElem_cons hk1, hz2]; simp
          have HE1 : Hid ((swp D' k (k - 1)).length = N) := by show _ = _; rw [swp_len]; exact EN.out
          rw [e1] at hS HE1
          obtain ⟨⟨c1, c2⟩, c3, c4⟩ := HDW.out.at g2
          obtain ⟨⟨d1, d2⟩, d3, d4⟩ := HDW.out.at g1
          have HS2 := Lib.hid hS
          have w1 : IntKind.i64.wrap ((k : Int) - 1) = ((k - 1 : Nat) : Int) := by rw [IntWalk.i64_in _ (by omega)]; omega
          have l0 : (i : Int) < (k : Int) := by omega
          have l1 : (0 : Int) ≤ (k : Int) := by omega
          have l2 : (k : Int) < (N : Int) := by omega
          have l3 : (0 : Int) ≤ ((k - 1 : Nat) : Int) := by omega
          have l4 : ((k - 1 : Nat) : Int) < (N : Int) := by omega
          have NE : ¬ k = k - 1 := by omega
          have HLT : Hid (i < k) := hlt2
          have HN1 := Lib.hid hn1
          clear hS e1 f1 g1 g2 hz2 hk1 hlu hn1
          go_wp2_with fail
          go_region
          clear c1 c2 c3 c4 d1 d2 d3 d4 l0 l1 l2 l3 l4 NE
          all_goals
            go_wp2_with fail
            go_roundg (gk - 1)
            case measure => have := EK.out; have := HLT.out; omega
            case rel =>
              refine ⟨k - 1, (P ++ X.take n1) ++ (y :: (X.drop n1 ++ S)), by go_num, ?_, ?_, HE1.out, HS2.out.drewN 1, ?_⟩
              · show _ ∧ _; have := EK.out; have := HLT.out; omega
              · show _ = _; rw [show k - 1 - a = n1 by have := HN1.out; omega]
              · exact HL.out.trans ((lo_swap _ _ _ _ _ _ _ _ _ _ _).trans (Lo.drew _ _ _))
        · have hkn : k - a = n := by have := EK.out; have := HIN.out; omega
          have l0 : ¬ (i : Int) < (k : Int) := by omega
          go_wp2_with fail
          refine bodyPost_ret (v := .tuple #[]) (results_none rfl _ _ _) rfl ?_
          refine ⟨rfl, X.take n ++ y :: X.drop n, ?_, HL.out, ?_, ?_⟩
          · have h1 := HDW.out
            rw [ED.out, hkn] at h1
            have e : P ++ ((X.take n ++ y :: X.drop n) ++ S) = (P ++ X.take n) ++ (y :: (X.drop n ++ S)) := by simp
            rw [e]; exact h1
          · exact srt_insert (by rw [List.take_append_drop]; exact HS.out) E2.out E1.out
          · have h1 := stb_insert (M1 := X.take n) E2.out
            rw [List.take_append_drop] at h1; exact h1
end Go.Proofs.Ytedbngnkkfpbeaa
