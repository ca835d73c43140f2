/- Several texts in one: Sorting with equals in their order: two rows side by side changed about (rotateCmpFunc). Sorting with equals in their order: a block is sorted by insertion. -/
import Derived.Test.YtedbngnkkfpbeaaStM
import Derived.Deep.CutRange

namespace Go.Proofs.Ytedbngnkkfpbeaa
open Go.RowKit
set_option linter.unusedVariables false
theorem cut2 {X : List Ce} {j : Nat} : X = X.take j ++ X.drop j := (List.take_append_drop j X).symm
set_option maxRecDepth 100000 in
set_option maxHeartbeats 4000000 in
theorem rot_any (P X Y S D : List Ce) (base g cap a m b N : Nat) (cv : Value) (w : World) (hD : D = P ++ (X ++ (Y ++ S))) (hN : D.length = N) (hw : Dw w base g cap D) (hcap : N ≤ 100000) (hP : P.length = a) (hX : a + X.length = m) (hY : m + Y.length = b) (hx0 : 1 ≤ X.length) (hy0 : 1 ≤ Y.length) :
    Calls Try.prog 82 #[.slice (some ⟨g, 0, none⟩) N cap, .int .i64 (a : Int), .int .i64 (m : Int), .int .i64 (b : Int), cv] w fun e w' => e = .returned (.tuple #[]) ∧ Dw w' base g cap (P ++ (Y ++ (X ++ S))) ∧ Lo w.heap.size g w w' := by
  have hb : b ≤ N := by rw [← hN, hD]; simp; omega
  obtain ⟨T, hT⟩ : ∃ T, T = P ++ (Y ++ (X ++ S)) := ⟨_, rfl⟩
  rw [← hT]
  have w1 : IntKind.i64.wrap ((m : Int) - (a : Int)) = ((m - a : Nat) : Int) := by rw [IntWalk.i64_in _ (by omega)]; omega
  have w2 : IntKind.i64.wrap ((b : Int) - (m : Int)) = ((b - m : Nat) : Int) := by rw [IntWalk.i64_in _ (by omega)]; omega
  have HW := Lib.hid hw; have HT := Lib.hid hT; have HD := Lib.hid hD; have HN := Lib.hid hN; have HP := Lib.hid hP; have HX := Lib.hid hX; have HY := Lib.hid hY
  have HMB : Hid (m ≤ b ∧ b ≤ N ∧ N ≤ 100000) := ⟨by omega, hb, hcap⟩
  clear hw hT hD hN hP
  go_enter Try.func82, Try.ntmps82
  go_wp2_with fail
  go_loopg [10, 11] (b - a) (fun q ti tj wr => ∃ (i j : Nat) (P' X' Y' S' D' : List Ce), ti = .int .i64 (i : Int) ∧ tj = .int .i64 (j : Int) ∧ Hid (P'.length + i = m) ∧ Hid (X'.length = i) ∧ Hid (Y'.length = j) ∧ Hid (1 ≤ i ∧ 1 ≤ j ∧ i + j ≤ q) ∧ Hid (P' ++ (Y' ++ (X' ++ S')) = T) ∧ Hid (D' = P' ++ (X' ++ (Y' ++ S'))) ∧ Hid (D'.length = N) ∧ Hid (Dw wr base g cap D') ∧ Hid (Lo w.heap.size g w wr))
  case atStart =>
    refine ⟨m - a, b - m, P, X, Y, S, D, rfl, rfl, ?_, ?_, ?_, ?_, ?_, HD.out, HN.out, HW.out, Lo.refl _ _ _⟩
    · show _ = _; have := HP.out; omega
    · show _ = _; omega
    · show _ = _; omega
    · show _ ∧ _; omega
    · show _ = _; exact HT.out.symm
  case round =>
    obtain ⟨wo, rfl⟩ : ∃ z : World, z = wr := ⟨_, rfl⟩
    obtain ⟨i, j, P', X', Y', S', D', rfl, rfl, E1, E2, E3, E4, E5, E6, E7, HD', HL⟩ := hrel
    obtain ⟨go, hgo⟩ : ∃ z : Nat, z = gk := ⟨_, rfl⟩
    have hlen : P'.length + i + j ≤ N := by
      have := E7.out
      rw [E6.out] at this
      simp at this
      have := E2.out; have := E3.out; omega
    have hmb := HMB.out
    have he1 := E1.out
    have l0 : IntKind.i64.wrap ((m : Int) - (i : Int)) = ((P'.length : Nat) : Int) := by rw [IntWalk.i64_in _ (by omega)]; omega
    by_cases hne : i = j
    · subst hne
      have SR := Lib.hid (swapR_N P' X' [] Y' S' D' base g cap P'.length m i N cv wo (by rw [E6.out]; simp) E7.out HD'.out hmb.2.2 rfl E2.out E3.out (by simp; exact he1))
      have b1 : ((i : Int) != (i : Int)) = false := by simp
      clear hlen hmb he1
      go_wp2_with (go_at_call 83; refine SR.out.mono ?_; rintro e w3 ⟨rfl, hd3, hl3⟩; have HD3 := Lib.hid hd3; have HL3 := Lib.hid hl3; clear hd3 hl3)
      go_end0
      refine ⟨rfl, ?_, HL.out.trans ?_⟩
      · have h1 := HD3.out
        rw [List.nil_append, E5.out] at h1; exact h1
      · exact ⟨HL3.out.1, HL3.out.2.1, HL3.out.2.2.1, HL3.out.2.2.2.1, fun k hk hg => HL3.out.2.2.2.2 k (Nat.lt_of_lt_of_le hk HL.out.2.2.2.1) hg⟩
    · have b1 : ((i : Int) != (j : Int)) = true := by simp; omega
      have b2 : ((i : Int) == (j : Int)) = false := beq_false_of_ne (by omega)
      have hsz := Lib.hid HL.out.2.2.2.1
      by_cases hgt : j < i
      · have c1 : (i : Int) > (j : Int) := by omega
        have c2 : (j : Int) < (i : Int) := by omega
        have SR := Lib.hid (swapR_N P' (X'.take j) (X'.drop j) Y' S' D' base g cap P'.length m j N cv wo (by rw [E6.out]; conv => lhs; rw [cut2 (X := X') (j := j)]; simp only [List.append_assoc]) E7.out HD'.out hmb.2.2 rfl (by rw [List.length_take, E2.out]; omega) E3.out (by rw [List.length_drop, E2.out]; omega))
        have w3 : IntKind.i64.wrap ((i : Int) - (j : Int)) = ((i - j : Nat) : Int) := by rw [IntWalk.i64_in _ (by omega)]; omega
        have HQ : Hid (i + j ≤ go) := by show _ ≤ _; rw [hgo]; exact E4.out.2.2
        clear hlen hmb
        go_wp2_with (go_at_call 83; refine SR.out.mono ?_; rintro e w3' ⟨rfl, hd3, hl3⟩; have HD3 := Lib.hid hd3; have HL3 := Lib.hid hl3; clear hd3 hl3)
        go_roundg (go - 1)
        case measure => have := HQ.out; have := E4.out; omega
        case rel =>
          refine ⟨i - j, j, P' ++ Y', X'.drop j, X'.take j, S', P' ++ (Y' ++ (X'.drop j ++ (X'.take j ++ S'))), by go_num, rfl, ?_, ?_, ?_, ?_, ?_, ?_, ?_, HD3.out, ?_⟩
          · show _ = _; rw [List.length_append, E3.out]; omega
          · show _ = _; rw [List.length_drop, E2.out]
          · show _ = _; rw [List.length_take, E2.out]; omega
          · show _ ∧ _; have := HQ.out; have := E4.out; omega
          · show _ = _
            rw [← E5.out]
            conv => rhs; rw [cut2 (X := X') (j := j)]
            simp only [List.append_assoc]
          · show _ = _; simp only [List.append_assoc]
          · show _ = _
            have h1 := E7.out
            rw [E6.out] at h1
            simp at h1 ⊢
            omega
          · exact HL.out.trans ⟨HL3.out.1, HL3.out.2.1, HL3.out.2.2.1, HL3.out.2.2.2.1, fun k hk hg => HL3.out.2.2.2.2 k (Nat.lt_of_lt_of_le hk hsz.out) hg⟩
      · have c1 : ¬ (i : Int) > (j : Int) := by omega
        have c2 : ¬ (j : Int) < (i : Int) := by omega
        have SR := Lib.hid (swapR_N P' X' (Y'.take (j - i)) (Y'.drop (j - i)) S' D' base g cap P'.length (m + j - i) i N cv wo (by rw [E6.out]; conv => lhs; rw [cut2 (X := Y') (j := j - i)]; simp only [List.append_assoc]) E7.out HD'.out hmb.2.2 rfl E2.out (by rw [List.length_drop, E3.out]; omega) (by rw [List.length_take, E3.out]; omega))
        have w3 : IntKind.i64.wrap ((j : Int) - (i : Int)) = ((j - i : Nat) : Int) := by rw [IntWalk.i64_in _ (by omega)]; omega
        have w4 : IntKind.i64.wrap ((m : Int) + (j : Int)) = (m : Int) + (j : Int) := IntWalk.i64_in _ (by omega)
        have w5 : IntKind.i64.wrap ((m : Int) + (j : Int) - (i : Int)) = ((m + j - i : Nat) : Int) := by rw [IntWalk.i64_in _ (by omega)]; omega
        have HQ : Hid (i + j ≤ go) := by show _ ≤ _; rw [hgo]; exact E4.out.2.2
        clear hlen hmb
        go_wp2_with (go_at_call 83; refine SR.out.mono ?_; rintro e w3' ⟨rfl, hd3, hl3⟩; have HD3 := Lib.hid hd3; have HL3 := Lib.hid hl3; clear hd3 hl3)
        go_roundg (go - 1)
        case measure => have := HQ.out; have := E4.out; omega
        case rel =>
          refine ⟨i, j - i, P', Y'.drop (j - i), Y'.take (j - i), X' ++ S', P' ++ (Y'.drop (j - i) ++ (Y'.take (j - i) ++ (X' ++ S'))), rfl, by go_num, ?_, ?_, ?_, ?_, ?_, rfl, ?_, HD3.out, ?_⟩
          · show _ = _; exact E1.out
          · show _ = _; rw [List.length_drop, E3.out]; omega
          · show _ = _; rw [List.length_take, E3.out]; omega
          · show _ ∧ _; have := HQ.out; have := E4.out; omega
          · show _ = _
            rw [← E5.out]
            conv => rhs; rw [cut2 (X := Y') (j := j - i)]
            simp only [List.append_assoc]
          · show _ = _
            have h1 := E7.out
            rw [E6.out] at h1
            simp at h1 ⊢
            omega
          · exact HL.out.trans ⟨HL3.out.1, HL3.out.2.1, HL3.out.2.2.1, HL3.out.2.2.2.1, fun k hk hg => HL3.out.2.2.2.2 k (Nat.lt_of_lt_of_le hk hsz.out) hg⟩
end Go.Proofs.Ytedbngnkkfpbeaa


namespace Go.Proofs.Ytedbngnkkfpbeaa
open Go.RowKit
set_option linter.unusedVariables false
theorem lo_more {lo g : Nat} {w x y : World} (h : Lo lo g w x) (h' : Lo x.heap.size g x y) (hl : lo ≤ x.heap.size) : Lo lo g w y :=
  h.trans ⟨h'.1, h'.2.1, h'.2.2.1, h'.2.2.2.1, fun k hk hg => h'.2.2.2.2 k (Nat.lt_of_lt_of_le hk hl) hg⟩
theorem Lo.sz {lo g : Nat} {w x : World} (h : Lo lo g w x) : w.heap.size ≤ x.heap.size := h.2.2.2.1
/-- Cells of an entry in any world behind draws and new blocks. -/
theorem ce_grown {w : World} {base g cap : Nat} {D : List Ce} (h : Dw w base g cap D) {i : Nat} {e : Ce} (hi : D[i]? = some e) :
    (∀ n os, (Go.Sort.grow (w.drewN n) os).cell? ⟨g, i * 2, none⟩ = some (.slice e.A e.n e.k)) ∧ (∀ n os, (Go.Sort.grow (w.drewN n) os).cell? ⟨g, i * 2 + 1, none⟩ = some (.int .i64 e.c)) :=
  ⟨fun n os => cell_grown (a := ⟨g, i * 2, none⟩) h.lt.2 (h.at hi).1.1 n os, fun n os => cell_grown (a := ⟨g, i * 2 + 1, none⟩) h.lt.2 (h.at hi).1.2 n os⟩
theorem srt_insert {M1 M2 : List Ce} {x : Ce} (h : Srt (M1 ++ M2)) (h1 : ∀ y ∈ M2, x.c < y.c) (h2 : ∀ y ∈ M1, y.c ≤ x.c) : Srt (M1 ++ x :: M2) :=
  Srt.append h.left (List.pairwise_cons.2 ⟨fun y hy => Int.le_of_lt (h1 y hy), h.right⟩) (fun a ha b hb => by
    rcases List.mem_cons.1 hb with rfl | hb
    · exact h2 a ha
    · exact h.mid a ha b hb)
theorem stb_insert {M1 M2 : List Ce} {x : Ce} (h1 : ∀ y ∈ M2, x.c < y.c) : Stb ((M1 ++ M2) ++ [x]) (M1 ++ x :: M2) := by
  have e1 : (M1 ++ M2) ++ [x] = M1 ++ (M2 ++ [x]) := by simp
  have e2 : M1 ++ x :: M2 = M1 ++ ([x] ++ M2) := by simp
  rw [e1, e2]
  exact (Stb.refl M1).append (Stb.swap fun y hy z hz => by rw [List.mem_singleton.1 hz]; exact h1 y hy)
set_option maxRecDepth 100000 in
set_option maxHeartbeats 8000000 in
theorem ins_any (P X S D : List Ce) (base g cap a b N : Nat) (w : World) (hD : D = P ++ (X ++ S)) (hN : D.length = N) (hw : Dw w base g cap D) (hcap : N ≤ 100000) (hP : P.length = a) (hX : a + X.length = b) :
    Calls Try.prog 78 #[.slice (some ⟨g, 0, none⟩) N cap, .int .i64 (a : Int), .int .i64 (b : Int), cmpV] w fun e w' => e = .returned (.tuple #[]) ∧ ∃ M, Dw w' base g cap (P ++ (M ++ S)) ∧ Lo w.heap.size g w w' ∧ Srt M ∧ Stb X M := by
  have hb : b ≤ N := by rw [← hN, hD]; simp; omega
  have w0 : IntKind.i64.wrap ((a : Int) + 1) = ((a + 1 : Nat) : Int) := by rw [IntWalk.i64_in _ (by omega)]; omega
  have HW := Lib.hid hw; have HD := Lib.hid hD; have HN := Lib.hid hN; have HP := Lib.hid hP; have HX := Lib.hid hX; have HB := Lib.hid hb
  have HCMP := Lib.hid (fun x y w => cmpB_any x y w)
  clear hw hD hN hP hX
  unfold cmpV
  go_enter Try.func78, Try.ntmps78
  go_wp2_with fail
  go_loopg [8, 9] (b - a) (fun q ti tj wr => ∃ (i : Nat) (M D' : List Ce), ti = .int .i64 (i : Int) ∧ Hid (a + 1 ≤ i ∧ i ≤ N + 1 ∧ b ≤ q + i) ∧ Hid (D' = P ++ (M ++ (X.drop (i - a) ++ S))) ∧ Hid (D'.length = N) ∧ Hid (Srt M) ∧ Hid (Stb (X.take (i - a)) M) ∧ Hid (Dw wr base g cap D') ∧ Hid (Lo w.heap.size g w wr))
  case atStart =>
    refine ⟨a + 1, X.take 1, D, rfl, ?_, ?_, HN.out, ?_, ?_, HW.out, Lo.refl _ _ _⟩
    · show _ ∧ _; have := HB.out; have := HX.out; omega
    · show _ = _
      rw [HD.out, show a + 1 - a = 1 by omega, ← List.append_assoc (X.take 1), List.take_append_drop]
    · show Srt _
      cases X with
      | nil => exact Srt.nil
      | cons x X => exact Srt.one x
    · show Stb _ _; rw [show a + 1 - a = 1 by omega]; exact Stb.refl _
  case round =>
    obtain ⟨wo, rfl⟩ : ∃ z : World, z = wr := ⟨_, rfl⟩
    obtain ⟨i, M, D', rfl, EI, ED, EN, ES, EB, HDW, HL⟩ := hrel
    obtain ⟨go, hgo⟩ : ∃ z : Nat, z = gk := ⟨_, rfl⟩
    by_cases hlt : i < b
    · have hxl : i - a < X.length := by have := HX.out; have := EI.out; omega
      obtain ⟨x, hx⟩ : ∃ x, x = X[i - a] := ⟨_, rfl⟩
      have e1 : X.drop (i - a) = x :: X.drop (i - a + 1) := by rw [hx]; exact List.drop_eq_getElem_cons hxl
      have e2 : X.take (i - a + 1) = X.take (i - a) ++ [x] := by rw [hx]; exact List.take_succ_eq_append_getElem hxl
      obtain ⟨R, hR⟩ : ∃ R, R = X.drop (i - a + 1) ++ S := ⟨_, rfl⟩
      have hMl : M.length = i - a := by rw [EB.out.len, List.length_take]; omega
      have E1 : Hid (D' = P ++ (M ++ (x :: ([] ++ R)))) := by show _ = _; rw [ED.out, e1, hR]; simp
      have E2 := Lib.hid e2; have HR := Lib.hid hR; have HML := Lib.hid hMl
      have HIB : Hid (i < b) := hlt
      have HGO : Hid (b ≤ go + i) := by show _ ≤ _; rw [hgo]; exact EI.out.2.2
      clear hx e1 e2 hR hMl hxl
      have q1 : (i : Int) < (b : Int) := by omega
      go_wp2_with fail
      go_loopg [9] i (fun q tj wr => ∃ (j : Nat) (M1 M2 D' : List Ce), tj = .int .i64 (j : Int) ∧ Hid (j ≤ q ∧ j ≤ i) ∧ Hid (P.length + M1.length = j) ∧ Hid (D' = P ++ (M1 ++ (x :: (M2 ++ R)))) ∧ Hid (D'.length = N) ∧ Hid (M = M1 ++ M2) ∧ Hid (∀ y ∈ M2, x.c < y.c) ∧ Hid (Dw wr base g cap D') ∧ Hid (Lo w.heap.size g w wr))
      case atStart =>
        refine ⟨i, M, [], D', rfl, ?_, ?_, E1.out, EN.out, ?_, ?_, HDW.out, HL.out⟩
        · show _ ∧ _; omega
        · show _ = _; rw [HP.out, HML.out]; have := EI.out; omega
        · show _ = _; simp
        · show ∀ y ∈ [], _; intro y hy; cases hy
      case round =>
        clear HDW HL E1 ED EN
        obtain ⟨wi, rfl⟩ : ∃ z : World, z = wr := ⟨_, rfl⟩
        obtain ⟨j, M1, M2, D', rfl, EJ, EL, ED, EN, EM, E3, HDW, HL⟩ := hrel
        have mixed : Try.prog.follows .mixedOrders = true := by kernel_rfl
        have hja : a ≤ j := by have := EL.out; have := HP.out; omega
        -- what stands behind the inner loop
        have FIN : Hid ((∀ y ∈ M1, y.c ≤ x.c) → ∀ wz, Dw wz base g cap D' → Lo w.heap.size g w wz → (D' = P ++ ((M1 ++ x :: M2) ++ (X.drop (i + 1 - a) ++ S)) ∧ Srt (M1 ++ x :: M2) ∧ Stb (X.take (i + 1 - a)) (M1 ++ x :: M2))) := by
          intro h1 wz hd hl
          have hi1 : i + 1 - a = i - a + 1 := by have := EI.out; omega
          refine ⟨by rw [ED.out, HR.out, hi1]; simp, srt_insert (by rw [← EM.out]; exact ES.out) E3.out h1, ?_⟩
          rw [hi1, E2.out]
          have h2 := (EB.out.append (Stb.refl [x])).trans (by rw [EM.out]; exact stb_insert E3.out)
          exact h2
        rcases Nat.lt_or_ge a j with hlj | hlj
        · -- compare with the entry ahead
          have hm1 : M1 ≠ [] := by intro e; have := EL.out; rw [e] at this; simp at this; have := HP.out; omega
          obtain ⟨N1, z, hz⟩ : ∃ N1 z, M1 = N1 ++ [z] := ⟨M1.dropLast, M1.getLast hm1, (List.dropLast_concat_getLast hm1).symm⟩
          have hN1 : P.length + N1.length = j - 1 := by have := EL.out; rw [hz] at this; simp at this; omega
          have f1 : D' = (P ++ N1) ++ z :: ([] ++ x :: (M2 ++ R)) := by rw [ED.out, hz]; simp
          have g1 : D'[j - 1]? = some z := by rw [f1]; exact get_at (by rw [List.length_append]; exact hN1)
          have g2 : D'[j]? = some x := by
            rw [f1, show (P ++ N1) ++ z :: ([] ++ x :: (M2 ++ R)) = ((P ++ N1) ++ [z]) ++ x :: (M2 ++ R) by simp]
            exact get_at (by simp; omega)
          have hjN : j < N := by have := (List.getElem?_eq_some_iff.1 g2).1; rw [EN.out] at this; exact this
          obtain ⟨ca1, ca2⟩ := ce_grown HDW.out g2
          obtain ⟨cb1, cb2⟩ := ce_grown HDW.out g1
          obtain ⟨r, hr⟩ : ∃ r, r = cmpI x z := ⟨_, rfl⟩
          have HC : Hid (∀ w, Calls Try.prog 42 #[.agg #[.slice x.A x.n x.k, .int .i64 x.c], .agg #[.slice z.A z.n z.k, .int .i64 z.c]] w fun e w' => e = .returned (.int .i64 r) ∧ ∃ q os', w' = Go.Sort.grow (w.drewN q) os') := fun w => by rw [hr]; exact HCMP.out x z w
          have hrl := cmpI_lt x z
          rw [← hr] at hrl
          have w1 : IntKind.i64.wrap ((j : Int) - 1) = ((j - 1 : Nat) : Int) := by rw [IntWalk.i64_in _ (by omega)]; omega
          have l0 : decide (a < j) = true := decide_eq_true hlj
          have l1 : (0 : Int) ≤ (j : Int) := by omega
          have l2 : (j : Int) < (N : Int) := by omega
          have l3 : (0 : Int) ≤ ((j - 1 : Nat) : Int) := by omega
          have l4 : ((j - 1 : Nat) : Int) < (N : Int) := by omega
          have HG1 := Lib.hid g1; have HG2 := Lib.hid g2; have HF1 := Lib.hid f1; have HN1 := Lib.hid hN1; have HZ := Lib.hid hz
          have HJ : Hid (a < j) := hlj
          clear g1 g2 f1 hN1 hz hm1 hr hja hlj
          go_upto_region 4 with fail
          go_quiet_grown ((go_at_call 42; exact Calls.grown_of (HC.out _)))
          have hbq := below_grown' wi nq osq
          obtain ⟨wq, hwq⟩ : ∃ x, x = Go.Sort.grow (wi.drewN nq) osq := ⟨_, rfl⟩
          rw [← hwq] at hbq
          change Exit.then _ _ _ _ (Go.Sort.grow (wi.drewN nq) osq)
          rw [← hwq]
          have HDq := Lib.hid (HDW.out.keep hbq (Nat.le_refl _))
          have HLq : Hid (Lo w.heap.size g w wq) := HL.out.trans (Lo.below hbq HL.out.sz)
          clear hwq hbq ca1 ca2 cb1 cb2 mixed HDW HL
          have w8 : IntKind.i64.wrap ((i : Int) + 1) = ((i + 1 : Nat) : Int) := by rw [IntWalk.i64_in _ (by omega)]; omega
          by_cases hxz : x.c < z.c
          · have b1 : decide (x.c < z.c) = true := decide_eq_true hxz
            obtain ⟨⟨c1, c2⟩, c3, c4⟩ := HDq.out.at HG2.out
            obtain ⟨⟨d1, d2⟩, d3, d4⟩ := HDq.out.at HG1.out
            have hS := HDq.out.swap HG2.out HG1.out
            have e1 : swp D' j (j - 1) = (P ++ N1) ++ x :: ([] ++ z :: (M2 ++ R)) := by
              rw [HF1.out]
              exact swp_at' (by rw [List.length_append]; exact HN1.out) (by simp; have := HJ.out; omega)
            rw [e1] at hS
            have HS := Lib.hid hS
            have HXZ : Hid (x.c < z.c) := hxz
            have NE : ¬ j = j - 1 := by have := HJ.out; omega
            clear hS e1
            go_wp2_with fail
            go_region
            clear c1 c2 c3 c4 d1 d2 d3 d4 l0 l1 l2 l3 l4 NE
            all_goals
              go_wp2_with fail
              go_roundg (gk - 1)
              case measure => have := EJ.out; have := HJ.out; omega
              case rel =>
                refine ⟨j - 1, N1, z :: M2, (P ++ N1) ++ x :: ([] ++ z :: (M2 ++ R)), by go_num, ?_, ?_, ?_, ?_, ?_, ?_, HS.out.drewN 1, ?_⟩
                · show _ ∧ _; have := EJ.out; have := HJ.out; omega
                · show _ = _; exact HN1.out
                · show _ = _; simp
                · show _ = _
                  have h1 := EN.out
                  rw [HF1.out] at h1
                  simp at h1 ⊢; omega
                · show _ = _; rw [EM.out, HZ.out]; simp
                · show ∀ y ∈ z :: M2, _
                  intro y hy
                  rcases List.mem_cons.1 hy with rfl | hy
                  · exact HXZ.out
                  · exact E3.out y hy
                · exact HLq.out.trans ((lo_swap _ _ _ _ _ _ _ _ _ _ _).trans (Lo.drew _ _ _))
          · have b1 : decide (x.c < z.c) = false := decide_eq_false hxz
            have hle : ∀ y ∈ M1, y.c ≤ x.c := by
              have hs1 : Srt (N1 ++ [z]) := by
                have h1 := ES.out
                rw [EM.out, HZ.out] at h1
                exact h1.left
              intro y hy
              rw [HZ.out] at hy
              rcases List.mem_append.1 hy with hy | hy
              · have := hs1.mid y hy z (by simp); omega
              · rw [List.mem_singleton.1 hy]; omega
            have HLE := Lib.hid hle
            clear hle l0 l1 l2 l3 l4
            go_wp2_with fail
            go_roundg (go - 1)
            case measure => have := HGO.out; have := HIB.out; omega
            case rel =>
              obtain ⟨r1, r2, r3⟩ := FIN.out HLE.out _ HDq.out HLq.out
              refine ⟨i + 1, M1 ++ x :: M2, D', by go_num, ?_, r1, EN.out, r2, r3, HDq.out, HLq.out⟩
              show _ ∧ _; have := HGO.out; have := HIB.out; have := EI.out; have := HB.out; omega
        · have hjz : j = a := by omega
          have hm1 : M1 = [] := by
            have := EL.out
            have h2 := HP.out
            exact List.length_eq_zero_iff.1 (by omega)
          have l0 : decide (a < j) = false := decide_eq_false (by omega)
          have w8 : IntKind.i64.wrap ((i : Int) + 1) = ((i + 1 : Nat) : Int) := by rw [IntWalk.i64_in _ (by omega)]; omega
          have HLE : Hid (∀ y ∈ M1, y.c ≤ x.c) := by rw [hm1]; intro y hy; cases hy
          clear hjz hm1 hja hlj
          go_wp2_with fail
          go_quiet (fail)
          go_wp2_with fail
          go_roundg (go - 1)
          case measure => have := HGO.out; have := HIB.out; omega
          case rel =>
            obtain ⟨r1, r2, r3⟩ := FIN.out HLE.out wi HDW.out HL.out
            refine ⟨i + 1, M1 ++ x :: M2, D', by go_num, ?_, r1, EN.out, r2, r3, (HDW.out.drewN _), (HL.out.trans (Lo.below (below_draws (Below.refl _ _) _) HL.out.sz))⟩
            show _ ∧ _; have := HGO.out; have := HIB.out; have := EI.out; have := HB.out; omega
    · go_wp2_with fail
      go_end0
      have hx1 : X.take (i - a) = X := List.take_of_length_le (by have := HX.out; have := EI.out; omega)
      have hx2 : X.drop (i - a) = [] := List.drop_of_length_le (by have := HX.out; have := EI.out; omega)
      have h1 := HDW.out
      rw [ED.out, hx2, List.nil_append] at h1
      have h2 := EB.out
      rw [hx1] at h2
      exact ⟨rfl, M, h1, HL.out, ES.out, h2⟩
end Go.Proofs.Ytedbngnkkfpbeaa
