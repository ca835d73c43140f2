/- Sorting with equals in their order: two rows side by side changed about (rotateCmpFunc). -/
import Derived.Test.YtedbngnkkfpbeaaStM

namespace Go.Proofs.Ytedbngnkkfpbeaa
open Go.RowKit
set_option linter.unusedVariables false
theorem cut2 {X : List Ce} {j : Nat} : X = X.take j ++ X.drop j := (List.take_append_drop j X).symm
set_option maxRecDepth 100000 in
set_option maxHeartbeats 4000000 in
theorem rot_any (P X Y S D : List Ce) (base g cap a m b N : Nat) (cv : Value) (w : World) (hD : D = P ++ (X ++ (Y ++ S))) (hN : D.length = N) (hw : Dw w base g cap D) (hcap : N ≤ 100000) (hP : P.length = a) (hX : a + X.length = m) (hY : m + Y.length = b) (hx0 : 1 ≤ X.length) (hy0 : 1 ≤ Y.length) :
    Calls Try.prog 82 #[.slice (some ⟨g, 0, none⟩) N cap, .int .i64 (a : Int), .int .i64 (m : Int), .int .i64 (b : Int), cv] w fun e w' => e = .returned (.tuple #[]) ∧ Dw w' base g cap (P ++ (Y ++ (X ++ S))) ∧ Lo w.heap.size g w w' := by
  have hb : b ≤ N := by rw [← hN, hD]; simp; omega
  obtain ⟨T, hT⟩ : ∃ T, T = P ++ (Y ++ (X ++ S)) := ⟨_, rfl⟩
  rw [← hT]
  have w1 : IntKind.i64.wrap ((m : Int) - (a : Int)) = ((m - a : Nat) : Int) := by rw [IntWalk.i64_in _ (by omega)]; omega
  have w2 : IntKind.i64.wrap ((b : Int) - (m : Int)) = ((b - m : Nat) : Int) := by rw [IntWalk.i64_in _ (by omega)]; omega
  have HW := Lib.hid hw; have HT := Lib.hid hT; have HD := Lib.hid hD; have HN := Lib.hid hN; have HP := Lib.hid hP; have HX := Lib.hid hX; have HY := Lib.hid hY
  have HMB : Hid (m ≤ b ∧ b ≤ N ∧ N ≤ 100000) := ⟨by omega, hb, hcap⟩
  clear hw hT hD hN hP
  go_enter Try.func82, Try.ntmps82
  go_wp2_with fail
  go_loopg [10, 11] (b - a) (fun q ti tj wr => ∃ (i j : Nat) (P' X' Y' S' D' : List Ce), ti = .int .i64 (i : Int) ∧ tj = .int .i64 (j : Int) ∧ Hid (P'.length + i = m) ∧ Hid (X'.length = i) ∧ Hid (Y'.length = j) ∧ Hid (1 ≤ i ∧ 1 ≤ j ∧ i + j ≤ q) ∧ Hid (P' ++ (Y' ++ (X' ++ S')) = T) ∧ Hid (D' = P' ++ (X' ++ (Y' ++ S'))) ∧ Hid (D'.length = N) ∧ Hid (Dw wr base g cap D') ∧ Hid (Lo w.heap.size g w wr))
  case atStart =>
    refine ⟨m - a, b - m, P, X, Y, S, D, rfl, rfl, ?_, ?_, ?_, ?_, ?_, HD.out, HN.out, HW.out, Lo.refl _ _ _⟩
    · show _ = _; have := HP.out; omega
    · show _ = _; omega
    · show _ = _; omega
    · show _ ∧ _; omega
    · show _ = _; exact HT.out.symm
  case round =>
    obtain ⟨wo, rfl⟩ : ∃ z : World, z = wr := ⟨_, rfl⟩
    obtain ⟨i, j, P', X', Y', S', D', rfl, rfl, E1, E2, E3, E4, E5, E6, E7, HD', HL⟩ := hrel
    obtain ⟨go, hgo⟩ : ∃ z : Nat, z = gk := ⟨_, rfl⟩
    have hlen : P'.length + i + j ≤ N := by
      have := E7.out
      rw [E6.out] at this
      simp at this
      have := E2.out; have := E3.out; omega
    have hmb := HMB.out
    have he1 := E1.out
    have l0 : IntKind.i64.wrap ((m : Int) - (i : Int)) = ((P'.length : Nat) : Int) := by rw [IntWalk.i64_in _ (by omega)]; omega
    by_cases hne : i = j
    · subst hne
      have SR := Lib.hid (swapR_N P' X' [] Y' S' D' base g cap P'.length m i N cv wo (by rw [E6.out]; simp) E7.out HD'.out hmb.2.2 rfl E2.out E3.out (by simp; exact he1))
      have b1 : ((i : Int) != (i : Int)) = false := by simp
      clear hlen hmb he1
      go_wp2_with (go_at_call 83; refine SR.out.mono ?_; rintro e w3 ⟨rfl, hd3, hl3⟩; have HD3 := Lib.hid hd3; have HL3 := Lib.hid hl3; clear hd3 hl3)
      go_end0
      refine ⟨rfl, ?_, HL.out.trans ?_⟩
      · have h1 := HD3.out
        rw [List.nil_append, E5.out] at h1; exact h1
      · exact ⟨HL3.out.1, HL3.out.2.1, HL3.out.2.2.1, HL3.out.2.2.2.1, fun k hk hg => HL3.out.2.2.2.2 k (Nat.lt_of_lt_of_le hk HL.out.2.2.2.1) hg⟩
    · have b1 : ((i : Int) != (j : Int)) = true := by simp; omega
      have b2 : ((i : Int) == (j : Int)) = false := beq_false_of_ne (by omega)
      have hsz := Lib.hid HL.out.2.2.2.1
      by_cases hgt : j < i
      · have c1 : (i : Int) > (j : Int) := by omega
        have c2 : (j : Int) < (i : Int) := by omega
        have SR := Lib.hid (swapR_N P' (X'.take j) (X'.drop j) Y' S' D' base g cap P'.length m j N cv wo (by rw [E6.out]; conv => lhs; rw [cut2 (X := X') (j := j)]; simp only [List.append_assoc]) E7.out HD'.out hmb.2.2 rfl (by rw [List.length_take, E2.out]; omega) E3.out (by rw [List.length_drop, E2.out]; omega))
        have w3 : IntKind.i64.wrap ((i : Int) - (j : Int)) = ((i - j : Nat) : Int) := by rw [IntWalk.i64_in _ (by omega)]; omega
        have HQ : Hid (i + j ≤ go) := by show _ ≤ _; rw [hgo]; exact E4.out.2.2
        clear hlen hmb
        go_wp2_with (go_at_call 83; refine SR.out.mono ?_; rintro e w3' ⟨rfl, hd3, hl3⟩; have HD3 := Lib.hid hd3; have HL3 := Lib.hid hl3; clear hd3 hl3)
        go_roundg (go - 1)
        case measure => have := HQ.out; have := E4.out; omega
        case rel =>
          refine ⟨i - j, j, P' ++ Y', X'.drop j, X'.take j, S', P' ++ (Y' ++ (X'.drop j ++ (X'.take j ++ S'))), by go_num, rfl, ?_, ?_, ?_, ?_, ?_, ?_, ?_, HD3.out, ?_⟩
          · show _ = _; rw [List.length_append, E3.out]; omega
          · show _ = _; rw [List.length_drop, E2.out]
          · show _ = _; rw [List.length_take, E2.out]; omega
          · show _ ∧ _; have := HQ.out; have := E4.out; omega
          · show _ = _
            rw [← E5.out]
            conv => rhs; rw [cut2 (X := X') (j := j)]
            simp only [List.append_assoc]
          · show _ = _; simp only [List.append_assoc]
          · show _ = _
            have h1 := E7.out
            rw [E6.out] at h1
            simp at h1 ⊢
            omega
          · exact HL.out.trans ⟨HL3.out.1, HL3.out.2.1, HL3.out.2.2.1, HL3.out.2.2.2.1, fun k hk hg => HL3.out.2.2.2.2 k (Nat.lt_of_lt_of_le hk hsz.out) hg⟩
      · have c1 : ¬ (i : Int) > (j : Int) := by omega
        have c2 : ¬ (j : Int) < (i : Int) := by omega
        have SR := Lib.hid (swapR_N P' X' (Y'.take (j - i)) (Y'.drop (j - i)) S' D' base g cap P'.length (m + j - i) i N cv wo (by rw [E6.out]; conv => lhs; rw [cut2 (X := Y') (j := j - i)]; simp only [List.append_assoc]) E7.out HD'.out hmb.2.2 rfl E2.out (by rw [List.length_drop, E3.out]; omega) (by rw [List.length_take, E3.out]; omega))
        have w3 : IntKind.i64.wrap ((j : Int) - (i : Int)) = ((j - i : Nat) : Int) := by rw [IntWalk.i64_in _ (by omega)]; omega
        have w4 : IntKind.i64.wrap ((m : Int) + (j : Int)) = (m : Int) + (j : Int) := IntWalk.i64_in _ (by omega)
        have w5 : IntKind.i64.wrap ((m : Int) + (j : Int) - (i : Int)) = ((m + j - i : Nat) : Int) := by rw [IntWalk.i64_in _ (by omega)]; omega
        have HQ : Hid (i + j ≤ go) := by show _ ≤ _; rw [hgo]; exact E4.out.2.2
        clear hlen hmb
        go_wp2_with (go_at_call 83; refine SR.out.mono ?_; rintro e w3' ⟨rfl, hd3, hl3⟩; have HD3 := Lib.hid hd3; have HL3 := Lib.hid hl3; clear hd3 hl3)
        go_roundg (go - 1)
        case measure => have := HQ.out; have := E4.out; omega
        case rel =>
          refine ⟨i, j - i, P', Y'.drop (j - i), Y'.take (j - i), X' ++ S', P' ++ (Y'.drop (j - i) ++ (Y'.take (j - i) ++ (X' ++ S'))), rfl, by go_num, ?_, ?_, ?_, ?_, ?_, rfl, ?_, HD3.out, ?_⟩
          · show _ = _; exact E1.out
          · show _ = _; rw [List.length_drop, E3.out]; omega
          · show _ = _; rw [List.length_take, E3.out]; omega
          · show _ ∧ _; have := HQ.out; have := E4.out; omega
          · show _ = _
            rw [← E5.out]
            conv => rhs; rw [cut2 (X := Y') (j := j - i)]
            simp only [List.append_assoc]
          · show _ = _
            have h1 := E7.out
            rw [E6.out] at h1
            simp at h1 ⊢
            omega
          · exact HL.out.trans ⟨HL3.out.1, HL3.out.2.1, HL3.out.2.2.1, HL3.out.2.2.2.1, fun k hk hg => HL3.out.2.2.2.2 k (Nat.lt_of_lt_of_le hk hsz.out) hg⟩
end Go.Proofs.Ytedbngnkkfpbeaa
