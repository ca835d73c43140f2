/- SharedText of the program; the law's contracts ask that the library's variable holds some number. -/
import Derived.Test.YtkfmjnefbimecaaMgi
import Derived.Test.YtkfmjnefbimecaaMgl

namespace Go.Proofs.Ytkfmjnefbimecaa
open Go.RowKit Go.PlainAid
set_option linter.unusedVariables false
set_option maxHeartbeats 2000000 in
theorem iSharedText_any (a b : ByteArray) (wa : a.size ≤ maxLen) (wb : b.size ≤ maxLen) (w : World) (hG : GInt w) :
    Calls Try.prog 36 #[.string a, .string b] w fun e w' => ∃ X Y L : Nat, e = .returned (.tuple #[.int .i64 X, .int .i64 Y, .int .i64 L, .bool (shB a b)]) ∧ ShOut a b X Y L ∧ Below w.heap.size w w' := by
  by_cases h1 : txtB a = true
  · by_cases h2 : txtB b = true
    · have ha := txtB_true h1
      have hb := txtB_true h2
      have HB := Lib.hid (show shB a b = true by rw [shB, h1, h2]; rfl)
      obtain ⟨M, hM⟩ : ∃ M : Nat, min (a.size : Int) (b.size : Int) = (M : Int) := ⟨min a.size b.size, by omega⟩
      have hMb : M ≤ a.size ∧ M ≤ b.size ∧ (M = a.size ∨ M = b.size) := by omega
      have HM := Lib.hid hM; clear hM
      go_enter Try.func36, Try.ntmps36
      go_wp2_with (first | (go_at_call 79; refine (iIsText_any _ (by assumption) _).mono ?_; rintro e w' ⟨rfl, hw⟩; subst hw))
      go_loopg [8] M (fun m q wr => ∃ n : Nat, q = .int .i64 n ∧ n ≤ a.size ∧ n ≤ b.size ∧ n ≤ m ∧ Hid (∀ i k, i < a.size → k < b.size → ext a b i k ≤ n) ∧ GInt wr ∧ Below w.heap.size w wr)
      case atStart => exact ⟨M, by rw [HM.out], by omega, by omega, by omega, fun i k hi hk => by have := ext_room (a := a) (b := b) (Nat.le_of_lt hi) (Nat.le_of_lt hk); omega, hG, Below.refl _ _⟩
      case round =>
        obtain ⟨n, rfl, hna, hnb, hnm, hup, hG', hbl⟩ := hrel
        have hs1 := hbl.size
        by_cases h0 : 0 < n
        · obtain ⟨go, hgo⟩ : ∃ g : Nat, g = gk := ⟨_, rfl⟩
          have l0 : (0 : Int) < (n : Int) := by omega
          have w1 : IntKind.i64.wrap ((a.size : Int) - (n : Int)) = (a.size : Int) - (n : Int) := IntWalk.i64_in _ (by omega)
          have w2 : IntKind.i64.wrap ((a.size : Int) - (n : Int) + 1) = (a.size : Int) - (n : Int) + 1 := IntWalk.i64_in _ (by omega)
          go_wp2_with fail
          go_loopg [33] a.size (fun m' q wr' => ∃ i : Nat, q = .int .i64 i ∧ i + n ≤ a.size + 1 ∧ a.size + 1 ≤ m' + i + n ∧ Hid (∀ i' k', i' < i → k' < b.size → ext a b i' k' < n) ∧ GInt wr' ∧ Below w.heap.size w wr')
          case atStart => exact ⟨0, rfl, by omega, by omega, fun i' k' h _ => absurd h (by omega), hG', hbl⟩
          case round =>
            obtain ⟨i, rfl, hi, hm', hrow, hG2, hbl2⟩ := hrel
            have hs2 := hbl2.size
            by_cases hin : i + n ≤ a.size
            · have l1 : (i : Int) < (a.size : Int) - (n : Int) + 1 := by omega
              have l2 : (0 : Int) ≤ (i : Int) := by omega
              have l3 : (i : Int) ≤ (i : Int) + (n : Int) := by omega
              have l4 : (i : Int) + (n : Int) ≤ (a.size : Int) := by omega
              have w3 : IntKind.i64.wrap ((i : Int) + (n : Int)) = (i : Int) + (n : Int) := IntWalk.i64_in _ (by omega)
              obtain ⟨gm, hgm⟩ := hG2
              have hI := Try.strings_Index b (a.extract i (i + n)) gm _ (by omega) hgm
              rcases index_is (b := b) hin h0 with ⟨hix, hno⟩ | ⟨k, hix, hk, hge, hfst⟩
              · rw [hix] at hI
                have HNO := Lib.hid hno; clear hno
                clear hix
                go_wp2_with (first | (go_at_call 86; refine hI.mono ?_; rintro e w2 ⟨rfl, hw⟩; obtain rfl := hw; clear hI))
                go_roundg (gk - 1)
                case measure => omega
                case rel => exact ⟨i + 1, by go_num, by omega, by omega, fun i' k' h1 h2 => by (by_cases e : i' = i); subst e; exact HNO.out k' h2; exact hrow.out i' k' (by omega) h2, ⟨gm, hgm⟩, hbl2⟩
              · rw [hix] at hI
                have HF := Lib.hid (shTo_found h0 (by omega) hk hup.out hge hrow.out hfst)
                clear hix hfst hge
                have l5 : (0 : Int) ≤ (k : Int) := by omega
                go_wp2_with (first | (go_at_call 86; refine hI.mono ?_; rintro e w2 ⟨rfl, hw⟩; obtain rfl := hw; clear hI))
                (try simp only [Exit.inBlock, Exit.then])
                refine bodyPost_ret (results_tmp4 rfl _ _ _) rfl ?_
                exact ⟨i, k, n, by rw [HB.out]; rfl, by rw [ShOut, if_pos HB.out]; exact HF.out, hbl2⟩
            · have l1 : (a.size : Int) - (n : Int) + 1 ≤ (i : Int) := by omega
              have HUP : Hid (∀ i k, i < a.size → k < b.size → ext a b i k ≤ n - 1) := by
                intro i' k' h1 h2
                by_cases h3 : i' < i
                · have := hrow.out i' k' h3 h2; omega
                · have := ext_room (a := a) (b := b) (Nat.le_of_lt h1) (Nat.le_of_lt h2); omega
              have w4 : IntKind.i64.wrap ((n : Int) - 1) = (n : Int) - 1 := IntWalk.i64_in _ (by omega)
              go_wp2_with fail
              go_roundg (go - 1)
              case measure => omega
              case rel => exact ⟨n - 1, by rw [show ((n - 1 : Nat) : Int) = (n : Int) - 1 by omega], by omega, by omega, by omega, HUP, hG2, hbl2⟩
        · obtain rfl : n = 0 := by omega
          have HN := Lib.hid (shTo_none hup.out)
          go_wp2_with fail
          (try simp only [Exit.inBlock, Exit.then])
          refine bodyPost_ret (results_tmp4 rfl _ _ _) rfl ?_
          exact ⟨0, 0, 0, by rw [HB.out]; rfl, by rw [ShOut, if_pos HB.out]; exact HN.out, hbl⟩
    · have h2' : txtB b = false := by simpa using h2
      have HB := Lib.hid (show shB a b = false by rw [shB, h2', Bool.and_false])
      go_enter Try.func36, Try.ntmps36
      go_wp2_with (first | (go_at_call 79; refine (iIsText_any _ (by assumption) _).mono ?_; rintro e w' ⟨rfl, hw⟩; subst hw))
      (try simp only [Exit.inBlock, Exit.then])
      refine bodyPost_ret (results_tmp4 rfl _ _ _) rfl ?_
      exact ⟨0, 0, 0, by rw [HB.out]; rfl, by rw [ShOut, HB.out]; exact ⟨rfl, rfl, rfl⟩, Below.refl _ _⟩
  · have h1' : txtB a = false := by simpa using h1
    have HB := Lib.hid (show shB a b = false by rw [shB, h1', Bool.false_and])
    go_enter Try.func36, Try.ntmps36
    go_wp2_with (first | (go_at_call 79; refine (iIsText_any _ (by assumption) _).mono ?_; rintro e w' ⟨rfl, hw⟩; subst hw))
    (try simp only [Exit.inBlock, Exit.then])
    refine bodyPost_ret (results_tmp4 rfl _ _ _) rfl ?_
    exact ⟨0, 0, 0, by rw [HB.out]; rfl, by rw [ShOut, HB.out]; exact ⟨rfl, rfl, rfl⟩, Below.refl _ _⟩
end Go.Proofs.Ytkfmjnefbimecaa
