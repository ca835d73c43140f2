/- CommonStart of both programs. -/
import Derived.Test.YtkfmjnefbimecaaMgi

namespace Go.Proofs.Ytkfmjnefbimecaa
open Go.RowKit Go.PlainAid
set_option linter.unusedVariables false
theorem txt_of_all {ss : List ByteArray} {k : Nat} {x : ByteArray} (h : ss.all txtB = true) (hx : ss[k]? = some x) : x.size ≤ 48 :=
  txtB_true (List.all_eq_true.1 h x (List.mem_of_getElem? hx))
theorem csV_eq {ss : List ByteArray} {x : ByteArray} (h : csB ss = true) (hx : ss[0]? = some x) : csV ss = csF ss x := by
  rw [csV, if_pos h, List.getD_eq_getElem?_getD, hx]; rfl
set_option maxHeartbeats 2000000 in
theorem iCommonStart_any (A : Option Addr) (n c : Nat) (ss : List ByteArray) (w : World) (h : SlS w w.heap.size A n ss) (hn : n ≤ maxLen) :
    Calls Try.prog 41 #[.slice A n c] w fun e w' => e = .returned (.tuple #[.string (csV ss), .bool (csB ss)]) ∧ Below w.heap.size w w' := by
  have hl := Lib.hid h.len
  have hL := iTexts_any A n c ss w w.heap.size h hn
  have H := Lib.hid h; clear h
  unfold maxLen at hn
  by_cases h0 : 0 < n
  · have hz : ((n : Int) == 0) = false := by simp; omega
    by_cases hlt : ltB ss = true
    · have hlt2 : decide (ss.length ≤ 32) = true ∧ ss.all txtB = true := by
        have h : (decide (ss.length ≤ 32) && ss.all txtB) = true := hlt
        rw [Bool.and_eq_true] at h
        exact h
      have h32 : n ≤ 32 := by have := of_decide_eq_true hlt2.1; rw [hl.out] at this; exact this
      have HT := Lib.hid hlt2.2
      clear hlt2
      have hB := Lib.hid (show csB ss = true by rw [csB, hlt, hl.out, decide_eq_true h0]; rfl)
      obtain ⟨b, off, x, rfl, hbB, hx, hc, hxs⟩ := H.out.at_ h0
      rw [Nat.add_zero] at hc
      have hV := Lib.hid (show csV ss = csF (ss.drop 0) x by rw [csV_eq hB.out hx.out, List.drop_zero])
      obtain ⟨R, hR⟩ : ∃ R, R = csF (ss.drop 0) x := ⟨_, rfl⟩
      have HR := Lib.hid hR; clear hR
      have hx48 := txt_of_all HT.out hx.out
      have h1n : 1 ≤ n := h0
      rw [hlt] at hL
      clear hlt
      go_enter Try.func41, Try.ntmps41
      go_wp2_with (first | (go_at_call 92; refine hL.mono ?_; rintro e w' ⟨rfl, hw⟩; obtain rfl := hw.symm; clear hL))
      go_loopg [4, 20] n (fun m o i wr => ∃ (s : ByteArray) (k : Nat), o = .string s ∧ i = .int .i64 k ∧ k ≤ n ∧ n ≤ m + k ∧ s.size ≤ 48 ∧ csF (ss.drop k) s = R ∧ wr = w)
      case atStart => exact ⟨x, 0, rfl, rfl, by omega, by omega, hx48, HR.out.symm, rfl⟩
      case round =>
        obtain ⟨s, k, rfl, rfl, hk, hm, hs, hr, rfl⟩ := hrel
        have HC := Lib.hid hr; clear hr
        by_cases hlt : k < n
        · obtain ⟨b', off', y, hAA, hbB', hy, hc', hys⟩ := H.out.at_ hlt
          injection hAA with hAA
          injection hAA with e1 e2 _
          subst e1 e2
          have l0 : (0 : Int) ≤ (k : Int) := by omega
          have HC2 := Lib.hid (show csF (ss.drop (k + 1)) (s.extract 0 (alk s y)) = R by rw [← HC.out, csF_step hy.out])
          have hAs := (alk_is s y).la
          obtain ⟨N, hNe⟩ : ∃ N, N = alk s y := ⟨_, rfl⟩
          rw [← hNe] at HC2 hAs
          have HN := Lib.hid hNe; clear hNe
          obtain ⟨go, hgo⟩ : ∃ g : Nat, g = gk := ⟨_, rfl⟩
          go_wp2
          go_loopg [4] s.size (fun m o wr2 => ∃ (r : ByteArray) (q : Nat), o = .string r ∧ r = s.extract 0 q ∧ q ≤ s.size ∧ N ≤ q ∧ q ≤ m + N ∧ wr2 = wr)
          case atStart => exact ⟨s, s.size, rfl, (extract_all s).symm, Nat.le_refl _, hAs, by omega, rfl⟩
          case round =>
            obtain ⟨r, q, rfl, hr, hq1, hq2, hq3, rfl⟩ := hrel
            have hrs : r.size = q := by rw [hr, ByteArray.size_extract]; omega
            have hp := hp_iff (o := s) (t := y) (m := q) (by rw [← HN.out]; exact hq2) hq1
            rw [← hr, ← HN.out] at hp
            have hcall := iHas_any y r hys (by unfold maxLen; omega)
            obtain ⟨B, hBe⟩ : ∃ B, B = hpB y r := ⟨_, rfl⟩
            rw [← hBe] at hp hcall
            clear hBe
            have HRR := Lib.hid hr; clear hr
            by_cases hqN : q = N
            · have hBt : B = true := hp.2 hqN
              subst hBt
              have HQ := Lib.hid (show r = s.extract 0 N by rw [HRR.out, hqN])
              clear hp hqN
              go_wp2_with (first | (go_at_call 93; refine (hcall _).mono ?_; rintro e w' ⟨rfl, rfl⟩))
              go_roundg (go - 1)
              case measure => omega
              case rel => exact ⟨r, k + 1, rfl, by go_num, by omega, by omega, by omega, by rw [HQ.out]; exact HC2.out, rfl⟩
            · have hBf : B = false := by
                cases B
                · rfl
                · exact absurd (hp.1 rfl) hqN
              subst hBf
              have h0q : 0 < q := by omega
              clear hp
              have lq : (0 : Int) ≤ (r.size : Int) - 1 := by omega
              have lq2 : (r.size : Int) - 1 ≤ (r.size : Int) := by omega
              have nq : ((r.size : Int) - 1).toNat = q - 1 := by omega
              have HX := Lib.hid (show r.extract 0 (q - 1) = s.extract 0 (q - 1) by rw [HRR.out, ByteArray.extract_extract]; congr 1; omega)
              go_wp2_with (first | (go_at_call 93; refine (hcall _).mono ?_; rintro e w' ⟨rfl, rfl⟩))
              go_roundg (gk - 1)
              case measure => omega
              case rel => exact ⟨_, q - 1, rfl, HX.out, by omega, by omega, by omega, rfl⟩
        · obtain rfl : n = k := by omega
          have hfin := Lib.hid (show s = R by rw [← HC.out, ← hl.out, csF_done])
          go_wp2
          go_ret2
          exact ⟨by rw [hV.out, hB.out, ← HR.out, ← hfin.out]; rfl, Below.refl _ _⟩
    · have hlt' : ltB ss = false := by simpa using hlt
      have hB := Lib.hid (show csB ss = false by rw [csB, hlt']; rfl)
      have hV := Lib.hid (show csV ss = ⟨#[]⟩ by rw [csV, if_neg (by rw [hB.out]; simp)])
      rw [hlt'] at hL
      clear hlt hlt'
      go_enter Try.func41, Try.ntmps41
      go_wp2_with (first | (go_at_call 92; refine hL.mono ?_; rintro e w' ⟨rfl, hw⟩; obtain rfl := hw.symm; clear hL))
      go_ret2
      exact ⟨by rw [hV.out, hB.out]; rfl, Below.refl _ _⟩
  · obtain rfl : n = 0 := by omega
    have hB := Lib.hid (show csB ss = false by rw [csB, hl.out]; simp)
    have hV := Lib.hid (show csV ss = ⟨#[]⟩ by rw [csV, if_neg (by rw [hB.out]; simp)])
    clear h0 hL
    go_enter Try.func41, Try.ntmps41
    go_wp2
    go_ret2
    exact ⟨by rw [hV.out, hB.out]; rfl, Below.refl _ _⟩
end Go.Proofs.Ytkfmjnefbimecaa
