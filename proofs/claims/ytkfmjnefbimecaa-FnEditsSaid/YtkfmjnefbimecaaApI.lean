/- Steps applied: the walk. -/
import Derived.Test.YtkfmjnefbimecaaAp

namespace Go.Proofs.Ytkfmjnefbimecaa
open Go.RowKit Go.PlainAid
set_option linter.unusedVariables false

set_option maxRecDepth 100000 in
set_option maxHeartbeats 8000000 in
theorem iApply_any (a b s : ByteArray) (wa : a.size ≤ maxLen) (wb : b.size ≤ maxLen) (ws : s.size ≤ maxLen) (w : World) :
    Calls Try.prog 32 #[.string a, .string b, .string s] w fun e w' => e = .returned (.tuple #[.string (apV a b s), .bool (apB a b s)]) ∧ Below w.heap.size w w' := by
  have ws' := ws
  unfold maxLen at ws'
  by_cases h1 : txtB a = true
  · by_cases h2 : txtB b = true
    · have ha := txtB_true h1
      have hb := txtB_true h2
      have hB := Lib.hid (show apB a b s = apRun a b s s.size 0 0 0 by simp only [apB, h1, h2, Bool.true_and])
      have hV := Lib.hid (show apV a b s = if apRun a b s s.size 0 0 0 then b else ⟨#[]⟩ by simp only [apV, apB, h1, h2, Bool.true_and])
      obtain ⟨R, hR⟩ : ∃ R, apRun a b s s.size 0 0 0 = R := ⟨_, rfl⟩
      have HR := Lib.hid hR; clear hR
      go_enter Try.func32, Try.ntmps32
      go_wp2_with (first | (go_at_call 79; refine (iIsText_any _ (by assumption) _).mono ?_; rintro e w' ⟨rfl, rfl⟩))
      go_loopw [8, 9, 24] (fun iv_ kv_ tv_ wr => ∃ i k t : Nat, i ≤ a.size ∧ k ≤ b.size ∧ t ≤ s.size ∧ iv_ = .int .i64 i ∧ kv_ = .int .i64 k ∧ tv_ = .int .i64 t ∧ apRun a b s (s.size - t) t i k = R ∧ Below w.heap.size w wr) (fun iv_ kv_ tv_ wr => s.size - (intOf tv_).toNat)
      case atStart => exact ⟨0, 0, 0, by omega, by omega, by omega, rfl, rfl, rfl, HR.out, Below.refl _ _⟩
      case round =>
        obtain ⟨i, k, t, hi, hk, ht, rfl, rfl, rfl, hrun, hbel⟩ := hrel
        have HRUN := Lib.hid hrun; clear hrun
        by_cases hlt : t < s.size
        · have hg := get_b8 s
          have hga := get_b8 a
          have hgb := get_b8 b
          have l1 : (0 : Int) ≤ (i : Int) := by omega
          have l3 : (0 : Int) ≤ (k : Int) := by omega
          by_cases hc : b8 s t = 61
          · have HC := Lib.hid hc
            by_cases hia : i = a.size
            · have e1 : ((i : Int) == (a.size : Int)) = true := i_eq (by omega)
              have HI := Lib.hid hia; clear hia
              go_wp2
              go_quiet ((go_at_call 83; exact Calls.quiet_of_same (byteSet 61 61 0 (by decide) (by decide) _)))
              go_wp2
              go_ret2
              refine ⟨?_, below_draws hbel _⟩
              rw [hB.out, hV.out, HR.out, ← HRUN.out, apRun_no hlt (by simp only [apStep, HC.out]; simp [HI.out])]
              rfl
            · have e1 : ((i : Int) == (a.size : Int)) = false := i_ne (by omega)
              have l2 : (i : Int) < (a.size : Int) := by omega
              have HI := Lib.hid hia; clear hia
              by_cases hkb : k = b.size
              · have e2 : ((k : Int) == (b.size : Int)) = true := i_eq (by omega)
                have HK := Lib.hid hkb; clear hkb
                go_wp2
                go_quiet ((go_at_call 83; exact Calls.quiet_of_same (byteSet 61 61 0 (by decide) (by decide) _)))
                go_wp2
                go_ret2
                refine ⟨?_, below_draws hbel _⟩
                rw [hB.out, hV.out, HR.out, ← HRUN.out, apRun_no hlt (by simp only [apStep, HC.out]; simp [HK.out])]
                rfl
              · have e2 : ((k : Int) == (b.size : Int)) = false := i_ne (by omega)
                have l4 : (k : Int) < (b.size : Int) := by omega
                have HK := Lib.hid hkb; clear hkb
                by_cases hab : b8 a i = b8 b k
                · have e3 : (((b8 a i).toNat : Int) != ((b8 b k).toNat : Int)) = false := i_eqn (by rw [hab])
                  have HAB := Lib.hid hab; clear hab
                  go_wp2
                  go_quiet ((go_at_call 83; exact Calls.quiet_of_same (byteSet 61 61 0 (by decide) (by decide) _)))
                  go_wp2
                  first
                    | exact ⟨⟨i + 1, k + 1, t + 1, by omega, by omega, by omega, by go_num, by go_num, by go_num, by rw [← HRUN.out]; exact (apRun_yes hlt (by simp only [apStep, HC.out]; simp [HI.out, HK.out, HAB.out])).symm, below_draws hbel _⟩, by simp [intOf]; omega⟩
                    | (refine ⟨?_, by simp [intOf]; omega⟩; (repeat apply Exists.intro); exact ⟨⟨i + 1, k + 1, t + 1, by omega, by omega, by omega, by go_num, by go_num, by go_num, by rw [← HRUN.out]; exact (apRun_yes hlt (by simp only [apStep, HC.out]; simp [HI.out, HK.out, HAB.out])).symm, below_draws hbel _⟩, rfl⟩)
                · have e3 : (((b8 a i).toNat : Int) != ((b8 b k).toNat : Int)) = true := i_nen (b8_ne hab)
                  have HAB := Lib.hid hab; clear hab
                  go_wp2
                  go_quiet ((go_at_call 83; exact Calls.quiet_of_same (byteSet 61 61 0 (by decide) (by decide) _)))
                  go_wp2
                  go_ret2
                  refine ⟨?_, below_draws hbel _⟩
                  rw [hB.out, hV.out, HR.out, ← HRUN.out, apRun_no hlt (by simp only [apStep, HC.out]; simp [HAB.out])]
                  rfl
          · have n61 : (((b8 s t).toNat : Int) == 61) = false := u8ne (n := 61) (by decide) hc
            have H61 := Lib.hid hc; clear hc
            by_cases hc : b8 s t = 33
            · have HC := Lib.hid hc
              by_cases hia : i = a.size
              · have e1 : ((i : Int) == (a.size : Int)) = true := i_eq (by omega)
                have HI := Lib.hid hia; clear hia
                go_wp2
                go_quiet ((go_at_call 83; exact Calls.quiet_of_same (byteSet 33 33 1 (by decide) (by decide) _)))
                go_wp2
                go_ret2
                refine ⟨?_, below_draws hbel _⟩
                rw [hB.out, hV.out, HR.out, ← HRUN.out, apRun_no hlt (by simp only [apStep, HC.out]; simp [HI.out])]
                rfl
              · have e1 : ((i : Int) == (a.size : Int)) = false := i_ne (by omega)
                have l2 : (i : Int) < (a.size : Int) := by omega
                have HI := Lib.hid hia; clear hia
                by_cases hkb : k = b.size
                · have e2 : ((k : Int) == (b.size : Int)) = true := i_eq (by omega)
                  have HK := Lib.hid hkb; clear hkb
                  go_wp2
                  go_quiet ((go_at_call 83; exact Calls.quiet_of_same (byteSet 33 33 1 (by decide) (by decide) _)))
                  go_wp2
                  go_ret2
                  refine ⟨?_, below_draws hbel _⟩
                  rw [hB.out, hV.out, HR.out, ← HRUN.out, apRun_no hlt (by simp only [apStep, HC.out]; simp [HK.out])]
                  rfl
                · have e2 : ((k : Int) == (b.size : Int)) = false := i_ne (by omega)
                  have l4 : (k : Int) < (b.size : Int) := by omega
                  have HK := Lib.hid hkb; clear hkb
                  go_wp2
                  go_quiet ((go_at_call 83; exact Calls.quiet_of_same (byteSet 33 33 1 (by decide) (by decide) _)))
                  go_wp2
                  first
                    | exact ⟨⟨i + 1, k + 1, t + 1, by omega, by omega, by omega, by go_num, by go_num, by go_num, by rw [← HRUN.out]; exact (apRun_yes hlt (by simp only [apStep, HC.out]; simp [HI.out, HK.out])).symm, below_draws hbel _⟩, by simp [intOf]; omega⟩
                    | (refine ⟨?_, by simp [intOf]; omega⟩; (repeat apply Exists.intro); exact ⟨⟨i + 1, k + 1, t + 1, by omega, by omega, by omega, by go_num, by go_num, by go_num, by rw [← HRUN.out]; exact (apRun_yes hlt (by simp only [apStep, HC.out]; simp [HI.out, HK.out])).symm, below_draws hbel _⟩, rfl⟩)
            · have n33 : (((b8 s t).toNat : Int) == 33) = false := u8ne (n := 33) (by decide) hc
              have H33 := Lib.hid hc; clear hc
              by_cases hc : b8 s t = 45
              · have HC := Lib.hid hc
                by_cases hia : i = a.size
                · have e1 : ((i : Int) == (a.size : Int)) = true := i_eq (by omega)
                  have HI := Lib.hid hia; clear hia
                  go_wp2
                  go_quiet ((go_at_call 83; exact Calls.quiet_of_same (byteSet 45 45 2 (by decide) (by decide) _)))
                  go_wp2
                  go_ret2
                  refine ⟨?_, below_draws hbel _⟩
                  rw [hB.out, hV.out, HR.out, ← HRUN.out, apRun_no hlt (by simp only [apStep, HC.out]; simp [HI.out])]
                  rfl
                · have e1 : ((i : Int) == (a.size : Int)) = false := i_ne (by omega)
                  have HI := Lib.hid hia
                  go_wp2
                  go_quiet ((go_at_call 83; exact Calls.quiet_of_same (byteSet 45 45 2 (by decide) (by decide) _)))
                  go_wp2
                  first
                    | exact ⟨⟨i + 1, k, t + 1, by omega, by omega, by omega, by go_num, rfl, by go_num, by rw [← HRUN.out]; exact (apRun_yes hlt (by simp only [apStep, HC.out]; simp [HI.out])).symm, below_draws hbel _⟩, by simp [intOf]; omega⟩
                    | (refine ⟨?_, by simp [intOf]; omega⟩; (repeat apply Exists.intro); exact ⟨⟨i + 1, k, t + 1, by omega, by omega, by omega, by go_num, rfl, by go_num, by rw [← HRUN.out]; exact (apRun_yes hlt (by simp only [apStep, HC.out]; simp [HI.out])).symm, below_draws hbel _⟩, rfl⟩)
              · have n45 : (((b8 s t).toNat : Int) == 45) = false := u8ne (n := 45) (by decide) hc
                have H45 := Lib.hid hc; clear hc
                by_cases hc : b8 s t = 43
                · have HC := Lib.hid hc
                  by_cases hkb : k = b.size
                  · have e2 : ((k : Int) == (b.size : Int)) = true := i_eq (by omega)
                    have HK := Lib.hid hkb; clear hkb
                    go_wp2
                    go_quiet ((go_at_call 83; exact Calls.quiet_of_same (byteSet 43 43 3 (by decide) (by decide) _)))
                    go_wp2
                    go_ret2
                    refine ⟨?_, below_draws hbel _⟩
                    rw [hB.out, hV.out, HR.out, ← HRUN.out, apRun_no hlt (by simp only [apStep, HC.out]; simp [HK.out])]
                    rfl
                  · have e2 : ((k : Int) == (b.size : Int)) = false := i_ne (by omega)
                    have l4 : (k : Int) < (b.size : Int) := by omega
                    have HK := Lib.hid hkb; clear hkb
                    go_wp2
                    go_quiet ((go_at_call 83; exact Calls.quiet_of_same (byteSet 43 43 3 (by decide) (by decide) _)))
                    go_wp2
                    first
                      | exact ⟨⟨i, k + 1, t + 1, by omega, by omega, by omega, rfl, by go_num, by go_num, by rw [← HRUN.out]; exact (apRun_yes hlt (by simp only [apStep, HC.out]; simp [HK.out])).symm, below_draws hbel _⟩, by simp [intOf]; omega⟩
                      | (refine ⟨?_, by simp [intOf]; omega⟩; (repeat apply Exists.intro); exact ⟨⟨i, k + 1, t + 1, by omega, by omega, by omega, rfl, by go_num, by go_num, by rw [← HRUN.out]; exact (apRun_yes hlt (by simp only [apStep, HC.out]; simp [HK.out])).symm, below_draws hbel _⟩, rfl⟩)
                · have n43 : (((b8 s t).toNat : Int) == 43) = false := u8ne (n := 43) (by decide) hc
                  have H43 := Lib.hid hc; clear hc
                  have HO_ := Lib.hid (firstIdx_other H61.out H33.out H45.out H43.out)
                  go_wp2
                  go_quiet ((go_at_call 83; exact Calls.quiet_of_same (byteSet _ (b8 s t) (-1) rfl HO_.out _)))
                  go_wp2
                  go_ret2
                  refine ⟨?_, below_draws hbel _⟩
                  rw [hB.out, hV.out, HR.out, ← HRUN.out, apRun_no hlt (by simp only [apStep, H61.out, H33.out, H45.out, H43.out, if_false])]
                  rfl
        · obtain rfl : t = s.size := by omega
          have hfin := Lib.hid (show R = decide (a.size ≤ i ∧ b.size ≤ k) by rw [← HRUN.out, Nat.sub_self]; rfl)
          by_cases hia : i < a.size
          · have hF := Lib.hid (show R = false by rw [hfin.out]; exact decide_eq_false (by omega))
            go_wp2
            go_ret2
            exact ⟨by rw [hB.out, hV.out, HR.out, hF.out]; rfl, hbel⟩
          · have hia' : a.size ≤ i := by omega
            clear hia
            by_cases hkb : k < b.size
            · have hF := Lib.hid (show R = false by rw [hfin.out]; exact decide_eq_false (by omega))
              go_wp2
              go_ret2
              exact ⟨by rw [hB.out, hV.out, HR.out, hF.out]; rfl, hbel⟩
            · have hkb' : b.size ≤ k := by omega
              clear hkb
              have hF := Lib.hid (show R = true by rw [hfin.out]; exact decide_eq_true (by omega))
              go_wp2
              go_ret2
              exact ⟨by rw [hB.out, hV.out, HR.out, hF.out]; rfl, hbel⟩
    · have h2' : txtB b = false := by simpa using h2
      have hB := Lib.hid (show apB a b s = false by simp [apB, h2'])
      have hV := Lib.hid (show apV a b s = ⟨#[]⟩ by simp [apV, apB, h2'])
      go_enter Try.func32, Try.ntmps32
      go_wp2_with (first | (go_at_call 79; refine (iIsText_any _ (by assumption) _).mono ?_; rintro e w' ⟨rfl, rfl⟩))
      go_ret2
      exact ⟨by rw [hV.out, hB.out]; rfl, Below.refl _ _⟩
  · have h1' : txtB a = false := by simpa using h1
    have hB := Lib.hid (show apB a b s = false by simp [apB, h1'])
    have hV := Lib.hid (show apV a b s = ⟨#[]⟩ by simp [apV, apB, h1'])
    go_enter Try.func32, Try.ntmps32
    go_wp2_with (first | (go_at_call 79; refine (iIsText_any _ (by assumption) _).mono ?_; rintro e w' ⟨rfl, rfl⟩))
    go_ret2
    exact ⟨by rw [hV.out, hB.out]; rfl, Below.refl _ _⟩
end Go.Proofs.Ytkfmjnefbimecaa
