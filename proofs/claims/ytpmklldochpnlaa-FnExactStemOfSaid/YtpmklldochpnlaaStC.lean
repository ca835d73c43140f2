/- StemOf of the reference. -/
import Derived.Test.YtpmklldochpnlaaStI
namespace Go.Proofs.Ytpmklldochpnlaa
open Go.RowKit Go.PlainAid
set_option linter.unusedVariables false
set_option maxHeartbeats 2000000 in
theorem sStemOf_any (t : ByteArray) (A : Option Addr) (n c : Nat) (es : List ByteArray) (A' : Option Addr) (n' c' : Nat) (is : List ByteArray) (least : Int) (w : World) (h : SlS w w.heap.size A n es) (h' : SlS w w.heap.size A' n' is) (hn : n ≤ maxLen) (hn' : n' ≤ maxLen) (wt : t.size ≤ maxLen) :
    Calls Try.prog 21 #[.string t, .slice A n c, .slice A' n' c', .int .i64 least] w fun e w' => e = .returned (.tuple #[.string (stV es is t least).1, .bool (stV es is t least).2]) ∧ Below w.heap.size w w' := by
  have hl := Lib.hid h.len
  have hl' := Lib.hid h'.len
  have hL := sList_any A n c es w w.heap.size h hn
  have hL' := sList_any A' n' c' is w w.heap.size h' hn'
  have H := Lib.hid h; have H' := Lib.hid h'; clear h h'
  by_cases h1 : txtB t = true
  · by_cases h2 : ltB es = true
    · by_cases h3 : ltB is = true
      · by_cases h4 : decide (es.length = is.length) = true
        · by_cases h5 : inB least 0 48 = true
          · have hV := Lib.hid (show stV es is t least = stF es is t (stb es t least n) by rw [stV, stB, h1, h2, h3, h4, h5, hl.out]; rfl)
            have ht := txtB_true h1
            have hI := inB_true h5
            have hq : n = n' := by rw [hl.out, hl'.out] at h4; exact of_decide_eq_true h4
            have h32 : n ≤ 32 := by have := (lt_parts h2).1; rw [hl.out] at this; exact this
            rw [h2] at hL; rw [h3] at hL'
            have HE := Lib.hid (lt_parts h2).2; have HI := Lib.hid (lt_parts h3).2
            subst hq
            clear h2 h3 h4
            go_enter Try.func21, Try.ntmps21
            go_wp2_with (first | (go_at_call 55; first | (refine hL.mono ?_; rintro e w' ⟨rfl, hw⟩; obtain rfl := hw.symm; clear hL) | (refine hL'.mono ?_; rintro e w' ⟨rfl, hw⟩; obtain rfl := hw.symm; clear hL')) | (go_at_call 58; refine (sText_any _ (by assumption) _).mono ?_; rintro e w' ⟨rfl, hw⟩; subst hw) | (go_at_call 59; refine (sIn_any _ _ _ _).mono ?_; rintro e w' ⟨rfl, hw⟩; subst hw))
            go_loopg [10, 11] n (fun m b i wr => ∃ k : Nat, i = .int .i64 k ∧ k ≤ n ∧ n ≤ m + k ∧ b = .int .i64 (stb es t least k) ∧ Below w.heap.size w wr)
            case atStart => exact ⟨0, rfl, by omega, by omega, rfl, Below.refl _ _⟩
            case round =>
              obtain ⟨k, rfl, hk, hm, rfl, hb⟩ := hrel
              have hs1 := hb.size
              by_cases hlt : k < n
              · obtain ⟨b, off, x, rfl, hbB, hx, hc, hxs⟩ := (H.out.below hb (Nat.le_refl _)).at_ hlt
                have hx48 := txt_all HE.out hx.out
                have l1 : (0 : Int) ≤ (k : Int) := by omega
                have l11 : (k : Int) < (n : Int) := by omega
                have w1 : IntKind.i64.wrap ((t.size : Int) - (x.size : Int)) = (t.size : Int) - (x.size : Int) := IntWalk.i64_in _ (by omega)
                have hokd : okAt t least x = (hsB t x && decide (least ≤ (t.size : Int) - (x.size : Int))) := rfl
                by_cases hfit : x.size ≤ t.size
                · have f1 : (0 : Int) ≤ (t.size : Int) - (x.size : Int) := by omega
                  have f2 : (t.size : Int) - (x.size : Int) ≤ (t.size : Int) := by omega
                  have f3 : decide ((t.size : Int) - (x.size : Int) < 0) = false := decide_eq_false (by omega)
                  have e1 : ((t.size : Int) - (x.size : Int)).toNat = t.size - x.size := by omega
                  by_cases hle : least ≤ (t.size : Int) - (x.size : Int)
                  · have f4 : decide ((t.size : Int) - (x.size : Int) < least) = false := decide_eq_false (by omega)
                    by_cases he : t.extract (t.size - x.size) t.size = x
                    · have hq := str_eq he
                      have HOK : Hid (okAt t least x = true) := by show _ = _; rw [hokd, decide_eq_true hle, Bool.and_true, hsB, decide_eq_true hfit, decide_eq_true he]; rfl
                      clear he hokd
                      rcases stb_bd es t least k with hb1 | ⟨j, hj, hb1⟩
                      · have HN := Lib.hid (stb_new hx.out HOK.out (by omega))
                        rw [hb1]
                        clear hb1
                        go_wp2_with fail
                        go_quiet (fail)
                        go_wp2_with fail
                        go_quiet (fail)
                        go_wp2_with fail
                        go_roundg (gk - 1)
                        case measure => omega
                        case rel => exact ⟨k + 1, by go_num, by omega, by omega, by rw [HN.out], below_draws hb _⟩
                      · obtain ⟨b2, off2, y, he2, _, hy, hcy, hys⟩ := (H.out.below hb (Nat.le_refl _)).at_ (show j < n by omega)
                        have he3 := Option.some.inj he2
                        injection he3 with he4 he5 _
                        subst he4 he5
                        have hy48 := txt_all HE.out hy.out
                        have l2 : (0 : Int) ≤ (j : Int) := by omega
                        have l3 : (j : Int) < (n : Int) := by omega
                        have l33 : decide ((j : Int) < 0) = false := decide_eq_false (by omega)
                        rw [hb1]
                        by_cases hlen : y.size < x.size
                        · have HN := Lib.hid (stb_more hx.out HOK.out hb1 hy.out hlen)
                          have l4 : (y.size : Int) < (x.size : Int) := by omega
                          have HB1 := Lib.hid hb1; clear hb1
                          go_wp2_with fail
                          go_quiet (fail)
                          go_wp2_with fail
                          go_quiet (fail)
                          go_wp2_with fail
                          go_roundg (gk - 1)
                          case measure => omega
                          case rel => exact ⟨k + 1, by go_num, by omega, by omega, by rw [HN.out], below_draws hb _⟩
                        · have HN := Lib.hid (stb_less (least := least) (t := t) hx.out hb1 hy.out (by omega))
                          have l4 : (x.size : Int) ≤ (y.size : Int) := by omega
                          have l44 : decide ((y.size : Int) < (x.size : Int)) = false := decide_eq_false (by omega)
                          have l45 : decide (y.size < x.size) = false := decide_eq_false hlen
                          have HB1 := Lib.hid hb1; clear hb1 hlen
                          go_wp2_with fail
                          go_quiet (fail)
                          go_wp2_with fail
                          go_quiet (fail)
                          go_wp2_with fail
                          go_roundg (gk - 1)
                          case measure => omega
                          case rel => exact ⟨k + 1, by go_num, by omega, by omega, by rw [HN.out, HB1.out], below_draws hb _⟩
                    · have hq := str_ne he
                      have hokf : okAt t least x = false := by rw [hokd, hsB, decide_eq_false he, Bool.and_false, Bool.false_and]
                      have HN := Lib.hid (stb_no hx.out hokf)
                      clear he hokd hokf
                      obtain ⟨z, hz⟩ : ∃ z, z = stb es t least k := ⟨_, rfl⟩
                      rw [← hz] at HN ⊢
                      clear hz
                      go_wp2_with fail
                      go_quiet (fail)
                      go_wp2_with fail
                      go_roundg (gk - 1)
                      case measure => omega
                      case rel => exact ⟨k + 1, by go_num, by omega, by omega, by rw [HN.out], below_draws hb _⟩
                  · have hokf : okAt t least x = false := by rw [hokd, decide_eq_false hle, Bool.and_false]
                    have HN := Lib.hid (stb_no hx.out hokf)
                    have f5 : (t.size : Int) - (x.size : Int) < least := by omega
                    clear hle hokd hokf
                    obtain ⟨z, hz⟩ : ∃ z, z = stb es t least k := ⟨_, rfl⟩
                    rw [← hz] at HN ⊢
                    clear hz
                    go_wp2_with fail
                    go_quiet (fail)
                    go_wp2_with fail
                    go_roundg (gk - 1)
                    case measure => omega
                    case rel => exact ⟨k + 1, by go_num, by omega, by omega, by rw [HN.out], below_draws hb _⟩
                · have hokf : okAt t least x = false := by rw [hokd, hsB, decide_eq_false hfit, Bool.false_and, Bool.false_and]
                  have HN := Lib.hid (stb_no hx.out hokf)
                  have f5 : (t.size : Int) - (x.size : Int) < 0 := by omega
                  clear hfit hokd hokf
                  obtain ⟨z, hz⟩ : ∃ z, z = stb es t least k := ⟨_, rfl⟩
                  rw [← hz] at HN ⊢
                  clear hz
                  go_wp2_with fail
                  go_quiet (fail)
                  go_wp2_with fail
                  go_roundg (gk - 1)
                  case measure => omega
                  case rel => exact ⟨k + 1, by go_num, by omega, by omega, by rw [HN.out], below_draws hb _⟩
              · obtain rfl : n = k := by omega
                rcases stb_bd es t least n with hb1 | ⟨j, hj, hb1⟩
                · have HF : Hid (stV es is t least = (t, true)) := by show _ = _; rw [hV.out, hb1]; rfl
                  rw [hb1]
                  clear hV
                  go_wp2_with fail
                  go_ret2
                  exact ⟨by rw [HF.out]; rfl, hb⟩
                · obtain ⟨b, off, x, rfl, hbB, hx, hc, hxs⟩ := (H.out.below hb (Nat.le_refl _)).at_ hj
                  obtain ⟨b2, off2, y, rfl, hbB2, hy, hcy, hys⟩ := (H'.out.below hb (Nat.le_refl _)).at_ hj
                  have hx48 := txt_all HE.out hx.out
                  have hy48 := txt_all HI.out hy.out
                  have hfit := stb_fit hb1 hx.out
                  have HF : Hid (stV es is t least = if txtB (t.extract 0 (t.size - x.size) ++ y) then (t.extract 0 (t.size - x.size) ++ y, true) else (emp, false)) := by
                    show _ = _
                    rw [hV.out, hb1, stF, if_neg (by omega), stE, Int.toNat_natCast, getD_of hx.out, getD_of hy.out]
                  rw [hb1]
                  clear hV hb1
                  have l1 : (0 : Int) ≤ (j : Int) := by omega
                  have l2 : (j : Int) < (n : Int) := by omega
                  have l3 : (0 : Int) ≤ (t.size : Int) - (x.size : Int) := by omega
                  have l4 : (t.size : Int) - (x.size : Int) ≤ (t.size : Int) := by omega
                  have w1 : IntKind.i64.wrap ((t.size : Int) - (x.size : Int)) = (t.size : Int) - (x.size : Int) := IntWalk.i64_in _ (by omega)
                  have e1 : ((t.size : Int) - (x.size : Int)).toNat = t.size - x.size := by omega
                  have hsz : (t.extract 0 (t.size - x.size) ++ y).size ≤ maxLen := by unfold maxLen; rw [ByteArray.size_append, ByteArray.size_extract]; omega
                  have hT := sText_any (t.extract 0 (t.size - x.size) ++ y) hsz
                  cases hq : txtB (t.extract 0 (t.size - x.size) ++ y)
                  · rw [hq] at hT HF
                    clear hq
                    go_wp2_with fail
                    go_quiet (fail)
                    go_wp2_with (first | (go_at_call 58; refine (hT _).mono ?_; rintro e w2 ⟨rfl, hw⟩; obtain rfl := hw; clear hT))
                    go_ret2
                    exact ⟨by rw [HF.out]; rfl, below_draws hb _⟩
                  · rw [hq] at hT HF
                    clear hq
                    go_wp2_with fail
                    go_quiet (fail)
                    go_wp2_with (first | (go_at_call 58; refine (hT _).mono ?_; rintro e w2 ⟨rfl, hw⟩; obtain rfl := hw; clear hT))
                    go_ret2
                    exact ⟨by rw [HF.out]; rfl, below_draws hb _⟩
          · have hf : inB least 0 48 = false := by simpa using h5
            have hV := Lib.hid (show stV es is t least = (emp, false) by rw [stV, stB, hf, h1, h2, h3, h4]; simp)
            rw [h2] at hL
            rw [h3] at hL'
            have hne : n = n' := by rw [hl.out, hl'.out] at h4; exact of_decide_eq_true h4
            clear h2 h3 h4
            subst hne
            go_enter Try.func21, Try.ntmps21
            go_wp2_with (first | (go_at_call 55; first | (refine hL.mono ?_; rintro e w' ⟨rfl, hw⟩; obtain rfl := hw.symm; clear hL) | (refine hL'.mono ?_; rintro e w' ⟨rfl, hw⟩; obtain rfl := hw.symm; clear hL')) | (go_at_call 58; refine (sText_any _ (by assumption) _).mono ?_; rintro e w' ⟨rfl, hw⟩; subst hw) | (go_at_call 59; refine (sIn_any _ _ _ _).mono ?_; rintro e w' ⟨rfl, hw⟩; subst hw))
            go_ret2
            exact ⟨by rw [hV.out]; rfl, Below.refl _ _⟩
        · have hf : decide (es.length = is.length) = false := by simpa using h4
          have hV := Lib.hid (show stV es is t least = (emp, false) by rw [stV, stB, hf, h1, h2, h3]; simp)
          rw [h2] at hL
          rw [h3] at hL'
          have hne : ¬ n = n' := fun e => by rw [hl.out, hl'.out] at h4; exact h4 (decide_eq_true e)
          have hne2 : ¬ (n : Int) = (n' : Int) := fun e => hne (by omega)
          clear h2 h3 h4 hf
          go_enter Try.func21, Try.ntmps21
          go_wp2_with (first | (go_at_call 55; first | (refine hL.mono ?_; rintro e w' ⟨rfl, hw⟩; obtain rfl := hw.symm; clear hL) | (refine hL'.mono ?_; rintro e w' ⟨rfl, hw⟩; obtain rfl := hw.symm; clear hL')) | (go_at_call 58; refine (sText_any _ (by assumption) _).mono ?_; rintro e w' ⟨rfl, hw⟩; subst hw) | (go_at_call 59; refine (sIn_any _ _ _ _).mono ?_; rintro e w' ⟨rfl, hw⟩; subst hw))
          go_ret2
          exact ⟨by rw [hV.out]; rfl, Below.refl _ _⟩
      · have hf : ltB is = false := by simpa using h3
        have hV := Lib.hid (show stV es is t least = (emp, false) by rw [stV, stB, hf, h1, h2]; simp)
        rw [h2] at hL
        rw [hf] at hL'
        clear h2 h3
        go_enter Try.func21, Try.ntmps21
        go_wp2_with (first | (go_at_call 55; first | (refine hL.mono ?_; rintro e w' ⟨rfl, hw⟩; obtain rfl := hw.symm; clear hL) | (refine hL'.mono ?_; rintro e w' ⟨rfl, hw⟩; obtain rfl := hw.symm; clear hL')) | (go_at_call 58; refine (sText_any _ (by assumption) _).mono ?_; rintro e w' ⟨rfl, hw⟩; subst hw) | (go_at_call 59; refine (sIn_any _ _ _ _).mono ?_; rintro e w' ⟨rfl, hw⟩; subst hw))
        go_ret2
        exact ⟨by rw [hV.out]; rfl, Below.refl _ _⟩
    · have hf : ltB es = false := by simpa using h2
      have hV := Lib.hid (show stV es is t least = (emp, false) by rw [stV, stB, hf, h1]; simp)
      rw [hf] at hL
      clear h2
      go_enter Try.func21, Try.ntmps21
      go_wp2_with (first | (go_at_call 55; first | (refine hL.mono ?_; rintro e w' ⟨rfl, hw⟩; obtain rfl := hw.symm; clear hL) | (refine hL'.mono ?_; rintro e w' ⟨rfl, hw⟩; obtain rfl := hw.symm; clear hL')) | (go_at_call 58; refine (sText_any _ (by assumption) _).mono ?_; rintro e w' ⟨rfl, hw⟩; subst hw) | (go_at_call 59; refine (sIn_any _ _ _ _).mono ?_; rintro e w' ⟨rfl, hw⟩; subst hw))
      go_ret2
      exact ⟨by rw [hV.out]; rfl, Below.refl _ _⟩
  · have hf : txtB t = false := by simpa using h1
    have hV := Lib.hid (show stV es is t least = (emp, false) by rw [stV, stB, hf]; simp)
    skip
    go_enter Try.func21, Try.ntmps21
    go_wp2_with (first | (go_at_call 55; first | (refine hL.mono ?_; rintro e w' ⟨rfl, hw⟩; obtain rfl := hw.symm; clear hL) | (refine hL'.mono ?_; rintro e w' ⟨rfl, hw⟩; obtain rfl := hw.symm; clear hL')) | (go_at_call 58; refine (sText_any _ (by assumption) _).mono ?_; rintro e w' ⟨rfl, hw⟩; subst hw) | (go_at_call 59; refine (sIn_any _ _ _ _).mono ?_; rintro e w' ⟨rfl, hw⟩; subst hw))
    go_ret2
    exact ⟨by rw [hV.out]; rfl, Below.refl _ _⟩
end Go.Proofs.Ytpmklldochpnlaa
