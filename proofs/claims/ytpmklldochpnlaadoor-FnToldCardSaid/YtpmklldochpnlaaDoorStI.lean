/- StemOf of the program. -/
import Derived.Test.YtpmklldochpnlaaDoorStP
import Derived.Test.YtpmklldochpnlaaDoorMge
import Derived.Test.YtpmklldochpnlaaDoorMgc

namespace Go.Proofs.YtpmklldochpnlaaDoor
open Go.RowKit Go.PlainAid
set_option linter.unusedVariables false
theorem iHasS0 (t s : ByteArray) (ht : t.size ≤ maxLen) (hs : s.size ≤ maxLen) (w : World) :
    Calls Tryd.prog 48 #[.string t, .string s] w fun e w' => e = .returned (.bool (hsB t s)) ∧ ∃ n, w' = w.drewN n := by
  unfold maxLen at ht hs
  by_cases h : s.size ≤ t.size
  · have h1 : (s.size : Int) ≤ (t.size : Int) := by omega
    have h0 : (0 : Int) ≤ (s.size : Int) := by omega
    have h2 : (0 : Int) ≤ (t.size : Int) - (s.size : Int) := by omega
    have h3 : (t.size : Int) - (s.size : Int) ≤ (t.size : Int) := by omega
    have w1 : IntKind.i64.wrap ((t.size : Int) - (s.size : Int)) = (t.size : Int) - (s.size : Int) := IntWalk.i64_in _ (by omega)
    have e1 : ((t.size : Int) - (s.size : Int)).toNat = t.size - s.size := by omega
    by_cases he : t.extract (t.size - s.size) t.size = s
    · have hq := str_eq he
      have HB := Lib.hid (show hsB t s = true by simp [hsB, h, he])
      clear he
      go_enter Tryd.func48, Tryd.ntmps48
      go_wp2
      go_ret
      exact ⟨ret_bool HB.out.symm, 0, rfl⟩
    · have hq := str_ne he
      have HB := Lib.hid (show hsB t s = false by simp [hsB, h, he])
      clear he
      go_enter Tryd.func48, Tryd.ntmps48
      go_wp2
      go_ret
      exact ⟨ret_bool HB.out.symm, 0, rfl⟩
  · have h1 : (t.size : Int) < (s.size : Int) := by omega
    have HB := Lib.hid (show hsB t s = false by simp [hsB, h])
    have hd1 : decide (s.size ≤ t.size) = false := decide_eq_false h
    clear h
    go_enter Tryd.func48, Tryd.ntmps48
    go_wp2
    go_ret
    exact ⟨ret_bool HB.out.symm, 0, rfl⟩
theorem iHasS_any (t s : ByteArray) (ht : t.size ≤ maxLen) (hs : s.size ≤ maxLen) (w : World) :
    Calls Tryd.prog 35 #[.string t, .string s] w fun e w' => e = .returned (.bool (hsB t s)) ∧ ∃ n, w' = w.drewN n := by
  go_enter Tryd.func35, Tryd.ntmps35
  go_wp2_with (first | (go_at_call 48; refine (iHasS0 _ _ ht hs _).mono ?_; rintro e w' ⟨rfl, n, rfl⟩))
  go_ret
  exact ⟨rfl, _, rfl⟩
set_option maxHeartbeats 2000000 in
theorem iStemOf_any (t : ByteArray) (A : Option Addr) (n c : Nat) (es : List ByteArray) (A' : Option Addr) (n' c' : Nat) (is : List ByteArray) (least : Int) (w : World) (h : SlS w w.heap.size A n es) (h' : SlS w w.heap.size A' n' is) (hn : n ≤ maxLen) (hn' : n' ≤ maxLen) (wt : t.size ≤ maxLen) :
    Calls Tryd.prog 18 #[.string t, .slice A n c, .slice A' n' c', .int .i64 least] w fun e w' => e = .returned (.tuple #[.string (stV es is t least).1, .bool (stV es is t least).2]) ∧ Below w.heap.size w w' := by
  have hl := Lib.hid h.len
  have hl' := Lib.hid h'.len
  have hL := iTexts_any A n c es w w.heap.size h hn
  have hL' := iTexts_any A' n' c' is w w.heap.size h' hn'
  have H := Lib.hid h; have H' := Lib.hid h'; clear h h'
  by_cases h1 : txtB t = true
  · by_cases h2 : ltB es = true
    · by_cases h3 : ltB is = true
      · by_cases h4 : decide (es.length = is.length) = true
        · by_cases h5 : inB least 0 48 = true
          · have hV := Lib.hid (show stV es is t least = stF es is t (stb es t least n) by rw [stV, stB, h1, h2, h3, h4, h5, hl.out]; rfl)
            have ht := txtB_true h1
            have hI := inB_true h5
            have hq : n = n' := by rw [hl.out, hl'.out] at h4; exact of_decide_eq_true h4
            have h32 : n ≤ 32 := by have := (lt_parts h2).1; rw [hl.out] at this; exact this
            rw [h2] at hL; rw [h3] at hL'
            have HE := Lib.hid (lt_parts h2).2; have HI := Lib.hid (lt_parts h3).2
            subst hq
            clear h2 h3 h4
            go_enter Tryd.func18, Tryd.ntmps18
            go_wp2_with (first | (go_at_call 34; first | (refine hL.mono ?_; rintro e w' ⟨rfl, hw⟩; obtain rfl := hw.symm; clear hL) | (refine hL'.mono ?_; rintro e w' ⟨rfl, hw⟩; obtain rfl := hw.symm; clear hL')) | (go_at_call 24; refine (iIsText_any _ (by assumption) _).mono ?_; rintro e w' ⟨rfl, hw⟩; subst hw) | (go_at_call 26; refine (iIn_any _ _ _ _).mono ?_; rintro e w' ⟨rfl, hw⟩; subst hw))
            go_loopg [10, 41] n (fun m b i wr => ∃ k : Nat, i = .int .i64 k ∧ k ≤ n ∧ n ≤ m + k ∧ b = .int .i64 (stb es t least k) ∧ Below w.heap.size w wr)
            case atStart => exact ⟨0, rfl, by omega, by omega, rfl, Below.refl _ _⟩
            case round =>
              obtain ⟨k, rfl, hk, hm, rfl, hb⟩ := hrel
              have hs1 := hb.size
              by_cases hlt : k < n
              · obtain ⟨b, off, x, rfl, hbB, hx, hc, hxs⟩ := (H.out.below hb (Nat.le_refl _)).at_ hlt
                have hx48 := txt_all HE.out hx.out
                have l1 : (0 : Int) ≤ (k : Int) := by omega
                have w1 : IntKind.i64.wrap ((t.size : Int) - (x.size : Int)) = (t.size : Int) - (x.size : Int) := IntWalk.i64_in _ (by omega)
                have hHS := iHasS_any t x wt hxs
                obtain ⟨q, hq⟩ : ∃ q, q = hsB t x := ⟨_, rfl⟩
                rw [← hq] at hHS
                by_cases hok : okAt t least x = true
                · have hok2 := hok
                  unfold okAt at hok2
                  rw [← hq, Bool.and_eq_true] at hok2
                  obtain ⟨rfl, hle⟩ := hok2
                  have hle2 := of_decide_eq_true hle
                  have HOK := Lib.hid hok
                  clear hle hok hq
                  rcases stb_bd es t least k with hb1 | ⟨j, hj, hb1⟩
                  · have HN := Lib.hid (stb_new hx.out HOK.out (by omega))
                    rw [hb1]
                    go_wp2_with (first | (go_at_call 35; refine (hHS _).mono ?_; rintro e w2 ⟨rfl, nd, rfl⟩; clear hHS))
                    go_roundg (gk - 1)
                    case measure => omega
                    case rel => exact ⟨k + 1, by go_num, by omega, by omega, by rw [HN.out], below_draws hb _⟩
                  · obtain ⟨b2, off2, y, he2, _, hy, hcy, hys⟩ := (H.out.below hb (Nat.le_refl _)).at_ (show j < n by omega)
                    have he3 := Option.some.inj he2
                    injection he3 with he4 he5 _
                    subst he4 he5
                    have hy48 := txt_all HE.out hy.out
                    have l2 : (0 : Int) ≤ (j : Int) := by omega
                    have l3 : (j : Int) < (n : Int) := by omega
                    rw [hb1]
                    by_cases hlen : y.size < x.size
                    · have HN := Lib.hid (stb_more hx.out HOK.out hb1 hy.out hlen)
                      have l4 : (y.size : Int) < (x.size : Int) := by omega
                      have HB1 := Lib.hid hb1; clear hb1
                      go_wp2_with (first | (go_at_call 35; refine (hHS _).mono ?_; rintro e w2 ⟨rfl, nd, rfl⟩; clear hHS))
                      go_roundg (gk - 1)
                      case measure => omega
                      case rel => exact ⟨k + 1, by go_num, by omega, by omega, by rw [HN.out], below_draws hb _⟩
                    · have HN := Lib.hid (stb_less (least := least) (t := t) hx.out hb1 hy.out (by omega))
                      have l4 : (x.size : Int) ≤ (y.size : Int) := by omega
                      have HB1 := Lib.hid hb1; clear hb1 hlen
                      go_wp2_with (first | (go_at_call 35; refine (hHS _).mono ?_; rintro e w2 ⟨rfl, nd, rfl⟩; clear hHS))
                      go_roundg (gk - 1)
                      case measure => omega
                      case rel => exact ⟨k + 1, by go_num, by omega, by omega, by rw [HN.out, HB1.out], below_draws hb _⟩
                · have hokf : okAt t least x = false := by simpa using hok
                  have HN := Lib.hid (stb_no hx.out hokf)
                  have hok2 := hokf
                  unfold okAt at hok2
                  rw [← hq] at hok2
                  have HQ := Lib.hid hq
                  clear hok hokf hq
                  obtain ⟨z, hz⟩ : ∃ z, z = stb es t least k := ⟨_, rfl⟩
                  rw [← hz] at HN ⊢
                  clear hz
                  cases q
                  · clear hok2
                    go_wp2_with (first | (go_at_call 35; refine (hHS _).mono ?_; rintro e w2 ⟨rfl, nd, rfl⟩; clear hHS))
                    go_roundg (gk - 1)
                    case measure => omega
                    case rel => exact ⟨k + 1, by go_num, by omega, by omega, by rw [HN.out], below_draws hb _⟩
                  · rw [Bool.true_and] at hok2
                    have hok3 := of_decide_eq_false hok2
                    have hok4 : (t.size : Int) - (x.size : Int) < least := by omega
                    clear hok2 hok3
                    go_wp2_with (first | (go_at_call 35; refine (hHS _).mono ?_; rintro e w2 ⟨rfl, nd, rfl⟩; clear hHS))
                    go_roundg (gk - 1)
                    case measure => omega
                    case rel => exact ⟨k + 1, by go_num, by omega, by omega, by rw [HN.out], below_draws hb _⟩
              · obtain rfl : n = k := by omega
                rcases stb_bd es t least n with hb1 | ⟨j, hj, hb1⟩
                · have HF : Hid (stV es is t least = (t, true)) := by show _ = _; rw [hV.out, hb1]; rfl
                  rw [hb1]
                  clear hV
                  go_wp2_with fail
                  go_ret2
                  exact ⟨by rw [HF.out]; rfl, hb⟩
                · obtain ⟨b, off, x, rfl, hbB, hx, hc, hxs⟩ := (H.out.below hb (Nat.le_refl _)).at_ hj
                  obtain ⟨b2, off2, y, rfl, hbB2, hy, hcy, hys⟩ := (H'.out.below hb (Nat.le_refl _)).at_ hj
                  have hx48 := txt_all HE.out hx.out
                  have hy48 := txt_all HI.out hy.out
                  have hfit := stb_fit hb1 hx.out
                  have HF : Hid (stV es is t least = if txtB (t.extract 0 (t.size - x.size) ++ y) then (t.extract 0 (t.size - x.size) ++ y, true) else (emp, false)) := by
                    show _ = _
                    rw [hV.out, hb1, stF, if_neg (by omega), stE, Int.toNat_natCast, getD_of hx.out, getD_of hy.out]
                  rw [hb1]
                  clear hV hb1
                  have l1 : (0 : Int) ≤ (j : Int) := by omega
                  have l2 : (j : Int) < (n : Int) := by omega
                  have l3 : (0 : Int) ≤ (t.size : Int) - (x.size : Int) := by omega
                  have l4 : (t.size : Int) - (x.size : Int) ≤ (t.size : Int) := by omega
                  have w1 : IntKind.i64.wrap ((t.size : Int) - (x.size : Int)) = (t.size : Int) - (x.size : Int) := IntWalk.i64_in _ (by omega)
                  have e1 : ((t.size : Int) - (x.size : Int)).toNat = t.size - x.size := by omega
                  have hsz : (t.extract 0 (t.size - x.size) ++ y).size ≤ maxLen := by unfold maxLen; rw [ByteArray.size_append, ByteArray.size_extract]; omega
                  have hT := iIsText_any (t.extract 0 (t.size - x.size) ++ y) hsz
                  cases hq : txtB (t.extract 0 (t.size - x.size) ++ y)
                  · rw [hq] at hT HF
                    clear hq
                    go_wp2_with fail
                    go_quiet (fail)
                    go_wp2_with (first | (go_at_call 24; refine (hT _).mono ?_; rintro e w2 ⟨rfl, hw⟩; obtain rfl := hw; clear hT))
                    go_ret2
                    exact ⟨by rw [HF.out]; rfl, below_draws hb _⟩
                  · rw [hq] at hT HF
                    clear hq
                    go_wp2_with fail
                    go_quiet (fail)
                    go_wp2_with (first | (go_at_call 24; refine (hT _).mono ?_; rintro e w2 ⟨rfl, hw⟩; obtain rfl := hw; clear hT))
                    go_ret2
                    exact ⟨by rw [HF.out]; rfl, below_draws hb _⟩
          · have hf : inB least 0 48 = false := by simpa using h5
            have hV := Lib.hid (show stV es is t least = (emp, false) by rw [stV, stB, hf, h1, h2, h3, h4]; simp)
            rw [h2] at hL
            rw [h3] at hL'
            have hne : n = n' := by rw [hl.out, hl'.out] at h4; exact of_decide_eq_true h4
            clear h2 h3 h4
            subst hne
            go_enter Tryd.func18, Tryd.ntmps18
            go_wp2_with (first | (go_at_call 34; first | (refine hL.mono ?_; rintro e w' ⟨rfl, hw⟩; obtain rfl := hw.symm; clear hL) | (refine hL'.mono ?_; rintro e w' ⟨rfl, hw⟩; obtain rfl := hw.symm; clear hL')) | (go_at_call 24; refine (iIsText_any _ (by assumption) _).mono ?_; rintro e w' ⟨rfl, hw⟩; subst hw) | (go_at_call 26; refine (iIn_any _ _ _ _).mono ?_; rintro e w' ⟨rfl, hw⟩; subst hw))
            go_ret2
            exact ⟨by rw [hV.out]; rfl, Below.refl _ _⟩
        · have hf : decide (es.length = is.length) = false := by simpa using h4
          have hV := Lib.hid (show stV es is t least = (emp, false) by rw [stV, stB, hf, h1, h2, h3]; simp)
          rw [h2] at hL
          rw [h3] at hL'
          have hne : ¬ n = n' := fun e => by rw [hl.out, hl'.out] at h4; exact h4 (decide_eq_true e)
          have hne2 : ¬ (n : Int) = (n' : Int) := fun e => hne (by omega)
          clear h2 h3 h4 hf
          go_enter Tryd.func18, Tryd.ntmps18
          go_wp2_with (first | (go_at_call 34; first | (refine hL.mono ?_; rintro e w' ⟨rfl, hw⟩; obtain rfl := hw.symm; clear hL) | (refine hL'.mono ?_; rintro e w' ⟨rfl, hw⟩; obtain rfl := hw.symm; clear hL')) | (go_at_call 24; refine (iIsText_any _ (by assumption) _).mono ?_; rintro e w' ⟨rfl, hw⟩; subst hw) | (go_at_call 26; refine (iIn_any _ _ _ _).mono ?_; rintro e w' ⟨rfl, hw⟩; subst hw))
          go_ret2
          exact ⟨by rw [hV.out]; rfl, Below.refl _ _⟩
      · have hf : ltB is = false := by simpa using h3
        have hV := Lib.hid (show stV es is t least = (emp, false) by rw [stV, stB, hf, h1, h2]; simp)
        rw [h2] at hL
        rw [hf] at hL'
        clear h2 h3
        go_enter Tryd.func18, Tryd.ntmps18
        go_wp2_with (first | (go_at_call 34; first | (refine hL.mono ?_; rintro e w' ⟨rfl, hw⟩; obtain rfl := hw.symm; clear hL) | (refine hL'.mono ?_; rintro e w' ⟨rfl, hw⟩; obtain rfl := hw.symm; clear hL')) | (go_at_call 24; refine (iIsText_any _ (by assumption) _).mono ?_; rintro e w' ⟨rfl, hw⟩; subst hw) | (go_at_call 26; refine (iIn_any _ _ _ _).mono ?_; rintro e w' ⟨rfl, hw⟩; subst hw))
        go_ret2
        exact ⟨by rw [hV.out]; rfl, Below.refl _ _⟩
    · have hf : ltB es = false := by simpa using h2
      have hV := Lib.hid (show stV es is t least = (emp, false) by rw [stV, stB, hf, h1]; simp)
      rw [hf] at hL
      clear h2
      go_enter Tryd.func18, Tryd.ntmps18
      go_wp2_with (first | (go_at_call 34; first | (refine hL.mono ?_; rintro e w' ⟨rfl, hw⟩; obtain rfl := hw.symm; clear hL) | (refine hL'.mono ?_; rintro e w' ⟨rfl, hw⟩; obtain rfl := hw.symm; clear hL')) | (go_at_call 24; refine (iIsText_any _ (by assumption) _).mono ?_; rintro e w' ⟨rfl, hw⟩; subst hw) | (go_at_call 26; refine (iIn_any _ _ _ _).mono ?_; rintro e w' ⟨rfl, hw⟩; subst hw))
      go_ret2
      exact ⟨by rw [hV.out]; rfl, Below.refl _ _⟩
  · have hf : txtB t = false := by simpa using h1
    have hV := Lib.hid (show stV es is t least = (emp, false) by rw [stV, stB, hf]; simp)
    skip
    go_enter Tryd.func18, Tryd.ntmps18
    go_wp2_with (first | (go_at_call 34; first | (refine hL.mono ?_; rintro e w' ⟨rfl, hw⟩; obtain rfl := hw.symm; clear hL) | (refine hL'.mono ?_; rintro e w' ⟨rfl, hw⟩; obtain rfl := hw.symm; clear hL')) | (go_at_call 24; refine (iIsText_any _ (by assumption) _).mono ?_; rintro e w' ⟨rfl, hw⟩; subst hw) | (go_at_call 26; refine (iIn_any _ _ _ _).mono ?_; rintro e w' ⟨rfl, hw⟩; subst hw))
    go_ret2
    exact ⟨by rw [hV.out]; rfl, Below.refl _ _⟩
end Go.Proofs.YtpmklldochpnlaaDoor
