/- WithFeatures of both programs. -/
import Derived.Test.YtcmnhnapnnpbdaaFe
import Derived.Test.YtcmnhnapnnpbdaaTab
import Derived.Test.YtcmnhnapnnpbdaaMkO
namespace Go.Proofs.Ytcmnhnapnnpbdaa
open Go.RowKit
set_option linter.unusedVariables false
theorem infoF : (Try.prog.info? 2).map (fun i => (i.zero, i.size, i.bytes)) = some (some (.int .i64 0), 1, 8) := by kernel_rfl
def FOut (w : World) (base : Nat) (v : Value) (ok : Bool) (r : List Int) : Prop := if ok then RowI w base 2 v r else v = .slice none 0 0
theorem wfO_case (need ban x : Int) : (wfO need ban x = true ∧ (bits .and .i64 x need == need) = true ∧ (bits .and .i64 x ban == 0) = true) ∨ (wfO need ban x = false ∧ (bits .and .i64 x need == need) = false) ∨ (wfO need ban x = false ∧ (bits .and .i64 x need == need) = true ∧ (bits .and .i64 x ban == 0) = false) := by
  unfold wfO
  cases (bits .and .i64 x need == need) <;> cases (bits .and .i64 x ban == 0) <;> simp
set_option maxHeartbeats 1000000 in
theorem iWith_any (A : Option Addr) (n c : Nat) (fs : List Int) (need ban : Int) (w : World) (h : SlI w w.heap.size A n fs) (hn : n ≤ 4294967296) (hnc : n ≤ c) :
    Calls Try.prog 23 #[.slice A n c, .int .i64 need, .int .i64 ban] w fun e w' => ∃ v, e = .returned (.tuple #[v, .bool (wfB fs need ban)]) ∧ FOut w' w.heap.size v (wfB fs need ban) (fx (wfL fs need ban n)) ∧ Below w.heap.size w w' := by
  have hl := Lib.hid h.len
  have hF := iFeat_any A n c fs w.heap.size w h hn hnc
  have H := Lib.hid h; clear h
  cases h1 : feB fs with
  | false =>
    have HB := Lib.hid (show wfB fs need ban = false by rw [wfB, h1, Bool.false_and])
    rw [h1] at hF
    go_enter Try.func23, Try.ntmps23
    go_wp2_with (first | (go_at_call 56; refine hF.mono ?_; rintro e w' ⟨rfl, hw⟩; obtain rfl := hw.symm; clear hF))
    go_ret2
    exact ⟨_, by rw [HB.out]; rfl, by rw [FOut, HB.out]; rfl, Below.refl _ _⟩
  | true =>
    have h14 := (feB_true h1).2.2
    rw [hl.out] at h14
    rw [h1] at hF
    have hY := iBytes_any (some ⟨w.heap.size, 0, none⟩) 2 2 [need, ban] (w.heap.size + 1) (w.alloc (.cells #[.int .i64 need, .int .i64 ban] 2)) (by have := (Row.new w 2 (iv [need, ban])).sl; simp at this; exact this) (by omega)
    cases h2 : allIn [need, ban] 0 255 with
    | false =>
      have HB := Lib.hid (show wfB fs need ban = false by simp only [allIn, List.all_cons, List.all_nil, Bool.and_true] at h2; rw [wfB, h2, Bool.and_false])
      rw [h2] at hY
      go_enter Try.func23, Try.ntmps23
      go_wp2_with (first | (go_at_call 56; refine hF.mono ?_; rintro e w' ⟨rfl, hw⟩; obtain rfl := hw.symm; clear hF) | (go_at_call 57; refine hY.mono ?_; rintro e w' ⟨rfl, hw⟩; subst hw; clear hY))
      go_ret2
      exact ⟨_, by rw [HB.out]; rfl, by rw [FOut, HB.out]; rfl, (Below.refl _ _).alloc (Nat.le_refl _) _⟩
    | true =>
      have HB := Lib.hid (show wfB fs need ban = true by simp only [allIn, List.all_cons, List.all_nil, Bool.and_true] at h2; rw [wfB, h1, h2]; rfl)
      rw [h2] at hY
      clear h1 h2
      have hb3 : Below w.heap.size w (w.alloc (.cells #[.int .i64 need, .int .i64 ban] 2)) := (Below.refl _ _).alloc (Nat.le_refl _) _
      have hR0 : RowI ((w.alloc (.cells #[.int .i64 need, .int .i64 ban] 2)).alloc (.cells #[] 2)) w.heap.size 2 (.slice (some ⟨w.heap.size + 1, 0, none⟩) 0 0) [] := by
        have h := RowI.made (w.alloc (.cells #[.int .i64 need, .int .i64 ban] 2)) w.heap.size 2 hb3.size
        simpa using h
      go_enter Try.func23, Try.ntmps23
      go_wp2_with (first | (go_at_call 56; refine hF.mono ?_; rintro e w' ⟨rfl, hw⟩; obtain rfl := hw.symm; clear hF) | (go_at_call 57; refine hY.mono ?_; rintro e w' ⟨rfl, hw⟩; subst hw; clear hY))
      go_loopg [8, 24] n (fun m o i wr => ∃ k : Nat, i = .int .i64 k ∧ k ≤ n ∧ n ≤ m + k ∧ RowI wr w.heap.size 2 o (fx (wfL fs need ban k)) ∧ Below w.heap.size w wr)
      case atStart => exact ⟨0, rfl, by omega, by omega, hR0, hb3.alloc hb3.size _⟩
      case round =>
        obtain ⟨k, rfl, hk, hm, hr, hb⟩ := hrel
        have HR := Lib.hid hr; clear hr
        have hs := hb.size
        by_cases hlt : k < n
        · obtain ⟨b, off, x, rfl, hbB, hx, hc⟩ := (H.out.below hb (Nat.le_refl _)).at_ hlt
          have l1 : (0 : Int) ≤ (k : Int) := by omega
          have hlen : Hid ((fx (wfL fs need ban k)).length ≤ 4) := by show _ ≤ 4; rw [fx_len]; have := wfL_len fs need ban k; omega
          rcases wfO_case need ban x with ⟨ho, q1, q2⟩ | ⟨ho, q1⟩ | ⟨ho, q1, q2⟩
          · have HO := Lib.hid (wfL_yes hx.out ho); clear ho
            go_wp2_with (first | (at_builtin; refine wpList_int_push _ rfl (.tmp 40) (.tmp 42) _ rfl w.heap.size 2 Try.underlying22 infoF _ (fx (wfL fs need ban k)) rfl HR.out _ rfl (by have := hlen.out; omega) hs ?_; intro g' cap w' hown hbl hat hgr; clear hat hgr))
            go_roundg (gk - 1)
            case measure => omega
            case rel => exact ⟨k + 1, by go_num, by omega, by omega, by rw [HO.out]; exact hown, hb.trans hbl⟩
          · have HO := Lib.hid (wfL_no hx.out ho); clear ho
            go_wp2_with fail
            go_roundg (gk - 1)
            case measure => omega
            case rel => exact ⟨k + 1, by go_num, by omega, by omega, by rw [HO.out]; exact HR.out, hb⟩
          · have HO := Lib.hid (wfL_no hx.out ho); clear ho
            go_wp2_with fail
            go_roundg (gk - 1)
            case measure => omega
            case rel => exact ⟨k + 1, by go_num, by omega, by omega, by rw [HO.out]; exact HR.out, hb⟩
        · obtain rfl : n = k := by omega
          go_wp2_with fail
          go_ret2
          exact ⟨_, by rw [HB.out]; rfl, by rw [FOut, HB.out]; exact HR.out, hb⟩
set_option maxHeartbeats 1000000 in
theorem sWith_any (A : Option Addr) (n c : Nat) (fs : List Int) (need ban : Int) (w : World) (h : SlI w w.heap.size A n fs) (hn : n ≤ 4294967296) (hnc : n ≤ c) :
    Calls Try.prog 21 #[.slice A n c, .int .i64 need, .int .i64 ban] w fun e w' => ∃ v, e = .returned (.tuple #[v, .bool (wfB fs need ban)]) ∧ FOut w' w.heap.size v (wfB fs need ban) (fx (wfL fs need ban n)) ∧ Below w.heap.size w w' := by
  have hl := Lib.hid h.len
  have hF := sFeat_any A n c fs w.heap.size w h hn hnc
  have H := Lib.hid h; clear h
  have hwB : wfB fs need ban = (feB fs && (inB need 0 255 && inB ban 0 255)) := rfl
  cases h1 : feB fs with
  | false =>
    have HB := Lib.hid (show wfB fs need ban = false by rw [hwB, h1, Bool.false_and])
    rw [h1] at hF
    clear hwB
    go_enter Try.func21, Try.ntmps21
    go_wp2_with (first | (go_at_call 54; refine hF.mono ?_; rintro e w1 ⟨rfl, hb1⟩; clear hF))
    go_ret2
    exact ⟨_, by rw [HB.out]; rfl, by rw [FOut, HB.out]; rfl, hb1⟩
  | true =>
    have h14 := (feB_true h1).2.2
    rw [hl.out] at h14
    rw [h1] at hF
    have hY := sIn_any need 0 255
    cases h2 : inB need 0 255 with
    | false =>
      have HB := Lib.hid (show wfB fs need ban = false by rw [hwB, h2, Bool.false_and, Bool.and_false])
      rw [h2] at hY
      clear hwB
      go_enter Try.func21, Try.ntmps21
      go_wp2_with (first | (go_at_call 54; refine hF.mono ?_; rintro e w1 ⟨rfl, hb1⟩; clear hF) | (go_at_call 55; refine (hY _).mono ?_; rintro e w' ⟨rfl, hw⟩; subst hw; clear hY))
      go_ret2
      exact ⟨_, by rw [HB.out]; rfl, by rw [FOut, HB.out]; rfl, hb1⟩
    | true =>
      have hZ := sIn_any ban 0 255
      rw [h2] at hY
      cases h3 : inB ban 0 255 with
      | false =>
        have HB := Lib.hid (show wfB fs need ban = false by rw [hwB, h3, Bool.and_false, Bool.and_false])
        rw [h3] at hZ
        clear hwB h2
        go_enter Try.func21, Try.ntmps21
        go_wp2_with (first | (go_at_call 54; refine hF.mono ?_; rintro e w1 ⟨rfl, hb1⟩; clear hF) | (go_at_call 55; first | (refine (hY _).mono ?_; rintro e w' ⟨rfl, hw⟩; subst hw; clear hY) | (refine (hZ _).mono ?_; rintro e w' ⟨rfl, hw⟩; subst hw; clear hZ)))
        go_ret2
        exact ⟨_, by rw [HB.out]; rfl, by rw [FOut, HB.out]; rfl, hb1⟩
      | true =>
        have HB := Lib.hid (show wfB fs need ban = true by rw [hwB, h1, h2, h3]; rfl)
        rw [h3] at hZ
        clear h1 h2 h3 hwB
        go_enter Try.func21, Try.ntmps21
        go_wp2_with (first | (go_at_call 54; refine hF.mono ?_; rintro e w1 ⟨rfl, hb1⟩; clear hF) | (go_at_call 55; first | (refine (hY _).mono ?_; rintro e w' ⟨rfl, hw⟩; subst hw; clear hY) | (refine (hZ _).mono ?_; rintro e w' ⟨rfl, hw⟩; subst hw; clear hZ)))
        go_loopg [8, 26] n (fun m o i wr => ∃ k : Nat, i = .int .i64 k ∧ k ≤ n ∧ n ≤ m + k ∧ RowI wr w.heap.size 2 o (fx (wfL fs need ban k)) ∧ Below w.heap.size w wr)
        case atStart => exact ⟨0, rfl, by omega, by omega, RowI.made _ _ _ hb1.size, hb1.alloc hb1.size _⟩
        case round =>
          obtain ⟨k, rfl, hk, hm, hr, hb⟩ := hrel
          have HR := Lib.hid hr; clear hr
          have hs := hb.size
          by_cases hlt : k < n
          · obtain ⟨b, off, x, rfl, hbB, hx, hc⟩ := (H.out.below hb (Nat.le_refl _)).at_ hlt
            have l1 : (0 : Int) ≤ (k : Int) := by omega
            have hlen : Hid ((fx (wfL fs need ban k)).length ≤ 4) := by show _ ≤ 4; rw [fx_len]; have := wfL_len fs need ban k; omega
            rcases wfO_case need ban x with ⟨ho, q1, q2⟩ | ⟨ho, q1⟩ | ⟨ho, q1, q2⟩
            · have HO := Lib.hid (wfL_yes hx.out ho); clear ho
              go_wp2_with (first | (at_builtin; refine wpList_int_push _ rfl (.tmp 46) (.tmp 48) _ rfl w.heap.size 2 Try.underlying22 infoF _ (fx (wfL fs need ban k)) rfl HR.out _ rfl (by have := hlen.out; omega) hs ?_; intro g' cap w' hown hbl hat hgr; clear hat hgr))
              go_roundg (gk - 1)
              case measure => omega
              case rel => exact ⟨k + 1, by go_num, by omega, by omega, by rw [HO.out]; exact hown, hb.trans hbl⟩
            · have HO := Lib.hid (wfL_no hx.out ho); clear ho
              go_wp2_with fail
              go_roundg (gk - 1)
              case measure => omega
              case rel => exact ⟨k + 1, by go_num, by omega, by omega, by rw [HO.out]; exact HR.out, hb⟩
            · have HO := Lib.hid (wfL_no hx.out ho); clear ho
              go_wp2_with fail
              go_roundg (gk - 1)
              case measure => omega
              case rel => exact ⟨k + 1, by go_num, by omega, by omega, by rw [HO.out]; exact HR.out, hb⟩
          · obtain rfl : n = k := by omega
            go_wp2_with fail
            go_ret2
            exact ⟨_, by rw [HB.out]; rfl, by rw [FOut, HB.out]; exact HR.out, hb⟩
end Go.Proofs.Ytcmnhnapnnpbdaa
