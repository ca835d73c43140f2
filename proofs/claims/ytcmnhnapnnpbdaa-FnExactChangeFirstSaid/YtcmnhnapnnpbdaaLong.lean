/- Words of numbers: what 'IsLongWord' returns in both programs; copies and equality of lists. -/
import Derived.Test.YtcmnhnapnnpbdaaTxtB
namespace Go.Proofs.Ytcmnhnapnnpbdaa
open Go.RowKit
set_option linter.unusedVariables false

def longB (xs : List Int) (l : Int) : Bool := inB l 1 4 && decide (xs.length ≤ 24) && allIn xs 0 (l - 1)
theorem longB_no {xs : List Int} {l : Int} (h : ¬ inB l 1 4 = true) : false = longB xs l := by simp [longB, h]
theorem longB_len {xs : List Int} {l : Int} (h : 24 < xs.length) : false = longB xs l := by
  have : decide (xs.length ≤ 24) = false := decide_eq_false (by omega)
  simp only [longB, this, Bool.and_false, Bool.false_and]
theorem longB_in {xs : List Int} {l : Int} (h : inB l 1 4 = true) (hl : xs.length ≤ 24) : longB xs l = allIn xs 0 (l - 1) := by simp [longB, h, hl]
set_option maxHeartbeats 400000 in
theorem sLong_any (A : Option Addr) (n c : Nat) (xs : List Int) (l : Int) (B : Nat) (w : World) (h : SlI w B A n xs) (hn : n ≤ 4294967296) :
    Calls Try.prog 58 #[.slice A n c, .int .i64 l] w fun e w' => e = .returned (.bool (longB xs l)) ∧ w = w' := by
  have hl := Lib.hid h.len
  have H := Lib.hid h; clear h
  by_cases hlt : inB l 1 4 = true
  · have hb := inB_true hlt
    by_cases hs : n ≤ 24
    · go_enter Try.func58, Try.ntmps58
      go_wp2_with (first | (go_at_call 91; refine (sLetters_any _ _).mono ?_; rintro e w' ⟨rfl, rfl⟩))
      go_loop [16] (fun i => ∃ k : Nat, k ≤ n ∧ i = .int .i64 k ∧ allIn (xs.take k) 0 (l - 1) = true) (fun i => n - (intOf i).toNat)
      case atStart => exact ⟨0, by omega, rfl, rfl⟩
      case round =>
        obtain ⟨k, hk, rfl, ha⟩ := hrel
        have HA := Lib.hid ha; clear ha
        by_cases hlt : k < n
        · obtain ⟨b, off, x, rfl, hbB, hx, hc⟩ := H.out.at_ hlt
          by_cases hin : inB x 0 (l - 1) = true
          · go_wp2_with (first | (go_at_call 55; refine (sIn_any _ _ _ _).mono ?_; rintro e w' ⟨rfl, rfl⟩))
            go_round
            case rel => exact ⟨k + 1, by omega, by go_num, allIn_take HA.out hx.out hin⟩
            case measure => simp [intOf]; omega
          · go_wp2_with (first | (go_at_call 55; refine (sIn_any _ _ _ _).mono ?_; rintro e w' ⟨rfl, rfl⟩))
            go_ret
            exact ⟨ret_bool ((allIn_no hx.out hin).trans (longB_in ‹_› (by rw [hl.out]; omega)).symm), rfl⟩
        · obtain rfl : n = k := by omega
          go_wp2
          go_ret
          exact ⟨ret_bool ((allIn_full HA.out hl.out).trans (longB_in ‹_› (by rw [hl.out]; omega)).symm), rfl⟩
    · go_enter Try.func58, Try.ntmps58
      go_wp2_with (first | (go_at_call 91; refine (sLetters_any _ _).mono ?_; rintro e w' ⟨rfl, rfl⟩))
      go_ret
      exact ⟨ret_bool (longB_len (by rw [hl.out]; omega)), rfl⟩
  · go_enter Try.func58, Try.ntmps58
    go_wp2_with (first | (go_at_call 91; refine (sLetters_any _ _).mono ?_; rintro e w' ⟨rfl, rfl⟩))
    go_ret
    exact ⟨ret_bool (longB_no hlt), rfl⟩
set_option maxHeartbeats 400000 in
theorem iIsLong_any (A : Option Addr) (n c : Nat) (xs : List Int) (l : Int) (B : Nat) (w : World) (h : SlI w B A n xs) (hn : n ≤ 4294967296) :
    Calls Try.prog 53 #[.slice A n c, .int .i64 l] w fun e w' => e = .returned (.bool (longB xs l)) ∧ w = w' := by
  have hl := Lib.hid h.len
  have H := Lib.hid h; clear h
  by_cases hlt : inB l 1 4 = true
  · have hb := inB_true hlt
    by_cases hs : n ≤ 24
    · go_enter Try.func53, Try.ntmps53
      go_wp2_with (first | (go_at_call 72; refine (iIn_any _ _ _ _).mono ?_; rintro e w' ⟨rfl, rfl⟩) | (go_at_call 88; refine (iAllIn_any _ _ _ _ _ _ _ _ H.out hn).mono ?_; rintro e w' ⟨rfl, rfl⟩))
      go_ret
      exact ⟨ret_bool (longB_in hlt (by rw [hl.out]; omega)).symm, rfl⟩
    · go_enter Try.func53, Try.ntmps53
      go_wp2_with (first | (go_at_call 72; refine (iIn_any _ _ _ _).mono ?_; rintro e w' ⟨rfl, rfl⟩))
      go_ret
      exact ⟨ret_bool (longB_len (by rw [hl.out]; omega)), rfl⟩
  · go_enter Try.func53, Try.ntmps53
    go_wp2_with (first | (go_at_call 72; refine (iIn_any _ _ _ _).mono ?_; rintro e w' ⟨rfl, rfl⟩))
    go_ret
    exact ⟨ret_bool (longB_no hlt), rfl⟩
end Go.Proofs.Ytcmnhnapnnpbdaa
