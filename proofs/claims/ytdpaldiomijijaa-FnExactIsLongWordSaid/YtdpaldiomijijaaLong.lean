/- Words of numbers: what 'IsLongWord' returns in both programs; copies and equality of lists. -/
import Derived.Test.YtdpaldiomijijaaTxt
namespace Go.Proofs.Ytdpaldiomijijaa
open Go.RowKit
set_option linter.unusedVariables false

def allIn (xs : List Int) (lo hi : Int) : Bool := xs.all fun x => inB x lo hi
def longB (xs : List Int) (l : Int) : Bool := inB l 1 4 && decide (xs.length ≤ 24) && allIn xs 0 (l - 1)
theorem allIn_take {xs : List Int} {lo hi x : Int} {k : Nat} (h : allIn (xs.take k) lo hi = true) (hx : xs[k]? = some x) (hi' : inB x lo hi = true) : allIn (xs.take (k + 1)) lo hi = true := by
  unfold allIn at *
  obtain ⟨hk, rfl⟩ := List.getElem?_eq_some_iff.1 hx
  rw [List.take_succ_eq_append_getElem hk, List.all_append, h]
  simpa using hi'
theorem allIn_no {xs : List Int} {lo hi x : Int} {k : Nat} (hx : xs[k]? = some x) (hi' : ¬ inB x lo hi = true) : false = allIn xs lo hi := by
  unfold allIn
  rw [eq_comm, List.all_eq_false]
  exact ⟨x, List.mem_of_getElem? hx, by simpa using hi'⟩
theorem allIn_full {xs : List Int} {lo hi : Int} {n : Nat} (h : allIn (xs.take n) lo hi = true) (hn : xs.length = n) : true = allIn xs lo hi := by
  rw [List.take_of_length_le (by omega)] at h; exact h.symm

set_option maxHeartbeats 400000 in
theorem iAllIn_any (A : Option Addr) (n c : Nat) (xs : List Int) (lo hi : Int) (B : Nat) (w : World) (h : SlI w B A n xs) (hn : n ≤ 4294967296) :
    Calls Try.prog 47 #[.slice A n c, .int .i64 lo, .int .i64 hi] w fun e w' => e = .returned (.bool (allIn xs lo hi)) ∧ w = w' := by
  have hl := Lib.hid h.len
  have H := Lib.hid h; clear h
  go_enter Try.func47, Try.ntmps47
  go_wp2
  go_loop [11] (fun i => ∃ k : Nat, k ≤ n ∧ i = .int .i64 k ∧ allIn (xs.take k) lo hi = true) (fun i => n - (intOf i).toNat)
  case atStart => exact ⟨0, by omega, rfl, rfl⟩
  case round =>
    obtain ⟨k, hk, rfl, ha⟩ := hrel
    have HA := Lib.hid ha; clear ha
    by_cases hlt : k < n
    · obtain ⟨b, off, x, rfl, hbB, hx, hc⟩ := H.out.at_ hlt
      by_cases hin : inB x lo hi = true
      · go_wp2_with (first | (go_at_call 44; refine (iIn_any _ _ _ _).mono ?_; rintro e w' ⟨rfl, rfl⟩))
        go_round
        case rel => exact ⟨k + 1, by omega, by go_num, allIn_take HA.out hx.out hin⟩
        case measure => simp [intOf]; omega
      · go_wp2_with (first | (go_at_call 44; refine (iIn_any _ _ _ _).mono ?_; rintro e w' ⟨rfl, rfl⟩))
        go_ret
        exact ⟨ret_bool (allIn_no hx.out hin), rfl⟩
    · obtain rfl : n = k := by omega
      go_wp2
      go_ret
      exact ⟨ret_bool (allIn_full HA.out hl.out), rfl⟩
theorem longB_no {xs : List Int} {l : Int} (h : ¬ inB l 1 4 = true) : false = longB xs l := by simp [longB, h]
theorem longB_len {xs : List Int} {l : Int} (h : 24 < xs.length) : false = longB xs l := by
  have : decide (xs.length ≤ 24) = false := decide_eq_false (by omega)
  simp only [longB, this, Bool.and_false, Bool.false_and]
theorem longB_in {xs : List Int} {l : Int} (h : inB l 1 4 = true) (hl : xs.length ≤ 24) : longB xs l = allIn xs 0 (l - 1) := by simp [longB, h, hl]
set_option maxHeartbeats 400000 in
theorem sLong_any (A : Option Addr) (n c : Nat) (xs : List Int) (l : Int) (B : Nat) (w : World) (h : SlI w B A n xs) (hn : n ≤ 4294967296) :
    Calls Try.prog 46 #[.slice A n c, .int .i64 l] w fun e w' => e = .returned (.bool (longB xs l)) ∧ w = w' := by
  have hl := Lib.hid h.len
  have H := Lib.hid h; clear h
  by_cases hlt : inB l 1 4 = true
  · have hb := inB_true hlt
    by_cases hs : n ≤ 24
    · go_enter Try.func46, Try.ntmps46
      go_wp2_with (first | (go_at_call 67; refine (sLetters_any _ _).mono ?_; rintro e w' ⟨rfl, rfl⟩))
      go_loop [16] (fun i => ∃ k : Nat, k ≤ n ∧ i = .int .i64 k ∧ allIn (xs.take k) 0 (l - 1) = true) (fun i => n - (intOf i).toNat)
      case atStart => exact ⟨0, by omega, rfl, rfl⟩
      case round =>
        obtain ⟨k, hk, rfl, ha⟩ := hrel
        have HA := Lib.hid ha; clear ha
        by_cases hlt : k < n
        · obtain ⟨b, off, x, rfl, hbB, hx, hc⟩ := H.out.at_ hlt
          by_cases hin : inB x 0 (l - 1) = true
          · go_wp2_with (first | (go_at_call 42; refine (sIn_any _ _ _ _).mono ?_; rintro e w' ⟨rfl, rfl⟩))
            go_round
            case rel => exact ⟨k + 1, by omega, by go_num, allIn_take HA.out hx.out hin⟩
            case measure => simp [intOf]; omega
          · go_wp2_with (first | (go_at_call 42; refine (sIn_any _ _ _ _).mono ?_; rintro e w' ⟨rfl, rfl⟩))
            go_ret
            exact ⟨ret_bool ((allIn_no hx.out hin).trans (longB_in ‹_› (by rw [hl.out]; omega)).symm), rfl⟩
        · obtain rfl : n = k := by omega
          go_wp2
          go_ret
          exact ⟨ret_bool ((allIn_full HA.out hl.out).trans (longB_in ‹_› (by rw [hl.out]; omega)).symm), rfl⟩
    · go_enter Try.func46, Try.ntmps46
      go_wp2_with (first | (go_at_call 67; refine (sLetters_any _ _).mono ?_; rintro e w' ⟨rfl, rfl⟩))
      go_ret
      exact ⟨ret_bool (longB_len (by rw [hl.out]; omega)), rfl⟩
  · go_enter Try.func46, Try.ntmps46
    go_wp2_with (first | (go_at_call 67; refine (sLetters_any _ _).mono ?_; rintro e w' ⟨rfl, rfl⟩))
    go_ret
    exact ⟨ret_bool (longB_no hlt), rfl⟩
theorem sIsLong_any (A : Option Addr) (n c : Nat) (xs : List Int) (l : Int) (B : Nat) (w : World) (h : SlI w B A n xs) (hn : n ≤ 4294967296) :
    Calls Try.prog 19 #[.slice A n c, .int .i64 l] w fun e w' => e = .returned (.bool (longB xs l)) ∧ w = w' := by
  have H := Lib.hid h; clear h
  go_enter Try.func19, Try.ntmps19
  go_wp2_with (first | (go_at_call 46; refine (sLong_any _ _ _ _ _ _ _ H.out hn).mono ?_; rintro e w' ⟨rfl, rfl⟩))
  go_ret
  exact ⟨rfl, rfl⟩
set_option maxHeartbeats 400000 in
theorem iIsLong_any (A : Option Addr) (n c : Nat) (xs : List Int) (l : Int) (B : Nat) (w : World) (h : SlI w B A n xs) (hn : n ≤ 4294967296) :
    Calls Try.prog 21 #[.slice A n c, .int .i64 l] w fun e w' => e = .returned (.bool (longB xs l)) ∧ w = w' := by
  have hl := Lib.hid h.len
  have H := Lib.hid h; clear h
  by_cases hlt : inB l 1 4 = true
  · have hb := inB_true hlt
    by_cases hs : n ≤ 24
    · go_enter Try.func21, Try.ntmps21
      go_wp2_with (first | (go_at_call 44; refine (iIn_any _ _ _ _).mono ?_; rintro e w' ⟨rfl, rfl⟩) | (go_at_call 47; refine (iAllIn_any _ _ _ _ _ _ _ _ H.out hn).mono ?_; rintro e w' ⟨rfl, rfl⟩))
      go_ret
      exact ⟨ret_bool (longB_in hlt (by rw [hl.out]; omega)).symm, rfl⟩
    · go_enter Try.func21, Try.ntmps21
      go_wp2_with (first | (go_at_call 44; refine (iIn_any _ _ _ _).mono ?_; rintro e w' ⟨rfl, rfl⟩))
      go_ret
      exact ⟨ret_bool (longB_len (by rw [hl.out]; omega)), rfl⟩
  · go_enter Try.func21, Try.ntmps21
    go_wp2_with (first | (go_at_call 44; refine (iIn_any _ _ _ _).mono ?_; rintro e w' ⟨rfl, rfl⟩))
    go_ret
    exact ⟨ret_bool (longB_no hlt), rfl⟩
end Go.Proofs.Ytdpaldiomijijaa
