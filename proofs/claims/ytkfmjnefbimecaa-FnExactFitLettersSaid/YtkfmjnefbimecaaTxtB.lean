/- Two texts, and costs: what the predicates return. -/
import Derived.Test.YtkfmjnefbimecaaTxt
namespace Go.Proofs.Ytkfmjnefbimecaa
open Go.RowKit
set_option linter.unusedVariables false

def allIn (xs : List Int) (lo hi : Int) : Bool := xs.all fun x => inB x lo hi
theorem allIn_take {xs : List Int} {lo hi x : Int} {k : Nat} (h : allIn (xs.take k) lo hi = true) (hx : xs[k]? = some x) (hi' : inB x lo hi = true) : allIn (xs.take (k + 1)) lo hi = true := by
  unfold allIn at *
  obtain ⟨hk, rfl⟩ := List.getElem?_eq_some_iff.1 hx
  rw [List.take_succ_eq_append_getElem hk, List.all_append, h]
  simpa using hi'
theorem allIn_no {xs : List Int} {lo hi x : Int} {k : Nat} (hx : xs[k]? = some x) (hi' : ¬ inB x lo hi = true) : false = allIn xs lo hi := by
  unfold allIn
  rw [eq_comm, List.all_eq_false]
  exact ⟨x, List.mem_of_getElem? hx, by simpa using hi'⟩
theorem allIn_full {xs : List Int} {lo hi : Int} {n : Nat} (h : allIn (xs.take n) lo hi = true) (hn : xs.length = n) : true = allIn xs lo hi := by
  rw [List.take_of_length_le (by omega)] at h; exact h.symm

set_option maxHeartbeats 400000 in
theorem iAllIn_any (A : Option Addr) (n c : Nat) (xs : List Int) (lo hi : Int) (B : Nat) (w : World) (h : SlI w B A n xs) (hn : n ≤ 4294967296) :
    Calls Try.prog 96 #[.slice A n c, .int .i64 lo, .int .i64 hi] w fun e w' => e = .returned (.bool (allIn xs lo hi)) ∧ w = w' := by
  have hl := Lib.hid h.len
  have H := Lib.hid h; clear h
  go_enter Try.func96, Try.ntmps96
  go_wp2
  go_loop [11] (fun i => ∃ k : Nat, k ≤ n ∧ i = .int .i64 k ∧ allIn (xs.take k) lo hi = true) (fun i => n - (intOf i).toNat)
  case atStart => exact ⟨0, by omega, rfl, rfl⟩
  case round =>
    obtain ⟨k, hk, rfl, ha⟩ := hrel
    have HA := Lib.hid ha; clear ha
    by_cases hlt : k < n
    · obtain ⟨b, off, x, rfl, hbB, hx, hc⟩ := H.out.at_ hlt
      by_cases hin : inB x lo hi = true
      · go_wp2_with (first | (go_at_call 91; refine (iIn_any _ _ _ _).mono ?_; rintro e w' ⟨rfl, rfl⟩))
        go_round
        case rel => exact ⟨k + 1, by omega, by go_num, allIn_take HA.out hx.out hin⟩
        case measure => simp [intOf]; omega
      · go_wp2_with (first | (go_at_call 91; refine (iIn_any _ _ _ _).mono ?_; rintro e w' ⟨rfl, rfl⟩))
        go_ret
        exact ⟨ret_bool (allIn_no hx.out hin), rfl⟩
    · obtain rfl : n = k := by omega
      go_wp2
      go_ret
      exact ⟨ret_bool (allIn_full HA.out hl.out), rfl⟩
theorem iCosts_any (A : Option Addr) (n c : Nat) (xs : List Int) (B : Nat) (w : World) (h : SlI w B A n xs) (hn : n ≤ 4294967296) :
    Calls Try.prog 80 #[.slice A n c] w fun e w' => e = .returned (.bool (allIn xs 0 1000)) ∧ w = w' := by
  have H := Lib.hid h; clear h
  go_enter Try.func80, Try.ntmps80
  go_wp2_with (first | (go_at_call 96; refine (iAllIn_any _ _ _ _ _ _ _ _ H.out hn).mono ?_; rintro e w' ⟨rfl, rfl⟩))
  go_ret
  exact ⟨rfl, rfl⟩
end Go.Proofs.Ytkfmjnefbimecaa
