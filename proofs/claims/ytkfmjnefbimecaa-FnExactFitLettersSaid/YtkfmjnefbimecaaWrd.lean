/- Words: IsWord of both programs. -/
import Derived.Test.YtkfmjnefbimecaaTxtB
import Derived.Deep.LoopGhost
namespace Go.Proofs.Ytkfmjnefbimecaa
open Go.RowKit
set_option linter.unusedVariables false
theorem allIn_take_no {xs : List Int} {lo hi x : Int} {k : Nat} (hx : xs[k]? = some x) (h : inB x lo hi = false) : allIn xs lo hi = false := by
  unfold allIn
  rw [List.all_eq_false]
  exact ⟨x, List.mem_of_getElem? hx, by rw [h]; simp⟩
def wordB (xs : List Int) (T : Int) : Bool := inB T 1 4 && (decide (xs.length ≤ 12) && allIn xs 0 (T - 1))
set_option maxHeartbeats 1000000 in
theorem iIsWord_any (A : Option Addr) (n c : Nat) (xs : List Int) (T : Int) (w : World) (h : SlI w w.heap.size A n xs) (hn : n ≤ 4294967296) :
    Calls Try.prog 52 #[.slice A n c, .int .i64 T] w fun e w' => e = .returned (.bool (wordB xs T)) ∧ w = w' := by
  have hl := h.len
  have hdef : wordB xs T = (inB T 1 4 && (decide (n ≤ 12) && allIn xs 0 (T - 1))) := by unfold wordB; rw [hl]
  have W1 := iIn_any T 1 4
  have HD := Lib.hid hdef; have H := Lib.hid h
  clear hdef h hl
  cases q1 : inB T 1 4 with
  | false =>
    rw [q1] at W1 HD
    clear q1
    go_enter Try.func52, Try.ntmps52
    go_wp2_with fail
    refine (W1 _).mono ?_; rintro e w' ⟨rfl, hw⟩; obtain rfl := hw; clear W1
    go_wp2_with fail
    go_ret
    exact ⟨ret_bool HD.out.symm, rfl⟩
  | true =>
    have hT := inB_true q1
    rw [q1] at W1 HD
    clear q1
    have w1 : IntKind.i64.wrap (T - 1) = T - 1 := IntWalk.i64_in _ (by omega)
    by_cases q2 : n ≤ 12
    · rw [decide_eq_true q2] at HD
      have hA := iAllIn_any A n c xs 0 (T - 1) w.heap.size w H.out hn
      have q3 : (n : Int) ≤ 12 := by omega
      clear q2
      go_enter Try.func52, Try.ntmps52
      go_wp2_with fail
      refine (W1 _).mono ?_; rintro e w' ⟨rfl, hw⟩; obtain rfl := hw; clear W1
      go_wp2_with fail
      refine hA.mono ?_; rintro e w' ⟨rfl, hw⟩; obtain rfl := hw; clear hA
      go_wp2_with fail
      go_ret
      exact ⟨ret_bool HD.out.symm, rfl⟩
    · rw [decide_eq_false q2] at HD
      have q3 : (12 : Int) < (n : Int) := by omega
      have q4 : decide ((n : Int) ≤ 12) = false := decide_eq_false (by omega)
      clear q2
      go_enter Try.func52, Try.ntmps52
      go_wp2_with fail
      refine (W1 _).mono ?_; rintro e w' ⟨rfl, hw⟩; obtain rfl := hw; clear W1
      go_wp2_with fail
      go_ret
      exact ⟨ret_bool HD.out.symm, rfl⟩
theorem wordB_len {xs : List Int} {T : Int} (h : wordB xs T = true) : xs.length ≤ 12 := by
  unfold wordB at h
  rw [Bool.and_eq_true, Bool.and_eq_true] at h
  exact of_decide_eq_true h.2.1
set_option maxHeartbeats 1000000 in
theorem sWord_any (A : Option Addr) (n c : Nat) (xs : List Int) (T : Int) (w : World) (h : SlI w w.heap.size A n xs) (hn : n ≤ 4294967296) (hT : 1 ≤ T ∧ T ≤ 4) :
    Calls Try.prog 110 #[.slice A n c, .int .i64 T] w fun e w' => e = .returned (.bool (wordB xs T)) ∧ Below w.heap.size w w' := by
  have hl := h.len
  have hdef : wordB xs T = (inB T 1 4 && (decide (n ≤ 12) && allIn xs 0 (T - 1))) := by unfold wordB; rw [hl]
  rw [show inB T 1 4 = true from decide_eq_true hT, Bool.true_and] at hdef
  have HD := Lib.hid hdef; have H := Lib.hid h; have HLN := Lib.hid hl
  clear hdef h hl
  obtain ⟨t0, t1⟩ := hT
  go_enter Try.func110, Try.ntmps110
  go_wp2_with fail
  go_loopg [5] n (fun m i wr => ∃ k : Nat, i = .int .i64 k ∧ k ≤ n ∧ n ≤ m + k ∧ Hid (allIn (xs.take k) 0 (T - 1) = true) ∧ w = wr)
  case atStart => exact ⟨0, rfl, by omega, by omega, rfl, rfl⟩
  case round =>
    obtain ⟨k, rfl, hk, hm, HA, hw⟩ := hrel
    obtain rfl := hw
    by_cases hlt : k < n
    · obtain ⟨b, off, x, rfl, _, hx, kx⟩ := H.out.at_ hlt
      have q1 : (k : Int) < (n : Int) := by omega
      have w1 : IntKind.i64.wrap (T - 1) = T - 1 := IntWalk.i64_in _ (by omega)
      have hI := sIn_any x 0 (T - 1)
      cases hq : inB x 0 (T - 1) with
      | false =>
        rw [hq] at hI
        have HN : Hid (wordB xs T = false) := by show _ = _; rw [HD.out, allIn_take_no hx.out hq, Bool.and_false]
        clear hq
        go_wp2_with fail
        refine (hI _).mono ?_; rintro e w' ⟨rfl, hw⟩; obtain rfl := hw; clear hI
        go_wp2_with fail
        go_ret
        exact ⟨ret_bool HN.out.symm, Below.refl _ _⟩
      | true =>
        rw [hq] at hI
        have HN := Lib.hid (allIn_take HA.out hx.out hq)
        clear hq
        go_wp2_with fail
        refine (hI _).mono ?_; rintro e w' ⟨rfl, hw⟩; obtain rfl := hw; clear hI
        go_wp2_with fail
        go_roundg (gk - 1)
        case measure => omega
        case rel => exact ⟨k + 1, by go_num, by omega, by omega, HN.out, rfl⟩
    · have hkk : k = n := by omega
      have HK : Hid (allIn xs 0 (T - 1) = true) := by
        have := HA.out
        rw [hkk, ← HLN.out, List.take_length] at this; exact this
      have q1 : (n : Int) ≤ (k : Int) := by omega
      clear hkk hlt
      go_wp2_with fail
      go_ret
      exact ⟨ret_bool (by rw [HD.out, HK.out, Bool.and_true]; exact decide_eq_decide.2 (by omega)), Below.refl _ _⟩
end Go.Proofs.Ytkfmjnefbimecaa
