/- CostOf of the program: whole. -/
import Derived.Test.YtchacfienafhlaaCoW
namespace Go.Proofs.Ytchacfienafhlaa
open Go.RowKit
set_option linter.unusedVariables false
def wordB (xs : List Int) (T : Int) : Bool := inB T 1 4 && (decide (xs.length ≤ 12) && allIn xs 0 (T - 1))
set_option maxHeartbeats 1000000 in
theorem iIsWord_any (A : Option Addr) (n c : Nat) (xs : List Int) (T : Int) (w : World) (h : SlI w w.heap.size A n xs) (hn : n ≤ 4294967296) :
    Calls Try.prog 62 #[.slice A n c, .int .i64 T] w fun e w' => e = .returned (.bool (wordB xs T)) ∧ w = w' := by
  have hl := h.len
  have hdef : wordB xs T = (inB T 1 4 && (decide (n ≤ 12) && allIn xs 0 (T - 1))) := by unfold wordB; rw [hl]
  have W1 := iIn_any T 1 4
  have HD := Lib.hid hdef; have H := Lib.hid h
  clear hdef h hl
  cases q1 : inB T 1 4 with
  | false =>
    rw [q1] at W1 HD
    clear q1
    go_enter Try.func62, Try.ntmps62
    go_wp2_with fail
    refine (W1 _).mono ?_; rintro e w' ⟨rfl, hw⟩; obtain rfl := hw; clear W1
    go_wp2_with fail
    go_ret
    exact ⟨ret_bool HD.out.symm, rfl⟩
  | true =>
    have hT := inB_true q1
    rw [q1] at W1 HD
    clear q1
    have w1 : IntKind.i64.wrap (T - 1) = T - 1 := IntWalk.i64_in _ (by omega)
    by_cases q2 : n ≤ 12
    · rw [decide_eq_true q2] at HD
      have hA := iAllIn_any A n c xs 0 (T - 1) w.heap.size w H.out hn
      have q3 : (n : Int) ≤ 12 := by omega
      clear q2
      go_enter Try.func62, Try.ntmps62
      go_wp2_with fail
      refine (W1 _).mono ?_; rintro e w' ⟨rfl, hw⟩; obtain rfl := hw; clear W1
      go_wp2_with fail
      refine hA.mono ?_; rintro e w' ⟨rfl, hw⟩; obtain rfl := hw; clear hA
      go_wp2_with fail
      go_ret
      exact ⟨ret_bool HD.out.symm, rfl⟩
    · rw [decide_eq_false q2] at HD
      have q3 : (12 : Int) < (n : Int) := by omega
      have q4 : decide ((n : Int) ≤ 12) = false := decide_eq_false (by omega)
      clear q2
      go_enter Try.func62, Try.ntmps62
      go_wp2_with fail
      refine (W1 _).mono ?_; rintro e w' ⟨rfl, hw⟩; obtain rfl := hw; clear W1
      go_wp2_with fail
      go_ret
      exact ⟨ret_bool HD.out.symm, rfl⟩
theorem wordB_len {xs : List Int} {T : Int} (h : wordB xs T = true) : xs.length ≤ 12 := by
  unfold wordB at h
  rw [Bool.and_eq_true, Bool.and_eq_true] at h
  exact of_decide_eq_true h.2.1
theorem vm_okM {S T : Int} {L : List A4} {P E : List Int} (h : vmB S T L P E = true) : okM P.length L ∧ (∀ x ∈ P, x ≤ 1000) ∧ (∀ x ∈ E, x ≤ 1000) ∧ 0 < P.length ∧ P.length = E.length ∧ P.length ≤ 16 ∧ L.length ≤ 128 ∧ S = (P.length : Int) ∧ 1 ≤ T ∧ T ≤ 4 := by
  obtain ⟨qS, qT, qL, qA, qP, qE⟩ := vmB_true h
  obtain ⟨qP1, qP2⟩ := mkB_true qP
  obtain ⟨qE1, qE2⟩ := mkB_true qE
  refine ⟨fun a ha => ?_, fun x hx => (qP2 x hx).2, fun x hx => (qE2 x hx).2, by omega, by omega, by omega, qL, by omega, qT.1, qT.2⟩
  have := okAm_true (qA a ha)
  omega
/-- Whether CostOf answers, and what. -/
def coB (S T : Int) (L : List A4) (P E xs : List Int) : Bool := vmB S T L P E && wordB xs T
def coR (F S T : Int) (L : List A4) (P E xs : List Int) : Int := if coB S T L P E xs then coV F L P E xs else 0
end Go.Proofs.Ytchacfienafhlaa
