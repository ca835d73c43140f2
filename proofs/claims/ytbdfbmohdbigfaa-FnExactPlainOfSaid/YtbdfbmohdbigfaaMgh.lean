/- Several texts in one: Words: IsWord of both programs. CostOf of the program: whole. -/
import Derived.Test.YtbdfbmohdbigfaaMgc
import Derived.Deep.LoopGhost
import Derived.Test.YtbdfbmohdbigfaaCoW

namespace Go.Proofs.Ytbdfbmohdbigfaa
open Go.RowKit
set_option linter.unusedVariables false
theorem allIn_take_no {xs : List Int} {lo hi x : Int} {k : Nat} (hx : xs[k]? = some x) (h : inB x lo hi = false) : allIn xs lo hi = false := by
  unfold allIn
  rw [List.all_eq_false]
  exact ⟨x, List.mem_of_getElem? hx, by rw [h]; simp⟩
def wordB (xs : List Int) (T : Int) : Bool := inB T 1 4 && (decide (xs.length ≤ 12) && allIn xs 0 (T - 1))
set_option maxHeartbeats 1000000 in
theorem iIsWord_any (A : Option Addr) (n c : Nat) (xs : List Int) (T : Int) (w : World) (h : SlI w w.heap.size A n xs) (hn : n ≤ 4294967296) :
    Calls Try.prog 44 #[.slice A n c, .int .i64 T] w fun e w' => e = .returned (.bool (wordB xs T)) ∧ w = w' := by
  have hl := h.len
  have hdef : wordB xs T = (inB T 1 4 && (decide (n ≤ 12) && allIn xs 0 (T - 1))) := by unfold wordB; rw [hl]
  have W1 := iIn_any T 1 4
  have HD := Lib.hid hdef; have H := Lib.hid h
  clear hdef h hl
  cases q1 : inB T 1 4 with
  | false =>
    rw [q1] at W1 HD
    clear q1
    go_enter Try.func44, Try.ntmps44
    go_wp2_with fail
    refine (W1 _).mono ?_; rintro e w' ⟨rfl, hw⟩; obtain rfl := hw; clear W1
    go_wp2_with fail
    go_ret
    exact ⟨ret_bool HD.out.symm, rfl⟩
  | true =>
    have hT := inB_true q1
    rw [q1] at W1 HD
    clear q1
    have w1 : IntKind.i64.wrap (T - 1) = T - 1 := IntWalk.i64_in _ (by omega)
    by_cases q2 : n ≤ 12
    · rw [decide_eq_true q2] at HD
      have hA := iAllIn_any A n c xs 0 (T - 1) w.heap.size w H.out hn
      have q3 : (n : Int) ≤ 12 := by omega
      clear q2
      go_enter Try.func44, Try.ntmps44
      go_wp2_with fail
      refine (W1 _).mono ?_; rintro e w' ⟨rfl, hw⟩; obtain rfl := hw; clear W1
      go_wp2_with fail
      refine hA.mono ?_; rintro e w' ⟨rfl, hw⟩; obtain rfl := hw; clear hA
      go_wp2_with fail
      go_ret
      exact ⟨ret_bool HD.out.symm, rfl⟩
    · rw [decide_eq_false q2] at HD
      have q3 : (12 : Int) < (n : Int) := by omega
      have q4 : decide ((n : Int) ≤ 12) = false := decide_eq_false (by omega)
      clear q2
      go_enter Try.func44, Try.ntmps44
      go_wp2_with fail
      refine (W1 _).mono ?_; rintro e w' ⟨rfl, hw⟩; obtain rfl := hw; clear W1
      go_wp2_with fail
      go_ret
      exact ⟨ret_bool HD.out.symm, rfl⟩
theorem wordB_len {xs : List Int} {T : Int} (h : wordB xs T = true) : xs.length ≤ 12 := by
  unfold wordB at h
  rw [Bool.and_eq_true, Bool.and_eq_true] at h
  exact of_decide_eq_true h.2.1
end Go.Proofs.Ytbdfbmohdbigfaa


namespace Go.Proofs.Ytbdfbmohdbigfaa
open Go.RowKit
set_option linter.unusedVariables false
theorem vm_okM {S T : Int} {L : List A4} {P E : List Int} (h : vmB S T L P E = true) : okM P.length L ∧ (∀ x ∈ P, x ≤ 1000) ∧ (∀ x ∈ E, x ≤ 1000) ∧ 0 < P.length ∧ P.length = E.length ∧ P.length ≤ 16 ∧ L.length ≤ 128 ∧ S = (P.length : Int) ∧ 1 ≤ T ∧ T ≤ 4 := by
  obtain ⟨qS, qT, qL, qA, qP, qE⟩ := vmB_true h
  obtain ⟨qP1, qP2⟩ := mkB_true qP
  obtain ⟨qE1, qE2⟩ := mkB_true qE
  refine ⟨fun a ha => ?_, fun x hx => (qP2 x hx).2, fun x hx => (qE2 x hx).2, by omega, by omega, by omega, qL, by omega, qT.1, qT.2⟩
  have := okAm_true (qA a ha)
  omega
/-- Whether CostOf answers, and what. -/
def coB (S T : Int) (L : List A4) (P E xs : List Int) : Bool := vmB S T L P E && wordB xs T
def coR (F S T : Int) (L : List A4) (P E xs : List Int) : Int := if coB S T L P E xs then coV F L P E xs else 0
set_option maxRecDepth 100000 in
set_option maxHeartbeats 2000000 in
theorem iCostOf_any (v : Value) (S T : Int) (L : List A4) (P E : List Int) (A : Option Addr) (n c : Nat) (xs : List Int) (w : World) (h : Mc w w.heap.size v S T L P E) (hx : SlI w w.heap.size A n xs) (hL : L.length ≤ 1048576) (hP : P.length ≤ 1048576) (hE : E.length ≤ 1048576) (hn : n ≤ 4294967296) :
    Calls Try.prog 12 #[v, .slice A n c] w fun e w' => e = .returned (.tuple #[.int .i64 (coR 1099511627776 S T L P E xs), .bool (coB S T L P E xs)]) ∧ Below w.heap.size w w' := by
  obtain ⟨A2, n2, c2, A3, n3, c3, A4', n4, c4, rfl, h2, h3, h4⟩ := h
  have rb := Row.new w 28 (BxM S T A2 n2 c2 A3 n3 c3 A4' n4 c4)
  have bx : Below w.heap.size w (w.alloc (.cells (BxM S T A2 n2 c2 A3 n3 c3 A4' n4 c4).toArray 28)) := (Below.refl _ _).alloc (Nat.le_refl _) _
  have HX := Lib.hid ((hx.below bx (Nat.le_refl _)).more bx.size)
  have HM : Hid (Mc (w.alloc (.cells (BxM S T A2 n2 c2 A3 n3 c3 A4' n4 c4).toArray 28)) (w.alloc (.cells (BxM S T A2 n2 c2 A3 n3 c3 A4' n4 c4).toArray 28)).heap.size (.agg #[.int .i64 S, .int .i64 T, .slice A2 n2 c2, .slice A3 n3 c3, .slice A4' n4 c4]) S T L P E) := ⟨_, _, _, _, _, _, _, _, _, rfl, (h2.below bx (Nat.le_refl _)).more bx.size, (h3.below bx (Nat.le_refl _)).more bx.size, (h4.below bx (Nat.le_refl _)).more bx.size⟩
  have RB := Lib.hid rb; have BX := Lib.hid bx
  clear h2 h3 h4 rb bx hx
  have r0 := RB.out.cell 0; have r1 := RB.out.cell 1; have r2 := RB.out.cell 2; have r3 := RB.out.cell 3; have r4 := RB.out.cell 4
  go_enter Try.func12, Try.ntmps12
  go_wp2_with fail
  clear r0 r1 r2 r3 r4
  obtain ⟨w0, hw0⟩ : ∃ x, x = w.alloc (.cells (BxM S T A2 n2 c2 A3 n3 c3 A4' n4 c4).toArray 28) := ⟨_, rfl⟩
  rw [← hw0] at HX HM RB BX
  change Calls _ _ _ (w.alloc (.cells (BxM S T A2 n2 c2 A3 n3 c3 A4' n4 c4).toArray 28)) _
  rw [← hw0]
  clear hw0
  refine (iValidMachine_any _ S T L P E w0 HM.out (by omega) (by omega) (by omega)).mono ?_
  rintro e w1 ⟨rfl, hb1⟩
  have HB1 := Lib.hid hb1
  have HM1 := Lib.hid ((HM.out.below hb1 (Nat.le_refl _)).more hb1.size)
  have HX1 := Lib.hid ((HX.out.below hb1 (Nat.le_refl _)).more hb1.size)
  have RB1 := RB.out.below hb1 RB.out.lt
  have hdef : coB S T L P E xs = (vmB S T L P E && wordB xs T) := rfl
  have hdr : coR 1099511627776 S T L P E xs = if coB S T L P E xs then coV 1099511627776 L P E xs else 0 := rfl
  have HBE := Lib.hid (BX.out.trans (hb1.mono BX.out.size))
  clear hb1
  cases q1 : vmB S T L P E with
  | false =>
    rw [q1, Bool.false_and] at hdef
    rw [hdef, if_neg (by simp)] at hdr
    have HD := Lib.hid hdef; have HR := Lib.hid hdr
    clear hdef hdr RB1
    go_wp2_with fail
    go_ret2
    exact ⟨by rw [HD.out, HR.out]; rfl, HBE.out⟩
  | true =>
    obtain ⟨v1, v2, v3, v4, v5, v6, v7, v8, _, _⟩ := vm_okM q1
    have HV2 := Lib.hid v2; have HV3 := Lib.hid v3; have HV1 := Lib.hid v1; have HV5 := Lib.hid v5
    clear v1 v2 v3 v8 v5
    rw [q1, Bool.true_and] at hdef
    clear q1
    have k1 := RB1.cell 1
    have HRB := Lib.hid RB1; clear RB1
    have hI := iIsWord_any A n c xs T w1 HX1.out (by omega)
    cases q2 : wordB xs T with
    | false =>
      rw [q2] at hI
      rw [q2] at hdef
      rw [hdef, if_neg (by simp)] at hdr
      have HD := Lib.hid hdef; have HR := Lib.hid hdr
      clear hdef hdr q2
      go_wp2_with fail
      refine hI.mono ?_; rintro e w' ⟨rfl, hw⟩; obtain rfl := hw; clear hI
      go_wp2_with fail
      go_ret2
      exact ⟨by rw [HD.out, HR.out]; rfl, HBE.out⟩
    | true =>
      have hn12 : n ≤ 1000000 := by have := wordB_len q2; have := HX1.out.len; omega
      rw [q2] at hI
      rw [q2] at hdef
      rw [hdef, if_pos rfl] at hdr
      have HD := Lib.hid hdef; have HR := Lib.hid hdr
      clear hdef hdr q2
      go_wp2_with fail
      refine hI.mono ?_; rintro e w' ⟨rfl, hw⟩; obtain rfl := hw; clear hI k1
      have r0 := HRB.out.cell 0; have r1 := HRB.out.cell 1; have r2 := HRB.out.cell 2; have r3 := HRB.out.cell 3; have r4 := HRB.out.cell 4
      go_wp2_with fail
      clear r0 r1 r2 r3 r4
      refine (iCostOf0_any _ S T L P E A n c xs w1 HM1.out HX1.out HV2.out HV3.out HV1.out v4 HV5.out (by omega) (by omega) hn12).mono ?_
      rintro e w2 ⟨rfl, hb2⟩
      have HB2 := Lib.hid hb2; clear hb2
      go_wp2_with fail
      go_ret2
      exact ⟨by rw [HD.out, HR.out]; rfl, HBE.out.trans (HB2.out.mono HBE.out.size)⟩
end Go.Proofs.Ytbdfbmohdbigfaa
