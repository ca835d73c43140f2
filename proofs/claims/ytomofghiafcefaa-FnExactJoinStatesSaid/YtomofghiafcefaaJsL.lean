/- JoinStates of both programs, whole, as the law wants them. -/
import Derived.Test.YtomofghiafcefaaJsJ
import Derived.Test.YtomofghiafcefaaJsS

namespace Go.Proofs.Ytomofghiafcefaa
open Go.RowKit
set_option linter.unusedVariables false
theorem js_lens {S T : Int} {P Q R : List F32} {i k : Int} (h : jsOk S T P Q R i k = true) : (jsP S P i k).length ≤ 1048576 ∧ (jsQ S T P Q R i k).length ≤ 1048576 ∧ (jsR S T P Q R i k).length ≤ 1048576 := by
  have hv := (Bool.and_eq_true_iff.1 h).2
  obtain ⟨s, t, -, -, p1, p2, p3, p4, p5, p6, p7, -⟩ := vdM_tb hv
  have h1 : s * s ≤ 5 * 5 := Nat.mul_le_mul p2 p2
  have h2 : s * t ≤ 5 * 4 := Nat.mul_le_mul p2 p4
  omega
theorem jsP_len (S T : Int) (P Q R : List F32) (i k : Int) : (ckL (jsOk S T P Q R i k) (jsP S P i k)).length ≤ 1048576 := ckL_len fun h => (js_lens h).1
theorem jsQ_len (S T : Int) (P Q R : List F32) (i k : Int) : (ckL (jsOk S T P Q R i k) (jsQ S T P Q R i k)).length ≤ 1048576 := ckL_len fun h => (js_lens h).2.1
theorem jsR_len (S T : Int) (P Q R : List F32) (i k : Int) : (ckL (jsOk S T P Q R i k) (jsR S T P Q R i k)).length ≤ 1048576 := ckL_len fun h => (js_lens h).2.2
theorem iJoin_any (v : Value) (S T : Int) (P Q R : List F32) (i k : Int) (w : World) (h : Md w w.heap.size v S T P Q R) (hcap : capOk v) :
    Calls Try.prog 15 #[v, .int .i64 i, .int .i64 k] w (JsPost S T P Q R i k w) := by
  obtain ⟨A2, n2, c2, A3, n3, c3, A4, n4, c4, rfl, h2, h3, h4⟩ := h
  obtain ⟨S_, T_, A2_, n2_, c2_, A3_, n3_, c3_, A4_, n4_, c4_, e, k2, k2', k3, k3', k4, k4'⟩ := hcap
  simp only [Value.agg.injEq, Array.mk.injEq, List.cons.injEq, Value.slice.injEq, and_true] at e
  obtain ⟨-, -, ⟨-, e2, e3⟩, ⟨-, e4, e5⟩, ⟨-, e6, e7⟩⟩ := e
  subst e2 e3 e4 e5 e6 e7
  cases hr : rsR S T P Q R nC 200 with
  | none => exact iJoin_no1 S T P Q R i k A2 n2 c2 A3 n3 c3 A4 n4 c4 w h2 h3 h4 k2 k2' k3 k3' k4 k4' hr
  | some XK =>
    obtain ⟨X, K⟩ := XK
    obtain ⟨hvd, -⟩ := rsR_some hr
    obtain ⟨s, t, rfl, rfl, p1, p2, p3, p4, p5, p6, p7, -⟩ := vdM_tb hvd
    cases q1 : inB i 0 ((s : Int) - 1) with
    | false => exact iJoin_no2 s t P Q R i k A2 n2 c2 A3 n3 c3 A4 n4 c4 w h2 h3 h4 k2 k2' k3 k3' k4 k4' X K hr q1
    | true =>
      have hi := inB_true q1
      obtain ⟨i, rfl⟩ : ∃ z : Nat, i = (z : Int) := ⟨i.toNat, by omega⟩
      cases q2 : inB k ((i : Int) + 1) ((s : Int) - 1) with
      | false => exact iJoin_no3 s t P Q R (i : Int) k A2 n2 c2 A3 n3 c3 A4 n4 c4 w h2 h3 h4 k2 k2' k3 k3' k4 k4' X K hr q1 q2
      | true =>
        have hk := inB_true q2
        obtain ⟨k, rfl⟩ : ∃ z : Nat, k = (z : Int) := ⟨k.toNat, by omega⟩
        have hik : i < k := by omega
        have hks : k < s := by omega
        cases hg : gtB (fop .add (atF X i) (atF X k)) with
        | false => exact iJoin_no4 s t P Q R i k A2 n2 c2 A3 n3 c3 A4 n4 c4 w h2 h3 h4 k2 k2' k3 k3' k4 k4' X K hr hik hks hg
        | true =>
          obtain ⟨b2, f2, rfl⟩ := slF_some h2 (by rw [← h2.len]; omega)
          obtain ⟨b3, f3, rfl⟩ := slF_some h3 (by rw [← h3.len, p6]; exact Nat.mul_pos p1 p1)
          obtain ⟨b4, f4, rfl⟩ := slF_some h4 (by rw [← h4.len, p7]; exact Nat.mul_pos p1 p3)
          exact iJoin_yes s t P Q R i k b2 f2 n2 c2 b3 f3 n3 c3 b4 f4 n4 c4 w h2 h3 h4 k2 k2' k3 k3' k4 k4' X K hr hik hks hg
theorem iJoinL_any (v : Value) (S T : Int) (P Q R : List F32) (i k : Int) (w : World) (h : Md w w.heap.size v S T P Q R) (hcap : capOk v) :
    Calls Try.prog 15 #[v, .int .i64 i, .int .i64 k] w fun e w' => ∃ v', e = .returned (.tuple #[v', .bool (jsOk S T P Q R i k)]) ∧ MdW w' w.heap.size v' (ckI (jsOk S T P Q R i k) (S - 1)) (ckI (jsOk S T P Q R i k) T) (ckL (jsOk S T P Q R i k) (jsP S P i k)) (ckL (jsOk S T P Q R i k) (jsQ S T P Q R i k)) (ckL (jsOk S T P Q R i k) (jsR S T P Q R i k)) ∧ Below w.heap.size w w' :=
  iJoin_any v S T P Q R i k w h hcap
theorem sJoin_any (v : Value) (S T : Int) (P Q R : List F32) (i k : Int) (w : World) (h : Md w w.heap.size v S T P Q R) (hcap : capOk v) :
    Calls Try.prog 14 #[v, .int .i64 i, .int .i64 k] w (JsPost S T P Q R i k w) := by
  obtain ⟨A2, n2, c2, A3, n3, c3, A4, n4, c4, rfl, h2, h3, h4⟩ := h
  obtain ⟨S_, T_, A2_, n2_, c2_, A3_, n3_, c3_, A4_, n4_, c4_, e, k2, k2', k3, k3', k4, k4'⟩ := hcap
  simp only [Value.agg.injEq, Array.mk.injEq, List.cons.injEq, Value.slice.injEq, and_true] at e
  obtain ⟨-, -, ⟨-, e2, e3⟩, ⟨-, e4, e5⟩, ⟨-, e6, e7⟩⟩ := e
  subst e2 e3 e4 e5 e6 e7
  cases hr : rsR S T P Q R nC 200 with
  | none => exact sJoin_no1 S T P Q R i k A2 n2 c2 A3 n3 c3 A4 n4 c4 w h2 h3 h4 k2 k2' k3 k3' k4 k4' hr
  | some XK =>
    obtain ⟨X, K⟩ := XK
    obtain ⟨hvd, -⟩ := rsR_some hr
    obtain ⟨s, t, rfl, rfl, p1, p2, p3, p4, p5, p6, p7, -⟩ := vdM_tb hvd
    cases q1 : inB i 0 ((s : Int) - 1) with
    | false => exact sJoin_no2 s t P Q R i k A2 n2 c2 A3 n3 c3 A4 n4 c4 w h2 h3 h4 k2 k2' k3 k3' k4 k4' X K hr q1
    | true =>
      have hi := inB_true q1
      obtain ⟨i, rfl⟩ : ∃ z : Nat, i = (z : Int) := ⟨i.toNat, by omega⟩
      cases q2 : inB k 0 ((s : Int) - 1) with
      | false => exact sJoin_no3 s t P Q R (i : Int) k A2 n2 c2 A3 n3 c3 A4 n4 c4 w h2 h3 h4 k2 k2' k3 k3' k4 k4' X K hr q1 q2
      | true =>
        have hk := inB_true q2
        by_cases hki : k ≤ (i : Int)
        · exact sJoin_no4 s t P Q R (i : Int) k A2 n2 c2 A3 n3 c3 A4 n4 c4 w h2 h3 h4 k2 k2' k3 k3' k4 k4' X K hr q1 q2 hki
        obtain ⟨k, rfl⟩ : ∃ z : Nat, k = (z : Int) := ⟨k.toNat, by omega⟩
        have hik : i < k := by omega
        have hks : k < s := by omega
        cases hg : gtB (fop .add (atF X i) (atF X k)) with
        | false => exact sJoin_no5 s t P Q R i k A2 n2 c2 A3 n3 c3 A4 n4 c4 w h2 h3 h4 k2 k2' k3 k3' k4 k4' X K hr hik hks hg
        | true =>
          obtain ⟨b2, f2, rfl⟩ := slF_some h2 (by rw [← h2.len]; omega)
          obtain ⟨b3, f3, rfl⟩ := slF_some h3 (by rw [← h3.len, p6]; exact Nat.mul_pos p1 p1)
          obtain ⟨b4, f4, rfl⟩ := slF_some h4 (by rw [← h4.len, p7]; exact Nat.mul_pos p1 p3)
          exact sJoin_yes s t P Q R i k b2 f2 n2 c2 b3 f3 n3 c3 b4 f4 n4 c4 w h2 h3 h4 k2 k2' k3 k3' k4 k4' X K hr hik hks hg
theorem sJoinL_any (v : Value) (S T : Int) (P Q R : List F32) (i k : Int) (w : World) (h : Md w w.heap.size v S T P Q R) (hcap : capOk v) :
    Calls Try.prog 14 #[v, .int .i64 i, .int .i64 k] w fun e w' => ∃ v', e = .returned (.tuple #[v', .bool (jsOk S T P Q R i k)]) ∧ MdW w' w.heap.size v' (ckI (jsOk S T P Q R i k) (S - 1)) (ckI (jsOk S T P Q R i k) T) (ckL (jsOk S T P Q R i k) (jsP S P i k)) (ckL (jsOk S T P Q R i k) (jsQ S T P Q R i k)) (ckL (jsOk S T P Q R i k) (jsR S T P Q R i k)) ∧ Below w.heap.size w w' :=
  sJoin_any v S T P Q R i k w h hcap
end Go.Proofs.Ytomofghiafcefaa
