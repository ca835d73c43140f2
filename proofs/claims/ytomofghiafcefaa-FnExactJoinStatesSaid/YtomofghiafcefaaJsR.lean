/- JoinStates of the reference: the false answers. -/
import Derived.Test.YtomofghiafcefaaJsM
import Derived.Test.YtomofghiafcefaaM3
import Derived.Deep.RegionHeld3
import Derived.Deep.CutRange
import Derived.Deep.RegionLaw
import Derived.Deep.DrawnRows
import Derived.Deep.QuietTactic
import Derived.BigQuiet

namespace Go.Proofs.Ytomofghiafcefaa
open Go.RowKit
set_option linter.unusedVariables false
attribute [local go_sem ↓] Go.wp_at_zero Go.wp_at_succ
set_option maxRecDepth 100000 in
set_option maxHeartbeats 4000000 in
theorem sJoin_no1 (S T : Int) (P Q R : List F32) (i k : Int) (A2 : Option Addr) (n2 c2 : Nat) (A3 : Option Addr) (n3 c3 : Nat) (A4 : Option Addr) (n4 c4 : Nat) (w : World) (h2 : SlF w w.heap.size A2 n2 P) (h3 : SlF w w.heap.size A3 n3 Q) (h4 : SlF w w.heap.size A4 n4 R) (k2 : n2 ≤ c2) (k2' : c2 ≤ 9223372036854775807) (k3 : n3 ≤ c3) (k3' : c3 ≤ 9223372036854775807) (k4 : n4 ≤ c4) (k4' : c4 ≤ 9223372036854775807) (hr : rsR S T P Q R nC 200 = none) :
    Calls Try.prog 14 #[.agg #[.int .i64 S, .int .i64 T, .slice A2 n2 c2, .slice A3 n3 c3, .slice A4 n4 c4], .int .i64 i, .int .i64 k] w (JsPost S T P Q R i k w) := by
  have rb := (Row.new w 29 [.int .i64 S, .int .i64 T, .slice A2 n2 c2, .slice A3 n3 c3, .slice A4 n4 c4]).alloc (.cells ([.int .i64 0, .int .i64 0, .slice none 0 0, .slice none 0 0, .slice none 0 0] : List Value).toArray 29)
  have rr := Row.new (w.alloc (.cells ([.int .i64 S, .int .i64 T, .slice A2 n2 c2, .slice A3 n3 c3, .slice A4 n4 c4] : List Value).toArray 29)) 29 [.int .i64 0, .int .i64 0, .slice none 0 0, .slice none 0 0, .slice none 0 0]
  rw [show (w.alloc (.cells ([.int .i64 S, .int .i64 T, .slice A2 n2 c2, .slice A3 n3 c3, .slice A4 n4 c4] : List Value).toArray 29)).heap.size = w.heap.size + 1 by simp] at rr
  have bx : Below w.heap.size w ((w.alloc (.cells ([.int .i64 S, .int .i64 T, .slice A2 n2 c2, .slice A3 n3 c3, .slice A4 n4 c4] : List Value).toArray 29)).alloc (.cells ([.int .i64 0, .int .i64 0, .slice none 0 0, .slice none 0 0, .slice none 0 0] : List Value).toArray 29)) := ((Below.refl _ _).alloc (Nat.le_refl _) _).alloc (by simp) _
  have hsz : ((w.alloc (.cells ([.int .i64 S, .int .i64 T, .slice A2 n2 c2, .slice A3 n3 c3, .slice A4 n4 c4] : List Value).toArray 29)).alloc (.cells ([.int .i64 0, .int .i64 0, .slice none 0 0, .slice none 0 0, .slice none 0 0] : List Value).toArray 29)).heap.size = w.heap.size + 2 := by simp
  have C := sRest_any (.agg #[.int .i64 S, .int .i64 T, .slice A2 n2 c2, .slice A3 n3 c3, .slice A4 n4 c4]) S T P Q R nC 200 _ ⟨_, _, _, _, _, _, _, _, _, rfl, (h2.below bx (Nat.le_refl _)).more bx.size, (h3.below bx (Nat.le_refl _)).more bx.size, (h4.below bx (Nat.le_refl _)).more bx.size⟩ ⟨_, _, _, _, _, _, _, _, _, _, _, rfl, k2, k2', k3, k3', k4, k4'⟩
  rw [hr] at C
  have C := C.mono (fun e w' h => show ∃ v, e = .returned (.tuple #[v, .int .i64 0, .bool false]) ∧ RowFl w' _ v [] ∧ Below _ _ w' from h)
  have HNO : Hid (jsB S T P Q R i k = false) := by show _ = _; unfold jsB; rw [hr]; rfl
  clear hr
  have RB := Lib.hid rb; have RR := Lib.hid rr; have BX := Lib.hid bx; have HSZ := Lib.hid hsz
  have r0 := rb.cell 0; have r1 := rb.cell 1; have r2 := rb.cell 2; have r3 := rb.cell 3; have r4 := rb.cell 4
  have C := Lib.hid C
  clear rb rr bx hsz h2 h3 h4 k2 k2' k3 k3' k4 k4'
  go_enter Try.func14, Try.ntmps14
  go_wp2_with (go_at_call 6; refine C.out.mono ?_; rintro e w1 ⟨vr, rfl, hfl, hb1⟩; have RB1 := Lib.hid (RB.out.below hb1 RB.out.lt); have RR1 := Lib.hid (RR.out.below hb1 RR.out.lt); have BX1 := Lib.hid (BX.out.trans (hb1.mono BX.out.size)); clear r0 r1 r2 r3 r4; have z0 := RB1.out.cell 0; have y0 := RR1.out.cell 0; have y1 := RR1.out.cell 1; have y2 := RR1.out.cell 2; have y3 := RR1.out.cell 3; have y4 := RR1.out.cell 4; have f0 := RR1.out.frozen 0; have f1 := RR1.out.frozen 1; have f2 := RR1.out.frozen 2; have f3 := RR1.out.frozen 3; have f4 := RR1.out.frozen 4; clear C hb1 hfl)
  clear y0 y1 y2 y3 y4 f0 f1 f2 f3 f4
  have hF := set5_row RR1.out (.int .i64 0) (.int .i64 0) (.slice none 0 0) (.slice none 0 0) (.slice none 0 0)
  refine bodyPost_ret (results_cell2 rfl _ _ (w.heap.size + 1) 29 #[.int .i64 0, .int .i64 0, .slice none 0 0, .slice none 0 0, .slice none 0 0] (0, 0) _ (.bool false) rfl rfl hF Try.underlying29 rfl (by kernel_rfl)) rfl ?_
  exact JsPost.no HNO.out (set5_below BX1.out (show w.heap.size ≤ w.heap.size + 1 by omega) _ _ _ _ _)

set_option maxRecDepth 100000 in
set_option maxHeartbeats 4000000 in
theorem sJoin_no2 (s t : Nat) (P Q R : List F32) (i k : Int) (A2 : Option Addr) (n2 c2 : Nat) (A3 : Option Addr) (n3 c3 : Nat) (A4 : Option Addr) (n4 c4 : Nat) (w : World) (h2 : SlF w w.heap.size A2 n2 P) (h3 : SlF w w.heap.size A3 n3 Q) (h4 : SlF w w.heap.size A4 n4 R) (k2 : n2 ≤ c2) (k2' : c2 ≤ 9223372036854775807) (k3 : n3 ≤ c3) (k3' : c3 ≤ 9223372036854775807) (k4 : n4 ≤ c4) (k4' : c4 ≤ 9223372036854775807) (X : List F32) (K : Nat) (hr : rsR (s : Int) (t : Int) P Q R nC 200 = some (X, K)) (q1 : inB i 0 ((s : Int) - 1) = false) :
    Calls Try.prog 14 #[.agg #[.int .i64 (s : Int), .int .i64 (t : Int), .slice A2 n2 c2, .slice A3 n3 c3, .slice A4 n4 c4], .int .i64 i, .int .i64 k] w (JsPost (s : Int) (t : Int) P Q R i k w) := by
  have rb := (Row.new w 29 [.int .i64 (s : Int), .int .i64 (t : Int), .slice A2 n2 c2, .slice A3 n3 c3, .slice A4 n4 c4]).alloc (.cells ([.int .i64 0, .int .i64 0, .slice none 0 0, .slice none 0 0, .slice none 0 0] : List Value).toArray 29)
  have rr := Row.new (w.alloc (.cells ([.int .i64 (s : Int), .int .i64 (t : Int), .slice A2 n2 c2, .slice A3 n3 c3, .slice A4 n4 c4] : List Value).toArray 29)) 29 [.int .i64 0, .int .i64 0, .slice none 0 0, .slice none 0 0, .slice none 0 0]
  rw [show (w.alloc (.cells ([.int .i64 (s : Int), .int .i64 (t : Int), .slice A2 n2 c2, .slice A3 n3 c3, .slice A4 n4 c4] : List Value).toArray 29)).heap.size = w.heap.size + 1 by simp] at rr
  have bx : Below w.heap.size w ((w.alloc (.cells ([.int .i64 (s : Int), .int .i64 (t : Int), .slice A2 n2 c2, .slice A3 n3 c3, .slice A4 n4 c4] : List Value).toArray 29)).alloc (.cells ([.int .i64 0, .int .i64 0, .slice none 0 0, .slice none 0 0, .slice none 0 0] : List Value).toArray 29)) := ((Below.refl _ _).alloc (Nat.le_refl _) _).alloc (by simp) _
  have hsz : ((w.alloc (.cells ([.int .i64 (s : Int), .int .i64 (t : Int), .slice A2 n2 c2, .slice A3 n3 c3, .slice A4 n4 c4] : List Value).toArray 29)).alloc (.cells ([.int .i64 0, .int .i64 0, .slice none 0 0, .slice none 0 0, .slice none 0 0] : List Value).toArray 29)).heap.size = w.heap.size + 2 := by simp
  have C := sRest_any (.agg #[.int .i64 (s : Int), .int .i64 (t : Int), .slice A2 n2 c2, .slice A3 n3 c3, .slice A4 n4 c4]) (s : Int) (t : Int) P Q R nC 200 _ ⟨_, _, _, _, _, _, _, _, _, rfl, (h2.below bx (Nat.le_refl _)).more bx.size, (h3.below bx (Nat.le_refl _)).more bx.size, (h4.below bx (Nat.le_refl _)).more bx.size⟩ ⟨_, _, _, _, _, _, _, _, _, _, _, rfl, k2, k2', k3, k3', k4, k4'⟩
  rw [hr] at C
  have C := C.mono (fun e w' h => show ∃ v, e = .returned (.tuple #[v, .int .i64 (K : Int), .bool true]) ∧ RowFl w' _ v X ∧ Below _ _ w' from h)
  obtain ⟨hvd, hrs⟩ := rsR_some hr
  have hS := vdM_tb hvd
  have hs : 1 ≤ s ∧ s ≤ 5 := by obtain ⟨s', t', e1, e2, q1, q2, -⟩ := hS; omega
  have wS : IntKind.i64.wrap ((s : Int) - 1) = (s : Int) - 1 := IntWalk.i64_in _ (by omega)
  have HNO : Hid (jsB (s : Int) (t : Int) P Q R i k = false) := by show _ = _; unfold jsB; rw [q1]; simp
  have W1 : Hid (∀ w, Calls Try.prog 20 #[.int .i64 i, .int .i64 0, .int .i64 ((s : Int) - 1)] w fun e w' => e = .returned (.bool false) ∧ w = w') := by
    show ∀ w, _
    intro w
    have h0 := sIn_any i 0 ((s : Int) - 1) w
    rw [q1] at h0
    exact h0
  have HS := Lib.hid hs; clear hr hvd hrs hS q1 hs
  have RB := Lib.hid rb; have RR := Lib.hid rr; have BX := Lib.hid bx; have HSZ := Lib.hid hsz
  have r0 := rb.cell 0; have r1 := rb.cell 1; have r2 := rb.cell 2; have r3 := rb.cell 3; have r4 := rb.cell 4
  have C := Lib.hid C
  clear rb rr bx hsz h2 h3 h4 k2 k2' k3 k3' k4 k4'
  go_enter Try.func14, Try.ntmps14
  go_wp2_with (first | (go_at_call 20; with_reducible refine (W1.out _).mono ?_; rintro e w' ⟨rfl, hw⟩; subst hw) | (go_at_call 6; refine C.out.mono ?_; rintro e w1 ⟨vr, rfl, hfl, hb1⟩; have RB1 := Lib.hid (RB.out.below hb1 RB.out.lt); have RR1 := Lib.hid (RR.out.below hb1 RR.out.lt); have BX1 := Lib.hid (BX.out.trans (hb1.mono BX.out.size)); clear r0 r1 r2 r3 r4; have z0 := RB1.out.cell 0; have y0 := RR1.out.cell 0; have y1 := RR1.out.cell 1; have y2 := RR1.out.cell 2; have y3 := RR1.out.cell 3; have y4 := RR1.out.cell 4; have f0 := RR1.out.frozen 0; have f1 := RR1.out.frozen 1; have f2 := RR1.out.frozen 2; have f3 := RR1.out.frozen 3; have f4 := RR1.out.frozen 4; clear C hb1 hfl))
  clear y0 y1 y2 y3 y4 f0 f1 f2 f3 f4
  have hF := set5_row RR1.out (.int .i64 0) (.int .i64 0) (.slice none 0 0) (.slice none 0 0) (.slice none 0 0)
  refine bodyPost_ret (results_cell2 rfl _ _ (w.heap.size + 1) 29 #[.int .i64 0, .int .i64 0, .slice none 0 0, .slice none 0 0, .slice none 0 0] (0, 0) _ (.bool false) rfl rfl hF Try.underlying29 rfl (by kernel_rfl)) rfl ?_
  exact JsPost.no HNO.out (set5_below BX1.out (show w.heap.size ≤ w.heap.size + 1 by omega) _ _ _ _ _)

set_option maxRecDepth 100000 in
set_option maxHeartbeats 4000000 in
theorem sJoin_no3 (s t : Nat) (P Q R : List F32) (i k : Int) (A2 : Option Addr) (n2 c2 : Nat) (A3 : Option Addr) (n3 c3 : Nat) (A4 : Option Addr) (n4 c4 : Nat) (w : World) (h2 : SlF w w.heap.size A2 n2 P) (h3 : SlF w w.heap.size A3 n3 Q) (h4 : SlF w w.heap.size A4 n4 R) (k2 : n2 ≤ c2) (k2' : c2 ≤ 9223372036854775807) (k3 : n3 ≤ c3) (k3' : c3 ≤ 9223372036854775807) (k4 : n4 ≤ c4) (k4' : c4 ≤ 9223372036854775807) (X : List F32) (K : Nat) (hr : rsR (s : Int) (t : Int) P Q R nC 200 = some (X, K)) (q1 : inB i 0 ((s : Int) - 1) = true) (q2 : inB k 0 ((s : Int) - 1) = false) :
    Calls Try.prog 14 #[.agg #[.int .i64 (s : Int), .int .i64 (t : Int), .slice A2 n2 c2, .slice A3 n3 c3, .slice A4 n4 c4], .int .i64 i, .int .i64 k] w (JsPost (s : Int) (t : Int) P Q R i k w) := by
  have rb := (Row.new w 29 [.int .i64 (s : Int), .int .i64 (t : Int), .slice A2 n2 c2, .slice A3 n3 c3, .slice A4 n4 c4]).alloc (.cells ([.int .i64 0, .int .i64 0, .slice none 0 0, .slice none 0 0, .slice none 0 0] : List Value).toArray 29)
  have rr := Row.new (w.alloc (.cells ([.int .i64 (s : Int), .int .i64 (t : Int), .slice A2 n2 c2, .slice A3 n3 c3, .slice A4 n4 c4] : List Value).toArray 29)) 29 [.int .i64 0, .int .i64 0, .slice none 0 0, .slice none 0 0, .slice none 0 0]
  rw [show (w.alloc (.cells ([.int .i64 (s : Int), .int .i64 (t : Int), .slice A2 n2 c2, .slice A3 n3 c3, .slice A4 n4 c4] : List Value).toArray 29)).heap.size = w.heap.size + 1 by simp] at rr
  have bx : Below w.heap.size w ((w.alloc (.cells ([.int .i64 (s : Int), .int .i64 (t : Int), .slice A2 n2 c2, .slice A3 n3 c3, .slice A4 n4 c4] : List Value).toArray 29)).alloc (.cells ([.int .i64 0, .int .i64 0, .slice none 0 0, .slice none 0 0, .slice none 0 0] : List Value).toArray 29)) := ((Below.refl _ _).alloc (Nat.le_refl _) _).alloc (by simp) _
  have hsz : ((w.alloc (.cells ([.int .i64 (s : Int), .int .i64 (t : Int), .slice A2 n2 c2, .slice A3 n3 c3, .slice A4 n4 c4] : List Value).toArray 29)).alloc (.cells ([.int .i64 0, .int .i64 0, .slice none 0 0, .slice none 0 0, .slice none 0 0] : List Value).toArray 29)).heap.size = w.heap.size + 2 := by simp
  have C := sRest_any (.agg #[.int .i64 (s : Int), .int .i64 (t : Int), .slice A2 n2 c2, .slice A3 n3 c3, .slice A4 n4 c4]) (s : Int) (t : Int) P Q R nC 200 _ ⟨_, _, _, _, _, _, _, _, _, rfl, (h2.below bx (Nat.le_refl _)).more bx.size, (h3.below bx (Nat.le_refl _)).more bx.size, (h4.below bx (Nat.le_refl _)).more bx.size⟩ ⟨_, _, _, _, _, _, _, _, _, _, _, rfl, k2, k2', k3, k3', k4, k4'⟩
  rw [hr] at C
  have C := C.mono (fun e w' h => show ∃ v, e = .returned (.tuple #[v, .int .i64 (K : Int), .bool true]) ∧ RowFl w' _ v X ∧ Below _ _ w' from h)
  obtain ⟨hvd, hrs⟩ := rsR_some hr
  have hS := vdM_tb hvd
  have hs : 1 ≤ s ∧ s ≤ 5 := by obtain ⟨s', t', e1, e2, q1, q2, -⟩ := hS; omega
  have wS : IntKind.i64.wrap ((s : Int) - 1) = (s : Int) - 1 := IntWalk.i64_in _ (by omega)
  have hi := inB_true q1
  have q3 : inB k (i + 1) ((s : Int) - 1) = false := by
    cases hq : inB k (i + 1) ((s : Int) - 1) with
    | false => rfl
    | true =>
      have h1 := inB_true hq
      have : inB k 0 ((s : Int) - 1) = true := by simp [inB]; omega
      rw [this] at q2; cases q2
  have HNO : Hid (jsB (s : Int) (t : Int) P Q R i k = false) := by show _ = _; unfold jsB; rw [q3]; simp
  have W1 : Hid (∀ w, Calls Try.prog 20 #[.int .i64 i, .int .i64 0, .int .i64 ((s : Int) - 1)] w fun e w' => e = .returned (.bool true) ∧ w = w') := by
    show ∀ w, _
    intro w
    have h0 := sIn_any i 0 ((s : Int) - 1) w
    rw [q1] at h0
    exact h0
  have W2 : Hid (∀ w, Calls Try.prog 20 #[.int .i64 k, .int .i64 0, .int .i64 ((s : Int) - 1)] w fun e w' => e = .returned (.bool false) ∧ w = w') := by
    show ∀ w, _
    intro w
    have h0 := sIn_any k 0 ((s : Int) - 1) w
    rw [q2] at h0
    exact h0
  have HS := Lib.hid hs; clear hr hvd hrs hS q1 q2 hs hi q3
  have RB := Lib.hid rb; have RR := Lib.hid rr; have BX := Lib.hid bx; have HSZ := Lib.hid hsz
  have r0 := rb.cell 0; have r1 := rb.cell 1; have r2 := rb.cell 2; have r3 := rb.cell 3; have r4 := rb.cell 4
  have C := Lib.hid C
  clear rb rr bx hsz h2 h3 h4 k2 k2' k3 k3' k4 k4'
  go_enter Try.func14, Try.ntmps14
  go_wp2_with (first | (go_at_call 20; with_reducible refine (W1.out _).mono ?_; rintro e w' ⟨rfl, hw⟩; subst hw) | (go_at_call 20; with_reducible refine (W2.out _).mono ?_; rintro e w' ⟨rfl, hw⟩; subst hw) | (go_at_call 6; refine C.out.mono ?_; rintro e w1 ⟨vr, rfl, hfl, hb1⟩; have RB1 := Lib.hid (RB.out.below hb1 RB.out.lt); have RR1 := Lib.hid (RR.out.below hb1 RR.out.lt); have BX1 := Lib.hid (BX.out.trans (hb1.mono BX.out.size)); clear r0 r1 r2 r3 r4; have z0 := RB1.out.cell 0; have y0 := RR1.out.cell 0; have y1 := RR1.out.cell 1; have y2 := RR1.out.cell 2; have y3 := RR1.out.cell 3; have y4 := RR1.out.cell 4; have f0 := RR1.out.frozen 0; have f1 := RR1.out.frozen 1; have f2 := RR1.out.frozen 2; have f3 := RR1.out.frozen 3; have f4 := RR1.out.frozen 4; clear C hb1 hfl))
  clear y0 y1 y2 y3 y4 f0 f1 f2 f3 f4
  have hF := set5_row RR1.out (.int .i64 0) (.int .i64 0) (.slice none 0 0) (.slice none 0 0) (.slice none 0 0)
  refine bodyPost_ret (results_cell2 rfl _ _ (w.heap.size + 1) 29 #[.int .i64 0, .int .i64 0, .slice none 0 0, .slice none 0 0, .slice none 0 0] (0, 0) _ (.bool false) rfl rfl hF Try.underlying29 rfl (by kernel_rfl)) rfl ?_
  exact JsPost.no HNO.out (set5_below BX1.out (show w.heap.size ≤ w.heap.size + 1 by omega) _ _ _ _ _)

set_option maxRecDepth 100000 in
set_option maxHeartbeats 4000000 in
theorem sJoin_no4 (s t : Nat) (P Q R : List F32) (i k : Int) (A2 : Option Addr) (n2 c2 : Nat) (A3 : Option Addr) (n3 c3 : Nat) (A4 : Option Addr) (n4 c4 : Nat) (w : World) (h2 : SlF w w.heap.size A2 n2 P) (h3 : SlF w w.heap.size A3 n3 Q) (h4 : SlF w w.heap.size A4 n4 R) (k2 : n2 ≤ c2) (k2' : c2 ≤ 9223372036854775807) (k3 : n3 ≤ c3) (k3' : c3 ≤ 9223372036854775807) (k4 : n4 ≤ c4) (k4' : c4 ≤ 9223372036854775807) (X : List F32) (K : Nat) (hr : rsR (s : Int) (t : Int) P Q R nC 200 = some (X, K)) (q1 : inB i 0 ((s : Int) - 1) = true) (q2 : inB k 0 ((s : Int) - 1) = true) (hki : k ≤ i) :
    Calls Try.prog 14 #[.agg #[.int .i64 (s : Int), .int .i64 (t : Int), .slice A2 n2 c2, .slice A3 n3 c3, .slice A4 n4 c4], .int .i64 i, .int .i64 k] w (JsPost (s : Int) (t : Int) P Q R i k w) := by
  have rb := (Row.new w 29 [.int .i64 (s : Int), .int .i64 (t : Int), .slice A2 n2 c2, .slice A3 n3 c3, .slice A4 n4 c4]).alloc (.cells ([.int .i64 0, .int .i64 0, .slice none 0 0, .slice none 0 0, .slice none 0 0] : List Value).toArray 29)
  have rr := Row.new (w.alloc (.cells ([.int .i64 (s : Int), .int .i64 (t : Int), .slice A2 n2 c2, .slice A3 n3 c3, .slice A4 n4 c4] : List Value).toArray 29)) 29 [.int .i64 0, .int .i64 0, .slice none 0 0, .slice none 0 0, .slice none 0 0]
  rw [show (w.alloc (.cells ([.int .i64 (s : Int), .int .i64 (t : Int), .slice A2 n2 c2, .slice A3 n3 c3, .slice A4 n4 c4] : List Value).toArray 29)).heap.size = w.heap.size + 1 by simp] at rr
  have bx : Below w.heap.size w ((w.alloc (.cells ([.int .i64 (s : Int), .int .i64 (t : Int), .slice A2 n2 c2, .slice A3 n3 c3, .slice A4 n4 c4] : List Value).toArray 29)).alloc (.cells ([.int .i64 0, .int .i64 0, .slice none 0 0, .slice none 0 0, .slice none 0 0] : List Value).toArray 29)) := ((Below.refl _ _).alloc (Nat.le_refl _) _).alloc (by simp) _
  have hsz : ((w.alloc (.cells ([.int .i64 (s : Int), .int .i64 (t : Int), .slice A2 n2 c2, .slice A3 n3 c3, .slice A4 n4 c4] : List Value).toArray 29)).alloc (.cells ([.int .i64 0, .int .i64 0, .slice none 0 0, .slice none 0 0, .slice none 0 0] : List Value).toArray 29)).heap.size = w.heap.size + 2 := by simp
  have C := sRest_any (.agg #[.int .i64 (s : Int), .int .i64 (t : Int), .slice A2 n2 c2, .slice A3 n3 c3, .slice A4 n4 c4]) (s : Int) (t : Int) P Q R nC 200 _ ⟨_, _, _, _, _, _, _, _, _, rfl, (h2.below bx (Nat.le_refl _)).more bx.size, (h3.below bx (Nat.le_refl _)).more bx.size, (h4.below bx (Nat.le_refl _)).more bx.size⟩ ⟨_, _, _, _, _, _, _, _, _, _, _, rfl, k2, k2', k3, k3', k4, k4'⟩
  rw [hr] at C
  have C := C.mono (fun e w' h => show ∃ v, e = .returned (.tuple #[v, .int .i64 (K : Int), .bool true]) ∧ RowFl w' _ v X ∧ Below _ _ w' from h)
  obtain ⟨hvd, hrs⟩ := rsR_some hr
  have hS := vdM_tb hvd
  have hs : 1 ≤ s ∧ s ≤ 5 := by obtain ⟨s', t', e1, e2, q1, q2, -⟩ := hS; omega
  have wS : IntKind.i64.wrap ((s : Int) - 1) = (s : Int) - 1 := IntWalk.i64_in _ (by omega)
  have q3 : inB k (i + 1) ((s : Int) - 1) = false := by
    cases hq : inB k (i + 1) ((s : Int) - 1) with
    | false => rfl
    | true =>
      have h1 := inB_true hq
      omega
  have HNO : Hid (jsB (s : Int) (t : Int) P Q R i k = false) := by show _ = _; unfold jsB; rw [q3]; simp
  have hge : decide (i ≥ k) = true := decide_eq_true hki
  have hge' : decide (k ≤ i) = true := decide_eq_true hki
  have W1 : Hid (∀ w, Calls Try.prog 20 #[.int .i64 i, .int .i64 0, .int .i64 ((s : Int) - 1)] w fun e w' => e = .returned (.bool true) ∧ w = w') := by
    show ∀ w, _
    intro w
    have h0 := sIn_any i 0 ((s : Int) - 1) w
    rw [q1] at h0
    exact h0
  have W2 : Hid (∀ w, Calls Try.prog 20 #[.int .i64 k, .int .i64 0, .int .i64 ((s : Int) - 1)] w fun e w' => e = .returned (.bool true) ∧ w = w') := by
    show ∀ w, _
    intro w
    have h0 := sIn_any k 0 ((s : Int) - 1) w
    rw [q2] at h0
    exact h0
  have HS := Lib.hid hs; clear hr hvd hrs hS q1 q2 hs q3
  have RB := Lib.hid rb; have RR := Lib.hid rr; have BX := Lib.hid bx; have HSZ := Lib.hid hsz
  have r0 := rb.cell 0; have r1 := rb.cell 1; have r2 := rb.cell 2; have r3 := rb.cell 3; have r4 := rb.cell 4
  have C := Lib.hid C
  clear rb rr bx hsz h2 h3 h4 k2 k2' k3 k3' k4 k4'
  go_enter Try.func14, Try.ntmps14
  go_wp2_with (first | (go_at_call 20; with_reducible refine (W1.out _).mono ?_; rintro e w' ⟨rfl, hw⟩; subst hw) | (go_at_call 20; with_reducible refine (W2.out _).mono ?_; rintro e w' ⟨rfl, hw⟩; subst hw) | (go_at_call 6; refine C.out.mono ?_; rintro e w1 ⟨vr, rfl, hfl, hb1⟩; have RB1 := Lib.hid (RB.out.below hb1 RB.out.lt); have RR1 := Lib.hid (RR.out.below hb1 RR.out.lt); have BX1 := Lib.hid (BX.out.trans (hb1.mono BX.out.size)); clear r0 r1 r2 r3 r4; have z0 := RB1.out.cell 0; have y0 := RR1.out.cell 0; have y1 := RR1.out.cell 1; have y2 := RR1.out.cell 2; have y3 := RR1.out.cell 3; have y4 := RR1.out.cell 4; have f0 := RR1.out.frozen 0; have f1 := RR1.out.frozen 1; have f2 := RR1.out.frozen 2; have f3 := RR1.out.frozen 3; have f4 := RR1.out.frozen 4; clear C hb1 hfl))
  clear y0 y1 y2 y3 y4 f0 f1 f2 f3 f4
  have hF := set5_row RR1.out (.int .i64 0) (.int .i64 0) (.slice none 0 0) (.slice none 0 0) (.slice none 0 0)
  refine bodyPost_ret (results_cell2 rfl _ _ (w.heap.size + 1) 29 #[.int .i64 0, .int .i64 0, .slice none 0 0, .slice none 0 0, .slice none 0 0] (0, 0) _ (.bool false) rfl rfl hF Try.underlying29 rfl (by kernel_rfl)) rfl ?_
  exact JsPost.no HNO.out (set5_below BX1.out (show w.heap.size ≤ w.heap.size + 1 by omega) _ _ _ _ _)

set_option maxRecDepth 100000 in
set_option maxHeartbeats 4000000 in
theorem sJoin_no5 (s t : Nat) (P Q R : List F32) (i k : Nat) (A2 : Option Addr) (n2 c2 : Nat) (A3 : Option Addr) (n3 c3 : Nat) (A4 : Option Addr) (n4 c4 : Nat) (w : World) (h2 : SlF w w.heap.size A2 n2 P) (h3 : SlF w w.heap.size A3 n3 Q) (h4 : SlF w w.heap.size A4 n4 R) (k2 : n2 ≤ c2) (k2' : c2 ≤ 9223372036854775807) (k3 : n3 ≤ c3) (k3' : c3 ≤ 9223372036854775807) (k4 : n4 ≤ c4) (k4' : c4 ≤ 9223372036854775807) (X : List F32) (K : Nat) (hr : rsR (s : Int) (t : Int) P Q R nC 200 = some (X, K)) (hik : i < k) (hks : k < s) (hgt : gtB (fop .add (atF X i) (atF X k)) = false) :
    Calls Try.prog 14 #[.agg #[.int .i64 (s : Int), .int .i64 (t : Int), .slice A2 n2 c2, .slice A3 n3 c3, .slice A4 n4 c4], .int .i64 (i : Int), .int .i64 (k : Int)] w (JsPost (s : Int) (t : Int) P Q R (i : Int) (k : Int) w) := by
  have rb := (Row.new w 29 [.int .i64 (s : Int), .int .i64 (t : Int), .slice A2 n2 c2, .slice A3 n3 c3, .slice A4 n4 c4]).alloc (.cells ([.int .i64 0, .int .i64 0, .slice none 0 0, .slice none 0 0, .slice none 0 0] : List Value).toArray 29)
  have rr := Row.new (w.alloc (.cells ([.int .i64 (s : Int), .int .i64 (t : Int), .slice A2 n2 c2, .slice A3 n3 c3, .slice A4 n4 c4] : List Value).toArray 29)) 29 [.int .i64 0, .int .i64 0, .slice none 0 0, .slice none 0 0, .slice none 0 0]
  rw [show (w.alloc (.cells ([.int .i64 (s : Int), .int .i64 (t : Int), .slice A2 n2 c2, .slice A3 n3 c3, .slice A4 n4 c4] : List Value).toArray 29)).heap.size = w.heap.size + 1 by simp] at rr
  have bx : Below w.heap.size w ((w.alloc (.cells ([.int .i64 (s : Int), .int .i64 (t : Int), .slice A2 n2 c2, .slice A3 n3 c3, .slice A4 n4 c4] : List Value).toArray 29)).alloc (.cells ([.int .i64 0, .int .i64 0, .slice none 0 0, .slice none 0 0, .slice none 0 0] : List Value).toArray 29)) := ((Below.refl _ _).alloc (Nat.le_refl _) _).alloc (by simp) _
  have hsz : ((w.alloc (.cells ([.int .i64 (s : Int), .int .i64 (t : Int), .slice A2 n2 c2, .slice A3 n3 c3, .slice A4 n4 c4] : List Value).toArray 29)).alloc (.cells ([.int .i64 0, .int .i64 0, .slice none 0 0, .slice none 0 0, .slice none 0 0] : List Value).toArray 29)).heap.size = w.heap.size + 2 := by simp
  have C := sRest_any (.agg #[.int .i64 (s : Int), .int .i64 (t : Int), .slice A2 n2 c2, .slice A3 n3 c3, .slice A4 n4 c4]) (s : Int) (t : Int) P Q R nC 200 _ ⟨_, _, _, _, _, _, _, _, _, rfl, (h2.below bx (Nat.le_refl _)).more bx.size, (h3.below bx (Nat.le_refl _)).more bx.size, (h4.below bx (Nat.le_refl _)).more bx.size⟩ ⟨_, _, _, _, _, _, _, _, _, _, _, rfl, k2, k2', k3, k3', k4, k4'⟩
  rw [hr] at C
  have C := C.mono (fun e w' h => show ∃ v, e = .returned (.tuple #[v, .int .i64 (K : Int), .bool true]) ∧ RowFl w' _ v X ∧ Below _ _ w' from h)
  obtain ⟨hvd, hrs⟩ := rsR_some hr
  have hS := vdM_tb hvd
  have hs : 1 ≤ s ∧ s ≤ 5 := by obtain ⟨s', t', e1, e2, q1, q2, -⟩ := hS; omega
  have wS : IntKind.i64.wrap ((s : Int) - 1) = (s : Int) - 1 := IntWalk.i64_in _ (by omega)
  have hi : (0 : Int) ≤ (i : Int) := by omega
  have wI : IntKind.i64.wrap ((i : Int) + 1) = (i : Int) + 1 := IntWalk.i64_in _ (by omega)
  have q1 : inB (i : Int) 0 ((s : Int) - 1) = true := by simp [inB]; omega
  have q2 : inB (k : Int) 0 ((s : Int) - 1) = true := by simp [inB]; omega
  have hXL : X.length = s := by have := hrs.len; rw [Int.toNat_natCast] at this; exact this
  rw [Int.toNat_natCast] at hrs
  obtain ⟨hadd, hsm⟩ := hrs.sum (i := i) (k := k) (by omega) (by omega)
  obtain ⟨sm, hsmE⟩ : ∃ v, v = fop .add (atF X i) (atF X k) := ⟨_, rfl⟩
  rw [← hsmE] at hadd hsm hgt
  have o1 := fl_run (P := Try.prog) hadd
  have hJX : jsX (s : Int) (t : Int) P Q R = X := by unfold jsX; rw [hr]; rfl
  have HXL := Lib.hid hXL
  have HNO : Hid (jsB (s : Int) (t : Int) P Q R (i : Int) (k : Int) = false) := by show _ = _; unfold jsB; rw [hJX, Int.toNat_natCast, Int.toNat_natCast, ← hsmE, hgt]; simp
  have hg0 : ((FloatKind.format .f32).order sm.b 0 == some .gt) = false := hgt
  have W1 : Hid (∀ w, Calls Try.prog 20 #[.int .i64 (i : Int), .int .i64 0, .int .i64 ((s : Int) - 1)] w fun e w' => e = .returned (.bool true) ∧ w = w') := by
    show ∀ w, _
    intro w
    have h0 := sIn_any (i : Int) 0 ((s : Int) - 1) w
    rw [q1] at h0
    exact h0
  have W2 : Hid (∀ w, Calls Try.prog 20 #[.int .i64 (k : Int), .int .i64 0, .int .i64 ((s : Int) - 1)] w fun e w' => e = .returned (.bool true) ∧ w = w') := by
    show ∀ w, _
    intro w
    have h0 := sIn_any (k : Int) 0 ((s : Int) - 1) w
    rw [q2] at h0
    exact h0
  have m0 : (0 : Int) ≤ (k : Int) := by omega
  have m1 : (i : Int) < (X.length : Int) := by omega
  have m2 : (k : Int) < (X.length : Int) := by omega
  have hge : ¬ (k : Int) ≤ (i : Int) := by omega
  have hge' : decide ((k : Int) ≤ (i : Int)) = false := decide_eq_false hge
  have HS := Lib.hid hs; have HIK := Lib.hid hik; have HKS := Lib.hid hks; clear hr hvd hrs hS q1 q2 hadd hsm hgt hsmE hJX hs hik hks hXL
  have RB := Lib.hid rb; have RR := Lib.hid rr; have BX := Lib.hid bx; have HSZ := Lib.hid hsz
  have r0 := rb.cell 0; have r1 := rb.cell 1; have r2 := rb.cell 2; have r3 := rb.cell 3; have r4 := rb.cell 4
  have C := Lib.hid C
  clear rb rr bx hsz h2 h3 h4 k2 k2' k3 k3' k4 k4'
  go_enter Try.func14, Try.ntmps14
  go_wp2_with (first | (go_at_call 20; with_reducible refine (W1.out _).mono ?_; rintro e w' ⟨rfl, hw⟩; subst hw) | (go_at_call 20; with_reducible refine (W2.out _).mono ?_; rintro e w' ⟨rfl, hw⟩; subst hw) | (go_at_call 6; refine C.out.mono ?_; rintro e w1 ⟨vr, rfl, hfl, hb1⟩; have RB1 := Lib.hid (RB.out.below hb1 RB.out.lt); have RR1 := Lib.hid (RR.out.below hb1 RR.out.lt); have BX1 := Lib.hid (BX.out.trans (hb1.mono BX.out.size)); clear r0 r1 r2 r3 r4; have z0 := RB1.out.cell 0; have z1 := RB1.out.cell 1; obtain ⟨gx, cx, rfl, hgx1, hgx2, hcx⟩ := RowFl.at hfl (by rw [HXL.out]; have := HS.out; omega); rw [HXL.out] at hcx; have HCX := Lib.hid hcx; have x1 := HCX.out i (Nat.lt_trans HIK.out HKS.out); have x2 := HCX.out k HKS.out; clear hcx; clear C hb1 hfl))
  go_quiet (fail)
  have y0 := RR1.out.cell 0; have y1 := RR1.out.cell 1; have y2 := RR1.out.cell 2; have y3 := RR1.out.cell 3; have y4 := RR1.out.cell 4; have f0 := RR1.out.frozen 0; have f1 := RR1.out.frozen 1; have f2 := RR1.out.frozen 2; have f3 := RR1.out.frozen 3; have f4 := RR1.out.frozen 4
  go_wp2_with fail
  clear y0 y1 y2 y3 y4 f0 f1 f2 f3 f4
  have hF := set5_row (RR1.out.drewN nq) (.int .i64 0) (.int .i64 0) (.slice none 0 0) (.slice none 0 0) (.slice none 0 0)
  refine bodyPost_ret (results_cell2 rfl _ _ (w.heap.size + 1) 29 #[.int .i64 0, .int .i64 0, .slice none 0 0, .slice none 0 0, .slice none 0 0] (0, 0) _ (.bool false) rfl rfl hF Try.underlying29 rfl (by kernel_rfl)) rfl ?_
  exact JsPost.no HNO.out (set5_below (below_draws BX1.out nq) (show w.heap.size ≤ w.heap.size + 1 by omega) _ _ _ _ _)

end Go.Proofs.Ytomofghiafcefaa
