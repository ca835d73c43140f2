/- Several texts in one: Whether a plain machine is valid: both programs, at any plain machine. Whether a plain machine is valid: the reference, at any plain machine. -/
import Derived.Test.YtbdfbmohdbigfaaMgu
import Derived.Deep.CutRange
import Derived.Deep.RegionLaw
import Derived.Deep.QuietTactic
import Derived.BigQuiet

namespace Go.Proofs.Ytbdfbmohdbigfaa
open Go.RowKit
set_option linter.unusedVariables false
def vpB (S T : Int) (n2 n3 : Nat) (P : List Int) : Bool := inB S 1 64 && inB T 1 4 && decide ((n2 : Int) = S * T) && allIn P 0 (S - 1) && decide ((n3 : Int) = S)

set_option maxRecDepth 100000 in
set_option maxHeartbeats 2000000 in
theorem iValidPlain_no1 (S T : Int) (A2 : Option Addr) (n2 c2 : Nat) (A3 : Option Addr) (n3 c3 : Nat) (P : List Int) (w : World) (h2 : SlI w w.heap.size A2 n2 P) (hn : n2 ≤ 4294967296) (e1 : inB S 1 64 = false) :
    Calls Try.prog 46 #[.agg #[.int .i64 S, .int .i64 T, .slice A2 n2 c2, .slice A3 n3 c3]] w fun e w' => e = .returned (.bool false) ∧ Below w.heap.size w w' := by
  have rb := Row.new w 33 (BxP S T A2 n2 c2 A3 n3 c3)
  have bx : Below w.heap.size w (w.alloc (.cells (BxP S T A2 n2 c2 A3 n3 c3).toArray 33)) := (Below.refl _ _).alloc (Nat.le_refl _) _
  have W1 := iIn_any S 1 64; have W2 := iIn_any T 1 4
  rw [e1] at W1
  have BX := Lib.hid bx
  clear e1 h2 bx
  go_enter Try.func46, Try.ntmps46
  go_wp2_with (first | (go_at_call 54; refine (W1 _).mono ?_; rintro e w' ⟨rfl, hw⟩; subst hw; clear W1) | (go_at_call 54; refine (W2 _).mono ?_; rintro e w' ⟨rfl, hw⟩; subst hw; clear W2))
  go_ret
  exact ⟨ret_bool (by first | rfl | simp [z2]), BX.out⟩
set_option maxRecDepth 100000 in
set_option maxHeartbeats 2000000 in
theorem iValidPlain_no2 (S T : Int) (A2 : Option Addr) (n2 c2 : Nat) (A3 : Option Addr) (n3 c3 : Nat) (P : List Int) (w : World) (h2 : SlI w w.heap.size A2 n2 P) (hn : n2 ≤ 4294967296) (e1 : inB S 1 64 = true) (e2 : inB T 1 4 = false) :
    Calls Try.prog 46 #[.agg #[.int .i64 S, .int .i64 T, .slice A2 n2 c2, .slice A3 n3 c3]] w fun e w' => e = .returned (.bool false) ∧ Below w.heap.size w w' := by
  have rb := Row.new w 33 (BxP S T A2 n2 c2 A3 n3 c3)
  have bx : Below w.heap.size w (w.alloc (.cells (BxP S T A2 n2 c2 A3 n3 c3).toArray 33)) := (Below.refl _ _).alloc (Nat.le_refl _) _
  have W1 := iIn_any S 1 64; have W2 := iIn_any T 1 4
  rw [e1] at W1
  rw [e2] at W2
  have s1 := inB_true e1
  have BX := Lib.hid bx
  clear e1 h2 bx e2 s1
  go_enter Try.func46, Try.ntmps46
  go_wp2_with (first | (go_at_call 54; refine (W1 _).mono ?_; rintro e w' ⟨rfl, hw⟩; subst hw; clear W1) | (go_at_call 54; refine (W2 _).mono ?_; rintro e w' ⟨rfl, hw⟩; subst hw; clear W2))
  go_ret
  exact ⟨ret_bool (by first | rfl | simp [z2]), BX.out⟩
set_option maxRecDepth 100000 in
set_option maxHeartbeats 2000000 in
theorem iValidPlain_no3 (S T : Int) (A2 : Option Addr) (n2 c2 : Nat) (A3 : Option Addr) (n3 c3 : Nat) (P : List Int) (w : World) (h2 : SlI w w.heap.size A2 n2 P) (hn : n2 ≤ 4294967296) (e1 : inB S 1 64 = true) (e2 : inB T 1 4 = true) (e3 : (n2 : Int) ≠ S * T) :
    Calls Try.prog 46 #[.agg #[.int .i64 S, .int .i64 T, .slice A2 n2 c2, .slice A3 n3 c3]] w fun e w' => e = .returned (.bool false) ∧ Below w.heap.size w w' := by
  have rb := Row.new w 33 (BxP S T A2 n2 c2 A3 n3 c3)
  have bx : Below w.heap.size w (w.alloc (.cells (BxP S T A2 n2 c2 A3 n3 c3).toArray 33)) := (Below.refl _ _).alloc (Nat.le_refl _) _
  have W1 := iIn_any S 1 64; have W2 := iIn_any T 1 4
  rw [e1] at W1
  rw [e2] at W2
  have s1 := inB_true e1
  have s2 := inB_true e2
  have m0 : 0 ≤ S * T := Int.mul_nonneg (by omega) (by omega)
  have m1 : S * T ≤ 64 * 4 := Int.mul_le_mul (by omega) (by omega) (by omega) (by omega)
  have WM : IntKind.i64.wrap (S * T) = S * T := IntWalk.i64_in _ (by omega)
  have z1 : ((n2 : Int) == S * T) = false := by simpa using e3
  have BX := Lib.hid bx
  clear e1 h2 bx e2 s1 s2 m0 m1 e3
  go_enter Try.func46, Try.ntmps46
  go_wp2_with (first | (go_at_call 54; refine (W1 _).mono ?_; rintro e w' ⟨rfl, hw⟩; subst hw; clear W1) | (go_at_call 54; refine (W2 _).mono ?_; rintro e w' ⟨rfl, hw⟩; subst hw; clear W2))
  go_ret
  exact ⟨ret_bool (by first | rfl | simp [z2]), BX.out⟩
set_option maxRecDepth 100000 in
set_option maxHeartbeats 2000000 in
theorem iValidPlain_no4 (S T : Int) (A2 : Option Addr) (n2 c2 : Nat) (A3 : Option Addr) (n3 c3 : Nat) (P : List Int) (w : World) (h2 : SlI w w.heap.size A2 n2 P) (hn : n2 ≤ 4294967296) (e1 : inB S 1 64 = true) (e2 : inB T 1 4 = true) (e3 : (n2 : Int) = S * T) (e4 : allIn P 0 (S - 1) = false) :
    Calls Try.prog 46 #[.agg #[.int .i64 S, .int .i64 T, .slice A2 n2 c2, .slice A3 n3 c3]] w fun e w' => e = .returned (.bool false) ∧ Below w.heap.size w w' := by
  have rb := Row.new w 33 (BxP S T A2 n2 c2 A3 n3 c3)
  have bx : Below w.heap.size w (w.alloc (.cells (BxP S T A2 n2 c2 A3 n3 c3).toArray 33)) := (Below.refl _ _).alloc (Nat.le_refl _) _
  have W1 := iIn_any S 1 64; have W2 := iIn_any T 1 4
  rw [e1] at W1
  rw [e2] at W2
  have s1 := inB_true e1
  have s2 := inB_true e2
  have m0 : 0 ≤ S * T := Int.mul_nonneg (by omega) (by omega)
  have m1 : S * T ≤ 64 * 4 := Int.mul_le_mul (by omega) (by omega) (by omega) (by omega)
  have WM : IntKind.i64.wrap (S * T) = S * T := IntWalk.i64_in _ (by omega)
  have WM' : IntKind.i64.wrap (S * T) = (n2 : Int) := by rw [WM, e3]
  have z1 : ((n2 : Int) == (n2 : Int)) = true := by simp
  clear WM
  have WS : IntKind.i64.wrap (S - 1) = S - 1 := IntWalk.i64_in _ (by omega)
  have hA := iAllIn_any A2 n2 c2 P 0 (S - 1) _ _ (h2.below bx (Nat.le_refl _)) (by omega)
  rw [e4] at hA
  have HA := Lib.hid hA
  clear hA
  have BX := Lib.hid bx
  clear e1 h2 bx e2 s1 s2 m0 m1 e3 e4
  go_enter Try.func46, Try.ntmps46
  go_wp2_with (first | (go_at_call 54; refine (W1 _).mono ?_; rintro e w' ⟨rfl, hw⟩; subst hw; clear W1) | (go_at_call 54; refine (W2 _).mono ?_; rintro e w' ⟨rfl, hw⟩; subst hw; clear W2) | (go_at_call 99; refine HA.out.mono ?_; rintro e w' ⟨rfl, hw⟩; subst hw; clear HA))
  go_ret
  exact ⟨ret_bool (by first | rfl | simp [z2]), BX.out⟩
set_option maxRecDepth 100000 in
set_option maxHeartbeats 2000000 in
theorem iValidPlain_no5 (S T : Int) (A2 : Option Addr) (n2 c2 : Nat) (A3 : Option Addr) (n3 c3 : Nat) (P : List Int) (w : World) (h2 : SlI w w.heap.size A2 n2 P) (hn : n2 ≤ 4294967296) (e1 : inB S 1 64 = true) (e2 : inB T 1 4 = true) (e3 : (n2 : Int) = S * T) (e4 : allIn P 0 (S - 1) = true) (e5 : (n3 : Int) ≠ S) :
    Calls Try.prog 46 #[.agg #[.int .i64 S, .int .i64 T, .slice A2 n2 c2, .slice A3 n3 c3]] w fun e w' => e = .returned (.bool false) ∧ Below w.heap.size w w' := by
  have rb := Row.new w 33 (BxP S T A2 n2 c2 A3 n3 c3)
  have bx : Below w.heap.size w (w.alloc (.cells (BxP S T A2 n2 c2 A3 n3 c3).toArray 33)) := (Below.refl _ _).alloc (Nat.le_refl _) _
  have W1 := iIn_any S 1 64; have W2 := iIn_any T 1 4
  rw [e1] at W1
  rw [e2] at W2
  have s1 := inB_true e1
  have s2 := inB_true e2
  have m0 : 0 ≤ S * T := Int.mul_nonneg (by omega) (by omega)
  have m1 : S * T ≤ 64 * 4 := Int.mul_le_mul (by omega) (by omega) (by omega) (by omega)
  have WM : IntKind.i64.wrap (S * T) = S * T := IntWalk.i64_in _ (by omega)
  have WM' : IntKind.i64.wrap (S * T) = (n2 : Int) := by rw [WM, e3]
  have z1 : ((n2 : Int) == (n2 : Int)) = true := by simp
  clear WM
  have WS : IntKind.i64.wrap (S - 1) = S - 1 := IntWalk.i64_in _ (by omega)
  have hA := iAllIn_any A2 n2 c2 P 0 (S - 1) _ _ (h2.below bx (Nat.le_refl _)) (by omega)
  rw [e4] at hA
  have HA := Lib.hid hA
  clear hA
  have z2 : ((n3 : Int) == S) = false := by simpa using e5
  have BX := Lib.hid bx
  clear e1 h2 bx e2 s1 s2 m0 m1 e3 e4 e5
  go_enter Try.func46, Try.ntmps46
  go_wp2_with (first | (go_at_call 54; refine (W1 _).mono ?_; rintro e w' ⟨rfl, hw⟩; subst hw; clear W1) | (go_at_call 54; refine (W2 _).mono ?_; rintro e w' ⟨rfl, hw⟩; subst hw; clear W2) | (go_at_call 99; refine HA.out.mono ?_; rintro e w' ⟨rfl, hw⟩; subst hw; clear HA))
  go_ret
  exact ⟨ret_bool (by first | rfl | simp [z2]), BX.out⟩
set_option maxRecDepth 100000 in
set_option maxHeartbeats 2000000 in
theorem iValidPlain_yes' (S T : Int) (A2 : Option Addr) (n2 c2 : Nat) (A3 : Option Addr) (n3 c3 : Nat) (P : List Int) (w : World) (h2 : SlI w w.heap.size A2 n2 P) (hn : n2 ≤ 4294967296) (e1 : inB S 1 64 = true) (e2 : inB T 1 4 = true) (e3 : (n2 : Int) = S * T) (e4 : allIn P 0 (S - 1) = true) (e5 : (n3 : Int) = S) :
    Calls Try.prog 46 #[.agg #[.int .i64 S, .int .i64 T, .slice A2 n2 c2, .slice A3 n3 c3]] w fun e w' => e = .returned (.bool true) ∧ Below w.heap.size w w' := by
  have rb := Row.new w 33 (BxP S T A2 n2 c2 A3 n3 c3)
  have bx : Below w.heap.size w (w.alloc (.cells (BxP S T A2 n2 c2 A3 n3 c3).toArray 33)) := (Below.refl _ _).alloc (Nat.le_refl _) _
  have W1 := iIn_any S 1 64; have W2 := iIn_any T 1 4
  rw [e1] at W1
  rw [e2] at W2
  have s1 := inB_true e1
  have s2 := inB_true e2
  have m0 : 0 ≤ S * T := Int.mul_nonneg (by omega) (by omega)
  have m1 : S * T ≤ 64 * 4 := Int.mul_le_mul (by omega) (by omega) (by omega) (by omega)
  have WM : IntKind.i64.wrap (S * T) = S * T := IntWalk.i64_in _ (by omega)
  have WM' : IntKind.i64.wrap (S * T) = (n2 : Int) := by rw [WM, e3]
  have z1 : ((n2 : Int) == (n2 : Int)) = true := by simp
  clear WM
  have WS : IntKind.i64.wrap (S - 1) = S - 1 := IntWalk.i64_in _ (by omega)
  have hA := iAllIn_any A2 n2 c2 P 0 (S - 1) _ _ (h2.below bx (Nat.le_refl _)) (by omega)
  rw [e4] at hA
  have HA := Lib.hid hA
  clear hA
  have z2 : ((n3 : Int) == S) = true := by simpa using e5
  have BX := Lib.hid bx
  clear e1 h2 bx e2 s1 s2 m0 m1 e3 e4 e5
  go_enter Try.func46, Try.ntmps46
  go_wp2_with (first | (go_at_call 54; refine (W1 _).mono ?_; rintro e w' ⟨rfl, hw⟩; subst hw; clear W1) | (go_at_call 54; refine (W2 _).mono ?_; rintro e w' ⟨rfl, hw⟩; subst hw; clear W2) | (go_at_call 99; refine HA.out.mono ?_; rintro e w' ⟨rfl, hw⟩; subst hw; clear HA))
  go_ret
  exact ⟨ret_bool (by first | rfl | simp [z2]), BX.out⟩
theorem iValidPlain_any (S T : Int) (A2 : Option Addr) (n2 c2 : Nat) (A3 : Option Addr) (n3 c3 : Nat) (P : List Int) (w : World) (h2 : SlI w w.heap.size A2 n2 P) (hn : n2 ≤ 4294967296) :
    Calls Try.prog 46 #[.agg #[.int .i64 S, .int .i64 T, .slice A2 n2 c2, .slice A3 n3 c3]] w fun e w' => e = .returned (.bool (vpB S T n2 n3 P)) ∧ Below w.heap.size w w' := by
  unfold vpB
  cases e1 : inB S 1 64 with
  | false => exact iValidPlain_no1 S T A2 n2 c2 A3 n3 c3 P w h2 hn e1
  | true =>
    cases e2 : inB T 1 4 with
    | false => exact iValidPlain_no2 S T A2 n2 c2 A3 n3 c3 P w h2 hn e1 e2
    | true =>
      by_cases e3 : (n2 : Int) = S * T
      · cases e4 : allIn P 0 (S - 1) with
        | false => rw [decide_eq_true e3]; exact iValidPlain_no4 S T A2 n2 c2 A3 n3 c3 P w h2 hn e1 e2 e3 e4
        | true =>
          by_cases e5 : (n3 : Int) = S
          · rw [decide_eq_true e3, decide_eq_true e5]; exact iValidPlain_yes' S T A2 n2 c2 A3 n3 c3 P w h2 hn e1 e2 e3 e4 e5
          · rw [decide_eq_true e3, decide_eq_false e5]; exact iValidPlain_no5 S T A2 n2 c2 A3 n3 c3 P w h2 hn e1 e2 e3 e4 e5
      · rw [decide_eq_false e3]; exact iValidPlain_no3 S T A2 n2 c2 A3 n3 c3 P w h2 hn e1 e2 e3
end Go.Proofs.Ytbdfbmohdbigfaa

namespace Go.Proofs.Ytbdfbmohdbigfaa
open Go.RowKit
set_option linter.unusedVariables false
theorem allTk {xs : List Int} {p : Int → Bool} {k : Nat} {x : Int} (h : (xs.take k).all p = true) (hx : xs[k]? = some x) (h1 : p x = true) : (xs.take (k + 1)).all p = true := by
  obtain ⟨hk, e⟩ := List.getElem?_eq_some_iff.1 hx
  rw [List.take_succ_eq_append_getElem hk, List.all_append, h, e]
  simp [h1]

set_option maxRecDepth 100000 in
set_option maxHeartbeats 8000000 in
theorem sPlain_no1 (g : Nat) (S T : Int) (A2 : Option Addr) (n2 c2 : Nat) (A3 : Option Addr) (n3 c3 : Nat) (P : List Int) (w : World) (hr : Row w g 33 (BxP S T A2 n2 c2 A3 n3 c3)) (h2 : SlI w w.heap.size A2 n2 P) (hn : n2 ≤ 4294967296) (e1 : inB S 1 64 = false) :
    Calls Try.prog 78 #[.pointer (some ⟨g, 0, none⟩)] w fun e w' => e = .returned (.bool false) ∧ Below w.heap.size w w' := by
  have RB := Lib.hid hr
  have r0 := hr.cell 0; have r1 := hr.cell 1; have r2 := hr.cell 2; have r3 := hr.cell 3
  have W1 := sIn_any S 1 64; have W2 := sIn_any T 1 4
  rw [e1] at W1
  clear e1 h2 hr
  go_enter Try.func78, Try.ntmps78
  go_wp2_with fail
  go_quiet (first | (go_at_call_of 104 (Value.int .i64 S); exact quietL (W1 _)) | (go_at_call_of 104 (Value.int .i64 T); exact quietL (W2 _)))
  go_wp2_with fail
  go_ret
  exact ⟨rfl, below_draws (Below.refl _ _) _⟩
set_option maxRecDepth 100000 in
set_option maxHeartbeats 8000000 in
theorem sPlain_no2 (g : Nat) (S T : Int) (A2 : Option Addr) (n2 c2 : Nat) (A3 : Option Addr) (n3 c3 : Nat) (P : List Int) (w : World) (hr : Row w g 33 (BxP S T A2 n2 c2 A3 n3 c3)) (h2 : SlI w w.heap.size A2 n2 P) (hn : n2 ≤ 4294967296) (e1 : inB S 1 64 = true) (e2 : inB T 1 4 = false) :
    Calls Try.prog 78 #[.pointer (some ⟨g, 0, none⟩)] w fun e w' => e = .returned (.bool false) ∧ Below w.heap.size w w' := by
  have RB := Lib.hid hr
  have r0 := hr.cell 0; have r1 := hr.cell 1; have r2 := hr.cell 2; have r3 := hr.cell 3
  have W1 := sIn_any S 1 64; have W2 := sIn_any T 1 4
  rw [e1] at W1
  rw [e2] at W2
  have s1 := inB_true e1
  clear e1 h2 hr e2 s1
  go_enter Try.func78, Try.ntmps78
  go_wp2_with fail
  go_quiet (first | (go_at_call_of 104 (Value.int .i64 S); exact quietL (W1 _)) | (go_at_call_of 104 (Value.int .i64 T); exact quietL (W2 _)))
  go_wp2_with fail
  go_ret
  exact ⟨rfl, below_draws (Below.refl _ _) _⟩
set_option maxRecDepth 100000 in
set_option maxHeartbeats 8000000 in
theorem sPlain_no3 (g : Nat) (S T : Int) (A2 : Option Addr) (n2 c2 : Nat) (A3 : Option Addr) (n3 c3 : Nat) (P : List Int) (w : World) (hr : Row w g 33 (BxP S T A2 n2 c2 A3 n3 c3)) (h2 : SlI w w.heap.size A2 n2 P) (hn : n2 ≤ 4294967296) (e1 : inB S 1 64 = true) (e2 : inB T 1 4 = true) (e3 : (n2 : Int) ≠ S * T) :
    Calls Try.prog 78 #[.pointer (some ⟨g, 0, none⟩)] w fun e w' => e = .returned (.bool false) ∧ Below w.heap.size w w' := by
  have RB := Lib.hid hr
  have r0 := hr.cell 0; have r1 := hr.cell 1; have r2 := hr.cell 2; have r3 := hr.cell 3
  have W1 := sIn_any S 1 64; have W2 := sIn_any T 1 4
  rw [e1] at W1
  rw [e2] at W2
  have s1 := inB_true e1
  have s2 := inB_true e2
  have m0 : 0 ≤ S * T := Int.mul_nonneg (by omega) (by omega)
  have m1 : S * T ≤ 64 * 4 := Int.mul_le_mul (by omega) (by omega) (by omega) (by omega)
  have WM : IntKind.i64.wrap (S * T) = S * T := IntWalk.i64_in _ (by omega)
  have z1 : ((n2 : Int) == S * T) = false := by simpa using e3
  have z1' : ((n2 : Int) != S * T) = true := by simpa using e3
  clear e1 h2 hr e2 s1 s2 m0 m1 e3
  go_enter Try.func78, Try.ntmps78
  go_wp2_with fail
  go_quiet (first | (go_at_call_of 104 (Value.int .i64 S); exact quietL (W1 _)) | (go_at_call_of 104 (Value.int .i64 T); exact quietL (W2 _)))
  go_wp2_with fail
  go_ret
  exact ⟨rfl, below_draws (Below.refl _ _) _⟩
set_option maxRecDepth 100000 in
set_option maxHeartbeats 8000000 in
theorem sPlain_no4 (g : Nat) (S T : Int) (A2 : Option Addr) (n2 c2 : Nat) (A3 : Option Addr) (n3 c3 : Nat) (P : List Int) (w : World) (hr : Row w g 33 (BxP S T A2 n2 c2 A3 n3 c3)) (h2 : SlI w w.heap.size A2 n2 P) (hn : n2 ≤ 4294967296) (e1 : inB S 1 64 = true) (e2 : inB T 1 4 = true) (e3 : (n2 : Int) = S * T) (e5 : (n3 : Int) ≠ S) :
    Calls Try.prog 78 #[.pointer (some ⟨g, 0, none⟩)] w fun e w' => e = .returned (.bool false) ∧ Below w.heap.size w w' := by
  have RB := Lib.hid hr
  have r0 := hr.cell 0; have r1 := hr.cell 1; have r2 := hr.cell 2; have r3 := hr.cell 3
  have W1 := sIn_any S 1 64; have W2 := sIn_any T 1 4
  rw [e1] at W1
  rw [e2] at W2
  have s1 := inB_true e1
  have s2 := inB_true e2
  have m0 : 0 ≤ S * T := Int.mul_nonneg (by omega) (by omega)
  have m1 : S * T ≤ 64 * 4 := Int.mul_le_mul (by omega) (by omega) (by omega) (by omega)
  have WM : IntKind.i64.wrap (S * T) = S * T := IntWalk.i64_in _ (by omega)
  have WM' : IntKind.i64.wrap (S * T) = (n2 : Int) := by rw [WM, e3]
  have z1 : ((n2 : Int) == (n2 : Int)) = true := by simp
  clear WM
  have z2 : ((n3 : Int) == S) = false := by simpa using e5
  clear e1 h2 hr e2 s1 s2 m0 m1 e3 e5
  go_enter Try.func78, Try.ntmps78
  go_wp2_with fail
  go_quiet (first | (go_at_call_of 104 (Value.int .i64 S); exact quietL (W1 _)) | (go_at_call_of 104 (Value.int .i64 T); exact quietL (W2 _)))
  go_wp2_with fail
  go_ret
  exact ⟨rfl, below_draws (Below.refl _ _) _⟩
set_option maxRecDepth 100000 in
set_option maxHeartbeats 8000000 in
theorem sPlain_loop (g : Nat) (S T : Int) (A2 : Option Addr) (n2 c2 : Nat) (A3 : Option Addr) (n3 c3 : Nat) (P : List Int) (w : World) (hr : Row w g 33 (BxP S T A2 n2 c2 A3 n3 c3)) (h2 : SlI w w.heap.size A2 n2 P) (hn : n2 ≤ 4294967296) (e1 : inB S 1 64 = true) (e2 : inB T 1 4 = true) (e3 : (n2 : Int) = S * T) (e5 : (n3 : Int) = S) :
    Calls Try.prog 78 #[.pointer (some ⟨g, 0, none⟩)] w fun e w' => e = .returned (.bool (allIn P 0 (S - 1))) ∧ Below w.heap.size w w' := by
  have RB := Lib.hid hr
  have r0 := hr.cell 0; have r1 := hr.cell 1; have r2 := hr.cell 2; have r3 := hr.cell 3
  have W1 := sIn_any S 1 64; have W2 := sIn_any T 1 4
  rw [e1] at W1
  rw [e2] at W2
  have s1 := inB_true e1
  have s2 := inB_true e2
  have m0 : 0 ≤ S * T := Int.mul_nonneg (by omega) (by omega)
  have m1 : S * T ≤ 64 * 4 := Int.mul_le_mul (by omega) (by omega) (by omega) (by omega)
  have WM : IntKind.i64.wrap (S * T) = S * T := IntWalk.i64_in _ (by omega)
  have WM' : IntKind.i64.wrap (S * T) = (n2 : Int) := by rw [WM, e3]
  have z1 : ((n2 : Int) == (n2 : Int)) = true := by simp
  clear WM
  have z2 : ((n3 : Int) == S) = true := by simpa using e5
  have WS : IntKind.i64.wrap (S - 1) = S - 1 := IntWalk.i64_in _ (by omega)
  have hl := h2.len
  have H := Lib.hid h2; have HL := Lib.hid hl
  clear e1 h2 hr e2 s1 s2 m0 m1 e3 e5 hl
  go_enter Try.func78, Try.ntmps78
  go_wp2_with fail
  go_quiet (first | (go_at_call_of 104 (Value.int .i64 S); exact quietL (W1 _)) | (go_at_call_of 104 (Value.int .i64 T); exact quietL (W2 _)))
  go_wp2_with fail
  go_loopg [3] n2 (fun m i wr => ∃ k : Nat, i = .int .i64 k ∧ k ≤ n2 ∧ n2 ≤ m + k ∧ Hid ((P.take k).all (fun x => inB x 0 (S - 1)) = true) ∧ Hid (∃ d, wr = w.drewN d))
  case atStart => exact ⟨0, rfl, by omega, by omega, by rw [List.take_zero]; rfl, ⟨_, rfl⟩⟩
  case round =>
    obtain ⟨k, rfl, hk, hm, hall, HD⟩ := hrel
    obtain ⟨wo, rfl⟩ : ∃ x : World, x = wr := ⟨_, rfl⟩
    have hro : Row wo g 33 (BxP S T A2 n2 c2 A3 n3 c3) := by obtain ⟨d, hd⟩ := HD.out; rw [hd]; exact RB.out
    have r0 := hro.cell 0; have r1 := hro.cell 1; have r2 := hro.cell 2; have r3 := hro.cell 3
    have HH : Hid (SlI wo wo.heap.size A2 n2 P) := by show SlI _ _ _ _ _; obtain ⟨d, hd⟩ := HD.out; rw [hd]; exact H.out
    have HBB : Hid (∀ n, Below w.heap.size w (wo.drewN n)) := fun n => by obtain ⟨d, hd⟩ := HD.out; rw [hd]; exact below_draws (below_draws (Below.refl _ _) _) _
    have HBC : Hid (Below w.heap.size w wo) := by show Below _ _ _; obtain ⟨d, hd⟩ := HD.out; rw [hd]; exact below_draws (Below.refl _ _) _
    have HDD : Hid (∀ n, ∃ d, wo.drewN n = w.drewN d) := fun n => by obtain ⟨d, hd⟩ := HD.out; rw [hd]; exact ⟨d + n, World.drewN_drewN ..⟩
    clear hro
    by_cases hlt : k < n2
    · obtain ⟨b, off, x, rfl, _, hx, kx⟩ := HH.out.at_ hlt
      have l0 : (0 : Int) ≤ (k : Int) := by omega
      have l1 : (k : Int) < (n2 : Int) := by omega
      have W3 := sIn_any x 0 (S - 1)
      cases p0 : inB x 0 (S - 1) with
      | false =>
        rw [p0] at W3
        have HN : Hid (allIn P 0 (S - 1) = false) := by
          show _ = _
          rw [allIn, List.all_eq_false]
          exact ⟨x, List.mem_of_getElem? hx.out, by rw [p0]; decide⟩
        clear p0 hx HD
        go_wp2_with fail
        go_quiet (first | (go_at_call_of 104 (Value.int .i64 x); exact quietL (W3 _)))
        go_wp2_with fail
        go_ret
        exact ⟨ret_bool HN.out.symm, HBB.out _⟩
      | true =>
        rw [p0] at W3
        have HN := Lib.hid (allTk hall.out hx.out p0)
        clear p0 hx HD
        go_wp2_with fail
        go_quiet (first | (go_at_call_of 104 (Value.int .i64 x); exact quietL (W3 _)))
        go_wp2_with fail
        go_roundg (gk - 1)
        case measure => omega
        case rel => exact ⟨k + 1, by go_num, by omega, by omega, HN.out, HDD.out _⟩
    · have l1 : (n2 : Int) ≤ (k : Int) := by omega
      have HN : Hid (allIn P 0 (S - 1) = true) := by
        have h := hall.out
        rw [List.take_of_length_le (by have := HL.out; omega)] at h
        exact h
      clear HD
      go_wp2_with fail
      go_ret
      exact ⟨ret_bool HN.out.symm, HBC.out⟩
theorem sPlain_any (g : Nat) (S T : Int) (A2 : Option Addr) (n2 c2 : Nat) (A3 : Option Addr) (n3 c3 : Nat) (P : List Int) (w : World) (hr : Row w g 33 (BxP S T A2 n2 c2 A3 n3 c3)) (h2 : SlI w w.heap.size A2 n2 P) (hn : n2 ≤ 4294967296) :
    Calls Try.prog 78 #[.pointer (some ⟨g, 0, none⟩)] w fun e w' => e = .returned (.bool (vpB S T n2 n3 P)) ∧ Below w.heap.size w w' := by
  unfold vpB
  cases e1 : inB S 1 64 with
  | false => exact sPlain_no1 g S T A2 n2 c2 A3 n3 c3 P w hr h2 hn e1
  | true =>
    cases e2 : inB T 1 4 with
    | false => exact sPlain_no2 g S T A2 n2 c2 A3 n3 c3 P w hr h2 hn e1 e2
    | true =>
      by_cases e3 : (n2 : Int) = S * T
      · by_cases e5 : (n3 : Int) = S
        · rw [decide_eq_true e3, decide_eq_true e5]
          have h := sPlain_loop g S T A2 n2 c2 A3 n3 c3 P w hr h2 hn e1 e2 e3 e5
          cases e4 : allIn P 0 (S - 1) with
          | false => rw [e4] at h; exact h
          | true => rw [e4] at h; exact h
        · rw [decide_eq_true e3, decide_eq_false e5, Bool.and_false]; exact sPlain_no4 g S T A2 n2 c2 A3 n3 c3 P w hr h2 hn e1 e2 e3 e5
      · rw [decide_eq_false e3]; exact sPlain_no3 g S T A2 n2 c2 A3 n3 c3 P w hr h2 hn e1 e2 e3
end Go.Proofs.Ytbdfbmohdbigfaa