/- FnExactIsLongWord: the walk: the law returns true. -/
import Derived.Test.YtdpaldiomijijaaLong
import Derived.Test.YtdpaldiomijijaaCp
namespace Go.Proofs.Ytdpaldiomijijaa.fnExactIsLongWord
open Go.RowKit
set_option linter.unusedVariables false
set_option maxHeartbeats 400000 in
theorem walk (a0 : Option Addr) (len0 cap0 : Nat) (z0 : List Int) (a1 : Int) (w : World) (w0 : IsRow .i64 w a0 len0 cap0 z0) (w1 : (Lit.int .i64 a1).wf = true) :
    Calls Try.prog 5 #[.slice a0 len0 cap0, .int .i64 a1] w fun e w' => e = .returned (.bool true) ∧ Below w.heap.size w w' := by
  have hlen := w0.lens
  have hm := hlen.2.1
  unfold maxLen at hm
  have hlc := hlen.1
  clear hlen
  have H := Lib.hid w0.sl; clear w0
  generalize z0.take len0 = xs at H
  have hl := Lib.hid (SlI.len H.out)
  by_cases h : len0 ≤ 1048576
  · go_enter Try.func5, Try.ntmps5
    go_wp2_with fail
    refine (toInt64S_any _ _ _ _ _ H.out (by omega)).mono ?_; rintro e w1 ⟨g1, rfl, hg1, hr1, hb1⟩
    have HR1 := Lib.hid hr1; clear hr1
    go_wp2_with fail
    refine (sIsLong_any _ _ _ xs _ w1.heap.size _ (by have := HR1.out.sl; rw [iv_length, hl.out] at this; exact this) (by omega)).mono ?_; rintro e w' ⟨rfl, rfl⟩
    have s1 := hb1.size
    go_wp2_with fail
    refine (toInt64S_any _ _ _ _ _ ((H.out.below hb1 (Nat.le_refl _)).more hb1.size) (by omega)).mono ?_; rintro e w2 ⟨g2, rfl, hg2, hr2, hb2⟩
    have HR2 := Lib.hid hr2; clear hr2
    have s2 := hb2.size
    go_wp2_with fail
    refine (iIsLong_any _ _ _ xs _ w2.heap.size _ (by have := HR2.out.sl; rw [iv_length, hl.out] at this; exact this) (by omega)).mono ?_; rintro e w' ⟨rfl, rfl⟩
    go_wp2_with fail
    refine (toInt64S_any _ _ _ _ _ (((H.out.below hb1 (Nat.le_refl _)).below hb2 (by omega)).more (by omega)) (by omega)).mono ?_; rintro e w3 ⟨g3, rfl, hg3, hr3, hb3⟩
    have HR3 := Lib.hid hr3; clear hr3
    have s3 := hb3.size
    go_wp2_with fail
    refine (eqInt64S_any _ _ _ xs _ _ _ xs _ w3.heap.size w3.heap.size ?_ ?_ (by omega) (by omega)).mono ?_
    · have := (HR2.out.below hb3 HR2.out.lt).sl; rw [iv_length, hl.out] at this; exact this
    · have := HR3.out.sl; rw [iv_length, hl.out] at this; exact this
    rintro e w4 ⟨rfl, hb4⟩
    go_wp2
    go_ret
    exact ⟨rfl, ((hb1.trans (hb2.mono s1)).trans (hb3.mono (by omega))).trans (hb4.mono (by omega))⟩
  · go_enter Try.func5, Try.ntmps5
    go_wp2
    go_ret
    exact ⟨rfl, Below.refl _ _⟩
end Go.Proofs.Ytdpaldiomijijaa.fnExactIsLongWord
