/- TrimOf of both programs, as the law takes it. -/
import Derived.Test.YtegponioggpkcaaTmJ
import Derived.Test.YtegponioggpkcaaTmK
namespace Go.Proofs.Ytegponioggpkcaa
open Go.RowKit
set_option linter.unusedVariables false
theorem mc_part2 {w : World} {p2 p3 p4 C2 C3 C4 n2 n3 n4 : Nat} {S T : Int} {L : List A4} {P E : List Int} (h : Mc w w.heap.size (.agg #[.int .i64 S, .int .i64 T, .slice (some ⟨p2, 0, none⟩) n2 C2, .slice (some ⟨p3, 0, none⟩) n3 C3, .slice (some ⟨p4, 0, none⟩) n4 C4]) S T L P E) :
    SlA w w.heap.size (some ⟨p2, 0, none⟩) n2 L ∧ SlI w w.heap.size (some ⟨p3, 0, none⟩) n3 P ∧ SlI w w.heap.size (some ⟨p4, 0, none⟩) n4 E := by
  obtain ⟨A2, m2, c2, A3, m3, c3, A4', m4, c4, e, h2, h3, h4⟩ := h
  simp only [Value.agg.injEq, Array.mk.injEq, List.cons.injEq, Value.slice.injEq, true_and, and_true] at e
  obtain ⟨⟨e1, e2, -⟩, ⟨e3, e4, -⟩, ⟨e5, e6, -⟩⟩ := e
  subst e1 e2 e3 e4 e5 e6
  exact ⟨h2, h3, h4⟩
set_option maxRecDepth 100000 in
set_option maxHeartbeats 4000000 in
theorem iTrim_false (S T : Int) (L : List A4) (P E : List Int) (p2 p3 p4 c2 c3 c4 : Nat) (w : World)
    (h2 : SlA w w.heap.size (some ⟨p2, 0, none⟩) L.length L) (h3 : SlI w w.heap.size (some ⟨p3, 0, none⟩) P.length P) (h4 : SlI w w.heap.size (some ⟨p4, 0, none⟩) E.length E) (hL : L.length ≤ 1048576) (hP : P.length ≤ 1048576) (hE : E.length ≤ 1048576) (hok : vmB S T L P E = false) :
    Calls Try.prog 33 #[.agg #[.int .i64 S, .int .i64 T, .slice (some ⟨p2, 0, none⟩) L.length c2, .slice (some ⟨p3, 0, none⟩) P.length c3, .slice (some ⟨p4, 0, none⟩) E.length c4]] w fun e w' => ∃ v', e = .returned (.tuple #[v', .bool (tmOk S T L P E)]) ∧ McW w' w.heap.size v' (ckI (tmOk S T L P E) (tmS L P E)) (ckI (tmOk S T L P E) T) (ckL (tmOk S T L P E) (tdy (tmL L P E))) (ckL (tmOk S T L P E) (tmPp L P E)) (ckL (tmOk S T L P E) (tmEe L P E)) ∧ Below w.heap.size w w' := by
  have H2 := Lib.hid h2; have H3 := Lib.hid h3; have H4 := Lib.hid h4; have HOK := Lib.hid hok
  have HTO : Hid (tmOk S T L P E = false) := by show (vmB _ _ _ _ _ && _) = _; rw [hok]; rfl
  clear h2 h3 h4 hok
  have rb := (Row.new w 28 [.int .i64 S, .int .i64 T, .slice (some ⟨p2, 0, none⟩) L.length c2, .slice (some ⟨p3, 0, none⟩) P.length c3, .slice (some ⟨p4, 0, none⟩) E.length c4]).alloc (.cells ([.int .i64 0, .int .i64 0, .slice none 0 0, .slice none 0 0, .slice none 0 0] : List Value).toArray 28)
  have rr := Row.new (w.alloc (.cells ([.int .i64 S, .int .i64 T, .slice (some ⟨p2, 0, none⟩) L.length c2, .slice (some ⟨p3, 0, none⟩) P.length c3, .slice (some ⟨p4, 0, none⟩) E.length c4] : List Value).toArray 28)) 28 [.int .i64 0, .int .i64 0, .slice none 0 0, .slice none 0 0, .slice none 0 0]
  rw [show (w.alloc (.cells ([.int .i64 S, .int .i64 T, .slice (some ⟨p2, 0, none⟩) L.length c2, .slice (some ⟨p3, 0, none⟩) P.length c3, .slice (some ⟨p4, 0, none⟩) E.length c4] : List Value).toArray 28)).heap.size = w.heap.size + 1 by simp] at rr
  have bx : Below w.heap.size w ((w.alloc (.cells ([.int .i64 S, .int .i64 T, .slice (some ⟨p2, 0, none⟩) L.length c2, .slice (some ⟨p3, 0, none⟩) P.length c3, .slice (some ⟨p4, 0, none⟩) E.length c4] : List Value).toArray 28)).alloc (.cells ([.int .i64 0, .int .i64 0, .slice none 0 0, .slice none 0 0, .slice none 0 0] : List Value).toArray 28)) := ((Below.refl _ _).alloc (Nat.le_refl _) _).alloc (by simp) _
  have RB := Lib.hid rb; have RR := Lib.hid rr; have BX := Lib.hid bx; clear rb rr bx
  go_enter Try.func33, Try.ntmps33
  go_wp2_with fail
  obtain ⟨x0, hx0⟩ : ∃ x, x = ((w.alloc (.cells ([.int .i64 S, .int .i64 T, .slice (some ⟨p2, 0, none⟩) L.length c2, .slice (some ⟨p3, 0, none⟩) P.length c3, .slice (some ⟨p4, 0, none⟩) E.length c4] : List Value).toArray 28)).alloc (.cells ([.int .i64 0, .int .i64 0, .slice none 0 0, .slice none 0 0, .slice none 0 0] : List Value).toArray 28)) := ⟨_, rfl⟩
  rw [← hx0] at RB RR BX
  change Calls _ _ _ ((w.alloc (.cells ([.int .i64 S, .int .i64 T, .slice (some ⟨p2, 0, none⟩) L.length c2, .slice (some ⟨p3, 0, none⟩) P.length c3, .slice (some ⟨p4, 0, none⟩) E.length c4] : List Value).toArray 28)).alloc (.cells ([.int .i64 0, .int .i64 0, .slice none 0 0, .slice none 0 0, .slice none 0 0] : List Value).toArray 28)) _
  rw [← hx0]
  clear hx0
  refine (iValidMachine_any _ S T L P E x0 ⟨_, _, _, _, _, _, _, _, _, rfl, (H2.out.below BX.out (Nat.le_refl _)).more BX.out.size, (H3.out.below BX.out (Nat.le_refl _)).more BX.out.size, (H4.out.below BX.out (Nat.le_refl _)).more BX.out.size⟩ (by omega) (by omega) (by omega)).mono ?_
  rintro e w1 ⟨rfl, hb1⟩
  have BX1 := Lib.hid (BX.out.trans (hb1.mono BX.out.size))
  have RR1 := Lib.hid (RR.out.below hb1 RR.out.lt)
  have HLE : Hid (w.heap.size ≤ w.heap.size + 1) := Nat.le_succ _
  clear hb1
  rw [HOK.out]
  have r0 := RR1.out.cell 0; have r1 := RR1.out.cell 1; have r2 := RR1.out.cell 2; have r3 := RR1.out.cell 3; have r4 := RR1.out.cell 4
  have f0 := RR1.out.frozen 0; have f1 := RR1.out.frozen 1; have f2 := RR1.out.frozen 2; have f3 := RR1.out.frozen 3; have f4 := RR1.out.frozen 4
  go_wp2_with fail
  clear r0 f0 r1 f1 r2 f2 r3 f3 r4 f4
  have hF := (((((RR1.out.set_ 0 (.int .i64 0)).set_ 1 (.int .i64 0)).set_ 2 (.slice none 0 0)).set_ 3 (.slice none 0 0)).set_ 4 (.slice none 0 0))
  refine bodyPost_ret (results_cell2 rfl _ _ (w.heap.size + 1) 28 #[.int .i64 0, .int .i64 0, .slice none 0 0, .slice none 0 0, .slice none 0 0] (0, 0) _ (.bool false) rfl rfl hF Try.underlying28 rfl (by kernel_rfl)) rfl ?_
  rw [HTO.out]
  refine ⟨_, rfl, ⟨_, _, _, rfl, OwnV.nil _ _ _ _ _, OwnV.nil _ _ _ _ _, OwnV.nil _ _ _ _ _, fun k hk => by simp [Value.ownBlock] at hk, fun k hk => by simp [Value.ownBlock] at hk, fun k hk => by simp [Value.ownBlock] at hk⟩, ?_⟩
  exact (((((BX1.out.setCell (p := ⟨w.heap.size + 1, 0, none⟩) HLE.out _).setCell (p := ⟨w.heap.size + 1, 1, none⟩) HLE.out _).setCell (p := ⟨w.heap.size + 1, 2, none⟩) HLE.out _).setCell (p := ⟨w.heap.size + 1, 3, none⟩) HLE.out _).setCell (p := ⟨w.heap.size + 1, 4, none⟩) HLE.out _)
set_option maxRecDepth 100000 in
set_option maxHeartbeats 4000000 in
theorem sTrim_false (S T : Int) (L : List A4) (P E : List Int) (p2 p3 p4 c2 c3 c4 : Nat) (w : World)
    (h2 : SlA w w.heap.size (some ⟨p2, 0, none⟩) L.length L) (h3 : SlI w w.heap.size (some ⟨p3, 0, none⟩) P.length P) (h4 : SlI w w.heap.size (some ⟨p4, 0, none⟩) E.length E) (hL : L.length ≤ 1048576) (hP : P.length ≤ 1048576) (hE : E.length ≤ 1048576) (hok : vmB S T L P E = false) :
    Calls Try.prog 32 #[.agg #[.int .i64 S, .int .i64 T, .slice (some ⟨p2, 0, none⟩) L.length c2, .slice (some ⟨p3, 0, none⟩) P.length c3, .slice (some ⟨p4, 0, none⟩) E.length c4]] w fun e w' => ∃ v', e = .returned (.tuple #[v', .bool (tmOk S T L P E)]) ∧ McW w' w.heap.size v' (ckI (tmOk S T L P E) (tmS L P E)) (ckI (tmOk S T L P E) T) (ckL (tmOk S T L P E) (tdy (tmL L P E))) (ckL (tmOk S T L P E) (tmPp L P E)) (ckL (tmOk S T L P E) (tmEe L P E)) ∧ Below w.heap.size w w' := by
  have H2 := Lib.hid h2; have H3 := Lib.hid h3; have H4 := Lib.hid h4; have HOK := Lib.hid hok
  have HTO : Hid (tmOk S T L P E = false) := by show (vmB _ _ _ _ _ && _) = _; rw [hok]; rfl
  clear h2 h3 h4 hok
  have rb := (Row.new w 28 [.int .i64 S, .int .i64 T, .slice (some ⟨p2, 0, none⟩) L.length c2, .slice (some ⟨p3, 0, none⟩) P.length c3, .slice (some ⟨p4, 0, none⟩) E.length c4]).alloc (.cells ([.int .i64 0, .int .i64 0, .slice none 0 0, .slice none 0 0, .slice none 0 0] : List Value).toArray 28)
  have rr := Row.new (w.alloc (.cells ([.int .i64 S, .int .i64 T, .slice (some ⟨p2, 0, none⟩) L.length c2, .slice (some ⟨p3, 0, none⟩) P.length c3, .slice (some ⟨p4, 0, none⟩) E.length c4] : List Value).toArray 28)) 28 [.int .i64 0, .int .i64 0, .slice none 0 0, .slice none 0 0, .slice none 0 0]
  rw [show (w.alloc (.cells ([.int .i64 S, .int .i64 T, .slice (some ⟨p2, 0, none⟩) L.length c2, .slice (some ⟨p3, 0, none⟩) P.length c3, .slice (some ⟨p4, 0, none⟩) E.length c4] : List Value).toArray 28)).heap.size = w.heap.size + 1 by simp] at rr
  have bx : Below w.heap.size w ((w.alloc (.cells ([.int .i64 S, .int .i64 T, .slice (some ⟨p2, 0, none⟩) L.length c2, .slice (some ⟨p3, 0, none⟩) P.length c3, .slice (some ⟨p4, 0, none⟩) E.length c4] : List Value).toArray 28)).alloc (.cells ([.int .i64 0, .int .i64 0, .slice none 0 0, .slice none 0 0, .slice none 0 0] : List Value).toArray 28)) := ((Below.refl _ _).alloc (Nat.le_refl _) _).alloc (by simp) _
  have RB := Lib.hid rb; have RR := Lib.hid rr; have BX := Lib.hid bx; clear rb rr bx
  go_enter Try.func32, Try.ntmps32
  go_wp2_with fail
  obtain ⟨x0, hx0⟩ : ∃ x, x = ((w.alloc (.cells ([.int .i64 S, .int .i64 T, .slice (some ⟨p2, 0, none⟩) L.length c2, .slice (some ⟨p3, 0, none⟩) P.length c3, .slice (some ⟨p4, 0, none⟩) E.length c4] : List Value).toArray 28)).alloc (.cells ([.int .i64 0, .int .i64 0, .slice none 0 0, .slice none 0 0, .slice none 0 0] : List Value).toArray 28)) := ⟨_, rfl⟩
  rw [← hx0] at RB RR BX
  change Calls _ _ _ ((w.alloc (.cells ([.int .i64 S, .int .i64 T, .slice (some ⟨p2, 0, none⟩) L.length c2, .slice (some ⟨p3, 0, none⟩) P.length c3, .slice (some ⟨p4, 0, none⟩) E.length c4] : List Value).toArray 28)).alloc (.cells ([.int .i64 0, .int .i64 0, .slice none 0 0, .slice none 0 0, .slice none 0 0] : List Value).toArray 28)) _
  rw [← hx0]
  clear hx0
  refine (sIs_any w.heap.size S T L P E _ _ c2 _ _ c3 _ _ c4 x0.heap.size x0 RB.out (Nat.le_refl _) ((H2.out.below BX.out (Nat.le_refl _)).more BX.out.size) ((H3.out.below BX.out (Nat.le_refl _)).more BX.out.size) ((H4.out.below BX.out (Nat.le_refl _)).more BX.out.size) (by omega) (by omega) (by omega)).mono ?_
  rintro e w1 ⟨rfl, hb1⟩
  have BX1 := Lib.hid (BX.out.trans (hb1.mono BX.out.size))
  have RR1 := Lib.hid (RR.out.below hb1 RR.out.lt)
  have HLE : Hid (w.heap.size ≤ w.heap.size + 1) := Nat.le_succ _
  clear hb1
  rw [HOK.out]
  have r0 := RR1.out.cell 0; have r1 := RR1.out.cell 1; have r2 := RR1.out.cell 2; have r3 := RR1.out.cell 3; have r4 := RR1.out.cell 4
  have f0 := RR1.out.frozen 0; have f1 := RR1.out.frozen 1; have f2 := RR1.out.frozen 2; have f3 := RR1.out.frozen 3; have f4 := RR1.out.frozen 4
  go_wp2_with fail
  clear r0 f0 r1 f1 r2 f2 r3 f3 r4 f4
  have hF := (((((RR1.out.set_ 0 (.int .i64 0)).set_ 1 (.int .i64 0)).set_ 2 (.slice none 0 0)).set_ 3 (.slice none 0 0)).set_ 4 (.slice none 0 0))
  refine bodyPost_ret (results_cell2 rfl _ _ (w.heap.size + 1) 28 #[.int .i64 0, .int .i64 0, .slice none 0 0, .slice none 0 0, .slice none 0 0] (0, 0) _ (.bool false) rfl rfl hF Try.underlying28 rfl (by kernel_rfl)) rfl ?_
  rw [HTO.out]
  refine ⟨_, rfl, ⟨_, _, _, rfl, OwnV.nil _ _ _ _ _, OwnV.nil _ _ _ _ _, OwnV.nil _ _ _ _ _, fun k hk => by simp [Value.ownBlock] at hk, fun k hk => by simp [Value.ownBlock] at hk, fun k hk => by simp [Value.ownBlock] at hk⟩, ?_⟩
  exact (((((BX1.out.setCell (p := ⟨w.heap.size + 1, 0, none⟩) HLE.out _).setCell (p := ⟨w.heap.size + 1, 1, none⟩) HLE.out _).setCell (p := ⟨w.heap.size + 1, 2, none⟩) HLE.out _).setCell (p := ⟨w.heap.size + 1, 3, none⟩) HLE.out _).setCell (p := ⟨w.heap.size + 1, 4, none⟩) HLE.out _)
theorem iTrimL_any (p2 p3 p4 C2 C3 C4 : Nat) (S T : Int) (L : List A4) (P E : List Int) (w : World)
    (h : Mc w w.heap.size (.agg #[.int .i64 S, .int .i64 T, .slice (some ⟨p2, 0, none⟩) L.length C2, .slice (some ⟨p3, 0, none⟩) P.length C3, .slice (some ⟨p4, 0, none⟩) E.length C4]) S T L P E)
    (hL : L.length ≤ 1048576) (hP : P.length ≤ 1048576) (hE : E.length ≤ 1048576) :
    Calls Try.prog 33 #[.agg #[.int .i64 S, .int .i64 T, .slice (some ⟨p2, 0, none⟩) L.length C2, .slice (some ⟨p3, 0, none⟩) P.length C3, .slice (some ⟨p4, 0, none⟩) E.length C4]] w fun e w' => ∃ v', e = .returned (.tuple #[v', .bool (tmOk S T L P E)]) ∧ McW w' w.heap.size v' (ckI (tmOk S T L P E) (tmS L P E)) (ckI (tmOk S T L P E) T) (ckL (tmOk S T L P E) (tdy (tmL L P E))) (ckL (tmOk S T L P E) (tmPp L P E)) (ckL (tmOk S T L P E) (tmEe L P E)) ∧ Below w.heap.size w w' := by
  obtain ⟨a2, a3, a4⟩ := mc_part2 h
  cases hok : vmB S T L P E with
  | false => exact iTrim_false S T L P E p2 p3 p4 C2 C3 C4 w a2 a3 a4 hL hP hE hok
  | true =>
    obtain ⟨qS, -⟩ := vmB_true hok
    obtain ⟨n, rfl⟩ : ∃ n : Nat, S = (n : Int) := ⟨S.toNat, by omega⟩
    exact iTrim_true n T L P E p2 p3 p4 C2 C3 C4 w a2 a3 a4 hok
theorem sTrimL_any (p2 p3 p4 C2 C3 C4 : Nat) (S T : Int) (L : List A4) (P E : List Int) (w : World)
    (h : Mc w w.heap.size (.agg #[.int .i64 S, .int .i64 T, .slice (some ⟨p2, 0, none⟩) L.length C2, .slice (some ⟨p3, 0, none⟩) P.length C3, .slice (some ⟨p4, 0, none⟩) E.length C4]) S T L P E)
    (hL : L.length ≤ 1048576) (hP : P.length ≤ 1048576) (hE : E.length ≤ 1048576) :
    Calls Try.prog 32 #[.agg #[.int .i64 S, .int .i64 T, .slice (some ⟨p2, 0, none⟩) L.length C2, .slice (some ⟨p3, 0, none⟩) P.length C3, .slice (some ⟨p4, 0, none⟩) E.length C4]] w fun e w' => ∃ v', e = .returned (.tuple #[v', .bool (tmOk S T L P E)]) ∧ McW w' w.heap.size v' (ckI (tmOk S T L P E) (tmS L P E)) (ckI (tmOk S T L P E) T) (ckL (tmOk S T L P E) (tdy (tmL L P E))) (ckL (tmOk S T L P E) (tmPp L P E)) (ckL (tmOk S T L P E) (tmEe L P E)) ∧ Below w.heap.size w w' := by
  obtain ⟨a2, a3, a4⟩ := mc_part2 h
  cases hok : vmB S T L P E with
  | false => exact sTrim_false S T L P E p2 p3 p4 C2 C3 C4 w a2 a3 a4 hL hP hE hok
  | true =>
    obtain ⟨qS, -⟩ := vmB_true hok
    obtain ⟨n, rfl⟩ : ∃ n : Nat, S = (n : Int) := ⟨S.toNat, by omega⟩
    exact sTrim_true n T L P E p2 p3 p4 C2 C3 C4 w a2 a3 a4 hok
theorem tmOk_in {S T : Int} {L : List A4} {P E : List Int} (h : tmOk S T L P E = true) : vmB S T L P E = true := by
  unfold tmOk at h; simp only [Bool.and_eq_true] at h; exact h.1
theorem tmA_ck {S T : Int} {L : List A4} {P E : List Int} : (ckL (tmOk S T L P E) (tdy (tmL L P E))).length ≤ 1048576 := ckL_len fun h => by
  obtain ⟨qS, qT, qL, -⟩ := vmB_true (tmOk_in h)
  have := tdy_len (tmL L P E); have := tmL_len L P E; omega
theorem tmP_ck {S T : Int} {L : List A4} {P E : List Int} : (ckL (tmOk S T L P E) (tmPp L P E)).length ≤ 1048576 := ckL_len fun h => by
  obtain ⟨qS, qT, qL, qA, qP, qE⟩ := vmB_true (tmOk_in h)
  obtain ⟨q1, -⟩ := mkB_true qP
  have := tmS_le L P E; rw [tmPp_len]; omega
theorem tmE_ck {S T : Int} {L : List A4} {P E : List Int} : (ckL (tmOk S T L P E) (tmEe L P E)).length ≤ 1048576 := ckL_len fun h => by
  obtain ⟨qS, qT, qL, qA, qP, qE⟩ := vmB_true (tmOk_in h)
  obtain ⟨q1, -⟩ := mkB_true qP
  have := tmS_le L P E; rw [tmEe_len]; omega
end Go.Proofs.Ytegponioggpkcaa
