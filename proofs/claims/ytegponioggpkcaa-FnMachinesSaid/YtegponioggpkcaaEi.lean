/- EitherOf of the program. -/
import Derived.Test.YtegponioggpkcaaMgj

namespace Go.Proofs.Ytegponioggpkcaa
open Go.RowKit
set_option linter.unusedVariables false
set_option maxRecDepth 100000 in
set_option maxHeartbeats 16000000 in
theorem iEither_any (S T : Int) (L : List A4) (P E : List Int) (p2 p3 p4 C2 C3 C4 : Nat) (S' T' : Int) (L' : List A4) (P' E' : List Int) (q2 q3 q4 D2 D3 D4 : Nat) (w : World)
    (h2 : SlA w w.heap.size (some ⟨p2, 0, none⟩) L.length L) (h3 : SlI w w.heap.size (some ⟨p3, 0, none⟩) P.length P) (h4 : SlI w w.heap.size (some ⟨p4, 0, none⟩) E.length E)
    (k2 : SlA w w.heap.size (some ⟨q2, 0, none⟩) L'.length L') (k3 : SlI w w.heap.size (some ⟨q3, 0, none⟩) P'.length P') (k4 : SlI w w.heap.size (some ⟨q4, 0, none⟩) E'.length E')
    (hL : L.length ≤ 1048576) (hP : P.length ≤ 1048576) (hE : E.length ≤ 1048576) (kL : L'.length ≤ 1048576) (kP : P'.length ≤ 1048576) (kE : E'.length ≤ 1048576) :
    Calls Try.prog 11 #[.agg #[.int .i64 S, .int .i64 T, .slice (some ⟨p2, 0, none⟩) L.length C2, .slice (some ⟨p3, 0, none⟩) P.length C3, .slice (some ⟨p4, 0, none⟩) E.length C4], .agg #[.int .i64 S', .int .i64 T', .slice (some ⟨q2, 0, none⟩) L'.length D2, .slice (some ⟨q3, 0, none⟩) P'.length D3, .slice (some ⟨q4, 0, none⟩) E'.length D4]] w fun e w' => ∃ v' hi, e = .returned (.tuple #[v', .bool (eiOk S T L P E S' T' L' P' E')]) ∧ hi ≤ w'.heap.size ∧ McO w' w.heap.size hi v' (ckI (eiOk S T L P E S' T' L' P' E') (S + S')) (ckI (eiOk S T L P E S' T' L' P' E') T) (ckL (eiOk S T L P E S' T' L' P' E') (eiL S L L')) (ckL (eiOk S T L P E S' T' L' P' E') (P ++ P')) (ckL (eiOk S T L P E S' T' L' P' E') (E ++ E')) ∧ Below w.heap.size w w' := by
  have ra := ((Row.new w 28 [.int .i64 S, .int .i64 T, .slice (some ⟨p2, 0, none⟩) L.length C2, .slice (some ⟨p3, 0, none⟩) P.length C3, .slice (some ⟨p4, 0, none⟩) E.length C4]).alloc (.cells ([.int .i64 S', .int .i64 T', .slice (some ⟨q2, 0, none⟩) L'.length D2, .slice (some ⟨q3, 0, none⟩) P'.length D3, .slice (some ⟨q4, 0, none⟩) E'.length D4] : List Value).toArray 28)).alloc (.cells ([.int .i64 0, .int .i64 0, .slice none 0 0, .slice none 0 0, .slice none 0 0] : List Value).toArray 28)
  have rb := (Row.new (w.alloc (.cells ([.int .i64 S, .int .i64 T, .slice (some ⟨p2, 0, none⟩) L.length C2, .slice (some ⟨p3, 0, none⟩) P.length C3, .slice (some ⟨p4, 0, none⟩) E.length C4] : List Value).toArray 28)) 28 [.int .i64 S', .int .i64 T', .slice (some ⟨q2, 0, none⟩) L'.length D2, .slice (some ⟨q3, 0, none⟩) P'.length D3, .slice (some ⟨q4, 0, none⟩) E'.length D4]).alloc (.cells ([.int .i64 0, .int .i64 0, .slice none 0 0, .slice none 0 0, .slice none 0 0] : List Value).toArray 28)
  have rr := Row.new ((w.alloc (.cells ([.int .i64 S, .int .i64 T, .slice (some ⟨p2, 0, none⟩) L.length C2, .slice (some ⟨p3, 0, none⟩) P.length C3, .slice (some ⟨p4, 0, none⟩) E.length C4] : List Value).toArray 28)).alloc (.cells ([.int .i64 S', .int .i64 T', .slice (some ⟨q2, 0, none⟩) L'.length D2, .slice (some ⟨q3, 0, none⟩) P'.length D3, .slice (some ⟨q4, 0, none⟩) E'.length D4] : List Value).toArray 28)) 28 [.int .i64 0, .int .i64 0, .slice none 0 0, .slice none 0 0, .slice none 0 0]
  rw [show (w.alloc (.cells ([.int .i64 S, .int .i64 T, .slice (some ⟨p2, 0, none⟩) L.length C2, .slice (some ⟨p3, 0, none⟩) P.length C3, .slice (some ⟨p4, 0, none⟩) E.length C4] : List Value).toArray 28)).heap.size = w.heap.size + 1 by simp] at rb
  rw [show ((w.alloc (.cells ([.int .i64 S, .int .i64 T, .slice (some ⟨p2, 0, none⟩) L.length C2, .slice (some ⟨p3, 0, none⟩) P.length C3, .slice (some ⟨p4, 0, none⟩) E.length C4] : List Value).toArray 28)).alloc (.cells ([.int .i64 S', .int .i64 T', .slice (some ⟨q2, 0, none⟩) L'.length D2, .slice (some ⟨q3, 0, none⟩) P'.length D3, .slice (some ⟨q4, 0, none⟩) E'.length D4] : List Value).toArray 28)).heap.size = w.heap.size + 1 + 1 by simp] at rr
  have bx : Below w.heap.size w (((w.alloc (.cells ([.int .i64 S, .int .i64 T, .slice (some ⟨p2, 0, none⟩) L.length C2, .slice (some ⟨p3, 0, none⟩) P.length C3, .slice (some ⟨p4, 0, none⟩) E.length C4] : List Value).toArray 28)).alloc (.cells ([.int .i64 S', .int .i64 T', .slice (some ⟨q2, 0, none⟩) L'.length D2, .slice (some ⟨q3, 0, none⟩) P'.length D3, .slice (some ⟨q4, 0, none⟩) E'.length D4] : List Value).toArray 28)).alloc (.cells ([.int .i64 0, .int .i64 0, .slice none 0 0, .slice none 0 0, .slice none 0 0] : List Value).toArray 28)) := (((Below.refl _ _).alloc (Nat.le_refl _) _).alloc (by simp) _).alloc (by simp; omega) _
  have RA := Lib.hid ra; have RB := Lib.hid rb; have RR := Lib.hid rr; have BX := Lib.hid bx; clear ra rb rr bx
  have H2 := Lib.hid h2; have H3 := Lib.hid h3; have H4 := Lib.hid h4; have K2 := Lib.hid k2; have K3 := Lib.hid k3; have K4 := Lib.hid k4
  clear h2 h3 h4 k2 k3 k4
  have a0 := RA.out.cell 0; have a1 := RA.out.cell 1; have a2 := RA.out.cell 2; have a3 := RA.out.cell 3; have a4 := RA.out.cell 4
  go_enter Try.func11, Try.ntmps11
  go_wp2_with fail
  clear a0 a1 a2 a3 a4
  obtain ⟨x0, hx0⟩ : ∃ x, x = ((w.alloc (.cells ([.int .i64 S, .int .i64 T, .slice (some ⟨p2, 0, none⟩) L.length C2, .slice (some ⟨p3, 0, none⟩) P.length C3, .slice (some ⟨p4, 0, none⟩) E.length C4] : List Value).toArray 28)).alloc (.cells ([.int .i64 S', .int .i64 T', .slice (some ⟨q2, 0, none⟩) L'.length D2, .slice (some ⟨q3, 0, none⟩) P'.length D3, .slice (some ⟨q4, 0, none⟩) E'.length D4] : List Value).toArray 28)).alloc (.cells ([.int .i64 0, .int .i64 0, .slice none 0 0, .slice none 0 0, .slice none 0 0] : List Value).toArray 28) := ⟨_, rfl⟩
  rw [← hx0] at RA RB RR BX
  change Calls _ _ _ (((w.alloc (.cells ([.int .i64 S, .int .i64 T, .slice (some ⟨p2, 0, none⟩) L.length C2, .slice (some ⟨p3, 0, none⟩) P.length C3, .slice (some ⟨p4, 0, none⟩) E.length C4] : List Value).toArray 28)).alloc (.cells ([.int .i64 S', .int .i64 T', .slice (some ⟨q2, 0, none⟩) L'.length D2, .slice (some ⟨q3, 0, none⟩) P'.length D3, .slice (some ⟨q4, 0, none⟩) E'.length D4] : List Value).toArray 28)).alloc (.cells ([.int .i64 0, .int .i64 0, .slice none 0 0, .slice none 0 0, .slice none 0 0] : List Value).toArray 28)) _
  rw [← hx0]
  clear hx0
  refine (iValidMachine_any _ S T L P E x0 ⟨_, _, _, _, _, _, _, _, _, rfl, (H2.out.below BX.out (Nat.le_refl _)).more BX.out.size, (H3.out.below BX.out (Nat.le_refl _)).more BX.out.size, (H4.out.below BX.out (Nat.le_refl _)).more BX.out.size⟩ (by omega) (by omega) (by omega)).mono ?_
  rintro e w1 ⟨rfl, hb1⟩
  have BX1 := Lib.hid (BX.out.trans (hb1.mono BX.out.size))
  have RA1 := Lib.hid (RA.out.below hb1 RA.out.lt); have RB1 := Lib.hid (RB.out.below hb1 RB.out.lt); have RR1 := Lib.hid (RR.out.below hb1 RR.out.lt)
  clear hb1
  obtain ⟨ok, hok⟩ : ∃ ok, ok = vmB S T L P E := ⟨_, rfl⟩
  rw [← hok]
  have HOK := Lib.hid hok; clear hok
  cases ok with
  | false =>
    have r0 := RR1.out.cell 0; have r1 := RR1.out.cell 1; have r2 := RR1.out.cell 2; have r3 := RR1.out.cell 3; have r4 := RR1.out.cell 4
    have f0 := RR1.out.frozen 0; have f1 := RR1.out.frozen 1; have f2 := RR1.out.frozen 2; have f3 := RR1.out.frozen 3; have f4 := RR1.out.frozen 4
    go_wp2_with fail
    clear r0 f0 r1 f1 r2 f2 r3 f3 r4 f4
    have hF := (((((RR1.out.set_ 0 (.int .i64 0)).set_ 1 (.int .i64 0)).set_ 2 (.slice none 0 0)).set_ 3 (.slice none 0 0)).set_ 4 (.slice none 0 0))
    refine bodyPost_ret (results_cell2 rfl _ _ (w.heap.size + 1 + 1) 28 #[.int .i64 0, .int .i64 0, .slice none 0 0, .slice none 0 0, .slice none 0 0] (0, 0) _ (.bool false) rfl rfl hF Try.underlying28 rfl (by kernel_rfl)) rfl ?_
    have hf : eiOk S T L P E S' T' L' P' E' = false := by unfold eiOk; rw [← HOK.out]; rfl
    rw [hf]
    have hle : w.heap.size ≤ w.heap.size + 1 + 1 := by omega
    have hbF := (((((BX1.out.setCell (p := ⟨w.heap.size + 1 + 1, 0, none⟩) hle (.int .i64 0)).setCell (p := ⟨w.heap.size + 1 + 1, 1, none⟩) hle (.int .i64 0)).setCell (p := ⟨w.heap.size + 1 + 1, 2, none⟩) hle (.slice none 0 0)).setCell (p := ⟨w.heap.size + 1 + 1, 3, none⟩) hle (.slice none 0 0)).setCell (p := ⟨w.heap.size + 1 + 1, 4, none⟩) hle (.slice none 0 0))
    exact ⟨_, w.heap.size, rfl, hbF.size, ⟨_, _, _, rfl, OwnV.nil _ _ _ _ _, OwnV.nil _ _ _ _ _, OwnV.nil _ _ _ _ _, fun k hk => by simp [Value.ownBlock] at hk, fun k hk => by simp [Value.ownBlock] at hk, fun k hk => by simp [Value.ownBlock] at hk⟩, hbF⟩
  | true =>
  have b0 := RB1.out.cell 0; have b1 := RB1.out.cell 1; have b2 := RB1.out.cell 2; have b3 := RB1.out.cell 3; have b4 := RB1.out.cell 4
  go_wp2_with fail
  clear b0 b1 b2 b3 b4
  refine (iValidMachine_any _ S' T' L' P' E' w1 ⟨_, _, _, _, _, _, _, _, _, rfl, (K2.out.below BX1.out (Nat.le_refl _)).more BX1.out.size, (K3.out.below BX1.out (Nat.le_refl _)).more BX1.out.size, (K4.out.below BX1.out (Nat.le_refl _)).more BX1.out.size⟩ (by omega) (by omega) (by omega)).mono ?_
  rintro e w2 ⟨rfl, hb2⟩
  have BX2 := Lib.hid (BX1.out.trans (hb2.mono BX1.out.size))
  have RA2 := Lib.hid (RA1.out.below hb2 RA1.out.lt); have RB2 := Lib.hid (RB1.out.below hb2 RB1.out.lt); have RR2 := Lib.hid (RR1.out.below hb2 RR1.out.lt)
  clear hb2
  obtain ⟨ok', hok'⟩ : ∃ ok, ok = vmB S' T' L' P' E' := ⟨_, rfl⟩
  rw [← hok']
  have HOK' := Lib.hid hok'; clear hok'
  cases ok' with
  | false =>
    have r0 := RR2.out.cell 0; have r1 := RR2.out.cell 1; have r2 := RR2.out.cell 2; have r3 := RR2.out.cell 3; have r4 := RR2.out.cell 4
    have f0 := RR2.out.frozen 0; have f1 := RR2.out.frozen 1; have f2 := RR2.out.frozen 2; have f3 := RR2.out.frozen 3; have f4 := RR2.out.frozen 4
    go_wp2_with fail
    clear r0 f0 r1 f1 r2 f2 r3 f3 r4 f4
    have hF := (((((RR2.out.set_ 0 (.int .i64 0)).set_ 1 (.int .i64 0)).set_ 2 (.slice none 0 0)).set_ 3 (.slice none 0 0)).set_ 4 (.slice none 0 0))
    refine bodyPost_ret (results_cell2 rfl _ _ (w.heap.size + 1 + 1) 28 #[.int .i64 0, .int .i64 0, .slice none 0 0, .slice none 0 0, .slice none 0 0] (0, 0) _ (.bool false) rfl rfl hF Try.underlying28 rfl (by kernel_rfl)) rfl ?_
    have hf : eiOk S T L P E S' T' L' P' E' = false := by unfold eiOk; rw [← HOK.out, ← HOK'.out]; rfl
    rw [hf]
    have hle : w.heap.size ≤ w.heap.size + 1 + 1 := by omega
    have hbF := (((((BX2.out.setCell (p := ⟨w.heap.size + 1 + 1, 0, none⟩) hle (.int .i64 0)).setCell (p := ⟨w.heap.size + 1 + 1, 1, none⟩) hle (.int .i64 0)).setCell (p := ⟨w.heap.size + 1 + 1, 2, none⟩) hle (.slice none 0 0)).setCell (p := ⟨w.heap.size + 1 + 1, 3, none⟩) hle (.slice none 0 0)).setCell (p := ⟨w.heap.size + 1 + 1, 4, none⟩) hle (.slice none 0 0))
    exact ⟨_, w.heap.size, rfl, hbF.size, ⟨_, _, _, rfl, OwnV.nil _ _ _ _ _, OwnV.nil _ _ _ _ _, OwnV.nil _ _ _ _ _, fun k hk => by simp [Value.ownBlock] at hk, fun k hk => by simp [Value.ownBlock] at hk, fun k hk => by simp [Value.ownBlock] at hk⟩, hbF⟩
  | true =>
  by_cases hTT : T = T'
  case neg =>
    have c1 := RA2.out.cell 1; have d1 := RB2.out.cell 1
    have hnq : (T == T') = false := by rw [beq_eq_false_iff_ne]; exact hTT
    have hnq2 : (T != T') = true := by rw [bne, hnq]; rfl
    have HTN := Lib.hid hTT; clear hTT
    have r0 := RR2.out.cell 0; have r1 := RR2.out.cell 1; have r2 := RR2.out.cell 2; have r3 := RR2.out.cell 3; have r4 := RR2.out.cell 4
    have f0 := RR2.out.frozen 0; have f1 := RR2.out.frozen 1; have f2 := RR2.out.frozen 2; have f3 := RR2.out.frozen 3; have f4 := RR2.out.frozen 4
    go_wp2_with fail
    clear r0 f0 r1 f1 r2 f2 r3 f3 r4 f4
    have hF := (((((RR2.out.set_ 0 (.int .i64 0)).set_ 1 (.int .i64 0)).set_ 2 (.slice none 0 0)).set_ 3 (.slice none 0 0)).set_ 4 (.slice none 0 0))
    refine bodyPost_ret (results_cell2 rfl _ _ (w.heap.size + 1 + 1) 28 #[.int .i64 0, .int .i64 0, .slice none 0 0, .slice none 0 0, .slice none 0 0] (0, 0) _ (.bool false) rfl rfl hF Try.underlying28 rfl (by kernel_rfl)) rfl ?_
    have hf : eiOk S T L P E S' T' L' P' E' = false := by unfold eiOk; rw [decide_eq_false HTN.out]; simp
    rw [hf]
    have hle : w.heap.size ≤ w.heap.size + 1 + 1 := by omega
    have hbF := (((((BX2.out.setCell (p := ⟨w.heap.size + 1 + 1, 0, none⟩) hle (.int .i64 0)).setCell (p := ⟨w.heap.size + 1 + 1, 1, none⟩) hle (.int .i64 0)).setCell (p := ⟨w.heap.size + 1 + 1, 2, none⟩) hle (.slice none 0 0)).setCell (p := ⟨w.heap.size + 1 + 1, 3, none⟩) hle (.slice none 0 0)).setCell (p := ⟨w.heap.size + 1 + 1, 4, none⟩) hle (.slice none 0 0))
    exact ⟨_, w.heap.size, rfl, hbF.size, ⟨_, _, _, rfl, OwnV.nil _ _ _ _ _, OwnV.nil _ _ _ _ _, OwnV.nil _ _ _ _ _, fun k hk => by simp [Value.ownBlock] at hk, fun k hk => by simp [Value.ownBlock] at hk, fun k hk => by simp [Value.ownBlock] at hk⟩, hbF⟩
  subst hTT
  obtain ⟨qS, qT, qL, qA, qP, qE⟩ := vmB_true HOK.out.symm
  obtain ⟨qP1, qP2⟩ := mkB_true qP
  obtain ⟨qE1, qE2⟩ := mkB_true qE
  obtain ⟨rS, rT, rL, rA, rP, rE⟩ := vmB_true HOK'.out.symm
  obtain ⟨rP1, rP2⟩ := mkB_true rP
  obtain ⟨rE1, rE2⟩ := mkB_true rE
  have QA : Hid (∀ a ∈ L', -1000 ≤ a.1 ∧ a.1 ≤ 1000 ∧ -1000 ≤ a.2.1 ∧ a.2.1 ≤ 1000) := fun a ha => by have := okAm_true (rA a ha); omega
  have nP : P.length ≤ 16 ∧ 1 ≤ P.length := by omega
  have nE : E.length ≤ 16 ∧ 1 ≤ E.length := by omega
  have mP : P'.length ≤ 16 ∧ 1 ≤ P'.length := by omega
  have mE : E'.length ≤ 16 ∧ 1 ≤ E'.length := by omega
  clear qA qP qE qP2 qE2 rA rP rE rP2 rE2
  have c1 := RA2.out.cell 1; have d1 := RB2.out.cell 1
  have LT2 : Hid (w.heap.size + 1 + 1 < w2.heap.size) := RR2.out.lt
  go_wp2_with fail
  clear c1 d1
  have hcells : Hid (∀ x : World, Lo w2.heap.size (w.heap.size + 1 + 1) w2 x → (x.cell? ⟨w.heap.size, 0, none⟩ = some (.int .i64 S) ∧ x.cell? ⟨w.heap.size, 1, none⟩ = some (.int .i64 T) ∧ x.cell? ⟨w.heap.size, 2, none⟩ = some (.slice (some ⟨p2, 0, none⟩) L.length C2) ∧ x.cell? ⟨w.heap.size, 3, none⟩ = some (.slice (some ⟨p3, 0, none⟩) P.length C3) ∧ x.cell? ⟨w.heap.size, 4, none⟩ = some (.slice (some ⟨p4, 0, none⟩) E.length C4) ∧ x.cell? ⟨w.heap.size + 1, 0, none⟩ = some (.int .i64 S') ∧ x.cell? ⟨w.heap.size + 1, 2, none⟩ = some (.slice (some ⟨q2, 0, none⟩) L'.length D2) ∧ x.cell? ⟨w.heap.size + 1, 3, none⟩ = some (.slice (some ⟨q3, 0, none⟩) P'.length D3) ∧ x.cell? ⟨w.heap.size + 1, 4, none⟩ = some (.slice (some ⟨q4, 0, none⟩) E'.length D4))) := by
    intro x hx
    have r := hx.row RA2.out (by have := LT2.out; omega) (by omega)
    have r' := hx.row RB2.out (by have := LT2.out; omega) (by omega)
    exact ⟨r.cell 0, r.cell 1, r.cell 2, r.cell 3, r.cell 4, r'.cell 0, r'.cell 2, r'.cell 3, r'.cell 4⟩
  have hkeep : Hid (∀ x y : World, Lo w2.heap.size (w.heap.size + 1 + 1) w2 x → Below w2.heap.size x y → (Lo w2.heap.size (w.heap.size + 1 + 1) w2 y ∧ y.cell? ⟨w.heap.size, 0, none⟩ = some (.int .i64 S) ∧ y.cell? ⟨w.heap.size, 1, none⟩ = some (.int .i64 T) ∧ y.cell? ⟨w.heap.size, 2, none⟩ = some (.slice (some ⟨p2, 0, none⟩) L.length C2) ∧ y.cell? ⟨w.heap.size, 3, none⟩ = some (.slice (some ⟨p3, 0, none⟩) P.length C3) ∧ y.cell? ⟨w.heap.size, 4, none⟩ = some (.slice (some ⟨p4, 0, none⟩) E.length C4) ∧ y.cell? ⟨w.heap.size + 1, 0, none⟩ = some (.int .i64 S') ∧ y.cell? ⟨w.heap.size + 1, 2, none⟩ = some (.slice (some ⟨q2, 0, none⟩) L'.length D2) ∧ y.cell? ⟨w.heap.size + 1, 3, none⟩ = some (.slice (some ⟨q3, 0, none⟩) P'.length D3) ∧ y.cell? ⟨w.heap.size + 1, 4, none⟩ = some (.slice (some ⟨q4, 0, none⟩) E'.length D4))) := by
    intro x y h1 h2
    have h3 := h1.trans (Lo.below h2 (Nat.le_refl _))
    exact ⟨h3, hcells.out y h3⟩
  have hkeepA : Hid (∀ (x : World) (ob : Obj), Lo w2.heap.size (w.heap.size + 1 + 1) w2 x → (Lo w2.heap.size (w.heap.size + 1 + 1) w2 (x.alloc ob) ∧ (x.alloc ob).cell? ⟨w.heap.size, 0, none⟩ = some (.int .i64 S) ∧ (x.alloc ob).cell? ⟨w.heap.size, 1, none⟩ = some (.int .i64 T) ∧ (x.alloc ob).cell? ⟨w.heap.size, 2, none⟩ = some (.slice (some ⟨p2, 0, none⟩) L.length C2) ∧ (x.alloc ob).cell? ⟨w.heap.size, 3, none⟩ = some (.slice (some ⟨p3, 0, none⟩) P.length C3) ∧ (x.alloc ob).cell? ⟨w.heap.size, 4, none⟩ = some (.slice (some ⟨p4, 0, none⟩) E.length C4) ∧ (x.alloc ob).cell? ⟨w.heap.size + 1, 0, none⟩ = some (.int .i64 S') ∧ (x.alloc ob).cell? ⟨w.heap.size + 1, 2, none⟩ = some (.slice (some ⟨q2, 0, none⟩) L'.length D2) ∧ (x.alloc ob).cell? ⟨w.heap.size + 1, 3, none⟩ = some (.slice (some ⟨q3, 0, none⟩) P'.length D3) ∧ (x.alloc ob).cell? ⟨w.heap.size + 1, 4, none⟩ = some (.slice (some ⟨q4, 0, none⟩) E'.length D4))) := by
    intro x ob h1
    have h3 := h1.trans (Lo.alloc _ _ x ob h1.2.2.2.1)
    exact ⟨h3, hcells.out _ h3⟩
  have hkeepD : Hid (∀ (x : World) (ob : Obj), Lo w2.heap.size (w.heap.size + 1 + 1) w2 x.drew → (Lo w2.heap.size (w.heap.size + 1 + 1) w2 (x.alloc ob).drew ∧ (x.alloc ob).drew.cell? ⟨w.heap.size, 0, none⟩ = some (.int .i64 S) ∧ (x.alloc ob).drew.cell? ⟨w.heap.size, 1, none⟩ = some (.int .i64 T) ∧ (x.alloc ob).drew.cell? ⟨w.heap.size, 2, none⟩ = some (.slice (some ⟨p2, 0, none⟩) L.length C2) ∧ (x.alloc ob).drew.cell? ⟨w.heap.size, 3, none⟩ = some (.slice (some ⟨p3, 0, none⟩) P.length C3) ∧ (x.alloc ob).drew.cell? ⟨w.heap.size, 4, none⟩ = some (.slice (some ⟨p4, 0, none⟩) E.length C4) ∧ (x.alloc ob).drew.cell? ⟨w.heap.size + 1, 0, none⟩ = some (.int .i64 S') ∧ (x.alloc ob).drew.cell? ⟨w.heap.size + 1, 2, none⟩ = some (.slice (some ⟨q2, 0, none⟩) L'.length D2) ∧ (x.alloc ob).drew.cell? ⟨w.heap.size + 1, 3, none⟩ = some (.slice (some ⟨q3, 0, none⟩) P'.length D3) ∧ (x.alloc ob).drew.cell? ⟨w.heap.size + 1, 4, none⟩ = some (.slice (some ⟨q4, 0, none⟩) E'.length D4))) := by
    intro x ob h1
    have h3 : Lo w2.heap.size (w.heap.size + 1 + 1) w2 (x.alloc ob).drew := h1.trans (Lo.alloc _ _ x.drew ob h1.2.2.2.1)
    exact ⟨h3, hcells.out _ h3⟩
  have hkeepS : Hid (∀ (x : World) (u0 u1 u2 u3 u4 : Value), Lo w2.heap.size (w.heap.size + 1 + 1) w2 x → (Lo w2.heap.size (w.heap.size + 1 + 1) w2 (((((x.setCell ⟨w.heap.size + 1 + 1, 0, none⟩ u0).setCell ⟨w.heap.size + 1 + 1, 1, none⟩ u1).setCell ⟨w.heap.size + 1 + 1, 2, none⟩ u2).setCell ⟨w.heap.size + 1 + 1, 3, none⟩ u3).setCell ⟨w.heap.size + 1 + 1, 4, none⟩ u4) ∧ (((((x.setCell ⟨w.heap.size + 1 + 1, 0, none⟩ u0).setCell ⟨w.heap.size + 1 + 1, 1, none⟩ u1).setCell ⟨w.heap.size + 1 + 1, 2, none⟩ u2).setCell ⟨w.heap.size + 1 + 1, 3, none⟩ u3).setCell ⟨w.heap.size + 1 + 1, 4, none⟩ u4).cell? ⟨w.heap.size, 0, none⟩ = some (.int .i64 S) ∧ (((((x.setCell ⟨w.heap.size + 1 + 1, 0, none⟩ u0).setCell ⟨w.heap.size + 1 + 1, 1, none⟩ u1).setCell ⟨w.heap.size + 1 + 1, 2, none⟩ u2).setCell ⟨w.heap.size + 1 + 1, 3, none⟩ u3).setCell ⟨w.heap.size + 1 + 1, 4, none⟩ u4).cell? ⟨w.heap.size, 1, none⟩ = some (.int .i64 T) ∧ (((((x.setCell ⟨w.heap.size + 1 + 1, 0, none⟩ u0).setCell ⟨w.heap.size + 1 + 1, 1, none⟩ u1).setCell ⟨w.heap.size + 1 + 1, 2, none⟩ u2).setCell ⟨w.heap.size + 1 + 1, 3, none⟩ u3).setCell ⟨w.heap.size + 1 + 1, 4, none⟩ u4).cell? ⟨w.heap.size, 2, none⟩ = some (.slice (some ⟨p2, 0, none⟩) L.length C2) ∧ (((((x.setCell ⟨w.heap.size + 1 + 1, 0, none⟩ u0).setCell ⟨w.heap.size + 1 + 1, 1, none⟩ u1).setCell ⟨w.heap.size + 1 + 1, 2, none⟩ u2).setCell ⟨w.heap.size + 1 + 1, 3, none⟩ u3).setCell ⟨w.heap.size + 1 + 1, 4, none⟩ u4).cell? ⟨w.heap.size, 3, none⟩ = some (.slice (some ⟨p3, 0, none⟩) P.length C3) ∧ (((((x.setCell ⟨w.heap.size + 1 + 1, 0, none⟩ u0).setCell ⟨w.heap.size + 1 + 1, 1, none⟩ u1).setCell ⟨w.heap.size + 1 + 1, 2, none⟩ u2).setCell ⟨w.heap.size + 1 + 1, 3, none⟩ u3).setCell ⟨w.heap.size + 1 + 1, 4, none⟩ u4).cell? ⟨w.heap.size, 4, none⟩ = some (.slice (some ⟨p4, 0, none⟩) E.length C4) ∧ (((((x.setCell ⟨w.heap.size + 1 + 1, 0, none⟩ u0).setCell ⟨w.heap.size + 1 + 1, 1, none⟩ u1).setCell ⟨w.heap.size + 1 + 1, 2, none⟩ u2).setCell ⟨w.heap.size + 1 + 1, 3, none⟩ u3).setCell ⟨w.heap.size + 1 + 1, 4, none⟩ u4).cell? ⟨w.heap.size + 1, 0, none⟩ = some (.int .i64 S') ∧ (((((x.setCell ⟨w.heap.size + 1 + 1, 0, none⟩ u0).setCell ⟨w.heap.size + 1 + 1, 1, none⟩ u1).setCell ⟨w.heap.size + 1 + 1, 2, none⟩ u2).setCell ⟨w.heap.size + 1 + 1, 3, none⟩ u3).setCell ⟨w.heap.size + 1 + 1, 4, none⟩ u4).cell? ⟨w.heap.size + 1, 2, none⟩ = some (.slice (some ⟨q2, 0, none⟩) L'.length D2) ∧ (((((x.setCell ⟨w.heap.size + 1 + 1, 0, none⟩ u0).setCell ⟨w.heap.size + 1 + 1, 1, none⟩ u1).setCell ⟨w.heap.size + 1 + 1, 2, none⟩ u2).setCell ⟨w.heap.size + 1 + 1, 3, none⟩ u3).setCell ⟨w.heap.size + 1 + 1, 4, none⟩ u4).cell? ⟨w.heap.size + 1, 3, none⟩ = some (.slice (some ⟨q3, 0, none⟩) P'.length D3) ∧ (((((x.setCell ⟨w.heap.size + 1 + 1, 0, none⟩ u0).setCell ⟨w.heap.size + 1 + 1, 1, none⟩ u1).setCell ⟨w.heap.size + 1 + 1, 2, none⟩ u2).setCell ⟨w.heap.size + 1 + 1, 3, none⟩ u3).setCell ⟨w.heap.size + 1 + 1, 4, none⟩ u4).cell? ⟨w.heap.size + 1, 4, none⟩ = some (.slice (some ⟨q4, 0, none⟩) E'.length D4))) := by
    intro x u0 u1 u2 u3 u4 h1
    have h3 := ((((h1.trans (Lo.set _ _ _ 0 u0)).trans (Lo.set _ _ _ 1 u1)).trans (Lo.set _ _ _ 2 u2)).trans (Lo.set _ _ _ 3 u3)).trans (Lo.set _ _ _ 4 u4)
    exact ⟨h3, hcells.out _ h3⟩
  have hsrc : Hid (∀ x : World, Lo w2.heap.size (w.heap.size + 1 + 1) w2 x → SlA x w2.heap.size (some ⟨p2, 0, none⟩) L.length L ∧ SlA x w2.heap.size (some ⟨q2, 0, none⟩) L'.length L' ∧ SlI x x.heap.size (some ⟨p3, 0, none⟩) P.length P ∧ SlI x x.heap.size (some ⟨q3, 0, none⟩) P'.length P' ∧ SlI x x.heap.size (some ⟨p4, 0, none⟩) E.length E ∧ SlI x x.heap.size (some ⟨q4, 0, none⟩) E'.length E') := by
    intro x hx
    have hb : Below w.heap.size w x := BX2.out.trans (hx.bel (by have := LT2.out; omega) (by omega))
    have z2 := BX2.out.size
    exact ⟨(H2.out.below hb (Nat.le_refl _)).more z2, (K2.out.below hb (Nat.le_refl _)).more z2, (H3.out.below hb (Nat.le_refl _)).more hb.size, (K3.out.below hb (Nat.le_refl _)).more hb.size, (H4.out.below hb (Nat.le_refl _)).more hb.size, (K4.out.below hb (Nat.le_refl _)).more hb.size⟩
  have HCl : Hid (∀ x : World, Lo w2.heap.size (w.heap.size + 1 + 1) w2 x → Calls Try.prog 40 #[.slice (some ⟨p2, 0, none⟩) L.length C2] x fun e y => ∃ A1 c1, e = .returned (.slice A1 L.length c1) ∧ OwX y w2.heap.size 62 4 (.slice A1 L.length c1) L.length (fa L) ∧ Kp3 x y ∧ Up x y ∧ Below w2.heap.size x y) := by
    intro x hx
    refine (iCloneA_any p2 0 L.length C2 L x ((hsrc.out x hx).1.more hx.2.2.2.1) (by omega)).mono ?_
    rintro e y ⟨A1, c1, rfl, ho, hb⟩
    exact ⟨A1, c1, rfl, World.ownsRow.mono ho hx.2.2.2.1, (Up.of hb).kp3, Up.of hb, hb.mono hx.2.2.2.1⟩
  have HMv : Hid (∀ (x : World) (A1 : Option Addr) (c1 : Nat), Lo w2.heap.size (w.heap.size + 1 + 1) w2 x → OwX x w2.heap.size 62 4 (.slice A1 L.length c1) L.length (fa L) → Calls Try.prog 39 #[.slice A1 L.length c1, .slice (some ⟨q2, 0, none⟩) L'.length D2, .int .i64 S] x fun e y => ∃ A2 c2, e = .returned (.slice A2 (L.length + L'.length) c2) ∧ OwX y w2.heap.size 62 4 (.slice A2 (L.length + L'.length) c2) (L.length + L'.length) (fa (eiL S L L')) ∧ Kp3 x y ∧ Below w2.heap.size x y) := by
    intro x A1 c1 hx ho
    refine (iMovedG_any w2.heap.size A1 L.length c1 L (some ⟨q2, 0, none⟩) L'.length D2 L' S x ho hx.2.2.2.1 (hsrc.out x hx).2.1 (by omega) (by omega) QA.out).mono ?_
    rintro e y ⟨A2, c2, rfl, ho2, hb, hon, _⟩
    exact ⟨A2, c2, rfl, ho2, only_kp3 ho hon, hb⟩
  have HX3 : Hid (∀ (x : World) (g : Nat), Lo w2.heap.size (w.heap.size + 1 + 1) w2 x → Row x g 26 [.slice (some ⟨p3, 0, none⟩) P.length C3, .slice (some ⟨q3, 0, none⟩) P'.length D3] → Calls Try.prog 41 #[.slice (some ⟨g, 0, none⟩) 2 2] x fun e y => ∃ A3 c3, e = .returned (.slice A3 (P.length + P'.length) c3) ∧ OwX y w2.heap.size 2 1 (.slice A3 (P.length + P'.length) c3) (P.length + P'.length) (iv (P ++ P')) ∧ (∀ k, (Value.slice A3 (P.length + P'.length) c3).ownBlock = some k → x.heap.size ≤ k) ∧ Kp3 x y ∧ Up x y ∧ Below w2.heap.size x y) := by
    intro x g hx hr
    obtain ⟨_, _, s3, t3, _, _⟩ := hsrc.out x hx
    have ht := catL_two ⟨p3, 0, P.length, C3, P⟩ ⟨q3, 0, P'.length, D3, P'⟩
    refine (iConcat_any g 2 2 [⟨p3, 0, P.length, C3, P⟩, ⟨q3, 0, P'.length, D3, P'⟩] x hr.sl ?_ (by omega) (by rw [ht]; simp; omega)).mono ?_
    · intro p hp
      simp at hp
      rcases hp with rfl | rfl
      · exact s3
      · exact t3
    · rw [ht]
      rintro e y ⟨A3, c3, rfl, ho, hb⟩
      have ho' : y.ownsRow x.heap.size 2 1 (.slice A3 (P ++ P').length c3) (P ++ P').length (iv (P ++ P')) := ho
      rw [List.length_append] at ho'
      exact ⟨A3, c3, by rw [List.length_append], World.ownsRow.mono ho' hx.2.2.2.1, fun k hk => (ho'.lt k hk).1, (Up.of hb).kp3, Up.of hb, hb.mono hx.2.2.2.1⟩
  have HX4 : Hid (∀ (x : World) (g : Nat), Lo w2.heap.size (w.heap.size + 1 + 1) w2 x → Row x g 26 [.slice (some ⟨p4, 0, none⟩) E.length C4, .slice (some ⟨q4, 0, none⟩) E'.length D4] → Calls Try.prog 41 #[.slice (some ⟨g, 0, none⟩) 2 2] x fun e y => ∃ A4 c4, e = .returned (.slice A4 (E.length + E'.length) c4) ∧ OwX y w2.heap.size 2 1 (.slice A4 (E.length + E'.length) c4) (E.length + E'.length) (iv (E ++ E')) ∧ (∀ k, (Value.slice A4 (E.length + E'.length) c4).ownBlock = some k → x.heap.size ≤ k) ∧ Kp3 x y ∧ Up x y ∧ Below w2.heap.size x y) := by
    intro x g hx hr
    obtain ⟨_, _, _, _, s3, t3⟩ := hsrc.out x hx
    have ht := catL_two ⟨p4, 0, E.length, C4, E⟩ ⟨q4, 0, E'.length, D4, E'⟩
    refine (iConcat_any g 2 2 [⟨p4, 0, E.length, C4, E⟩, ⟨q4, 0, E'.length, D4, E'⟩] x hr.sl ?_ (by omega) (by rw [ht]; simp; omega)).mono ?_
    · intro p hp
      simp at hp
      rcases hp with rfl | rfl
      · exact s3
      · exact t3
    · rw [ht]
      rintro e y ⟨A3, c3, rfl, ho, hb⟩
      have ho' : y.ownsRow x.heap.size 2 1 (.slice A3 (E ++ E').length c3) (E ++ E').length (iv (E ++ E')) := ho
      rw [List.length_append] at ho'
      exact ⟨A3, c3, by rw [List.length_append], World.ownsRow.mono ho' hx.2.2.2.1, fun k hk => (ho'.lt k hk).1, (Up.of hb).kp3, Up.of hb, hb.mono hx.2.2.2.1⟩
  have HK : Hid (∀ (x : World) (A2 : Option Addr) (c2 : Nat) (A3 : Option Addr) (c3 : Nat) (A4 : Option Addr) (c4 : Nat), Lo w2.heap.size (w.heap.size + 1 + 1) w2 x → OwX x w2.heap.size 62 4 (.slice A2 (L.length + L'.length) c2) (L.length + L'.length) (fa (eiL S L L')) → OwX x w2.heap.size 2 1 (.slice A3 (P.length + P'.length) c3) (P.length + P'.length) (iv (P ++ P')) → OwX x w2.heap.size 2 1 (.slice A4 (E.length + E'.length) c4) (E.length + E'.length) (iv (E ++ E')) → Calls Try.prog 38 #[.agg #[.int .i64 (S + S'), .int .i64 T, .slice A2 (L.length + L'.length) c2, .slice A3 (P.length + P'.length) c3, .slice A4 (E.length + E'.length) c4]] x fun e y => ∃ ok, ok = vmB (S + S') T (eiL S L L') (P ++ P') (E ++ E') ∧ e = .returned (.tuple #[.agg #[.int .i64 (ckI ok (S + S')), .int .i64 (ckI ok T), .slice (ckA ok A2) (ckN ok (L.length + L'.length)) (ckN ok c2), .slice (ckA ok A3) (ckN ok (P.length + P'.length)) (ckN ok c3), .slice (ckA ok A4) (ckN ok (E.length + E'.length)) (ckN ok c4)], .bool ok]) ∧ Below x.heap.size x y ∧ Below w2.heap.size x y ∧ OwX y w2.heap.size 62 4 (.slice A2 (L.length + L'.length) c2) (L.length + L'.length) (fa (eiL S L L')) ∧ OwX y w2.heap.size 2 1 (.slice A3 (P.length + P'.length) c3) (P.length + P'.length) (iv (P ++ P')) ∧ OwX y w2.heap.size 2 1 (.slice A4 (E.length + E'.length) c4) (E.length + E'.length) (iv (E ++ E'))) := by
    intro x A2 c2 A3 c3 A4 c4 hx o2 o3 o4
    refine (iCheckedG w2.heap.size (S + S') T (eiL S L L') (P ++ P') (E ++ E') A2 _ c2 A3 _ c3 A4 _ c4 x o2 o3 o4 (eiL_len S L L') (by simp) (by simp) (by omega) (by omega) (by omega)).mono ?_
    rintro e y ⟨ok, h1, h2, h3⟩
    exact ⟨ok, h1, h2, h3, h3.mono hx.2.2.2.1, o2.upd (Up.of h3), o3.upd (Up.of h3), o4.upd (Up.of h3)⟩
  have HWR : Hid (Value.int .i64 (IntKind.i64.wrap (S + S')) = .int .i64 (S + S')) := by show _ = _; rw [IntWalk.i64_in _ (by omega)]
  have hdr : Lo w2.heap.size (w.heap.size + 1 + 1) w2 w2.drew := Lo.refl _ _ _
  have hfrom : Lo w2.heap.size (w.heap.size + 1 + 1) w2 w2.drew ∧ w2.drew.cell? ⟨w.heap.size, 0, none⟩ = some (.int .i64 S) ∧ w2.drew.cell? ⟨w.heap.size, 1, none⟩ = some (.int .i64 T) ∧ w2.drew.cell? ⟨w.heap.size, 2, none⟩ = some (.slice (some ⟨p2, 0, none⟩) L.length C2) ∧ w2.drew.cell? ⟨w.heap.size, 3, none⟩ = some (.slice (some ⟨p3, 0, none⟩) P.length C3) ∧ w2.drew.cell? ⟨w.heap.size, 4, none⟩ = some (.slice (some ⟨p4, 0, none⟩) E.length C4) ∧ w2.drew.cell? ⟨w.heap.size + 1, 0, none⟩ = some (.int .i64 S') ∧ w2.drew.cell? ⟨w.heap.size + 1, 2, none⟩ = some (.slice (some ⟨q2, 0, none⟩) L'.length D2) ∧ w2.drew.cell? ⟨w.heap.size + 1, 3, none⟩ = some (.slice (some ⟨q3, 0, none⟩) P'.length D3) ∧ w2.drew.cell? ⟨w.heap.size + 1, 4, none⟩ = some (.slice (some ⟨q4, 0, none⟩) E'.length D4) := ⟨hdr, hcells.out _ hdr⟩
  go_region_held3 (fun x => Lo w2.heap.size (w.heap.size + 1 + 1) w2 x ∧ x.cell? ⟨w.heap.size, 0, none⟩ = some (.int .i64 S) ∧ x.cell? ⟨w.heap.size, 1, none⟩ = some (.int .i64 T) ∧ x.cell? ⟨w.heap.size, 2, none⟩ = some (.slice (some ⟨p2, 0, none⟩) L.length C2) ∧ x.cell? ⟨w.heap.size, 3, none⟩ = some (.slice (some ⟨p3, 0, none⟩) P.length C3) ∧ x.cell? ⟨w.heap.size, 4, none⟩ = some (.slice (some ⟨p4, 0, none⟩) E.length C4) ∧ x.cell? ⟨w.heap.size + 1, 0, none⟩ = some (.int .i64 S') ∧ x.cell? ⟨w.heap.size + 1, 2, none⟩ = some (.slice (some ⟨q2, 0, none⟩) L'.length D2) ∧ x.cell? ⟨w.heap.size + 1, 3, none⟩ = some (.slice (some ⟨q3, 0, none⟩) P'.length D3) ∧ x.cell? ⟨w.heap.size + 1, 4, none⟩ = some (.slice (some ⟨q4, 0, none⟩) E'.length D4)) (first | (with_reducible assumption) | (with_reducible exact hkeepD.out _ _ (by first | (with_reducible assumption) | (with_reducible (apply And.left; assumption)))) | (with_reducible exact hkeepA.out _ _ (by first | (with_reducible assumption) | (with_reducible (apply And.left; assumption)))) | (with_reducible exact hkeepS.out _ _ _ _ _ _ (by first | (with_reducible assumption) | (with_reducible (apply And.left; assumption)))) | go_keep)
    (first
      | (go_at_call 40; refine (HCl.out _ (by first | (with_reducible assumption) | (with_reducible (apply And.left; assumption)))).mono ?_; rintro e y1 ⟨A1, c1, rfl, o1, kp1, up1, b1⟩; have s1 := (fun h => hkeep.out _ _ h b1) (by first | (with_reducible assumption) | (with_reducible (apply And.left; assumption))))
      | (go_at_call 39; refine (HMv.out _ _ _ (by first | (with_reducible assumption) | (with_reducible (apply And.left; assumption))) (by repeat (first | (with_reducible assumption) | (with_reducible refine OwX.drew ?_) | (with_reducible refine OwX.alloc ?_ _) | (with_reducible refine OwX.up (by assumption) ?_)))).mono ?_; rintro e y2 ⟨A2, c2, rfl, o2, kp2, b2⟩; have s2 := (fun h => hkeep.out _ _ h b2) (by first | (with_reducible assumption) | (with_reducible (apply And.left; assumption))))
      | (go_at_call 41; refine (HX3.out _ _ (by first | (with_reducible assumption) | (with_reducible (apply And.left; assumption))) ?_).mono ?_; (repeat (first | (with_reducible exact Row.new _ _ _) | ((with_reducible refine rowNewE ?_); focus (simp; done)) | (with_reducible refine Row.drew ?_) | (with_reducible refine Row.alloc ?_ _) | (with_reducible refine kp_use (by assumption) ?_))); rintro e y3 ⟨A3, c3, rfl, o3, n3, kp3, up3, b3⟩; have d23 : Apt (.slice A2 (L.length + L'.length) c2) (.slice A3 (P.length + P'.length) c3) := (by refine OwX.apt (lo := w2.heap.size) (e := 62) (sz := 4) (n := L.length + L'.length) (xs := fa (eiL S L L')) ?_ n3; exact (by repeat (first | (with_reducible assumption) | (with_reducible refine OwX.drew ?_) | (with_reducible refine OwX.alloc ?_ _) | (with_reducible refine OwX.up (by assumption) ?_)))); have s3 := (fun h => hkeep.out _ _ h b3) (by first | (with_reducible assumption) | (with_reducible (apply And.left; assumption))))
      | (go_at_call 41; refine (HX4.out _ _ (by first | (with_reducible assumption) | (with_reducible (apply And.left; assumption))) ?_).mono ?_; (repeat (first | (with_reducible exact Row.new _ _ _) | ((with_reducible refine rowNewE ?_); focus (simp; done)) | (with_reducible refine Row.drew ?_) | (with_reducible refine Row.alloc ?_ _) | (with_reducible refine kp_use (by assumption) ?_))); rintro e y4 ⟨A4, c4, rfl, o4, n4, kp4, up4, b4⟩; have d24 : Apt (.slice A2 (L.length + L'.length) c2) (.slice A4 (E.length + E'.length) c4) := (by refine OwX.apt (lo := w2.heap.size) (e := 62) (sz := 4) (n := L.length + L'.length) (xs := fa (eiL S L L')) ?_ n4; exact (by repeat (first | (with_reducible assumption) | (with_reducible refine OwX.drew ?_) | (with_reducible refine OwX.alloc ?_ _) | (with_reducible refine OwX.up (by assumption) ?_)))); have d34 : Apt (.slice A3 (P.length + P'.length) c3) (.slice A4 (E.length + E'.length) c4) := (by refine OwX.apt (lo := w2.heap.size) (e := 2) (sz := 1) (n := P.length + P'.length) (xs := iv (P ++ P')) ?_ n4; exact (by repeat (first | (with_reducible assumption) | (with_reducible refine OwX.drew ?_) | (with_reducible refine OwX.alloc ?_ _) | (with_reducible refine OwX.up (by assumption) ?_)))); have s4 := (fun h => hkeep.out _ _ h b4) (by first | (with_reducible assumption) | (with_reducible (apply And.left; assumption))))
      | (go_at_call 38; rw [HWR.out]; refine (HK.out _ _ _ _ _ _ _ (by first | (with_reducible assumption) | (with_reducible (apply And.left; assumption))) (by repeat (first | (with_reducible assumption) | (with_reducible refine OwX.drew ?_) | (with_reducible refine OwX.alloc ?_ _) | (with_reducible refine OwX.up (by assumption) ?_))) (by repeat (first | (with_reducible assumption) | (with_reducible refine OwX.drew ?_) | (with_reducible refine OwX.alloc ?_ _) | (with_reducible refine OwX.up (by assumption) ?_))) (by repeat (first | (with_reducible assumption) | (with_reducible refine OwX.drew ?_) | (with_reducible refine OwX.alloc ?_ _) | (with_reducible refine OwX.up (by assumption) ?_)))).mono ?_; rintro e y5 ⟨ok2, hok2, rfl, hb5, hb52, o25, o35, o45⟩; have s5 := (fun h => hkeep.out _ _ h hb52) (by first | (with_reducible assumption) | (with_reducible (apply And.left; assumption))); have HOK2 := Lib.hid hok2; clear hok2; have rr5 : Row y5 (w.heap.size + 1 + 1) 28 [.int .i64 0, .int .i64 0, .slice none 0 0, .slice none 0 0, .slice none 0 0] := (by repeat (first | (with_reducible exact RR2.out) | (with_reducible refine Row.drew ?_) | (with_reducible refine Row.alloc ?_ _) | (with_reducible refine row_low (by assumption) LT2.out ?_))); have y50 := rr5.cell 0; have f50 := rr5.frozen 0; have y51 := rr5.cell 1; have f51 := rr5.frozen 1; have y52 := rr5.cell 2; have f52 := rr5.frozen 2; have y53 := rr5.cell 3; have f53 := rr5.frozen 3; have y54 := rr5.cell 4; have f54 := rr5.frozen 4; have RR5 := Lib.hid rr5; clear rr5))
  all_goals
    rename_i Qx Kx aK hh
    clear hh y50 f50 y51 f51 y52 f52 y53 f53 y54 f54
    refine aK _ _ (wp_ret ?_)
    have hLF := (hkeepS.out y5 (.int .i64 (ckI ok2 (S + S'))) (.int .i64 (ckI ok2 T)) (.slice (ckA ok2 A2) (ckN ok2 (L.length + L'.length)) (ckN ok2 c2)) (.slice (ckA ok2 A3) (ckN ok2 (P.length + P'.length)) (ckN ok2 c3)) (.slice (ckA ok2 A4) (ckN ok2 (E.length + E'.length)) (ckN ok2 c4)) s5.1).1
    have hF := (((((RR5.out.set_ 0 (.int .i64 (ckI ok2 (S + S')))).set_ 1 (.int .i64 (ckI ok2 T))).set_ 2 (.slice (ckA ok2 A2) (ckN ok2 (L.length + L'.length)) (ckN ok2 c2))).set_ 3 (.slice (ckA ok2 A3) (ckN ok2 (P.length + P'.length)) (ckN ok2 c3))).set_ 4 (.slice (ckA ok2 A4) (ckN ok2 (E.length + E'.length)) (ckN ok2 c4)))
    have keepF : ∀ g, w2.heap.size ≤ g → (((((y5.setCell ⟨w.heap.size + 1 + 1, 0, none⟩ (.int .i64 (ckI ok2 (S + S')))).setCell ⟨w.heap.size + 1 + 1, 1, none⟩ (.int .i64 (ckI ok2 T))).setCell ⟨w.heap.size + 1 + 1, 2, none⟩ (.slice (ckA ok2 A2) (ckN ok2 (L.length + L'.length)) (ckN ok2 c2))).setCell ⟨w.heap.size + 1 + 1, 3, none⟩ (.slice (ckA ok2 A3) (ckN ok2 (P.length + P'.length)) (ckN ok2 c3))).setCell ⟨w.heap.size + 1 + 1, 4, none⟩ (.slice (ckA ok2 A4) (ckN ok2 (E.length + E'.length)) (ckN ok2 c4))).heap[g]? = y5.heap[g]? := fun g h1 => heap_set5 _ _ _ _ _ (by have := LT2.out; omega)
    refine bodyPost_ret (results_cell2 rfl _ _ (w.heap.size + 1 + 1) 28 #[.int .i64 (ckI ok2 (S + S')), .int .i64 (ckI ok2 T), .slice (ckA ok2 A2) (ckN ok2 (L.length + L'.length)) (ckN ok2 c2), .slice (ckA ok2 A3) (ckN ok2 (P.length + P'.length)) (ckN ok2 c3), .slice (ckA ok2 A4) (ckN ok2 (E.length + E'.length)) (ckN ok2 c4)] (0, 0) _ (.bool ok2) rfl rfl hF Try.underlying28 rfl (by kernel_rfl)) rfl ?_
    obtain ⟨F, hFF⟩ : ∃ F, F = (((((y5.setCell ⟨w.heap.size + 1 + 1, 0, none⟩ (.int .i64 (ckI ok2 (S + S')))).setCell ⟨w.heap.size + 1 + 1, 1, none⟩ (.int .i64 (ckI ok2 T))).setCell ⟨w.heap.size + 1 + 1, 2, none⟩ (.slice (ckA ok2 A2) (ckN ok2 (L.length + L'.length)) (ckN ok2 c2))).setCell ⟨w.heap.size + 1 + 1, 3, none⟩ (.slice (ckA ok2 A3) (ckN ok2 (P.length + P'.length)) (ckN ok2 c3))).setCell ⟨w.heap.size + 1 + 1, 4, none⟩ (.slice (ckA ok2 A4) (ckN ok2 (E.length + E'.length)) (ckN ok2 c4))) := ⟨_, rfl⟩
    rw [← hFF] at hLF keepF ⊢
    clear hF hFF
    have hf : eiOk S T L P E S' T L' P' E' = ok2 := by unfold eiOk; rw [← HOK.out, ← HOK'.out, ← HOK2.out]; simp
    rw [hf]
    have hBF : Below w.heap.size w F := BX2.out.trans (hLF.bel (by have := LT2.out; omega) (by omega))
    have oa : F.ownsRow w2.heap.size 62 4 (.slice A2 (L.length + L'.length) c2) (eiL S L L').length (fa (eiL S L L')) := by rw [eiL_len]; exact own_move o25 (fun g hg => keepF g (o25.lt g hg).1)
    have os : F.ownsRow w2.heap.size 2 1 (.slice A3 (P.length + P'.length) c3) (P ++ P').length (iv (P ++ P')) := by rw [List.length_append]; exact own_move o35 (fun g hg => keepF g (o35.lt g hg).1)
    have oe : F.ownsRow w2.heap.size 2 1 (.slice A4 (E.length + E'.length) c4) (E ++ E').length (iv (E ++ E')) := by rw [List.length_append]; exact own_move o45 (fun g hg => keepF g (o45.lt g hg).1)
    have hw2 := LT2.out
    rw [← ckV_agg]
    exact ⟨_, F.heap.size, rfl, Nat.le_refl _, ckO ok2 ⟨_, _, _, rfl, ⟨World.ownsRow.mono oa (by omega), fun k hk => (oa.lt k hk).2⟩, ⟨World.ownsRow.mono os (by omega), fun k hk => (os.lt k hk).2⟩, ⟨World.ownsRow.mono oe (by omega), fun k hk => (oe.lt k hk).2⟩, d23, d24, d34⟩, hBF⟩
end Go.Proofs.Ytegponioggpkcaa
