/- JoinedOf of the program. -/
import Derived.Test.YtegponioggpkcaaMgj

namespace Go.Proofs.Ytegponioggpkcaa
open Go.RowKit
set_option linter.unusedVariables false
set_option maxRecDepth 100000 in
set_option maxHeartbeats 16000000 in
theorem iJoined_any (S T : Int) (L : List A4) (P E : List Int) (p2 p3 p4 C2 C3 C4 : Nat) (S' T' : Int) (L' : List A4) (P' E' : List Int) (q2 q3 q4 D2 D3 D4 : Nat) (w : World)
    (h2 : SlA w w.heap.size (some ⟨p2, 0, none⟩) L.length L) (h3 : SlI w w.heap.size (some ⟨p3, 0, none⟩) P.length P) (h4 : SlI w w.heap.size (some ⟨p4, 0, none⟩) E.length E)
    (k2 : SlA w w.heap.size (some ⟨q2, 0, none⟩) L'.length L') (k3 : SlI w w.heap.size (some ⟨q3, 0, none⟩) P'.length P') (k4 : SlI w w.heap.size (some ⟨q4, 0, none⟩) E'.length E')
    (hL : L.length ≤ 1048576) (hP : P.length ≤ 1048576) (hE : E.length ≤ 1048576) (kL : L'.length ≤ 1048576) (kP : P'.length ≤ 1048576) (kE : E'.length ≤ 1048576) :
    Calls Try.prog 12 #[.agg #[.int .i64 S, .int .i64 T, .slice (some ⟨p2, 0, none⟩) L.length C2, .slice (some ⟨p3, 0, none⟩) P.length C3, .slice (some ⟨p4, 0, none⟩) E.length C4], .agg #[.int .i64 S', .int .i64 T', .slice (some ⟨q2, 0, none⟩) L'.length D2, .slice (some ⟨q3, 0, none⟩) P'.length D3, .slice (some ⟨q4, 0, none⟩) E'.length D4]] w fun e w' => ∃ v' hi, e = .returned (.tuple #[v', .bool (joOk S T L P E S' T' L' P' E')]) ∧ hi ≤ w'.heap.size ∧ McO w' w.heap.size hi v' (ckI (joOk S T L P E S' T' L' P' E') (S + S')) (ckI (joOk S T L P E S' T' L' P' E') T) (ckL (joOk S T L P E S' T' L' P' E') (joA S L L' P' E)) (ckL (joOk S T L P E S' T' L' P' E') (joS P P')) (ckL (joOk S T L P E S' T' L' P' E') (joE P E')) ∧ Below w.heap.size w w' := by
  have ra := ((Row.new w 28 [.int .i64 S, .int .i64 T, .slice (some ⟨p2, 0, none⟩) L.length C2, .slice (some ⟨p3, 0, none⟩) P.length C3, .slice (some ⟨p4, 0, none⟩) E.length C4]).alloc (.cells ([.int .i64 S', .int .i64 T', .slice (some ⟨q2, 0, none⟩) L'.length D2, .slice (some ⟨q3, 0, none⟩) P'.length D3, .slice (some ⟨q4, 0, none⟩) E'.length D4] : List Value).toArray 28)).alloc (.cells ([.int .i64 0, .int .i64 0, .slice none 0 0, .slice none 0 0, .slice none 0 0] : List Value).toArray 28)
  have rb := (Row.new (w.alloc (.cells ([.int .i64 S, .int .i64 T, .slice (some ⟨p2, 0, none⟩) L.length C2, .slice (some ⟨p3, 0, none⟩) P.length C3, .slice (some ⟨p4, 0, none⟩) E.length C4] : List Value).toArray 28)) 28 [.int .i64 S', .int .i64 T', .slice (some ⟨q2, 0, none⟩) L'.length D2, .slice (some ⟨q3, 0, none⟩) P'.length D3, .slice (some ⟨q4, 0, none⟩) E'.length D4]).alloc (.cells ([.int .i64 0, .int .i64 0, .slice none 0 0, .slice none 0 0, .slice none 0 0] : List Value).toArray 28)
  have rr := Row.new ((w.alloc (.cells ([.int .i64 S, .int .i64 T, .slice (some ⟨p2, 0, none⟩) L.length C2, .slice (some ⟨p3, 0, none⟩) P.length C3, .slice (some ⟨p4, 0, none⟩) E.length C4] : List Value).toArray 28)).alloc (.cells ([.int .i64 S', .int .i64 T', .slice (some ⟨q2, 0, none⟩) L'.length D2, .slice (some ⟨q3, 0, none⟩) P'.length D3, .slice (some ⟨q4, 0, none⟩) E'.length D4] : List Value).toArray 28)) 28 [.int .i64 0, .int .i64 0, .slice none 0 0, .slice none 0 0, .slice none 0 0]
  rw [show (w.alloc (.cells ([.int .i64 S, .int .i64 T, .slice (some ⟨p2, 0, none⟩) L.length C2, .slice (some ⟨p3, 0, none⟩) P.length C3, .slice (some ⟨p4, 0, none⟩) E.length C4] : List Value).toArray 28)).heap.size = w.heap.size + 1 by simp] at rb
  rw [show ((w.alloc (.cells ([.int .i64 S, .int .i64 T, .slice (some ⟨p2, 0, none⟩) L.length C2, .slice (some ⟨p3, 0, none⟩) P.length C3, .slice (some ⟨p4, 0, none⟩) E.length C4] : List Value).toArray 28)).alloc (.cells ([.int .i64 S', .int .i64 T', .slice (some ⟨q2, 0, none⟩) L'.length D2, .slice (some ⟨q3, 0, none⟩) P'.length D3, .slice (some ⟨q4, 0, none⟩) E'.length D4] : List Value).toArray 28)).heap.size = w.heap.size + 1 + 1 by simp] at rr
  have bx : Below w.heap.size w (((w.alloc (.cells ([.int .i64 S, .int .i64 T, .slice (some ⟨p2, 0, none⟩) L.length C2, .slice (some ⟨p3, 0, none⟩) P.length C3, .slice (some ⟨p4, 0, none⟩) E.length C4] : List Value).toArray 28)).alloc (.cells ([.int .i64 S', .int .i64 T', .slice (some ⟨q2, 0, none⟩) L'.length D2, .slice (some ⟨q3, 0, none⟩) P'.length D3, .slice (some ⟨q4, 0, none⟩) E'.length D4] : List Value).toArray 28)).alloc (.cells ([.int .i64 0, .int .i64 0, .slice none 0 0, .slice none 0 0, .slice none 0 0] : List Value).toArray 28)) := (((Below.refl _ _).alloc (Nat.le_refl _) _).alloc (by simp) _).alloc (by simp; omega) _
  have RA := Lib.hid ra; have RB := Lib.hid rb; have RR := Lib.hid rr; have BX := Lib.hid bx; clear ra rb rr bx
  have H2 := Lib.hid h2; have H3 := Lib.hid h3; have H4 := Lib.hid h4; have K2 := Lib.hid k2; have K3 := Lib.hid k3; have K4 := Lib.hid k4
  clear h2 h3 h4 k2 k3 k4
  have a0 := RA.out.cell 0; have a1 := RA.out.cell 1; have a2 := RA.out.cell 2; have a3 := RA.out.cell 3; have a4 := RA.out.cell 4
  go_enter Try.func12, Try.ntmps12
  go_wp2_with fail
  clear a0 a1 a2 a3 a4
  obtain ⟨x0, hx0⟩ : ∃ x, x = ((w.alloc (.cells ([.int .i64 S, .int .i64 T, .slice (some ⟨p2, 0, none⟩) L.length C2, .slice (some ⟨p3, 0, none⟩) P.length C3, .slice (some ⟨p4, 0, none⟩) E.length C4] : List Value).toArray 28)).alloc (.cells ([.int .i64 S', .int .i64 T', .slice (some ⟨q2, 0, none⟩) L'.length D2, .slice (some ⟨q3, 0, none⟩) P'.length D3, .slice (some ⟨q4, 0, none⟩) E'.length D4] : List Value).toArray 28)).alloc (.cells ([.int .i64 0, .int .i64 0, .slice none 0 0, .slice none 0 0, .slice none 0 0] : List Value).toArray 28) := ⟨_, rfl⟩
  rw [← hx0] at RA RB RR BX
  change Calls _ _ _ (((w.alloc (.cells ([.int .i64 S, .int .i64 T, .slice (some ⟨p2, 0, none⟩) L.length C2, .slice (some ⟨p3, 0, none⟩) P.length C3, .slice (some ⟨p4, 0, none⟩) E.length C4] : List Value).toArray 28)).alloc (.cells ([.int .i64 S', .int .i64 T', .slice (some ⟨q2, 0, none⟩) L'.length D2, .slice (some ⟨q3, 0, none⟩) P'.length D3, .slice (some ⟨q4, 0, none⟩) E'.length D4] : List Value).toArray 28)).alloc (.cells ([.int .i64 0, .int .i64 0, .slice none 0 0, .slice none 0 0, .slice none 0 0] : List Value).toArray 28)) _
  rw [← hx0]
  clear hx0
  refine (iValidMachine_any _ S T L P E x0 ⟨_, _, _, _, _, _, _, _, _, rfl, (H2.out.below BX.out (Nat.le_refl _)).more BX.out.size, (H3.out.below BX.out (Nat.le_refl _)).more BX.out.size, (H4.out.below BX.out (Nat.le_refl _)).more BX.out.size⟩ (by omega) (by omega) (by omega)).mono ?_
  rintro e w1 ⟨rfl, hb1⟩
  have BX1 := Lib.hid (BX.out.trans (hb1.mono BX.out.size))
  have RA1 := Lib.hid (RA.out.below hb1 RA.out.lt); have RB1 := Lib.hid (RB.out.below hb1 RB.out.lt); have RR1 := Lib.hid (RR.out.below hb1 RR.out.lt)
  clear hb1
  obtain ⟨ok, hok⟩ : ∃ ok, ok = vmB S T L P E := ⟨_, rfl⟩
  rw [← hok]
  have HOK := Lib.hid hok; clear hok
  cases ok with
  | false =>
    have r0 := RR1.out.cell 0; have r1 := RR1.out.cell 1; have r2 := RR1.out.cell 2; have r3 := RR1.out.cell 3; have r4 := RR1.out.cell 4
    have f0 := RR1.out.frozen 0; have f1 := RR1.out.frozen 1; have f2 := RR1.out.frozen 2; have f3 := RR1.out.frozen 3; have f4 := RR1.out.frozen 4
    go_wp2_with fail
    clear r0 f0 r1 f1 r2 f2 r3 f3 r4 f4
    have hF := (((((RR1.out.set_ 0 (.int .i64 0)).set_ 1 (.int .i64 0)).set_ 2 (.slice none 0 0)).set_ 3 (.slice none 0 0)).set_ 4 (.slice none 0 0))
    refine bodyPost_ret (results_cell2 rfl _ _ (w.heap.size + 1 + 1) 28 #[.int .i64 0, .int .i64 0, .slice none 0 0, .slice none 0 0, .slice none 0 0] (0, 0) _ (.bool false) rfl rfl hF Try.underlying28 rfl (by kernel_rfl)) rfl ?_
    have hf : joOk S T L P E S' T' L' P' E' = false := by unfold joOk; rw [← HOK.out]; rfl
    rw [hf]
    have hle : w.heap.size ≤ w.heap.size + 1 + 1 := by omega
    have hbF := (((((BX1.out.setCell (p := ⟨w.heap.size + 1 + 1, 0, none⟩) hle (.int .i64 0)).setCell (p := ⟨w.heap.size + 1 + 1, 1, none⟩) hle (.int .i64 0)).setCell (p := ⟨w.heap.size + 1 + 1, 2, none⟩) hle (.slice none 0 0)).setCell (p := ⟨w.heap.size + 1 + 1, 3, none⟩) hle (.slice none 0 0)).setCell (p := ⟨w.heap.size + 1 + 1, 4, none⟩) hle (.slice none 0 0))
    exact ⟨_, w.heap.size, rfl, hbF.size, ⟨_, _, _, rfl, OwnV.nil _ _ _ _ _, OwnV.nil _ _ _ _ _, OwnV.nil _ _ _ _ _, fun k hk => by simp [Value.ownBlock] at hk, fun k hk => by simp [Value.ownBlock] at hk, fun k hk => by simp [Value.ownBlock] at hk⟩, hbF⟩
  | true =>
  have b0 := RB1.out.cell 0; have b1 := RB1.out.cell 1; have b2 := RB1.out.cell 2; have b3 := RB1.out.cell 3; have b4 := RB1.out.cell 4
  go_wp2_with fail
  clear b0 b1 b2 b3 b4
  refine (iValidMachine_any _ S' T' L' P' E' w1 ⟨_, _, _, _, _, _, _, _, _, rfl, (K2.out.below BX1.out (Nat.le_refl _)).more BX1.out.size, (K3.out.below BX1.out (Nat.le_refl _)).more BX1.out.size, (K4.out.below BX1.out (Nat.le_refl _)).more BX1.out.size⟩ (by omega) (by omega) (by omega)).mono ?_
  rintro e w2 ⟨rfl, hb2⟩
  have BX2 := Lib.hid (BX1.out.trans (hb2.mono BX1.out.size))
  have RA2 := Lib.hid (RA1.out.below hb2 RA1.out.lt); have RB2 := Lib.hid (RB1.out.below hb2 RB1.out.lt); have RR2 := Lib.hid (RR1.out.below hb2 RR1.out.lt)
  clear hb2
  obtain ⟨ok', hok'⟩ : ∃ ok, ok = vmB S' T' L' P' E' := ⟨_, rfl⟩
  rw [← hok']
  have HOK' := Lib.hid hok'; clear hok'
  cases ok' with
  | false =>
    have r0 := RR2.out.cell 0; have r1 := RR2.out.cell 1; have r2 := RR2.out.cell 2; have r3 := RR2.out.cell 3; have r4 := RR2.out.cell 4
    have f0 := RR2.out.frozen 0; have f1 := RR2.out.frozen 1; have f2 := RR2.out.frozen 2; have f3 := RR2.out.frozen 3; have f4 := RR2.out.frozen 4
    go_wp2_with fail
    clear r0 f0 r1 f1 r2 f2 r3 f3 r4 f4
    have hF := (((((RR2.out.set_ 0 (.int .i64 0)).set_ 1 (.int .i64 0)).set_ 2 (.slice none 0 0)).set_ 3 (.slice none 0 0)).set_ 4 (.slice none 0 0))
    refine bodyPost_ret (results_cell2 rfl _ _ (w.heap.size + 1 + 1) 28 #[.int .i64 0, .int .i64 0, .slice none 0 0, .slice none 0 0, .slice none 0 0] (0, 0) _ (.bool false) rfl rfl hF Try.underlying28 rfl (by kernel_rfl)) rfl ?_
    have hf : joOk S T L P E S' T' L' P' E' = false := by unfold joOk; rw [← HOK.out, ← HOK'.out]; rfl
    rw [hf]
    have hle : w.heap.size ≤ w.heap.size + 1 + 1 := by omega
    have hbF := (((((BX2.out.setCell (p := ⟨w.heap.size + 1 + 1, 0, none⟩) hle (.int .i64 0)).setCell (p := ⟨w.heap.size + 1 + 1, 1, none⟩) hle (.int .i64 0)).setCell (p := ⟨w.heap.size + 1 + 1, 2, none⟩) hle (.slice none 0 0)).setCell (p := ⟨w.heap.size + 1 + 1, 3, none⟩) hle (.slice none 0 0)).setCell (p := ⟨w.heap.size + 1 + 1, 4, none⟩) hle (.slice none 0 0))
    exact ⟨_, w.heap.size, rfl, hbF.size, ⟨_, _, _, rfl, OwnV.nil _ _ _ _ _, OwnV.nil _ _ _ _ _, OwnV.nil _ _ _ _ _, fun k hk => by simp [Value.ownBlock] at hk, fun k hk => by simp [Value.ownBlock] at hk, fun k hk => by simp [Value.ownBlock] at hk⟩, hbF⟩
  | true =>
  by_cases hTT : T = T'
  case neg =>
    have c1 := RA2.out.cell 1; have d1 := RB2.out.cell 1
    have hnq : (T == T') = false := by rw [beq_eq_false_iff_ne]; exact hTT
    have hnq2 : (T != T') = true := by rw [bne, hnq]; rfl
    have HTN := Lib.hid hTT; clear hTT
    have r0 := RR2.out.cell 0; have r1 := RR2.out.cell 1; have r2 := RR2.out.cell 2; have r3 := RR2.out.cell 3; have r4 := RR2.out.cell 4
    have f0 := RR2.out.frozen 0; have f1 := RR2.out.frozen 1; have f2 := RR2.out.frozen 2; have f3 := RR2.out.frozen 3; have f4 := RR2.out.frozen 4
    go_wp2_with fail
    clear r0 f0 r1 f1 r2 f2 r3 f3 r4 f4
    have hF := (((((RR2.out.set_ 0 (.int .i64 0)).set_ 1 (.int .i64 0)).set_ 2 (.slice none 0 0)).set_ 3 (.slice none 0 0)).set_ 4 (.slice none 0 0))
    refine bodyPost_ret (results_cell2 rfl _ _ (w.heap.size + 1 + 1) 28 #[.int .i64 0, .int .i64 0, .slice none 0 0, .slice none 0 0, .slice none 0 0] (0, 0) _ (.bool false) rfl rfl hF Try.underlying28 rfl (by kernel_rfl)) rfl ?_
    have hf : joOk S T L P E S' T' L' P' E' = false := by unfold joOk; rw [decide_eq_false HTN.out]; simp
    rw [hf]
    have hle : w.heap.size ≤ w.heap.size + 1 + 1 := by omega
    have hbF := (((((BX2.out.setCell (p := ⟨w.heap.size + 1 + 1, 0, none⟩) hle (.int .i64 0)).setCell (p := ⟨w.heap.size + 1 + 1, 1, none⟩) hle (.int .i64 0)).setCell (p := ⟨w.heap.size + 1 + 1, 2, none⟩) hle (.slice none 0 0)).setCell (p := ⟨w.heap.size + 1 + 1, 3, none⟩) hle (.slice none 0 0)).setCell (p := ⟨w.heap.size + 1 + 1, 4, none⟩) hle (.slice none 0 0))
    exact ⟨_, w.heap.size, rfl, hbF.size, ⟨_, _, _, rfl, OwnV.nil _ _ _ _ _, OwnV.nil _ _ _ _ _, OwnV.nil _ _ _ _ _, fun k hk => by simp [Value.ownBlock] at hk, fun k hk => by simp [Value.ownBlock] at hk, fun k hk => by simp [Value.ownBlock] at hk⟩, hbF⟩
  subst hTT
  obtain ⟨qS, qT, qL, qA, qP, qE⟩ := vmB_true HOK.out.symm
  obtain ⟨qP1, qP2⟩ := mkB_true qP
  obtain ⟨qE1, qE2⟩ := mkB_true qE
  obtain ⟨rS, rT, rL, rA, rP, rE⟩ := vmB_true HOK'.out.symm
  obtain ⟨rP1, rP2⟩ := mkB_true rP
  obtain ⟨rE1, rE2⟩ := mkB_true rE
  have QA : Hid (∀ a ∈ L', -1000 ≤ a.1 ∧ a.1 ≤ 1000 ∧ -1000 ≤ a.2.1 ∧ a.2.1 ≤ 1000) := fun a ha => by have := okAm_true (rA a ha); omega
  have nP : P.length ≤ 16 ∧ 1 ≤ P.length := by omega
  have nE : E.length ≤ 16 ∧ 1 ≤ E.length := by omega
  have mP : P'.length ≤ 16 ∧ 1 ≤ P'.length := by omega
  have mE : E'.length ≤ 16 ∧ 1 ≤ E'.length := by omega
  have QE := Lib.hid qE2; have QP' := Lib.hid rP2
  clear qA qP qE qP2 qE2 rA rP rE rP2 rE2
  have c1 := RA2.out.cell 1; have d1 := RB2.out.cell 1
  have LT2 : Hid (w.heap.size + 1 + 1 < w2.heap.size) := RR2.out.lt
  go_wp2_with fail
  clear c1 d1
  have hkeep3 : Hid (∀ x y : World, Below w2.heap.size w2 x → Below x.heap.size x y → (Below w2.heap.size w2 y ∧ y.cell? ⟨w.heap.size, 2, none⟩ = some (.slice (some ⟨p2, 0, none⟩) L.length C2) ∧ y.cell? ⟨w.heap.size + 1, 2, none⟩ = some (.slice (some ⟨q2, 0, none⟩) L'.length D2) ∧ y.cell? ⟨w.heap.size, 0, none⟩ = some (.int .i64 S))) := by
    intro x y h1 h2
    have h3 := h1.trans (h2.mono h1.size)
    have r := RA2.out.below h3 RA2.out.lt
    have r' := RB2.out.below h3 RB2.out.lt
    exact ⟨h3, r.cell 2, r'.cell 2, r.cell 0⟩
  have hfrom := hkeep3.out w2 w2.drew (Below.refl _ _) (Below.drew (Below.refl _ _))
  have hsrc : Hid (∀ x : World, Below w2.heap.size w2 x → SlA x w2.heap.size (some ⟨p2, 0, none⟩) L.length L ∧ SlA x w2.heap.size (some ⟨q2, 0, none⟩) L'.length L') := by
    intro x hx
    have hb : Below w.heap.size w x := BX2.out.trans (hx.mono BX2.out.size)
    have z2 := BX2.out.size
    exact ⟨(H2.out.below hb (Nat.le_refl _)).more z2, (K2.out.below hb (Nat.le_refl _)).more z2⟩
  have HCl : Hid (∀ x : World, Below w2.heap.size w2 x → Calls Try.prog 40 #[.slice (some ⟨p2, 0, none⟩) L.length C2] x fun e y => ∃ A1 c1, e = .returned (.slice A1 L.length c1) ∧ OwX y w2.heap.size 62 4 (.slice A1 L.length c1) L.length (fa L) ∧ Below x.heap.size x y) := by
    intro x hx
    refine (iCloneA_any p2 0 L.length C2 L x ((hsrc.out x hx).1.more hx.size) (by omega)).mono ?_
    rintro e y ⟨A1, c1, rfl, ho, hb⟩
    exact ⟨A1, c1, rfl, World.ownsRow.mono ho hx.size, hb⟩
  have HMv : Hid (∀ (x : World) (A1 : Option Addr) (c1 : Nat), Below w2.heap.size w2 x → OwX x w2.heap.size 62 4 (.slice A1 L.length c1) L.length (fa L) → Calls Try.prog 39 #[.slice A1 L.length c1, .slice (some ⟨q2, 0, none⟩) L'.length D2, .int .i64 S] x fun e y => ∃ A2 c2, e = .returned (.slice A2 (L.length + L'.length) c2) ∧ OwX y w2.heap.size 62 4 (.slice A2 (L.length + L'.length) c2) (L.length + L'.length) (fa (eiL S L L')) ∧ Below w2.heap.size x y) := by
    intro x A1 c1 hx ho
    refine (iMovedG_any w2.heap.size A1 L.length c1 L (some ⟨q2, 0, none⟩) L'.length D2 L' S x ho hx.size (hsrc.out x hx).2 (by omega) (by omega) QA.out).mono ?_
    rintro e y ⟨A2, c2, rfl, ho2, hb, hon, _⟩
    exact ⟨A2, c2, rfl, ho2, hb⟩
  have hkeep4 : Hid (∀ x y : World, Below w2.heap.size w2 x → Below w2.heap.size x y → (Below w2.heap.size w2 y ∧ y.cell? ⟨w.heap.size, 2, none⟩ = some (.slice (some ⟨p2, 0, none⟩) L.length C2) ∧ y.cell? ⟨w.heap.size + 1, 2, none⟩ = some (.slice (some ⟨q2, 0, none⟩) L'.length D2) ∧ y.cell? ⟨w.heap.size, 0, none⟩ = some (.int .i64 S))) := by
    intro x y h1 h2
    have h3 := h1.trans h2
    have r := RA2.out.below h3 RA2.out.lt
    have r' := RB2.out.below h3 RB2.out.lt
    exact ⟨h3, r.cell 2, r'.cell 2, r.cell 0⟩
  go_region_held3 (fun x => Below w2.heap.size w2 x ∧ x.cell? ⟨w.heap.size, 2, none⟩ = some (.slice (some ⟨p2, 0, none⟩) L.length C2) ∧ x.cell? ⟨w.heap.size + 1, 2, none⟩ = some (.slice (some ⟨q2, 0, none⟩) L'.length D2) ∧ x.cell? ⟨w.heap.size, 0, none⟩ = some (.int .i64 S)) (first | (with_reducible assumption) | go_keep)
    (first
      | (go_at_call 40; refine (HCl.out _ (by first | (with_reducible assumption) | (with_reducible (apply And.left; assumption)))).mono ?_; rintro e y1 ⟨A1, c1, rfl, o1, b1⟩; have s1 := (fun h => hkeep3.out _ _ h b1) (by first | (with_reducible assumption) | (with_reducible (apply And.left; assumption))))
      | (go_at_call 39; refine (HMv.out _ _ _ (by first | (with_reducible assumption) | (with_reducible (apply And.left; assumption))) (by with_reducible assumption)).mono ?_; rintro e y2 ⟨A2, c2, rfl, o2, b2⟩; have s2 := (fun h => hkeep4.out _ _ h b2) (by first | (with_reducible assumption) | (with_reducible (apply And.left; assumption)))))
  obtain ⟨hB2, -, -, -⟩ := s2
  obtain ⟨w3, rfl⟩ : ∃ x, x = y2 := ⟨_, rfl⟩
  have B3 := Lib.hid hB2; have O3 := Lib.hid o2
  clear hB2 o2 s1 o1 b1 b2 hfrom
  have e4 := (RA2.out.below B3.out RA2.out.lt).cell 4
  go_wp2_with fail
  clear e4
  go_loopg [6, 7, 8, 9, 10, 38] E.length (fun q o u7 u8 u9 u10 i wr => ∃ (k n : Nat) (A : Option Addr) (c : Nat), i = .int .i64 k ∧ k ≤ E.length ∧ E.length ≤ q + k ∧ o = .slice A n c ∧ Hid (n = (jo1 S L L' P' E k).length) ∧ Hid (wr.ownsRow w2.heap.size 62 4 (.slice A n c) n (fa (jo1 S L L' P' E k))) ∧ Hid (Below w2.heap.size w2 wr))
  case atStart => exact ⟨0, _, _, _, rfl, by omega, by omega, rfl, by show _ = _; rw [jo1_zero, eiL_len], by show World.ownsRow _ _ _ _ _ _ _; rw [jo1_zero]; exact O3.out, B3⟩
  case round =>
    obtain ⟨k, n, A, c, rfl, hk, hm, rfl, HN, HO, HB⟩ := hrel
    obtain ⟨wo, rfl⟩ : ∃ x : World, x = wr := ⟨_, rfl⟩
    obtain ⟨go, hgo⟩ : ∃ g : Nat, g = gk := ⟨_, rfl⟩
    have hnb : n ≤ 1000 := by rw [HN.out]; have := jo1_len (S := S) (L := L) (L' := L') (P' := P') (E := E) k (by omega) (by omega); omega
    have HBw := Lib.hid (BX2.out.trans (HB.out.mono BX2.out.size))
    by_cases hlt : k < E.length
    · obtain ⟨b, off, x, hA, hbB, hx, kc⟩ := (H4.out.below HBw.out (Nat.le_refl _)).at_ hlt
      cases hA
      rw [Nat.zero_add] at kc
      obtain ⟨e, he⟩ : ∃ e, e = x := ⟨_, rfl⟩
      rw [← he] at hx kc
      clear he
      have l0 : (0 : Int) ≤ (k : Int) := by omega
      have l1 : (k : Int) < (E.length : Int) := by omega
      have dS : decide ((k : Int) < S) = true := decide_eq_true (by omega)
      have hxr := QE.out e (List.mem_of_getElem? hx.out)
      have HST := Lib.hid (jo1_step (S := S) (L := L) (L' := L') (P' := P') hx.out)
      have f3 := (RB2.out.below HB.out RB2.out.lt).cell 3
      go_wp2_with fail
      clear f3
      go_loopg [6, 9, 10, 46] P'.length (fun q o u9 u10 i wr => ∃ (j n : Nat) (A : Option Addr) (c : Nat), i = .int .i64 j ∧ j ≤ P'.length ∧ P'.length ≤ q + j ∧ o = .slice A n c ∧ Hid (n = (jo2 S L L' P' E k e j).length) ∧ Hid (wr.ownsRow w2.heap.size 62 4 (.slice A n c) n (fa (jo2 S L L' P' E k e j))) ∧ Hid (Below w2.heap.size w2 wr))
      case atStart => exact ⟨0, _, _, _, rfl, by omega, by omega, rfl, by show _ = _; rw [jo2_zero]; exact HN.out, by show World.ownsRow _ _ _ _ _ _ _; rw [jo2_zero]; exact HO.out, HB⟩
      case round =>
        clear HN HO HB HBw hnb kc
        obtain ⟨j, n, A, c, rfl, hj, hm2, rfl, HN, HO, HB⟩ := hrel
        obtain ⟨wi, rfl⟩ : ∃ x : World, x = wr := ⟨_, rfl⟩
        have hnb : n ≤ 1000 := by rw [HN.out]; have := jo2_len (S := S) (L := L) (L' := L') (P' := P') (E := E) k e j (by omega) (by omega); omega
        have HBw := Lib.hid (BX2.out.trans (HB.out.mono BX2.out.size))
        have HBS : Hid (w2.heap.size ≤ wi.heap.size) := HB.out.size
        by_cases hlt2 : j < P'.length
        · obtain ⟨b', off', x, hA, hbB', hx2, kc2⟩ := (K3.out.below HBw.out (Nat.le_refl _)).at_ hlt2
          cases hA
          rw [Nat.zero_add] at kc2
          have m0 : (0 : Int) ≤ (j : Int) := by omega
          have m1 : (j : Int) < (P'.length : Int) := by omega
          have dS' : decide ((j : Int) < S') = true := decide_eq_true (by omega)
          have hxr2 := QP'.out x (List.mem_of_getElem? hx2.out)
          have HST2 := Lib.hid (jo2_step (S := S) (L := L) (L' := L') (E := E) (i := k) (e := e) hx2.out)
          have g0 := (RA2.out.below HB.out RA2.out.lt).cell 0
          by_cases hp : 0 ≤ e
          · by_cases hp2 : 0 ≤ x
            · have HST3 : Hid (jo2 S L L' P' E k e (j + 1) = jo2 S L L' P' E k e j ++ [((k : Int), S + (j : Int), -1, e + x)]) := by show _ = _; rw [HST2.out, jAr_pos hp hp2]
              have hw1 : IntKind.i64.wrap (S + (j : Int)) = S + (j : Int) := IntWalk.i64_in _ (by omega)
              have hw2 : IntKind.i64.wrap (e + x) = e + x := IntWalk.i64_in _ (by omega)
              go_wp2_with (first | (at_builtin; refine wpList_one_push wi rfl (.tmp 57) (.tmp 67) _ rfl w2.heap.size 62 (.agg #[.int .i64 0, .int .i64 0, .int .i64 0, .int .i64 0]) 4 32 Try.underlying25 infoAr rfl (by omega) (by omega) (.slice A n c) n _ rfl HO.out [.int .i64 (k : Int), .int .i64 (S + (j : Int)), .int .i64 (-1), .int .i64 (e + x)] rfl (fa_one [((k : Int), S + (j : Int), -1, e + x)]) wi.heap.size rfl rfl (by omega) HBS.out ?_; intro v' w' hown hgr hat; obtain ⟨A', c', hv', _, _⟩ := own_form hown; subst hv'; have HG := Lib.hid (grown_below' HO.out hgr HBS.out); have HOW := Lib.hid hown; clear hgr hown hat))
              go_roundg (gk - 1)
              case measure => omega
              case rel =>
                refine ⟨j + 1, n + 1, A', c', by go_num, by omega, by omega, rfl, ?_, ?_, HB.out.trans HG.out⟩
                · show _ = _; rw [HST3.out, List.length_append, ← HN.out]; rfl
                · show World.ownsRow _ _ _ _ _ _ _; rw [HST3.out, fa_append]; exact HOW.out
            · have HST3 : Hid (jo2 S L L' P' E k e (j + 1) = jo2 S L L' P' E k e j) := by show _ = _; rw [HST2.out, jAr_no2 hp2, List.append_nil]
              go_wp2_with fail
              go_roundg (gk - 1)
              case measure => omega
              case rel =>
                refine ⟨j + 1, n, A, c, by go_num, by omega, by omega, rfl, ?_, ?_, HB⟩
                · show _ = _; rw [HST3.out]; exact HN.out
                · show World.ownsRow _ _ _ _ _ _ _; rw [HST3.out]; exact HO.out
          · have HST3 : Hid (jo2 S L L' P' E k e (j + 1) = jo2 S L L' P' E k e j) := by show _ = _; rw [HST2.out, jAr_no1 hp, List.append_nil]
            go_wp2_with fail
            go_roundg (gk - 1)
            case measure => omega
            case rel =>
              refine ⟨j + 1, n, A, c, by go_num, by omega, by omega, rfl, ?_, ?_, HB⟩
              · show _ = _; rw [HST3.out]; exact HN.out
              · show World.ownsRow _ _ _ _ _ _ _; rw [HST3.out]; exact HO.out
        · obtain rfl : j = P'.length := by omega
          go_wp2_with fail
          go_roundg (go - 1)
          case measure => omega
          case rel =>
            refine ⟨k + 1, n, A, c, by go_num, by omega, by omega, rfl, ?_, ?_, HB⟩
            · show _ = _; rw [HST.out]; exact HN.out
            · show World.ownsRow _ _ _ _ _ _ _; rw [HST.out]; exact HO.out
    · obtain rfl : k = E.length := by omega
      go_wp2_with fail
      obtain ⟨wz, rfl⟩ : ∃ x : World, x = wo := ⟨_, rfl⟩
      have HOZ : Hid (OwX wz w2.heap.size 62 4 (.slice A n c) n (fa (joA S L L' P' E))) := HO.out
      have LTz : Hid (w.heap.size + 1 + 1 < wz.heap.size) := by have := LT2.out; have := HB.out.size; show _ < _; omega
      have RAz := Lib.hid (RA2.out.below HB.out RA2.out.lt); have RBz := Lib.hid (RB2.out.below HB.out RB2.out.lt); have RRz := Lib.hid (RR2.out.below HB.out RR2.out.lt)
      have Z2 : Hid (w2.heap.size ≤ wz.heap.size) := HB.out.size
      have hcells : Hid (∀ x : World, Lo wz.heap.size (w.heap.size + 1 + 1) wz x → (x.cell? ⟨w.heap.size, 0, none⟩ = some (.int .i64 S) ∧ x.cell? ⟨w.heap.size, 1, none⟩ = some (.int .i64 T) ∧ x.cell? ⟨w.heap.size, 3, none⟩ = some (.slice (some ⟨p3, 0, none⟩) P.length C3) ∧ x.cell? ⟨w.heap.size + 1, 0, none⟩ = some (.int .i64 S') ∧ x.cell? ⟨w.heap.size + 1, 4, none⟩ = some (.slice (some ⟨q4, 0, none⟩) E'.length D4))) := by
        intro x hx
        have r := hx.row RAz.out (by have := LTz.out; omega) (by omega)
        have r' := hx.row RBz.out (by have := LTz.out; omega) (by omega)
        exact ⟨r.cell 0, r.cell 1, r.cell 3, r'.cell 0, r'.cell 4⟩
      have hkeep : Hid (∀ x y : World, Lo wz.heap.size (w.heap.size + 1 + 1) wz x → Below wz.heap.size x y → (Lo wz.heap.size (w.heap.size + 1 + 1) wz y ∧ y.cell? ⟨w.heap.size, 0, none⟩ = some (.int .i64 S) ∧ y.cell? ⟨w.heap.size, 1, none⟩ = some (.int .i64 T) ∧ y.cell? ⟨w.heap.size, 3, none⟩ = some (.slice (some ⟨p3, 0, none⟩) P.length C3) ∧ y.cell? ⟨w.heap.size + 1, 0, none⟩ = some (.int .i64 S') ∧ y.cell? ⟨w.heap.size + 1, 4, none⟩ = some (.slice (some ⟨q4, 0, none⟩) E'.length D4))) := by
        intro x y h1 h2
        have h3 := h1.trans (Lo.below h2 (Nat.le_refl _))
        exact ⟨h3, hcells.out y h3⟩
      have hkeepA : Hid (∀ (x : World) (ob : Obj), Lo wz.heap.size (w.heap.size + 1 + 1) wz x → (Lo wz.heap.size (w.heap.size + 1 + 1) wz (x.alloc ob) ∧ (x.alloc ob).cell? ⟨w.heap.size, 0, none⟩ = some (.int .i64 S) ∧ (x.alloc ob).cell? ⟨w.heap.size, 1, none⟩ = some (.int .i64 T) ∧ (x.alloc ob).cell? ⟨w.heap.size, 3, none⟩ = some (.slice (some ⟨p3, 0, none⟩) P.length C3) ∧ (x.alloc ob).cell? ⟨w.heap.size + 1, 0, none⟩ = some (.int .i64 S') ∧ (x.alloc ob).cell? ⟨w.heap.size + 1, 4, none⟩ = some (.slice (some ⟨q4, 0, none⟩) E'.length D4))) := by
        intro x ob h1
        have h3 := h1.trans (Lo.alloc _ _ x ob h1.2.2.2.1)
        exact ⟨h3, hcells.out _ h3⟩
      have hkeepD : Hid (∀ (x : World) (ob : Obj), Lo wz.heap.size (w.heap.size + 1 + 1) wz x.drew → (Lo wz.heap.size (w.heap.size + 1 + 1) wz (x.alloc ob).drew ∧ (x.alloc ob).drew.cell? ⟨w.heap.size, 0, none⟩ = some (.int .i64 S) ∧ (x.alloc ob).drew.cell? ⟨w.heap.size, 1, none⟩ = some (.int .i64 T) ∧ (x.alloc ob).drew.cell? ⟨w.heap.size, 3, none⟩ = some (.slice (some ⟨p3, 0, none⟩) P.length C3) ∧ (x.alloc ob).drew.cell? ⟨w.heap.size + 1, 0, none⟩ = some (.int .i64 S') ∧ (x.alloc ob).drew.cell? ⟨w.heap.size + 1, 4, none⟩ = some (.slice (some ⟨q4, 0, none⟩) E'.length D4))) := by
        intro x ob h1
        have h3 : Lo wz.heap.size (w.heap.size + 1 + 1) wz (x.alloc ob).drew := h1.trans (Lo.alloc _ _ x.drew ob h1.2.2.2.1)
        exact ⟨h3, hcells.out _ h3⟩
      have hkeepS : Hid (∀ (x : World) (u0 u1 u2 u3 u4 : Value), Lo wz.heap.size (w.heap.size + 1 + 1) wz x → (Lo wz.heap.size (w.heap.size + 1 + 1) wz (((((x.setCell ⟨w.heap.size + 1 + 1, 0, none⟩ u0).setCell ⟨w.heap.size + 1 + 1, 1, none⟩ u1).setCell ⟨w.heap.size + 1 + 1, 2, none⟩ u2).setCell ⟨w.heap.size + 1 + 1, 3, none⟩ u3).setCell ⟨w.heap.size + 1 + 1, 4, none⟩ u4) ∧ (((((x.setCell ⟨w.heap.size + 1 + 1, 0, none⟩ u0).setCell ⟨w.heap.size + 1 + 1, 1, none⟩ u1).setCell ⟨w.heap.size + 1 + 1, 2, none⟩ u2).setCell ⟨w.heap.size + 1 + 1, 3, none⟩ u3).setCell ⟨w.heap.size + 1 + 1, 4, none⟩ u4).cell? ⟨w.heap.size, 0, none⟩ = some (.int .i64 S) ∧ (((((x.setCell ⟨w.heap.size + 1 + 1, 0, none⟩ u0).setCell ⟨w.heap.size + 1 + 1, 1, none⟩ u1).setCell ⟨w.heap.size + 1 + 1, 2, none⟩ u2).setCell ⟨w.heap.size + 1 + 1, 3, none⟩ u3).setCell ⟨w.heap.size + 1 + 1, 4, none⟩ u4).cell? ⟨w.heap.size, 1, none⟩ = some (.int .i64 T) ∧ (((((x.setCell ⟨w.heap.size + 1 + 1, 0, none⟩ u0).setCell ⟨w.heap.size + 1 + 1, 1, none⟩ u1).setCell ⟨w.heap.size + 1 + 1, 2, none⟩ u2).setCell ⟨w.heap.size + 1 + 1, 3, none⟩ u3).setCell ⟨w.heap.size + 1 + 1, 4, none⟩ u4).cell? ⟨w.heap.size, 3, none⟩ = some (.slice (some ⟨p3, 0, none⟩) P.length C3) ∧ (((((x.setCell ⟨w.heap.size + 1 + 1, 0, none⟩ u0).setCell ⟨w.heap.size + 1 + 1, 1, none⟩ u1).setCell ⟨w.heap.size + 1 + 1, 2, none⟩ u2).setCell ⟨w.heap.size + 1 + 1, 3, none⟩ u3).setCell ⟨w.heap.size + 1 + 1, 4, none⟩ u4).cell? ⟨w.heap.size + 1, 0, none⟩ = some (.int .i64 S') ∧ (((((x.setCell ⟨w.heap.size + 1 + 1, 0, none⟩ u0).setCell ⟨w.heap.size + 1 + 1, 1, none⟩ u1).setCell ⟨w.heap.size + 1 + 1, 2, none⟩ u2).setCell ⟨w.heap.size + 1 + 1, 3, none⟩ u3).setCell ⟨w.heap.size + 1 + 1, 4, none⟩ u4).cell? ⟨w.heap.size + 1, 4, none⟩ = some (.slice (some ⟨q4, 0, none⟩) E'.length D4))) := by
        intro x u0 u1 u2 u3 u4 h1
        have h3 := ((((h1.trans (Lo.set _ _ _ 0 u0)).trans (Lo.set _ _ _ 1 u1)).trans (Lo.set _ _ _ 2 u2)).trans (Lo.set _ _ _ 3 u3)).trans (Lo.set _ _ _ 4 u4)
        exact ⟨h3, hcells.out _ h3⟩
      have hsrcz : Hid (∀ x : World, Lo wz.heap.size (w.heap.size + 1 + 1) wz x → SlI x x.heap.size (some ⟨p3, 0, none⟩) P.length P ∧ SlI x x.heap.size (some ⟨q4, 0, none⟩) E'.length E' ∧ OwX x w2.heap.size 62 4 (.slice A n c) n (fa (joA S L L' P' E))) := by
        intro x hx
        have hb : Below w.heap.size w x := HBw.out.trans (hx.bel (by have := LTz.out; omega) (by omega))
        refine ⟨(H3.out.below hb (Nat.le_refl _)).more hb.size, (K4.out.below hb (Nat.le_refl _)).more hb.size, own_move HOZ.out (fun g hg => hx.2.2.2.2 g (HOZ.out.lt g hg).2 ?_)⟩
        have := (HOZ.out.lt g hg).1; have := LT2.out; omega
      have HN1 : Hid (∀ x : World, Lo wz.heap.size (w.heap.size + 1 + 1) wz x → Calls Try.prog 42 #[.int .i64 S'] x fun e y => ∃ g, e = .returned (.slice (some ⟨g, 0, none⟩) P'.length P'.length) ∧ Row y g 2 (iv (List.replicate P'.length (-1))) ∧ Up x y ∧ Below wz.heap.size x y) := by
        intro x hx
        rw [show S' = ((P'.length : Nat) : Int) by omega]
        refine (iNone_any P'.length x (by omega) (by omega)).mono ?_
        rintro e y ⟨g, rfl, _, hr, hb⟩
        exact ⟨g, rfl, hr, Up.of hb, hb.mono hx.2.2.2.1⟩
      have HN2 : Hid (∀ x : World, Lo wz.heap.size (w.heap.size + 1 + 1) wz x → Calls Try.prog 42 #[.int .i64 S] x fun e y => ∃ g, e = .returned (.slice (some ⟨g, 0, none⟩) P.length P.length) ∧ Row y g 2 (iv (List.replicate P.length (-1))) ∧ Up x y ∧ Below wz.heap.size x y) := by
        intro x hx
        rw [show S = ((P.length : Nat) : Int) by omega]
        refine (iNone_any P.length x (by omega) (by omega)).mono ?_
        rintro e y ⟨g, rfl, _, hr, hb⟩
        exact ⟨g, rfl, hr, Up.of hb, hb.mono hx.2.2.2.1⟩
      have HX3 : Hid (∀ (x : World) (g gN : Nat), Lo wz.heap.size (w.heap.size + 1 + 1) wz x → Row x g 26 [.slice (some ⟨p3, 0, none⟩) P.length C3, .slice (some ⟨gN, 0, none⟩) P'.length P'.length] → Row x gN 2 (iv (List.replicate P'.length (-1))) → Calls Try.prog 41 #[.slice (some ⟨g, 0, none⟩) 2 2] x fun e y => ∃ A3 c3, e = .returned (.slice A3 (P.length + P'.length) c3) ∧ OwX y w2.heap.size 2 1 (.slice A3 (P.length + P'.length) c3) (P.length + P'.length) (iv (joS P P')) ∧ (∀ k, (Value.slice A3 (P.length + P'.length) c3).ownBlock = some k → wz.heap.size ≤ k) ∧ Up x y ∧ Below wz.heap.size x y) := by
        intro x g gN hx hr hN
        obtain ⟨s3, _, _⟩ := hsrcz.out x hx
        have ht := catL_two ⟨p3, 0, P.length, C3, P⟩ ⟨gN, 0, P'.length, P'.length, List.replicate P'.length (-1)⟩
        have ht2 : catL [⟨p3, 0, P.length, C3, P⟩, ⟨gN, 0, P'.length, P'.length, List.replicate P'.length (-1)⟩] = joS P P' := ht
        refine (iConcat_any g 2 2 [⟨p3, 0, P.length, C3, P⟩, ⟨gN, 0, P'.length, P'.length, List.replicate P'.length (-1)⟩] x hr.sl ?_ (by omega) (by rw [ht2, joS_len]; omega)).mono ?_
        · intro p hp
          simp at hp
          rcases hp with rfl | rfl
          · exact s3
          · exact row_slR hN
        · rw [ht2]
          rintro e y ⟨A3, c3, rfl, ho, hb⟩
          have ho' : y.ownsRow x.heap.size 2 1 (.slice A3 (joS P P').length c3) (joS P P').length (iv (joS P P')) := ho
          rw [joS_len] at ho'
          exact ⟨A3, c3, by rw [joS_len], World.ownsRow.mono ho' (by have := hx.2.2.2.1; have := Z2.out; omega), fun k hk => Nat.le_trans hx.2.2.2.1 (ho'.lt k hk).1, Up.of hb, hb.mono hx.2.2.2.1⟩
      have HX4 : Hid (∀ (x : World) (g gN : Nat), Lo wz.heap.size (w.heap.size + 1 + 1) wz x → Row x g 26 [.slice (some ⟨gN, 0, none⟩) P.length P.length, .slice (some ⟨q4, 0, none⟩) E'.length D4] → Row x gN 2 (iv (List.replicate P.length (-1))) → Calls Try.prog 41 #[.slice (some ⟨g, 0, none⟩) 2 2] x fun e y => ∃ A4 c4, e = .returned (.slice A4 (P.length + E'.length) c4) ∧ OwX y w2.heap.size 2 1 (.slice A4 (P.length + E'.length) c4) (P.length + E'.length) (iv (joE P E')) ∧ (∀ k, (Value.slice A4 (P.length + E'.length) c4).ownBlock = some k → x.heap.size ≤ k) ∧ Up x y ∧ Below wz.heap.size x y) := by
        intro x g gN hx hr hN
        obtain ⟨_, s3, _⟩ := hsrcz.out x hx
        have ht2 : catL [⟨gN, 0, P.length, P.length, List.replicate P.length (-1)⟩, ⟨q4, 0, E'.length, D4, E'⟩] = joE P E' := catL_two _ _
        refine (iConcat_any g 2 2 [⟨gN, 0, P.length, P.length, List.replicate P.length (-1)⟩, ⟨q4, 0, E'.length, D4, E'⟩] x hr.sl ?_ (by omega) (by rw [ht2, joE_len]; omega)).mono ?_
        · intro p hp
          simp at hp
          rcases hp with rfl | rfl
          · exact row_slR hN
          · exact s3
        · rw [ht2]
          rintro e y ⟨A4, c4, rfl, ho, hb⟩
          have ho' : y.ownsRow x.heap.size 2 1 (.slice A4 (joE P E').length c4) (joE P E').length (iv (joE P E')) := ho
          rw [joE_len] at ho'
          exact ⟨A4, c4, by rw [joE_len], World.ownsRow.mono ho' (by have := hx.2.2.2.1; have := Z2.out; omega), fun k hk => (ho'.lt k hk).1, Up.of hb, hb.mono hx.2.2.2.1⟩
      have HNJ : Hid ((joA S L L' P' E).length = n) := HN.out.symm
      have HK : Hid (∀ (x : World) (A3 : Option Addr) (c3 : Nat) (A4 : Option Addr) (c4 : Nat), Lo wz.heap.size (w.heap.size + 1 + 1) wz x → OwX x w2.heap.size 2 1 (.slice A3 (P.length + P'.length) c3) (P.length + P'.length) (iv (joS P P')) → OwX x w2.heap.size 2 1 (.slice A4 (P.length + E'.length) c4) (P.length + E'.length) (iv (joE P E')) → Calls Try.prog 38 #[.agg #[.int .i64 (S + S'), .int .i64 T, .slice A n c, .slice A3 (P.length + P'.length) c3, .slice A4 (P.length + E'.length) c4]] x fun e y => ∃ ok, ok = vmB (S + S') T (joA S L L' P' E) (joS P P') (joE P E') ∧ e = .returned (.tuple #[.agg #[.int .i64 (ckI ok (S + S')), .int .i64 (ckI ok T), .slice (ckA ok A) (ckN ok n) (ckN ok c), .slice (ckA ok A3) (ckN ok (P.length + P'.length)) (ckN ok c3), .slice (ckA ok A4) (ckN ok (P.length + E'.length)) (ckN ok c4)], .bool ok]) ∧ Below x.heap.size x y ∧ Below wz.heap.size x y ∧ OwX y w2.heap.size 2 1 (.slice A3 (P.length + P'.length) c3) (P.length + P'.length) (iv (joS P P')) ∧ OwX y w2.heap.size 2 1 (.slice A4 (P.length + E'.length) c4) (P.length + E'.length) (iv (joE P E'))) := by
        intro x A3 c3 A4 c4 hx o3 o4
        refine (iCheckedG w2.heap.size (S + S') T (joA S L L' P' E) (joS P P') (joE P E') A n c A3 _ c3 A4 _ c4 x (hsrcz.out x hx).2.2 o3 o4 HNJ.out (joS_len _ _) (joE_len _ _) (by omega) (by omega) (by omega)).mono ?_
        rintro e y ⟨ok, h1, h2, h3⟩
        exact ⟨ok, h1, h2, h3, h3.mono hx.2.2.2.1, o3.upd (Up.of h3), o4.upd (Up.of h3)⟩
      have HWR : Hid (Value.int .i64 (IntKind.i64.wrap (S + S')) = .int .i64 (S + S')) := by show _ = _; rw [IntWalk.i64_in _ (by omega)]
      have hdr : Lo wz.heap.size (w.heap.size + 1 + 1) wz wz.drew := Lo.refl _ _ _
      have hfrom : Lo wz.heap.size (w.heap.size + 1 + 1) wz wz.drew ∧ wz.drew.cell? ⟨w.heap.size, 0, none⟩ = some (.int .i64 S) ∧ wz.drew.cell? ⟨w.heap.size, 1, none⟩ = some (.int .i64 T) ∧ wz.drew.cell? ⟨w.heap.size, 3, none⟩ = some (.slice (some ⟨p3, 0, none⟩) P.length C3) ∧ wz.drew.cell? ⟨w.heap.size + 1, 0, none⟩ = some (.int .i64 S') ∧ wz.drew.cell? ⟨w.heap.size + 1, 4, none⟩ = some (.slice (some ⟨q4, 0, none⟩) E'.length D4) := ⟨hdr, hcells.out _ hdr⟩
      clear hkeep3 hkeep4 HCl HMv hsrc HN HO HB
      go_region_held3 (fun x => Lo wz.heap.size (w.heap.size + 1 + 1) wz x ∧ x.cell? ⟨w.heap.size, 0, none⟩ = some (.int .i64 S) ∧ x.cell? ⟨w.heap.size, 1, none⟩ = some (.int .i64 T) ∧ x.cell? ⟨w.heap.size, 3, none⟩ = some (.slice (some ⟨p3, 0, none⟩) P.length C3) ∧ x.cell? ⟨w.heap.size + 1, 0, none⟩ = some (.int .i64 S') ∧ x.cell? ⟨w.heap.size + 1, 4, none⟩ = some (.slice (some ⟨q4, 0, none⟩) E'.length D4)) (first | (with_reducible assumption) | (with_reducible exact hkeepD.out _ _ (by first | (with_reducible assumption) | (with_reducible (apply And.left; assumption)))) | (with_reducible exact hkeepA.out _ _ (by first | (with_reducible assumption) | (with_reducible (apply And.left; assumption)))) | (with_reducible exact hkeepS.out _ _ _ _ _ _ (by first | (with_reducible assumption) | (with_reducible (apply And.left; assumption)))) | go_keep)
        (first
          | (go_at_call_of 42 (Value.int .i64 S'); refine (HN1.out _ (by first | (with_reducible assumption) | (with_reducible (apply And.left; assumption)))).mono ?_; rintro e y1 ⟨gN, rfl, r1, up1, b1⟩; have s1 := (fun h => hkeep.out _ _ h b1) (by first | (with_reducible assumption) | (with_reducible (apply And.left; assumption))))
          | (go_at_call_of 42 (Value.int .i64 S); refine (HN2.out _ (by first | (with_reducible assumption) | (with_reducible (apply And.left; assumption)))).mono ?_; rintro e y3 ⟨gM, rfl, r3, up3, b3⟩; have s3 := (fun h => hkeep.out _ _ h b3) (by first | (with_reducible assumption) | (with_reducible (apply And.left; assumption))))
          | (go_at_call 41; refine (HX3.out _ _ gN (by first | (with_reducible assumption) | (with_reducible (apply And.left; assumption))) ?_ ?_).mono ?_; (repeat (first | (with_reducible assumption) | (with_reducible exact Row.new _ _ _) | ((with_reducible refine rowNewE ?_); focus (simp; done)) | (with_reducible refine Row.drew ?_) | (with_reducible refine Row.alloc ?_ _))); (repeat (first | (with_reducible assumption) | (with_reducible exact Row.new _ _ _) | ((with_reducible refine rowNewE ?_); focus (simp; done)) | (with_reducible refine Row.drew ?_) | (with_reducible refine Row.alloc ?_ _))); rintro e y2 ⟨A3, c3, rfl, o3, n3, up2, b2⟩; have s2 := (fun h => hkeep.out _ _ h b2) (by first | (with_reducible assumption) | (with_reducible (apply And.left; assumption))))
          | (go_at_call 41; refine (HX4.out _ _ gM (by first | (with_reducible assumption) | (with_reducible (apply And.left; assumption))) ?_ ?_).mono ?_; (repeat (first | (with_reducible assumption) | (with_reducible exact Row.new _ _ _) | ((with_reducible refine rowNewE ?_); focus (simp; done)) | (with_reducible refine Row.drew ?_) | (with_reducible refine Row.alloc ?_ _))); (repeat (first | (with_reducible assumption) | (with_reducible exact Row.new _ _ _) | ((with_reducible refine rowNewE ?_); focus (simp; done)) | (with_reducible refine Row.drew ?_) | (with_reducible refine Row.alloc ?_ _))); rintro e y4 ⟨A4, c4, rfl, o4, n4, up4, b4⟩; have d34 : Apt (.slice A3 (P.length + P'.length) c3) (.slice A4 (P.length + E'.length) c4) := (by refine OwX.apt (lo := w2.heap.size) (e := 2) (sz := 1) (n := P.length + P'.length) (xs := iv (joS P P')) ?_ n4; exact (by repeat (first | (with_reducible assumption) | (with_reducible refine OwX.drew ?_) | (with_reducible refine OwX.alloc ?_ _) | (with_reducible refine OwX.up (by assumption) ?_)))); have d24 : Apt (.slice A n c) (.slice A4 (P.length + E'.length) c4) := (by refine OwX.apt (hsrcz.out _ (by first | (with_reducible assumption) | (with_reducible (apply And.left; assumption)))).2.2 n4); have s4 := (fun h => hkeep.out _ _ h b4) (by first | (with_reducible assumption) | (with_reducible (apply And.left; assumption))))
          | (go_at_call 38; rw [HWR.out]; refine (HK.out _ _ _ _ _ (by first | (with_reducible assumption) | (with_reducible (apply And.left; assumption))) (by repeat (first | (with_reducible assumption) | (with_reducible refine OwX.drew ?_) | (with_reducible refine OwX.alloc ?_ _) | (with_reducible refine OwX.up (by assumption) ?_))) (by repeat (first | (with_reducible assumption) | (with_reducible refine OwX.drew ?_) | (with_reducible refine OwX.alloc ?_ _) | (with_reducible refine OwX.up (by assumption) ?_)))).mono ?_; rintro e y5 ⟨ok2, hok2, rfl, hb5, hb52, o35, o45⟩; have s5 := (fun h => hkeep.out _ _ h hb52) (by first | (with_reducible assumption) | (with_reducible (apply And.left; assumption))); have HOK2 := Lib.hid hok2; clear hok2; have rr5 : Row y5 (w.heap.size + 1 + 1) 28 [.int .i64 0, .int .i64 0, .slice none 0 0, .slice none 0 0, .slice none 0 0] := (by repeat (first | (with_reducible exact RRz.out) | (with_reducible refine Row.drew ?_) | (with_reducible refine Row.alloc ?_ _) | (with_reducible refine row_low (by assumption) LTz.out ?_))); have y50 := rr5.cell 0; have f50 := rr5.frozen 0; have y51 := rr5.cell 1; have f51 := rr5.frozen 1; have y52 := rr5.cell 2; have f52 := rr5.frozen 2; have y53 := rr5.cell 3; have f53 := rr5.frozen 3; have y54 := rr5.cell 4; have f54 := rr5.frozen 4; have RR5 := Lib.hid rr5; clear rr5))
      all_goals
        try go_wp2_with fail
        clear y50 f50 y51 f51 y52 f52 y53 f53 y54 f54
        have hLF := (hkeepS.out y5 (.int .i64 (ckI ok2 (S + S'))) (.int .i64 (ckI ok2 T)) (.slice (ckA ok2 A) (ckN ok2 n) (ckN ok2 c)) (.slice (ckA ok2 A3) (ckN ok2 (P.length + P'.length)) (ckN ok2 c3)) (.slice (ckA ok2 A4) (ckN ok2 (P.length + E'.length)) (ckN ok2 c4)) s5.1).1
        have hF := (((((RR5.out.set_ 0 (.int .i64 (ckI ok2 (S + S')))).set_ 1 (.int .i64 (ckI ok2 T))).set_ 2 (.slice (ckA ok2 A) (ckN ok2 n) (ckN ok2 c))).set_ 3 (.slice (ckA ok2 A3) (ckN ok2 (P.length + P'.length)) (ckN ok2 c3))).set_ 4 (.slice (ckA ok2 A4) (ckN ok2 (P.length + E'.length)) (ckN ok2 c4)))
        have keepF : ∀ g, w2.heap.size ≤ g → (((((y5.setCell ⟨w.heap.size + 1 + 1, 0, none⟩ (.int .i64 (ckI ok2 (S + S')))).setCell ⟨w.heap.size + 1 + 1, 1, none⟩ (.int .i64 (ckI ok2 T))).setCell ⟨w.heap.size + 1 + 1, 2, none⟩ (.slice (ckA ok2 A) (ckN ok2 n) (ckN ok2 c))).setCell ⟨w.heap.size + 1 + 1, 3, none⟩ (.slice (ckA ok2 A3) (ckN ok2 (P.length + P'.length)) (ckN ok2 c3))).setCell ⟨w.heap.size + 1 + 1, 4, none⟩ (.slice (ckA ok2 A4) (ckN ok2 (P.length + E'.length)) (ckN ok2 c4))).heap[g]? = y5.heap[g]? := fun g h1 => heap_set5 _ _ _ _ _ (by have := LT2.out; omega)
        refine bodyPost_ret (results_cell2 rfl _ _ (w.heap.size + 1 + 1) 28 #[.int .i64 (ckI ok2 (S + S')), .int .i64 (ckI ok2 T), .slice (ckA ok2 A) (ckN ok2 n) (ckN ok2 c), .slice (ckA ok2 A3) (ckN ok2 (P.length + P'.length)) (ckN ok2 c3), .slice (ckA ok2 A4) (ckN ok2 (P.length + E'.length)) (ckN ok2 c4)] (0, 0) _ (.bool ok2) rfl rfl hF Try.underlying28 rfl (by kernel_rfl)) rfl ?_
        obtain ⟨F, hFF⟩ : ∃ F, F = (((((y5.setCell ⟨w.heap.size + 1 + 1, 0, none⟩ (.int .i64 (ckI ok2 (S + S')))).setCell ⟨w.heap.size + 1 + 1, 1, none⟩ (.int .i64 (ckI ok2 T))).setCell ⟨w.heap.size + 1 + 1, 2, none⟩ (.slice (ckA ok2 A) (ckN ok2 n) (ckN ok2 c))).setCell ⟨w.heap.size + 1 + 1, 3, none⟩ (.slice (ckA ok2 A3) (ckN ok2 (P.length + P'.length)) (ckN ok2 c3))).setCell ⟨w.heap.size + 1 + 1, 4, none⟩ (.slice (ckA ok2 A4) (ckN ok2 (P.length + E'.length)) (ckN ok2 c4))) := ⟨_, rfl⟩
        rw [← hFF] at hLF keepF ⊢
        clear hF hFF
        have hf : joOk S T L P E S' T L' P' E' = ok2 := by unfold joOk; rw [← HOK.out, ← HOK'.out, ← HOK2.out]; simp
        rw [hf]
        have hBF : Below w.heap.size w F := HBw.out.trans (hLF.bel (by have := LTz.out; omega) (by omega))
        have oa : F.ownsRow w2.heap.size 62 4 (.slice A n c) (joA S L L' P' E).length (fa (joA S L L' P' E)) := by rw [HNJ.out]; exact (hsrcz.out F hLF).2.2
        have os : F.ownsRow w2.heap.size 2 1 (.slice A3 (P.length + P'.length) c3) (joS P P').length (iv (joS P P')) := by rw [joS_len]; exact own_move o35 (fun g hg => keepF g (o35.lt g hg).1)
        have oe : F.ownsRow w2.heap.size 2 1 (.slice A4 (P.length + E'.length) c4) (joE P E').length (iv (joE P E')) := by rw [joE_len]; exact own_move o45 (fun g hg => keepF g (o45.lt g hg).1)
        have d23 : Apt (.slice A n c) (.slice A3 (P.length + P'.length) c3) := fun k hk hk' => by have := (HOZ.out.lt k hk).2; have := n3 k hk'; omega
        have hw2 := LT2.out
        rw [← ckV_agg]
        exact ⟨_, F.heap.size, rfl, Nat.le_refl _, ckO ok2 ⟨_, _, _, rfl, ⟨World.ownsRow.mono oa (by omega), fun k hk => (oa.lt k hk).2⟩, ⟨World.ownsRow.mono os (by omega), fun k hk => (os.lt k hk).2⟩, ⟨World.ownsRow.mono oe (by omega), fun k hk => (oe.lt k hk).2⟩, d23, d24, d34⟩, hBF⟩
end Go.Proofs.Ytegponioggpkcaa
