/- FitLetters of the reference. -/
import Derived.Test.YtkfmjnefbimecaaFiF
import Derived.Test.YtkfmjnefbimecaaFiL
import Derived.StillTailTactics
import Derived.Deep.CutRange
namespace Go.Proofs.Ytkfmjnefbimecaa
open Go.RowKit
set_option linter.unusedVariables false
attribute [local go_sem ↓] Go.wp_at_zero Go.wp_at_succ
/-- The counts in their blocks. -/
structure Cs (w1 w : World) (g1 g2 g3 : Nat) (a b c : List F32) : Prop where
  ra : Row w g1 94 (fv a)
  rb : Row w g2 94 (fv b)
  rc : Row w g3 94 (fv c)
  fr : Below w1.heap.size w1 w
  ge : w1.heap.size ≤ g1 ∧ w1.heap.size ≤ g2 ∧ w1.heap.size ≤ g3
  ne : g1 ≠ g2 ∧ g1 ≠ g3 ∧ g2 ≠ g3
section
variable {w1 w w' : World} {g1 g2 g3 : Nat} {a b c : List F32}
theorem Cs.call {B : Nat} (h : Cs w1 w g1 g2 g3 a b c) (hb : Below B w w') (hB : w.heap.size ≤ B) : Cs w1 w' g1 g2 g3 a b c :=
  ⟨h.ra.below hb (Nat.lt_of_lt_of_le h.ra.lt hB), h.rb.below hb (Nat.lt_of_lt_of_le h.rb.lt hB), h.rc.below hb (Nat.lt_of_lt_of_le h.rc.lt hB), h.fr.trans (hb.mono (Nat.le_trans h.fr.size hB)), h.ge, h.ne⟩
theorem Cs.inA (h : Cs w1 w g1 g2 g3 a b c) (i : Nat) {z : F32} (hz : z = fop .add (gF a i) f1) : Cs w1 (w.setCell ⟨g1, i, none⟩ (.float .f32 z.b)) g1 g2 g3 (incF a i) b c :=
  ⟨rowF_inc h.ra i hz, h.rb.far (Ne.symm h.ne.1) _, h.rc.far (Ne.symm h.ne.2.1) _, h.fr.setCell (p := ⟨g1, i, none⟩) h.ge.1 _, h.ge, h.ne⟩
theorem Cs.inB (h : Cs w1 w g1 g2 g3 a b c) (i : Nat) {z : F32} (hz : z = fop .add (gF b i) f1) : Cs w1 (w.setCell ⟨g2, i, none⟩ (.float .f32 z.b)) g1 g2 g3 a (incF b i) c :=
  ⟨h.ra.far h.ne.1 _, rowF_inc h.rb i hz, h.rc.far (Ne.symm h.ne.2.2) _, h.fr.setCell (p := ⟨g2, i, none⟩) h.ge.2.1 _, h.ge, h.ne⟩
theorem Cs.inC (h : Cs w1 w g1 g2 g3 a b c) (i : Nat) {z : F32} (hz : z = fop .add (gF c i) f1) : Cs w1 (w.setCell ⟨g3, i, none⟩ (.float .f32 z.b)) g1 g2 g3 a b (incF c i) :=
  ⟨h.ra.far h.ne.2.1 _, h.rb.far h.ne.2.2 _, rowF_inc h.rc i hz, h.fr.setCell (p := ⟨g3, i, none⟩) h.ge.2.2 _, h.ge, h.ne⟩
theorem Cs.made (w1 : World) (s q2 q3 : Nat) : Cs w1 (((w1.alloc (.cells (madeCells #[.float .f32 0] s) 94)).alloc (.cells (madeCells #[.float .f32 0] q2) 94)).alloc (.cells (madeCells #[.float .f32 0] q3) 94)) w1.heap.size (w1.heap.size + 1) (w1.heap.size + 1 + 1) (List.replicate s f0) (List.replicate q2 f0) (List.replicate q3 f0) :=
  ⟨((rowMadeZ rfl).alloc _).alloc _, (rowMadeZ (by simp)).alloc _, rowMadeZ (by simp), (((Below.refl _ _).alloc (Nat.le_refl _) _).alloc (by simp) _).alloc (by simp; omega) _, by omega, by omega⟩
end
set_option maxRecDepth 100000 in
set_option maxHeartbeats 16000000 in
theorem sFit_any (S T : Int) (P Q R : List F32) (p2 p3 p4 c2 c3 c4 : Nat) (A : Option Addr) (n c : Nat) (ws : List (List Int)) (A' : Option Addr) (n' c' : Nat) (hs : List (List Int)) (w : World)
    (h2 : SlF w w.heap.size (some ⟨p2, 0, none⟩) P.length P) (h3 : SlF w w.heap.size (some ⟨p3, 0, none⟩) Q.length Q) (h4 : SlF w w.heap.size (some ⟨p4, 0, none⟩) R.length R)
    (hcap : capOk (.agg #[.int .i64 S, .int .i64 T, .slice (some ⟨p2, 0, none⟩) P.length c2, .slice (some ⟨p3, 0, none⟩) Q.length c3, .slice (some ⟨p4, 0, none⟩) R.length c4])) (hw : SlL w w.heap.size A n ws) (hh : SlL w w.heap.size A' n' hs) (hn : n ≤ 1048576) (hn' : n' ≤ 1048576) (hm : ∀ r ∈ ws, r.length ≤ 1048576) (hm' : ∀ r ∈ hs, r.length ≤ 1048576) :
    Calls Try.prog 20 #[.agg #[.int .i64 S, .int .i64 T, .slice (some ⟨p2, 0, none⟩) P.length c2, .slice (some ⟨p3, 0, none⟩) Q.length c3, .slice (some ⟨p4, 0, none⟩) R.length c4], .slice A n c, .slice A' n' c'] w fun e w' => ∃ v', e = .returned (.tuple #[v', .bool (fitOk S T P Q R ws hs)]) ∧ MdW w' w.heap.size v' (ckI (fitOk S T P Q R ws hs) S) (ckI (fitOk S T P Q R ws hs) T) (ckL (fitOk S T P Q R ws hs) (fitP S T P ws hs)) (ckL (fitOk S T P Q R ws hs) (fitQ S T Q ws hs)) (ckL (fitOk S T P Q R ws hs) (fitR S T R ws hs)) ∧ Below w.heap.size w w' := by
  have hlw := hw.len; have hlh := hh.len
  have H2 := Lib.hid h2; have H3 := Lib.hid h3; have H4 := Lib.hid h4; have HW := Lib.hid hw; have HH := Lib.hid hh; have HCAP := Lib.hid hcap
  have HM := Lib.hid hm; have HM' := Lib.hid hm'; have HLW := Lib.hid hlw; have HLH := Lib.hid hlh
  clear h2 h3 h4 hw hh hcap hm hm' hlw hlh
  have rb := (Row.new w 48 [.int .i64 S, .int .i64 T, .slice (some ⟨p2, 0, none⟩) P.length c2, .slice (some ⟨p3, 0, none⟩) Q.length c3, .slice (some ⟨p4, 0, none⟩) R.length c4]).alloc (.cells ([.int .i64 0, .int .i64 0, .slice none 0 0, .slice none 0 0, .slice none 0 0] : List Value).toArray 48)
  have rr := Row.new (w.alloc (.cells ([.int .i64 S, .int .i64 T, .slice (some ⟨p2, 0, none⟩) P.length c2, .slice (some ⟨p3, 0, none⟩) Q.length c3, .slice (some ⟨p4, 0, none⟩) R.length c4] : List Value).toArray 48)) 48 [.int .i64 0, .int .i64 0, .slice none 0 0, .slice none 0 0, .slice none 0 0]
  rw [show (w.alloc (.cells ([.int .i64 S, .int .i64 T, .slice (some ⟨p2, 0, none⟩) P.length c2, .slice (some ⟨p3, 0, none⟩) Q.length c3, .slice (some ⟨p4, 0, none⟩) R.length c4] : List Value).toArray 48)).heap.size = w.heap.size + 1 by simp] at rr
  have bx : Below w.heap.size w ((w.alloc (.cells ([.int .i64 S, .int .i64 T, .slice (some ⟨p2, 0, none⟩) P.length c2, .slice (some ⟨p3, 0, none⟩) Q.length c3, .slice (some ⟨p4, 0, none⟩) R.length c4] : List Value).toArray 48)).alloc (.cells ([.int .i64 0, .int .i64 0, .slice none 0 0, .slice none 0 0, .slice none 0 0] : List Value).toArray 48)) := ((Below.refl _ _).alloc (Nat.le_refl _) _).alloc (by simp) _
  have RB := Lib.hid rb; have RR := Lib.hid rr; have BX := Lib.hid bx; clear rb rr bx
  go_enter Try.func20, Try.ntmps20
  go_wp2_with fail
  obtain ⟨x0, hx0⟩ : ∃ x, x = ((w.alloc (.cells ([.int .i64 S, .int .i64 T, .slice (some ⟨p2, 0, none⟩) P.length c2, .slice (some ⟨p3, 0, none⟩) Q.length c3, .slice (some ⟨p4, 0, none⟩) R.length c4] : List Value).toArray 48)).alloc (.cells ([.int .i64 0, .int .i64 0, .slice none 0 0, .slice none 0 0, .slice none 0 0] : List Value).toArray 48)) := ⟨_, rfl⟩
  rw [← hx0] at RB RR BX
  change Calls _ _ _ ((w.alloc (.cells ([.int .i64 S, .int .i64 T, .slice (some ⟨p2, 0, none⟩) P.length c2, .slice (some ⟨p3, 0, none⟩) Q.length c3, .slice (some ⟨p4, 0, none⟩) R.length c4] : List Value).toArray 48)).alloc (.cells ([.int .i64 0, .int .i64 0, .slice none 0 0, .slice none 0 0, .slice none 0 0] : List Value).toArray 48)) _
  rw [← hx0]
  clear hx0
  have hcc : (Q.length ≤ c3 ∧ c3 ≤ 9223372036854775807) ∧ (R.length ≤ c4 ∧ c4 ≤ 9223372036854775807) := by
    obtain ⟨S_, T_, A2_, n2_, c2_, A3_, n3_, c3_, A4_, n4_, c4_, e, k2, k2', k3, k3', k4, k4'⟩ := HCAP.out
    simp only [Value.agg.injEq, Array.mk.injEq, List.cons.injEq, Value.slice.injEq, and_true] at e
    obtain ⟨-, -, ⟨-, e2, e3⟩, ⟨-, e4, e5⟩, ⟨-, e6, e7⟩⟩ := e
    subst e4 e5 e6 e7
    exact ⟨⟨k3, k3'⟩, ⟨k4, k4'⟩⟩
  have HCC := Lib.hid hcc; clear hcc
  refine (sWords_any w.heap.size S T P Q R _ _ c2 _ _ c3 _ _ c4 A n c ws x0 RB.out ((H2.out.below BX.out (Nat.le_refl _)).more BX.out.size) ((H3.out.below BX.out (Nat.le_refl _)).more BX.out.size) ((H4.out.below BX.out (Nat.le_refl _)).more BX.out.size) HCAP.out ((HW.out.below BX.out (Nat.le_refl _)).more BX.out.size) (by omega) (fun r hr => by have := HM.out r hr; omega)).mono ?_
  rintro e w0 ⟨rfl, hb⟩
  have BX1 := Lib.hid (BX.out.trans (hb.mono BX.out.size))
  have RB1 := Lib.hid (RB.out.below hb RB.out.lt)
  have RR1 := Lib.hid (RR.out.below hb RR.out.lt)
  clear hb RB RR BX
  obtain ⟨ok, hok⟩ : ∃ b, b = hwB S T P Q R ws := ⟨_, rfl⟩
  rw [← hok]
  have HOK := Lib.hid hok; clear hok
  cases ok with
  | false =>
    have r0 := RR1.out.cell 0; have r1 := RR1.out.cell 1; have r2 := RR1.out.cell 2; have r3 := RR1.out.cell 3; have r4 := RR1.out.cell 4
    have f0' := RR1.out.frozen 0; have f1' := RR1.out.frozen 1; have f2 := RR1.out.frozen 2; have f3 := RR1.out.frozen 3; have f4 := RR1.out.frozen 4
    go_wp2_with fail
    clear r0 f0' r1 f1' r2 f2 r3 f3 r4 f4
    have hF := (((((RR1.out.set_ 0 (.int .i64 0)).set_ 1 (.int .i64 0)).set_ 2 (.slice none 0 0)).set_ 3 (.slice none 0 0)).set_ 4 (.slice none 0 0))
    refine bodyPost_ret (results_cell2 rfl _ _ (w.heap.size + 1) 48 #[.int .i64 0, .int .i64 0, .slice none 0 0, .slice none 0 0, .slice none 0 0] (0, 0) _ (.bool false) rfl rfl hF Try.underlying48 rfl (by kernel_rfl)) rfl ?_
    have hf : fitOk S T P Q R ws hs = false := by unfold fitOk; rw [← HOK.out]; rfl
    rw [hf]
    have hle : w.heap.size ≤ w.heap.size + 1 := by omega
    exact ⟨_, rfl, ⟨_, _, _, rfl, OwnV.nil _ _ _ _ _, OwnV.nil _ _ _ _ _, OwnV.nil _ _ _ _ _, fun k hk => by simp [Value.ownBlock] at hk, fun k hk => by simp [Value.ownBlock] at hk, fun k hk => by simp [Value.ownBlock] at hk⟩, (((((BX1.out.setCell (p := ⟨w.heap.size + 1, 0, none⟩) hle _).setCell (p := ⟨w.heap.size + 1, 1, none⟩) hle _).setCell (p := ⟨w.heap.size + 1, 2, none⟩) hle _).setCell (p := ⟨w.heap.size + 1, 3, none⟩) hle _).setCell (p := ⟨w.heap.size + 1, 4, none⟩) hle _)⟩

  | true =>
  by_cases hnn : n' = n
  case neg =>
    have hne : ((n' : Int) == (n : Int)) = false := beq_false_of_ne (by omega)
    have hne2 : ((n' : Int) != (n : Int)) = true := by rw [bne, hne]; rfl
    have HNN := Lib.hid hnn
    clear hnn
    have r0 := RR1.out.cell 0; have r1 := RR1.out.cell 1; have r2 := RR1.out.cell 2; have r3 := RR1.out.cell 3; have r4 := RR1.out.cell 4
    have f0' := RR1.out.frozen 0; have f1' := RR1.out.frozen 1; have f2 := RR1.out.frozen 2; have f3 := RR1.out.frozen 3; have f4 := RR1.out.frozen 4
    go_wp2_with fail
    clear r0 f0' r1 f1' r2 f2 r3 f3 r4 f4
    have hF := (((((RR1.out.set_ 0 (.int .i64 0)).set_ 1 (.int .i64 0)).set_ 2 (.slice none 0 0)).set_ 3 (.slice none 0 0)).set_ 4 (.slice none 0 0))
    refine bodyPost_ret (results_cell2 rfl _ _ (w.heap.size + 1) 48 #[.int .i64 0, .int .i64 0, .slice none 0 0, .slice none 0 0, .slice none 0 0] (0, 0) _ (.bool false) rfl rfl hF Try.underlying48 rfl (by kernel_rfl)) rfl ?_
    have hf : fitOk S T P Q R ws hs = false := by unfold fitOk; rw [decide_eq_false (by have := HNN.out; have := HLW.out; have := HLH.out; omega)]; simp
    rw [hf]
    have hle : w.heap.size ≤ w.heap.size + 1 := by omega
    exact ⟨_, rfl, ⟨_, _, _, rfl, OwnV.nil _ _ _ _ _, OwnV.nil _ _ _ _ _, OwnV.nil _ _ _ _ _, fun k hk => by simp [Value.ownBlock] at hk, fun k hk => by simp [Value.ownBlock] at hk, fun k hk => by simp [Value.ownBlock] at hk⟩, (((((BX1.out.setCell (p := ⟨w.heap.size + 1, 0, none⟩) hle _).setCell (p := ⟨w.heap.size + 1, 1, none⟩) hle _).setCell (p := ⟨w.heap.size + 1, 2, none⟩) hle _).setCell (p := ⟨w.heap.size + 1, 3, none⟩) hle _).setCell (p := ⟨w.heap.size + 1, 4, none⟩) hle _)⟩

  subst hnn
  obtain ⟨bS, bT, lP, lQ, lR, lw1, lw16, hwd⟩ := hwB_true HOK.out.symm
  obtain ⟨s, rfl⟩ : ∃ s : Nat, S = (s : Int) := ⟨S.toNat, by omega⟩
  obtain ⟨t, rfl⟩ : ∃ t : Nat, T = (t : Int) := ⟨T.toNat, by omega⟩
  rw [Int.toNat_natCast] at lP lQ lR
  rw [Int.toNat_natCast] at lR
  have BS : Hid (1 ≤ s ∧ s ≤ 5) := by show _ ∧ _; omega
  have BT : Hid (1 ≤ t ∧ t ≤ 4) := by show _ ∧ _; omega
  have LP := Lib.hid lP; have LQ := Lib.hid lQ; have LR := Lib.hid lR; have HWD := Lib.hid hwd
  have hm1 : s * s ≤ 5 * 5 := Nat.mul_le_mul BS.out.2 BS.out.2
  have hm2 : s * t ≤ 5 * 4 := Nat.mul_le_mul BS.out.2 BT.out.2
  have BL : Hid (P.length ≤ 25 ∧ Q.length ≤ 25 ∧ R.length ≤ 25) := by show _ ∧ _ ∧ _; omega
  have BN : Hid (1 ≤ n' ∧ n' ≤ 16) := by have := HLW.out; show _ ∧ _; omega
  clear bS bT lP lQ lR lw1 lw16 hwd hm1 hm2
  obtain ⟨w1, hw1⟩ : ∃ x, x = w0 := ⟨_, rfl⟩
  subst hw1
  obtain ⟨q2, hq2⟩ : ∃ q, q = s * s := ⟨_, rfl⟩
  obtain ⟨q3, hq3⟩ : ∃ q, q = s * t := ⟨_, rfl⟩
  have bq2 : q2 ≤ 25 := by have := BL.out; have := LQ.out; omega
  have bq3 : q3 ≤ 25 := by have := BL.out; have := LR.out; omega
  have WQ2 : IntKind.i64.wrap ((s : Int) * (s : Int)) = (q2 : Int) := by rw [← Int.natCast_mul, ← hq2]; exact IntWalk.i64_in _ (by omega)
  have WQ3 : IntKind.i64.wrap ((s : Int) * (t : Int)) = (q3 : Int) := by rw [← Int.natCast_mul, ← hq3]; exact IntWalk.i64_in _ (by omega)
  have hmk1 := run_make_row' (P := Try.prog) 42 94 (.float .f32 0) 4 Try.underlying42 infoF32 rfl .i64 .i64 s (by have := BS.out; omega) (by have := BS.out; omega)
  have hmk2 := run_make_row' (P := Try.prog) 42 94 (.float .f32 0) 4 Try.underlying42 infoF32 rfl .i64 .i64 q2 (by omega) (by omega)
  have hmk3 := run_make_row' (P := Try.prog) 42 94 (.float .f32 0) 4 Try.underlying42 infoF32 rfl .i64 .i64 q3 (by omega) (by omega)
  have HQ2 := Lib.hid hq2; have HQ3 := Lib.hid hq3
  have hO := Cs.made w1 s q2 q3
  rw [show s = P.length from LP.out.symm, hq2, ← LQ.out, hq3, ← LR.out] at hO
  have hO : Cs w1 (((w1.alloc (.cells (madeCells #[.float .f32 0] s) 94)).alloc (.cells (madeCells #[.float .f32 0] q2) 94)).alloc (.cells (madeCells #[.float .f32 0] q3) 94)) w1.heap.size (w1.heap.size + 1) (w1.heap.size + 1 + 1) (fiA s t ws hs (List.replicate P.length f0) 0) (fiB s t ws hs (List.replicate Q.length f0) 0) (fiC s t ws hs (List.replicate R.length f0) 0) := by
    rw [hq2, hq3, ← LQ.out, ← LR.out]
    rw [show s = P.length from LP.out.symm]
    exact hO
  have e0 := RB1.out.cell 0
  have e1 : ∀ o, (w1.alloc o).cell? ⟨w.heap.size, 0, none⟩ = some (.int .i64 (s : Int)) := fun o => (RB1.out.alloc o).cell 0
  have e2 : ∀ o o', ((w1.alloc o).alloc o').cell? ⟨w.heap.size, 0, none⟩ = some (.int .i64 (s : Int)) := fun o o' => ((RB1.out.alloc o).alloc o').cell 0
  have e3 : ∀ o o', ((w1.alloc o).alloc o').cell? ⟨w.heap.size, 1, none⟩ = some (.int .i64 (t : Int)) := fun o o' => ((RB1.out.alloc o).alloc o').cell 1
  clear hq2 hq3 bq2 bq3
  go_wp2_with fail
  clear hmk1 hmk2 hmk3 e0 e1 e2 e3 WQ2 WQ3
  change Code.wp _ _ _ _ (((w1.alloc (.cells (madeCells #[.float .f32 0] s) 94)).alloc (.cells (madeCells #[.float .f32 0] q2) 94)).alloc (.cells (madeCells #[.float .f32 0] q3) 94))
  obtain ⟨w3, hw3⟩ : ∃ x, x = (((w1.alloc (.cells (madeCells #[.float .f32 0] s) 94)).alloc (.cells (madeCells #[.float .f32 0] q2) 94)).alloc (.cells (madeCells #[.float .f32 0] q3) 94)) := ⟨_, rfl⟩
  rw [← hw3] at hO
  rw [← hw3]
  obtain ⟨g3, hg3⟩ : ∃ x, x = w1.heap.size + 1 + 1 := ⟨_, rfl⟩
  rw [← hg3] at hO
  rw [← hg3]
  obtain ⟨g2, hg2⟩ : ∃ x, x = w1.heap.size + 1 := ⟨_, rfl⟩
  rw [← hg2] at hO
  rw [← hg2]
  obtain ⟨g1, hg1⟩ : ∃ x, x = w1.heap.size := ⟨_, rfl⟩
  have hO : Cs w1 w3 g1 g2 g3 (fiA s t ws hs (List.replicate P.length f0) 0) (fiB s t ws hs (List.replicate Q.length f0) 0) (fiC s t ws hs (List.replicate R.length f0) 0) := by rw [hg1]; exact hO
  rw [← hg1]
  have HO := Lib.hid hO
  clear hO hw3 hg3 hg2 hg1
  have LT1 : Hid (w.heap.size + 1 < w1.heap.size) := RR1.out.lt
  have NB : Hid (w.heap.size < w1.heap.size) := RB1.out.lt
  go_loopg [11, 12, 41] n' (fun q u11 u12 i wr => ∃ k : Nat, i = .int .i64 (k : Int) ∧ k ≤ n' ∧ n' ≤ q + k ∧ Hid (prB (s : Int) ws hs k = true) ∧ Hid (Cs w1 wr g1 g2 g3 (fiA s t ws hs (List.replicate P.length f0) k) (fiB s t ws hs (List.replicate Q.length f0) k) (fiC s t ws hs (List.replicate R.length f0) k)))
  case atStart => exact ⟨0, by go_num, by omega, by omega, rfl, HO.out⟩
  case round =>
    clear HO
    obtain ⟨k, rfl, hk, hq, HPR, HO⟩ := hrel
    obtain ⟨wo, rfl⟩ : ∃ x : World, x = wr := ⟨_, rfl⟩
    obtain ⟨go, hgo⟩ : ∃ x : Nat, x = gk := ⟨_, rfl⟩
    by_cases hlt : k < n'
    · have hbo : Below w.heap.size w wo := BX1.out.trans (HO.out.fr.mono BX1.out.size)
      have HBO := Lib.hid hbo
      obtain ⟨b, off, Aw, cw, word, rfl, _, hx, kc, hxs, hxm⟩ := HW.out.at_ hlt
      obtain ⟨b', off', Ah, ch, way, rfl, _, hy, kc', hys, hym⟩ := HH.out.at_ hlt
      have HKC : Hid (∀ x : World, Below w.heap.size w x → x.cell? ⟨b, off + k, none⟩ = some (.slice Aw word.length cw) ∧ x.cell? ⟨b', off' + k, none⟩ = some (.slice Ah way.length ch)) := fun x hx => ⟨(hx.cell (p := ⟨b, off + k, none⟩) (World.block_lt_of_cell? _ _ kc)).trans kc, (hx.cell (p := ⟨b', off' + k, none⟩) (World.block_lt_of_cell? _ _ kc')).trans kc'⟩
      have HS1 := Lib.hid hxs.out; have HS2 := Lib.hid hys.out
      have HGW : Hid (ws.getD k [] = word) := by show _ = _; rw [List.getD_eq_getElem?_getD, hx.out]; rfl
      have HGH : Hid (hs.getD k [] = way) := by show _ = _; rw [List.getD_eq_getElem?_getD, hy.out]; rfl
      have hwl := (HWD.out word (List.mem_of_getElem? hx.out)).1
      have HWL := Lib.hid hwl
      have HWR := Lib.hid (HWD.out word (List.mem_of_getElem? hx.out)).2
      have HWM := Lib.hid (HM'.out way (List.mem_of_getElem? hy.out))
      have l0 : (0 : Int) ≤ (k : Int) := by omega
      have l1 : (k : Int) < (n' : Int) := by omega
      have lw : IntKind.i64.wrap ((k : Int) + 1) = (k : Int) + 1 := IntWalk.i64_in _ (by have := BN.out; omega)
      have hcel : Hid (∀ x : World, Below wo.heap.size wo x → (Below wo.heap.size wo x ∧ x.cell? ⟨b, off + k, none⟩ = some (.slice Aw word.length cw) ∧ x.cell? ⟨b', off' + k, none⟩ = some (.slice Ah way.length ch))) := fun x hx => ⟨hx, HKC.out x (HBO.out.trans (hx.mono HBO.out.size))⟩
      have hkeep : Hid (∀ x y : World, Below wo.heap.size wo x → Below x.heap.size x y → (Below wo.heap.size wo y ∧ y.cell? ⟨b, off + k, none⟩ = some (.slice Aw word.length cw) ∧ y.cell? ⟨b', off' + k, none⟩ = some (.slice Ah way.length ch))) := fun x y h1 h2 => hcel.out y (h1.trans (h2.mono h1.size))
      have hRBo := RB1.out.below HO.out.fr NB.out
      have hHC : Hid (∀ x : World, Below wo.heap.size wo x → Calls Try.prog 65 #[.pointer (some ⟨w.heap.size, 0, none⟩), .slice Aw word.length cw, .slice Ah way.length ch] x fun e y => e = .returned (.bool (hidA (s : Int) word way)) ∧ Below x.heap.size x y) := fun x hx =>
        sStates_any w.heap.size (s : Int) (t : Int) _ _ c2 _ _ c3 _ _ c4 Aw word.length cw word Ah way.length ch way x (hRBo.below hx hRBo.lt) (by have := BS.out; omega) ((HS1.out.below (HBO.out.trans (hx.mono HBO.out.size)) (Nat.le_refl _)).more (Nat.le_trans HBO.out.size hx.size)) ((HS2.out.below (HBO.out.trans (hx.mono HBO.out.size)) (Nat.le_refl _)).more (Nat.le_trans HBO.out.size hx.size)) (by have := HWL.out; omega) (by have := HWM.out; omega)
      have hfrom := hcel.out wo.drew (Below.drew (Below.refl _ _))
      clear hx hy hxs hys hxm hym hwl hbo kc kc'
      go_wp2_with fail
      go_region_held3 (fun x => Below wo.heap.size wo x ∧ x.cell? ⟨b, off + k, none⟩ = some (.slice Aw word.length cw) ∧ x.cell? ⟨b', off' + k, none⟩ = some (.slice Ah way.length ch)) (first | (with_reducible assumption) | go_keep)
        (first | (go_at_call 65; refine (hHC.out _ (by first | (with_reducible assumption) | (with_reducible (apply And.left; assumption)))).mono ?_; rintro e y1 ⟨rfl, hb1⟩; have s1 := (fun h => hkeep.out _ _ h hb1) (by first | (with_reducible assumption) | (with_reducible (apply And.left; assumption)))))
      obtain ⟨hb2, m5, m6⟩ := s1
      have HB2 := Lib.hid hb2
      have O1 := HO.out.call hb2 (Nat.le_refl _)
      have HO1 := Lib.hid O1
      clear hcel hkeep hHC hfrom hb1 hb2 O1 hRBo
      obtain ⟨hv, hhv⟩ : ∃ b, b = hidA (s : Int) word way := ⟨_, rfl⟩
      rw [← hhv]
      have HHV := Lib.hid hhv; clear hhv
      cases hv with
      | false =>
        clear m5 m6
        have RRy := Lib.hid (RR1.out.below HO1.out.fr LT1.out)
        have BXy := Lib.hid (BX1.out.trans (HO1.out.fr.mono BX1.out.size))
        have r0 := RRy.out.cell 0; have r1 := RRy.out.cell 1; have r2 := RRy.out.cell 2; have r3 := RRy.out.cell 3; have r4 := RRy.out.cell 4
        have f0' := RRy.out.frozen 0; have f1' := RRy.out.frozen 1; have f2 := RRy.out.frozen 2; have f3 := RRy.out.frozen 3; have f4 := RRy.out.frozen 4
        go_wp2_with fail
        clear r0 f0' r1 f1' r2 f2 r3 f3 r4 f4
        have hF := (((((RRy.out.set_ 0 (.int .i64 0)).set_ 1 (.int .i64 0)).set_ 2 (.slice none 0 0)).set_ 3 (.slice none 0 0)).set_ 4 (.slice none 0 0))
        refine bodyPost_ret (results_cell2 rfl _ _ (w.heap.size + 1) 48 #[.int .i64 0, .int .i64 0, .slice none 0 0, .slice none 0 0, .slice none 0 0] (0, 0) _ (.bool false) rfl rfl hF Try.underlying48 rfl (by kernel_rfl)) rfl ?_
        have hf : fitOk (s : Int) (t : Int) P Q R ws hs = false := by unfold fitOk; rw [prB_no (k := k) (by rw [HLW.out]; exact hlt) (by rw [HGW.out, HGH.out]; exact HHV.out.symm)]; simp
        rw [hf]
        have hle : w.heap.size ≤ w.heap.size + 1 := by omega
        exact ⟨_, rfl, ⟨_, _, _, rfl, OwnV.nil _ _ _ _ _, OwnV.nil _ _ _ _ _, OwnV.nil _ _ _ _ _, fun k hk => by simp [Value.ownBlock] at hk, fun k hk => by simp [Value.ownBlock] at hk, fun k hk => by simp [Value.ownBlock] at hk⟩, (((((BXy.out.setCell (p := ⟨w.heap.size + 1, 0, none⟩) hle _).setCell (p := ⟨w.heap.size + 1, 1, none⟩) hle _).setCell (p := ⟨w.heap.size + 1, 2, none⟩) hle _).setCell (p := ⟨w.heap.size + 1, 3, none⟩) hle _).setCell (p := ⟨w.heap.size + 1, 4, none⟩) hle _)⟩

      | true =>
      have HPR1 : Hid (prB (s : Int) ws hs (k + 1) = true) := by show _ = _; rw [prB_succ, HPR.out, HGW.out, HGH.out, ← HHV.out]; rfl
      obtain ⟨hvl, hvr⟩ := hidA_true HHV.out.symm
      have HVL := Lib.hid hvl; have HVR := Lib.hid hvr
      have hS2 := HS2.out.below (HBO.out.trans (HB2.out.mono HBO.out.size)) (Nat.le_refl _)
      obtain ⟨bh, oh, v0, hAh, hbhw, hv0, kv0⟩ := hS2.at_ (k := 0) (by omega)
      have hv0r := hvr v0 (List.mem_of_getElem? hv0.out)
      obtain ⟨v, hv⟩ : ∃ v : Nat, v0 = (v : Int) := ⟨v0.toNat, by omega⟩
      subst hv
      cases hAh
      have HBH : Hid (bh ≠ g3) := by show _ ≠ _; have h1 := HO1.out.ge.2.2; have h2 := NB.out; omega
      have hvs : v < s := by omega
      have HNA : Hid ((fiA s t ws hs (List.replicate P.length f0) (k + 1)) = incF (fiA s t ws hs (List.replicate P.length f0) k) v) := by
        show _ = _
        rw [fiA, HGH.out, List.getD_eq_getElem?_getD, hv0.out]; rfl
      have lA : (fiA s t ws hs (List.replicate P.length f0) k).length = P.length := by rw [fiA_len, List.length_replicate]
      obtain ⟨z, hz⟩ : ∃ z, z = fop .add (gF (fiA s t ws hs (List.replicate P.length f0) k) v) f1 := ⟨_, rfl⟩
      have hop := inc_law ((fiA_cnt k).gNN v) hz Try.prog
      obtain ⟨ka, kf⟩ := rowF_at HO1.out.ra (i := v) (by rw [lA, LP.out]; exact hvs)
      have HZ := Lib.hid hz
      have i0 : (0 : Int) ≤ (v : Int) := by omega
      have i1 : (v : Int) < (s : Int) := by omega
      have i2 : (0 : Int) < (way.length : Int) := by omega
      have i3 : 0 < way.length := by omega
      obtain ⟨xa, hxa⟩ : ∃ x, x = gF (fiA s t ws hs (List.replicate P.length f0) k) v := ⟨_, rfl⟩
      rw [← hxa] at hop ka
      rw [Nat.add_zero] at kv0
      clear hz hxa hvl hvr hv0 hv0r hS2 lA
      go_upto_region 12 with fail
      clear m5 m6 ka kf kv0
      have O2 := HO1.out.inA v HZ.out
      obtain ⟨y2, hy2⟩ : ∃ x, x = y1.setCell ⟨g1, v, none⟩ (.float .f32 z.b) := ⟨_, rfl⟩
      change Code.wp _ _ _ _ (y1.setCell ⟨g1, v, none⟩ (.float .f32 z.b))
      rw [← hy2] at O2
      rw [← hy2]
      have HO2 := Lib.hid O2
      clear hy2 O2 HO1 HB2
      have m5 := (HKC.out y2 (BX1.out.trans (HO2.out.fr.mono BX1.out.size))).1
      go_wp2_with fail
      clear m5
      go_loopg [12, 71] word.length (fun q u12 i wr => ∃ j : Nat, i = .int .i64 (j : Int) ∧ j ≤ word.length ∧ word.length ≤ q + j ∧ Hid (Cs w1 wr g1 g2 g3 (fiA s t ws hs (List.replicate P.length f0) (k + 1)) (csF way s (fiB s t ws hs (List.replicate Q.length f0) k) j) (cgF way t word (fiC s t ws hs (List.replicate R.length f0) k) j)))
      case atStart => exact ⟨0, by go_num, by omega, by omega, by show Cs _ _ _ _ _ _ _ _; rw [HNA.out]; exact HO2.out⟩
      case round =>
        clear HO2
        obtain ⟨j, rfl, hj, hq2, HI⟩ := hrel
        obtain ⟨wi, rfl⟩ : ∃ x : World, x = wr := ⟨_, rfl⟩
        have HBI := Lib.hid (BX1.out.trans (HI.out.fr.mono BX1.out.size))
        by_cases hlt2 : j < word.length
        · obtain ⟨bw, ow, lv, hAw, _, hl, kl⟩ := (HS1.out.below HBI.out (Nat.le_refl _)).at_ hlt2
          cases hAw
          have hjw : j < way.length := by have := HVL.out; omega
          have hjw1 : j + 1 < way.length := by have := HVL.out; omega
          obtain ⟨bh2, oh2, vv, hAh, _, hv1, kv⟩ := (HS2.out.below HBI.out (Nat.le_refl _)).at_ hjw
          injection hAh with hAh
          injection hAh with e1 e2 _
          subst e1 e2
          obtain ⟨bh2, oh2, uu, hAh, _, hu1, ku⟩ := (HS2.out.below HBI.out (Nat.le_refl _)).at_ hjw1
          injection hAh with hAh
          injection hAh with e1 e2 _
          subst e1 e2
          have rl := HWR.out lv (List.mem_of_getElem? hl.out)
          have rv := HVR.out vv (List.mem_of_getElem? hv1.out)
          have ru := HVR.out uu (List.mem_of_getElem? hu1.out)
          obtain ⟨l, hl0⟩ : ∃ x : Nat, lv = (x : Int) := ⟨lv.toNat, by omega⟩
          obtain ⟨v1, hv0⟩ : ∃ x : Nat, vv = (x : Int) := ⟨vv.toNat, by omega⟩
          obtain ⟨u1, hu0⟩ : ∃ x : Nat, uu = (x : Int) := ⟨uu.toNat, by omega⟩
          subst hl0 hv0 hu0
          have lt1 : l < t := by omega
          have lt2 : v1 < s := by omega
          have lt3 : u1 < s := by omega
          have HNB : Hid (csF way s (fiB s t ws hs (List.replicate Q.length f0) k) (j + 1) = incF (csF way s (fiB s t ws hs (List.replicate Q.length f0) k) j) (v1 * s + u1)) := by
            show _ = _
            rw [csF, List.getD_eq_getElem?_getD, hv1.out, List.getD_eq_getElem?_getD, hu1.out]; rfl
          have HNC : Hid (cgF way t word (fiC s t ws hs (List.replicate R.length f0) k) (j + 1) = incF (cgF way t word (fiC s t ws hs (List.replicate R.length f0) k) j) (v1 * t + l)) := by
            show _ = _
            rw [cgF, List.getD_eq_getElem?_getD, hv1.out, List.getD_eq_getElem?_getD, hl.out]; rfl
          obtain ⟨pt, hpt⟩ : ∃ p, p = v1 * t := ⟨_, rfl⟩
          obtain ⟨ps, hps⟩ : ∃ p, p = v1 * s := ⟨_, rfl⟩
          have bt1 : pt + l < R.length := by rw [hpt, LR.out]; exact idx_lt lt2 lt1
          have bs1 : ps + u1 < Q.length := by rw [hps, LQ.out]; exact idx_lt lt2 lt3
          have W1 : IntKind.i64.wrap ((v1 : Int) * (t : Int)) = (pt : Int) := by
            rw [← Int.natCast_mul, ← hpt]; exact IntWalk.i64_in _ (by have := BL.out; omega)
          have W3 : IntKind.i64.wrap ((v1 : Int) * (s : Int)) = (ps : Int) := by
            rw [← Int.natCast_mul, ← hps]; exact IntWalk.i64_in _ (by have := BL.out; omega)
          have W2 : IntKind.i64.wrap ((pt : Int) + (l : Int)) = (pt : Int) + (l : Int) := IntWalk.i64_in _ (by have := BL.out; omega)
          have W4 : IntKind.i64.wrap ((ps : Int) + (u1 : Int)) = (ps : Int) + (u1 : Int) := IntWalk.i64_in _ (by have := BL.out; omega)
          have W5 : IntKind.i64.wrap ((j : Int) + 1) = (j : Int) + 1 := IntWalk.i64_in _ (by have := HWL.out; omega)
          rw [← hpt] at HNC
          rw [← hps] at HNB
          obtain ⟨b0, hb0⟩ : ∃ x, x = csF way s (fiB s t ws hs (List.replicate Q.length f0) k) j := ⟨_, rfl⟩
          obtain ⟨c0, hc0⟩ : ∃ x, x = cgF way t word (fiC s t ws hs (List.replicate R.length f0) k) j := ⟨_, rfl⟩
          have lb : b0.length = Q.length := by rw [hb0, csF_len, fiB_len, List.length_replicate]
          have lc : c0.length = R.length := by rw [hc0, cgF_len, fiC_len, List.length_replicate]
          have nb : NN (gF b0 (ps + u1)).b := by rw [hb0]; exact (csF_cnt (fiB_cnt (fun x hx => (HWD.out x hx).1) k) j).gNN _
          have nc : NN (gF c0 (pt + l)).b := by rw [hc0]; exact (cgF_cnt (fiC_cnt (fun x hx => (HWD.out x hx).1) k) j).gNN _
          rw [← hb0, ← hc0] at HI
          rw [← hb0] at HNB
          rw [← hc0] at HNC
          obtain ⟨z3, hz3⟩ : ∃ z, z = fop .add (gF c0 (pt + l)) f1 := ⟨_, rfl⟩
          obtain ⟨z2, hz2⟩ : ∃ z, z = fop .add (gF b0 (ps + u1)) f1 := ⟨_, rfl⟩
          have hop3 := inc_law nc hz3 Try.prog
          have hop2 := inc_law nb hz2 Try.prog
          obtain ⟨kc, kf⟩ := rowF_at HI.out.rc (i := pt + l) (by rw [lc]; exact bt1)
          have q6 := (HKC.out _ HBI.out).2
          have q5 := (HKC.out _ HBI.out).1
          have hbm := RB1.out.below HI.out.fr NB.out
          have m1 := hbm.cell 1
          have HZ3 := Lib.hid hz3; have HZ2 := Lib.hid hz2
          obtain ⟨xc, hxc⟩ : ∃ x, x = gF c0 (pt + l) := ⟨_, rfl⟩
          obtain ⟨xb, hxb⟩ : ∃ x, x = gF b0 (ps + u1) := ⟨_, rfl⟩
          rw [← hxc] at hop3 kc
          rw [← hxb] at hop2
          have HXB := Lib.hid hxb; have LB := Lib.hid lb
          have n0 : (0 : Int) ≤ (j : Int) := by omega
          have n1 : (j : Int) < (word.length : Int) := by omega
          have n2 : (j : Int) < (way.length : Int) := by omega
          have n3 : (j : Int) + 1 < (way.length : Int) := by omega
          have n4 : (0 : Int) ≤ (j : Int) + 1 := by omega
          have n5 : (0 : Int) ≤ (pt : Int) + (l : Int) := by omega
          have n6 : (pt : Int) + (l : Int) < (q3 : Int) := by have := HQ3.out; have := LR.out; omega
          have n7 : (0 : Int) ≤ (ps : Int) + (u1 : Int) := by omega
          have n8 : (ps : Int) + (u1 : Int) < (q2 : Int) := by have := HQ2.out; have := LQ.out; omega
          have BS1 := Lib.hid bs1
          have HL0 := Lib.hid hl.out; have HU0 := Lib.hid hu1.out
          have nt1 : ((pt : Int) + (l : Int)).toNat = pt + l := by omega
          have nt2 : ((ps : Int) + (u1 : Int)).toNat = ps + u1 := by omega
          have nt3 : ((j : Int) + 1).toNat = j + 1 := by omega
          clear hl hv1 hu1 rl rv ru lt1 lt2 lt3 hpt hps bt1 bs1 hb0 hc0 lb lc nb nc hz3 hz2 hxc hxb hbm hjw hjw1
          go_wp2_with fail
          refine wp_tail 23 (by kernel_rfl) (by kernel_rfl) (fun y hy => ?_)
          have q6y : y.cell? ⟨b', off' + k, none⟩ = some (.slice (some ⟨bh, oh, none⟩) way.length ch) := by rw [hy]; exact q6
          have q5y : y.cell? ⟨b, off + k, none⟩ = some (.slice (some ⟨bw, ow, none⟩) word.length cw) := by rw [hy]; exact q5
          have qv : y.cell? ⟨bh, oh + j, none⟩ = some (.int .i64 (v1 : Int)) := by rw [hy]; exact kv
          have ql : y.cell? ⟨bw, ow + j, none⟩ = some (.int .i64 (l : Int)) := by rw [hy]; exact kl
          have qm : y.cell? ⟨w.heap.size, 1, none⟩ = some (.int .i64 (t : Int)) := by rw [hy]; exact m1
          have qu : y.cell? ⟨bh, oh + (j + 1), none⟩ = some (.int .i64 (u1 : Int)) := by rw [hy]; exact ku
          have qc : y.cell? ⟨g3, pt + l, none⟩ = some (.float .f32 xc.b) := by rw [hy]; exact kc
          have qf : y.frozen? ⟨g3, pt + l, none⟩ = false := by rw [hy]; exact kf
          have HIy : Hid (Cs w1 y g1 g2 g3 (fiA s t ws hs (List.replicate P.length f0) (k + 1)) (b0) (c0)) := by rw [hy]; exact HI.out.call (B := wi.heap.size) (below_draws (Below.refl _ _) 1) (Nat.le_refl _)
          clear kv kl ku m1 kc kf q5 q6
          clear hy
          simp only [List.take_succ_cons, List.take_zero, List.drop_succ_cons, List.drop_zero]
          repeat still_step
          refine wpStill_nil ?_
          have O3 := HIy.out.inC (pt + l) HZ3.out
          go_wp2_with fail
          obtain ⟨w6, hw6⟩ : ∃ x, x = y.setCell ⟨g3, pt + l, none⟩ (.float .f32 z3.b) := ⟨_, rfl⟩
          change Code.wp _ _ _ _ (y.setCell ⟨g3, pt + l, none⟩ (.float .f32 z3.b))
          rw [← hw6] at O3
          rw [← hw6]
          have qv2 : w6.cell? ⟨bh, oh + j, none⟩ = some (.int .i64 (v1 : Int)) := by rw [hw6]; exact (World.cell?_of_block (Below.heap_setCell y ⟨g3, pt + l, none⟩ _ bh HBH.out)).trans qv
          have qu2 : w6.cell? ⟨bh, oh + (j + 1), none⟩ = some (.int .i64 (u1 : Int)) := by rw [hw6]; exact (World.cell?_of_block (Below.heap_setCell y ⟨g3, pt + l, none⟩ _ bh HBH.out)).trans qu
          have hb6 : Below w.heap.size w w6 := BX1.out.trans (O3.fr.mono BX1.out.size)
          have q6 := (HKC.out w6 hb6).2
          have m0 := (RB1.out.below O3.fr NB.out).cell 0
          obtain ⟨kb, kf⟩ := rowF_at O3.rb (i := ps + u1) (by rw [LB.out]; exact BS1.out)
          rw [← HXB.out] at kb
          have HO3 := Lib.hid O3
          clear q6y q5y qv ql qm qu qc qf O3 hw6 hop3 hb6
          refine wp_tail 24 (by kernel_rfl) (by kernel_rfl) (fun y hy => ?_)
          have q6y : y.cell? ⟨b', off' + k, none⟩ = some (.slice (some ⟨bh, oh, none⟩) way.length ch) := by rw [hy]; exact q6
          have qv : y.cell? ⟨bh, oh + j, none⟩ = some (.int .i64 (v1 : Int)) := by rw [hy]; exact qv2
          have qu : y.cell? ⟨bh, oh + (j + 1), none⟩ = some (.int .i64 (u1 : Int)) := by rw [hy]; exact qu2
          have qm : y.cell? ⟨w.heap.size, 0, none⟩ = some (.int .i64 (s : Int)) := by rw [hy]; exact m0
          have qc : y.cell? ⟨g2, ps + u1, none⟩ = some (.float .f32 xb.b) := by rw [hy]; exact kb
          have qf : y.frozen? ⟨g2, ps + u1, none⟩ = false := by rw [hy]; exact kf
          have HIy2 : Hid (Cs w1 y g1 g2 g3 (fiA s t ws hs (List.replicate P.length f0) (k + 1)) (b0) (incF c0 (pt + l))) := by rw [hy]; exact HO3.out.call (B := w6.heap.size) (below_draws (Below.refl _ _) 1) (Nat.le_refl _)
          clear q6 qv2 qu2 m0 kb kf
          clear hy
          simp only [List.take_succ_cons, List.take_zero, List.drop_succ_cons, List.drop_zero]
          repeat still_step
          refine wpStill_nil ?_
          go_wp2_with fail
          go_roundg (gk - 1)
          case measure => omega
          case rel =>
            refine ⟨j + 1, by go_num, by omega, by omega, ?_⟩
            show Cs _ _ _ _ _ _ _ _
            rw [HNB.out, HNC.out]
            exact HIy2.out.inB (ps + u1) HZ2.out
        · have hjl : j = word.length := by omega
          have n1 : ¬ (j : Int) < (word.length : Int) := by omega
          have e1 : csF way s (fiB s t ws hs (List.replicate Q.length f0) k) j = fiB s t ws hs (List.replicate Q.length f0) (k + 1) := by rw [fiB, HGH.out, HGW.out, hjl]
          have e2 : cgF way t word (fiC s t ws hs (List.replicate R.length f0) k) j = fiC s t ws hs (List.replicate R.length f0) (k + 1) := by rw [fiC, HGH.out, HGW.out, hjl]
          rw [e1, e2] at HI
          clear hjl hlt2 e1 e2
          go_wp2_with fail
          go_roundg (go - 1)
          case measure => omega
          case rel => exact ⟨k + 1, by go_num, by omega, by omega, HPR1.out, HI.out⟩
    · have hkn : k = n' := by omega
      have hq1 : ¬ (k : Int) < (n' : Int) := by omega
      subst hkn
      obtain ⟨w5, rfl⟩ : ∃ x : World, x = wo := ⟨_, rfl⟩
      have hb5 : Below w.heap.size w w5 := BX1.out.trans (HO.out.fr.mono BX1.out.size)
      obtain ⟨a, ha⟩ : ∃ x, x = fiA s t ws hs (List.replicate P.length f0) k := ⟨_, rfl⟩
      obtain ⟨b, hb⟩ : ∃ x, x = fiB s t ws hs (List.replicate Q.length f0) k := ⟨_, rfl⟩
      obtain ⟨cc, hc⟩ : ∃ x, x = fiC s t ws hs (List.replicate R.length f0) k := ⟨_, rfl⟩
      have la : a.length = P.length := by rw [ha, fiA_len, List.length_replicate]
      have lb : b.length = Q.length := by rw [hb, fiB_len, List.length_replicate]
      have lc : cc.length = R.length := by rw [hc, fiC_len, List.length_replicate]
      have na : Cnt 300 a := by rw [ha]; exact (fiA_cnt k).more (by have := BN.out; omega)
      have nb : Cnt 300 b := by rw [hb]; exact (fiB_cnt (fun x hx => (HWD.out x hx).1) k).more (by have := BN.out; omega)
      have nc : Cnt 300 cc := by rw [hc]; exact (fiC_cnt (fun x hx => (HWD.out x hx).1) k).more (by have := BN.out; omega)
      have eP : fitP (s : Int) (t : Int) P ws hs = dvN a P s 1 := by unfold fitP; rw [Int.toNat_natCast, Int.toNat_natCast, HLW.out, ha]
      have eQ : fitQ (s : Int) (t : Int) Q ws hs = dvN b Q s s := by unfold fitQ; rw [Int.toNat_natCast, Int.toNat_natCast, HLW.out, hb]
      have eR : fitR (s : Int) (t : Int) R ws hs = dvN cc R t s := by unfold fitR; rw [Int.toNat_natCast, Int.toNat_natCast, HLW.out, hc]
      rw [← ha, ← hb, ← hc] at HO
      have k1 := HO.out.ra.slF; have k2 := HO.out.rb.slF; have k3 := HO.out.rc.slF
      rw [la] at k1
      rw [lb] at k2
      rw [lc] at k3
      have hT := sFilled_any w.heap.size s t P Q R p2 p3 p4 c2 c3 c4 a b cc g1 g2 g3 P.length Q.length R.length w5 (RB1.out.below HO.out.fr NB.out) ((H2.out.below hb5 (Nat.le_refl _)).more hb5.size) ((H3.out.below hb5 (Nat.le_refl _)).more hb5.size) ((H4.out.below hb5 (Nat.le_refl _)).more hb5.size) HCC.out.1 HCC.out.2 k1 k2 k3 ⟨Nat.le_refl _, by have := BL.out; omega⟩ ⟨Nat.le_refl _, by have := BL.out; omega⟩ BS.out (by have := BT.out; omega) LP.out LQ.out LR.out na nb nc
      rw [← eP, ← eQ, ← eR] at hT
      have hfo : fitOk (s : Int) (t : Int) P Q R ws hs = vdM s t (fitP s t P ws hs) (fitQ s t Q ws hs) (fitR s t R ws hs) := by
        unfold fitOk
        rw [← HOK.out, decide_eq_true (by rw [HLW.out, HLH.out]), show prB (s : Int) ws hs ws.length = true by rw [HLW.out]; exact HPR.out]; rfl
      rw [← hfo] at hT
      obtain ⟨ok, hok⟩ : ∃ x, x = fitOk (s : Int) (t : Int) P Q R ws hs := ⟨_, rfl⟩
      rw [← hok] at hT
      have HOKF := Lib.hid hok
      have RES5 := Lib.hid (RR1.out.below HO.out.fr LT1.out)
      have LT5 : Hid (w.heap.size + 2 ≤ w5.heap.size) := by have := LT1.out; have := HO.out.fr.size; show _ ≤ _; omega
      rw [LP.out, LQ.out, LR.out, ← HQ2.out, ← HQ3.out] at hT
      have HB5 := Lib.hid hb5; have HT := Lib.hid hT
      clear ha hb hc la lb lc na nb nc eP eQ eR k1 k2 k3 hfo hok hT hb5
      go_wp2_with fail
      refine HT.out.mono ?_
      rintro e w6 ⟨v', rfl, hv, hb6⟩
      obtain ⟨F2, f2, F3, f3, F4, f4, hsh⟩ := MdO.shape hv
      subst hsh
      have RES6 := RES5.out.below hb6 RES5.out.lt
      have r0 := RES6.cell 0; have r1 := RES6.cell 1; have r2 := RES6.cell 2; have r3 := RES6.cell 3; have r4 := RES6.cell 4
      have f0' := RES6.frozen 0; have f1' := RES6.frozen 1; have f2_ := RES6.frozen 2; have f3_ := RES6.frozen 3; have f4_ := RES6.frozen 4
      have HV := Lib.hid hv; have HB6 := Lib.hid (HB5.out.trans (hb6.mono HB5.out.size)); have RES6 := Lib.hid RES6
      clear hv hb6
      obtain ⟨u0, hu0⟩ : ∃ u, u = ckI ok (s : Int) := ⟨_, rfl⟩
      obtain ⟨u1, hu1⟩ : ∃ u, u = ckI ok (t : Int) := ⟨_, rfl⟩
      obtain ⟨l2, hl2⟩ : ∃ u, u = (ckL ok (fitP s t P ws hs)).length := ⟨_, rfl⟩
      obtain ⟨l3, hl3⟩ : ∃ u, u = (ckL ok (fitQ s t Q ws hs)).length := ⟨_, rfl⟩
      obtain ⟨l4, hl4⟩ : ∃ u, u = (ckL ok (fitR s t R ws hs)).length := ⟨_, rfl⟩
      rw [← hu0, ← hu1, ← hl2, ← hl3, ← hl4]
      have hv := HV.out
      rw [← hu0, ← hu1, ← hl2, ← hl3, ← hl4] at hv
      have HV := Lib.hid hv
      have U0 := Lib.hid hu0; have U1 := Lib.hid hu1
      clear hv hu0 hu1 hl2 hl3 hl4
      go_wp2_with fail
      clear r0 r1 r2 r3 r4 f0' f1' f2_ f3_ f4_
      have hF := (((((RES6.out.set_ 0 (.int .i64 u0)).set_ 1 (.int .i64 u1)).set_ 2 (.slice F2 l2 f2)).set_ 3 (.slice F3 l3 f3)).set_ 4 (.slice F4 l4 f4))
      refine bodyPost_ret (results_cell2 rfl _ _ (w.heap.size + 1) 48 #[.int .i64 u0, .int .i64 u1, .slice F2 l2 f2, .slice F3 l3 f3, .slice F4 l4 f4] (0, 0) _ (.bool ok) rfl rfl hF Try.underlying48 rfl (by kernel_rfl)) rfl ?_
      have hkp : Kp (w.heap.size + 1) (w.heap.size + 2) w6 (((((w6.setCell ⟨w.heap.size + 1, 0, none⟩ (.int .i64 u0)).setCell ⟨w.heap.size + 1, 1, none⟩ (.int .i64 u1)).setCell ⟨w.heap.size + 1, 2, none⟩ (.slice F2 l2 f2)).setCell ⟨w.heap.size + 1, 3, none⟩ (.slice F3 l3 f3)).setCell ⟨w.heap.size + 1, 4, none⟩ (.slice F4 l4 f4)) := ⟨rfl, rfl, rfl, by simp [World.setCell], fun q hq hn => heap_setF _ _ _ _ _ (by omega)⟩
      have hle : w.heap.size ≤ w.heap.size + 1 := by omega
      have hBF := (((((HB6.out.setCell (p := ⟨w.heap.size + 1, 0, none⟩) hle (.int .i64 u0)).setCell (p := ⟨w.heap.size + 1, 1, none⟩) hle (.int .i64 u1)).setCell (p := ⟨w.heap.size + 1, 2, none⟩) hle (.slice F2 l2 f2)).setCell (p := ⟨w.heap.size + 1, 3, none⟩) hle (.slice F3 l3 f3)).setCell (p := ⟨w.heap.size + 1, 4, none⟩) hle (.slice F4 l4 f4))
      have hfin := MdW.mono (MdW.kp HV.out hkp LT5.out) (show w.heap.size ≤ w5.heap.size by have := LT5.out; omega)
      refine ⟨_, by rw [← HOKF.out], ?_, hBF⟩
      rw [← HOKF.out, ← U0.out, ← U1.out]
      exact hfin
end Go.Proofs.Ytkfmjnefbimecaa
