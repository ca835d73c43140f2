/- A Model that a call handed out, or that a law copied: equal to another one, marked, held. -/
import Derived.Test.YtomofghiafcefaaModelSt
import Derived.Test.YtomofghiafcefaaOwn
import Derived.Test.YtomofghiafcefaaMrF32

namespace Go.Proofs.Ytomofghiafcefaa
open Go.RowKit
set_option linter.unusedVariables false
def MdO (w : World) (lo hi : Nat) (v : Value) (S : Int) (T : Int) (P : List F32) (Q : List F32) (R : List F32) : Prop :=
  ∃ v2 v3 v4, v = .agg #[.int .i64 S, .int .i64 T, v2, v3, v4] ∧ OwnV w lo hi 25 1 v2 P.length (fv P) ∧ OwnV w lo hi 25 1 v3 Q.length (fv Q) ∧ OwnV w lo hi 25 1 v4 R.length (fv R) ∧ (∀ k, v2.ownBlock = some k → v3.ownBlock ≠ some k) ∧ (∀ k, v2.ownBlock = some k → v4.ownBlock ≠ some k) ∧ (∀ k, v3.ownBlock = some k → v4.ownBlock ≠ some k)
section
variable {w w' : World} {lo hi B : Nat} {v : Value} {S T : Int} {P : List F32} {Q : List F32} {R : List F32}
theorem MdO.below (h : MdO w lo hi v S T P Q R) (hb : Below B w w') (hB : hi ≤ B) : MdO w' lo hi v S T P Q R := by
  obtain ⟨v2, v3, v4, e, h2, h3, h4, d23, d24, d34⟩ := h
  exact ⟨v2, v3, v4, e, h2.below hb hB, h3.below hb hB, h4.below hb hB, d23, d24, d34⟩
theorem MdO.more {hi' : Nat} (h : MdO w lo hi v S T P Q R) (hB : hi ≤ hi') : MdO w lo hi' v S T P Q R := by
  obtain ⟨v2, v3, v4, e, h2, h3, h4, d23, d24, d34⟩ := h
  exact ⟨v2, v3, v4, e, h2.more hB, h3.more hB, h4.more hB, d23, d24, d34⟩
theorem MdO.kp {lo' hi' : Nat} (h : MdO w lo hi v S T P Q R) (hk : Kp lo' hi' w w') (hd : hi' ≤ lo ∨ hi ≤ lo') : MdO w' lo hi v S T P Q R := by
  obtain ⟨v2, v3, v4, e, h2, h3, h4, d23, d24, d34⟩ := h
  exact ⟨v2, v3, v4, e, h2.kp hk hd, h3.kp hk hd, h4.kp hk hd, d23, d24, d34⟩
theorem MdO.cg (h : MdO w lo hi v S T P Q R) : Md w w.heap.size v S T P Q R := by
  obtain ⟨v2, v3, v4, rfl, h2, h3, h4, -, -, -⟩ := h
  obtain ⟨A2, c2, rfl, g2⟩ := h2.slV
  obtain ⟨A3, c3, rfl, g3⟩ := h3.slV
  obtain ⟨A4, c4, rfl, g4⟩ := h4.slV
  exact ⟨_, _, _, _, _, _, _, _, _, rfl, g2, g3, g4⟩
end
def MdW (w : World) (base : Nat) (v : Value) (S : Int) (T : Int) (P : List F32) (Q : List F32) (R : List F32) : Prop := MdO w base w.heap.size v S T P Q R
theorem MdW.keep {w w' : World} {base B : Nat} {v : Value} {S T : Int} {P : List F32} {Q : List F32} {R : List F32} (h : MdW w base v S T P Q R) (hb : Below B w w') (hB : w.heap.size ≤ B) : MdW w' base v S T P Q R := (MdO.below h hb hB).more hb.size
theorem MdW.kp {w w' : World} {base lo hi : Nat} {v : Value} {S T : Int} {P : List F32} {Q : List F32} {R : List F32} (h : MdW w base v S T P Q R) (hk : Kp lo hi w w') (hd : hi ≤ base) : MdW w' base v S T P Q R := (MdO.kp h hk (.inl hd)).more hk.2.2.2.1
theorem MdO.shape {w : World} {base hi : Nat} {v : Value} {S T : Int} {P : List F32} {Q : List F32} {R : List F32} (h : MdO w base hi v S T P Q R) : ∃ A2 c2 A3 c3 A4 c4, v = .agg #[.int .i64 S, .int .i64 T, .slice A2 P.length c2, .slice A3 Q.length c3, .slice A4 R.length c4] := by
  obtain ⟨v2, v3, v4, rfl, h2, h3, h4, -, -, -⟩ := h
  obtain ⟨A2, c2, rfl, _, _⟩ := h2.form
  obtain ⟨A3, c3, rfl, _, _⟩ := h3.form
  obtain ⟨A4, c4, rfl, _, _⟩ := h4.form
  exact ⟨A2, c2, A3, c3, A4, c4, rfl⟩
theorem MdR.cgm {w : World} {base : Nat} {v : Value} {S T : Int} {P : List F32} {Q : List F32} {R : List F32} (h : MdR w base v S T P Q R) (b2 : P.length ≤ 4294967296) (b3 : Q.length ≤ 4294967296) (b4 : R.length ≤ 4294967296) : MdO w base w.heap.size v S T P Q R := by
  obtain ⟨g2, g3, g4, rfl, q0, q1, q2, h2, h3, h4⟩ := h
  refine ⟨_, _, _, rfl, ?_, ?_, ?_, ?_, ?_, ?_⟩
  · refine OwnV.of ⟨by simp [fv], .inr ⟨g2, P.length, (fv P).toArray, rfl, by omega, h2, Nat.le_refl _, by unfold maxLen; omega, by simp [fv], ?_⟩⟩
    rw [List.toList_toArray]; exact List.take_of_length_le (by simp [fv])
  · refine OwnV.of ⟨by simp [fv], .inr ⟨g3, Q.length, (fv Q).toArray, rfl, by omega, h3, Nat.le_refl _, by unfold maxLen; omega, by simp [fv], ?_⟩⟩
    rw [List.toList_toArray]; exact List.take_of_length_le (by simp [fv])
  · refine OwnV.of ⟨by simp [fv], .inr ⟨g4, R.length, (fv R).toArray, rfl, by omega, h4, Nat.le_refl _, by unfold maxLen; omega, by simp [fv], ?_⟩⟩
    rw [List.toList_toArray]; exact List.take_of_length_le (by simp [fv])
  · intro k hk; simp [Value.ownBlock] at hk ⊢; omega
  · intro k hk; simp [Value.ownBlock] at hk ⊢; omega
  · intro k hk; simp [Value.ownBlock] at hk ⊢; omega
theorem eqOwnModel (v v' : Value) (S : Int) (T : Int) (P : List F32) (Q : List F32) (R : List F32) (lo hi lo' hi' : Nat) (w : World) (h : MdO w lo hi v S T P Q R) (h' : MdO w lo' hi' v' S T P Q R) (b2 : P.length ≤ 4294967296) (b3 : Q.length ≤ 4294967296) (b4 : R.length ≤ 4294967296) :
    Calls Try.prog 10 #[v, v'] w fun e w' => e = .returned (.bool true) ∧ Below w.heap.size w w' :=
  eqModel_same v v' S T P Q R w h.cg h'.cg b2 b3 b4
def MkdMd (w : World) (v : Value) (P : List F32) (Q : List F32) (R : List F32) (k : Int) : Prop :=
  ∃ S T v2 v3 v4, v = .agg #[.int .i64 S, .int .i64 T, v2, v3, v4] ∧ Mkd mkf w 1 v2 P.length (k) ∧ Mkd mkf w 1 v3 Q.length (k + (P.length : Int)) ∧ Mkd mkf w 1 v4 R.length (k + (P.length : Int) + (Q.length : Int))
theorem MkdMd.below {w w' : World} {B : Nat} {v : Value} {P : List F32} {Q : List F32} {R : List F32} {k : Int} (h : MkdMd w v P Q R k) (hb : Below B w w') (hB : w.heap.size ≤ B) : MkdMd w' v P Q R k := by
  obtain ⟨S, T, v2, v3, v4, e, h2, h3, h4⟩ := h
  exact ⟨S, T, v2, v3, v4, e, h2.below hb hB, h3.below hb hB, h4.below hb hB⟩
set_option maxHeartbeats 2000000 in
theorem markModel_any (v : Value) (S : Int) (T : Int) (P : List F32) (Q : List F32) (R : List F32) (lo hi : Nat) (k : Int) (w : World) (h : MdO w lo hi v S T P Q R) (b2 : P.length ≤ 1048576) (b3 : Q.length ≤ 1048576) (b4 : R.length ≤ 1048576) (hk0 : 0 ≤ k) (hk1 : k ≤ 900000000) (hhi : hi ≤ w.heap.size) :
    Calls Try.prog 11 #[v, .int .i64 k] w fun e w' => e = .returned (.int .i64 (k + (P.length : Int) + (Q.length : Int) + (R.length : Int))) ∧ MkdMd w' v P Q R k ∧ Kp lo hi w w' := by
  obtain ⟨v2, v3, v4, rfl, h2, h3, h4, d23, d24, d34⟩ := h
  obtain ⟨A2, c2, rfl, _, _⟩ := h2.form
  obtain ⟨A3, c3, rfl, _, _⟩ := h3.form
  obtain ⟨A4, c4, rfl, _, _⟩ := h4.form
  have H := Lib.hid (And.intro h2 (And.intro h3  (And.intro h4 True.intro)))
  have D := Lib.hid (And.intro d23 (And.intro d24  (And.intro d34 True.intro)))
  clear h2 h3 h4 d23 d24 d34
  have rb := Row.new w 29 [.int .i64 S, .int .i64 T, .slice A2 P.length c2, .slice A3 Q.length c3, .slice A4 R.length c4]
  have bx : Below w.heap.size w (w.alloc (.cells ([.int .i64 S, .int .i64 T, .slice A2 P.length c2, .slice A3 Q.length c3, .slice A4 R.length c4] : List Value).toArray 29)) := (Below.refl _ _).alloc (Nat.le_refl _) _
  have RB := Lib.hid rb; have BX := Lib.hid bx; clear rb bx
  have HHI := Lib.hid hhi; clear hhi
  go_enter Try.func11, Try.ntmps11
  go_wp2_with fail
  obtain ⟨x0, hx0⟩ : ∃ x, x = w.alloc (.cells ([.int .i64 S, .int .i64 T, .slice A2 P.length c2, .slice A3 Q.length c3, .slice A4 R.length c4] : List Value).toArray 29) := ⟨_, rfl⟩
  rw [← hx0] at RB BX
  change Calls _ _ _ (w.alloc (.cells ([.int .i64 S, .int .i64 T, .slice A2 P.length c2, .slice A3 Q.length c3, .slice A4 R.length c4] : List Value).toArray 29)) _
  rw [← hx0]
  clear hx0
  have O2_0 := Lib.hid ((H.out.1).below BX.out HHI.out)
  have O3_0 := Lib.hid ((H.out.2.1).below BX.out HHI.out)
  have O4_0 := Lib.hid ((H.out.2.2.1).below BX.out HHI.out)
  refine (markVFloat32S lo hi _ P.length _ (k) x0 O2_0.out b2 (by omega) (by omega)).mono ?_
  rintro e w1 ⟨rfl, hm2, hg2⟩
  have G2 := Lib.hid hg2; have M2_1 := Lib.hid hm2; clear hg2 hm2
  have RB := Lib.hid (RB.out.grown G2.out (fun e => by have := (O2_0.out.lt _ e.symm).2; have := HHI.out; omega))
  have O3_1 := Lib.hid (O3_0.out.grown G2.out (fun k hk e => D.out.1 k e hk))
  have O4_1 := Lib.hid (O4_0.out.grown G2.out (fun k hk e => D.out.2.1 k e hk))
  have cb := RB.out.cell 3
  go_wp2_with fail
  clear cb
  refine (markVFloat32S lo hi _ Q.length _ (k + (P.length : Int)) w1 O3_1.out b3 (by omega) (by omega)).mono ?_
  rintro e w2 ⟨rfl, hm3, hg3⟩
  have G3 := Lib.hid hg3; have M3_2 := Lib.hid hm3; clear hg3 hm3
  have RB := Lib.hid (RB.out.grown G3.out (fun e => by have := (O3_1.out.lt _ e.symm).2; have := HHI.out; omega))
  have M2_2 := Lib.hid (M2_1.out.grown G3.out (fun k hk => fun e => D.out.1 k hk e))
  have O4_2 := Lib.hid (O4_1.out.grown G3.out (fun k hk e => D.out.2.2.1 k e hk))
  have cb := RB.out.cell 4
  go_wp2_with fail
  clear cb
  refine (markVFloat32S lo hi _ R.length _ (k + (P.length : Int) + (Q.length : Int)) w2 O4_2.out b4 (by omega) (by omega)).mono ?_
  rintro e w3 ⟨rfl, hm4, hg4⟩
  have G4 := Lib.hid hg4; have M4_3 := Lib.hid hm4; clear hg4 hm4
  have RB := Lib.hid (RB.out.grown G4.out (fun e => by have := (O4_2.out.lt _ e.symm).2; have := HHI.out; omega))
  have M2_3 := Lib.hid (M2_2.out.grown G4.out (fun k hk => fun e => D.out.2.1 k hk e))
  have M3_3 := Lib.hid (M3_2.out.grown G4.out (fun k hk => fun e => D.out.2.2.1 k hk e))
  go_wp2_with fail
  go_ret
  exact ⟨rfl, ⟨_, _, _, _, _, rfl, M2_3.out, M3_3.out, M4_3.out⟩, ((((Kp.of_below BX.out).trans (grown_kp G2.out (fun k hk => O2_0.out.lt k hk))).trans (grown_kp G3.out (fun k hk => O3_1.out.lt k hk))).trans (grown_kp G4.out (fun k hk => O4_2.out.lt k hk)))⟩
theorem markWModel (base : Nat) (v : Value) (S : Int) (T : Int) (P : List F32) (Q : List F32) (R : List F32) (k : Int) (w : World) (h : MdW w base v S T P Q R) (hb : base ≤ w.heap.size) (b2 : P.length ≤ 1048576) (b3 : Q.length ≤ 1048576) (b4 : R.length ≤ 1048576) (hk0 : 0 ≤ k) (hk1 : k ≤ 900000000) :
    Calls Try.prog 11 #[v, .int .i64 k] w fun e w' => e = .returned (.int .i64 (k + (P.length : Int) + (Q.length : Int) + (R.length : Int))) ∧ MkdMd w' v P Q R k ∧ Below base w w' :=
  (markModel_any v S T P Q R base w.heap.size k w h b2 b3 b4 hk0 hk1 (Nat.le_refl _)).mono fun _ _ ⟨h1, h2, h3⟩ => ⟨h1, h2, h3.below hb⟩
set_option maxHeartbeats 2000000 in
theorem heldModel_any (v : Value) (P : List F32) (Q : List F32) (R : List F32) (k : Int) (w : World) (h : MkdMd w v P Q R k) (b2 : P.length ≤ 1048576) (b3 : Q.length ≤ 1048576) (b4 : R.length ≤ 1048576) (hk0 : 0 ≤ k) (hk1 : k ≤ 900000000) :
    Calls Try.prog 16 #[v, .int .i64 k] w fun e w' => e = .returned (.int .i64 (k + (P.length : Int) + (Q.length : Int) + (R.length : Int))) ∧ Below w.heap.size w w' := by
  obtain ⟨S, T, v2, v3, v4, rfl, h2, h3, h4⟩ := h
  obtain ⟨A2, c2, rfl⟩ := h2.form
  obtain ⟨A3, c3, rfl⟩ := h3.form
  obtain ⟨A4, c4, rfl⟩ := h4.form
  have H2 := Lib.hid h2; clear h2
  have H3 := Lib.hid h3; clear h3
  have H4 := Lib.hid h4; clear h4
  have rb := Row.new w 29 [.int .i64 S, .int .i64 T, .slice A2 P.length c2, .slice A3 Q.length c3, .slice A4 R.length c4]
  have bx : Below w.heap.size w (w.alloc (.cells ([.int .i64 S, .int .i64 T, .slice A2 P.length c2, .slice A3 Q.length c3, .slice A4 R.length c4] : List Value).toArray 29)) := (Below.refl _ _).alloc (Nat.le_refl _) _
  have RB := Lib.hid rb; have BX := Lib.hid bx; clear rb bx
  go_enter Try.func16, Try.ntmps16
  go_wp2_with fail
  obtain ⟨x0, hx0⟩ : ∃ x, x = w.alloc (.cells ([.int .i64 S, .int .i64 T, .slice A2 P.length c2, .slice A3 Q.length c3, .slice A4 R.length c4] : List Value).toArray 29) := ⟨_, rfl⟩
  rw [← hx0] at RB BX
  change Calls _ _ _ (w.alloc (.cells ([.int .i64 S, .int .i64 T, .slice A2 P.length c2, .slice A3 Q.length c3, .slice A4 R.length c4] : List Value).toArray 29)) _
  rw [← hx0]
  clear hx0
  refine (heldVFloat32S _ P.length (k) x0 (H2.out.below BX.out (Nat.le_refl _)) b2 (by omega) (by omega)).mono ?_
  rintro e wq ⟨rfl, hwq⟩
  obtain rfl := hwq
  have q2 : (0 : Int) ≤ k + (P.length : Int) := by omega
  have cb := RB.out.cell 3
  go_wp2_with fail
  clear cb
  refine (heldVFloat32S _ Q.length (k + (P.length : Int)) x0 (H3.out.below BX.out (Nat.le_refl _)) b3 (by omega) (by omega)).mono ?_
  rintro e wq ⟨rfl, hwq⟩
  obtain rfl := hwq
  have q3 : (0 : Int) ≤ k + (P.length : Int) + (Q.length : Int) := by omega
  have cb := RB.out.cell 4
  go_wp2_with fail
  clear cb
  refine (heldVFloat32S _ R.length (k + (P.length : Int) + (Q.length : Int)) x0 (H4.out.below BX.out (Nat.le_refl _)) b4 (by omega) (by omega)).mono ?_
  rintro e wq ⟨rfl, hwq⟩
  obtain rfl := hwq
  have q4 : (0 : Int) ≤ k + (P.length : Int) + (Q.length : Int) + (R.length : Int) := by omega
  go_wp2_with fail
  go_ret
  exact ⟨rfl, BX.out⟩
end Go.Proofs.Ytomofghiafcefaa
