/- A Machine that a call handed out, or that a law copied: equal to another one, marked, held. -/
import Derived.Test.YtedbngnkkfpbeaaMachineSt
import Derived.Test.YtedbngnkkfpbeaaMgd
import Derived.Test.YtedbngnkkfpbeaaMgi

namespace Go.Proofs.Ytedbngnkkfpbeaa
open Go.RowKit
set_option linter.unusedVariables false
def McO (w : World) (lo hi : Nat) (v : Value) (S : Int) (T : Int) (L : List A4) (P : List Int) (E : List Int) : Prop :=
  ∃ v2 v3 v4, v = .agg #[.int .i64 S, .int .i64 T, v2, v3, v4] ∧ OwnV w lo hi 89 4 v2 L.length (fa L) ∧ OwnV w lo hi 2 1 v3 P.length (iv P) ∧ OwnV w lo hi 2 1 v4 E.length (iv E) ∧ (∀ k, v2.ownBlock = some k → v3.ownBlock ≠ some k) ∧ (∀ k, v2.ownBlock = some k → v4.ownBlock ≠ some k) ∧ (∀ k, v3.ownBlock = some k → v4.ownBlock ≠ some k)
section
variable {w w' : World} {lo hi B : Nat} {v : Value} {S T : Int} {L : List A4} {P : List Int} {E : List Int}
theorem McO.below (h : McO w lo hi v S T L P E) (hb : Below B w w') (hB : hi ≤ B) : McO w' lo hi v S T L P E := by
  obtain ⟨v2, v3, v4, e, h2, h3, h4, d23, d24, d34⟩ := h
  exact ⟨v2, v3, v4, e, h2.below hb hB, h3.below hb hB, h4.below hb hB, d23, d24, d34⟩
theorem McO.more {hi' : Nat} (h : McO w lo hi v S T L P E) (hB : hi ≤ hi') : McO w lo hi' v S T L P E := by
  obtain ⟨v2, v3, v4, e, h2, h3, h4, d23, d24, d34⟩ := h
  exact ⟨v2, v3, v4, e, h2.more hB, h3.more hB, h4.more hB, d23, d24, d34⟩
theorem McO.kp {lo' hi' : Nat} (h : McO w lo hi v S T L P E) (hk : Kp lo' hi' w w') (hd : hi' ≤ lo ∨ hi ≤ lo') : McO w' lo hi v S T L P E := by
  obtain ⟨v2, v3, v4, e, h2, h3, h4, d23, d24, d34⟩ := h
  exact ⟨v2, v3, v4, e, h2.kp hk hd, h3.kp hk hd, h4.kp hk hd, d23, d24, d34⟩
theorem McO.cg (h : McO w lo hi v S T L P E) : Mc w w.heap.size v S T L P E := by
  obtain ⟨v2, v3, v4, rfl, h2, h3, h4, -, -, -⟩ := h
  obtain ⟨A2, c2, rfl, g2⟩ := h2.slA
  obtain ⟨A3, c3, rfl, g3⟩ := h3.slV
  obtain ⟨A4, c4, rfl, g4⟩ := h4.slV
  exact ⟨_, _, _, _, _, _, _, _, _, rfl, g2, g3, g4⟩
end
def McW (w : World) (base : Nat) (v : Value) (S : Int) (T : Int) (L : List A4) (P : List Int) (E : List Int) : Prop := McO w base w.heap.size v S T L P E
theorem McW.keep {w w' : World} {base B : Nat} {v : Value} {S T : Int} {L : List A4} {P : List Int} {E : List Int} (h : McW w base v S T L P E) (hb : Below B w w') (hB : w.heap.size ≤ B) : McW w' base v S T L P E := (McO.below h hb hB).more hb.size
theorem McW.kp {w w' : World} {base lo hi : Nat} {v : Value} {S T : Int} {L : List A4} {P : List Int} {E : List Int} (h : McW w base v S T L P E) (hk : Kp lo hi w w') (hd : hi ≤ base) : McW w' base v S T L P E := (McO.kp h hk (.inl hd)).more hk.2.2.2.1
theorem McO.shape {w : World} {base hi : Nat} {v : Value} {S T : Int} {L : List A4} {P : List Int} {E : List Int} (h : McO w base hi v S T L P E) : ∃ A2 c2 A3 c3 A4 c4, v = .agg #[.int .i64 S, .int .i64 T, .slice A2 L.length c2, .slice A3 P.length c3, .slice A4 E.length c4] := by
  obtain ⟨v2, v3, v4, rfl, h2, h3, h4, -, -, -⟩ := h
  obtain ⟨A2, c2, rfl, _, _⟩ := h2.form
  obtain ⟨A3, c3, rfl, _, _⟩ := h3.form
  obtain ⟨A4, c4, rfl, _, _⟩ := h4.form
  exact ⟨A2, c2, A3, c3, A4, c4, rfl⟩
theorem McR.cgm {w : World} {base : Nat} {v : Value} {S T : Int} {L : List A4} {P : List Int} {E : List Int} (h : McR w base v S T L P E) (b2 : L.length ≤ 4294967296) (b3 : P.length ≤ 4294967296) (b4 : E.length ≤ 4294967296) : McO w base w.heap.size v S T L P E := by
  obtain ⟨g2, g3, g4, rfl, q0, q1, q2, h2, h3, h4⟩ := h
  refine ⟨_, _, _, rfl, ?_, ?_, ?_, ?_, ?_, ?_⟩
  · refine OwnV.of ⟨by rw [fa_length]; omega, .inr ⟨g2, L.length, (fa L).toArray, rfl, by omega, h2, Nat.le_refl _, by unfold maxLen; omega, by simp [fa_length, Nat.mul_comm], ?_⟩⟩
    rw [List.toList_toArray]; exact List.take_of_length_le (by rw [fa_length]; omega)
  · refine OwnV.of ⟨by simp [iv], .inr ⟨g3, P.length, (iv P).toArray, rfl, by omega, h3, Nat.le_refl _, by unfold maxLen; omega, by simp [iv], ?_⟩⟩
    rw [List.toList_toArray]; exact List.take_of_length_le (by simp [iv])
  · refine OwnV.of ⟨by simp [iv], .inr ⟨g4, E.length, (iv E).toArray, rfl, by omega, h4, Nat.le_refl _, by unfold maxLen; omega, by simp [iv], ?_⟩⟩
    rw [List.toList_toArray]; exact List.take_of_length_le (by simp [iv])
  · intro k hk; simp [Value.ownBlock] at hk ⊢; omega
  · intro k hk; simp [Value.ownBlock] at hk ⊢; omega
  · intro k hk; simp [Value.ownBlock] at hk ⊢; omega
theorem eqOwnMachine (v v' : Value) (S : Int) (T : Int) (L : List A4) (P : List Int) (E : List Int) (lo hi lo' hi' : Nat) (w : World) (h : McO w lo hi v S T L P E) (h' : McO w lo' hi' v' S T L P E) (b2 : L.length ≤ 4294967296) (b3 : P.length ≤ 4294967296) (b4 : E.length ≤ 4294967296) :
    Calls Try.prog 19 #[v, v'] w fun e w' => e = .returned (.bool true) ∧ Below w.heap.size w w' :=
  eqMachine_same v v' S T L P E w h.cg h'.cg b2 b3 b4
def MkdMc (w : World) (v : Value) (L : List A4) (P : List Int) (E : List Int) (k : Int) : Prop :=
  ∃ S T v2 v3 v4, v = .agg #[.int .i64 S, .int .i64 T, v2, v3, v4] ∧ Mkd (Value.int .i64) w 4 v2 L.length (k) ∧ Mkd (Value.int .i64) w 1 v3 P.length (k + 4 * (L.length : Int)) ∧ Mkd (Value.int .i64) w 1 v4 E.length (k + 4 * (L.length : Int) + (P.length : Int))
theorem MkdMc.below {w w' : World} {B : Nat} {v : Value} {L : List A4} {P : List Int} {E : List Int} {k : Int} (h : MkdMc w v L P E k) (hb : Below B w w') (hB : w.heap.size ≤ B) : MkdMc w' v L P E k := by
  obtain ⟨S, T, v2, v3, v4, e, h2, h3, h4⟩ := h
  exact ⟨S, T, v2, v3, v4, e, h2.below hb hB, h3.below hb hB, h4.below hb hB⟩
set_option maxHeartbeats 2000000 in
theorem markMachine_any (v : Value) (S : Int) (T : Int) (L : List A4) (P : List Int) (E : List Int) (lo hi : Nat) (k : Int) (w : World) (h : McO w lo hi v S T L P E) (b2 : L.length ≤ 1048576) (b3 : P.length ≤ 1048576) (b4 : E.length ≤ 1048576) (hk0 : 0 ≤ k) (hk1 : k ≤ 900000000) (hhi : hi ≤ w.heap.size) :
    Calls Try.prog 20 #[v, .int .i64 k] w fun e w' => e = .returned (.int .i64 (k + 4 * (L.length : Int) + (P.length : Int) + (E.length : Int))) ∧ MkdMc w' v L P E k ∧ Kp lo hi w w' := by
  obtain ⟨v2, v3, v4, rfl, h2, h3, h4, d23, d24, d34⟩ := h
  obtain ⟨A2, c2, rfl, _, _⟩ := h2.form
  obtain ⟨A3, c3, rfl, _, _⟩ := h3.form
  obtain ⟨A4, c4, rfl, _, _⟩ := h4.form
  have H := Lib.hid (And.intro h2 (And.intro h3  (And.intro h4 True.intro)))
  have D := Lib.hid (And.intro d23 (And.intro d24  (And.intro d34 True.intro)))
  clear h2 h3 h4 d23 d24 d34
  have rb := Row.new w 28 [.int .i64 S, .int .i64 T, .slice A2 L.length c2, .slice A3 P.length c3, .slice A4 E.length c4]
  have bx : Below w.heap.size w (w.alloc (.cells ([.int .i64 S, .int .i64 T, .slice A2 L.length c2, .slice A3 P.length c3, .slice A4 E.length c4] : List Value).toArray 28)) := (Below.refl _ _).alloc (Nat.le_refl _) _
  have RB := Lib.hid rb; have BX := Lib.hid bx; clear rb bx
  have HHI := Lib.hid hhi; clear hhi
  go_enter Try.func20, Try.ntmps20
  go_wp2_with fail
  obtain ⟨x0, hx0⟩ : ∃ x, x = w.alloc (.cells ([.int .i64 S, .int .i64 T, .slice A2 L.length c2, .slice A3 P.length c3, .slice A4 E.length c4] : List Value).toArray 28) := ⟨_, rfl⟩
  rw [← hx0] at RB BX
  change Calls _ _ _ (w.alloc (.cells ([.int .i64 S, .int .i64 T, .slice A2 L.length c2, .slice A3 P.length c3, .slice A4 E.length c4] : List Value).toArray 28)) _
  rw [← hx0]
  clear hx0
  have O2_0 := Lib.hid ((H.out.1).below BX.out HHI.out)
  have O3_0 := Lib.hid ((H.out.2.1).below BX.out HHI.out)
  have O4_0 := Lib.hid ((H.out.2.2.1).below BX.out HHI.out)
  refine (markVArcS lo hi _ L.length _ (k) x0 O2_0.out b2 (by omega) (by omega)).mono ?_
  rintro e w1 ⟨rfl, hm2, hg2⟩
  have G2 := Lib.hid hg2; have M2_1 := Lib.hid hm2; clear hg2 hm2
  have RB := Lib.hid (RB.out.grown G2.out (fun e => by have := (O2_0.out.lt _ e.symm).2; have := HHI.out; omega))
  have O3_1 := Lib.hid (O3_0.out.grown G2.out (fun k hk e => D.out.1 k e hk))
  have O4_1 := Lib.hid (O4_0.out.grown G2.out (fun k hk e => D.out.2.1 k e hk))
  have cb := RB.out.cell 3
  go_wp2_with fail
  clear cb
  refine (markVInt64S lo hi _ P.length _ (k + 4 * (L.length : Int)) w1 O3_1.out b3 (by omega) (by omega)).mono ?_
  rintro e w2 ⟨rfl, hm3, hg3⟩
  have G3 := Lib.hid hg3; have M3_2 := Lib.hid hm3; clear hg3 hm3
  have RB := Lib.hid (RB.out.grown G3.out (fun e => by have := (O3_1.out.lt _ e.symm).2; have := HHI.out; omega))
  have M2_2 := Lib.hid (M2_1.out.grown G3.out (fun k hk => fun e => D.out.1 k hk e))
  have O4_2 := Lib.hid (O4_1.out.grown G3.out (fun k hk e => D.out.2.2.1 k e hk))
  have cb := RB.out.cell 4
  go_wp2_with fail
  clear cb
  refine (markVInt64S lo hi _ E.length _ (k + 4 * (L.length : Int) + (P.length : Int)) w2 O4_2.out b4 (by omega) (by omega)).mono ?_
  rintro e w3 ⟨rfl, hm4, hg4⟩
  have G4 := Lib.hid hg4; have M4_3 := Lib.hid hm4; clear hg4 hm4
  have RB := Lib.hid (RB.out.grown G4.out (fun e => by have := (O4_2.out.lt _ e.symm).2; have := HHI.out; omega))
  have M2_3 := Lib.hid (M2_2.out.grown G4.out (fun k hk => fun e => D.out.2.1 k hk e))
  have M3_3 := Lib.hid (M3_2.out.grown G4.out (fun k hk => fun e => D.out.2.2.1 k hk e))
  go_wp2_with fail
  go_ret
  exact ⟨rfl, ⟨_, _, _, _, _, rfl, M2_3.out, M3_3.out, M4_3.out⟩, ((((Kp.of_below BX.out).trans (grown_kp G2.out (fun k hk => O2_0.out.lt k hk))).trans (grown_kp G3.out (fun k hk => O3_1.out.lt k hk))).trans (grown_kp G4.out (fun k hk => O4_2.out.lt k hk)))⟩
theorem markWMachine (base : Nat) (v : Value) (S : Int) (T : Int) (L : List A4) (P : List Int) (E : List Int) (k : Int) (w : World) (h : McW w base v S T L P E) (hb : base ≤ w.heap.size) (b2 : L.length ≤ 1048576) (b3 : P.length ≤ 1048576) (b4 : E.length ≤ 1048576) (hk0 : 0 ≤ k) (hk1 : k ≤ 900000000) :
    Calls Try.prog 20 #[v, .int .i64 k] w fun e w' => e = .returned (.int .i64 (k + 4 * (L.length : Int) + (P.length : Int) + (E.length : Int))) ∧ MkdMc w' v L P E k ∧ Below base w w' :=
  (markMachine_any v S T L P E base w.heap.size k w h b2 b3 b4 hk0 hk1 (Nat.le_refl _)).mono fun _ _ ⟨h1, h2, h3⟩ => ⟨h1, h2, h3.below hb⟩
end Go.Proofs.Ytedbngnkkfpbeaa
