/- Several texts in one: BoolS: marks and what is held against them. A Plain that a call handed out, or that a law copied: equal to another one, marked, held. -/
import Derived.Test.YtbdfbmohdbigfaaMgf
import Derived.Test.YtbdfbmohdbigfaaPlainSt
import Derived.Test.YtbdfbmohdbigfaaMgg

namespace Go.Proofs.Ytbdfbmohdbigfaa
open Go.RowKit
set_option linter.unusedVariables false
def mkb (z : Int) : Value := .bool (z % 3 == 0)
set_option maxHeartbeats 1000000 in
theorem markGBoolS (g n m c : Nat) (k : Int) (w : World) (h : RowN w g 4 m) (hnm : n ≤ m) (hn : n ≤ 1048576) (hk0 : 0 ≤ k) (hk1 : k ≤ 1000000000) :
    Calls Try.prog 74 #[.slice (some ⟨g, 0, none⟩) n c, .int .i64 k] w fun e w' => e = .returned (.int .i64 (k + (n : Int))) ∧ (∀ q : Nat, q < n → w'.cell? ⟨g, q, none⟩ = some (mkb (k + q))) ∧ But g w w' := by
  go_enter Try.func74, Try.ntmps74
  go_wp2_with fail
  go_loopg [1, 5] n (fun p z i wr => ∃ j : Nat, z = .int .i64 (k + (j : Int)) ∧ i = .int .i64 j ∧ j ≤ n ∧ n ≤ p + j ∧ Hid (RowN wr g 4 m) ∧ Hid (∀ q : Nat, q < j → wr.cell? ⟨g, q, none⟩ = some (mkb (k + q))) ∧ But g w wr)
  case atStart => exact ⟨0, by simp, rfl, by omega, by omega, h, fun q hq => by omega, But.refl _ _⟩
  case round =>
    obtain ⟨j, rfl, rfl, hj, hm, HR, HQ, hb⟩ := hrel
    by_cases hlt : j < n
    · have l1 : (0 : Int) ≤ (j : Int) := by omega
      obtain ⟨u, hc, hf⟩ := HR.out.cell (show j < m by omega)
      have hmod : (k + (j : Int)).tmod 3 = (k + (j : Int)) % 3 := IntWalk.rem_in _ _ (by omega)
      go_wp2_with fail
      go_roundg (gk - 1)
      case measure => omega
      case rel =>
        refine ⟨j + 1, by simp; omega, by go_num, by omega, by omega, HR.out.set _ _, fun q hq => ?_, hb.trans (But.set _ _ _)⟩
        rcases Nat.lt_or_ge q j with h' | h'
        · rw [World.cell?_setCell_other _ _ _ _ (fun e => by injection e with _ e2 _; omega)]
          exact HQ.out q h'
        · obtain rfl : q = j := by omega
          obtain ⟨vs, hn', hrow⟩ := HR.out
          rw [(hrow.set_ q _).cell, List.getElem?_set_self (by omega)]
          simp [mkb]
    · obtain rfl : n = j := by omega
      go_wp2_with fail
      go_ret
      exact ⟨rfl, HQ.out, hb⟩
theorem markNBoolS (k : Int) (w : World) :
    Calls Try.prog 74 #[.slice none 0 0, .int .i64 k] w fun e w' => e = .returned (.int .i64 k) ∧ w = w' := by
  go_enter Try.func74, Try.ntmps74
  go_wp2_with fail
  go_loopg [1, 5] 0 (fun p z i wr => z = .int .i64 k ∧ i = .int .i64 0 ∧ wr = w)
  case atStart => exact ⟨rfl, rfl, rfl⟩
  case round =>
    obtain ⟨rfl, rfl, rfl⟩ := hrel
    go_wp2_with fail
    go_ret
    exact ⟨rfl, rfl⟩
set_option maxHeartbeats 1000000 in
theorem heldGBoolS (g n c : Nat) (k : Int) (w : World) (h : ∀ q : Nat, q < n → w.cell? ⟨g, q, none⟩ = some (mkb (k + q))) (hn : n ≤ 1048576) (hk0 : 0 ≤ k) (hk1 : k ≤ 1000000000) :
    Calls Try.prog 76 #[.slice (some ⟨g, 0, none⟩) n c, .int .i64 k] w fun e w' => e = .returned (.int .i64 (k + (n : Int))) ∧ w = w' := by
  have HC := Lib.hid h
  clear h
  go_enter Try.func76, Try.ntmps76
  go_wp2_with fail
  go_loopg [1, 5] n (fun m z i wr => ∃ j : Nat, z = .int .i64 (k + (j : Int)) ∧ i = .int .i64 j ∧ j ≤ n ∧ n ≤ m + j ∧ wr = w)
  case atStart => exact ⟨0, by simp, rfl, by omega, by omega, rfl⟩
  case round =>
    obtain ⟨j, rfl, rfl, hj, hm, rfl⟩ := hrel
    by_cases hlt : j < n
    · have l1 : (0 : Int) ≤ (j : Int) := by omega
      have hmod : (k + (j : Int)).tmod 3 = (k + (j : Int)) % 3 := IntWalk.rem_in _ _ (by omega)
      obtain ⟨bb, hbb⟩ : ∃ bb, ((k + (j : Int)) % 3 == 0) = bb := ⟨_, rfl⟩
      have hc : wr.cell? ⟨g, j, none⟩ = some (.bool bb) := by rw [← hbb]; exact HC.out j hlt
      have hb2 : (bb != bb) = false := by simp
      go_wp2_with fail
      go_roundg (gk - 1)
      case measure => omega
      case rel => exact ⟨j + 1, by simp; omega, by go_num, by omega, by omega, rfl⟩
    · obtain rfl : n = j := by omega
      go_wp2_with fail
      go_ret
      exact ⟨rfl, rfl⟩
theorem heldNBoolS (k : Int) (w : World) :
    Calls Try.prog 76 #[.slice none 0 0, .int .i64 k] w fun e w' => e = .returned (.int .i64 k) ∧ w = w' := by
  go_enter Try.func76, Try.ntmps76
  go_wp2_with fail
  go_loopg [1, 5] 0 (fun p z i wr => z = .int .i64 k ∧ i = .int .i64 0 ∧ wr = w)
  case atStart => exact ⟨rfl, rfl, rfl⟩
  case round =>
    obtain ⟨rfl, rfl, rfl⟩ := hrel
    go_wp2_with fail
    go_ret
    exact ⟨rfl, rfl⟩
theorem markVBoolS (lo hi : Nat) (v : Value) (n : Nat) (xs : List Value) (k : Int) (w : World) (h : OwnV w lo hi 4 1 v n xs) (hn : n ≤ 1048576) (hk0 : 0 ≤ k) (hk1 : k ≤ 1000000000) :
    Calls Try.prog 74 #[v, .int .i64 k] w fun e w' => e = .returned (.int .i64 (k + (n : Int))) ∧ Mkd mkb w' 1 v n k ∧ w.grownBy w' v.ownBlock := by
  rcases h.rowN with ⟨rfl, rfl⟩ | ⟨g, cap, rfl, hbg, hgh, hr, hc⟩
  · refine (markNBoolS k w).mono ?_
    rintro e w' ⟨rfl, rfl⟩
    exact ⟨ret_int (by omega), .inl ⟨rfl, rfl⟩, grown_refl _ _⟩
  · refine (markGBoolS g n cap cap k w (by simpa using hr) hc hn hk0 hk1).mono ?_
    rintro e w' ⟨rfl, hq, hbut⟩
    exact ⟨rfl, .inr ⟨g, cap, rfl, Nat.lt_of_lt_of_le hr.lt hbut.2.2.2.1, by simpa using hq⟩, hbut.grown⟩
theorem heldVBoolS (v : Value) (n : Nat) (k : Int) (w : World) (h : Mkd mkb w 1 v n k) (hn : n ≤ 1048576) (hk0 : 0 ≤ k) (hk1 : k ≤ 1000000000) :
    Calls Try.prog 76 #[v, .int .i64 k] w fun e w' => e = .returned (.int .i64 (k + (n : Int))) ∧ w = w' := by
  rcases h with ⟨rfl, rfl⟩ | ⟨g, c, rfl, hg, hq⟩
  · refine (heldNBoolS k w).mono ?_
    rintro e w' ⟨rfl, rfl⟩
    exact ⟨ret_int (by omega), rfl⟩
  · exact heldGBoolS g n c k w (by simpa using hq) hn hk0 hk1
end Go.Proofs.Ytbdfbmohdbigfaa


namespace Go.Proofs.Ytbdfbmohdbigfaa
open Go.RowKit
set_option linter.unusedVariables false
def PlO (w : World) (lo hi : Nat) (v : Value) (S : Int) (T : Int) (P : List Int) (E : List Bool) : Prop :=
  ∃ v2 v3, v = .agg #[.int .i64 S, .int .i64 T, v2, v3] ∧ OwnV w lo hi 2 1 v2 P.length (iv P) ∧ OwnV w lo hi 4 1 v3 E.length (bv E) ∧ (∀ k, v2.ownBlock = some k → v3.ownBlock ≠ some k)
section
variable {w w' : World} {lo hi B : Nat} {v : Value} {S T : Int} {P : List Int} {E : List Bool}
theorem PlO.below (h : PlO w lo hi v S T P E) (hb : Below B w w') (hB : hi ≤ B) : PlO w' lo hi v S T P E := by
  obtain ⟨v2, v3, e, h2, h3, d23⟩ := h
  exact ⟨v2, v3, e, h2.below hb hB, h3.below hb hB, d23⟩
theorem PlO.more {hi' : Nat} (h : PlO w lo hi v S T P E) (hB : hi ≤ hi') : PlO w lo hi' v S T P E := by
  obtain ⟨v2, v3, e, h2, h3, d23⟩ := h
  exact ⟨v2, v3, e, h2.more hB, h3.more hB, d23⟩
theorem PlO.kp {lo' hi' : Nat} (h : PlO w lo hi v S T P E) (hk : Kp lo' hi' w w') (hd : hi' ≤ lo ∨ hi ≤ lo') : PlO w' lo hi v S T P E := by
  obtain ⟨v2, v3, e, h2, h3, d23⟩ := h
  exact ⟨v2, v3, e, h2.kp hk hd, h3.kp hk hd, d23⟩
theorem PlO.cg (h : PlO w lo hi v S T P E) : Pl w w.heap.size v S T P E := by
  obtain ⟨v2, v3, rfl, h2, h3, -⟩ := h
  obtain ⟨A2, c2, rfl, g2⟩ := h2.slV
  obtain ⟨A3, c3, rfl, g3⟩ := h3.slV
  exact ⟨_, _, _, _, _, _, rfl, g2, g3⟩
end
def PlW (w : World) (base : Nat) (v : Value) (S : Int) (T : Int) (P : List Int) (E : List Bool) : Prop := PlO w base w.heap.size v S T P E
theorem PlW.keep {w w' : World} {base B : Nat} {v : Value} {S T : Int} {P : List Int} {E : List Bool} (h : PlW w base v S T P E) (hb : Below B w w') (hB : w.heap.size ≤ B) : PlW w' base v S T P E := (PlO.below h hb hB).more hb.size
theorem PlW.kp {w w' : World} {base lo hi : Nat} {v : Value} {S T : Int} {P : List Int} {E : List Bool} (h : PlW w base v S T P E) (hk : Kp lo hi w w') (hd : hi ≤ base) : PlW w' base v S T P E := (PlO.kp h hk (.inl hd)).more hk.2.2.2.1
theorem PlO.shape {w : World} {base hi : Nat} {v : Value} {S T : Int} {P : List Int} {E : List Bool} (h : PlO w base hi v S T P E) : ∃ A2 c2 A3 c3, v = .agg #[.int .i64 S, .int .i64 T, .slice A2 P.length c2, .slice A3 E.length c3] := by
  obtain ⟨v2, v3, rfl, h2, h3, -⟩ := h
  obtain ⟨A2, c2, rfl, _, _⟩ := h2.form
  obtain ⟨A3, c3, rfl, _, _⟩ := h3.form
  exact ⟨A2, c2, A3, c3, rfl⟩
theorem PlR.cgm {w : World} {base : Nat} {v : Value} {S T : Int} {P : List Int} {E : List Bool} (h : PlR w base v S T P E) (b2 : P.length ≤ 4294967296) (b3 : E.length ≤ 4294967296) : PlO w base w.heap.size v S T P E := by
  obtain ⟨g2, g3, rfl, q0, q1, h2, h3⟩ := h
  refine ⟨_, _, rfl, ?_, ?_, ?_⟩
  · refine OwnV.of ⟨by simp [iv], .inr ⟨g2, P.length, (iv P).toArray, rfl, by omega, h2, Nat.le_refl _, by unfold maxLen; omega, by simp [iv], ?_⟩⟩
    rw [List.toList_toArray]; exact List.take_of_length_le (by simp [iv])
  · refine OwnV.of ⟨by simp [bv], .inr ⟨g3, E.length, (bv E).toArray, rfl, by omega, h3, Nat.le_refl _, by unfold maxLen; omega, by simp [bv], ?_⟩⟩
    rw [List.toList_toArray]; exact List.take_of_length_le (by simp [bv])
  · intro k hk; simp [Value.ownBlock] at hk ⊢; omega
theorem eqOwnPlain (v v' : Value) (S : Int) (T : Int) (P : List Int) (E : List Bool) (lo hi lo' hi' : Nat) (w : World) (h : PlO w lo hi v S T P E) (h' : PlO w lo' hi' v' S T P E) (b2 : P.length ≤ 4294967296) (b3 : E.length ≤ 4294967296) :
    Calls Try.prog 22 #[v, v'] w fun e w' => e = .returned (.bool true) ∧ Below w.heap.size w w' :=
  eqPlain_same v v' S T P E w h.cg h'.cg b2 b3
def MkdPl (w : World) (v : Value) (P : List Int) (E : List Bool) (k : Int) : Prop :=
  ∃ S T v2 v3, v = .agg #[.int .i64 S, .int .i64 T, v2, v3] ∧ Mkd (Value.int .i64) w 1 v2 P.length (k) ∧ Mkd mkb w 1 v3 E.length (k + (P.length : Int))
theorem MkdPl.below {w w' : World} {B : Nat} {v : Value} {P : List Int} {E : List Bool} {k : Int} (h : MkdPl w v P E k) (hb : Below B w w') (hB : w.heap.size ≤ B) : MkdPl w' v P E k := by
  obtain ⟨S, T, v2, v3, e, h2, h3⟩ := h
  exact ⟨S, T, v2, v3, e, h2.below hb hB, h3.below hb hB⟩
set_option maxHeartbeats 2000000 in
theorem markPlain_any (v : Value) (S : Int) (T : Int) (P : List Int) (E : List Bool) (lo hi : Nat) (k : Int) (w : World) (h : PlO w lo hi v S T P E) (b2 : P.length ≤ 1048576) (b3 : E.length ≤ 1048576) (hk0 : 0 ≤ k) (hk1 : k ≤ 900000000) (hhi : hi ≤ w.heap.size) :
    Calls Try.prog 25 #[v, .int .i64 k] w fun e w' => e = .returned (.int .i64 (k + (P.length : Int) + (E.length : Int))) ∧ MkdPl w' v P E k ∧ Kp lo hi w w' := by
  obtain ⟨v2, v3, rfl, h2, h3, d23⟩ := h
  obtain ⟨A2, c2, rfl, _, _⟩ := h2.form
  obtain ⟨A3, c3, rfl, _, _⟩ := h3.form
  have H := Lib.hid (And.intro h2 (And.intro h3 True.intro))
  have D := Lib.hid (And.intro d23 True.intro)
  clear h2 h3 d23
  have rb := Row.new w 33 [.int .i64 S, .int .i64 T, .slice A2 P.length c2, .slice A3 E.length c3]
  have bx : Below w.heap.size w (w.alloc (.cells ([.int .i64 S, .int .i64 T, .slice A2 P.length c2, .slice A3 E.length c3] : List Value).toArray 33)) := (Below.refl _ _).alloc (Nat.le_refl _) _
  have RB := Lib.hid rb; have BX := Lib.hid bx; clear rb bx
  have HHI := Lib.hid hhi; clear hhi
  go_enter Try.func25, Try.ntmps25
  go_wp2_with fail
  obtain ⟨x0, hx0⟩ : ∃ x, x = w.alloc (.cells ([.int .i64 S, .int .i64 T, .slice A2 P.length c2, .slice A3 E.length c3] : List Value).toArray 33) := ⟨_, rfl⟩
  rw [← hx0] at RB BX
  change Calls _ _ _ (w.alloc (.cells ([.int .i64 S, .int .i64 T, .slice A2 P.length c2, .slice A3 E.length c3] : List Value).toArray 33)) _
  rw [← hx0]
  clear hx0
  have O2_0 := Lib.hid ((H.out.1).below BX.out HHI.out)
  have O3_0 := Lib.hid ((H.out.2.1).below BX.out HHI.out)
  refine (markVInt64S lo hi _ P.length _ (k) x0 O2_0.out b2 (by omega) (by omega)).mono ?_
  rintro e w1 ⟨rfl, hm2, hg2⟩
  have G2 := Lib.hid hg2; have M2_1 := Lib.hid hm2; clear hg2 hm2
  have RB := Lib.hid (RB.out.grown G2.out (fun e => by have := (O2_0.out.lt _ e.symm).2; have := HHI.out; omega))
  have O3_1 := Lib.hid (O3_0.out.grown G2.out (fun k hk e => D.out.1 k e hk))
  have cb := RB.out.cell 3
  go_wp2_with fail
  clear cb
  refine (markVBoolS lo hi _ E.length _ (k + (P.length : Int)) w1 O3_1.out b3 (by omega) (by omega)).mono ?_
  rintro e w2 ⟨rfl, hm3, hg3⟩
  have G3 := Lib.hid hg3; have M3_2 := Lib.hid hm3; clear hg3 hm3
  have RB := Lib.hid (RB.out.grown G3.out (fun e => by have := (O3_1.out.lt _ e.symm).2; have := HHI.out; omega))
  have M2_2 := Lib.hid (M2_1.out.grown G3.out (fun k hk => fun e => D.out.1 k hk e))
  go_wp2_with fail
  go_ret
  exact ⟨rfl, ⟨_, _, _, _, rfl, M2_2.out, M3_2.out⟩, (((Kp.of_below BX.out).trans (grown_kp G2.out (fun k hk => O2_0.out.lt k hk))).trans (grown_kp G3.out (fun k hk => O3_1.out.lt k hk)))⟩
theorem markWPlain (base : Nat) (v : Value) (S : Int) (T : Int) (P : List Int) (E : List Bool) (k : Int) (w : World) (h : PlW w base v S T P E) (hb : base ≤ w.heap.size) (b2 : P.length ≤ 1048576) (b3 : E.length ≤ 1048576) (hk0 : 0 ≤ k) (hk1 : k ≤ 900000000) :
    Calls Try.prog 25 #[v, .int .i64 k] w fun e w' => e = .returned (.int .i64 (k + (P.length : Int) + (E.length : Int))) ∧ MkdPl w' v P E k ∧ Below base w w' :=
  (markPlain_any v S T P E base w.heap.size k w h b2 b3 hk0 hk1 (Nat.le_refl _)).mono fun _ _ ⟨h1, h2, h3⟩ => ⟨h1, h2, h3.below hb⟩
set_option maxHeartbeats 2000000 in
theorem heldPlain_any (v : Value) (P : List Int) (E : List Bool) (k : Int) (w : World) (h : MkdPl w v P E k) (b2 : P.length ≤ 1048576) (b3 : E.length ≤ 1048576) (hk0 : 0 ≤ k) (hk1 : k ≤ 900000000) :
    Calls Try.prog 26 #[v, .int .i64 k] w fun e w' => e = .returned (.int .i64 (k + (P.length : Int) + (E.length : Int))) ∧ Below w.heap.size w w' := by
  obtain ⟨S, T, v2, v3, rfl, h2, h3⟩ := h
  obtain ⟨A2, c2, rfl⟩ := h2.form
  obtain ⟨A3, c3, rfl⟩ := h3.form
  have H2 := Lib.hid h2; clear h2
  have H3 := Lib.hid h3; clear h3
  have rb := Row.new w 33 [.int .i64 S, .int .i64 T, .slice A2 P.length c2, .slice A3 E.length c3]
  have bx : Below w.heap.size w (w.alloc (.cells ([.int .i64 S, .int .i64 T, .slice A2 P.length c2, .slice A3 E.length c3] : List Value).toArray 33)) := (Below.refl _ _).alloc (Nat.le_refl _) _
  have RB := Lib.hid rb; have BX := Lib.hid bx; clear rb bx
  go_enter Try.func26, Try.ntmps26
  go_wp2_with fail
  obtain ⟨x0, hx0⟩ : ∃ x, x = w.alloc (.cells ([.int .i64 S, .int .i64 T, .slice A2 P.length c2, .slice A3 E.length c3] : List Value).toArray 33) := ⟨_, rfl⟩
  rw [← hx0] at RB BX
  change Calls _ _ _ (w.alloc (.cells ([.int .i64 S, .int .i64 T, .slice A2 P.length c2, .slice A3 E.length c3] : List Value).toArray 33)) _
  rw [← hx0]
  clear hx0
  refine (heldVInt64S _ P.length (k) x0 (H2.out.below BX.out (Nat.le_refl _)) b2 (by omega) (by omega)).mono ?_
  rintro e wq ⟨rfl, hwq⟩
  obtain rfl := hwq
  have q2 : (0 : Int) ≤ k + (P.length : Int) := by omega
  have cb := RB.out.cell 3
  go_wp2_with fail
  clear cb
  refine (heldVBoolS _ E.length (k + (P.length : Int)) x0 (H3.out.below BX.out (Nat.le_refl _)) b3 (by omega) (by omega)).mono ?_
  rintro e wq ⟨rfl, hwq⟩
  obtain rfl := hwq
  have q3 : (0 : Int) ≤ k + (P.length : Int) + (E.length : Int) := by omega
  go_wp2_with fail
  go_ret
  exact ⟨rfl, BX.out⟩
end Go.Proofs.Ytbdfbmohdbigfaa
