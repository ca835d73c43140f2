/- The contracts as FnMachines's walk wants them. -/
import Derived.Test.YtegponioggpkcaaFmP
import Derived.Test.YtegponioggpkcaaDrT
import Derived.Test.YtegponioggpkcaaEi
import Derived.Test.YtegponioggpkcaaJo
import Derived.Test.YtegponioggpkcaaBk
import Derived.Test.YtegponioggpkcaaWs

namespace Go.Proofs.Ytegponioggpkcaa
open Go.RowKit
set_option linter.unusedVariables false
theorem mcO_mc {w : World} {lo hi : Nat} {v : Value} {S T : Int} {L : List A4} {P E : List Int} (h : McO w lo hi v S T L P E) : Mc w w.heap.size v S T L P E := by
  obtain ⟨v2, v3, v4, rfl, o2, o3, o4, _⟩ := h
  obtain ⟨A2, c2, rfl, s2⟩ := o2.slA
  obtain ⟨A3, c3, rfl, s3⟩ := o3.slV
  obtain ⟨A4, c4, rfl, s4⟩ := o4.slV
  exact ⟨_, _, _, _, _, _, _, _, _, rfl, s2, s3, s4⟩
/-- A machine in a block. -/
def Mx (w : World) (g : Nat) (S T : Int) (L : List A4) (P E : List Int) : Prop := ∃ A2 n2 c2 A3 n3 c3 A4 n4 c4, Row w g 28 [.int .i64 S, .int .i64 T, .slice A2 n2 c2, .slice A3 n3 c3, .slice A4 n4 c4] ∧ SlA w w.heap.size A2 n2 L ∧ SlI w w.heap.size A3 n3 P ∧ SlI w w.heap.size A4 n4 E
theorem Mx.below {w w' : World} {g B : Nat} {S T : Int} {L : List A4} {P E : List Int} (h : Mx w g S T L P E) (hb : Below B w w') (hB : w.heap.size ≤ B) : Mx w' g S T L P E := by
  obtain ⟨A2, n2, c2, A3, n3, c3, A4, n4, c4, hr, h2, h3, h4⟩ := h
  exact ⟨A2, n2, c2, A3, n3, c3, A4, n4, c4, hr.below hb (Nat.lt_of_lt_of_le hr.lt hB), (h2.below hb hB).more hb.size, (h3.below hb hB).more hb.size, (h4.below hb hB).more hb.size⟩
theorem Mx.new {w : World} {S T : Int} {L : List A4} {P E : List Int} {A2 : Option Addr} {n2 c2 : Nat} {A3 : Option Addr} {n3 c3 : Nat} {A4 : Option Addr} {n4 c4 : Nat} (h2 : SlA w w.heap.size A2 n2 L) (h3 : SlI w w.heap.size A3 n3 P) (h4 : SlI w w.heap.size A4 n4 E) : Mx (w.alloc (.cells ([.int .i64 S, .int .i64 T, .slice A2 n2 c2, .slice A3 n3 c3, .slice A4 n4 c4] : List Value).toArray 28)) w.heap.size S T L P E := by
  have hb : Below w.heap.size w (w.alloc (.cells ([.int .i64 S, .int .i64 T, .slice A2 n2 c2, .slice A3 n3 c3, .slice A4 n4 c4] : List Value).toArray 28)) := (Below.refl _ _).alloc (Nat.le_refl _) _
  exact ⟨A2, n2, c2, A3, n3, c3, A4, n4, c4, Row.new _ _ _, (h2.below hb (Nat.le_refl _)).more hb.size, (h3.below hb (Nat.le_refl _)).more hb.size, (h4.below hb (Nat.le_refl _)).more hb.size⟩
/-- A drawn machine in a block: its lists' places. -/
def Ma (w : World) (g p2 p3 p4 c2 c3 c4 : Nat) (S T : Int) (L : List A4) (P E : List Int) : Prop := Row w g 28 [.int .i64 S, .int .i64 T, .slice (some ⟨p2, 0, none⟩) L.length c2, .slice (some ⟨p3, 0, none⟩) P.length c3, .slice (some ⟨p4, 0, none⟩) E.length c4] ∧ SlA w w.heap.size (some ⟨p2, 0, none⟩) L.length L ∧ SlI w w.heap.size (some ⟨p3, 0, none⟩) P.length P ∧ SlI w w.heap.size (some ⟨p4, 0, none⟩) E.length E
theorem Ma.below {w w' : World} {g p2 p3 p4 c2 c3 c4 B : Nat} {S T : Int} {L : List A4} {P E : List Int} (h : Ma w g p2 p3 p4 c2 c3 c4 S T L P E) (hb : Below B w w') (hB : w.heap.size ≤ B) : Ma w' g p2 p3 p4 c2 c3 c4 S T L P E := by
  obtain ⟨hr, h2, h3, h4⟩ := h
  exact ⟨hr.below hb (Nat.lt_of_lt_of_le hr.lt hB), (h2.below hb hB).more hb.size, (h3.below hb hB).more hb.size, (h4.below hb hB).more hb.size⟩
theorem Ma.new {w : World} {S T : Int} {L : List A4} {P E : List Int} {p2 p3 p4 c2 c3 c4 : Nat} (h2 : SlA w w.heap.size (some ⟨p2, 0, none⟩) L.length L) (h3 : SlI w w.heap.size (some ⟨p3, 0, none⟩) P.length P) (h4 : SlI w w.heap.size (some ⟨p4, 0, none⟩) E.length E) : Ma (w.alloc (.cells ([.int .i64 S, .int .i64 T, .slice (some ⟨p2, 0, none⟩) L.length c2, .slice (some ⟨p3, 0, none⟩) P.length c3, .slice (some ⟨p4, 0, none⟩) E.length c4] : List Value).toArray 28)) w.heap.size p2 p3 p4 c2 c3 c4 S T L P E := by
  have hb : Below w.heap.size w (w.alloc (.cells ([.int .i64 S, .int .i64 T, .slice (some ⟨p2, 0, none⟩) L.length c2, .slice (some ⟨p3, 0, none⟩) P.length c3, .slice (some ⟨p4, 0, none⟩) E.length c4] : List Value).toArray 28)) := (Below.refl _ _).alloc (Nat.le_refl _) _
  exact ⟨Row.new _ _ _, (h2.below hb (Nat.le_refl _)).more hb.size, (h3.below hb (Nat.le_refl _)).more hb.size, (h4.below hb (Nat.le_refl _)).more hb.size⟩
theorem fEither (S T S' : Int) (L : List A4) (P E : List Int) (L' : List A4) (P' E' : List Int) (p2 p3 p4 c2 c3 c4 q2 q3 q4 d2 d3 d4 : Nat) (x : World) (h2 : SlA x x.heap.size (some ⟨p2, 0, none⟩) L.length L) (h3 : SlI x x.heap.size (some ⟨p3, 0, none⟩) P.length P) (h4 : SlI x x.heap.size (some ⟨p4, 0, none⟩) E.length E) (k2 : SlA x x.heap.size (some ⟨q2, 0, none⟩) L'.length L') (k3 : SlI x x.heap.size (some ⟨q3, 0, none⟩) P'.length P') (k4 : SlI x x.heap.size (some ⟨q4, 0, none⟩) E'.length E')
    (hl : L.length ≤ 128 ∧ P.length ≤ 128 ∧ E.length ≤ 128 ∧ L'.length ≤ 128 ∧ P'.length ≤ 128 ∧ E'.length ≤ 128) (v1 : vmB S T L P E = true) (v2 : vmB S' T L' P' E' = true) (v3 : vmB (S + S') T (eiL S L L') (P ++ P') (E ++ E') = true) :
    Calls Try.prog 11 #[.agg #[.int .i64 S, .int .i64 T, .slice (some ⟨p2, 0, none⟩) L.length c2, .slice (some ⟨p3, 0, none⟩) P.length c3, .slice (some ⟨p4, 0, none⟩) E.length c4], .agg #[.int .i64 S', .int .i64 T, .slice (some ⟨q2, 0, none⟩) L'.length d2, .slice (some ⟨q3, 0, none⟩) P'.length d3, .slice (some ⟨q4, 0, none⟩) E'.length d4]] x fun e y => ∃ A2 n2 c2 A3 n3 c3 A4 n4 c4, e = .returned (.tuple #[.agg #[.int .i64 (S + S'), .int .i64 T, .slice A2 n2 c2, .slice A3 n3 c3, .slice A4 n4 c4], .bool true]) ∧ SlA y y.heap.size A2 n2 (eiL S L L') ∧ SlI y y.heap.size A3 n3 (P ++ P') ∧ SlI y y.heap.size A4 n4 (E ++ E') ∧ Below x.heap.size x y := by
  have hok : eiOk S T L P E S' T L' P' E' = true := by unfold eiOk; rw [v1, v2, v3]; simp
  refine (iEither_any S T L P E p2 p3 p4 c2 c3 c4 S' T L' P' E' q2 q3 q4 d2 d3 d4 x h2 h3 h4 k2 k3 k4 (by omega) (by omega) (by omega) (by omega) (by omega) (by omega)).mono ?_
  rintro e y ⟨v', hi, rfl, hh, ho, hb⟩
  rw [hok] at ho ⊢
  obtain ⟨A2, n2, c2, A3, n3, c3, A4, n4, c4, rfl, s2, s3, s4⟩ := mcO_mc ho
  exact ⟨A2, n2, c2, A3, n3, c3, A4, n4, c4, rfl, s2, s3, s4, hb⟩
theorem fJoined (S T S' : Int) (L : List A4) (P E : List Int) (L' : List A4) (P' E' : List Int) (p2 p3 p4 c2 c3 c4 q2 q3 q4 d2 d3 d4 : Nat) (x : World) (h2 : SlA x x.heap.size (some ⟨p2, 0, none⟩) L.length L) (h3 : SlI x x.heap.size (some ⟨p3, 0, none⟩) P.length P) (h4 : SlI x x.heap.size (some ⟨p4, 0, none⟩) E.length E) (k2 : SlA x x.heap.size (some ⟨q2, 0, none⟩) L'.length L') (k3 : SlI x x.heap.size (some ⟨q3, 0, none⟩) P'.length P') (k4 : SlI x x.heap.size (some ⟨q4, 0, none⟩) E'.length E')
    (hl : L.length ≤ 128 ∧ P.length ≤ 128 ∧ E.length ≤ 128 ∧ L'.length ≤ 128 ∧ P'.length ≤ 128 ∧ E'.length ≤ 128) (v1 : vmB S T L P E = true) (v2 : vmB S' T L' P' E' = true) (v3 : vmB (S + S') T (joA S L L' P' E) (joS P P') (joE P E') = true) :
    Calls Try.prog 12 #[.agg #[.int .i64 S, .int .i64 T, .slice (some ⟨p2, 0, none⟩) L.length c2, .slice (some ⟨p3, 0, none⟩) P.length c3, .slice (some ⟨p4, 0, none⟩) E.length c4], .agg #[.int .i64 S', .int .i64 T, .slice (some ⟨q2, 0, none⟩) L'.length d2, .slice (some ⟨q3, 0, none⟩) P'.length d3, .slice (some ⟨q4, 0, none⟩) E'.length d4]] x fun e y => ∃ A2 n2 c2 A3 n3 c3 A4 n4 c4, e = .returned (.tuple #[.agg #[.int .i64 (S + S'), .int .i64 T, .slice A2 n2 c2, .slice A3 n3 c3, .slice A4 n4 c4], .bool true]) ∧ SlA y y.heap.size A2 n2 (joA S L L' P' E) ∧ SlI y y.heap.size A3 n3 (joS P P') ∧ SlI y y.heap.size A4 n4 (joE P E') ∧ Below x.heap.size x y := by
  have hok : joOk S T L P E S' T L' P' E' = true := by unfold joOk; rw [v1, v2, v3]; simp
  refine (iJoined_any S T L P E p2 p3 p4 c2 c3 c4 S' T L' P' E' q2 q3 q4 d2 d3 d4 x h2 h3 h4 k2 k3 k4 (by omega) (by omega) (by omega) (by omega) (by omega) (by omega)).mono ?_
  rintro e y ⟨v', hi, rfl, hh, ho, hb⟩
  rw [hok] at ho ⊢
  obtain ⟨A2, n2, c2, A3, n3, c3, A4, n4, c4, rfl, s2, s3, s4⟩ := mcO_mc ho
  exact ⟨A2, n2, c2, A3, n3, c3, A4, n4, c4, rfl, s2, s3, s4, hb⟩
theorem fRepeat (S T : Int) (L : List A4) (P E : List Int) (p2 p3 p4 c2 c3 c4 : Nat) (x : World) (h2 : SlA x x.heap.size (some ⟨p2, 0, none⟩) L.length L) (h3 : SlI x x.heap.size (some ⟨p3, 0, none⟩) P.length P) (h4 : SlI x x.heap.size (some ⟨p4, 0, none⟩) E.length E)
    (hl : L.length ≤ 128 ∧ P.length ≤ 128 ∧ E.length ≤ 128) (v1 : vmB S T L P E = true) (v3 : vmB (S + 1) T (rpA L P E) (rpS S.toNat) (rpS S.toNat) = true) :
    Calls Try.prog 13 #[.agg #[.int .i64 S, .int .i64 T, .slice (some ⟨p2, 0, none⟩) L.length c2, .slice (some ⟨p3, 0, none⟩) P.length c3, .slice (some ⟨p4, 0, none⟩) E.length c4]] x fun e y => ∃ A2 n2 c2 A3 n3 c3 A4 n4 c4, e = .returned (.tuple #[.agg #[.int .i64 (S + 1), .int .i64 T, .slice A2 n2 c2, .slice A3 n3 c3, .slice A4 n4 c4], .bool true]) ∧ SlA y y.heap.size A2 n2 (rpA L P E) ∧ SlI y y.heap.size A3 n3 (rpS S.toNat) ∧ SlI y y.heap.size A4 n4 (rpS S.toNat) ∧ Below x.heap.size x y := by
  have hok : rpOk S T L P E = true := by unfold rpOk; rw [v1, v3]; rfl
  refine (iRepeat_any _ S T L P E x ⟨_, _, _, _, _, _, _, _, _, rfl, h2, h3, h4⟩ (by omega) (by omega) (by omega)).mono ?_
  rintro e y ⟨v', hi, rfl, hh, ho, hb⟩
  rw [hok] at ho ⊢
  obtain ⟨A2, n2, c2, A3, n3, c3, A4, n4, c4, rfl, s2, s3, s4⟩ := mcO_mc ho
  exact ⟨A2, n2, c2, A3, n3, c3, A4, n4, c4, rfl, s2, s3, s4, hb⟩
theorem fBack (S T : Int) (L : List A4) (P E : List Int) (p2 p3 p4 c2 c3 c4 : Nat) (x : World) (h2 : SlA x x.heap.size (some ⟨p2, 0, none⟩) L.length L) (h3 : SlI x x.heap.size (some ⟨p3, 0, none⟩) P.length P) (h4 : SlI x x.heap.size (some ⟨p4, 0, none⟩) E.length E) (v1 : vmB S T L P E = true) :
    Calls Try.prog 14 #[.agg #[.int .i64 S, .int .i64 T, .slice (some ⟨p2, 0, none⟩) L.length c2, .slice (some ⟨p3, 0, none⟩) P.length c3, .slice (some ⟨p4, 0, none⟩) E.length c4]] x fun e y => ∃ A2 n2 c2 A3 n3 c3 A4 n4 c4, e = .returned (.tuple #[.agg #[.int .i64 (S), .int .i64 T, .slice A2 n2 c2, .slice A3 n3 c3, .slice A4 n4 c4], .bool true]) ∧ SlA y y.heap.size A2 n2 (L.map bkA) ∧ SlI y y.heap.size A3 n3 (E) ∧ SlI y y.heap.size A4 n4 (P) ∧ Below x.heap.size x y := by
  refine (iBack_any S T L P E p2 0 p3 0 p4 0 c2 c3 c4 x h2 h3 h4 v1).mono ?_
  rintro e y ⟨v', rfl, hm, hb⟩
  obtain ⟨A2, n2, c2, A3, n3, c3, A4, n4, c4, rfl, s2, s3, s4⟩ := hm
  exact ⟨A2, n2, c2, A3, n3, c3, A4, n4, c4, rfl, s2, s3, s4, hb⟩
theorem fCost (S T : Int) (L : List A4) (P E : List Int) (A2 : Option Addr) (n2 c2 : Nat) (A3 : Option Addr) (n3 c3 : Nat) (A4 : Option Addr) (n4 c4 : Nat) (A : Option Addr) (n c : Nat) (xs : List Int) (x : World) (h2 : SlA x x.heap.size A2 n2 L) (h3 : SlI x x.heap.size A3 n3 P) (h4 : SlI x x.heap.size A4 n4 E) (hx : SlI x x.heap.size A n xs) (v1 : vmB S T L P E = true) (hw : wordB xs T = true) (r : Int) (hr : r = cst L P E xs) :
    Calls Try.prog 16 #[.agg #[.int .i64 S, .int .i64 T, .slice A2 n2 c2, .slice A3 n3 c3, .slice A4 n4 c4], .slice A n c] x fun e y => e = .returned (.tuple #[.int .i64 r, .bool true]) ∧ Below x.heap.size x y := by
  have hok : coB S T L P E xs = true := by unfold coB; rw [v1, hw]; rfl
  have hv : coR 1099511627776 S T L P E xs = r := by unfold coR; rw [hok, if_pos rfl, hr]
  obtain ⟨_, _, _, _, hPE, hPn, hLn, _, _, _⟩ := vm_okM v1
  have hl := hx.len
  have hwl := wordB_len hw
  have h := iCostOf_any (.agg #[.int .i64 S, .int .i64 T, .slice A2 n2 c2, .slice A3 n3 c3, .slice A4 n4 c4]) S T L P E A n c xs x ⟨_, _, _, _, _, _, _, _, _, rfl, h2, h3, h4⟩ hx (by omega) (by omega) (by omega) (by omega)
  rw [hok, hv] at h
  exact h
theorem wordB_mk {xs : List Int} {t : Nat} (ht : 1 ≤ t) (ht' : t ≤ 4) (hl : xs.length ≤ 12) (hx : ∀ x ∈ xs, 0 ≤ x ∧ x < (t : Int)) : wordB xs t = true := by
  simp only [wordB, allIn, Bool.and_eq_true, decide_eq_true_eq, List.all_eq_true]
  refine ⟨decide_eq_true (by omega), hl, fun x h => decide_eq_true ?_⟩
  have := hx x h
  omega
theorem fShared (S T : Int) (L : List A4) (P E : List Int) (A2 : Option Addr) (n2 c2 : Nat) (A3 : Option Addr) (n3 c3 : Nat) (A4 : Option Addr) (n4 c4 : Nat) (g n c : Nat) (ws : List (List Int)) (k : Int) (x : World) (h2 : SlA x x.heap.size A2 n2 L) (h3 : SlI x x.heap.size A3 n3 P) (h4 : SlI x x.heap.size A4 n4 E) (hx : SlL x x.heap.size (some ⟨g, 0, none⟩) n ws) (v1 : vmB S T L P E = true) (hw : ∀ xs ∈ ws, wordB xs T = true) (hn : n ≤ 64) (hsm : sumL ws ≤ 1048576) (hk : 1 ≤ k ∧ k ≤ 8) (h0 : 0 < n) :
    Calls Try.prog 19 #[.agg #[.int .i64 S, .int .i64 T, .slice A2 n2 c2, .slice A3 n3 c3, .slice A4 n4 c4], .slice (some ⟨g, 0, none⟩) n c, .int .i64 k] x fun e y => ∃ q d, e = .returned (.tuple #[.slice (some ⟨q, 0, none⟩) n d, .bool true]) ∧ RowI y x.heap.size 2 (.slice (some ⟨q, 0, none⟩) n d) (ws.map (cst L P E)) ∧ Below x.heap.size x y := by
  obtain ⟨_, _, _, _, hPE, hPn, hLn, _, _, _⟩ := vm_okM v1
  have hl := hx.len
  have hok : wsB S T L P E ws k = true := by
    unfold wsB
    rw [v1, decide_eq_true (by omega), show inB k 1 8 = true from decide_eq_true hk, show ws.all (fun xs => wordB xs T) = true from List.all_eq_true.2 hw]
    rfl
  refine (iShared_any _ g n c S T L P E ws k x ⟨_, _, _, _, _, _, _, _, _, rfl, h2, h3, h4⟩ hx (by omega) (by omega) (by omega) (by omega) hsm).mono ?_
  rintro e y ⟨v, rfl, ho, hb⟩
  rw [hok] at ho ⊢
  have ho' : RowI y x.heap.size 2 v (ws.map (cst L P E)) := ho
  obtain ⟨q, d, hv, _⟩ := ho'.form (by rw [List.length_map]; omega)
  rw [List.length_map, hl] at hv
  subst hv
  exact ⟨q, d, rfl, ho', hb⟩
end Go.Proofs.Ytegponioggpkcaa
