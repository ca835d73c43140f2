/- A Machine (numbers and lists): what the laws' helpers do with one. -/
import Derived.Test.YtedbngnkkfpbeaaMgd

namespace Go.Proofs.Ytedbngnkkfpbeaa
open Go.RowKit
set_option linter.unusedVariables false
def Mc (w : World) (B : Nat) (v : Value) (S : Int) (T : Int) (L : List A4) (P : List Int) (E : List Int) : Prop :=
  ∃ A2 n2 c2 A3 n3 c3 A4 n4 c4, v = .agg #[.int .i64 S, .int .i64 T, .slice A2 n2 c2, .slice A3 n3 c3, .slice A4 n4 c4] ∧ SlA w B A2 n2 L ∧ SlI w B A3 n3 P ∧ SlI w B A4 n4 E
theorem Mc.below {w w' : World} {B B' : Nat} {v : Value} {S T : Int} {L : List A4} {P : List Int} {E : List Int} (h : Mc w B v S T L P E) (hb : Below B' w w') (hB : B ≤ B') : Mc w' B v S T L P E := by
  obtain ⟨A2, n2, c2, A3, n3, c3, A4, n4, c4, e, h2, h3, h4⟩ := h
  exact ⟨A2, n2, c2, A3, n3, c3, A4, n4, c4, e, h2.below hb hB, h3.below hb hB, h4.below hb hB⟩
theorem Mc.more {w : World} {B B' : Nat} {v : Value} {S T : Int} {L : List A4} {P : List Int} {E : List Int} (h : Mc w B v S T L P E) (hB : B ≤ B') : Mc w B' v S T L P E := by
  obtain ⟨A2, n2, c2, A3, n3, c3, A4, n4, c4, e, h2, h3, h4⟩ := h
  exact ⟨A2, n2, c2, A3, n3, c3, A4, n4, c4, e, h2.more hB, h3.more hB, h4.more hB⟩
/-- v is a Machine of the call's own: rows of their own, in this order. -/
def McR (w : World) (base : Nat) (v : Value) (S : Int) (T : Int) (L : List A4) (P : List Int) (E : List Int) : Prop :=
  ∃ g2 g3 g4, v = .agg #[.int .i64 S, .int .i64 T, .slice (some ⟨g2, 0, none⟩) L.length L.length, .slice (some ⟨g3, 0, none⟩) P.length P.length, .slice (some ⟨g4, 0, none⟩) E.length E.length] ∧ base ≤ g2 ∧ g2 < g3 ∧ g3 < g4 ∧ Row w g2 89 (fa L) ∧ Row w g3 2 (iv P) ∧ Row w g4 2 (iv E)
theorem McR.cg {w : World} {base : Nat} {v : Value} {S T : Int} {L : List A4} {P : List Int} {E : List Int} (h : McR w base v S T L P E) : Mc w w.heap.size v S T L P E := by
  obtain ⟨g2, g3, g4, e, _, _, _, h2, h3, h4⟩ := h
  exact ⟨_, _, _, _, _, _, _, _, _, e, h2.slA, h3.slI, h4.slI⟩
theorem McR.shape {w : World} {base : Nat} {v : Value} {S T : Int} {L : List A4} {P : List Int} {E : List Int} (h : McR w base v S T L P E) : ∃ g2 g3 g4, v = .agg #[.int .i64 S, .int .i64 T, .slice (some ⟨g2, 0, none⟩) L.length L.length, .slice (some ⟨g3, 0, none⟩) P.length P.length, .slice (some ⟨g4, 0, none⟩) E.length E.length] := by
  obtain ⟨g2, g3, g4, e, _⟩ := h
  exact ⟨g2, g3, g4, e⟩
theorem McR.below {w w' : World} {base B : Nat} {v : Value} {S T : Int} {L : List A4} {P : List Int} {E : List Int} (h : McR w base v S T L P E) (hb : Below B w w') (hB : w.heap.size ≤ B) : McR w' base v S T L P E := by
  obtain ⟨g2, g3, g4, e, q0, q1, q2, h2, h3, h4⟩ := h
  exact ⟨g2, g3, g4, e, q0, q1, q2, h2.below hb (Nat.lt_of_lt_of_le h2.lt hB), h3.below hb (Nat.lt_of_lt_of_le h3.lt hB), h4.below hb (Nat.lt_of_lt_of_le h4.lt hB)⟩
set_option maxHeartbeats 2000000 in
theorem szMachine_any (v : Value) (S : Int) (T : Int) (L : List A4) (P : List Int) (E : List Int) (left : Int) (w : World) (h : Mc w w.heap.size v S T L P E) (h0 : 0 ≤ left) (h1 : left ≤ 1048576) (b2 : L.length ≤ 9223372036854775807) (b3 : P.length ≤ 9223372036854775807) (b4 : E.length ≤ 9223372036854775807) :
    Calls Try.prog 14 #[v, .int .i64 left] w fun e w' => ∃ z : Int, e = .returned (.int .i64 z) ∧ -1 ≤ z ∧ z ≤ 1048576 ∧ (0 ≤ z → L.length ≤ 1048576 ∧ P.length ≤ 1048576 ∧ E.length ≤ 1048576) ∧ Below w.heap.size w w' := by
  obtain ⟨A2, n2, c2, A3, n3, c3, A4, n4, c4, rfl, h2, h3, h4⟩ := h
  have e2 : L.length = n2 := h2.len
  rw [e2] at b2 ⊢
  have e3 : P.length = n3 := h3.len
  rw [e3] at b3 ⊢
  have e4 : E.length = n4 := h4.len
  rw [e4] at b4 ⊢
  clear h2 e2 h3 e3 h4 e4
  have hbx : Below w.heap.size w (w.alloc (.cells #[.int .i64 S, .int .i64 T, .slice A2 n2 c2, .slice A3 n3 c3, .slice A4 n4 c4] 41)) := (Below.refl _ _).alloc (Nat.le_refl _) _
  go_enter Try.func14, Try.ntmps14
  go_wp2_with fail
  refine (szArcS_any A2 n2 c2 left _ (by omega) (by omega) b2).mono ?_
  rintro e w' ⟨z2, rfl, hz2, hy2, hn2, hw⟩
  subst hw
  by_cases hneg2 : z2 < 0
  · go_wp2_with fail
    go_ret
    exact ⟨_, rfl, by omega, by omega, fun h => by omega, hbx⟩
  have hp2 : 0 ≤ z2 := by omega
  have hm2 := hn2 hp2
  clear hneg2 hn2
  go_wp2_with fail
  refine (szInt64S_any A3 n3 c3 z2 _ (by omega) (by omega) b3).mono ?_
  rintro e w' ⟨z3, rfl, hz3, hy3, hn3, hw⟩
  subst hw
  by_cases hneg3 : z3 < 0
  · go_wp2_with fail
    go_ret
    exact ⟨_, rfl, by omega, by omega, fun h => by omega, hbx⟩
  have hp3 : 0 ≤ z3 := by omega
  have hm3 := hn3 hp3
  clear hneg3 hn3
  go_wp2_with fail
  refine (szInt64S_any A4 n4 c4 z3 _ (by omega) (by omega) b4).mono ?_
  rintro e w' ⟨z4, rfl, hz4, hy4, hn4, hw⟩
  subst hw
  by_cases hneg4 : z4 < 0
  · go_wp2_with fail
    go_ret
    exact ⟨_, rfl, by omega, by omega, fun h => by omega, hbx⟩
  have hp4 : 0 ≤ z4 := by omega
  have hm4 := hn4 hp4
  clear hneg4 hn4
  go_wp2_with fail
  go_ret
  exact ⟨z4, rfl, by omega, by omega, fun h => ⟨hm2, hm3, hm4⟩, hbx⟩
/-- While a Machine is copied: the boxes of what came in, of the result, of the copy. -/
structure TMc (w x : World) (src out : List Value) : Prop where
  bel : Below w.heap.size w x
  src : Row x w.heap.size 41 src
  res : Row x (w.heap.size + 1) 28 [.int .i64 0, .int .i64 0, .slice none 0 0, .slice none 0 0, .slice none 0 0]
  out : Row x (w.heap.size + 1 + 1) 28 out
  room : w.heap.size + 3 ≤ x.heap.size
theorem TMc.start (w : World) (src out : List Value) :
    TMc w (((w.alloc (.cells src.toArray 41)).alloc (.cells #[.int .i64 0, .int .i64 0, .slice none 0 0, .slice none 0 0, .slice none 0 0] 28)).alloc (.cells out.toArray 28)) src out := by
  have s1 : (w.alloc (.cells src.toArray 41)).heap.size = w.heap.size + 1 := by simp
  have r1 := Row.new w 41 src
  have r2 := Row.new (w.alloc (.cells src.toArray 41)) 28 [.int .i64 0, .int .i64 0, .slice none 0 0, .slice none 0 0, .slice none 0 0]
  rw [s1] at r2
  have r3 := Row.new ((w.alloc (.cells src.toArray 41)).alloc (.cells #[.int .i64 0, .int .i64 0, .slice none 0 0, .slice none 0 0, .slice none 0 0] 28)) 28 out
  have s2 : ((w.alloc (.cells src.toArray 41)).alloc (.cells #[.int .i64 0, .int .i64 0, .slice none 0 0, .slice none 0 0, .slice none 0 0] 28)).heap.size = w.heap.size + 1 + 1 := by simp
  rw [s2] at r3
  exact ⟨(((Below.refl _ _).alloc (Nat.le_refl _) _).alloc (by rw [s1]; omega) _).alloc (by rw [s2]; omega) _, (r1.alloc _).alloc _, r2.alloc _, r3, by simp⟩
theorem TMc.call {w x x' : World} {src out : List Value} (h : TMc w x src out) (hb : Below x.heap.size x x') : TMc w x' src out :=
  ⟨h.bel.trans (hb.mono h.bel.size), h.src.below hb h.src.lt, h.res.below hb h.res.lt, h.out.below hb h.out.lt, Nat.le_trans h.room hb.size⟩
theorem TMc.set {w x : World} {src out : List Value} (h : TMc w x src out) (q : Nat) (u : Value) : TMc w (x.setCell ⟨w.heap.size + 1 + 1, q, none⟩ u) src (out.set q u) :=
  ⟨h.bel.setCell (p := ⟨w.heap.size + 1 + 1, q, none⟩) (show w.heap.size ≤ w.heap.size + 1 + 1 by omega) u, h.src.far (show w.heap.size ≠ w.heap.size + 1 + 1 by omega) u, h.res.far (show w.heap.size + 1 ≠ w.heap.size + 1 + 1 by omega) u, h.out.set_ q u, by have := h.room; simpa using this⟩
set_option maxHeartbeats 2000000 in
theorem toMachine_any (v : Value) (S : Int) (T : Int) (L : List A4) (P : List Int) (E : List Int) (w : World) (h : Mc w w.heap.size v S T L P E) (b2 : L.length ≤ 4294967296) (b3 : P.length ≤ 4294967296) (b4 : E.length ≤ 4294967296) :
    Calls Try.prog 16 #[v] w fun e w' => ∃ v', e = .returned v' ∧ McR w' w.heap.size v' S T L P E ∧ Below w.heap.size w w' := by
  obtain ⟨A2, n2, c2, A3, n3, c3, A4, n4, c4, rfl, h2, h3, h4⟩ := h
  have hn2 : L.length = n2 := h2.len
  rw [hn2] at b2
  have H2 := Lib.hid h2; have N2 := Lib.hid hn2; clear h2 hn2
  have hn3 : P.length = n3 := h3.len
  rw [hn3] at b3
  have H3 := Lib.hid h3; have N3 := Lib.hid hn3; clear h3 hn3
  have hn4 : E.length = n4 := h4.len
  rw [hn4] at b4
  have H4 := Lib.hid h4; have N4 := Lib.hid hn4; clear h4 hn4
  go_enter Try.func16, Try.ntmps16
  go_wp2_with fail
  have t0 := TMc.start w [.int .i64 S, .int .i64 T, .slice A2 n2 c2, .slice A3 n3 c3, .slice A4 n4 c4] [(.int .i64 S), (.int .i64 T), (.slice none 0 0), (.slice none 0 0), (.slice none 0 0)]
  obtain ⟨x0, hx0⟩ : ∃ x, x = ((w.alloc (.cells ([.int .i64 S, .int .i64 T, .slice A2 n2 c2, .slice A3 n3 c3, .slice A4 n4 c4] : List Value).toArray 41)).alloc (.cells #[.int .i64 0, .int .i64 0, .slice none 0 0, .slice none 0 0, .slice none 0 0] 28)).alloc (.cells ([(.int .i64 S), (.int .i64 T), (.slice none 0 0), (.slice none 0 0), (.slice none 0 0)] : List Value).toArray 28) := ⟨_, rfl⟩
  have t0 : TMc w x0 [.int .i64 S, .int .i64 T, .slice A2 n2 c2, .slice A3 n3 c3, .slice A4 n4 c4] [(.int .i64 S), (.int .i64 T), (.slice none 0 0), (.slice none 0 0), (.slice none 0 0)] := by rw [hx0]; exact t0
  change Calls _ _ _ (((w.alloc (.cells ([.int .i64 S, .int .i64 T, .slice A2 n2 c2, .slice A3 n3 c3, .slice A4 n4 c4] : List Value).toArray 41)).alloc (.cells #[.int .i64 0, .int .i64 0, .slice none 0 0, .slice none 0 0, .slice none 0 0] 28)).alloc (.cells ([(.int .i64 S), (.int .i64 T), (.slice none 0 0), (.slice none 0 0), (.slice none 0 0)] : List Value).toArray 28)) _
  rw [← hx0]
  clear hx0
  refine (toArcS_any A2 n2 c2 L x0 ((H2.out.below t0.bel (Nat.le_refl _)).more t0.bel.size) b2).mono ?_
  rintro e w1 ⟨g2, rfl, hg2, hr2, hb1⟩
  have T1 := t0.call hb1
  have t1 := T1.set 2 (.slice (some ⟨g2, 0, none⟩) n2 n2)
  have t1 : TMc w (w1.setCell ⟨w.heap.size + 1 + 1, 2, none⟩ (.slice (some ⟨g2, 0, none⟩) n2 n2)) [.int .i64 S, .int .i64 T, .slice A2 n2 c2, .slice A3 n3 c3, .slice A4 n4 c4] [(.int .i64 S), (.int .i64 T), (.slice (some ⟨g2, 0, none⟩) n2 n2), (.slice none 0 0), (.slice none 0 0)] := t1
  have a2 := T1.out.cell 2
  have f2 := T1.out.frozen 2
  have p2 : w.heap.size + 3 ≤ g2 := Nat.le_trans t0.room hg2
  have r2 : Hid (Row (w1.setCell ⟨w.heap.size + 1 + 1, 2, none⟩ (.slice (some ⟨g2, 0, none⟩) n2 n2)) g2 89 (fa L)) := Row.far hr2 (show g2 ≠ w.heap.size + 1 + 1 by omega) _
  have k2 : g2 < (w1.setCell ⟨w.heap.size + 1 + 1, 2, none⟩ (.slice (some ⟨g2, 0, none⟩) n2 n2)).heap.size := by have := hr2.lt; simpa using this
  clear hr2
  have b'2 := t1.src.cell 3
  go_wp2_with fail
  clear a2 f2 b'2 T1
  obtain ⟨x1, hx⟩ : ∃ x, x = (w1.setCell ⟨w.heap.size + 1 + 1, 2, none⟩ (.slice (some ⟨g2, 0, none⟩) n2 n2)) := ⟨_, rfl⟩
  rw [← hx] at t1 k2 ⊢ r2
  clear hx
  refine (toInt64S_any A3 n3 c3 P x1 ((H3.out.below t1.bel (Nat.le_refl _)).more t1.bel.size) b3).mono ?_
  rintro e w2 ⟨g3, rfl, hg3, hr3, hb2⟩
  have T2 := t1.call hb2
  have t2 := T2.set 3 (.slice (some ⟨g3, 0, none⟩) n3 n3)
  have t2 : TMc w (w2.setCell ⟨w.heap.size + 1 + 1, 3, none⟩ (.slice (some ⟨g3, 0, none⟩) n3 n3)) [.int .i64 S, .int .i64 T, .slice A2 n2 c2, .slice A3 n3 c3, .slice A4 n4 c4] [(.int .i64 S), (.int .i64 T), (.slice (some ⟨g2, 0, none⟩) n2 n2), (.slice (some ⟨g3, 0, none⟩) n3 n3), (.slice none 0 0)] := t2
  have a3 := T2.out.cell 3
  have f3 := T2.out.frozen 3
  have p3 : w.heap.size + 3 ≤ g3 := Nat.le_trans t1.room hg3
  have o3 : g2 < g3 := Nat.lt_of_lt_of_le k2 hg3
  have r2 : Hid (Row (w2.setCell ⟨w.heap.size + 1 + 1, 3, none⟩ (.slice (some ⟨g3, 0, none⟩) n3 n3)) g2 89 (fa L)) := Row.far (r2.out.below hb2 r2.out.lt) (show g2 ≠ w.heap.size + 1 + 1 by omega) _
  have r3 : Hid (Row (w2.setCell ⟨w.heap.size + 1 + 1, 3, none⟩ (.slice (some ⟨g3, 0, none⟩) n3 n3)) g3 2 (iv P)) := Row.far hr3 (show g3 ≠ w.heap.size + 1 + 1 by omega) _
  have k3 : g3 < (w2.setCell ⟨w.heap.size + 1 + 1, 3, none⟩ (.slice (some ⟨g3, 0, none⟩) n3 n3)).heap.size := by have := hr3.lt; simpa using this
  clear hr3
  have b'3 := t2.src.cell 4
  go_wp2_with fail
  clear a3 f3 b'3 T2
  obtain ⟨x2, hx⟩ : ∃ x, x = (w2.setCell ⟨w.heap.size + 1 + 1, 3, none⟩ (.slice (some ⟨g3, 0, none⟩) n3 n3)) := ⟨_, rfl⟩
  rw [← hx] at t2 k3 ⊢ r2 r3
  clear hx
  refine (toInt64S_any A4 n4 c4 E x2 ((H4.out.below t2.bel (Nat.le_refl _)).more t2.bel.size) b4).mono ?_
  rintro e w3 ⟨g4, rfl, hg4, hr4, hb3⟩
  have T3 := t2.call hb3
  have t3 := T3.set 4 (.slice (some ⟨g4, 0, none⟩) n4 n4)
  have t3 : TMc w (w3.setCell ⟨w.heap.size + 1 + 1, 4, none⟩ (.slice (some ⟨g4, 0, none⟩) n4 n4)) [.int .i64 S, .int .i64 T, .slice A2 n2 c2, .slice A3 n3 c3, .slice A4 n4 c4] [(.int .i64 S), (.int .i64 T), (.slice (some ⟨g2, 0, none⟩) n2 n2), (.slice (some ⟨g3, 0, none⟩) n3 n3), (.slice (some ⟨g4, 0, none⟩) n4 n4)] := t3
  have a4 := T3.out.cell 4
  have f4 := T3.out.frozen 4
  have p4 : w.heap.size + 3 ≤ g4 := Nat.le_trans t2.room hg4
  have o4 : g3 < g4 := Nat.lt_of_lt_of_le k3 hg4
  have r2 : Hid (Row (w3.setCell ⟨w.heap.size + 1 + 1, 4, none⟩ (.slice (some ⟨g4, 0, none⟩) n4 n4)) g2 89 (fa L)) := Row.far (r2.out.below hb3 r2.out.lt) (show g2 ≠ w.heap.size + 1 + 1 by omega) _
  have r3 : Hid (Row (w3.setCell ⟨w.heap.size + 1 + 1, 4, none⟩ (.slice (some ⟨g4, 0, none⟩) n4 n4)) g3 2 (iv P)) := Row.far (r3.out.below hb3 r3.out.lt) (show g3 ≠ w.heap.size + 1 + 1 by omega) _
  have r4 : Hid (Row (w3.setCell ⟨w.heap.size + 1 + 1, 4, none⟩ (.slice (some ⟨g4, 0, none⟩) n4 n4)) g4 2 (iv E)) := Row.far hr4 (show g4 ≠ w.heap.size + 1 + 1 by omega) _
  have k4 : g4 < (w3.setCell ⟨w.heap.size + 1 + 1, 4, none⟩ (.slice (some ⟨g4, 0, none⟩) n4 n4)).heap.size := by have := hr4.lt; simpa using this
  clear hr4
  have ou0 := t3.out.cell 0
  have re0 := t3.res.cell 0
  have rf0 := t3.res.frozen 0
  have ou1 := t3.out.cell 1
  have re1 := t3.res.cell 1
  have rf1 := t3.res.frozen 1
  have ou2 := t3.out.cell 2
  have re2 := t3.res.cell 2
  have rf2 := t3.res.frozen 2
  have ou3 := t3.out.cell 3
  have re3 := t3.res.cell 3
  have rf3 := t3.res.frozen 3
  have ou4 := t3.out.cell 4
  have re4 := t3.res.cell 4
  have rf4 := t3.res.frozen 4
  go_wp2_with fail
  clear ou0 re0 rf0 ou1 re1 rf1 ou2 re2 rf2 ou3 re3 rf3 ou4 re4 rf4
  have hF := (((((t3.res.set_ 0 (.int .i64 S)).set_ 1 (.int .i64 T)).set_ 2 (.slice (some ⟨g2, 0, none⟩) n2 n2)).set_ 3 (.slice (some ⟨g3, 0, none⟩) n3 n3)).set_ 4 (.slice (some ⟨g4, 0, none⟩) n4 n4))
  have hbF := (((((t3.bel.setCell (p := ⟨w.heap.size + 1, 0, none⟩) (show w.heap.size ≤ w.heap.size + 1 by omega) (.int .i64 S)).setCell (p := ⟨w.heap.size + 1, 1, none⟩) (show w.heap.size ≤ w.heap.size + 1 by omega) (.int .i64 T)).setCell (p := ⟨w.heap.size + 1, 2, none⟩) (show w.heap.size ≤ w.heap.size + 1 by omega) (.slice (some ⟨g2, 0, none⟩) n2 n2)).setCell (p := ⟨w.heap.size + 1, 3, none⟩) (show w.heap.size ≤ w.heap.size + 1 by omega) (.slice (some ⟨g3, 0, none⟩) n3 n3)).setCell (p := ⟨w.heap.size + 1, 4, none⟩) (show w.heap.size ≤ w.heap.size + 1 by omega) (.slice (some ⟨g4, 0, none⟩) n4 n4))
  have q2 := (((((r2.out.far (p := ⟨w.heap.size + 1, 0, none⟩) (show g2 ≠ w.heap.size + 1 by omega) (.int .i64 S)).far (p := ⟨w.heap.size + 1, 1, none⟩) (show g2 ≠ w.heap.size + 1 by omega) (.int .i64 T)).far (p := ⟨w.heap.size + 1, 2, none⟩) (show g2 ≠ w.heap.size + 1 by omega) (.slice (some ⟨g2, 0, none⟩) n2 n2)).far (p := ⟨w.heap.size + 1, 3, none⟩) (show g2 ≠ w.heap.size + 1 by omega) (.slice (some ⟨g3, 0, none⟩) n3 n3)).far (p := ⟨w.heap.size + 1, 4, none⟩) (show g2 ≠ w.heap.size + 1 by omega) (.slice (some ⟨g4, 0, none⟩) n4 n4))
  have q3 := (((((r3.out.far (p := ⟨w.heap.size + 1, 0, none⟩) (show g3 ≠ w.heap.size + 1 by omega) (.int .i64 S)).far (p := ⟨w.heap.size + 1, 1, none⟩) (show g3 ≠ w.heap.size + 1 by omega) (.int .i64 T)).far (p := ⟨w.heap.size + 1, 2, none⟩) (show g3 ≠ w.heap.size + 1 by omega) (.slice (some ⟨g2, 0, none⟩) n2 n2)).far (p := ⟨w.heap.size + 1, 3, none⟩) (show g3 ≠ w.heap.size + 1 by omega) (.slice (some ⟨g3, 0, none⟩) n3 n3)).far (p := ⟨w.heap.size + 1, 4, none⟩) (show g3 ≠ w.heap.size + 1 by omega) (.slice (some ⟨g4, 0, none⟩) n4 n4))
  have q4 := (((((r4.out.far (p := ⟨w.heap.size + 1, 0, none⟩) (show g4 ≠ w.heap.size + 1 by omega) (.int .i64 S)).far (p := ⟨w.heap.size + 1, 1, none⟩) (show g4 ≠ w.heap.size + 1 by omega) (.int .i64 T)).far (p := ⟨w.heap.size + 1, 2, none⟩) (show g4 ≠ w.heap.size + 1 by omega) (.slice (some ⟨g2, 0, none⟩) n2 n2)).far (p := ⟨w.heap.size + 1, 3, none⟩) (show g4 ≠ w.heap.size + 1 by omega) (.slice (some ⟨g3, 0, none⟩) n3 n3)).far (p := ⟨w.heap.size + 1, 4, none⟩) (show g4 ≠ w.heap.size + 1 by omega) (.slice (some ⟨g4, 0, none⟩) n4 n4))
  (try simp only [Exit.inBlock, Exit.then])
  refine bodyPost_ret (results_cell_row rfl _ _ (w.heap.size + 1) 28 #[(.int .i64 S), (.int .i64 T), (.slice (some ⟨g2, 0, none⟩) n2 n2), (.slice (some ⟨g3, 0, none⟩) n3 n3), (.slice (some ⟨g4, 0, none⟩) n4 n4)] (0, 0) _ rfl hF Try.underlying28 rfl (by kernel_rfl)) rfl ?_
  refine ⟨_, rfl, ⟨g2, g3, g4, by rw [N2.out, N3.out, N4.out], by omega, o3, o4, q2, q3, q4⟩, hbF⟩
set_option maxHeartbeats 2000000 in
theorem eqMachine_same (v v' : Value) (S : Int) (T : Int) (L : List A4) (P : List Int) (E : List Int) (w : World) (h : Mc w w.heap.size v S T L P E) (h' : Mc w w.heap.size v' S T L P E) (b2 : L.length ≤ 4294967296) (b3 : P.length ≤ 4294967296) (b4 : E.length ≤ 4294967296) :
    Calls Try.prog 19 #[v, v'] w fun e w' => e = .returned (.bool true) ∧ Below w.heap.size w w' := by
  obtain ⟨A2, n2, c2, A3, n3, c3, A4, n4, c4, rfl, h2, h3, h4⟩ := h
  obtain ⟨A2', n2', c2', A3', n3', c3', A4', n4', c4', rfl, h2', h3', h4'⟩ := h'
  have m2 : n2 ≤ 4294967296 := by have := h2.len; rw [← this]; exact b2
  have e2 : n2 = n2' := by have h1 := h2.len; have h2 := h2'.len; rw [← h1, ← h2]
  subst e2
  have H2 := Lib.hid h2; have H2' := Lib.hid h2'
  have m3 : n3 ≤ 4294967296 := by have := h3.len; rw [← this]; exact b3
  have e3 : n3 = n3' := by have h1 := h3.len; have h2 := h3'.len; rw [← h1, ← h2]
  subst e3
  have H3 := Lib.hid h3; have H3' := Lib.hid h3'
  have m4 : n4 ≤ 4294967296 := by have := h4.len; rw [← this]; exact b4
  have e4 : n4 = n4' := by have h1 := h4.len; have h2 := h4'.len; rw [← h1, ← h2]
  subst e4
  have H4 := Lib.hid h4; have H4' := Lib.hid h4'
  clear h2 h2' b2 h3 h3' b3 h4 h4' b4
  have ra := Lib.hid ((Row.new w 28 [.int .i64 S, .int .i64 T, .slice A2 n2 c2, .slice A3 n3 c3, .slice A4 n4 c4]).alloc (.cells ([.int .i64 S, .int .i64 T, .slice A2' n2 c2', .slice A3' n3 c3', .slice A4' n4 c4'] : List Value).toArray 28))
  have rb := Row.new (w.alloc (.cells ([.int .i64 S, .int .i64 T, .slice A2 n2 c2, .slice A3 n3 c3, .slice A4 n4 c4] : List Value).toArray 28)) 28 [.int .i64 S, .int .i64 T, .slice A2' n2 c2', .slice A3' n3 c3', .slice A4' n4 c4']
  rw [show (w.alloc (.cells ([.int .i64 S, .int .i64 T, .slice A2 n2 c2, .slice A3 n3 c3, .slice A4 n4 c4] : List Value).toArray 28)).heap.size = w.heap.size + 1 by simp] at rb
  have rb := Lib.hid rb
  have bx : Below w.heap.size w ((w.alloc (.cells ([.int .i64 S, .int .i64 T, .slice A2 n2 c2, .slice A3 n3 c3, .slice A4 n4 c4] : List Value).toArray 28)).alloc (.cells ([.int .i64 S, .int .i64 T, .slice A2' n2 c2', .slice A3' n3 c3', .slice A4' n4 c4'] : List Value).toArray 28)) := ((Below.refl _ _).alloc (Nat.le_refl _) _).alloc (by simp) _
  have BX := Lib.hid bx; clear bx
  go_enter Try.func19, Try.ntmps19
  go_wp2_with fail
  obtain ⟨x0, hx0⟩ : ∃ x, x = (w.alloc (.cells ([.int .i64 S, .int .i64 T, .slice A2 n2 c2, .slice A3 n3 c3, .slice A4 n4 c4] : List Value).toArray 28)).alloc (.cells ([.int .i64 S, .int .i64 T, .slice A2' n2 c2', .slice A3' n3 c3', .slice A4' n4 c4'] : List Value).toArray 28) := ⟨_, rfl⟩
  have ra : Hid (Row x0 w.heap.size 28 [.int .i64 S, .int .i64 T, .slice A2 n2 c2, .slice A3 n3 c3, .slice A4 n4 c4]) := by rw [hx0]; exact ra
  have rb : Hid (Row x0 (w.heap.size + 1) 28 [.int .i64 S, .int .i64 T, .slice A2' n2 c2', .slice A3' n3 c3', .slice A4' n4 c4']) := by rw [hx0]; exact rb
  have bx : Hid (Below w.heap.size w x0) := by rw [hx0]; exact BX
  change Calls _ _ _ ((w.alloc (.cells ([.int .i64 S, .int .i64 T, .slice A2 n2 c2, .slice A3 n3 c3, .slice A4 n4 c4] : List Value).toArray 28)).alloc (.cells ([.int .i64 S, .int .i64 T, .slice A2' n2 c2', .slice A3' n3 c3', .slice A4' n4 c4'] : List Value).toArray 28)) _
  rw [← hx0]
  clear hx0 BX
  refine (eqArcS_same A2 n2 c2 A2' c2' L x0 (B := x0.heap.size) (B' := x0.heap.size) ((H2.out.below bx.out (Nat.le_refl _)).more bx.out.size) ((H2'.out.below bx.out (Nat.le_refl _)).more bx.out.size) m2).mono ?_
  rintro e w1 ⟨rfl, hb1⟩
  have ra : Hid (Row w1 w.heap.size 28 [.int .i64 S, .int .i64 T, .slice A2 n2 c2, .slice A3 n3 c3, .slice A4 n4 c4]) := ra.out.below hb1 ra.out.lt
  have rb : Hid (Row w1 (w.heap.size + 1) 28 [.int .i64 S, .int .i64 T, .slice A2' n2 c2', .slice A3' n3 c3', .slice A4' n4 c4']) := rb.out.below hb1 rb.out.lt
  have bx : Hid (Below w.heap.size w w1) := bx.out.trans (hb1.mono bx.out.size)
  clear hb1
  have ca3 := ra.out.cell 3
  have cb3 := rb.out.cell 3
  go_wp2_with fail
  clear ca3 cb3
  refine (eqInt64S_same A3 n3 c3 A3' c3' P w1 (B := w1.heap.size) (B' := w1.heap.size) ((H3.out.below bx.out (Nat.le_refl _)).more bx.out.size) ((H3'.out.below bx.out (Nat.le_refl _)).more bx.out.size) m3).mono ?_
  rintro e w2 ⟨rfl, hb2⟩
  have ra : Hid (Row w2 w.heap.size 28 [.int .i64 S, .int .i64 T, .slice A2 n2 c2, .slice A3 n3 c3, .slice A4 n4 c4]) := ra.out.below hb2 ra.out.lt
  have rb : Hid (Row w2 (w.heap.size + 1) 28 [.int .i64 S, .int .i64 T, .slice A2' n2 c2', .slice A3' n3 c3', .slice A4' n4 c4']) := rb.out.below hb2 rb.out.lt
  have bx : Hid (Below w.heap.size w w2) := bx.out.trans (hb2.mono bx.out.size)
  clear hb2
  have ca4 := ra.out.cell 4
  have cb4 := rb.out.cell 4
  go_wp2_with fail
  clear ca4 cb4
  refine (eqInt64S_same A4 n4 c4 A4' c4' E w2 (B := w2.heap.size) (B' := w2.heap.size) ((H4.out.below bx.out (Nat.le_refl _)).more bx.out.size) ((H4'.out.below bx.out (Nat.le_refl _)).more bx.out.size) m4).mono ?_
  rintro e w3 ⟨rfl, hb3⟩
  have ra : Hid (Row w3 w.heap.size 28 [.int .i64 S, .int .i64 T, .slice A2 n2 c2, .slice A3 n3 c3, .slice A4 n4 c4]) := ra.out.below hb3 ra.out.lt
  have rb : Hid (Row w3 (w.heap.size + 1) 28 [.int .i64 S, .int .i64 T, .slice A2' n2 c2', .slice A3' n3 c3', .slice A4' n4 c4']) := rb.out.below hb3 rb.out.lt
  have bx : Hid (Below w.heap.size w w3) := bx.out.trans (hb3.mono bx.out.size)
  clear hb3
  go_wp2_with fail
  go_ret
  exact ⟨rfl, bx.out⟩
end Go.Proofs.Ytedbngnkkfpbeaa
