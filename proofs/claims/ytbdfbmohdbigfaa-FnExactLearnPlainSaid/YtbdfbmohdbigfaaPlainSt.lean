/- A Plain (numbers and lists): what the laws' helpers do with one. -/
import Derived.Test.YtbdfbmohdbigfaaMgc

namespace Go.Proofs.Ytbdfbmohdbigfaa
open Go.RowKit
set_option linter.unusedVariables false
def Pl (w : World) (B : Nat) (v : Value) (S : Int) (T : Int) (P : List Int) (E : List Bool) : Prop :=
  ∃ A2 n2 c2 A3 n3 c3, v = .agg #[.int .i64 S, .int .i64 T, .slice A2 n2 c2, .slice A3 n3 c3] ∧ SlI w B A2 n2 P ∧ SlB w B A3 n3 E
theorem Pl.below {w w' : World} {B B' : Nat} {v : Value} {S T : Int} {P : List Int} {E : List Bool} (h : Pl w B v S T P E) (hb : Below B' w w') (hB : B ≤ B') : Pl w' B v S T P E := by
  obtain ⟨A2, n2, c2, A3, n3, c3, e, h2, h3⟩ := h
  exact ⟨A2, n2, c2, A3, n3, c3, e, h2.below hb hB, h3.below hb hB⟩
theorem Pl.more {w : World} {B B' : Nat} {v : Value} {S T : Int} {P : List Int} {E : List Bool} (h : Pl w B v S T P E) (hB : B ≤ B') : Pl w B' v S T P E := by
  obtain ⟨A2, n2, c2, A3, n3, c3, e, h2, h3⟩ := h
  exact ⟨A2, n2, c2, A3, n3, c3, e, h2.more hB, h3.more hB⟩
/-- v is a Plain of the call's own: rows of their own, in this order. -/
def PlR (w : World) (base : Nat) (v : Value) (S : Int) (T : Int) (P : List Int) (E : List Bool) : Prop :=
  ∃ g2 g3, v = .agg #[.int .i64 S, .int .i64 T, .slice (some ⟨g2, 0, none⟩) P.length P.length, .slice (some ⟨g3, 0, none⟩) E.length E.length] ∧ base ≤ g2 ∧ g2 < g3 ∧ Row w g2 2 (iv P) ∧ Row w g3 4 (bv E)
theorem PlR.cg {w : World} {base : Nat} {v : Value} {S T : Int} {P : List Int} {E : List Bool} (h : PlR w base v S T P E) : Pl w w.heap.size v S T P E := by
  obtain ⟨g2, g3, e, _, _, h2, h3⟩ := h
  exact ⟨_, _, _, _, _, _, e, h2.slI, h3.slB⟩
theorem PlR.shape {w : World} {base : Nat} {v : Value} {S T : Int} {P : List Int} {E : List Bool} (h : PlR w base v S T P E) : ∃ g2 g3, v = .agg #[.int .i64 S, .int .i64 T, .slice (some ⟨g2, 0, none⟩) P.length P.length, .slice (some ⟨g3, 0, none⟩) E.length E.length] := by
  obtain ⟨g2, g3, e, _⟩ := h
  exact ⟨g2, g3, e⟩
theorem PlR.below {w w' : World} {base B : Nat} {v : Value} {S T : Int} {P : List Int} {E : List Bool} (h : PlR w base v S T P E) (hb : Below B w w') (hB : w.heap.size ≤ B) : PlR w' base v S T P E := by
  obtain ⟨g2, g3, e, q0, q1, h2, h3⟩ := h
  exact ⟨g2, g3, e, q0, q1, h2.below hb (Nat.lt_of_lt_of_le h2.lt hB), h3.below hb (Nat.lt_of_lt_of_le h3.lt hB)⟩
set_option maxHeartbeats 2000000 in
theorem szPlain_any (v : Value) (S : Int) (T : Int) (P : List Int) (E : List Bool) (left : Int) (w : World) (h : Pl w w.heap.size v S T P E) (h0 : 0 ≤ left) (h1 : left ≤ 1048576) (b2 : P.length ≤ 9223372036854775807) (b3 : E.length ≤ 9223372036854775807) :
    Calls Try.prog 27 #[v, .int .i64 left] w fun e w' => ∃ z : Int, e = .returned (.int .i64 z) ∧ -1 ≤ z ∧ z ≤ 1048576 ∧ (0 ≤ z → P.length ≤ 1048576 ∧ E.length ≤ 1048576) ∧ Below w.heap.size w w' := by
  obtain ⟨A2, n2, c2, A3, n3, c3, rfl, h2, h3⟩ := h
  have e2 : P.length = n2 := h2.len
  rw [e2] at b2 ⊢
  have e3 : E.length = n3 := h3.len
  rw [e3] at b3 ⊢
  clear h2 e2 h3 e3
  have hbx : Below w.heap.size w (w.alloc (.cells #[.int .i64 S, .int .i64 T, .slice A2 n2 c2, .slice A3 n3 c3] 56)) := (Below.refl _ _).alloc (Nat.le_refl _) _
  go_enter Try.func27, Try.ntmps27
  go_wp2_with fail
  refine (szInt64S_any A2 n2 c2 left _ (by omega) (by omega) b2).mono ?_
  rintro e w' ⟨z2, rfl, hz2, hy2, hn2, hw⟩
  subst hw
  by_cases hneg2 : z2 < 0
  · go_wp2_with fail
    go_ret
    exact ⟨_, rfl, by omega, by omega, fun h => by omega, hbx⟩
  have hp2 : 0 ≤ z2 := by omega
  have hm2 := hn2 hp2
  clear hneg2 hn2
  go_wp2_with fail
  refine (szBoolS_any A3 n3 c3 z2 _ (by omega) (by omega) b3).mono ?_
  rintro e w' ⟨z3, rfl, hz3, hy3, hn3, hw⟩
  subst hw
  by_cases hneg3 : z3 < 0
  · go_wp2_with fail
    go_ret
    exact ⟨_, rfl, by omega, by omega, fun h => by omega, hbx⟩
  have hp3 : 0 ≤ z3 := by omega
  have hm3 := hn3 hp3
  clear hneg3 hn3
  go_wp2_with fail
  go_ret
  exact ⟨z3, rfl, by omega, by omega, fun h => ⟨hm2, hm3⟩, hbx⟩
/-- While a Plain is copied: the boxes of what came in, of the result, of the copy. -/
structure TPl (w x : World) (src out : List Value) : Prop where
  bel : Below w.heap.size w x
  src : Row x w.heap.size 56 src
  res : Row x (w.heap.size + 1) 33 [.int .i64 0, .int .i64 0, .slice none 0 0, .slice none 0 0]
  out : Row x (w.heap.size + 1 + 1) 33 out
  room : w.heap.size + 3 ≤ x.heap.size
theorem TPl.start (w : World) (src out : List Value) :
    TPl w (((w.alloc (.cells src.toArray 56)).alloc (.cells #[.int .i64 0, .int .i64 0, .slice none 0 0, .slice none 0 0] 33)).alloc (.cells out.toArray 33)) src out := by
  have s1 : (w.alloc (.cells src.toArray 56)).heap.size = w.heap.size + 1 := by simp
  have r1 := Row.new w 56 src
  have r2 := Row.new (w.alloc (.cells src.toArray 56)) 33 [.int .i64 0, .int .i64 0, .slice none 0 0, .slice none 0 0]
  rw [s1] at r2
  have r3 := Row.new ((w.alloc (.cells src.toArray 56)).alloc (.cells #[.int .i64 0, .int .i64 0, .slice none 0 0, .slice none 0 0] 33)) 33 out
  have s2 : ((w.alloc (.cells src.toArray 56)).alloc (.cells #[.int .i64 0, .int .i64 0, .slice none 0 0, .slice none 0 0] 33)).heap.size = w.heap.size + 1 + 1 := by simp
  rw [s2] at r3
  exact ⟨(((Below.refl _ _).alloc (Nat.le_refl _) _).alloc (by rw [s1]; omega) _).alloc (by rw [s2]; omega) _, (r1.alloc _).alloc _, r2.alloc _, r3, by simp⟩
theorem TPl.call {w x x' : World} {src out : List Value} (h : TPl w x src out) (hb : Below x.heap.size x x') : TPl w x' src out :=
  ⟨h.bel.trans (hb.mono h.bel.size), h.src.below hb h.src.lt, h.res.below hb h.res.lt, h.out.below hb h.out.lt, Nat.le_trans h.room hb.size⟩
theorem TPl.set {w x : World} {src out : List Value} (h : TPl w x src out) (q : Nat) (u : Value) : TPl w (x.setCell ⟨w.heap.size + 1 + 1, q, none⟩ u) src (out.set q u) :=
  ⟨h.bel.setCell (p := ⟨w.heap.size + 1 + 1, q, none⟩) (show w.heap.size ≤ w.heap.size + 1 + 1 by omega) u, h.src.far (show w.heap.size ≠ w.heap.size + 1 + 1 by omega) u, h.res.far (show w.heap.size + 1 ≠ w.heap.size + 1 + 1 by omega) u, h.out.set_ q u, by have := h.room; simpa using this⟩
set_option maxHeartbeats 2000000 in
theorem toPlain_any (v : Value) (S : Int) (T : Int) (P : List Int) (E : List Bool) (w : World) (h : Pl w w.heap.size v S T P E) (b2 : P.length ≤ 4294967296) (b3 : E.length ≤ 4294967296) :
    Calls Try.prog 29 #[v] w fun e w' => ∃ v', e = .returned v' ∧ PlR w' w.heap.size v' S T P E ∧ Below w.heap.size w w' := by
  obtain ⟨A2, n2, c2, A3, n3, c3, rfl, h2, h3⟩ := h
  have hn2 : P.length = n2 := h2.len
  rw [hn2] at b2
  have H2 := Lib.hid h2; have N2 := Lib.hid hn2; clear h2 hn2
  have hn3 : E.length = n3 := h3.len
  rw [hn3] at b3
  have H3 := Lib.hid h3; have N3 := Lib.hid hn3; clear h3 hn3
  go_enter Try.func29, Try.ntmps29
  go_wp2_with fail
  have t0 := TPl.start w [.int .i64 S, .int .i64 T, .slice A2 n2 c2, .slice A3 n3 c3] [(.int .i64 S), (.int .i64 T), (.slice none 0 0), (.slice none 0 0)]
  obtain ⟨x0, hx0⟩ : ∃ x, x = ((w.alloc (.cells ([.int .i64 S, .int .i64 T, .slice A2 n2 c2, .slice A3 n3 c3] : List Value).toArray 56)).alloc (.cells #[.int .i64 0, .int .i64 0, .slice none 0 0, .slice none 0 0] 33)).alloc (.cells ([(.int .i64 S), (.int .i64 T), (.slice none 0 0), (.slice none 0 0)] : List Value).toArray 33) := ⟨_, rfl⟩
  have t0 : TPl w x0 [.int .i64 S, .int .i64 T, .slice A2 n2 c2, .slice A3 n3 c3] [(.int .i64 S), (.int .i64 T), (.slice none 0 0), (.slice none 0 0)] := by rw [hx0]; exact t0
  change Calls _ _ _ (((w.alloc (.cells ([.int .i64 S, .int .i64 T, .slice A2 n2 c2, .slice A3 n3 c3] : List Value).toArray 56)).alloc (.cells #[.int .i64 0, .int .i64 0, .slice none 0 0, .slice none 0 0] 33)).alloc (.cells ([(.int .i64 S), (.int .i64 T), (.slice none 0 0), (.slice none 0 0)] : List Value).toArray 33)) _
  rw [← hx0]
  clear hx0
  refine (toInt64S_any A2 n2 c2 P x0 ((H2.out.below t0.bel (Nat.le_refl _)).more t0.bel.size) b2).mono ?_
  rintro e w1 ⟨g2, rfl, hg2, hr2, hb1⟩
  have T1 := t0.call hb1
  have t1 := T1.set 2 (.slice (some ⟨g2, 0, none⟩) n2 n2)
  have t1 : TPl w (w1.setCell ⟨w.heap.size + 1 + 1, 2, none⟩ (.slice (some ⟨g2, 0, none⟩) n2 n2)) [.int .i64 S, .int .i64 T, .slice A2 n2 c2, .slice A3 n3 c3] [(.int .i64 S), (.int .i64 T), (.slice (some ⟨g2, 0, none⟩) n2 n2), (.slice none 0 0)] := t1
  have a2 := T1.out.cell 2
  have f2 := T1.out.frozen 2
  have p2 : w.heap.size + 3 ≤ g2 := Nat.le_trans t0.room hg2
  have r2 : Hid (Row (w1.setCell ⟨w.heap.size + 1 + 1, 2, none⟩ (.slice (some ⟨g2, 0, none⟩) n2 n2)) g2 2 (iv P)) := Row.far hr2 (show g2 ≠ w.heap.size + 1 + 1 by omega) _
  have k2 : g2 < (w1.setCell ⟨w.heap.size + 1 + 1, 2, none⟩ (.slice (some ⟨g2, 0, none⟩) n2 n2)).heap.size := by have := hr2.lt; simpa using this
  clear hr2
  have b'2 := t1.src.cell 3
  go_wp2_with fail
  clear a2 f2 b'2 T1
  obtain ⟨x1, hx⟩ : ∃ x, x = (w1.setCell ⟨w.heap.size + 1 + 1, 2, none⟩ (.slice (some ⟨g2, 0, none⟩) n2 n2)) := ⟨_, rfl⟩
  rw [← hx] at t1 k2 ⊢ r2
  clear hx
  refine (toBoolS_any A3 n3 c3 E x1 ((H3.out.below t1.bel (Nat.le_refl _)).more t1.bel.size) b3).mono ?_
  rintro e w2 ⟨g3, rfl, hg3, hr3, hb2⟩
  have T2 := t1.call hb2
  have t2 := T2.set 3 (.slice (some ⟨g3, 0, none⟩) n3 n3)
  have t2 : TPl w (w2.setCell ⟨w.heap.size + 1 + 1, 3, none⟩ (.slice (some ⟨g3, 0, none⟩) n3 n3)) [.int .i64 S, .int .i64 T, .slice A2 n2 c2, .slice A3 n3 c3] [(.int .i64 S), (.int .i64 T), (.slice (some ⟨g2, 0, none⟩) n2 n2), (.slice (some ⟨g3, 0, none⟩) n3 n3)] := t2
  have a3 := T2.out.cell 3
  have f3 := T2.out.frozen 3
  have p3 : w.heap.size + 3 ≤ g3 := Nat.le_trans t1.room hg3
  have o3 : g2 < g3 := Nat.lt_of_lt_of_le k2 hg3
  have r2 : Hid (Row (w2.setCell ⟨w.heap.size + 1 + 1, 3, none⟩ (.slice (some ⟨g3, 0, none⟩) n3 n3)) g2 2 (iv P)) := Row.far (r2.out.below hb2 r2.out.lt) (show g2 ≠ w.heap.size + 1 + 1 by omega) _
  have r3 : Hid (Row (w2.setCell ⟨w.heap.size + 1 + 1, 3, none⟩ (.slice (some ⟨g3, 0, none⟩) n3 n3)) g3 4 (bv E)) := Row.far hr3 (show g3 ≠ w.heap.size + 1 + 1 by omega) _
  have k3 : g3 < (w2.setCell ⟨w.heap.size + 1 + 1, 3, none⟩ (.slice (some ⟨g3, 0, none⟩) n3 n3)).heap.size := by have := hr3.lt; simpa using this
  clear hr3
  have ou0 := t2.out.cell 0
  have re0 := t2.res.cell 0
  have rf0 := t2.res.frozen 0
  have ou1 := t2.out.cell 1
  have re1 := t2.res.cell 1
  have rf1 := t2.res.frozen 1
  have ou2 := t2.out.cell 2
  have re2 := t2.res.cell 2
  have rf2 := t2.res.frozen 2
  have ou3 := t2.out.cell 3
  have re3 := t2.res.cell 3
  have rf3 := t2.res.frozen 3
  go_wp2_with fail
  clear ou0 re0 rf0 ou1 re1 rf1 ou2 re2 rf2 ou3 re3 rf3
  have hF := ((((t2.res.set_ 0 (.int .i64 S)).set_ 1 (.int .i64 T)).set_ 2 (.slice (some ⟨g2, 0, none⟩) n2 n2)).set_ 3 (.slice (some ⟨g3, 0, none⟩) n3 n3))
  have hbF := ((((t2.bel.setCell (p := ⟨w.heap.size + 1, 0, none⟩) (show w.heap.size ≤ w.heap.size + 1 by omega) (.int .i64 S)).setCell (p := ⟨w.heap.size + 1, 1, none⟩) (show w.heap.size ≤ w.heap.size + 1 by omega) (.int .i64 T)).setCell (p := ⟨w.heap.size + 1, 2, none⟩) (show w.heap.size ≤ w.heap.size + 1 by omega) (.slice (some ⟨g2, 0, none⟩) n2 n2)).setCell (p := ⟨w.heap.size + 1, 3, none⟩) (show w.heap.size ≤ w.heap.size + 1 by omega) (.slice (some ⟨g3, 0, none⟩) n3 n3))
  have q2 := ((((r2.out.far (p := ⟨w.heap.size + 1, 0, none⟩) (show g2 ≠ w.heap.size + 1 by omega) (.int .i64 S)).far (p := ⟨w.heap.size + 1, 1, none⟩) (show g2 ≠ w.heap.size + 1 by omega) (.int .i64 T)).far (p := ⟨w.heap.size + 1, 2, none⟩) (show g2 ≠ w.heap.size + 1 by omega) (.slice (some ⟨g2, 0, none⟩) n2 n2)).far (p := ⟨w.heap.size + 1, 3, none⟩) (show g2 ≠ w.heap.size + 1 by omega) (.slice (some ⟨g3, 0, none⟩) n3 n3))
  have q3 := ((((r3.out.far (p := ⟨w.heap.size + 1, 0, none⟩) (show g3 ≠ w.heap.size + 1 by omega) (.int .i64 S)).far (p := ⟨w.heap.size + 1, 1, none⟩) (show g3 ≠ w.heap.size + 1 by omega) (.int .i64 T)).far (p := ⟨w.heap.size + 1, 2, none⟩) (show g3 ≠ w.heap.size + 1 by omega) (.slice (some ⟨g2, 0, none⟩) n2 n2)).far (p := ⟨w.heap.size + 1, 3, none⟩) (show g3 ≠ w.heap.size + 1 by omega) (.slice (some ⟨g3, 0, none⟩) n3 n3))
  (try simp only [Exit.inBlock, Exit.then])
  refine bodyPost_ret (results_cell_row rfl _ _ (w.heap.size + 1) 33 #[(.int .i64 S), (.int .i64 T), (.slice (some ⟨g2, 0, none⟩) n2 n2), (.slice (some ⟨g3, 0, none⟩) n3 n3)] (0, 0) _ rfl hF Try.underlying33 rfl (by kernel_rfl)) rfl ?_
  refine ⟨_, rfl, ⟨g2, g3, by rw [N2.out, N3.out], by omega, o3, q2, q3⟩, hbF⟩
set_option maxHeartbeats 2000000 in
theorem eqPlain_same (v v' : Value) (S : Int) (T : Int) (P : List Int) (E : List Bool) (w : World) (h : Pl w w.heap.size v S T P E) (h' : Pl w w.heap.size v' S T P E) (b2 : P.length ≤ 4294967296) (b3 : E.length ≤ 4294967296) :
    Calls Try.prog 22 #[v, v'] w fun e w' => e = .returned (.bool true) ∧ Below w.heap.size w w' := by
  obtain ⟨A2, n2, c2, A3, n3, c3, rfl, h2, h3⟩ := h
  obtain ⟨A2', n2', c2', A3', n3', c3', rfl, h2', h3'⟩ := h'
  have m2 : n2 ≤ 4294967296 := by have := h2.len; rw [← this]; exact b2
  have e2 : n2 = n2' := by have h1 := h2.len; have h2 := h2'.len; rw [← h1, ← h2]
  subst e2
  have H2 := Lib.hid h2; have H2' := Lib.hid h2'
  have m3 : n3 ≤ 4294967296 := by have := h3.len; rw [← this]; exact b3
  have e3 : n3 = n3' := by have h1 := h3.len; have h2 := h3'.len; rw [← h1, ← h2]
  subst e3
  have H3 := Lib.hid h3; have H3' := Lib.hid h3'
  clear h2 h2' b2 h3 h3' b3
  have ra := Lib.hid ((Row.new w 33 [.int .i64 S, .int .i64 T, .slice A2 n2 c2, .slice A3 n3 c3]).alloc (.cells ([.int .i64 S, .int .i64 T, .slice A2' n2 c2', .slice A3' n3 c3'] : List Value).toArray 33))
  have rb := Row.new (w.alloc (.cells ([.int .i64 S, .int .i64 T, .slice A2 n2 c2, .slice A3 n3 c3] : List Value).toArray 33)) 33 [.int .i64 S, .int .i64 T, .slice A2' n2 c2', .slice A3' n3 c3']
  rw [show (w.alloc (.cells ([.int .i64 S, .int .i64 T, .slice A2 n2 c2, .slice A3 n3 c3] : List Value).toArray 33)).heap.size = w.heap.size + 1 by simp] at rb
  have rb := Lib.hid rb
  have bx : Below w.heap.size w ((w.alloc (.cells ([.int .i64 S, .int .i64 T, .slice A2 n2 c2, .slice A3 n3 c3] : List Value).toArray 33)).alloc (.cells ([.int .i64 S, .int .i64 T, .slice A2' n2 c2', .slice A3' n3 c3'] : List Value).toArray 33)) := ((Below.refl _ _).alloc (Nat.le_refl _) _).alloc (by simp) _
  have BX := Lib.hid bx; clear bx
  go_enter Try.func22, Try.ntmps22
  go_wp2_with fail
  obtain ⟨x0, hx0⟩ : ∃ x, x = (w.alloc (.cells ([.int .i64 S, .int .i64 T, .slice A2 n2 c2, .slice A3 n3 c3] : List Value).toArray 33)).alloc (.cells ([.int .i64 S, .int .i64 T, .slice A2' n2 c2', .slice A3' n3 c3'] : List Value).toArray 33) := ⟨_, rfl⟩
  have ra : Hid (Row x0 w.heap.size 33 [.int .i64 S, .int .i64 T, .slice A2 n2 c2, .slice A3 n3 c3]) := by rw [hx0]; exact ra
  have rb : Hid (Row x0 (w.heap.size + 1) 33 [.int .i64 S, .int .i64 T, .slice A2' n2 c2', .slice A3' n3 c3']) := by rw [hx0]; exact rb
  have bx : Hid (Below w.heap.size w x0) := by rw [hx0]; exact BX
  change Calls _ _ _ ((w.alloc (.cells ([.int .i64 S, .int .i64 T, .slice A2 n2 c2, .slice A3 n3 c3] : List Value).toArray 33)).alloc (.cells ([.int .i64 S, .int .i64 T, .slice A2' n2 c2', .slice A3' n3 c3'] : List Value).toArray 33)) _
  rw [← hx0]
  clear hx0 BX
  refine (eqInt64S_same A2 n2 c2 A2' c2' P x0 (B := x0.heap.size) (B' := x0.heap.size) ((H2.out.below bx.out (Nat.le_refl _)).more bx.out.size) ((H2'.out.below bx.out (Nat.le_refl _)).more bx.out.size) m2).mono ?_
  rintro e w1 ⟨rfl, hb1⟩
  have ra : Hid (Row w1 w.heap.size 33 [.int .i64 S, .int .i64 T, .slice A2 n2 c2, .slice A3 n3 c3]) := ra.out.below hb1 ra.out.lt
  have rb : Hid (Row w1 (w.heap.size + 1) 33 [.int .i64 S, .int .i64 T, .slice A2' n2 c2', .slice A3' n3 c3']) := rb.out.below hb1 rb.out.lt
  have bx : Hid (Below w.heap.size w w1) := bx.out.trans (hb1.mono bx.out.size)
  clear hb1
  have ca3 := ra.out.cell 3
  have cb3 := rb.out.cell 3
  go_wp2_with fail
  clear ca3 cb3
  refine (eqBoolS_same A3 n3 c3 A3' c3' E w1 (B := w1.heap.size) (B' := w1.heap.size) ((H3.out.below bx.out (Nat.le_refl _)).more bx.out.size) ((H3'.out.below bx.out (Nat.le_refl _)).more bx.out.size) m3).mono ?_
  rintro e w2 ⟨rfl, hb2⟩
  have ra : Hid (Row w2 w.heap.size 33 [.int .i64 S, .int .i64 T, .slice A2 n2 c2, .slice A3 n3 c3]) := ra.out.below hb2 ra.out.lt
  have rb : Hid (Row w2 (w.heap.size + 1) 33 [.int .i64 S, .int .i64 T, .slice A2' n2 c2', .slice A3' n3 c3']) := rb.out.below hb2 rb.out.lt
  have bx : Hid (Below w.heap.size w w2) := bx.out.trans (hb2.mono bx.out.size)
  clear hb2
  go_wp2_with fail
  go_ret
  exact ⟨rfl, bx.out⟩
end Go.Proofs.Ytbdfbmohdbigfaa
