/- A Change (four lists of numbers): what the laws' helpers do with one. -/
import Derived.Test.YtcmnhnapnnpbdaaCp
import Derived.Test.YtcmnhnapnnpbdaaMk
import Derived.Test.YtcmnhnapnnpbdaaMkO
import Derived.Test.YtcmnhnapnnpbdaaKp
namespace Go.Proofs.Ytcmnhnapnnpbdaa
open Go.RowKit
set_option linter.unusedVariables false
abbrev B32 (n : Nat) : Prop := n ≤ 4294967296
/-- v is a Change that reads as four lists; its cells lie in blocks below B. -/
def Cg (w : World) (B : Nat) (v : Value) (L F G R : List Int) : Prop :=
  ∃ A0 n0 c0 A1 n1 c1 A2 n2 c2 A3 n3 c3, v = .agg #[.slice A0 n0 c0, .slice A1 n1 c1, .slice A2 n2 c2, .slice A3 n3 c3] ∧ SlI w B A0 n0 L ∧ SlI w B A1 n1 F ∧ SlI w B A2 n2 G ∧ SlI w B A3 n3 R
theorem Cg.below {w w' : World} {B B' : Nat} {v : Value} {L F G R : List Int} (h : Cg w B v L F G R) (hb : Below B' w w') (hB : B ≤ B') : Cg w' B v L F G R := by
  obtain ⟨A0, n0, c0, A1, n1, c1, A2, n2, c2, A3, n3, c3, e, h0, h1, h2, h3⟩ := h
  exact ⟨A0, n0, c0, A1, n1, c1, A2, n2, c2, A3, n3, c3, e, h0.below hb hB, h1.below hb hB, h2.below hb hB, h3.below hb hB⟩
theorem Cg.more {w : World} {B B' : Nat} {v : Value} {L F G R : List Int} (h : Cg w B v L F G R) (hB : B ≤ B') : Cg w B' v L F G R := by
  obtain ⟨A0, n0, c0, A1, n1, c1, A2, n2, c2, A3, n3, c3, e, h0, h1, h2, h3⟩ := h
  exact ⟨A0, n0, c0, A1, n1, c1, A2, n2, c2, A3, n3, c3, e, h0.more hB, h1.more hB, h2.more hB, h3.more hB⟩
/-- v is a Change of the call's own: four rows of their own, in this order. -/
def CgR (w : World) (base : Nat) (v : Value) (L F G R : List Int) : Prop :=
  ∃ g0 g1 g2 g3, v = .agg #[.slice (some ⟨g0, 0, none⟩) L.length L.length, .slice (some ⟨g1, 0, none⟩) F.length F.length, .slice (some ⟨g2, 0, none⟩) G.length G.length, .slice (some ⟨g3, 0, none⟩) R.length R.length] ∧
    base ≤ g0 ∧ g0 < g1 ∧ g1 < g2 ∧ g2 < g3 ∧ Row w g0 2 (iv L) ∧ Row w g1 2 (iv F) ∧ Row w g2 2 (iv G) ∧ Row w g3 2 (iv R)
theorem Row.slI {w : World} {g : Nat} {t : TypeId} {xs : List Int} (h : Row w g t (iv xs)) : SlI w w.heap.size (some ⟨g, 0, none⟩) xs.length xs := by
  have := h.sl; rw [iv_length] at this; exact this
theorem CgR.cg {w : World} {base : Nat} {v : Value} {L F G R : List Int} (h : CgR w base v L F G R) : Cg w w.heap.size v L F G R := by
  obtain ⟨g0, g1, g2, g3, e, _, _, _, _, h0, h1, h2, h3⟩ := h
  exact ⟨_, _, _, _, _, _, _, _, _, _, _, _, e, h0.slI, h1.slI, h2.slI, h3.slI⟩
theorem CgR.shape {w : World} {base : Nat} {v : Value} {L F G R : List Int} (h : CgR w base v L F G R) : ∃ g0 g1 g2 g3, v = .agg #[.slice (some ⟨g0, 0, none⟩) L.length L.length, .slice (some ⟨g1, 0, none⟩) F.length F.length, .slice (some ⟨g2, 0, none⟩) G.length G.length, .slice (some ⟨g3, 0, none⟩) R.length R.length] := by
  obtain ⟨g0, g1, g2, g3, e, _⟩ := h
  exact ⟨g0, g1, g2, g3, e⟩
theorem CgR.below {w w' : World} {base B : Nat} {v : Value} {L F G R : List Int} (h : CgR w base v L F G R) (hb : Below B w w') (hB : w.heap.size ≤ B) : CgR w' base v L F G R := by
  obtain ⟨g0, g1, g2, g3, e, q0, q1, q2, q3, h0, h1, h2, h3⟩ := h
  exact ⟨g0, g1, g2, g3, e, q0, q1, q2, q3, h0.below hb (Nat.lt_of_lt_of_le h0.lt hB), h1.below hb (Nat.lt_of_lt_of_le h1.lt hB), h2.below hb (Nat.lt_of_lt_of_le h2.lt hB), h3.below hb (Nat.lt_of_lt_of_le h3.lt hB)⟩

theorem SlI.al {w : World} {B : Nat} {A : Option Addr} {n : Nat} {xs : List Int} (h : SlI w B A n xs) (hB : B ≤ w.heap.size) (o : Obj) : SlI (w.alloc o) B A n xs := SlV.alloc h hB o
theorem szInt64S_any (A : Option Addr) (n c : Nat) (left : Int) (w : World) (h0 : 0 ≤ left) (h1 : left ≤ 1048576) (hn : n ≤ 9223372036854775807) :
    Calls Try.prog 49 #[.slice A n c, .int .i64 left] w fun e w' => ∃ z : Int, e = .returned (.int .i64 z) ∧ -1 ≤ z ∧ z ≤ 1048576 ∧ (0 ≤ z → n ≤ 1048576) ∧ w = w' := by
  have w1 : IntKind.i64.wrap (left - (n : Int)) = left - (n : Int) := IntWalk.i64_in _ (by omega)
  by_cases hb : left - (n : Int) < 0
  · go_enter Try.func49, Try.ntmps49
    go_wp2_with fail
    go_ret
    exact ⟨-1, rfl, by omega, by omega, fun h => by omega, rfl⟩
  · have hb' : (0 : Int) ≤ left - (n : Int) := by omega
    clear hb
    go_enter Try.func49, Try.ntmps49
    go_wp2_with fail
    go_ret
    exact ⟨left - (n : Int), rfl, by omega, by omega, fun h => by omega, rfl⟩
set_option maxHeartbeats 2000000 in
theorem szChange_any (v : Value) (L F G R : List Int) (left : Int) (w : World) (h : Cg w w.heap.size v L F G R) (h0 : 0 ≤ left) (h1 : left ≤ 1048576) (hL : L.length ≤ 9223372036854775807) (hF : F.length ≤ 9223372036854775807) (hG : G.length ≤ 9223372036854775807) (hR : R.length ≤ 9223372036854775807) :
    Calls Try.prog 14 #[v, .int .i64 left] w fun e w' => ∃ z : Int, e = .returned (.int .i64 z) ∧ -1 ≤ z ∧ z ≤ 1048576 ∧ (0 ≤ z → L.length ≤ 1048576 ∧ F.length ≤ 1048576 ∧ G.length ≤ 1048576 ∧ R.length ≤ 1048576) ∧ Below w.heap.size w w' := by
  obtain ⟨A0, n0, c0, A1, n1, c1, A2, n2, c2, A3, n3, c3, rfl, g0, g1, g2, g3⟩ := h
  have e0 : L.length = n0 := g0.len
  have e1 : F.length = n1 := g1.len
  have e2 : G.length = n2 := g2.len
  have e3 : R.length = n3 := g3.len
  rw [e0] at hL ⊢; rw [e1] at hF ⊢; rw [e2] at hG ⊢; rw [e3] at hR ⊢
  clear g0 g1 g2 g3 e0 e1 e2 e3
  have hbx : Below w.heap.size w (w.alloc (.cells #[.slice A0 n0 c0, .slice A1 n1 c1, .slice A2 n2 c2, .slice A3 n3 c3] 24)) := (Below.refl _ _).alloc (Nat.le_refl _) _
  go_enter Try.func14, Try.ntmps14
  go_wp2_with fail
  refine (szInt64S_any A0 n0 c0 left _ (by omega) (by omega) hL).mono ?_
  rintro e w' ⟨z0, rfl, hz0, hy0, hn0, hw⟩
  subst hw
  by_cases hneg0 : z0 < 0
  · go_wp2_with fail
    go_ret
    exact ⟨_, rfl, by omega, by omega, fun h => by omega, hbx⟩
  have hp0 : 0 ≤ z0 := by omega
  have hm0 := hn0 hp0
  clear hneg0 hn0
  go_wp2_with fail
  refine (szInt64S_any A1 n1 c1 z0 _ (by omega) (by omega) hF).mono ?_
  rintro e w' ⟨z1, rfl, hz1, hy1, hn1, hw⟩
  subst hw
  by_cases hneg1 : z1 < 0
  · go_wp2_with fail
    go_ret
    exact ⟨_, rfl, by omega, by omega, fun h => by omega, hbx⟩
  have hp1 : 0 ≤ z1 := by omega
  have hm1 := hn1 hp1
  clear hneg1 hn1
  go_wp2_with fail
  refine (szInt64S_any A2 n2 c2 z1 _ (by omega) (by omega) hG).mono ?_
  rintro e w' ⟨z2, rfl, hz2, hy2, hn2, hw⟩
  subst hw
  by_cases hneg2 : z2 < 0
  · go_wp2_with fail
    go_ret
    exact ⟨_, rfl, by omega, by omega, fun h => by omega, hbx⟩
  have hp2 : 0 ≤ z2 := by omega
  have hm2 := hn2 hp2
  clear hneg2 hn2
  go_wp2_with fail
  refine (szInt64S_any A3 n3 c3 z2 _ (by omega) (by omega) hR).mono ?_
  rintro e w' ⟨z3, rfl, hz3, hy3, hn3, hw⟩
  subst hw
  by_cases hneg3 : z3 < 0
  · go_wp2_with fail
    go_ret
    exact ⟨_, rfl, by omega, by omega, fun h => by omega, hbx⟩
  have hp3 : 0 ≤ z3 := by omega
  have hm3 := hn3 hp3
  clear hneg3 hn3
  go_wp2_with fail
  go_ret
  exact ⟨z3, rfl, by omega, by omega, fun h => ⟨hm0, hm1, hm2, hm3⟩, hbx⟩
/-- While a Change is copied: the boxes of what came in, of the result, of the copy. -/
structure TC (w x : World) (src out : List Value) : Prop where
  bel : Below w.heap.size w x
  src : Row x w.heap.size 24 src
  res : Row x (w.heap.size + 1) 27 [.slice none 0 0, .slice none 0 0, .slice none 0 0, .slice none 0 0]
  out : Row x (w.heap.size + 1 + 1) 27 out
  room : w.heap.size + 3 ≤ x.heap.size
theorem TC.start (w : World) (src out : List Value) (hn : out = [.slice none 0 0, .slice none 0 0, .slice none 0 0, .slice none 0 0] := by rfl) :
    TC w (((w.alloc (.cells src.toArray 24)).alloc (.cells #[.slice none 0 0, .slice none 0 0, .slice none 0 0, .slice none 0 0] 27)).alloc (.cells out.toArray 27)) src out := by
  have s1 : (w.alloc (.cells src.toArray 24)).heap.size = w.heap.size + 1 := by simp
  have r1 := Row.new w 24 src
  have r2 := Row.new (w.alloc (.cells src.toArray 24)) 27 [.slice none 0 0, .slice none 0 0, .slice none 0 0, .slice none 0 0]
  rw [s1] at r2
  have r3 := Row.new ((w.alloc (.cells src.toArray 24)).alloc (.cells #[.slice none 0 0, .slice none 0 0, .slice none 0 0, .slice none 0 0] 27)) 27 out
  have s2 : ((w.alloc (.cells src.toArray 24)).alloc (.cells #[.slice none 0 0, .slice none 0 0, .slice none 0 0, .slice none 0 0] 27)).heap.size = w.heap.size + 1 + 1 := by simp
  rw [s2] at r3
  exact ⟨(((Below.refl _ _).alloc (Nat.le_refl _) _).alloc (by rw [s1]; omega) _).alloc (by rw [s2]; omega) _, (r1.alloc _).alloc _, r2.alloc _, r3, by simp⟩
theorem TC.call {w x x' : World} {src out : List Value} (h : TC w x src out) (hb : Below x.heap.size x x') : TC w x' src out :=
  ⟨h.bel.trans (hb.mono h.bel.size), h.src.below hb h.src.lt, h.res.below hb h.res.lt, h.out.below hb h.out.lt, Nat.le_trans h.room hb.size⟩
theorem TC.set {w x : World} {src out : List Value} (h : TC w x src out) (q : Nat) (u : Value) : TC w (x.setCell ⟨w.heap.size + 1 + 1, q, none⟩ u) src (out.set q u) :=
  ⟨h.bel.setCell (p := ⟨w.heap.size + 1 + 1, q, none⟩) (show w.heap.size ≤ w.heap.size + 1 + 1 by omega) u, h.src.far (show w.heap.size ≠ w.heap.size + 1 + 1 by omega) u, h.res.far (show w.heap.size + 1 ≠ w.heap.size + 1 + 1 by omega) u, h.out.set_ q u, by have := h.room; simpa using this⟩
set_option maxHeartbeats 2000000 in
theorem toChange_any (v : Value) (L F G R : List Int) (w : World) (h : Cg w w.heap.size v L F G R) (hL : B32 L.length) (hF : B32 F.length) (hG : B32 G.length) (hR : B32 R.length) :
    Calls Try.prog 16 #[v] w fun e w' => ∃ v', e = .returned v' ∧ CgR w' w.heap.size v' L F G R ∧ Below w.heap.size w w' := by
  obtain ⟨A0, n0, c0, A1, n1, c1, A2, n2, c2, A3, n3, c3, rfl, h0, h1, h2, h3⟩ := h
  have hn0 : L.length = n0 := h0.len
  have hn1 : F.length = n1 := h1.len
  have hn2 : G.length = n2 := h2.len
  have hn3 : R.length = n3 := h3.len
  rw [hn0] at hL; rw [hn1] at hF; rw [hn2] at hG; rw [hn3] at hR
  have H0 := Lib.hid h0; have H1 := Lib.hid h1; have H2 := Lib.hid h2; have H3 := Lib.hid h3
  have N0 := Lib.hid hn0; have N1 := Lib.hid hn1; have N2 := Lib.hid hn2; have N3 := Lib.hid hn3
  clear h0 h1 h2 h3 hn0 hn1 hn2 hn3
  go_enter Try.func16, Try.ntmps16
  go_wp2_with fail
  have t0 := TC.start w [.slice A0 n0 c0, .slice A1 n1 c1, .slice A2 n2 c2, .slice A3 n3 c3] [.slice none 0 0, .slice none 0 0, .slice none 0 0, .slice none 0 0]
  obtain ⟨x0, hx0⟩ : ∃ x, x = ((w.alloc (.cells #[.slice A0 n0 c0, .slice A1 n1 c1, .slice A2 n2 c2, .slice A3 n3 c3] 24)).alloc (.cells #[.slice none 0 0, .slice none 0 0, .slice none 0 0, .slice none 0 0] 27)).alloc (.cells #[.slice none 0 0, .slice none 0 0, .slice none 0 0, .slice none 0 0] 27) := ⟨_, rfl⟩
  have t0 : TC w x0 [.slice A0 n0 c0, .slice A1 n1 c1, .slice A2 n2 c2, .slice A3 n3 c3] [.slice none 0 0, .slice none 0 0, .slice none 0 0, .slice none 0 0] := by rw [hx0]; exact t0
  rw [← hx0]
  clear hx0
  refine (toInt64S_any A0 n0 c0 L x0 ((H0.out.below t0.bel (Nat.le_refl _)).more t0.bel.size) hL).mono ?_
  rintro e w1 ⟨g0, rfl, hg0, hr0, hb1⟩
  have T1 := t0.call hb1
  have t1 := T1.set 0 (.slice (some ⟨g0, 0, none⟩) n0 n0)
  have t1 : TC w (w1.setCell ⟨w.heap.size + 1 + 1, 0, none⟩ (.slice (some ⟨g0, 0, none⟩) n0 n0)) [.slice A0 n0 c0, .slice A1 n1 c1, .slice A2 n2 c2, .slice A3 n3 c3] [(.slice (some ⟨g0, 0, none⟩) n0 n0), (.slice none 0 0), (.slice none 0 0), (.slice none 0 0)] := t1
  have a0 := T1.out.cell 0
  have f0 := T1.out.frozen 0
  have p0 : w.heap.size + 3 ≤ g0 := Nat.le_trans t0.room hg0
  have r0 : Hid (Row (w1.setCell ⟨w.heap.size + 1 + 1, 0, none⟩ (.slice (some ⟨g0, 0, none⟩) n0 n0)) g0 2 (iv L)) := Row.far hr0 (show g0 ≠ w.heap.size + 1 + 1 by omega) _
  have k0 : g0 < (w1.setCell ⟨w.heap.size + 1 + 1, 0, none⟩ (.slice (some ⟨g0, 0, none⟩) n0 n0)).heap.size := by have := hr0.lt; simpa using this
  clear hr0
  have b0 := t1.src.cell 1
  go_wp2_with fail
  clear a0 f0 b0 T1
  obtain ⟨x1, hx⟩ : ∃ x, x = (w1.setCell ⟨w.heap.size + 1 + 1, 0, none⟩ (.slice (some ⟨g0, 0, none⟩) n0 n0)) := ⟨_, rfl⟩
  rw [← hx] at t1 k0 ⊢ r0
  clear hx
  refine (toInt64S_any A1 n1 c1 F x1 ((H1.out.below t1.bel (Nat.le_refl _)).more t1.bel.size) hF).mono ?_
  rintro e w2 ⟨g1, rfl, hg1, hr1, hb2⟩
  have T2 := t1.call hb2
  have t2 := T2.set 1 (.slice (some ⟨g1, 0, none⟩) n1 n1)
  have t2 : TC w (w2.setCell ⟨w.heap.size + 1 + 1, 1, none⟩ (.slice (some ⟨g1, 0, none⟩) n1 n1)) [.slice A0 n0 c0, .slice A1 n1 c1, .slice A2 n2 c2, .slice A3 n3 c3] [(.slice (some ⟨g0, 0, none⟩) n0 n0), (.slice (some ⟨g1, 0, none⟩) n1 n1), (.slice none 0 0), (.slice none 0 0)] := t2
  have a1 := T2.out.cell 1
  have f1 := T2.out.frozen 1
  have p1 : w.heap.size + 3 ≤ g1 := Nat.le_trans t1.room hg1
  have o1 : g0 < g1 := Nat.lt_of_lt_of_le k0 hg1
  have r0 : Hid (Row (w2.setCell ⟨w.heap.size + 1 + 1, 1, none⟩ (.slice (some ⟨g1, 0, none⟩) n1 n1)) g0 2 (iv L)) := Row.far (r0.out.below hb2 r0.out.lt) (show g0 ≠ w.heap.size + 1 + 1 by omega) _
  have r1 : Hid (Row (w2.setCell ⟨w.heap.size + 1 + 1, 1, none⟩ (.slice (some ⟨g1, 0, none⟩) n1 n1)) g1 2 (iv F)) := Row.far hr1 (show g1 ≠ w.heap.size + 1 + 1 by omega) _
  have k1 : g1 < (w2.setCell ⟨w.heap.size + 1 + 1, 1, none⟩ (.slice (some ⟨g1, 0, none⟩) n1 n1)).heap.size := by have := hr1.lt; simpa using this
  clear hr1
  have b1 := t2.src.cell 2
  go_wp2_with fail
  clear a1 f1 b1 T2
  obtain ⟨x2, hx⟩ : ∃ x, x = (w2.setCell ⟨w.heap.size + 1 + 1, 1, none⟩ (.slice (some ⟨g1, 0, none⟩) n1 n1)) := ⟨_, rfl⟩
  rw [← hx] at t2 k1 ⊢ r0 r1
  clear hx
  refine (toInt64S_any A2 n2 c2 G x2 ((H2.out.below t2.bel (Nat.le_refl _)).more t2.bel.size) hG).mono ?_
  rintro e w3 ⟨g2, rfl, hg2, hr2, hb3⟩
  have T3 := t2.call hb3
  have t3 := T3.set 2 (.slice (some ⟨g2, 0, none⟩) n2 n2)
  have t3 : TC w (w3.setCell ⟨w.heap.size + 1 + 1, 2, none⟩ (.slice (some ⟨g2, 0, none⟩) n2 n2)) [.slice A0 n0 c0, .slice A1 n1 c1, .slice A2 n2 c2, .slice A3 n3 c3] [(.slice (some ⟨g0, 0, none⟩) n0 n0), (.slice (some ⟨g1, 0, none⟩) n1 n1), (.slice (some ⟨g2, 0, none⟩) n2 n2), (.slice none 0 0)] := t3
  have a2 := T3.out.cell 2
  have f2 := T3.out.frozen 2
  have p2 : w.heap.size + 3 ≤ g2 := Nat.le_trans t2.room hg2
  have o2 : g1 < g2 := Nat.lt_of_lt_of_le k1 hg2
  have r0 : Hid (Row (w3.setCell ⟨w.heap.size + 1 + 1, 2, none⟩ (.slice (some ⟨g2, 0, none⟩) n2 n2)) g0 2 (iv L)) := Row.far (r0.out.below hb3 r0.out.lt) (show g0 ≠ w.heap.size + 1 + 1 by omega) _
  have r1 : Hid (Row (w3.setCell ⟨w.heap.size + 1 + 1, 2, none⟩ (.slice (some ⟨g2, 0, none⟩) n2 n2)) g1 2 (iv F)) := Row.far (r1.out.below hb3 r1.out.lt) (show g1 ≠ w.heap.size + 1 + 1 by omega) _
  have r2 : Hid (Row (w3.setCell ⟨w.heap.size + 1 + 1, 2, none⟩ (.slice (some ⟨g2, 0, none⟩) n2 n2)) g2 2 (iv G)) := Row.far hr2 (show g2 ≠ w.heap.size + 1 + 1 by omega) _
  have k2 : g2 < (w3.setCell ⟨w.heap.size + 1 + 1, 2, none⟩ (.slice (some ⟨g2, 0, none⟩) n2 n2)).heap.size := by have := hr2.lt; simpa using this
  clear hr2
  have b2 := t3.src.cell 3
  go_wp2_with fail
  clear a2 f2 b2 T3
  obtain ⟨x3, hx⟩ : ∃ x, x = (w3.setCell ⟨w.heap.size + 1 + 1, 2, none⟩ (.slice (some ⟨g2, 0, none⟩) n2 n2)) := ⟨_, rfl⟩
  rw [← hx] at t3 k2 ⊢ r0 r1 r2
  clear hx
  refine (toInt64S_any A3 n3 c3 R x3 ((H3.out.below t3.bel (Nat.le_refl _)).more t3.bel.size) hR).mono ?_
  rintro e w4 ⟨g3, rfl, hg3, hr3, hb4⟩
  have T4 := t3.call hb4
  have t4 := T4.set 3 (.slice (some ⟨g3, 0, none⟩) n3 n3)
  have t4 : TC w (w4.setCell ⟨w.heap.size + 1 + 1, 3, none⟩ (.slice (some ⟨g3, 0, none⟩) n3 n3)) [.slice A0 n0 c0, .slice A1 n1 c1, .slice A2 n2 c2, .slice A3 n3 c3] [(.slice (some ⟨g0, 0, none⟩) n0 n0), (.slice (some ⟨g1, 0, none⟩) n1 n1), (.slice (some ⟨g2, 0, none⟩) n2 n2), (.slice (some ⟨g3, 0, none⟩) n3 n3)] := t4
  have a3 := T4.out.cell 3
  have f3 := T4.out.frozen 3
  have p3 : w.heap.size + 3 ≤ g3 := Nat.le_trans t3.room hg3
  have o3 : g2 < g3 := Nat.lt_of_lt_of_le k2 hg3
  have r0 : Hid (Row (w4.setCell ⟨w.heap.size + 1 + 1, 3, none⟩ (.slice (some ⟨g3, 0, none⟩) n3 n3)) g0 2 (iv L)) := Row.far (r0.out.below hb4 r0.out.lt) (show g0 ≠ w.heap.size + 1 + 1 by omega) _
  have r1 : Hid (Row (w4.setCell ⟨w.heap.size + 1 + 1, 3, none⟩ (.slice (some ⟨g3, 0, none⟩) n3 n3)) g1 2 (iv F)) := Row.far (r1.out.below hb4 r1.out.lt) (show g1 ≠ w.heap.size + 1 + 1 by omega) _
  have r2 : Hid (Row (w4.setCell ⟨w.heap.size + 1 + 1, 3, none⟩ (.slice (some ⟨g3, 0, none⟩) n3 n3)) g2 2 (iv G)) := Row.far (r2.out.below hb4 r2.out.lt) (show g2 ≠ w.heap.size + 1 + 1 by omega) _
  have r3 : Hid (Row (w4.setCell ⟨w.heap.size + 1 + 1, 3, none⟩ (.slice (some ⟨g3, 0, none⟩) n3 n3)) g3 2 (iv R)) := Row.far hr3 (show g3 ≠ w.heap.size + 1 + 1 by omega) _
  have k3 : g3 < (w4.setCell ⟨w.heap.size + 1 + 1, 3, none⟩ (.slice (some ⟨g3, 0, none⟩) n3 n3)).heap.size := by have := hr3.lt; simpa using this
  clear hr3
  have ou0 := t4.out.cell 0
  have re0 := t4.res.cell 0
  have rf0 := t4.res.frozen 0
  have ou1 := t4.out.cell 1
  have re1 := t4.res.cell 1
  have rf1 := t4.res.frozen 1
  have ou2 := t4.out.cell 2
  have re2 := t4.res.cell 2
  have rf2 := t4.res.frozen 2
  have ou3 := t4.out.cell 3
  have re3 := t4.res.cell 3
  have rf3 := t4.res.frozen 3
  go_wp2_with fail
  clear ou0 re0 rf0 ou1 re1 rf1 ou2 re2 rf2 ou3 re3 rf3
  have hF := (((t4.res.set_ 0 (.slice (some ⟨g0, 0, none⟩) n0 n0)).set_ 1 (.slice (some ⟨g1, 0, none⟩) n1 n1)).set_ 2 (.slice (some ⟨g2, 0, none⟩) n2 n2)).set_ 3 (.slice (some ⟨g3, 0, none⟩) n3 n3)
  have hbF := (((t4.bel.setCell (p := ⟨w.heap.size + 1, 0, none⟩) (show w.heap.size ≤ w.heap.size + 1 by omega) (.slice (some ⟨g0, 0, none⟩) n0 n0)).setCell (p := ⟨w.heap.size + 1, 1, none⟩) (show w.heap.size ≤ w.heap.size + 1 by omega) (.slice (some ⟨g1, 0, none⟩) n1 n1)).setCell (p := ⟨w.heap.size + 1, 2, none⟩) (show w.heap.size ≤ w.heap.size + 1 by omega) (.slice (some ⟨g2, 0, none⟩) n2 n2)).setCell (p := ⟨w.heap.size + 1, 3, none⟩) (show w.heap.size ≤ w.heap.size + 1 by omega) (.slice (some ⟨g3, 0, none⟩) n3 n3)
  have q0 := (((r0.out.far (p := ⟨w.heap.size + 1, 0, none⟩) (show g0 ≠ w.heap.size + 1 by omega) (.slice (some ⟨g0, 0, none⟩) n0 n0)).far (p := ⟨w.heap.size + 1, 1, none⟩) (show g0 ≠ w.heap.size + 1 by omega) (.slice (some ⟨g1, 0, none⟩) n1 n1)).far (p := ⟨w.heap.size + 1, 2, none⟩) (show g0 ≠ w.heap.size + 1 by omega) (.slice (some ⟨g2, 0, none⟩) n2 n2)).far (p := ⟨w.heap.size + 1, 3, none⟩) (show g0 ≠ w.heap.size + 1 by omega) (.slice (some ⟨g3, 0, none⟩) n3 n3)
  have q1 := (((r1.out.far (p := ⟨w.heap.size + 1, 0, none⟩) (show g1 ≠ w.heap.size + 1 by omega) (.slice (some ⟨g0, 0, none⟩) n0 n0)).far (p := ⟨w.heap.size + 1, 1, none⟩) (show g1 ≠ w.heap.size + 1 by omega) (.slice (some ⟨g1, 0, none⟩) n1 n1)).far (p := ⟨w.heap.size + 1, 2, none⟩) (show g1 ≠ w.heap.size + 1 by omega) (.slice (some ⟨g2, 0, none⟩) n2 n2)).far (p := ⟨w.heap.size + 1, 3, none⟩) (show g1 ≠ w.heap.size + 1 by omega) (.slice (some ⟨g3, 0, none⟩) n3 n3)
  have q2 := (((r2.out.far (p := ⟨w.heap.size + 1, 0, none⟩) (show g2 ≠ w.heap.size + 1 by omega) (.slice (some ⟨g0, 0, none⟩) n0 n0)).far (p := ⟨w.heap.size + 1, 1, none⟩) (show g2 ≠ w.heap.size + 1 by omega) (.slice (some ⟨g1, 0, none⟩) n1 n1)).far (p := ⟨w.heap.size + 1, 2, none⟩) (show g2 ≠ w.heap.size + 1 by omega) (.slice (some ⟨g2, 0, none⟩) n2 n2)).far (p := ⟨w.heap.size + 1, 3, none⟩) (show g2 ≠ w.heap.size + 1 by omega) (.slice (some ⟨g3, 0, none⟩) n3 n3)
  have q3 := (((r3.out.far (p := ⟨w.heap.size + 1, 0, none⟩) (show g3 ≠ w.heap.size + 1 by omega) (.slice (some ⟨g0, 0, none⟩) n0 n0)).far (p := ⟨w.heap.size + 1, 1, none⟩) (show g3 ≠ w.heap.size + 1 by omega) (.slice (some ⟨g1, 0, none⟩) n1 n1)).far (p := ⟨w.heap.size + 1, 2, none⟩) (show g3 ≠ w.heap.size + 1 by omega) (.slice (some ⟨g2, 0, none⟩) n2 n2)).far (p := ⟨w.heap.size + 1, 3, none⟩) (show g3 ≠ w.heap.size + 1 by omega) (.slice (some ⟨g3, 0, none⟩) n3 n3)
  (try simp only [Exit.inBlock, Exit.then])
  refine bodyPost_ret (results_cell_row rfl _ _ (w.heap.size + 1) 27 #[(.slice (some ⟨g0, 0, none⟩) n0 n0), (.slice (some ⟨g1, 0, none⟩) n1 n1), (.slice (some ⟨g2, 0, none⟩) n2 n2), (.slice (some ⟨g3, 0, none⟩) n3 n3)] (0, 0) _ rfl hF Try.underlying27 rfl (by kernel_rfl)) rfl ?_
  refine ⟨_, rfl, ⟨g0, g1, g2, g3, by rw [N0.out, N1.out, N2.out, N3.out], by omega, o1, o2, o3, q0, q1, q2, q3⟩, hbF⟩
set_option maxHeartbeats 2000000 in
theorem eqChange_same (v v' : Value) (L F G R : List Int) (w : World) (h : Cg w w.heap.size v L F G R) (h' : Cg w w.heap.size v' L F G R) (hL : B32 L.length) (hF : B32 F.length) (hG : B32 G.length) (hR : B32 R.length) :
    Calls Try.prog 18 #[v, v'] w fun e w' => e = .returned (.bool true) ∧ Below w.heap.size w w' := by
  obtain ⟨A0, n0, c0, A1, n1, c1, A2, n2, c2, A3, n3, c3, rfl, h0, h1, h2, h3⟩ := h
  obtain ⟨A0', n0', c0', A1', n1', c1', A2', n2', c2', A3', n3', c3', rfl, h0', h1', h2', h3'⟩ := h'
  have m0 : n0 ≤ 4294967296 := by have := h0.len; rw [← this]; exact hL
  have m0' : n0' ≤ 4294967296 := by have := h0'.len; rw [← this]; exact hL
  have d0 : decide (L = L) = true := decide_eq_true rfl
  have H0 := Lib.hid h0; have H0' := Lib.hid h0'
  have m1 : n1 ≤ 4294967296 := by have := h1.len; rw [← this]; exact hF
  have m1' : n1' ≤ 4294967296 := by have := h1'.len; rw [← this]; exact hF
  have d1 : decide (F = F) = true := decide_eq_true rfl
  have H1 := Lib.hid h1; have H1' := Lib.hid h1'
  have m2 : n2 ≤ 4294967296 := by have := h2.len; rw [← this]; exact hG
  have m2' : n2' ≤ 4294967296 := by have := h2'.len; rw [← this]; exact hG
  have d2 : decide (G = G) = true := decide_eq_true rfl
  have H2 := Lib.hid h2; have H2' := Lib.hid h2'
  have m3 : n3 ≤ 4294967296 := by have := h3.len; rw [← this]; exact hR
  have m3' : n3' ≤ 4294967296 := by have := h3'.len; rw [← this]; exact hR
  have d3 : decide (R = R) = true := decide_eq_true rfl
  have H3 := Lib.hid h3; have H3' := Lib.hid h3'
  clear h0 h1 h2 h3 h0' h1' h2' h3' hL hF hG hR
  have ra := Lib.hid ((Row.new w 27 [.slice A0 n0 c0, .slice A1 n1 c1, .slice A2 n2 c2, .slice A3 n3 c3]).alloc (.cells ([.slice A0' n0' c0', .slice A1' n1' c1', .slice A2' n2' c2', .slice A3' n3' c3'] : List Value).toArray 27))
  have rb := Row.new (w.alloc (.cells ([.slice A0 n0 c0, .slice A1 n1 c1, .slice A2 n2 c2, .slice A3 n3 c3] : List Value).toArray 27)) 27 [.slice A0' n0' c0', .slice A1' n1' c1', .slice A2' n2' c2', .slice A3' n3' c3']
  rw [show (w.alloc (.cells ([.slice A0 n0 c0, .slice A1 n1 c1, .slice A2 n2 c2, .slice A3 n3 c3] : List Value).toArray 27)).heap.size = w.heap.size + 1 by simp] at rb
  have rb := Lib.hid rb
  have bx : Below w.heap.size w ((w.alloc (.cells ([.slice A0 n0 c0, .slice A1 n1 c1, .slice A2 n2 c2, .slice A3 n3 c3] : List Value).toArray 27)).alloc (.cells ([.slice A0' n0' c0', .slice A1' n1' c1', .slice A2' n2' c2', .slice A3' n3' c3'] : List Value).toArray 27)) := ((Below.refl _ _).alloc (Nat.le_refl _) _).alloc (by simp) _
  have BX := Lib.hid bx; clear bx
  go_enter Try.func18, Try.ntmps18
  go_wp2_with fail
  obtain ⟨x0, hx0⟩ : ∃ x, x = (w.alloc (.cells ([.slice A0 n0 c0, .slice A1 n1 c1, .slice A2 n2 c2, .slice A3 n3 c3] : List Value).toArray 27)).alloc (.cells ([.slice A0' n0' c0', .slice A1' n1' c1', .slice A2' n2' c2', .slice A3' n3' c3'] : List Value).toArray 27) := ⟨_, rfl⟩
  have ra : Hid (Row x0 w.heap.size 27 [.slice A0 n0 c0, .slice A1 n1 c1, .slice A2 n2 c2, .slice A3 n3 c3]) := by rw [hx0]; exact ra
  have rb : Hid (Row x0 (w.heap.size + 1) 27 [.slice A0' n0' c0', .slice A1' n1' c1', .slice A2' n2' c2', .slice A3' n3' c3']) := by rw [hx0]; exact rb
  have bx : Hid (Below w.heap.size w x0) := by rw [hx0]; exact BX
  change Calls _ _ _ ((w.alloc (.cells ([.slice A0 n0 c0, .slice A1 n1 c1, .slice A2 n2 c2, .slice A3 n3 c3] : List Value).toArray 27)).alloc (.cells ([.slice A0' n0' c0', .slice A1' n1' c1', .slice A2' n2' c2', .slice A3' n3' c3'] : List Value).toArray 27)) _
  rw [← hx0]
  clear hx0 BX
  refine (eqInt64S_any A0 n0 c0 L A0' n0' c0' L x0 _ _ (H0.out.below bx.out (Nat.le_refl _)) (H0'.out.below bx.out (Nat.le_refl _)) m0 m0').mono ?_
  rintro e w1 ⟨rfl, hb1⟩
  have ra : Hid (Row w1 w.heap.size 27 [.slice A0 n0 c0, .slice A1 n1 c1, .slice A2 n2 c2, .slice A3 n3 c3]) := ra.out.below hb1 ra.out.lt
  have rb : Hid (Row w1 (w.heap.size + 1) 27 [.slice A0' n0' c0', .slice A1' n1' c1', .slice A2' n2' c2', .slice A3' n3' c3']) := rb.out.below hb1 rb.out.lt
  have bx : Hid (Below w.heap.size w w1) := bx.out.trans (hb1.mono bx.out.size)
  clear hb1
  have ca1 := ra.out.cell 1
  have cb1 := rb.out.cell 1
  go_wp2_with fail
  clear ca1 cb1
  refine (eqInt64S_any A1 n1 c1 F A1' n1' c1' F w1 _ _ (H1.out.below bx.out (Nat.le_refl _)) (H1'.out.below bx.out (Nat.le_refl _)) m1 m1').mono ?_
  rintro e w2 ⟨rfl, hb2⟩
  have ra : Hid (Row w2 w.heap.size 27 [.slice A0 n0 c0, .slice A1 n1 c1, .slice A2 n2 c2, .slice A3 n3 c3]) := ra.out.below hb2 ra.out.lt
  have rb : Hid (Row w2 (w.heap.size + 1) 27 [.slice A0' n0' c0', .slice A1' n1' c1', .slice A2' n2' c2', .slice A3' n3' c3']) := rb.out.below hb2 rb.out.lt
  have bx : Hid (Below w.heap.size w w2) := bx.out.trans (hb2.mono bx.out.size)
  clear hb2
  have ca2 := ra.out.cell 2
  have cb2 := rb.out.cell 2
  go_wp2_with fail
  clear ca2 cb2
  refine (eqInt64S_any A2 n2 c2 G A2' n2' c2' G w2 _ _ (H2.out.below bx.out (Nat.le_refl _)) (H2'.out.below bx.out (Nat.le_refl _)) m2 m2').mono ?_
  rintro e w3 ⟨rfl, hb3⟩
  have ra : Hid (Row w3 w.heap.size 27 [.slice A0 n0 c0, .slice A1 n1 c1, .slice A2 n2 c2, .slice A3 n3 c3]) := ra.out.below hb3 ra.out.lt
  have rb : Hid (Row w3 (w.heap.size + 1) 27 [.slice A0' n0' c0', .slice A1' n1' c1', .slice A2' n2' c2', .slice A3' n3' c3']) := rb.out.below hb3 rb.out.lt
  have bx : Hid (Below w.heap.size w w3) := bx.out.trans (hb3.mono bx.out.size)
  clear hb3
  have ca3 := ra.out.cell 3
  have cb3 := rb.out.cell 3
  go_wp2_with fail
  clear ca3 cb3
  refine (eqInt64S_any A3 n3 c3 R A3' n3' c3' R w3 _ _ (H3.out.below bx.out (Nat.le_refl _)) (H3'.out.below bx.out (Nat.le_refl _)) m3 m3').mono ?_
  rintro e w4 ⟨rfl, hb4⟩
  have ra : Hid (Row w4 w.heap.size 27 [.slice A0 n0 c0, .slice A1 n1 c1, .slice A2 n2 c2, .slice A3 n3 c3]) := ra.out.below hb4 ra.out.lt
  have rb : Hid (Row w4 (w.heap.size + 1) 27 [.slice A0' n0' c0', .slice A1' n1' c1', .slice A2' n2' c2', .slice A3' n3' c3']) := rb.out.below hb4 rb.out.lt
  have bx : Hid (Below w.heap.size w w4) := bx.out.trans (hb4.mono bx.out.size)
  clear hb4
  go_wp2_with fail
  go_ret
  exact ⟨rfl, bx.out⟩
/-- v is a Change of four rows between blocks lo and hi. -/
def CgM (w : World) (lo hi : Nat) (v : Value) (L F G R : List Int) : Prop :=
  ∃ g0 g1 g2 g3, v = .agg #[.slice (some ⟨g0, 0, none⟩) L.length L.length, .slice (some ⟨g1, 0, none⟩) F.length F.length, .slice (some ⟨g2, 0, none⟩) G.length G.length, .slice (some ⟨g3, 0, none⟩) R.length R.length] ∧
    lo ≤ g0 ∧ g0 < g1 ∧ g1 < g2 ∧ g2 < g3 ∧ g3 < hi ∧ RowN w g0 2 L.length ∧ RowN w g1 2 F.length ∧ RowN w g2 2 G.length ∧ RowN w g3 2 R.length
theorem CgR.cgm {w : World} {base : Nat} {v : Value} {L F G R : List Int} (h : CgR w base v L F G R) : CgM w base w.heap.size v L F G R := by
  obtain ⟨g0, g1, g2, g3, e, q0, q1, q2, q3, h0, h1, h2, h3⟩ := h
  exact ⟨g0, g1, g2, g3, e, q0, q1, q2, q3, h3.lt, ⟨_, iv_length _, h0⟩, ⟨_, iv_length _, h1⟩, ⟨_, iv_length _, h2⟩, ⟨_, iv_length _, h3⟩⟩
theorem CgM.below {w w' : World} {lo hi B : Nat} {v : Value} {L F G R : List Int} (h : CgM w lo hi v L F G R) (hb : Below B w w') (hB : hi ≤ B) : CgM w' lo hi v L F G R := by
  obtain ⟨g0, g1, g2, g3, e, q0, q1, q2, q3, q4, h0, h1, h2, h3⟩ := h
  exact ⟨g0, g1, g2, g3, e, q0, q1, q2, q3, q4, h0.below hb (by omega), h1.below hb (by omega), h2.below hb (by omega), h3.below hb (by omega)⟩
set_option maxHeartbeats 2000000 in
theorem markChange_any (v : Value) (L F G R : List Int) (lo hi : Nat) (k : Int) (w : World) (h : CgM w lo hi v L F G R) (hL : L.length ≤ 1048576) (hF : F.length ≤ 1048576) (hG : G.length ≤ 1048576) (hR : R.length ≤ 1048576) (hk0 : 0 ≤ k) (hk1 : k ≤ 1000000000) (hhi : hi ≤ w.heap.size) :
    Calls Try.prog 31 #[v, .int .i64 k] w fun e w' => e = .returned (.int .i64 (k + (L.length : Int) + (F.length : Int) + (G.length : Int) + (R.length : Int))) ∧ Kp lo hi w w' := by
  obtain ⟨g0, g1, g2, g3, rfl, q0, q1, q2, q3, q4, h0, h1, h2, h3⟩ := h
  obtain ⟨n0, hn0⟩ : ∃ n, n = L.length := ⟨_, rfl⟩
  rw [← hn0] at h0 hL ⊢
  obtain ⟨n1, hn1⟩ : ∃ n, n = F.length := ⟨_, rfl⟩
  rw [← hn1] at h1 hF ⊢
  obtain ⟨n2, hn2⟩ : ∃ n, n = G.length := ⟨_, rfl⟩
  rw [← hn2] at h2 hG ⊢
  obtain ⟨n3, hn3⟩ : ∃ n, n = R.length := ⟨_, rfl⟩
  rw [← hn3] at h3 hR ⊢
  clear hn0 hn1 hn2 hn3
  have ra := Lib.hid (Row.new w 27 [.slice (some ⟨g0, 0, none⟩) n0 n0, .slice (some ⟨g1, 0, none⟩) n1 n1, .slice (some ⟨g2, 0, none⟩) n2 n2, .slice (some ⟨g3, 0, none⟩) n3 n3])
  have kx : Kp lo hi w (w.alloc (.cells ([.slice (some ⟨g0, 0, none⟩) n0 n0, .slice (some ⟨g1, 0, none⟩) n1 n1, .slice (some ⟨g2, 0, none⟩) n2 n2, .slice (some ⟨g3, 0, none⟩) n3 n3] : List Value).toArray 27)) := ⟨rfl, rfl, rfl, by simp, fun k hk _ => Below.heap_alloc w _ k hk⟩
  have h0 := Lib.hid (h0.below (Below.refl w.heap.size w |>.alloc (Nat.le_refl _) (.cells ([.slice (some ⟨g0, 0, none⟩) n0 n0, .slice (some ⟨g1, 0, none⟩) n1 n1, .slice (some ⟨g2, 0, none⟩) n2 n2, .slice (some ⟨g3, 0, none⟩) n3 n3] : List Value).toArray 27)) (show g0 < w.heap.size by omega))
  have h1 := Lib.hid (h1.below (Below.refl w.heap.size w |>.alloc (Nat.le_refl _) (.cells ([.slice (some ⟨g0, 0, none⟩) n0 n0, .slice (some ⟨g1, 0, none⟩) n1 n1, .slice (some ⟨g2, 0, none⟩) n2 n2, .slice (some ⟨g3, 0, none⟩) n3 n3] : List Value).toArray 27)) (show g1 < w.heap.size by omega))
  have h2 := Lib.hid (h2.below (Below.refl w.heap.size w |>.alloc (Nat.le_refl _) (.cells ([.slice (some ⟨g0, 0, none⟩) n0 n0, .slice (some ⟨g1, 0, none⟩) n1 n1, .slice (some ⟨g2, 0, none⟩) n2 n2, .slice (some ⟨g3, 0, none⟩) n3 n3] : List Value).toArray 27)) (show g2 < w.heap.size by omega))
  have h3 := Lib.hid (h3.below (Below.refl w.heap.size w |>.alloc (Nat.le_refl _) (.cells ([.slice (some ⟨g0, 0, none⟩) n0 n0, .slice (some ⟨g1, 0, none⟩) n1 n1, .slice (some ⟨g2, 0, none⟩) n2 n2, .slice (some ⟨g3, 0, none⟩) n3 n3] : List Value).toArray 27)) (show g3 < w.heap.size by omega))
  have KX := Lib.hid kx; clear kx
  go_enter Try.func31, Try.ntmps31
  go_wp2_with fail
  obtain ⟨x0, hx0⟩ : ∃ x, x = w.alloc (.cells ([.slice (some ⟨g0, 0, none⟩) n0 n0, .slice (some ⟨g1, 0, none⟩) n1 n1, .slice (some ⟨g2, 0, none⟩) n2 n2, .slice (some ⟨g3, 0, none⟩) n3 n3] : List Value).toArray 27) := ⟨_, rfl⟩
  rw [← hx0] at ra KX h0 h1 h2 h3
  change Calls _ _ _ (w.alloc (.cells ([.slice (some ⟨g0, 0, none⟩) n0 n0, .slice (some ⟨g1, 0, none⟩) n1 n1, .slice (some ⟨g2, 0, none⟩) n2 n2, .slice (some ⟨g3, 0, none⟩) n3 n3] : List Value).toArray 27)) _
  rw [← hx0]
  clear hx0
  refine (markInt64S_any g0 n0 n0 n0 (k) x0 h0.out (Nat.le_refl _) (by omega) (by omega) (by omega)).mono ?_
  rintro e w1 ⟨rfl, -, hbut0⟩
  have ra : Hid (Row w1 w.heap.size 27 [.slice (some ⟨g0, 0, none⟩) n0 n0, .slice (some ⟨g1, 0, none⟩) n1 n1, .slice (some ⟨g2, 0, none⟩) n2 n2, .slice (some ⟨g3, 0, none⟩) n3 n3]) := (hbut0.2.2.2.2 w.heap.size ra.out.lt (by omega)).trans ra.out
  have KX : Hid (Kp lo hi w w1) := KX.out.trans (hbut0.kp (by omega) (by omega))
  have h1 := Lib.hid (h1.out.kp (hbut0.kp (lo := g0) (hi := g0 + 1) (Nat.le_refl _) (Nat.lt_succ_self _)) (show g1 < g0 ∨ g0 + 1 ≤ g1 by omega))
  have h2 := Lib.hid (h2.out.kp (hbut0.kp (lo := g0) (hi := g0 + 1) (Nat.le_refl _) (Nat.lt_succ_self _)) (show g2 < g0 ∨ g0 + 1 ≤ g2 by omega))
  have h3 := Lib.hid (h3.out.kp (hbut0.kp (lo := g0) (hi := g0 + 1) (Nat.le_refl _) (Nat.lt_succ_self _)) (show g3 < g0 ∨ g0 + 1 ≤ g3 by omega))
  clear hbut0
  have ca1 := ra.out.cell 1
  go_wp2_with fail
  clear ca1
  refine (markInt64S_any g1 n1 n1 n1 (k + (n0 : Int)) w1 h1.out (Nat.le_refl _) (by omega) (by omega) (by omega)).mono ?_
  rintro e w2 ⟨rfl, -, hbut1⟩
  have ra : Hid (Row w2 w.heap.size 27 [.slice (some ⟨g0, 0, none⟩) n0 n0, .slice (some ⟨g1, 0, none⟩) n1 n1, .slice (some ⟨g2, 0, none⟩) n2 n2, .slice (some ⟨g3, 0, none⟩) n3 n3]) := (hbut1.2.2.2.2 w.heap.size ra.out.lt (by omega)).trans ra.out
  have KX : Hid (Kp lo hi w w2) := KX.out.trans (hbut1.kp (by omega) (by omega))
  have h2 := Lib.hid (h2.out.kp (hbut1.kp (lo := g1) (hi := g1 + 1) (Nat.le_refl _) (Nat.lt_succ_self _)) (show g2 < g1 ∨ g1 + 1 ≤ g2 by omega))
  have h3 := Lib.hid (h3.out.kp (hbut1.kp (lo := g1) (hi := g1 + 1) (Nat.le_refl _) (Nat.lt_succ_self _)) (show g3 < g1 ∨ g1 + 1 ≤ g3 by omega))
  clear hbut1
  have ca2 := ra.out.cell 2
  go_wp2_with fail
  clear ca2
  refine (markInt64S_any g2 n2 n2 n2 (k + (n0 : Int) + (n1 : Int)) w2 h2.out (Nat.le_refl _) (by omega) (by omega) (by omega)).mono ?_
  rintro e w3 ⟨rfl, -, hbut2⟩
  have ra : Hid (Row w3 w.heap.size 27 [.slice (some ⟨g0, 0, none⟩) n0 n0, .slice (some ⟨g1, 0, none⟩) n1 n1, .slice (some ⟨g2, 0, none⟩) n2 n2, .slice (some ⟨g3, 0, none⟩) n3 n3]) := (hbut2.2.2.2.2 w.heap.size ra.out.lt (by omega)).trans ra.out
  have KX : Hid (Kp lo hi w w3) := KX.out.trans (hbut2.kp (by omega) (by omega))
  have h3 := Lib.hid (h3.out.kp (hbut2.kp (lo := g2) (hi := g2 + 1) (Nat.le_refl _) (Nat.lt_succ_self _)) (show g3 < g2 ∨ g2 + 1 ≤ g3 by omega))
  clear hbut2
  have ca3 := ra.out.cell 3
  go_wp2_with fail
  clear ca3
  refine (markInt64S_any g3 n3 n3 n3 (k + (n0 : Int) + (n1 : Int) + (n2 : Int)) w3 h3.out (Nat.le_refl _) (by omega) (by omega) (by omega)).mono ?_
  rintro e w4 ⟨rfl, -, hbut3⟩
  have ra : Hid (Row w4 w.heap.size 27 [.slice (some ⟨g0, 0, none⟩) n0 n0, .slice (some ⟨g1, 0, none⟩) n1 n1, .slice (some ⟨g2, 0, none⟩) n2 n2, .slice (some ⟨g3, 0, none⟩) n3 n3]) := (hbut3.2.2.2.2 w.heap.size ra.out.lt (by omega)).trans ra.out
  have KX : Hid (Kp lo hi w w4) := KX.out.trans (hbut3.kp (by omega) (by omega))
  clear hbut3
  go_wp2_with fail
  go_ret
  exact ⟨rfl, KX.out⟩
end Go.Proofs.Ytcmnhnapnnpbdaa
