/- TidyOf of the reference. -/
import Derived.Test.YtegponioggpkcaaTiR
import Derived.Test.YtegponioggpkcaaSOw
import Derived.Test.YtegponioggpkcaaEiA
import Derived.Test.YtegponioggpkcaaSRt
namespace Go.Proofs.Ytegponioggpkcaa
open Go.RowKit
set_option linter.unusedVariables false
set_option maxRecDepth 100000 in
set_option maxHeartbeats 8000000 in
theorem sTidyOf_any (S T : Int) (L : List A4) (P E : List Int) (p2 p3 p4 c2 c3 c4 : Nat) (w : World)
    (h2 : SlA w w.heap.size (some ⟨p2, 0, none⟩) L.length L) (h3 : SlI w w.heap.size (some ⟨p3, 0, none⟩) P.length P) (h4 : SlI w w.heap.size (some ⟨p4, 0, none⟩) E.length E) (hL : L.length ≤ 1048576) (hP : P.length ≤ 1048576) (hE : E.length ≤ 1048576) :
    Calls Try.prog 29 #[.agg #[.int .i64 S, .int .i64 T, .slice (some ⟨p2, 0, none⟩) L.length c2, .slice (some ⟨p3, 0, none⟩) P.length c3, .slice (some ⟨p4, 0, none⟩) E.length c4]] w fun e w' => ∃ v', e = .returned (.tuple #[v', .bool (vmB S T L P E)]) ∧ McW w' w.heap.size v' (ckI (vmB S T L P E) S) (ckI (vmB S T L P E) T) (ckL (vmB S T L P E) (tdy L)) (ckL (vmB S T L P E) P) (ckL (vmB S T L P E) E) ∧ Below w.heap.size w w' := by
  have H2 := Lib.hid h2; have H3 := Lib.hid h3; have H4 := Lib.hid h4
  clear h2 h3 h4
  have rb := (Row.new w 28 [.int .i64 S, .int .i64 T, .slice (some ⟨p2, 0, none⟩) L.length c2, .slice (some ⟨p3, 0, none⟩) P.length c3, .slice (some ⟨p4, 0, none⟩) E.length c4]).alloc (.cells ([.int .i64 0, .int .i64 0, .slice none 0 0, .slice none 0 0, .slice none 0 0] : List Value).toArray 28)
  have rr := Row.new (w.alloc (.cells ([.int .i64 S, .int .i64 T, .slice (some ⟨p2, 0, none⟩) L.length c2, .slice (some ⟨p3, 0, none⟩) P.length c3, .slice (some ⟨p4, 0, none⟩) E.length c4] : List Value).toArray 28)) 28 [.int .i64 0, .int .i64 0, .slice none 0 0, .slice none 0 0, .slice none 0 0]
  rw [show (w.alloc (.cells ([.int .i64 S, .int .i64 T, .slice (some ⟨p2, 0, none⟩) L.length c2, .slice (some ⟨p3, 0, none⟩) P.length c3, .slice (some ⟨p4, 0, none⟩) E.length c4] : List Value).toArray 28)).heap.size = w.heap.size + 1 by simp] at rr
  have bx : Below w.heap.size w ((w.alloc (.cells ([.int .i64 S, .int .i64 T, .slice (some ⟨p2, 0, none⟩) L.length c2, .slice (some ⟨p3, 0, none⟩) P.length c3, .slice (some ⟨p4, 0, none⟩) E.length c4] : List Value).toArray 28)).alloc (.cells ([.int .i64 0, .int .i64 0, .slice none 0 0, .slice none 0 0, .slice none 0 0] : List Value).toArray 28)) := ((Below.refl _ _).alloc (Nat.le_refl _) _).alloc (by simp) _
  have RB := Lib.hid rb; have RR := Lib.hid rr; have BX := Lib.hid bx; clear rb rr bx
  go_enter Try.func29, Try.ntmps29
  go_wp2_with fail
  obtain ⟨x0, hx0⟩ : ∃ x, x = ((w.alloc (.cells ([.int .i64 S, .int .i64 T, .slice (some ⟨p2, 0, none⟩) L.length c2, .slice (some ⟨p3, 0, none⟩) P.length c3, .slice (some ⟨p4, 0, none⟩) E.length c4] : List Value).toArray 28)).alloc (.cells ([.int .i64 0, .int .i64 0, .slice none 0 0, .slice none 0 0, .slice none 0 0] : List Value).toArray 28)) := ⟨_, rfl⟩
  rw [← hx0] at RB RR BX
  change Calls _ _ _ ((w.alloc (.cells ([.int .i64 S, .int .i64 T, .slice (some ⟨p2, 0, none⟩) L.length c2, .slice (some ⟨p3, 0, none⟩) P.length c3, .slice (some ⟨p4, 0, none⟩) E.length c4] : List Value).toArray 28)).alloc (.cells ([.int .i64 0, .int .i64 0, .slice none 0 0, .slice none 0 0, .slice none 0 0] : List Value).toArray 28)) _
  rw [← hx0]
  clear hx0
  refine (sIs_any w.heap.size S T L P E _ _ c2 _ _ c3 _ _ c4 x0.heap.size x0 RB.out (Nat.le_refl _) ((H2.out.below BX.out (Nat.le_refl _)).more BX.out.size) ((H3.out.below BX.out (Nat.le_refl _)).more BX.out.size) ((H4.out.below BX.out (Nat.le_refl _)).more BX.out.size) (by omega) (by omega) (by omega)).mono ?_
  rintro e w1 ⟨rfl, hb1⟩
  have BX1 := Lib.hid (BX.out.trans (hb1.mono BX.out.size))
  have RB1 := Lib.hid (RB.out.below hb1 RB.out.lt)
  have RR1 := Lib.hid (RR.out.below hb1 RR.out.lt)
  clear hb1
  obtain ⟨ok, hok⟩ : ∃ ok, ok = vmB S T L P E := ⟨_, rfl⟩
  rw [← hok]
  have HOK : Hid (vmB S T L P E = ok) := hok.symm
  clear hok
  have hle : w.heap.size ≤ w.heap.size + 1 := by omega
  have HLE := Lib.hid hle; clear hle
  cases ok with
  | false =>
    have r0 := RR1.out.cell 0; have r1 := RR1.out.cell 1; have r2 := RR1.out.cell 2; have r3 := RR1.out.cell 3; have r4 := RR1.out.cell 4
    have f0 := RR1.out.frozen 0; have f1 := RR1.out.frozen 1; have f2 := RR1.out.frozen 2; have f3 := RR1.out.frozen 3; have f4 := RR1.out.frozen 4
    go_wp2_with fail
    clear r0 f0 r1 f1 r2 f2 r3 f3 r4 f4
    have hF := (((((RR1.out.set_ 0 (.int .i64 0)).set_ 1 (.int .i64 0)).set_ 2 (.slice none 0 0)).set_ 3 (.slice none 0 0)).set_ 4 (.slice none 0 0))
    refine bodyPost_ret (results_cell2 rfl _ _ (w.heap.size + 1) 28 #[.int .i64 0, .int .i64 0, .slice none 0 0, .slice none 0 0, .slice none 0 0] (0, 0) _ (.bool false) rfl rfl hF Try.underlying28 rfl (by kernel_rfl)) rfl ?_
    rw [HOK.out]
    refine ⟨_, rfl, ⟨_, _, _, rfl, OwnV.nil _ _ _ _ _, OwnV.nil _ _ _ _ _, OwnV.nil _ _ _ _ _, fun k hk => by simp [Value.ownBlock] at hk, fun k hk => by simp [Value.ownBlock] at hk, fun k hk => by simp [Value.ownBlock] at hk⟩, ?_⟩
    exact (((((BX1.out.setCell (p := ⟨w.heap.size + 1, 0, none⟩) HLE.out _).setCell (p := ⟨w.heap.size + 1, 1, none⟩) HLE.out _).setCell (p := ⟨w.heap.size + 1, 2, none⟩) HLE.out _).setCell (p := ⟨w.heap.size + 1, 3, none⟩) HLE.out _).setCell (p := ⟨w.heap.size + 1, 4, none⟩) HLE.out _)
  | true =>
    have z1 := BX1.out.size
    go_wp2_with fail
    refine (sOwn_any w.heap.size S T L P E p2 p3 p4 c2 c3 c4 w1 RB1.out ((H2.out.below BX1.out (Nat.le_refl _)).more z1) ((H3.out.below BX1.out (Nat.le_refl _)).more z1) ((H4.out.below BX1.out (Nat.le_refl _)).more z1) hL hP hE).mono ?_
    rintro e w2 ⟨A', c', B3, d3, B4, d4, rfl, o2, o3, o4, a23, a24, a34, hb2⟩
    have BX2 := Lib.hid (BX1.out.trans (hb2.mono BX1.out.size))
    have RB2 := RB1.out.below hb2 RB1.out.lt; have RR2 := RR1.out.below hb2 RR1.out.lt
    have O3 := Lib.hid o3; have O4 := Lib.hid o4; have D34 := Lib.hid a34
    have Z12 := Lib.hid hb2.size
    have LT1 : Hid (w.heap.size + 1 < w1.heap.size) := RR1.out.lt
    clear o2 o3 o4 a23 a24 a34 hb2 z1
    -- the box of 'out'
    have rx := Row.new w2 28 [.int .i64 S, .int .i64 T, .slice A' L.length c', .slice B3 P.length d3, .slice B4 E.length d4]
    have rb3 := RB2.alloc (.cells ([.int .i64 S, .int .i64 T, .slice A' L.length c', .slice B3 P.length d3, .slice B4 E.length d4] : List Value).toArray 28)
    have rr3 := RR2.alloc (.cells ([.int .i64 S, .int .i64 T, .slice A' L.length c', .slice B3 P.length d3, .slice B4 E.length d4] : List Value).toArray 28)
    have hb3 : Below w.heap.size w (w2.alloc (.cells ([.int .i64 S, .int .i64 T, .slice A' L.length c', .slice B3 P.length d3, .slice B4 E.length d4] : List Value).toArray 28)) := BX2.out.alloc BX2.out.size _
    have o33 : World.ownsRow (w2.alloc (.cells ([.int .i64 S, .int .i64 T, .slice A' L.length c', .slice B3 P.length d3, .slice B4 E.length d4] : List Value).toArray 28)) w1.heap.size 2 1 (.slice B3 P.length d3) P.length (iv P) := O3.out.alloc _
    have o34 : World.ownsRow (w2.alloc (.cells ([.int .i64 S, .int .i64 T, .slice A' L.length c', .slice B3 P.length d3, .slice B4 E.length d4] : List Value).toArray 28)) w1.heap.size 2 1 (.slice B4 E.length d4) E.length (iv E) := O4.out.alloc _
    have HO3 := O3; have HO4 := O4
    obtain ⟨w3, hw3⟩ : ∃ x, x = w2.alloc (.cells ([.int .i64 S, .int .i64 T, .slice A' L.length c', .slice B3 P.length d3, .slice B4 E.length d4] : List Value).toArray 28) := ⟨_, rfl⟩
    obtain ⟨gx, hgx⟩ : ∃ x, x = w2.heap.size := ⟨_, rfl⟩
    have hs3 : w2.heap.size < w3.heap.size := by rw [hw3]; simp
    rw [← hw3, ← hgx] at rx
    rw [← hw3] at rb3 rr3 hb3 o33 o34
    have k2 := rb3.cell 2
    rw [hw3] at k2
    go_wp2_with fail
    clear k2
    change Calls _ _ _ (w2.alloc (.cells ([.int .i64 S, .int .i64 T, .slice A' L.length c', .slice B3 P.length d3, .slice B4 E.length d4] : List Value).toArray 28)) _
    rw [← hw3, ← hgx]
    have RX := Lib.hid rx; have RR3 := Lib.hid rr3; have HB3 := Lib.hid hb3; have P3 := Lib.hid o33; have P4 := Lib.hid o34
    have LT3 : Hid (w1.heap.size ≤ gx ∧ gx < w3.heap.size) := by have := Z12.out; show _ ∧ _; omega
    have HGX := Lib.hid hgx
    clear rx rr3 rb3 o33 o34 hw3 hgx hs3
    refine (sTidy_any p2 0 L.length c2 L w3 ((H2.out.below hb3 (Nat.le_refl _)).more hb3.size) hL).mono ?_
    clear hb3
    rintro e w4 ⟨A6, c6, rfl, o6, hb4⟩
    have O6 := Lib.hid o6
    have RX4 := Lib.hid (RX.out.below hb4 RX.out.lt)
    have RR4 := Lib.hid (RR3.out.below hb4 RR3.out.lt)
    have HB4 := Lib.hid (HB3.out.trans (hb4.mono HB3.out.size))
    have Q3 := Lib.hid (ow_keep P3.out hb4 (Nat.le_refl _)); have Q4 := Lib.hid (ow_keep P4.out hb4 (Nat.le_refl _))
    have Z34 := Lib.hid hb4.size
    clear o6 hb4
    have x2 := RX4.out.cell 2; have fx2 := RX4.out.frozen 2
    go_upto_region 5 with fail
    clear x2 fx2
    -- 'out.Arcs' is set
    have rx5 := RX4.out.set_ 2 (.slice A6 (tdy L).length c6)
    have rr5 : Row (w4.setCell ⟨gx, 2, none⟩ (.slice A6 (tdy L).length c6)) (w.heap.size + 1) 28 [.int .i64 0, .int .i64 0, .slice none 0 0, .slice none 0 0, .slice none 0 0] := RR4.out.far (p := ⟨gx, 2, none⟩) (show w.heap.size + 1 ≠ gx by have := LT1.out; have := LT3.out; omega) _
    have hb5 : Below w.heap.size w (w4.setCell ⟨gx, 2, none⟩ (.slice A6 (tdy L).length c6)) := HB4.out.setCell (p := ⟨gx, 2, none⟩) (show w.heap.size ≤ gx by have := LT1.out; have := LT3.out; omega) _
    obtain ⟨w5, hw5⟩ : ∃ x, x = w4.setCell ⟨gx, 2, none⟩ (.slice A6 (tdy L).length c6) := ⟨_, rfl⟩
    have keep5 : ∀ k, k ≠ gx → w5.heap[k]? = w4.heap[k]? := fun k hk => by rw [hw5]; exact Below.heap_setCell w4 ⟨gx, 2, none⟩ _ k hk
    have hsz5 : w5.heap.size = w4.heap.size := by rw [hw5]; simp [World.setCell]
    change Code.wp _ _ _ _ (w4.setCell ⟨gx, 2, none⟩ (.slice A6 (tdy L).length c6))
    rw [← hw5] at rx5 rr5 hb5 ⊢
    clear hw5
    have y0 := rx5.cell 0; have y1 := rx5.cell 1; have y2 := rx5.cell 2; have y3 := rx5.cell 3; have y4 := rx5.cell 4
    have r0 := rr5.cell 0; have r1 := rr5.cell 1; have r2 := rr5.cell 2; have r3 := rr5.cell 3; have r4 := rr5.cell 4
    have f0 := rr5.frozen 0; have f1 := rr5.frozen 1; have f2 := rr5.frozen 2; have f3 := rr5.frozen 3; have f4 := rr5.frozen 4
    have HB5 := Lib.hid hb5; have RR5 := Lib.hid rr5; have K5 := Lib.hid keep5; have S5 := Lib.hid hsz5
    clear rx5 rr5 hb5 keep5 hsz5
    simp only [List.set_cons_succ, List.set_cons_zero, List.getElem?_cons_succ, List.getElem?_cons_zero] at y0 y1 y2 y3 y4
    go_wp2_with fail
    clear y0 y1 y2 y3 y4 r0 r1 r2 r3 r4 f0 f1 f2 f3 f4
    have hF := (((((RR5.out.set_ 0 (.int .i64 S)).set_ 1 (.int .i64 T)).set_ 2 (.slice A6 (tdy L).length c6)).set_ 3 (.slice B3 P.length d3)).set_ 4 (.slice B4 E.length d4))
    refine bodyPost_ret (results_cell2 rfl _ _ (w.heap.size + 1) 28 #[.int .i64 S, .int .i64 T, .slice A6 (tdy L).length c6, .slice B3 P.length d3, .slice B4 E.length d4] (0, 0) _ (.bool true) rfl rfl hF Try.underlying28 rfl (by kernel_rfl)) rfl ?_
    rw [HOK.out]
    have keepF : ∀ g, g ≠ w.heap.size + 1 → (((((w5.setCell ⟨w.heap.size + 1, 0, none⟩ (.int .i64 S)).setCell ⟨w.heap.size + 1, 1, none⟩ (.int .i64 T)).setCell ⟨w.heap.size + 1, 2, none⟩ (.slice A6 (tdy L).length c6)).setCell ⟨w.heap.size + 1, 3, none⟩ (.slice B3 P.length d3)).setCell ⟨w.heap.size + 1, 4, none⟩ (.slice B4 E.length d4)).heap[g]? = w5.heap[g]? := fun g h1 => heap_set5 _ _ _ _ _ h1
    have hBF := (((((HB5.out.setCell (p := ⟨w.heap.size + 1, 0, none⟩) HLE.out (.int .i64 S)).setCell (p := ⟨w.heap.size + 1, 1, none⟩) HLE.out (.int .i64 T)).setCell (p := ⟨w.heap.size + 1, 2, none⟩) HLE.out (.slice A6 (tdy L).length c6)).setCell (p := ⟨w.heap.size + 1, 3, none⟩) HLE.out (.slice B3 P.length d3)).setCell (p := ⟨w.heap.size + 1, 4, none⟩) HLE.out (.slice B4 E.length d4))
    obtain ⟨F, hFF⟩ : ∃ F, F = (((((w5.setCell ⟨w.heap.size + 1, 0, none⟩ (.int .i64 S)).setCell ⟨w.heap.size + 1, 1, none⟩ (.int .i64 T)).setCell ⟨w.heap.size + 1, 2, none⟩ (.slice A6 (tdy L).length c6)).setCell ⟨w.heap.size + 1, 3, none⟩ (.slice B3 P.length d3)).setCell ⟨w.heap.size + 1, 4, none⟩ (.slice B4 E.length d4)) := ⟨_, rfl⟩
    rw [← hFF] at keepF hBF ⊢
    clear hF hFF
    have l1 := LT1.out; have l3 := LT3.out; have l12 := Z12.out; have l34 := Z34.out
    have g3 : ∀ k, (Value.slice B3 P.length d3).ownBlock = some k → w1.heap.size ≤ k ∧ k < w2.heap.size := fun k hk => HO3.out.lt k hk
    have g4 : ∀ k, (Value.slice B4 E.length d4).ownBlock = some k → w1.heap.size ≤ k ∧ k < w2.heap.size := fun k hk => HO4.out.lt k hk
    have g6 : ∀ k, (Value.slice A6 (tdy L).length c6).ownBlock = some k → w3.heap.size ≤ k := fun k hk => (O6.out.lt k hk).1
    have hgx2 : gx = w2.heap.size := by have := HGX.out; exact this
    have m6 : F.ownsRow w3.heap.size 62 4 (.slice A6 (tdy L).length c6) (tdy L).length (fa (tdy L)) := own_move O6.out (fun g hg => (keepF g (by have := g6 g hg; omega)).trans (K5.out g (by have := g6 g hg; omega)))
    have m3 : F.ownsRow w1.heap.size 2 1 (.slice B3 P.length d3) P.length (iv P) := own_move Q3.out (fun g hg => (keepF g (by have := g3 g hg; omega)).trans (K5.out g (by have := g3 g hg; omega)))
    have m4 : F.ownsRow w1.heap.size 2 1 (.slice B4 E.length d4) E.length (iv E) := own_move Q4.out (fun g hg => (keepF g (by have := g4 g hg; omega)).trans (K5.out g (by have := g4 g hg; omega)))
    exact ⟨_, rfl, ⟨_, _, _, rfl, OwnV.of (World.ownsRow.mono m6 (by omega)), OwnV.of (World.ownsRow.mono m3 (by omega)), OwnV.of (World.ownsRow.mono m4 (by omega)), fun k h h' => by have := g6 k h; have := g3 k h'; omega, fun k h h' => by have := g6 k h; have := g4 k h'; omega, D34.out⟩, hBF⟩
end Go.Proofs.Ytegponioggpkcaa
