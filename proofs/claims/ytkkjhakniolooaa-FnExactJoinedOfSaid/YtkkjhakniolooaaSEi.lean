/- EitherOf of the reference (under way). -/
import Derived.Test.YtkkjhakniolooaaSTw
import Derived.Test.YtkkjhakniolooaaSOw
import Derived.Test.YtkkjhakniolooaaEiA
import Derived.Test.YtkkjhakniolooaaSRt
import Derived.Test.YtkkjhakniolooaaSBe
import Derived.Deep.RegionLaw
import Derived.Deep.RegionWith
import Derived.Deep.DrawnRows
namespace Go.Proofs.Ytkkjhakniolooaa
open Go.RowKit
set_option linter.unusedVariables false
attribute [local go_sem ↓] Go.wp_at_zero Go.wp_at_succ
theorem own_cells0 {w : World} {base g n c size : Nat} {e : TypeId} {xs : List Value} (h : w.ownsRow base e size (.slice (some ⟨g, 0, none⟩) n c) n xs) : ∀ j u, xs[j]? = some u → w.cell? ⟨g, 0 + j, none⟩ = some u := by
  intro j u hu
  have := World.ownsRow.cells h (g := g) rfl j u hu
  have ea : (⟨g, 0, none⟩ : Addr).add j = ⟨g, 0 + j, none⟩ := by unfold Addr.add; by_cases h : j = 0 <;> simp [h]
  rw [ea] at this
  exact this
set_option maxRecDepth 100000 in
set_option maxHeartbeats 16000000 in
theorem sEither_any (S T : Int) (L : List A4) (P E : List Int) (p2 p3 p4 C2 C3 C4 : Nat) (S' T' : Int) (L' : List A4) (P' E' : List Int) (q2 q3 q4 D2 D3 D4 : Nat) (w : World)
    (h2 : SlA w w.heap.size (some ⟨p2, 0, none⟩) L.length L) (h3 : SlI w w.heap.size (some ⟨p3, 0, none⟩) P.length P) (h4 : SlI w w.heap.size (some ⟨p4, 0, none⟩) E.length E)
    (k2 : SlA w w.heap.size (some ⟨q2, 0, none⟩) L'.length L') (k3 : SlI w w.heap.size (some ⟨q3, 0, none⟩) P'.length P') (k4 : SlI w w.heap.size (some ⟨q4, 0, none⟩) E'.length E')
    (hL : L.length ≤ 1048576) (hP : P.length ≤ 1048576) (hE : E.length ≤ 1048576) (kL : L'.length ≤ 1048576) (kP : P'.length ≤ 1048576) (kE : E'.length ≤ 1048576) :
    Calls Try.prog 6 #[.agg #[.int .i64 S, .int .i64 T, .slice (some ⟨p2, 0, none⟩) L.length C2, .slice (some ⟨p3, 0, none⟩) P.length C3, .slice (some ⟨p4, 0, none⟩) E.length C4], .agg #[.int .i64 S', .int .i64 T', .slice (some ⟨q2, 0, none⟩) L'.length D2, .slice (some ⟨q3, 0, none⟩) P'.length D3, .slice (some ⟨q4, 0, none⟩) E'.length D4]] w fun e w' => ∃ v' hi, e = .returned (.tuple #[v', .bool (eiOk S T L P E S' T' L' P' E')]) ∧ hi ≤ w'.heap.size ∧ McO w' w.heap.size hi v' (ckI (eiOk S T L P E S' T' L' P' E') (S + S')) (ckI (eiOk S T L P E S' T' L' P' E') T) (ckL (eiOk S T L P E S' T' L' P' E') (eiL S L L')) (ckL (eiOk S T L P E S' T' L' P' E') (P ++ P')) (ckL (eiOk S T L P E S' T' L' P' E') (E ++ E')) ∧ Below w.heap.size w w' := by
  have ra := ((Row.new w 29 [.int .i64 S, .int .i64 T, .slice (some ⟨p2, 0, none⟩) L.length C2, .slice (some ⟨p3, 0, none⟩) P.length C3, .slice (some ⟨p4, 0, none⟩) E.length C4]).alloc (.cells ([.int .i64 S', .int .i64 T', .slice (some ⟨q2, 0, none⟩) L'.length D2, .slice (some ⟨q3, 0, none⟩) P'.length D3, .slice (some ⟨q4, 0, none⟩) E'.length D4] : List Value).toArray 29)).alloc (.cells ([.int .i64 0, .int .i64 0, .slice none 0 0, .slice none 0 0, .slice none 0 0] : List Value).toArray 29)
  have rb := (Row.new (w.alloc (.cells ([.int .i64 S, .int .i64 T, .slice (some ⟨p2, 0, none⟩) L.length C2, .slice (some ⟨p3, 0, none⟩) P.length C3, .slice (some ⟨p4, 0, none⟩) E.length C4] : List Value).toArray 29)) 29 [.int .i64 S', .int .i64 T', .slice (some ⟨q2, 0, none⟩) L'.length D2, .slice (some ⟨q3, 0, none⟩) P'.length D3, .slice (some ⟨q4, 0, none⟩) E'.length D4]).alloc (.cells ([.int .i64 0, .int .i64 0, .slice none 0 0, .slice none 0 0, .slice none 0 0] : List Value).toArray 29)
  have rr := Row.new ((w.alloc (.cells ([.int .i64 S, .int .i64 T, .slice (some ⟨p2, 0, none⟩) L.length C2, .slice (some ⟨p3, 0, none⟩) P.length C3, .slice (some ⟨p4, 0, none⟩) E.length C4] : List Value).toArray 29)).alloc (.cells ([.int .i64 S', .int .i64 T', .slice (some ⟨q2, 0, none⟩) L'.length D2, .slice (some ⟨q3, 0, none⟩) P'.length D3, .slice (some ⟨q4, 0, none⟩) E'.length D4] : List Value).toArray 29)) 29 [.int .i64 0, .int .i64 0, .slice none 0 0, .slice none 0 0, .slice none 0 0]
  rw [show (w.alloc (.cells ([.int .i64 S, .int .i64 T, .slice (some ⟨p2, 0, none⟩) L.length C2, .slice (some ⟨p3, 0, none⟩) P.length C3, .slice (some ⟨p4, 0, none⟩) E.length C4] : List Value).toArray 29)).heap.size = w.heap.size + 1 by simp] at rb
  rw [show ((w.alloc (.cells ([.int .i64 S, .int .i64 T, .slice (some ⟨p2, 0, none⟩) L.length C2, .slice (some ⟨p3, 0, none⟩) P.length C3, .slice (some ⟨p4, 0, none⟩) E.length C4] : List Value).toArray 29)).alloc (.cells ([.int .i64 S', .int .i64 T', .slice (some ⟨q2, 0, none⟩) L'.length D2, .slice (some ⟨q3, 0, none⟩) P'.length D3, .slice (some ⟨q4, 0, none⟩) E'.length D4] : List Value).toArray 29)).heap.size = w.heap.size + 1 + 1 by simp] at rr
  have bx : Below w.heap.size w (((w.alloc (.cells ([.int .i64 S, .int .i64 T, .slice (some ⟨p2, 0, none⟩) L.length C2, .slice (some ⟨p3, 0, none⟩) P.length C3, .slice (some ⟨p4, 0, none⟩) E.length C4] : List Value).toArray 29)).alloc (.cells ([.int .i64 S', .int .i64 T', .slice (some ⟨q2, 0, none⟩) L'.length D2, .slice (some ⟨q3, 0, none⟩) P'.length D3, .slice (some ⟨q4, 0, none⟩) E'.length D4] : List Value).toArray 29)).alloc (.cells ([.int .i64 0, .int .i64 0, .slice none 0 0, .slice none 0 0, .slice none 0 0] : List Value).toArray 29)) := (((Below.refl _ _).alloc (Nat.le_refl _) _).alloc (by simp) _).alloc (by simp; omega) _
  have RA := Lib.hid ra; have RB := Lib.hid rb; have RR := Lib.hid rr; have BX := Lib.hid bx; clear ra rb rr bx
  have H2 := Lib.hid h2; have H3 := Lib.hid h3; have H4 := Lib.hid h4; have K2 := Lib.hid k2; have K3 := Lib.hid k3; have K4 := Lib.hid k4
  clear h2 h3 h4 k2 k3 k4
  go_enter Try.func6, Try.ntmps6
  go_wp2_with fail
  obtain ⟨x0, hx0⟩ : ∃ x, x = ((w.alloc (.cells ([.int .i64 S, .int .i64 T, .slice (some ⟨p2, 0, none⟩) L.length C2, .slice (some ⟨p3, 0, none⟩) P.length C3, .slice (some ⟨p4, 0, none⟩) E.length C4] : List Value).toArray 29)).alloc (.cells ([.int .i64 S', .int .i64 T', .slice (some ⟨q2, 0, none⟩) L'.length D2, .slice (some ⟨q3, 0, none⟩) P'.length D3, .slice (some ⟨q4, 0, none⟩) E'.length D4] : List Value).toArray 29)).alloc (.cells ([.int .i64 0, .int .i64 0, .slice none 0 0, .slice none 0 0, .slice none 0 0] : List Value).toArray 29) := ⟨_, rfl⟩
  rw [← hx0] at RA RB RR BX
  change Calls _ _ _ (((w.alloc (.cells ([.int .i64 S, .int .i64 T, .slice (some ⟨p2, 0, none⟩) L.length C2, .slice (some ⟨p3, 0, none⟩) P.length C3, .slice (some ⟨p4, 0, none⟩) E.length C4] : List Value).toArray 29)).alloc (.cells ([.int .i64 S', .int .i64 T', .slice (some ⟨q2, 0, none⟩) L'.length D2, .slice (some ⟨q3, 0, none⟩) P'.length D3, .slice (some ⟨q4, 0, none⟩) E'.length D4] : List Value).toArray 29)).alloc (.cells ([.int .i64 0, .int .i64 0, .slice none 0 0, .slice none 0 0, .slice none 0 0] : List Value).toArray 29)) _
  rw [← hx0]
  clear hx0
  have z0 := BX.out.size
  refine (sTwoM_any w.heap.size (w.heap.size + 1) S T L P E _ _ C2 _ _ C3 _ _ C4 S' T' L' P' E' _ _ D2 _ _ D3 _ _ D4 x0 RA.out RB.out ((H2.out.below BX.out (Nat.le_refl _)).more z0) ((H3.out.below BX.out (Nat.le_refl _)).more z0) ((H4.out.below BX.out (Nat.le_refl _)).more z0) ((K2.out.below BX.out (Nat.le_refl _)).more z0) ((K3.out.below BX.out (Nat.le_refl _)).more z0) ((K4.out.below BX.out (Nat.le_refl _)).more z0) (by omega) (by omega) (by omega) (by omega) (by omega) (by omega) (by omega)).mono ?_
  rintro e w1 ⟨rfl, hb1⟩
  have BX1 := Lib.hid (BX.out.trans (hb1.mono BX.out.size))
  have RA1 := Lib.hid (RA.out.below hb1 RA.out.lt); have RB1 := Lib.hid (RB.out.below hb1 RB.out.lt); have RR1 := Lib.hid (RR.out.below hb1 RR.out.lt)
  clear hb1 z0
  obtain ⟨ok, hok⟩ : ∃ ok, ok = twB S T L P E S' T' L' P' E' := ⟨_, rfl⟩
  rw [← hok]
  have HOK := Lib.hid hok; clear hok
  cases ok with
  | false =>
    have r0 := RR1.out.cell 0; have r1 := RR1.out.cell 1; have r2 := RR1.out.cell 2; have r3 := RR1.out.cell 3; have r4 := RR1.out.cell 4
    have f0 := RR1.out.frozen 0; have f1 := RR1.out.frozen 1; have f2 := RR1.out.frozen 2; have f3 := RR1.out.frozen 3; have f4 := RR1.out.frozen 4
    go_wp2_with fail
    clear r0 f0 r1 f1 r2 f2 r3 f3 r4 f4
    have hF := (((((RR1.out.set_ 0 (.int .i64 0)).set_ 1 (.int .i64 0)).set_ 2 (.slice none 0 0)).set_ 3 (.slice none 0 0)).set_ 4 (.slice none 0 0))
    refine bodyPost_ret (results_cell2 rfl _ _ (w.heap.size + 1 + 1) 29 #[.int .i64 0, .int .i64 0, .slice none 0 0, .slice none 0 0, .slice none 0 0] (0, 0) _ (.bool false) rfl rfl hF Try.underlying29 rfl (by kernel_rfl)) rfl ?_
    have hf : eiOk S T L P E S' T' L' P' E' = false := by
      have h9 : twB S T L P E S' T' L' P' E' = false := HOK.out.symm
      unfold twB at h9
      unfold eiOk
      rw [h9]; rfl
    rw [hf]
    have hle : w.heap.size ≤ w.heap.size + 1 + 1 := by omega
    have hbF := (((((BX1.out.setCell (p := ⟨w.heap.size + 1 + 1, 0, none⟩) hle (.int .i64 0)).setCell (p := ⟨w.heap.size + 1 + 1, 1, none⟩) hle (.int .i64 0)).setCell (p := ⟨w.heap.size + 1 + 1, 2, none⟩) hle (.slice none 0 0)).setCell (p := ⟨w.heap.size + 1 + 1, 3, none⟩) hle (.slice none 0 0)).setCell (p := ⟨w.heap.size + 1 + 1, 4, none⟩) hle (.slice none 0 0))
    exact ⟨_, w.heap.size, rfl, hbF.size, ⟨_, _, _, rfl, OwnV.nil _ _ _ _ _, OwnV.nil _ _ _ _ _, OwnV.nil _ _ _ _ _, fun k hk => by simp [Value.ownBlock] at hk, fun k hk => by simp [Value.ownBlock] at hk, fun k hk => by simp [Value.ownBlock] at hk⟩, hbF⟩
  | true =>
  have z1 := BX1.out.size
  have hlr := RR1.out.lt
  go_wp2_with fail
  refine (sOwn_any w.heap.size S T L P E p2 p3 p4 C2 C3 C4 w1 RA1.out ((H2.out.below BX1.out (Nat.le_refl _)).more z1) ((H3.out.below BX1.out (Nat.le_refl _)).more z1) ((H4.out.below BX1.out (Nat.le_refl _)).more z1) hL hP hE).mono ?_
  rintro e w2 ⟨A', c', B3, d3, B4, d4, rfl, o2, o3, o4, a23, a24, a34, hb2⟩
  have BX2 := Lib.hid (BX1.out.trans (hb2.mono BX1.out.size))
  have RA2 := Lib.hid (RA1.out.below hb2 RA1.out.lt); have RB2 := Lib.hid (RB1.out.below hb2 RB1.out.lt); have RR2 := Lib.hid (RR1.out.below hb2 RR1.out.lt)
  have O2 := Lib.hid o2; have O3 := Lib.hid o3; have O4 := Lib.hid o4; have D23 := Lib.hid a23; have D24 := Lib.hid a24; have D34 := Lib.hid a34
  have Z12 := Lib.hid hb2.size
  have hz12 := hb2.size
  clear o2 o3 o4 a23 a24 a34 hb2 z1
  go_upto_region 4 with fail
  have HT9 : Hid (twB S T L P E S' T' L' P' E' = true) := HOK.out.symm
  have hvm : vmB S T L P E = true ∧ vmB S' T' L' P' E' = true ∧ T = T' := by
    have := HT9.out
    unfold twB at this
    rw [Bool.and_eq_true, Bool.and_eq_true] at this
    exact ⟨this.1.1, this.1.2, of_decide_eq_true this.2⟩
  obtain ⟨hv1, hv2, hTT⟩ := hvm
  obtain ⟨qS, qT, qL, -, -, -⟩ := vmB_true hv1
  obtain ⟨rS, rT, rL, rA, -, -⟩ := vmB_true hv2
  have QA : Hid (∀ a ∈ L', -1000 ≤ a.1 ∧ a.1 ≤ 1000 ∧ -1000 ≤ a.2.1 ∧ a.2.1 ≤ 1000) := fun a ha => by have := okAm_true (rA a ha); omega
  clear rA hv1 hv2
  have HTT := Lib.hid hTT; clear hTT
  have HBX : Hid (Row (w2.alloc (.cells ([.int .i64 S, .int .i64 T, .slice A' L.length c', .slice B3 P.length d3, .slice B4 E.length d4] : List Value).toArray 29)) w2.heap.size 29 [.int .i64 S, .int .i64 T, .slice A' L.length c', .slice B3 P.length d3, .slice B4 E.length d4]) := Row.new _ _ _
  have b2 : Below w2.heap.size w2 (w2.alloc (.cells ([.int .i64 S, .int .i64 T, .slice A' L.length c', .slice B3 P.length d3, .slice B4 E.length d4] : List Value).toArray 29)) := (Below.refl _ _).alloc (Nat.le_refl _) _
  obtain ⟨wa, hwa⟩ : ∃ x, x = w2.alloc (.cells ([.int .i64 S, .int .i64 T, .slice A' L.length c', .slice B3 P.length d3, .slice B4 E.length d4] : List Value).toArray 29) := ⟨_, rfl⟩
  rw [← hwa] at HBX b2
  rw [show w2.alloc (.cells #[.int .i64 S, .int .i64 T, .slice A' L.length c', .slice B3 P.length d3, .slice B4 E.length d4] 29) = wa from hwa.symm]
  clear hwa
  have BXa := Lib.hid (BX2.out.trans (b2.mono BX2.out.size))
  have RAa := Lib.hid (RA2.out.below b2 RA2.out.lt); have RBa := Lib.hid (RB2.out.below b2 RB2.out.lt); have RRa := Lib.hid (RR2.out.below b2 RR2.out.lt)
  have O2a := Lib.hid (own_move O2.out (fun g hg => b2.block g (O2.out.lt g hg).2)); have O3a := Lib.hid (own_move O3.out (fun g hg => b2.block g (O3.out.lt g hg).2)); have O4a := Lib.hid (own_move O4.out (fun g hg => b2.block g (O4.out.lt g hg).2))
  have N2 : Hid (∀ k, (Value.slice A' L.length c').ownBlock = some k → k < w2.heap.size) := fun k h => (O2.out.lt k h).2
  have N3 : Hid (∀ k, (Value.slice B3 P.length d3).ownBlock = some k → k < w2.heap.size) := fun k h => (O3.out.lt k h).2
  have N4 : Hid (∀ k, (Value.slice B4 E.length d4).ownBlock = some k → k < w2.heap.size) := fun k h => (O4.out.lt k h).2
  have hrl := RR2.out.lt
  clear O2 O3 O4 RA2 RB2 RR2 b2
  have s1 := RAa.out.cell 0; have s2 := RBa.out.cell 0; have s3 := HBX.out.cell 0; have s4 := HBX.out.frozen 0
  have wS : IntKind.i64.wrap (S + S') = S + S' := IntWalk.i64_in _ (by omega)
  go_upto_region 5 with fail
  clear s1 s2 s3 s4
  have HBY : Hid (Row (wa.setCell ⟨w2.heap.size, 0, none⟩ (.int .i64 (S + S'))) w2.heap.size 29 [.int .i64 (S + S'), .int .i64 T, .slice A' L.length c', .slice B3 P.length d3, .slice B4 E.length d4]) := HBX.out.set_ 0 (.int .i64 (S + S'))
  have RAy : Hid (Row (wa.setCell ⟨w2.heap.size, 0, none⟩ (.int .i64 (S + S'))) w.heap.size 29 [.int .i64 S, .int .i64 T, .slice (some ⟨p2, 0, none⟩) L.length C2, .slice (some ⟨p3, 0, none⟩) P.length C3, .slice (some ⟨p4, 0, none⟩) E.length C4]) := RAa.out.far (by show w.heap.size ≠ w2.heap.size; omega) _
  have RBy : Hid (Row (wa.setCell ⟨w2.heap.size, 0, none⟩ (.int .i64 (S + S'))) (w.heap.size + 1) 29 [.int .i64 S', .int .i64 T', .slice (some ⟨q2, 0, none⟩) L'.length D2, .slice (some ⟨q3, 0, none⟩) P'.length D3, .slice (some ⟨q4, 0, none⟩) E'.length D4]) := RBa.out.far (by show w.heap.size + 1 ≠ w2.heap.size; omega) _
  have RRy : Hid (Row (wa.setCell ⟨w2.heap.size, 0, none⟩ (.int .i64 (S + S'))) (w.heap.size + 1 + 1) 29 [.int .i64 0, .int .i64 0, .slice none 0 0, .slice none 0 0, .slice none 0 0]) := RRa.out.far (by show w.heap.size + 1 + 1 ≠ w2.heap.size; omega) _
  have O2y := Lib.hid (own_move O2a.out (fun g hg => Below.heap_setCell wa ⟨w2.heap.size, 0, none⟩ (.int .i64 (S + S')) g (by have := N2.out g hg; show g ≠ w2.heap.size; omega)))
  have O3y := Lib.hid (own_move O3a.out (fun g hg => Below.heap_setCell wa ⟨w2.heap.size, 0, none⟩ (.int .i64 (S + S')) g (by have := N3.out g hg; show g ≠ w2.heap.size; omega)))
  have O4y := Lib.hid (own_move O4a.out (fun g hg => Below.heap_setCell wa ⟨w2.heap.size, 0, none⟩ (.int .i64 (S + S')) g (by have := N4.out g hg; show g ≠ w2.heap.size; omega)))
  have BXy : Hid (Below w.heap.size w (wa.setCell ⟨w2.heap.size, 0, none⟩ (.int .i64 (S + S')))) := bwS BXa.out (by show w.heap.size ≤ w2.heap.size; omega) _
  have hzy : w2.heap.size < (wa.setCell ⟨w2.heap.size, 0, none⟩ (.int .i64 (S + S'))).heap.size := HBY.out.lt
  obtain ⟨y, hy⟩ : ∃ x, x = wa.setCell ⟨w2.heap.size, 0, none⟩ (.int .i64 (S + S')) := ⟨_, rfl⟩
  rw [← hy] at HBY RAy RBy RRy O2y O3y O4y BXy hzy ⊢
  clear hy HBX RAa RBa RRa O2a O3a O4a BXa
  have NL2 : Hid (∀ k, (Value.slice A' L.length c').ownBlock = some k → w1.heap.size ≤ k) := fun k h => (O2y.out.lt k h).1
  have HSy : Hid (∀ x : World, Below y.heap.size y x → (x.cell? ⟨w.heap.size + 1, 2, none⟩ = some (.slice (some ⟨q2, 0, none⟩) L'.length D2) ∧ x.cell? ⟨w.heap.size, 0, none⟩ = some (.int .i64 S))) := fun x hx => ⟨(RBy.out.below hx (by omega)).cell 2, (RAy.out.below hx (by omega)).cell 0⟩
  have C5 : Hid (∀ x : World, Below y.heap.size y x → Calls Try.prog 18 #[.slice (some ⟨q2, 0, none⟩) L'.length D2, .int .i64 S] x fun e w' => ∃ g c', e = .returned (.slice (some ⟨g, 0, none⟩) L'.length c') ∧ w'.ownsRow y.heap.size 49 4 (.slice (some ⟨g, 0, none⟩) L'.length c') L'.length (fa (L'.map (mvA S))) ∧ Below y.heap.size x w') := fun x hx =>
    sBehindS_any y.heap.size (some ⟨q2, 0, none⟩) L'.length D2 L' S x hx.size ((K2.out.below (BXy.out.trans (hx.mono BXy.out.size)) (Nat.le_refl _)).more BXy.out.size) kL (by omega) QA.out
  have HSS : Hid (∀ x : World, Row x (w.heap.size + 1) 29 [.int .i64 S', .int .i64 T', .slice (some ⟨q2, 0, none⟩) L'.length D2, .slice (some ⟨q3, 0, none⟩) P'.length D3, .slice (some ⟨q4, 0, none⟩) E'.length D4] → Row x w.heap.size 29 [.int .i64 S, .int .i64 T, .slice (some ⟨p2, 0, none⟩) L.length C2, .slice (some ⟨p3, 0, none⟩) P.length C3, .slice (some ⟨p4, 0, none⟩) E.length C4] → ∀ u : Value, (x.setCell ⟨w2.heap.size, 2, none⟩ u).cell? ⟨w.heap.size + 1, 2, none⟩ = some (.slice (some ⟨q2, 0, none⟩) L'.length D2) ∧ (x.setCell ⟨w2.heap.size, 2, none⟩ u).cell? ⟨w.heap.size, 0, none⟩ = some (.int .i64 S)) := fun x h1 h2 u => ⟨(h1.far (by show w.heap.size + 1 ≠ w2.heap.size; omega) u).cell 2, (h2.far (by show w.heap.size ≠ w2.heap.size; omega) u).cell 0⟩
  have hb0 : Below y.heap.size y y.drew := Below.drew (Below.refl _ _)
  have hf1 := (HSy.out y.drew hb0).1; have hf2 := (HSy.out y.drew hb0).2
  have c2y : y.drew.cell? ⟨w2.heap.size, 2, none⟩ = some (.slice A' L.length c') := (HBY.out.below hb0 hzy).cell 2
  have P04 : 0 < 4 := by omega
  have P3232 : 32 ≤ 32 := by omega
  have LEN5 : Hid ((fa (L'.map (mvA S))).length = L'.length * 4) := by show _ = _; rw [fa_length, List.length_map]; omega
  have ROOM5 : Hid (L.length + L'.length ≤ 4294967296) := by show _ ≤ _; omega
  go_cut [6] from 7 to 41 (fun p6 wx => p6 = .pointer (some ⟨w2.heap.size, 0, none⟩) ∧ ∃ (A5 : Option Addr) (c6 : Nat), Hid (Row wx w2.heap.size 29 [.int .i64 (S + S'), .int .i64 T, .slice A5 (L.length + L'.length) c6, .slice B3 P.length d3, .slice B4 E.length d4]) ∧ Hid (wx.ownsRow w1.heap.size 49 4 (.slice A5 (L.length + L'.length) c6) (L.length + L'.length) (fa (eiL S L L'))) ∧ Hid (wx.ownsRow w1.heap.size 2 1 (.slice B3 P.length d3) P.length (iv P)) ∧ Hid (wx.ownsRow w1.heap.size 2 1 (.slice B4 E.length d4) E.length (iv E)) ∧ Hid (∀ k, (Value.slice A5 (L.length + L'.length) c6).ownBlock = some k → (Value.slice B3 P.length d3).ownBlock ≠ some k ∧ (Value.slice B4 E.length d4).ownBlock ≠ some k ∧ k ≠ w2.heap.size) ∧ Hid (Row wx (w.heap.size + 1) 29 [.int .i64 S', .int .i64 T', .slice (some ⟨q2, 0, none⟩) L'.length D2, .slice (some ⟨q3, 0, none⟩) P'.length D3, .slice (some ⟨q4, 0, none⟩) E'.length D4] ) ∧ Hid (Row wx (w.heap.size + 1 + 1) 29 [.int .i64 0, .int .i64 0, .slice none 0 0, .slice none 0 0, .slice none 0 0] ) ∧ Hid (Below w.heap.size w wx))
  case first =>
   go_region_law
     (first
       | (rw [if_pos (by rfl)]; go_simp; go_at_call 18; refine (C5.out _ hb0).mono ?_; rintro e wz ⟨g5, c5, rfl, hoz, hbz⟩; have hbz' : Below y.heap.size y wz := hb0.trans hbz; have OZ := Lib.hid (own_move O2y.out (fun g hg => hbz'.block g (by have := N2.out g hg; omega))); have CE5 : Hid (∀ j u, (fa (L'.map (mvA S)))[j]? = some u → wz.cell? ⟨g5, 0 + j, none⟩ = some u) := own_cells0 hoz; have BASE5 : Hid (w1.heap.size ≤ wz.heap.size) := (Nat.le_trans (by omega) hbz'.size); have c2z := (HBY.out.below hbz' hzy).cell 2; have z1 := (RBy.out.below hbz' (by omega)).cell 2; have z2 := (RAy.out.below hbz' (by omega)).cell 0; have HBz := Lib.hid hbz')
       | (refine step_cells_push rfl (.tmp 18) (.tmp 23) _ rfl w1.heap.size 49 (.agg #[.int .i64 0, .int .i64 0, .int .i64 0, .int .i64 0]) 4 32 Try.underlying27 infoAr rfl P04 P3232 (.slice A' L.length c') L.length (fa L) ?_ OZ.out g5 0 L'.length c5 (fa (L'.map (mvA S))) ?_ LEN5.out CE5.out (fa_one _) ROOM5.out BASE5.out ?_; rfl; rfl; intro A5 c6 wv hvE hgr hbl hat; have hbxr := (HBY.out.below HBz.out hzy).grown hgr (fun e => by have := N2.out _ e.symm; omega); have hRB := (RBy.out.below HBz.out (by omega)).grown hgr (fun e => by have := NL2.out _ e.symm; omega); have hRA := (RAy.out.below HBz.out (by omega)).grown hgr (fun e => by have := NL2.out _ e.symm; omega); have hRR := (RRy.out.below HBz.out (by omega)).grown hgr (fun e => by have := NL2.out _ e.symm; omega); have s5 : wv.cell? ⟨w.heap.size + 1, 2, none⟩ = some (.slice (some ⟨q2, 0, none⟩) L'.length D2) ∧ wv.cell? ⟨w.heap.size, 0, none⟩ = some (.int .i64 S) := ⟨hRB.cell 2, hRA.cell 0⟩; have hst := HSS.out wv hRB hRA; have x2 := hbxr.cell 2; have f2 := hbxr.frozen 2; have HBXR := Lib.hid hbxr; have HRBv := Lib.hid hRB; have HRAv := Lib.hid hRA; have HRRv := Lib.hid hRR; have HvE := Lib.hid hvE; have HGR := Lib.hid hgr; have HBL := Lib.hid hbl; have HAT := Lib.hid hat; clear hbxr hRB hRA hRR hvE hgr hbl hat))
   all_goals
     go_wp2_with fail
     go_meet
     have hat2 : ∀ k, (Value.slice A5 (L.length + L'.length) c6).ownBlock = some k → (Value.slice A' L.length c').ownBlock = some k ∨ k = wz.heap.size := fun k hk => by
       rcases HAT.out with h | h
       · exact .inl (by rw [← h]; exact hk)
       · exact .inr (by rw [h] at hk; exact (Option.some.inj hk).symm)
     have hzz := HBz.out.size
     have keepv : ∀ g, g < y.heap.size → (Value.slice A' L.length c').ownBlock ≠ some g → g ≠ w2.heap.size → (wv.setCell ⟨w2.heap.size, 2, none⟩ (.slice A5 (L.length + L'.length) c6)).heap[g]? = y.heap[g]? := fun g h1 h2 h3 => (Below.heap_setCell wv ⟨w2.heap.size, 2, none⟩ (.slice A5 (L.length + L'.length) c6) g (by show g ≠ w2.heap.size; exact h3)).trans ((HGR.out.block g (by omega) (fun e => h2 e.symm)).trans (HBz.out.block g h1))
     have hOa : (wv.setCell ⟨w2.heap.size, 2, none⟩ (.slice A5 (L.length + L'.length) c6)).ownsRow w1.heap.size 49 4 (.slice A5 (L.length + L'.length) c6) (L.length + L'.length) (fa (eiL S L L')) := by
       have h1 := own_move HvE.out (fun g hg => Below.heap_setCell wv ⟨w2.heap.size, 2, none⟩ (.slice A5 (L.length + L'.length) c6) g (by show g ≠ w2.heap.size; exact (hat2 g hg).elim (fun h => by have := N2.out g h; omega) (fun h => by omega)))
       unfold eiL
       rw [fa_append]
       exact h1
     refine ⟨rfl, A5, c6, HBXR.out.set_ 2 (.slice A5 (L.length + L'.length) c6), hOa, own_move O3y.out (fun g hg => keepv g (by have := N3.out g hg; omega) (fun e => D23.out g e hg) (by have := N3.out g hg; omega)), own_move O4y.out (fun g hg => keepv g (by have := N4.out g hg; omega) (fun e => D24.out g e hg) (by have := N4.out g hg; omega)), ?_, HRBv.out.far (by show w.heap.size + 1 ≠ w2.heap.size; omega) _, HRRv.out.far (by show w.heap.size + 1 + 1 ≠ w2.heap.size; omega) _, bwS (BXy.out.trans (((HBz.out.mono BXy.out.size)).trans (HBL.out.mono (by omega)))) (by show w.heap.size ≤ w2.heap.size; omega) _⟩
     intro k hk
     rcases hat2 k hk with h | h
     · exact ⟨D23.out k h, D24.out k h, by have := N2.out k h; omega⟩
     · exact ⟨fun e => by have := N3.out k e; omega, fun e => by have := N4.out k e; omega, by omega⟩
  case rest =>
  obtain ⟨rfl, A5, c6, HX5, OA5, OP5, OE5, NA5, RB5, RR5, BX5⟩ := hcut
  obtain ⟨v0, rfl⟩ : ∃ x : World, x = wc := ⟨_, rfl⟩
  have hg5 := HX5.out.lt
  have NP5 : Hid (∀ k, (Value.slice B3 P.length d3).ownBlock = some k → k < w2.heap.size ∧ w1.heap.size ≤ k) := fun k h => ⟨N3.out k h, (OP5.out.lt k h).1⟩
  have NE5 : Hid (∀ k, (Value.slice B4 E.length d4).ownBlock = some k → k < w2.heap.size ∧ w1.heap.size ≤ k) := fun k h => ⟨N4.out k h, (OE5.out.lt k h).1⟩
  clear HBY RAy RBy RRy O2y O3y O4y BXy C5 HSy HSS hf1 hf2 c2y hb0 LEN5 ROOM5
  have P01 : 0 < 1 := by omega
  have P832 : 8 ≤ 32 := by omega
  have LEN6 : Hid ((iv P').length = P'.length * 1) := by show _ = _; rw [iv_length]; omega
  have CE6 : Hid (∀ j u, (iv P')[j]? = some u → v0.cell? ⟨q3, 0 + j, none⟩ = some u) := fun j u hu => (SlI.below K3.out BX5.out (Nat.le_refl _)).cellsL j u hu
  have ROOM6 : Hid (P.length + P'.length ≤ 4294967296) := by show _ ≤ _; omega
  have BASE6 : Hid (w1.heap.size ≤ v0.heap.size) := by show _ ≤ _; omega
  have m1 := HX5.out.cell 3; have m2 := RB5.out.cell 3
  go_upto_region 7 with (at_builtin; refine wpList_cells_push (w0 := v0) rfl (.tmp 27) (.tmp 29) _ rfl w1.heap.size 2 (.int .i64 0) 1 8 Try.underlying23 infoQ rfl P01 P832 (.slice B3 P.length d3) P.length (iv P) rfl OP5.out q3 0 P'.length D3 (iv P') rfl LEN6.out CE6.out (iv_one _) ROOM6.out BASE6.out ?_; intro v6 w6 ho6 hgr6 hat6; obtain ⟨B6, d6, hv6, hu6, hx6⟩ := own_form ho6; subst hv6; clear hu6 hx6; have HO6 := Lib.hid ho6; have hbx := HX5.out.grown hgr6 (fun e => by have := (NP5.out _ e.symm).1; omega); have k3 := hbx.cell 3; have f3 := hbx.frozen 3; have HX6 := Lib.hid hbx; have RB6 := Lib.hid (RB5.out.grown hgr6 (fun e => by have := (NP5.out _ e.symm).2; omega)); have RR6 := Lib.hid (RR5.out.grown hgr6 (fun e => by have := (NP5.out _ e.symm).2; omega)); have HG6 := Lib.hid hgr6; have HAT6 := Lib.hid hat6; have BX6 : Hid (Below w.heap.size w w6) := BX5.out.trans ((grown_below OP5.out hgr6 BASE6.out).mono (by omega)); clear hbx ho6 hgr6 hat6)
  clear k3 f3 m1 m2
  have hat2 : ∀ k, (Value.slice B6 (P.length + P'.length) d6).ownBlock = some k → (Value.slice B3 P.length d3).ownBlock = some k ∨ k = v0.heap.size := fun k hk => by
    rcases HAT6.out with h | h
    · exact .inl (by rw [← h]; exact hk)
    · exact .inr (by rw [h] at hk; exact (Option.some.inj hk).symm)
  have HX7 := Lib.hid (HX6.out.set_ 3 (Value.slice B6 (P.length + P'.length) d6))
  have OA7 := Lib.hid (own_move OA5.out (fun g hg => (Below.heap_setCell w6 ⟨w2.heap.size, 3, none⟩ (Value.slice B6 (P.length + P'.length) d6) g (by show g ≠ w2.heap.size; exact (NA5.out g hg).2.2)).trans (HG6.out.block g (OA5.out.lt g hg).2 (fun e => (NA5.out g hg).1 e.symm))))
  have OP7 : Hid ((w6.setCell ⟨w2.heap.size, 3, none⟩ (Value.slice B6 (P.length + P'.length) d6)).ownsRow w1.heap.size 2 1 (Value.slice B6 (P.length + P'.length) d6) (P.length + P'.length) (iv (P ++ P'))) := by
    have h1 := own_move HO6.out (fun g hg => Below.heap_setCell w6 ⟨w2.heap.size, 3, none⟩ (Value.slice B6 (P.length + P'.length) d6) g (by show g ≠ w2.heap.size; exact (hat2 g hg).elim (fun h => by have := (NP5.out g h).1; omega) (fun h => by omega)))
    show World.ownsRow _ _ _ _ _ _ _
    rw [iv_append]
    exact h1
  have OE7 := Lib.hid (own_move OE5.out (fun g hg => (Below.heap_setCell w6 ⟨w2.heap.size, 3, none⟩ (Value.slice B6 (P.length + P'.length) d6) g (by have := (NE5.out g hg).1; show g ≠ w2.heap.size; omega)).trans (HG6.out.block g (by have := (NE5.out g hg).1; omega) (fun e => D34.out g e.symm hg))))
  have RB7 := Lib.hid (RB6.out.far (p := ⟨w2.heap.size, 3, none⟩) (by show w.heap.size + 1 ≠ w2.heap.size; omega) (Value.slice B6 (P.length + P'.length) d6))
  have RR7 := Lib.hid (RR6.out.far (p := ⟨w2.heap.size, 3, none⟩) (by show w.heap.size + 1 + 1 ≠ w2.heap.size; omega) (Value.slice B6 (P.length + P'.length) d6))
  have BX7 := Lib.hid (bwS BX6.out (p := ⟨w2.heap.size, 3, none⟩) (by show w.heap.size ≤ w2.heap.size; omega) (Value.slice B6 (P.length + P'.length) d6))
  have NA7 : Hid (∀ k, (Value.slice A5 (L.length + L'.length) c6).ownBlock = some k → (Value.slice B6 (P.length + P'.length) d6).ownBlock ≠ some k) := fun k hk e => (hat2 k e).elim (fun h => (NA5.out k hk).1 h) (fun h => by have := (OA5.out.lt k hk).2; omega)
  have NQ7 : Hid (∀ k, (Value.slice B6 (P.length + P'.length) d6).ownBlock = some k → (Value.slice B4 E.length d4).ownBlock ≠ some k ∧ k ≠ w2.heap.size) := fun k hk => ⟨fun e => (hat2 k hk).elim (fun h => D34.out k h e) (fun h => by have := (NE5.out k e).1; omega), (hat2 k hk).elim (fun h => by have := (NP5.out k h).1; omega) (fun h => by omega)⟩
  have hz6 : v0.heap.size ≤ w6.heap.size := HG6.out.size
  obtain ⟨v1, hv1⟩ : ∃ x, x = (w6.setCell ⟨w2.heap.size, 3, none⟩ (Value.slice B6 (P.length + P'.length) d6)) := ⟨_, rfl⟩
  have hz7 : v0.heap.size ≤ v1.heap.size := by rw [hv1]; simpa using hz6
  rw [← hv1] at HX7 OA7 OP7 OE7 RB7 RR7 BX7 ⊢
  clear hv1 HX6 RB6 RR6 BX6 HO6 HG6 HAT6 hat2 HX5 RB5 RR5 BX5
  have LEN8 : Hid ((iv E').length = E'.length * 1) := by show _ = _; rw [iv_length]; omega
  have CE8 : Hid (∀ j u, (iv E')[j]? = some u → v1.cell? ⟨q4, 0 + j, none⟩ = some u) := fun j u hu => (SlI.below K4.out BX7.out (Nat.le_refl _)).cellsL j u hu
  have ROOM8 : Hid (E.length + E'.length ≤ 4294967296) := by show _ ≤ _; omega
  have BASE8 : Hid (w1.heap.size ≤ v1.heap.size) := by show _ ≤ _; omega
  have m1 := HX7.out.cell 4; have m2 := RB7.out.cell 4
  go_upto_region 8 with (at_builtin; refine wpList_cells_push (w0 := v1) rfl (.tmp 33) (.tmp 35) _ rfl w1.heap.size 2 (.int .i64 0) 1 8 Try.underlying23 infoQ rfl P01 P832 (.slice B4 E.length d4) E.length (iv E) rfl OE7.out q4 0 E'.length D4 (iv E') rfl LEN8.out CE8.out (iv_one _) ROOM8.out BASE8.out ?_; intro v8 w8 ho8 hgr8 hat8; obtain ⟨B8, d8, hv8, hu8, hx8⟩ := own_form ho8; subst hv8; clear hu8 hx8; have HO8 := Lib.hid ho8; have hbx := HX7.out.grown hgr8 (fun e => by have := (NE5.out _ e.symm).1; omega); have k3 := hbx.cell 4; have f3 := hbx.frozen 4; have HX8 := Lib.hid hbx; have RR8 := Lib.hid (RR7.out.grown hgr8 (fun e => by have := (NE5.out _ e.symm).2; omega)); have HG8 := Lib.hid hgr8; have HAT8 := Lib.hid hat8; have BX8 : Hid (Below w.heap.size w w8) := BX7.out.trans ((grown_below OE7.out hgr8 BASE8.out).mono (by omega)); clear hbx ho8 hgr8 hat8)
  clear k3 f3 m1 m2
  have hat2 : ∀ k, (Value.slice B8 (E.length + E'.length) d8).ownBlock = some k → (Value.slice B4 E.length d4).ownBlock = some k ∨ k = v1.heap.size := fun k hk => by
    rcases HAT8.out with h | h
    · exact .inl (by rw [← h]; exact hk)
    · exact .inr (by rw [h] at hk; exact (Option.some.inj hk).symm)
  have HX9 := Lib.hid (HX8.out.set_ 4 (Value.slice B8 (E.length + E'.length) d8))
  have OA9 := Lib.hid (own_move OA7.out (fun g hg => (Below.heap_setCell w8 ⟨w2.heap.size, 4, none⟩ (Value.slice B8 (E.length + E'.length) d8) g (by show g ≠ w2.heap.size; exact (NA5.out g hg).2.2)).trans (HG8.out.block g (OA7.out.lt g hg).2 (fun e => (NA5.out g hg).2.1 e.symm))))
  have OP9 := Lib.hid (own_move OP7.out (fun g hg => (Below.heap_setCell w8 ⟨w2.heap.size, 4, none⟩ (Value.slice B8 (E.length + E'.length) d8) g (by show g ≠ w2.heap.size; exact (NQ7.out g hg).2)).trans (HG8.out.block g (OP7.out.lt g hg).2 (fun e => (NQ7.out g hg).1 e.symm))))
  have OE9 : Hid ((w8.setCell ⟨w2.heap.size, 4, none⟩ (Value.slice B8 (E.length + E'.length) d8)).ownsRow w1.heap.size 2 1 (Value.slice B8 (E.length + E'.length) d8) (E.length + E'.length) (iv (E ++ E'))) := by
    have h1 := own_move HO8.out (fun g hg => Below.heap_setCell w8 ⟨w2.heap.size, 4, none⟩ (Value.slice B8 (E.length + E'.length) d8) g (by show g ≠ w2.heap.size; exact (hat2 g hg).elim (fun h => by have := (NE5.out g h).1; omega) (fun h => by omega)))
    show World.ownsRow _ _ _ _ _ _ _
    rw [iv_append]
    exact h1
  have RR9 := Lib.hid (RR8.out.far (p := ⟨w2.heap.size, 4, none⟩) (by show w.heap.size + 1 + 1 ≠ w2.heap.size; omega) (Value.slice B8 (E.length + E'.length) d8))
  have BX9 := Lib.hid (bwS BX8.out (p := ⟨w2.heap.size, 4, none⟩) (by show w.heap.size ≤ w2.heap.size; omega) (Value.slice B8 (E.length + E'.length) d8))
  have NA9 : Hid (∀ k, (Value.slice A5 (L.length + L'.length) c6).ownBlock = some k → (Value.slice B8 (E.length + E'.length) d8).ownBlock ≠ some k) := fun k hk e => (hat2 k e).elim (fun h => (NA5.out k hk).2.1 h) (fun h => by have := (OA7.out.lt k hk).2; omega)
  have NP9 : Hid (∀ k, (Value.slice B6 (P.length + P'.length) d6).ownBlock = some k → (Value.slice B8 (E.length + E'.length) d8).ownBlock ≠ some k) := fun k hk e => (hat2 k e).elim (fun h => (NQ7.out k hk).1 h) (fun h => by have := (OP7.out.lt k hk).2; omega)
  have hz8 : v1.heap.size ≤ w8.heap.size := HG8.out.size
  obtain ⟨v2, hv2⟩ : ∃ x, x = (w8.setCell ⟨w2.heap.size, 4, none⟩ (Value.slice B8 (E.length + E'.length) d8)) := ⟨_, rfl⟩
  have hz9 : v1.heap.size ≤ v2.heap.size := by rw [hv2]; simpa using hz8
  rw [← hv2] at HX9 OA9 OP9 OE9 RR9 BX9 ⊢
  clear hv2 HX8 RR8 BX8 HO8 HG8 HAT8 hat2 HX7 RB7 RR7 BX7
  have HK := Lib.hid (sGiveG w1.heap.size (S + S') T (eiL S L L') (P ++ P') (E ++ E') A5 (L.length + L'.length) c6 B6 (P.length + P'.length) d6 B8 (E.length + E'.length) d8 v2 OA9.out OP9.out OE9.out (eiL_len S L L') (by simp) (by simp) (by omega) (by omega) (by omega))
  have k0 := HX9.out.cell 0; have k1 := HX9.out.cell 1; have k2 := HX9.out.cell 2; have k3 := HX9.out.cell 3; have k4 := HX9.out.cell 4
  go_wp2_with (go_at_call 19; refine HK.out.mono ?_; rintro e y5 ⟨ok2, hok2, rfl, hb5⟩; have HOK2 := Lib.hid hok2; have RRz := Lib.hid (RR9.out.below hb5 RR9.out.lt); have BXz := Lib.hid (BX9.out.trans (hb5.mono BX9.out.size)); have HB5 := Lib.hid hb5; have s0 := RRz.out.cell 0; have s1 := RRz.out.cell 1; have s2 := RRz.out.cell 2; have s3 := RRz.out.cell 3; have s4 := RRz.out.cell 4; have f0 := RRz.out.frozen 0; have f1 := RRz.out.frozen 1; have f2 := RRz.out.frozen 2; have f3 := RRz.out.frozen 3; have f4 := RRz.out.frozen 4; clear hok2 hb5 k0 k1 k2 k3 k4)
  clear s0 s1 s2 s3 s4 f0 f1 f2 f3 f4
  have hF := (((((RRz.out.set_ 0 (.int .i64 (ckI ok2 (S + S')))).set_ 1 (.int .i64 (ckI ok2 T))).set_ 2 (.slice (ckA ok2 A5) (ckN ok2 (L.length + L'.length)) (ckN ok2 c6))).set_ 3 (.slice (ckA ok2 B6) (ckN ok2 (P.length + P'.length)) (ckN ok2 d6))).set_ 4 (.slice (ckA ok2 B8) (ckN ok2 (E.length + E'.length)) (ckN ok2 d8)))
  have hBF : Below w.heap.size w (((((y5.setCell ⟨w.heap.size + 1 + 1, 0, none⟩ (.int .i64 (ckI ok2 (S + S')))).setCell ⟨w.heap.size + 1 + 1, 1, none⟩ (.int .i64 (ckI ok2 T))).setCell ⟨w.heap.size + 1 + 1, 2, none⟩ (.slice (ckA ok2 A5) (ckN ok2 (L.length + L'.length)) (ckN ok2 c6))).setCell ⟨w.heap.size + 1 + 1, 3, none⟩ (.slice (ckA ok2 B6) (ckN ok2 (P.length + P'.length)) (ckN ok2 d6))).setCell ⟨w.heap.size + 1 + 1, 4, none⟩ (.slice (ckA ok2 B8) (ckN ok2 (E.length + E'.length)) (ckN ok2 d8))) := (bwS (bwS (bwS (bwS (bwS BXz.out (p := ⟨w.heap.size + 1 + 1, 0, none⟩) (by show w.heap.size ≤ w.heap.size + 1 + 1; omega) (.int .i64 (ckI ok2 (S + S')))) (p := ⟨w.heap.size + 1 + 1, 1, none⟩) (by show w.heap.size ≤ w.heap.size + 1 + 1; omega) (.int .i64 (ckI ok2 T))) (p := ⟨w.heap.size + 1 + 1, 2, none⟩) (by show w.heap.size ≤ w.heap.size + 1 + 1; omega) (.slice (ckA ok2 A5) (ckN ok2 (L.length + L'.length)) (ckN ok2 c6))) (p := ⟨w.heap.size + 1 + 1, 3, none⟩) (by show w.heap.size ≤ w.heap.size + 1 + 1; omega) (.slice (ckA ok2 B6) (ckN ok2 (P.length + P'.length)) (ckN ok2 d6))) (p := ⟨w.heap.size + 1 + 1, 4, none⟩) (by show w.heap.size ≤ w.heap.size + 1 + 1; omega) (.slice (ckA ok2 B8) (ckN ok2 (E.length + E'.length)) (ckN ok2 d8)))
  have keepF : ∀ g, w1.heap.size ≤ g → g < v2.heap.size → (((((y5.setCell ⟨w.heap.size + 1 + 1, 0, none⟩ (.int .i64 (ckI ok2 (S + S')))).setCell ⟨w.heap.size + 1 + 1, 1, none⟩ (.int .i64 (ckI ok2 T))).setCell ⟨w.heap.size + 1 + 1, 2, none⟩ (.slice (ckA ok2 A5) (ckN ok2 (L.length + L'.length)) (ckN ok2 c6))).setCell ⟨w.heap.size + 1 + 1, 3, none⟩ (.slice (ckA ok2 B6) (ckN ok2 (P.length + P'.length)) (ckN ok2 d6))).setCell ⟨w.heap.size + 1 + 1, 4, none⟩ (.slice (ckA ok2 B8) (ckN ok2 (E.length + E'.length)) (ckN ok2 d8))).heap[g]? = v2.heap[g]? := fun g h1 h2 => (heap_set5 _ _ _ _ _ (by omega)).trans (HB5.out.block g h2)
  refine bodyPost_ret (results_cell2 rfl _ _ (w.heap.size + 1 + 1) 29 #[.int .i64 (ckI ok2 (S + S')), .int .i64 (ckI ok2 T), .slice (ckA ok2 A5) (ckN ok2 (L.length + L'.length)) (ckN ok2 c6), .slice (ckA ok2 B6) (ckN ok2 (P.length + P'.length)) (ckN ok2 d6), .slice (ckA ok2 B8) (ckN ok2 (E.length + E'.length)) (ckN ok2 d8)] (0, 0) _ (.bool ok2) rfl rfl hF Try.underlying29 rfl (by kernel_rfl)) rfl ?_
  obtain ⟨F, hFF⟩ : ∃ F, F = (((((y5.setCell ⟨w.heap.size + 1 + 1, 0, none⟩ (.int .i64 (ckI ok2 (S + S')))).setCell ⟨w.heap.size + 1 + 1, 1, none⟩ (.int .i64 (ckI ok2 T))).setCell ⟨w.heap.size + 1 + 1, 2, none⟩ (.slice (ckA ok2 A5) (ckN ok2 (L.length + L'.length)) (ckN ok2 c6))).setCell ⟨w.heap.size + 1 + 1, 3, none⟩ (.slice (ckA ok2 B6) (ckN ok2 (P.length + P'.length)) (ckN ok2 d6))).setCell ⟨w.heap.size + 1 + 1, 4, none⟩ (.slice (ckA ok2 B8) (ckN ok2 (E.length + E'.length)) (ckN ok2 d8))) := ⟨_, rfl⟩
  rw [← hFF] at hBF keepF ⊢
  clear hF hFF
  have hf : eiOk S T L P E S' T' L' P' E' = ok2 := by
    have h9 := HT9.out
    unfold twB at h9
    unfold eiOk
    rw [h9, Bool.true_and, HOK2.out]
  rw [hf]
  have oa : F.ownsRow w1.heap.size 49 4 (.slice A5 (L.length + L'.length) c6) (eiL S L L').length (fa (eiL S L L')) := by rw [eiL_len]; exact own_move OA9.out (fun g hg => keepF g (OA9.out.lt g hg).1 (OA9.out.lt g hg).2)
  have os : F.ownsRow w1.heap.size 2 1 (.slice B6 (P.length + P'.length) d6) (P ++ P').length (iv (P ++ P')) := by rw [List.length_append]; exact own_move OP9.out (fun g hg => keepF g (OP9.out.lt g hg).1 (OP9.out.lt g hg).2)
  have oe : F.ownsRow w1.heap.size 2 1 (.slice B8 (E.length + E'.length) d8) (E ++ E').length (iv (E ++ E')) := by rw [List.length_append]; exact own_move OE9.out (fun g hg => keepF g (OE9.out.lt g hg).1 (OE9.out.lt g hg).2)
  rw [← ckV_agg]
  exact ⟨_, F.heap.size, rfl, Nat.le_refl _, ckO ok2 ⟨_, _, _, rfl, ⟨World.ownsRow.mono oa (by omega), fun k hk => (oa.lt k hk).2⟩, ⟨World.ownsRow.mono os (by omega), fun k hk => (os.lt k hk).2⟩, ⟨World.ownsRow.mono oe (by omega), fun k hk => (oe.lt k hk).2⟩, NA7.out, NA9.out, NP9.out⟩, hBF⟩
end Go.Proofs.Ytkkjhakniolooaa
