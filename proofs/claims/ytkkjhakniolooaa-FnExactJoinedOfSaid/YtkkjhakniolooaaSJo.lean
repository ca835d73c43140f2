/- JoinedOf of the reference. -/
import Derived.Test.YtkkjhakniolooaaSTw
import Derived.Test.YtkkjhakniolooaaSOw
import Derived.Test.YtkkjhakniolooaaJoP
import Derived.Test.YtkkjhakniolooaaSEi
import Derived.Test.YtkkjhakniolooaaM3J
import Derived.Deep.RegionLaw
import Derived.Deep.RegionWith
import Derived.Deep.DrawnRows
namespace Go.Proofs.Ytkkjhakniolooaa
open Go.RowKit
set_option linter.unusedVariables false
attribute [local go_sem ↓] Go.wp_at_zero Go.wp_at_succ
set_option maxRecDepth 100000 in
set_option maxHeartbeats 16000000 in
theorem sJoined_any (S T : Int) (L : List A4) (P E : List Int) (p2 p3 p4 C2 C3 C4 : Nat) (S' T' : Int) (L' : List A4) (P' E' : List Int) (q2 q3 q4 D2 D3 D4 : Nat) (w : World)
    (h2 : SlA w w.heap.size (some ⟨p2, 0, none⟩) L.length L) (h3 : SlI w w.heap.size (some ⟨p3, 0, none⟩) P.length P) (h4 : SlI w w.heap.size (some ⟨p4, 0, none⟩) E.length E)
    (k2 : SlA w w.heap.size (some ⟨q2, 0, none⟩) L'.length L') (k3 : SlI w w.heap.size (some ⟨q3, 0, none⟩) P'.length P') (k4 : SlI w w.heap.size (some ⟨q4, 0, none⟩) E'.length E')
    (hL : L.length ≤ 1048576) (hP : P.length ≤ 1048576) (hE : E.length ≤ 1048576) (kL : L'.length ≤ 1048576) (kP : P'.length ≤ 1048576) (kE : E'.length ≤ 1048576) :
    Calls Try.prog 12 #[.agg #[.int .i64 S, .int .i64 T, .slice (some ⟨p2, 0, none⟩) L.length C2, .slice (some ⟨p3, 0, none⟩) P.length C3, .slice (some ⟨p4, 0, none⟩) E.length C4], .agg #[.int .i64 S', .int .i64 T', .slice (some ⟨q2, 0, none⟩) L'.length D2, .slice (some ⟨q3, 0, none⟩) P'.length D3, .slice (some ⟨q4, 0, none⟩) E'.length D4]] w fun e w' => ∃ v' hi, e = .returned (.tuple #[v', .bool (joOk S T L P E S' T' L' P' E')]) ∧ hi ≤ w'.heap.size ∧ McO w' w.heap.size hi v' (ckI (joOk S T L P E S' T' L' P' E') (S + S')) (ckI (joOk S T L P E S' T' L' P' E') T) (ckL (joOk S T L P E S' T' L' P' E') (joA S L L' P' E)) (ckL (joOk S T L P E S' T' L' P' E') (joS P P')) (ckL (joOk S T L P E S' T' L' P' E') (joE P E')) ∧ Below w.heap.size w w' := by
  have ra := ((Row.new w 29 [.int .i64 S, .int .i64 T, .slice (some ⟨p2, 0, none⟩) L.length C2, .slice (some ⟨p3, 0, none⟩) P.length C3, .slice (some ⟨p4, 0, none⟩) E.length C4]).alloc (.cells ([.int .i64 S', .int .i64 T', .slice (some ⟨q2, 0, none⟩) L'.length D2, .slice (some ⟨q3, 0, none⟩) P'.length D3, .slice (some ⟨q4, 0, none⟩) E'.length D4] : List Value).toArray 29)).alloc (.cells ([.int .i64 0, .int .i64 0, .slice none 0 0, .slice none 0 0, .slice none 0 0] : List Value).toArray 29)
  have rb := (Row.new (w.alloc (.cells ([.int .i64 S, .int .i64 T, .slice (some ⟨p2, 0, none⟩) L.length C2, .slice (some ⟨p3, 0, none⟩) P.length C3, .slice (some ⟨p4, 0, none⟩) E.length C4] : List Value).toArray 29)) 29 [.int .i64 S', .int .i64 T', .slice (some ⟨q2, 0, none⟩) L'.length D2, .slice (some ⟨q3, 0, none⟩) P'.length D3, .slice (some ⟨q4, 0, none⟩) E'.length D4]).alloc (.cells ([.int .i64 0, .int .i64 0, .slice none 0 0, .slice none 0 0, .slice none 0 0] : List Value).toArray 29)
  have rr := Row.new ((w.alloc (.cells ([.int .i64 S, .int .i64 T, .slice (some ⟨p2, 0, none⟩) L.length C2, .slice (some ⟨p3, 0, none⟩) P.length C3, .slice (some ⟨p4, 0, none⟩) E.length C4] : List Value).toArray 29)).alloc (.cells ([.int .i64 S', .int .i64 T', .slice (some ⟨q2, 0, none⟩) L'.length D2, .slice (some ⟨q3, 0, none⟩) P'.length D3, .slice (some ⟨q4, 0, none⟩) E'.length D4] : List Value).toArray 29)) 29 [.int .i64 0, .int .i64 0, .slice none 0 0, .slice none 0 0, .slice none 0 0]
  rw [show (w.alloc (.cells ([.int .i64 S, .int .i64 T, .slice (some ⟨p2, 0, none⟩) L.length C2, .slice (some ⟨p3, 0, none⟩) P.length C3, .slice (some ⟨p4, 0, none⟩) E.length C4] : List Value).toArray 29)).heap.size = w.heap.size + 1 by simp] at rb
  rw [show ((w.alloc (.cells ([.int .i64 S, .int .i64 T, .slice (some ⟨p2, 0, none⟩) L.length C2, .slice (some ⟨p3, 0, none⟩) P.length C3, .slice (some ⟨p4, 0, none⟩) E.length C4] : List Value).toArray 29)).alloc (.cells ([.int .i64 S', .int .i64 T', .slice (some ⟨q2, 0, none⟩) L'.length D2, .slice (some ⟨q3, 0, none⟩) P'.length D3, .slice (some ⟨q4, 0, none⟩) E'.length D4] : List Value).toArray 29)).heap.size = w.heap.size + 1 + 1 by simp] at rr
  have bx : Below w.heap.size w (((w.alloc (.cells ([.int .i64 S, .int .i64 T, .slice (some ⟨p2, 0, none⟩) L.length C2, .slice (some ⟨p3, 0, none⟩) P.length C3, .slice (some ⟨p4, 0, none⟩) E.length C4] : List Value).toArray 29)).alloc (.cells ([.int .i64 S', .int .i64 T', .slice (some ⟨q2, 0, none⟩) L'.length D2, .slice (some ⟨q3, 0, none⟩) P'.length D3, .slice (some ⟨q4, 0, none⟩) E'.length D4] : List Value).toArray 29)).alloc (.cells ([.int .i64 0, .int .i64 0, .slice none 0 0, .slice none 0 0, .slice none 0 0] : List Value).toArray 29)) := (((Below.refl _ _).alloc (Nat.le_refl _) _).alloc (by simp) _).alloc (by simp; omega) _
  have RA := Lib.hid ra; have RB := Lib.hid rb; have RR := Lib.hid rr; have BX := Lib.hid bx; clear ra rb rr bx
  have H2 := Lib.hid h2; have H3 := Lib.hid h3; have H4 := Lib.hid h4; have K2 := Lib.hid k2; have K3 := Lib.hid k3; have K4 := Lib.hid k4
  clear h2 h3 h4 k2 k3 k4
  go_enter Try.func12, Try.ntmps12
  go_wp2_with fail
  obtain ⟨x0, hx0⟩ : ∃ x, x = ((w.alloc (.cells ([.int .i64 S, .int .i64 T, .slice (some ⟨p2, 0, none⟩) L.length C2, .slice (some ⟨p3, 0, none⟩) P.length C3, .slice (some ⟨p4, 0, none⟩) E.length C4] : List Value).toArray 29)).alloc (.cells ([.int .i64 S', .int .i64 T', .slice (some ⟨q2, 0, none⟩) L'.length D2, .slice (some ⟨q3, 0, none⟩) P'.length D3, .slice (some ⟨q4, 0, none⟩) E'.length D4] : List Value).toArray 29)).alloc (.cells ([.int .i64 0, .int .i64 0, .slice none 0 0, .slice none 0 0, .slice none 0 0] : List Value).toArray 29) := ⟨_, rfl⟩
  rw [← hx0] at RA RB RR BX
  change Calls _ _ _ (((w.alloc (.cells ([.int .i64 S, .int .i64 T, .slice (some ⟨p2, 0, none⟩) L.length C2, .slice (some ⟨p3, 0, none⟩) P.length C3, .slice (some ⟨p4, 0, none⟩) E.length C4] : List Value).toArray 29)).alloc (.cells ([.int .i64 S', .int .i64 T', .slice (some ⟨q2, 0, none⟩) L'.length D2, .slice (some ⟨q3, 0, none⟩) P'.length D3, .slice (some ⟨q4, 0, none⟩) E'.length D4] : List Value).toArray 29)).alloc (.cells ([.int .i64 0, .int .i64 0, .slice none 0 0, .slice none 0 0, .slice none 0 0] : List Value).toArray 29)) _
  rw [← hx0]
  clear hx0
  have z0 := BX.out.size
  refine (sTwoM_any w.heap.size (w.heap.size + 1) S T L P E _ _ C2 _ _ C3 _ _ C4 S' T' L' P' E' _ _ D2 _ _ D3 _ _ D4 x0 RA.out RB.out ((H2.out.below BX.out (Nat.le_refl _)).more z0) ((H3.out.below BX.out (Nat.le_refl _)).more z0) ((H4.out.below BX.out (Nat.le_refl _)).more z0) ((K2.out.below BX.out (Nat.le_refl _)).more z0) ((K3.out.below BX.out (Nat.le_refl _)).more z0) ((K4.out.below BX.out (Nat.le_refl _)).more z0) (by omega) (by omega) (by omega) (by omega) (by omega) (by omega) (by omega)).mono ?_
  rintro e w1 ⟨rfl, hb1⟩
  have BX1 := Lib.hid (BX.out.trans (hb1.mono BX.out.size))
  have RA1 := Lib.hid (RA.out.below hb1 RA.out.lt); have RB1 := Lib.hid (RB.out.below hb1 RB.out.lt); have RR1 := Lib.hid (RR.out.below hb1 RR.out.lt)
  clear hb1 z0
  obtain ⟨ok, hok⟩ : ∃ ok, ok = twB S T L P E S' T' L' P' E' := ⟨_, rfl⟩
  rw [← hok]
  have HOK := Lib.hid hok; clear hok
  cases ok with
  | false =>
    have r0 := RR1.out.cell 0; have r1 := RR1.out.cell 1; have r2 := RR1.out.cell 2; have r3 := RR1.out.cell 3; have r4 := RR1.out.cell 4
    have f0 := RR1.out.frozen 0; have f1 := RR1.out.frozen 1; have f2 := RR1.out.frozen 2; have f3 := RR1.out.frozen 3; have f4 := RR1.out.frozen 4
    go_wp2_with fail
    clear r0 f0 r1 f1 r2 f2 r3 f3 r4 f4
    have hF := (((((RR1.out.set_ 0 (.int .i64 0)).set_ 1 (.int .i64 0)).set_ 2 (.slice none 0 0)).set_ 3 (.slice none 0 0)).set_ 4 (.slice none 0 0))
    refine bodyPost_ret (results_cell2 rfl _ _ (w.heap.size + 1 + 1) 29 #[.int .i64 0, .int .i64 0, .slice none 0 0, .slice none 0 0, .slice none 0 0] (0, 0) _ (.bool false) rfl rfl hF Try.underlying29 rfl (by kernel_rfl)) rfl ?_
    have hf : joOk S T L P E S' T' L' P' E' = false := by
      have h9 : twB S T L P E S' T' L' P' E' = false := HOK.out.symm
      unfold twB at h9
      unfold joOk
      rw [h9]; rfl
    rw [hf]
    have hle : w.heap.size ≤ w.heap.size + 1 + 1 := by omega
    have hbF := (((((BX1.out.setCell (p := ⟨w.heap.size + 1 + 1, 0, none⟩) hle (.int .i64 0)).setCell (p := ⟨w.heap.size + 1 + 1, 1, none⟩) hle (.int .i64 0)).setCell (p := ⟨w.heap.size + 1 + 1, 2, none⟩) hle (.slice none 0 0)).setCell (p := ⟨w.heap.size + 1 + 1, 3, none⟩) hle (.slice none 0 0)).setCell (p := ⟨w.heap.size + 1 + 1, 4, none⟩) hle (.slice none 0 0))
    exact ⟨_, w.heap.size, rfl, hbF.size, ⟨_, _, _, rfl, OwnV.nil _ _ _ _ _, OwnV.nil _ _ _ _ _, OwnV.nil _ _ _ _ _, fun k hk => by simp [Value.ownBlock] at hk, fun k hk => by simp [Value.ownBlock] at hk, fun k hk => by simp [Value.ownBlock] at hk⟩, hbF⟩
  | true =>
  have z1 := BX1.out.size
  have hlr := RR1.out.lt
  go_wp2_with fail
  refine (sOwn_any w.heap.size S T L P E p2 p3 p4 C2 C3 C4 w1 RA1.out ((H2.out.below BX1.out (Nat.le_refl _)).more z1) ((H3.out.below BX1.out (Nat.le_refl _)).more z1) ((H4.out.below BX1.out (Nat.le_refl _)).more z1) hL hP hE).mono ?_
  rintro e w2 ⟨A', c', B3, d3, B4, d4, rfl, o2, o3, o4, a23, a24, a34, hb2⟩
  have BX2 := Lib.hid (BX1.out.trans (hb2.mono BX1.out.size))
  have RA2 := Lib.hid (RA1.out.below hb2 RA1.out.lt); have RB2 := Lib.hid (RB1.out.below hb2 RB1.out.lt); have RR2 := Lib.hid (RR1.out.below hb2 RR1.out.lt)
  have O2 := Lib.hid o2; have O3 := Lib.hid o3; have O4 := Lib.hid o4; have D23 := Lib.hid a23; have D24 := Lib.hid a24; have D34 := Lib.hid a34
  have Z12 := Lib.hid hb2.size; have BX2x := Lib.hid hb2
  have hz12 := hb2.size
  clear o2 o3 o4 a23 a24 a34 hb2 z1
  go_upto_region 4 with fail
  have HT9 : Hid (twB S T L P E S' T' L' P' E' = true) := HOK.out.symm
  have hvm : vmB S T L P E = true ∧ vmB S' T' L' P' E' = true ∧ T = T' := by
    have := HT9.out
    unfold twB at this
    rw [Bool.and_eq_true, Bool.and_eq_true] at this
    exact ⟨this.1.1, this.1.2, of_decide_eq_true this.2⟩
  obtain ⟨hv1, hv2, hTT⟩ := hvm
  obtain ⟨qS, qT, qL, -, qP, qE⟩ := vmB_true hv1
  obtain ⟨rS, rT, rL, rA, rP, rE⟩ := vmB_true hv2
  obtain ⟨qP1, -⟩ := mkB_true qP
  obtain ⟨qE1, qE2⟩ := mkB_true qE
  obtain ⟨rP1, rP2⟩ := mkB_true rP
  obtain ⟨rE1, -⟩ := mkB_true rE
  have QE := Lib.hid qE2; have QP' := Lib.hid rP2
  clear qP qE rP rE qE2 rP2
  have QA : Hid (∀ a ∈ L', -1000 ≤ a.1 ∧ a.1 ≤ 1000 ∧ -1000 ≤ a.2.1 ∧ a.2.1 ≤ 1000) := fun a ha => by have := okAm_true (rA a ha); omega
  clear rA hv1 hv2
  have HTT := Lib.hid hTT; clear hTT
  have HM0 : Hid (M3 w1 (w2.alloc (.cells ([.int .i64 S, .int .i64 T, .slice A' L.length c', .slice B3 P.length d3, .slice B4 E.length d4] : List Value).toArray 29)) w1.heap.size w2.heap.size 29 49 2 2 4 1 1 (.int .i64 S) (.int .i64 T) (.slice A' L.length c') (.slice B3 P.length d3) (.slice B4 E.length d4) L.length P.length E.length (fa L) (iv P) (iv E)) := by
    have e2 := O2.out.alloc ((.cells ([.int .i64 S, .int .i64 T, .slice A' L.length c', .slice B3 P.length d3, .slice B4 E.length d4] : List Value).toArray 29)); have e3 := O3.out.alloc ((.cells ([.int .i64 S, .int .i64 T, .slice A' L.length c', .slice B3 P.length d3, .slice B4 E.length d4] : List Value).toArray 29)); have e4 := O4.out.alloc ((.cells ([.int .i64 S, .int .i64 T, .slice A' L.length c', .slice B3 P.length d3, .slice B4 E.length d4] : List Value).toArray 29))
    exact ⟨Row.new _ _ _, ((Below.refl _ _).trans (BX2x.out)).alloc Z12.out _, Z12.out, Nat.le_refl _, e2, e3, e4, fun k hk => ⟨by have := (O2.out.lt k hk).2; omega, fun e => D23.out k hk e, fun e => D24.out k hk e⟩, fun k hk => ⟨by have := (O3.out.lt k hk).2; omega, fun e => D34.out k hk e⟩, fun k hk => by have := (O4.out.lt k hk).2; omega⟩
  obtain ⟨wa, hwa⟩ : ∃ x, x = w2.alloc (.cells ([.int .i64 S, .int .i64 T, .slice A' L.length c', .slice B3 P.length d3, .slice B4 E.length d4] : List Value).toArray 29) := ⟨_, rfl⟩
  rw [← hwa] at HM0
  rw [show w2.alloc (.cells #[.int .i64 S, .int .i64 T, .slice A' L.length c', .slice B3 P.length d3, .slice B4 E.length d4] 29) = wa from hwa.symm]
  clear hwa
  have KA : Hid (∀ x : World, Below w1.heap.size w1 x → Row x w.heap.size 29 [.int .i64 S, .int .i64 T, .slice (some ⟨p2, 0, none⟩) L.length C2, .slice (some ⟨p3, 0, none⟩) P.length C3, .slice (some ⟨p4, 0, none⟩) E.length C4] ∧ Row x (w.heap.size + 1) 29 [.int .i64 S', .int .i64 T', .slice (some ⟨q2, 0, none⟩) L'.length D2, .slice (some ⟨q3, 0, none⟩) P'.length D3, .slice (some ⟨q4, 0, none⟩) E'.length D4] ∧ Row x (w.heap.size + 1 + 1) 29 [.int .i64 0, .int .i64 0, .slice none 0 0, .slice none 0 0, .slice none 0 0] ∧ Below w.heap.size w x) := fun x hx => ⟨RA1.out.below hx RA1.out.lt, RB1.out.below hx RB1.out.lt, RR1.out.below hx RR1.out.lt, BX1.out.trans (hx.mono BX1.out.size)⟩
  have s1 := (KA.out wa HM0.out.bel).1.cell 0; have s2 := (KA.out wa HM0.out.bel).2.1.cell 0; have s3 := HM0.out.row.cell 0; have s4 := HM0.out.row.frozen 0
  have wS : IntKind.i64.wrap (S + S') = S + S' := IntWalk.i64_in _ (by omega)
  clear RA2 RB2 RR2 O2 O3 O4
  go_upto_region 5 with fail
  clear s1 s2 s3 s4
  have HMy := Lib.hid (M3.set0 HM0.out (.int .i64 (S + S')))
  obtain ⟨y, hy⟩ : ∃ x, x = wa.setCell ⟨w2.heap.size, 0, none⟩ (.int .i64 (S + S')) := ⟨_, rfl⟩
  rw [← hy] at HMy ⊢
  clear hy HM0
  have HD0 : Hid (M3 w1 y.drew w1.heap.size w2.heap.size 29 49 2 2 4 1 1 (.int .i64 (S + S')) (.int .i64 T) (.slice A' L.length c') (.slice B3 P.length d3) (.slice B4 E.length d4) L.length P.length E.length (fa L) (iv P) (iv E)) := M3.drew HMy.out
  have C5 : Hid (∀ x : World, Below w1.heap.size w1 x → Calls Try.prog 18 #[.slice (some ⟨q2, 0, none⟩) L'.length D2, .int .i64 S] x fun e w' => ∃ g c', e = .returned (.slice (some ⟨g, 0, none⟩) L'.length c') ∧ w'.ownsRow x.heap.size 49 4 (.slice (some ⟨g, 0, none⟩) L'.length c') L'.length (fa (L'.map (mvA S))) ∧ Below x.heap.size x w') := fun x hx =>
    sBehindS_any x.heap.size (some ⟨q2, 0, none⟩) L'.length D2 L' S x (Nat.le_refl _) ((K2.out.below (KA.out x hx).2.2.2 (Nat.le_refl _)).more (KA.out x hx).2.2.2.size) kL (by omega) QA.out
  have C6 : Hid (∀ (n : Nat) (x : World), n ≤ 1048576 → 0 < n → Calls Try.prog 33 #[.int .i64 n] x fun e w' => ∃ g c', e = .returned (.slice (some ⟨g, 0, none⟩) n c') ∧ w'.ownsRow x.heap.size 2 1 (.slice (some ⟨g, 0, none⟩) n c') n (iv (List.replicate n (-1))) ∧ Below x.heap.size x w') := fun n x hn h0 => by
    refine (sNone_any n x hn).mono ?_
    rintro e w' ⟨A, c, rfl, hr, hb⟩
    have hr' : w'.ownsRow x.heap.size 2 1 (.slice A n c) (List.replicate n (-1)).length (iv (List.replicate n (-1))) := hr
    rw [List.length_replicate] at hr'
    obtain ⟨g, rfl⟩ := own_some hr' h0
    exact ⟨g, c, rfl, hr', hb⟩
  have hf1 := (KA.out _ HD0.out.bel).2.1.cell 2; have hf2 := (KA.out _ HD0.out.bel).1.cell 0; have c2y := HD0.out.row.cell 2
  have P04 : 0 < 4 := by omega
  have P3232 : 32 ≤ 32 := by omega
  have P01 : 0 < 1 := by omega
  have P832 : 8 ≤ 32 := by omega
  have LEN5 : Hid ((fa (L'.map (mvA S))).length = L'.length * 4) := by show _ = _; rw [fa_length, List.length_map]; omega
  have ROOM5 : Hid (L.length + L'.length ≤ 4294967296) := by show _ ≤ _; omega
  go_cut [6] from 9 to 93 (fun p6 wx => p6 = .pointer (some ⟨w2.heap.size, 0, none⟩) ∧ ∃ (A5 : Option Addr) (c6 : Nat), Hid (M3 w1 wx w1.heap.size w2.heap.size 29 49 2 2 4 1 1 (.int .i64 (S + S')) (.int .i64 T) (.slice A5 (L.length + L'.length) c6) (.slice B3 P.length d3) (.slice B4 E.length d4) (L.length + L'.length) P.length E.length (fa (eiL S L L')) (iv P) (iv E)))
  case first =>
   go_region_law
     (first
       | (rw [if_pos (by rfl)]; go_simp; go_at_call 18; refine (C5.out _ HD0.out.bel).mono ?_; rintro e wz ⟨g5, c5, rfl, hoz, hbz⟩; have HZ := Lib.hid (M3.call HD0.out hbz (Nat.le_refl _)); have CE5 : Hid (∀ j u, (fa (L'.map (mvA S)))[j]? = some u → wz.cell? ⟨g5, 0 + j, none⟩ = some u) := own_cells0 hoz; have z1 := (KA.out _ HZ.out.bel).2.1.cell 2; have z2 := (KA.out _ HZ.out.bel).1.cell 0; have c2z := HZ.out.row.cell 2; clear hoz hbz)
       | (refine step_cells_push rfl (.tmp 20) (.tmp 25) _ rfl w1.heap.size 49 (.agg #[.int .i64 0, .int .i64 0, .int .i64 0, .int .i64 0]) 4 32 Try.underlying27 infoAr rfl P04 P3232 (.slice A' L.length c') L.length (fa L) ?_ HZ.out.o2 g5 0 L'.length c5 (fa (L'.map (mvA S))) ?_ LEN5.out CE5.out (fa_one _) ROOM5.out HZ.out.size ?_; rfl; rfl; intro A5 c6 wv hvE hgr hbl hat; have HV := Lib.hid (M3.push2 HZ.out hvE hgr hat); have hrow := HZ.out.row.grown hgr (fun e => (HZ.out.d2 _ e.symm).1 rfl); have x2 := hrow.cell 2; have f2 := hrow.frozen 2; clear hrow hvE hgr hbl hat))
   all_goals
     go_wp2_with fail
     go_meet
     have hv := HV.out
     rw [← fa_append] at hv
     exact ⟨rfl, A5, c6, hv⟩
  case rest =>
  obtain ⟨rfl, A5, c6, HM5⟩ := hcut
  obtain ⟨v0, rfl⟩ : ∃ x : World, x = wc := ⟨_, rfl⟩
  clear HMy HD0 C5 hf1 hf2 c2y LEN5 ROOM5
  have HD0 : Hid (M3 w1 v0.drew w1.heap.size w2.heap.size 29 49 2 2 4 1 1 (.int .i64 (S + S')) (.int .i64 T) (.slice A5 (L.length + L'.length) c6) (.slice B3 P.length d3) (.slice B4 E.length d4) (L.length + L'.length) P.length E.length (fa (eiL S L L')) (iv P) (iv E)) := M3.drew HM5.out
  have C6a : Hid (∀ x : World, Calls Try.prog 33 #[.int .i64 S'] x fun e w' => ∃ g c', e = .returned (.slice (some ⟨g, 0, none⟩) P'.length c') ∧ w'.ownsRow x.heap.size 2 1 (.slice (some ⟨g, 0, none⟩) P'.length c') P'.length (iv (List.replicate P'.length (-1))) ∧ Below x.heap.size x w') := fun x => by
    rw [show S' = ((P'.length : Nat) : Int) by omega]
    exact C6.out P'.length x (by omega) (by omega)
  have hf2 := (KA.out _ HD0.out.bel).2.1.cell 0; have c2y := HD0.out.row.cell 3
  have LEN5 : Hid ((iv (List.replicate P'.length (-1))).length = P'.length * 1) := by show _ = _; rw [iv_length, List.length_replicate]; omega
  have ROOM5 : Hid (P.length + P'.length ≤ 4294967296) := by show _ ≤ _; omega
  go_upto_region 6 with fail
  go_cut [6] from 9 to 93 (fun p6 wx => p6 = .pointer (some ⟨w2.heap.size, 0, none⟩) ∧ ∃ (B6 : Option Addr) (d6 : Nat), Hid (M3 w1 wx w1.heap.size w2.heap.size 29 49 2 2 4 1 1 (.int .i64 (S + S')) (.int .i64 T) (.slice A5 (L.length + L'.length) c6) (.slice B6 (P.length + P'.length) d6) (.slice B4 E.length d4) (L.length + L'.length) (P.length + P'.length) E.length (fa (eiL S L L')) (iv (joS P P')) (iv E)))
  case first =>
   go_region_law
     (first
       | (rw [if_pos (by rfl)]; go_simp; go_at_call 33; refine (C6a.out _).mono ?_; rintro e wz ⟨g5, c5, rfl, hoz, hbz⟩; have HZ := Lib.hid (M3.call HD0.out hbz (Nat.le_refl _)); have CE5 : Hid (∀ j u, (iv (List.replicate P'.length (-1)))[j]? = some u → wz.cell? ⟨g5, 0 + j, none⟩ = some u) := own_cells0 hoz; have z2 := (KA.out _ HZ.out.bel).2.1.cell 0; have c2z := HZ.out.row.cell 3; clear hoz hbz)
       | (refine step_cells_push rfl (.tmp 29) (.tmp 32) _ rfl w1.heap.size 2 (.int .i64 0) 1 8 Try.underlying23 infoQ rfl P01 P832 (.slice B3 P.length d3) P.length (iv P) ?_ HZ.out.o3 g5 0 P'.length c5 (iv (List.replicate P'.length (-1))) ?_ LEN5.out CE5.out (iv_one _) ROOM5.out HZ.out.size ?_; rfl; rfl; intro B6 d6 wv hvE hgr hbl hat; have HV := Lib.hid (M3.push3 HZ.out hvE hgr hat); have hrow := HZ.out.row.grown hgr (fun e => (HZ.out.d3 _ e.symm).1 rfl); have x2 := hrow.cell 3; have f2 := hrow.frozen 3; clear hrow hvE hgr hbl hat))
   all_goals
     go_wp2_with fail
     go_meet
     have hv := HV.out
     rw [← iv_append] at hv
     exact ⟨rfl, B6, d6, hv⟩
  case rest =>
  obtain ⟨rfl, B6, d6, HM6⟩ := hcut
  obtain ⟨v1, rfl⟩ : ∃ x : World, x = wc := ⟨_, rfl⟩
  clear HM5 HD0 C6a hf2 c2y LEN5 ROOM5
  have HD0 : Hid (M3 w1 v1.drew w1.heap.size w2.heap.size 29 49 2 2 4 1 1 (.int .i64 (S + S')) (.int .i64 T) (.slice A5 (L.length + L'.length) c6) (.slice B6 (P.length + P'.length) d6) (.slice B4 E.length d4) (L.length + L'.length) (P.length + P'.length) E.length (fa (eiL S L L')) (iv (joS P P')) (iv E)) := M3.drew HM6.out
  have C6a : Hid (∀ x : World, Calls Try.prog 33 #[.int .i64 S] x fun e w' => ∃ g c', e = .returned (.slice (some ⟨g, 0, none⟩) P.length c') ∧ w'.ownsRow x.heap.size 2 1 (.slice (some ⟨g, 0, none⟩) P.length c') P.length (iv (List.replicate P.length (-1))) ∧ Below x.heap.size x w') := fun x => by
    rw [show S = ((P.length : Nat) : Int) by omega]
    exact C6.out P.length x (by omega) (by omega)
  have hf2 := (KA.out _ HD0.out.bel).1.cell 0; have hf1 := (KA.out _ HD0.out.bel).2.1.cell 4
  have LEN5 : Hid ((iv E').length = E'.length * 1) := by show _ = _; rw [iv_length]; omega
  have CE5 : Hid (∀ x : World, Below w1.heap.size w1 x → ∀ j u, (iv E')[j]? = some u → x.cell? ⟨q4, 0 + j, none⟩ = some u) := fun x hx j u hu => (SlI.below K4.out (KA.out x hx).2.2.2 (Nat.le_refl _)).cellsL j u hu
  have ROOM5 : Hid (P.length + E'.length ≤ 4294967296) := by show _ ≤ _; omega
  go_upto_region 7 with fail
  go_cut [6] from 9 to 93 (fun p6 wx => p6 = .pointer (some ⟨w2.heap.size, 0, none⟩) ∧ ∃ (B8 : Option Addr) (d8 : Nat), Hid (M3 w1 wx w1.heap.size w2.heap.size 29 49 2 2 4 1 1 (.int .i64 (S + S')) (.int .i64 T) (.slice A5 (L.length + L'.length) c6) (.slice B6 (P.length + P'.length) d6) (.slice B8 (P.length + E'.length) d8) (L.length + L'.length) (P.length + P'.length) (P.length + E'.length) (fa (eiL S L L')) (iv (joS P P')) (iv (joE P E'))))
  case first =>
   go_region_law
     (first
       | (rw [if_pos (by rfl)]; go_simp; go_at_call 33; refine (C6a.out _).mono ?_; rintro e wz ⟨g5, c5, rfl, hoz, hbz⟩; have HZ := Lib.hid (M3.call HD0.out hbz (Nat.le_refl _)); have HO7 := Lib.hid (World.ownsRow.mono hoz (Nat.le_trans HD0.out.size (Nat.le_refl _))); have NF7 : Hid (∀ k, (Value.slice (some ⟨g5, 0, none⟩) P.length c5).ownBlock = some k → w1.heap.size ≤ k ∧ k ≠ w2.heap.size ∧ (Value.slice A5 (L.length + L'.length) c6).ownBlock ≠ some k ∧ (Value.slice B6 (P.length + P'.length) d6).ownBlock ≠ some k) := (fun k hk => fresh4 HD0.out (hoz.lt k hk).1); have z2 := (KA.out _ HZ.out.bel).2.1.cell 4; have hx4 := CE5.out _ HZ.out.bel; have CX5 := Lib.hid hx4; clear hoz hbz hx4)
       | (refine step_cells_push rfl (.tmp 37) (.tmp 39) _ rfl w1.heap.size 2 (.int .i64 0) 1 8 Try.underlying23 infoQ rfl P01 P832 (.slice (some ⟨g5, 0, none⟩) P.length c5) P.length (iv (List.replicate P.length (-1))) ?_ HO7.out q4 0 E'.length D4 (iv E') ?_ LEN5.out CX5.out (iv_one _) ROOM5.out HZ.out.size ?_; rfl; rfl; intro B8 d8 wv hvE hgr hbl hat; have HV := Lib.hid (M3.new4 HZ.out NF7.out hvE hgr hat); have hrow := HZ.out.row.grown hgr (fun e => (NF7.out _ e.symm).2.1 rfl); have x2 := hrow.cell 4; have f2 := hrow.frozen 4; clear hrow hvE hgr hbl hat))
   all_goals
     go_wp2_with fail
     go_meet
     have hv := HV.out
     rw [← iv_append] at hv
     exact ⟨rfl, B8, d8, hv⟩
  case rest =>
  obtain ⟨rfl, B8, d8, HM7⟩ := hcut
  obtain ⟨v2, rfl⟩ : ∃ x : World, x = wc := ⟨_, rfl⟩
  clear HM6 HD0 C6a C6 CE5 hf1 hf2 LEN5 ROOM5
  go_wp2_with fail
  go_loopg [7, 8] E.length (fun q i u8 wr => ∃ (k n : Nat) (A : Option Addr) (c : Nat), i = .int .i64 k ∧ k ≤ E.length ∧ E.length ≤ q + k ∧ Hid (n = (jo1 S L L' P' E k).length) ∧ Hid (M3 w1 wr w1.heap.size w2.heap.size 29 49 2 2 4 1 1 (.int .i64 (S + S')) (.int .i64 T) (.slice A n c) (.slice B6 (P.length + P'.length) d6) (.slice B8 (P.length + E'.length) d8) n (P.length + P'.length) (P.length + E'.length) (fa (jo1 S L L' P' E k)) (iv (joS P P')) (iv (joE P E'))))
  case atStart => exact ⟨0, L.length + L'.length, A5, c6, rfl, by omega, by omega, by show _ = _; rw [jo1_zero, eiL_len], by show M3 _ _ _ _ _ _ _ _ _ _ _ _ _ _ _ _ _ _ _ _ _ _; rw [jo1_zero]; exact HM7.out⟩
  case round =>
    clear HM7
    obtain ⟨k, n, A, c, rfl, hk, hm, HN, HM⟩ := hrel
    obtain ⟨wo, rfl⟩ : ∃ x : World, x = wr := ⟨_, rfl⟩
    obtain ⟨go, hgo⟩ : ∃ g : Nat, g = gk := ⟨_, rfl⟩
    have a0 := (KA.out _ HM.out.bel).1.cell 0
    by_cases hlt : k < E.length
    · have dS : decide ((k : Int) < S) = true := decide_eq_true (by omega)
      have HAT := (H4.out.below (KA.out _ HM.out.bel).2.2.2 (Nat.le_refl _)).at_ hlt
      obtain ⟨b, off, e, hA, hbB, hx, kc⟩ := HAT
      cases hA
      clear kc
      have hxr := QE.out e (List.mem_of_getElem? hx.out)
      have HST := Lib.hid (jo1_step (S := S) (L := L) (L' := L') (P' := P') hx.out)
      go_wp2_with fail
      clear a0
      go_loopg [8] P'.length (fun q i wr => ∃ (j n : Nat) (A : Option Addr) (c : Nat), i = .int .i64 j ∧ j ≤ P'.length ∧ P'.length ≤ q + j ∧ Hid (n = (jo2 S L L' P' E k e j).length) ∧ Hid (M3 w1 wr w1.heap.size w2.heap.size 29 49 2 2 4 1 1 (.int .i64 (S + S')) (.int .i64 T) (.slice A n c) (.slice B6 (P.length + P'.length) d6) (.slice B8 (P.length + E'.length) d8) n (P.length + P'.length) (P.length + E'.length) (fa (jo2 S L L' P' E k e j)) (iv (joS P P')) (iv (joE P E'))))
      case atStart => exact ⟨0, n, A, c, rfl, by omega, by omega, by show _ = _; rw [jo2_zero]; exact HN.out, by show M3 _ _ _ _ _ _ _ _ _ _ _ _ _ _ _ _ _ _ _ _ _ _; rw [jo2_zero]; exact HM.out⟩
      case round =>
        clear HN HM
        obtain ⟨j, n, A, c, rfl, hj, hm2, HN, HM⟩ := hrel
        obtain ⟨wi, rfl⟩ : ∃ x : World, x = wr := ⟨_, rfl⟩
        have hnb : n ≤ 1000 := by rw [HN.out]; have := jo2_len (S := S) (L := L) (L' := L') (P' := P') (E := E) k e j (by omega) (by omega); omega
        have b0 := (KA.out _ HM.out.bel).2.1.cell 0
        by_cases hlt2 : j < P'.length
        · have dS' : decide ((j : Int) < S') = true := decide_eq_true (by omega)
          have HAT2 := (K3.out.below (KA.out _ HM.out.bel).2.2.2 (Nat.le_refl _)).at_ hlt2
          obtain ⟨b', off', x, hA, hbB', hx2, kc2⟩ := HAT2
          cases hA
          rw [Nat.zero_add] at kc2
          have HATe := (H4.out.below (KA.out _ HM.out.bel).2.2.2 (Nat.le_refl _)).at_ hlt
          obtain ⟨be, offe, e2, hAe, hbe, hxe, kce⟩ := HATe
          cases hAe
          rw [Nat.zero_add] at kce
          obtain rfl : e2 = e := by have h1 := hxe.out; have h2 := hx.out; rw [h1] at h2; exact Option.some.inj h2
          have l0 : (0 : Int) ≤ (k : Int) := by omega
          have l1 : (k : Int) < (E.length : Int) := by omega
          have lS : (k : Int) < S := by omega
          have m0 : (0 : Int) ≤ (j : Int) := by omega
          have m1 : (j : Int) < (P'.length : Int) := by omega
          have mS : (j : Int) < S' := by omega
          have hxr2 := QP'.out x (List.mem_of_getElem? hx2.out)
          have HST2 := Lib.hid (jo2_step (S := S) (L := L) (L' := L') (E := E) (i := k) (e := e2) hx2.out)
          have a4 := (KA.out _ HM.out.bel).1.cell 4; have b3 := (KA.out _ HM.out.bel).2.1.cell 3; have a0 := (KA.out _ HM.out.bel).1.cell 0
          by_cases hp : 0 ≤ e2
          · by_cases hp2 : 0 ≤ x
            · have HST3 : Hid (jo2 S L L' P' E k e2 (j + 1) = jo2 S L L' P' E k e2 j ++ [((k : Int), S + (j : Int), -1, e2 + x)]) := by show _ = _; rw [HST2.out, jAr_pos hp hp2]
              have hw1 : IntKind.i64.wrap (S + (j : Int)) = S + (j : Int) := IntWalk.i64_in _ (by omega)
              have hw2 : IntKind.i64.wrap (e2 + x) = e2 + x := IntWalk.i64_in _ (by omega)
              go_wp2_with fail
              have HA : Hid (M3 w1 ((wi.alloc (.cells ([.int .i64 (k : Int), .int .i64 (S + (j : Int)), .int .i64 (-1), .int .i64 (e2 + x)] : List Value).toArray 49)).drew) w1.heap.size w2.heap.size 29 49 2 2 4 1 1 (.int .i64 (S + S')) (.int .i64 T) (.slice A n c) (.slice B6 (P.length + P'.length) d6) (.slice B8 (P.length + E'.length) d8) n (P.length + P'.length) (P.length + E'.length) (fa (jo2 S L L' P' E k e2 j)) (iv (joS P P')) (iv (joE P E'))) := M3.drew (M3.alloc HM.out _)
              have HW0 : Hid (M3 w1 (wi.drew) w1.heap.size w2.heap.size 29 49 2 2 4 1 1 (.int .i64 (S + S')) (.int .i64 T) (.slice A n c) (.slice B6 (P.length + P'.length) d6) (.slice B8 (P.length + E'.length) d8) n (P.length + P'.length) (P.length + E'.length) (fa (jo2 S L L' P' E k e2 j)) (iv (joS P P')) (iv (joE P E'))) := M3.drew HM.out
              have CELLS : Hid (∀ j' u, ([.int .i64 (k : Int), .int .i64 (S + (j : Int)), .int .i64 (-1), .int .i64 (e2 + x)] : List Value)[j']? = some u → ((wi.alloc (.cells ([.int .i64 (k : Int), .int .i64 (S + (j : Int)), .int .i64 (-1), .int .i64 (e2 + x)] : List Value).toArray 49)).drew).cell? ⟨wi.heap.size, 0 + j', none⟩ = some u) := fun j' u hu => by
                rw [Nat.zero_add]; exact ((Row.new wi 49 [.int .i64 (k : Int), .int .i64 (S + (j : Int)), .int .i64 (-1), .int .i64 (e2 + x)]).cell j').trans hu
              have LEN : Hid (([.int .i64 (k : Int), .int .i64 (S + (j : Int)), .int .i64 (-1), .int .i64 (e2 + x)] : List Value).length = 1 * 4) := rfl
              have ONE : Hid (∀ u ∈ ([.int .i64 (k : Int), .int .i64 (S + (j : Int)), .int .i64 (-1), .int .i64 (e2 + x)] : List Value), u.oneCell' = true) := fa_one [((k : Int), S + (j : Int), -1, e2 + x)]
              have ROOM : Hid (n + 1 ≤ 4294967296) := by show _ ≤ _; omega
              have hkE : (iv E)[k]? = some (.int .i64 e2) := by have := hx.out; simp [iv, this]
              have hkP : (iv P')[j]? = some (.int .i64 x) := by have := hx2.out; simp [iv, this]
              have HSx : Hid (∀ x9 : World, Below w1.heap.size w1 x9 → (x9.cell? ⟨w.heap.size, 0, none⟩ = some (.int .i64 S) ∧ x9.cell? ⟨w.heap.size, 4, none⟩ = some (.slice (some ⟨p4, 0, none⟩) E.length C4) ∧ x9.cell? ⟨p4, k, none⟩ = some (.int .i64 e2) ∧ x9.cell? ⟨w.heap.size + 1, 3, none⟩ = some (.slice (some ⟨q3, 0, none⟩) P'.length D3) ∧ x9.cell? ⟨q3, j, none⟩ = some (.int .i64 x))) := fun x9 h9 => by
                have c1 := SlV.cells (SlI.below H4.out (KA.out x9 h9).2.2.2 (Nat.le_refl _)) k _ hkE
                have c2 := SlV.cells (SlI.below K3.out (KA.out x9 h9).2.2.2 (Nat.le_refl _)) j _ hkP
                rw [Nat.zero_add] at c1 c2
                exact ⟨(KA.out x9 h9).1.cell 0, (KA.out x9 h9).1.cell 4, c1, (KA.out x9 h9).2.1.cell 3, c2⟩
              have cA2 : (wi.alloc (.cells ([.int .i64 (k : Int), .int .i64 (S + (j : Int)), .int .i64 (-1), .int .i64 (e2 + x)] : List Value).toArray 49)).cell? ⟨w2.heap.size, 2, none⟩ = some (.slice A n c) := HA.out.row.cell 2
              have e5 : wi.cell? ⟨w2.heap.size, 2, none⟩ = some (.slice A n c) := HM.out.row.cell 2
              clear a0 b0 a4 b3 kc2 kce
              have hS0 := HSx.out wi.drew HW0.out.bel
              refine wp_region_held_drew (S := fun x9 => x9.cell? ⟨w.heap.size, 0, none⟩ = some (.int .i64 S) ∧ x9.cell? ⟨w.heap.size, 4, none⟩ = some (.slice (some ⟨p4, 0, none⟩) E.length C4) ∧ x9.cell? ⟨p4, k, none⟩ = some (.int .i64 e2) ∧ x9.cell? ⟨w.heap.size + 1, 3, none⟩ = some (.slice (some ⟨q3, 0, none⟩) P'.length D3) ∧ x9.cell? ⟨q3, j, none⟩ = some (.int .i64 x)) (by kernel_rfl) hS0 (fun hHeld => ?_)
              clear hS0
              refine wpAnyH_take (i := 0) (v := ?_) rfl (by kernel_rfl) (by kernel_rfl) (by kernel_rfl) (fun _ _ _ h => h) (Or.inl ⟨by rfl, ?_⟩) (by assumption) ?_
              rotate_left
              · intro w9 hSw; (try dsimp only at hSw); go_simp; first | done | (with_reducible rfl)
              try simp only [Act.put, List.setIfInBounds_toArray, List.set_cons_zero, List.set_cons_succ]
              refine wpAnyH_take (i := 2) (v := ?_) rfl (by kernel_rfl) (by kernel_rfl) (by kernel_rfl) (fun _ _ _ h => h) (Or.inl ⟨by rfl, ?_⟩) (by assumption) ?_
              rotate_left
              · intro w9 hSw; (try dsimp only at hSw); go_simp; first | done | (with_reducible rfl)
              try simp only [Act.put, List.setIfInBounds_toArray, List.set_cons_zero, List.set_cons_succ]
              refine wpAnyH_take (i := 3) (v := ?_) rfl (by kernel_rfl) (by kernel_rfl) (by kernel_rfl) (fun _ _ _ h => h) (Or.inl ⟨by rfl, ?_⟩) (by assumption) ?_
              rotate_left
              · intro w9 hSw; (try dsimp only at hSw); go_simp; first | done | (with_reducible rfl)
              try simp only [Act.put, List.setIfInBounds_toArray, List.set_cons_zero, List.set_cons_succ]
              refine wpAnyH_take (i := 4) (v := ?_) rfl (by kernel_rfl) (by kernel_rfl) (by kernel_rfl) (fun _ _ _ h => h) (Or.inl ⟨by rfl, ?_⟩) (by assumption) ?_
              rotate_left
              · intro w9 hSw; (try dsimp only at hSw); go_simp; first | done | (with_reducible rfl)
              try simp only [Act.put, List.setIfInBounds_toArray, List.set_cons_zero, List.set_cons_succ]
              refine wpAnyH_take (i := 5) (v := ?_) rfl (by kernel_rfl) (by kernel_rfl) (by kernel_rfl) (fun _ _ _ h => h) (Or.inl ⟨by rfl, ?_⟩) (by assumption) ?_
              rotate_left
              · intro w9 hSw; (try dsimp only at hSw); go_simp; first | done | (with_reducible rfl)
              try simp only [Act.put, List.setIfInBounds_toArray, List.set_cons_zero, List.set_cons_succ]
              refine wpAnyH_take (i := 6) (v := ?_) rfl (by kernel_rfl) (by kernel_rfl) (by kernel_rfl) (fun _ _ _ h => h) (Or.inl ⟨by rfl, ?_⟩) (by assumption) ?_
              rotate_left
              · intro w9 hSw; (try dsimp only at hSw); go_simp; first | done | (with_reducible rfl)
              try simp only [Act.put, List.setIfInBounds_toArray, List.set_cons_zero, List.set_cons_succ]
              refine wpAnyH_take (i := 7) (v := ?_) rfl (by kernel_rfl) (by kernel_rfl) (by kernel_rfl) (fun _ _ _ h => h) (Or.inl ⟨by rfl, ?_⟩) (by assumption) ?_
              rotate_left
              · intro w9 hSw; (try dsimp only at hSw); go_simp; first | done | (with_reducible rfl)
              try simp only [Act.put, List.setIfInBounds_toArray, List.set_cons_zero, List.set_cons_succ]
              refine wpAnyH_take (i := 8) (v := ?_) rfl (by kernel_rfl) (by kernel_rfl) (by kernel_rfl) (fun _ _ _ h => h) (Or.inl ⟨by rfl, ?_⟩) (by assumption) ?_
              rotate_left
              · intro w9 hSw; (try dsimp only at hSw); go_simp; first | done | (with_reducible rfl)
              try simp only [Act.put, List.setIfInBounds_toArray, List.set_cons_zero, List.set_cons_succ]
              refine wpAnyH_take (i := 9) (v := ?_) rfl (by kernel_rfl) (by kernel_rfl) (by kernel_rfl) (fun _ _ _ h => h) (Or.inl ⟨by rfl, ?_⟩) (by assumption) ?_
              rotate_left
              · intro w9 hSw; (try dsimp only at hSw); go_simp; first | done | (with_reducible rfl)
              try simp only [Act.put, List.setIfInBounds_toArray, List.set_cons_zero, List.set_cons_succ]
              refine wpAnyH_take (i := 10) (v := ?_) rfl (by kernel_rfl) (by kernel_rfl) (by kernel_rfl) (fun _ _ _ h => h) (Or.inl ⟨by rfl, ?_⟩) (by assumption) ?_
              rotate_left
              · intro w9 hSw; (try dsimp only at hSw); go_simp; first | done | (with_reducible rfl)
              try simp only [Act.put, List.setIfInBounds_toArray, List.set_cons_zero, List.set_cons_succ]
              refine wpAnyH_take (i := 11) (v := ?_) rfl (by kernel_rfl) (by kernel_rfl) (by kernel_rfl) (fun _ _ _ h => h) (Or.inl ⟨by rfl, ?_⟩) (by assumption) ?_
              rotate_left
              · intro w9 hSw; (try dsimp only at hSw); go_simp; first | done | (with_reducible rfl)
              try simp only [Act.put, List.setIfInBounds_toArray, List.set_cons_zero, List.set_cons_succ]
              refine wpAnyH_take (i := 12) (v := ?_) rfl (by kernel_rfl) (by kernel_rfl) (by kernel_rfl) (fun _ _ _ h => h) (Or.inl ⟨by rfl, ?_⟩) (by assumption) ?_
              rotate_left
              · intro w9 hSw; (try dsimp only at hSw); go_simp; first | done | (with_reducible rfl)
              try simp only [Act.put, List.setIfInBounds_toArray, List.set_cons_zero, List.set_cons_succ]
              refine wpAnyH_take (i := 13) (v := ?_) rfl (by kernel_rfl) (by kernel_rfl) (by kernel_rfl) (fun _ _ _ h => h) (Or.inl ⟨by rfl, ?_⟩) (by assumption) ?_
              rotate_left
              · intro w9 hSw; (try dsimp only at hSw); go_simp; first | done | (with_reducible rfl)
              try simp only [Act.put, List.setIfInBounds_toArray, List.set_cons_zero, List.set_cons_succ]
              refine wpAnyH_take (i := 14) (v := ?_) rfl (by kernel_rfl) (by kernel_rfl) (by kernel_rfl) (fun _ _ _ h => h) (Or.inl ⟨by rfl, ?_⟩) (by assumption) ?_
              rotate_left
              · intro w9 hSw; (try dsimp only at hSw); go_simp; first | done | (with_reducible rfl)
              try simp only [Act.put, List.setIfInBounds_toArray, List.set_cons_zero, List.set_cons_succ]
              refine wpAnyH_take (i := 15) (v := ?_) rfl (by kernel_rfl) (by kernel_rfl) (by kernel_rfl) (fun _ _ _ h => h) (Or.inl ⟨by rfl, ?_⟩) (by assumption) ?_
              rotate_left
              · intro w9 hSw; (try dsimp only at hSw); go_simp; first | done | (with_reducible rfl)
              try simp only [Act.put, List.setIfInBounds_toArray, List.set_cons_zero, List.set_cons_succ]
              refine wpAnyH_take (i := 16) (v := ?_) rfl (by kernel_rfl) (by kernel_rfl) (by kernel_rfl) (fun _ _ _ h => h) (Or.inl ⟨by rfl, ?_⟩) (by assumption) ?_
              rotate_left
              · intro w9 hSw; (try dsimp only at hSw); go_simp; first | done | (with_reducible rfl)
              try simp only [Act.put, List.setIfInBounds_toArray, List.set_cons_zero, List.set_cons_succ]
              refine wpAnyH_take (i := 17) (v := ?_) rfl (by kernel_rfl) (by kernel_rfl) (by kernel_rfl) (fun _ _ _ h => h) (Or.inl ⟨by rfl, ?_⟩) (by assumption) ?_
              rotate_left
              · intro w9 hSw; (try dsimp only at hSw); go_simp; first | done | (with_reducible rfl)
              try simp only [Act.put, List.setIfInBounds_toArray, List.set_cons_zero, List.set_cons_succ]
              refine wpAnyH_take (i := 18) (v := ?_) rfl (by kernel_rfl) (by kernel_rfl) (by kernel_rfl) (fun _ _ _ h => h) (Or.inl ⟨by rfl, ?_⟩) (by assumption) ?_
              rotate_left
              · intro w9 hSw; (try dsimp only at hSw); go_simp; first | done | (with_reducible rfl)
              try simp only [Act.put, List.setIfInBounds_toArray, List.set_cons_zero, List.set_cons_succ]
              refine wpAnyH_ready (rs := [1, 19]) (by kernel_rfl) (by simp) ?_
              refine AllReadyH.cons rfl (fun K hK => ?_) ?_
              · go_simp
                refine hK.out _ _ (HSx.out _ HW0.out.bel) (fun hHeld => ?_)
                clear hK K
                try simp only [Act.put, List.setIfInBounds_toArray, List.set_cons_zero, List.set_cons_succ]
                refine wpAnyH_ready (rs := [19]) (by kernel_rfl) (by simp) ?_
                refine AllReadyH.cons rfl (fun K hK => ?_) AllReadyH.nil
                go_simp
                refine hK.out _ _ (HSx.out _ HA.out.bel) (fun hHeld => ?_)
                clear hK K
                try simp only [Act.put, List.setIfInBounds_toArray, List.set_cons_zero, List.set_cons_succ]
                refine wpAnyH_ready (rs := [20]) (by kernel_rfl) (by simp) ?_
                refine AllReadyH.cons rfl (fun K hK => ?_) AllReadyH.nil
                refine step_cells_push rfl (.tmp 69) (.tmp 87) _ rfl w1.heap.size 49 (.agg #[.int .i64 0, .int .i64 0, .int .i64 0, .int .i64 0]) 4 32 Try.underlying27 infoAr rfl P04 P3232 (.slice A n c) n (fa (jo2 S L L' P' E k e2 j)) ?_ HA.out.o2 wi.heap.size 0 1 1 [.int .i64 (k : Int), .int .i64 (S + (j : Int)), .int .i64 (-1), .int .i64 (e2 + x)] ?_ LEN.out CELLS.out ONE.out ROOM.out HA.out.size ?_
                rfl
                rfl
                intro A' c' wv hvE hgr hbl hat
                have HV := Lib.hid (M3.push2 HA.out hvE hgr hat)
                have hrow := HA.out.row.grown hgr (fun e => (HA.out.d2 _ e.symm).1 rfl)
                have rz := hrow.cell 2
                have fz := hrow.frozen 2
                have HBv : Hid (Below w1.heap.size w1 wv) := HA.out.bel.trans hbl
                clear hrow hvE hgr hbl hat
                refine hK.out _ _ (HSx.out _ HBv.out) (fun hHeld => ?_)
                clear hK K
                try simp only [Act.put, List.setIfInBounds_toArray, List.set_cons_zero, List.set_cons_succ]
                refine wpAnyH_take (i := 21) (v := ?_) rfl (by kernel_rfl) (by kernel_rfl) (by kernel_rfl) (fun _ _ _ h => h) (Or.inl ⟨by rfl, ?_⟩) (by assumption) ?_
                rotate_left
                · intro w9 hSw; (try dsimp only at hSw); go_simp; first | done | (with_reducible rfl)
                try simp only [Act.put, List.setIfInBounds_toArray, List.set_cons_zero, List.set_cons_succ]
                refine wpAnyH_ready (rs := [22]) (by kernel_rfl) (by simp) ?_
                refine AllReadyH.cons rfl (fun K hK => ?_) AllReadyH.nil
                go_simp
                refine hK.out _ _ (HSx.out _ HV.out.bel) (fun hHeld => ?_)
                clear hK K
                try simp only [Act.put, List.setIfInBounds_toArray, List.set_cons_zero, List.set_cons_succ]
                refine wpAnyH_done (by kernel_rfl) ?_ _
                clear cA2 e5
                go_wp2_with fail
                go_roundg (gk - 1)
                case measure => omega
                case rel =>
                  have hv := HV.out
                  have e9 : fa (jo2 S L L' P' E k e2 j) ++ [.int .i64 (k : Int), .int .i64 (S + (j : Int)), .int .i64 (-1), .int .i64 (e2 + x)] = fa (jo2 S L L' P' E k e2 (j + 1)) := by rw [HST3.out, fa_append]; rfl
                  rw [e9] at hv
                  exact ⟨j + 1, n + 1, A', c', by go_num, by omega, by omega, by show _ = _; rw [HST3.out, List.length_append, ← HN.out]; rfl, hv⟩
              refine AllReadyH.cons rfl (fun K hK => ?_) AllReadyH.nil
              · go_simp
                refine hK.out _ _ (HSx.out _ HA.out.bel) (fun hHeld => ?_)
                clear hK K
                try simp only [Act.put, List.setIfInBounds_toArray, List.set_cons_zero, List.set_cons_succ]
                refine wpAnyH_ready (rs := [1]) (by kernel_rfl) (by simp) ?_
                refine AllReadyH.cons rfl (fun K hK => ?_) AllReadyH.nil
                go_simp
                refine hK.out _ _ (HSx.out _ HA.out.bel) (fun hHeld => ?_)
                clear hK K
                try simp only [Act.put, List.setIfInBounds_toArray, List.set_cons_zero, List.set_cons_succ]
                refine wpAnyH_ready (rs := [20]) (by kernel_rfl) (by simp) ?_
                refine AllReadyH.cons rfl (fun K hK => ?_) AllReadyH.nil
                refine step_cells_push rfl (.tmp 69) (.tmp 87) _ rfl w1.heap.size 49 (.agg #[.int .i64 0, .int .i64 0, .int .i64 0, .int .i64 0]) 4 32 Try.underlying27 infoAr rfl P04 P3232 (.slice A n c) n (fa (jo2 S L L' P' E k e2 j)) ?_ HA.out.o2 wi.heap.size 0 1 1 [.int .i64 (k : Int), .int .i64 (S + (j : Int)), .int .i64 (-1), .int .i64 (e2 + x)] ?_ LEN.out CELLS.out ONE.out ROOM.out HA.out.size ?_
                rfl
                rfl
                intro A' c' wv hvE hgr hbl hat
                have HV := Lib.hid (M3.push2 HA.out hvE hgr hat)
                have hrow := HA.out.row.grown hgr (fun e => (HA.out.d2 _ e.symm).1 rfl)
                have rz := hrow.cell 2
                have fz := hrow.frozen 2
                have HBv : Hid (Below w1.heap.size w1 wv) := HA.out.bel.trans hbl
                clear hrow hvE hgr hbl hat
                refine hK.out _ _ (HSx.out _ HBv.out) (fun hHeld => ?_)
                clear hK K
                try simp only [Act.put, List.setIfInBounds_toArray, List.set_cons_zero, List.set_cons_succ]
                refine wpAnyH_take (i := 21) (v := ?_) rfl (by kernel_rfl) (by kernel_rfl) (by kernel_rfl) (fun _ _ _ h => h) (Or.inl ⟨by rfl, ?_⟩) (by assumption) ?_
                rotate_left
                · intro w9 hSw; (try dsimp only at hSw); go_simp; first | done | (with_reducible rfl)
                try simp only [Act.put, List.setIfInBounds_toArray, List.set_cons_zero, List.set_cons_succ]
                refine wpAnyH_ready (rs := [22]) (by kernel_rfl) (by simp) ?_
                refine AllReadyH.cons rfl (fun K hK => ?_) AllReadyH.nil
                go_simp
                refine hK.out _ _ (HSx.out _ HV.out.bel) (fun hHeld => ?_)
                clear hK K
                try simp only [Act.put, List.setIfInBounds_toArray, List.set_cons_zero, List.set_cons_succ]
                refine wpAnyH_done (by kernel_rfl) ?_ _
                clear cA2 e5
                go_wp2_with fail
                go_roundg (gk - 1)
                case measure => omega
                case rel =>
                  have hv := HV.out
                  have e9 : fa (jo2 S L L' P' E k e2 j) ++ [.int .i64 (k : Int), .int .i64 (S + (j : Int)), .int .i64 (-1), .int .i64 (e2 + x)] = fa (jo2 S L L' P' E k e2 (j + 1)) := by rw [HST3.out, fa_append]; rfl
                  rw [e9] at hv
                  exact ⟨j + 1, n + 1, A', c', by go_num, by omega, by omega, by show _ = _; rw [HST3.out, List.length_append, ← HN.out]; rfl, hv⟩
            · have HST3 : Hid (jo2 S L L' P' E k e2 (j + 1) = jo2 S L L' P' E k e2 j) := by show _ = _; rw [HST2.out, jAr_no2 hp2, List.append_nil]
              go_wp2_with fail
              go_roundg (gk - 1)
              case measure => omega
              case rel => exact ⟨j + 1, n, A, c, by go_num, by omega, by omega, by show _ = _; rw [HST3.out]; exact HN.out, by show M3 _ _ _ _ _ _ _ _ _ _ _ _ _ _ _ _ _ _ _ _ _ _; rw [HST3.out]; exact HM.out⟩
          · have HST3 : Hid (jo2 S L L' P' E k e2 (j + 1) = jo2 S L L' P' E k e2 j) := by show _ = _; rw [HST2.out, jAr_no1 hp, List.append_nil]
            go_wp2_with fail
            go_roundg (gk - 1)
            case measure => omega
            case rel => exact ⟨j + 1, n, A, c, by go_num, by omega, by omega, by show _ = _; rw [HST3.out]; exact HN.out, by show M3 _ _ _ _ _ _ _ _ _ _ _ _ _ _ _ _ _ _ _ _ _ _; rw [HST3.out]; exact HM.out⟩
        · obtain rfl : j = P'.length := by omega
          have dS' : decide (((P'.length : Nat) : Int) < S') = false := decide_eq_false (by omega)
          go_wp2_with fail
          go_roundg (go - 1)
          case measure => omega
          case rel => exact ⟨k + 1, n, A, c, by go_num, by omega, by omega, by show _ = _; rw [HST.out]; exact HN.out, by show M3 _ _ _ _ _ _ _ _ _ _ _ _ _ _ _ _ _ _ _ _ _ _; rw [HST.out]; exact HM.out⟩
    · obtain rfl : k = E.length := by omega
      have dS : decide (((E.length : Nat) : Int) < S) = false := decide_eq_false (by omega)
      have HNJ : Hid ((joA S L L' P' E).length = n) := HN.out.symm
      have HK := Lib.hid (sGiveG w1.heap.size (S + S') T (joA S L L' P' E) (joS P P') (joE P E') A n c B6 (P.length + P'.length) d6 B8 (P.length + E'.length) d8 wo HM.out.o2 HM.out.o3 HM.out.o4 HNJ.out (joS_len _ _) (joE_len _ _) (by have := jo1_len (S := S) (L := L) (L' := L') (P' := P') (E := E) E.length (by omega) (by omega); have := HN.out; omega) (by omega) (by omega))
      have k0 := HM.out.row.cell 0; have k1 := HM.out.row.cell 1; have k2 := HM.out.row.cell 2; have k3 := HM.out.row.cell 3; have k4 := HM.out.row.cell 4
      have hlr1 := RR1.out.lt
      go_wp2_with (go_at_call 19; refine HK.out.mono ?_; rintro e y5 ⟨ok2, hok2, rfl, hb5⟩; have HOK2 := Lib.hid hok2; have RRz := Lib.hid ((KA.out _ HM.out.bel).2.2.1.below hb5 (KA.out _ HM.out.bel).2.2.1.lt); have BXz := Lib.hid ((KA.out _ HM.out.bel).2.2.2.trans (hb5.mono (KA.out _ HM.out.bel).2.2.2.size)); have HB5 := Lib.hid hb5; have s0 := RRz.out.cell 0; have s1 := RRz.out.cell 1; have s2 := RRz.out.cell 2; have s3 := RRz.out.cell 3; have s4 := RRz.out.cell 4; have f0 := RRz.out.frozen 0; have f1 := RRz.out.frozen 1; have f2 := RRz.out.frozen 2; have f3 := RRz.out.frozen 3; have f4 := RRz.out.frozen 4; clear hok2 hb5 k0 k1 k2 k3 k4)
      clear s0 s1 s2 s3 s4 f0 f1 f2 f3 f4
      have hF := (((((RRz.out.set_ 0 (.int .i64 (ckI ok2 (S + S')))).set_ 1 (.int .i64 (ckI ok2 T))).set_ 2 (.slice (ckA ok2 A) (ckN ok2 n) (ckN ok2 c))).set_ 3 (.slice (ckA ok2 B6) (ckN ok2 (P.length + P'.length)) (ckN ok2 d6))).set_ 4 (.slice (ckA ok2 B8) (ckN ok2 (P.length + E'.length)) (ckN ok2 d8)))
      have hBF : Below w.heap.size w (((((y5.setCell ⟨w.heap.size + 1 + 1, 0, none⟩ (.int .i64 (ckI ok2 (S + S')))).setCell ⟨w.heap.size + 1 + 1, 1, none⟩ (.int .i64 (ckI ok2 T))).setCell ⟨w.heap.size + 1 + 1, 2, none⟩ (.slice (ckA ok2 A) (ckN ok2 n) (ckN ok2 c))).setCell ⟨w.heap.size + 1 + 1, 3, none⟩ (.slice (ckA ok2 B6) (ckN ok2 (P.length + P'.length)) (ckN ok2 d6))).setCell ⟨w.heap.size + 1 + 1, 4, none⟩ (.slice (ckA ok2 B8) (ckN ok2 (P.length + E'.length)) (ckN ok2 d8))) := (bwS (bwS (bwS (bwS (bwS BXz.out (p := ⟨w.heap.size + 1 + 1, 0, none⟩) (by show w.heap.size ≤ w.heap.size + 1 + 1; omega) (.int .i64 (ckI ok2 (S + S')))) (p := ⟨w.heap.size + 1 + 1, 1, none⟩) (by show w.heap.size ≤ w.heap.size + 1 + 1; omega) (.int .i64 (ckI ok2 T))) (p := ⟨w.heap.size + 1 + 1, 2, none⟩) (by show w.heap.size ≤ w.heap.size + 1 + 1; omega) (.slice (ckA ok2 A) (ckN ok2 n) (ckN ok2 c))) (p := ⟨w.heap.size + 1 + 1, 3, none⟩) (by show w.heap.size ≤ w.heap.size + 1 + 1; omega) (.slice (ckA ok2 B6) (ckN ok2 (P.length + P'.length)) (ckN ok2 d6))) (p := ⟨w.heap.size + 1 + 1, 4, none⟩) (by show w.heap.size ≤ w.heap.size + 1 + 1; omega) (.slice (ckA ok2 B8) (ckN ok2 (P.length + E'.length)) (ckN ok2 d8)))
      have keepF : ∀ g, w1.heap.size ≤ g → g < wo.heap.size → (((((y5.setCell ⟨w.heap.size + 1 + 1, 0, none⟩ (.int .i64 (ckI ok2 (S + S')))).setCell ⟨w.heap.size + 1 + 1, 1, none⟩ (.int .i64 (ckI ok2 T))).setCell ⟨w.heap.size + 1 + 1, 2, none⟩ (.slice (ckA ok2 A) (ckN ok2 n) (ckN ok2 c))).setCell ⟨w.heap.size + 1 + 1, 3, none⟩ (.slice (ckA ok2 B6) (ckN ok2 (P.length + P'.length)) (ckN ok2 d6))).setCell ⟨w.heap.size + 1 + 1, 4, none⟩ (.slice (ckA ok2 B8) (ckN ok2 (P.length + E'.length)) (ckN ok2 d8))).heap[g]? = wo.heap[g]? := fun g h1 h2 => (heap_set5 _ _ _ _ _ (by omega)).trans (HB5.out.block g h2)
      refine bodyPost_ret (results_cell2 rfl _ _ (w.heap.size + 1 + 1) 29 #[.int .i64 (ckI ok2 (S + S')), .int .i64 (ckI ok2 T), .slice (ckA ok2 A) (ckN ok2 n) (ckN ok2 c), .slice (ckA ok2 B6) (ckN ok2 (P.length + P'.length)) (ckN ok2 d6), .slice (ckA ok2 B8) (ckN ok2 (P.length + E'.length)) (ckN ok2 d8)] (0, 0) _ (.bool ok2) rfl rfl hF Try.underlying29 rfl (by kernel_rfl)) rfl ?_
      obtain ⟨F, hFF⟩ : ∃ F, F = (((((y5.setCell ⟨w.heap.size + 1 + 1, 0, none⟩ (.int .i64 (ckI ok2 (S + S')))).setCell ⟨w.heap.size + 1 + 1, 1, none⟩ (.int .i64 (ckI ok2 T))).setCell ⟨w.heap.size + 1 + 1, 2, none⟩ (.slice (ckA ok2 A) (ckN ok2 n) (ckN ok2 c))).setCell ⟨w.heap.size + 1 + 1, 3, none⟩ (.slice (ckA ok2 B6) (ckN ok2 (P.length + P'.length)) (ckN ok2 d6))).setCell ⟨w.heap.size + 1 + 1, 4, none⟩ (.slice (ckA ok2 B8) (ckN ok2 (P.length + E'.length)) (ckN ok2 d8))) := ⟨_, rfl⟩
      rw [← hFF] at hBF keepF ⊢
      clear hF hFF
      have hf : joOk S T L P E S' T' L' P' E' = ok2 := by
        have h9 := HT9.out
        unfold twB at h9
        unfold joOk
        rw [h9, Bool.true_and, HOK2.out]
      rw [hf]
      have oa : F.ownsRow w1.heap.size 49 4 (.slice A n c) (joA S L L' P' E).length (fa (joA S L L' P' E)) := by rw [HNJ.out]; exact own_move HM.out.o2 (fun g hg => keepF g (HM.out.o2.lt g hg).1 (HM.out.o2.lt g hg).2)
      have os : F.ownsRow w1.heap.size 2 1 (.slice B6 (P.length + P'.length) d6) (joS P P').length (iv (joS P P')) := by rw [joS_len]; exact own_move HM.out.o3 (fun g hg => keepF g (HM.out.o3.lt g hg).1 (HM.out.o3.lt g hg).2)
      have oe : F.ownsRow w1.heap.size 2 1 (.slice B8 (P.length + E'.length) d8) (joE P E').length (iv (joE P E')) := by rw [joE_len]; exact own_move HM.out.o4 (fun g hg => keepF g (HM.out.o4.lt g hg).1 (HM.out.o4.lt g hg).2)
      rw [← ckV_agg]
      exact ⟨_, F.heap.size, rfl, Nat.le_refl _, ckO ok2 ⟨_, _, _, rfl, ⟨World.ownsRow.mono oa (by omega), fun k hk => (oa.lt k hk).2⟩, ⟨World.ownsRow.mono os (by omega), fun k hk => (os.lt k hk).2⟩, ⟨World.ownsRow.mono oe (by omega), fun k hk => (oe.lt k hk).2⟩, fun k hk => (HM.out.d2 k hk).2.1, fun k hk => (HM.out.d2 k hk).2.2, fun k hk => (HM.out.d3 k hk).2⟩, hBF⟩
end Go.Proofs.Ytkkjhakniolooaa
