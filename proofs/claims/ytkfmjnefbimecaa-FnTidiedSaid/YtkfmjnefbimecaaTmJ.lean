/- TrimOf of the program. -/
import Derived.Test.YtkfmjnefbimecaaTmI
import Derived.Test.YtkfmjnefbimecaaMgt
import Derived.Test.YtkfmjnefbimecaaTiI
import Derived.Deep.CutRange


namespace Go.Proofs.Ytkfmjnefbimecaa
open Go.RowKit
set_option linter.unusedVariables false
theorem own_row2 {w : World} {g base n sz : Nat} {t : TypeId} {vs : List Value} (h : Row w g t vs) (hb : base ≤ g) (hn : vs.length = n * sz) (hm : n ≤ maxLen) : w.ownsRow base t sz (.slice (some ⟨g, 0, none⟩) n n) n vs :=
  ⟨by omega, .inr ⟨g, n, vs.toArray, rfl, hb, h, Nat.le_refl _, hm, by simp [hn], by rw [List.toList_toArray]; exact List.take_of_length_le (by omega)⟩⟩
theorem bv_at {w : World} {g : Nat} {t : TypeId} {o : List Bool} (h : Row w g t (bv o)) {k : Nat} {x : Bool} (hk : o[k]? = some x) : w.cell? ⟨g, k, none⟩ = some (.bool x) := by
  rw [h.cell, bv, List.getElem?_map, hk]; rfl
theorem ow_slA {w : World} {lo n c : Nat} {t : TypeId} {A : Option Addr} {M : List A4} (h : w.ownsRow lo t 4 (.slice A n c) n (fa M)) (hl : n = M.length) : SlA w w.heap.size A n M := by
  subst hl
  obtain ⟨A', c', e, hs⟩ := (OwnV.of h).slA
  injection e with e1 _ _
  subst e1
  exact hs
theorem McW.mono {w : World} {b b' : Nat} {v : Value} {S T : Int} {L : List A4} {P E : List Int} (h : McW w b v S T L P E) (hb : b' ≤ b) : McW w b' v S T L P E := by
  obtain ⟨v2, v3, v4, e, h2, h3, h4, d23, d24, d34⟩ := h
  exact ⟨v2, v3, v4, e, ⟨World.ownsRow.mono h2.1 hb, h2.2⟩, ⟨World.ownsRow.mono h3.1 hb, h3.2⟩, ⟨World.ownsRow.mono h4.1 hb, h4.2⟩, d23, d24, d34⟩
theorem iTidyOfN_any (S T : Int) (L : List A4) (P E : List Int) (A2 A3 A4 : Option Addr) (n2 n3 n4 c2 c3 c4 : Nat) (w : World) (e2 : n2 = L.length) (e3 : n3 = P.length) (e4 : n4 = E.length) (hp2 : PlA A2) (hp3 : PlA A3) (hp4 : PlA A4)
    (h2 : SlA w w.heap.size A2 n2 L) (h3 : SlI w w.heap.size A3 n3 P) (h4 : SlI w w.heap.size A4 n4 E) (hL : n2 ≤ 1048576) (hP : n3 ≤ 1048576) (hE : n4 ≤ 1048576) :
    Calls Try.prog 10 #[.agg #[.int .i64 S, .int .i64 T, .slice A2 n2 c2, .slice A3 n3 c3, .slice A4 n4 c4]] w fun e w' => ∃ v', e = .returned (.tuple #[v', .bool (vmB S T L P E)]) ∧ McW w' w.heap.size v' (ckI (vmB S T L P E) S) (ckI (vmB S T L P E) T) (ckL (vmB S T L P E) (tdy L)) (ckL (vmB S T L P E) P) (ckL (vmB S T L P E) E) ∧ Below w.heap.size w w' := by
  subst e2 e3 e4
  exact iTidyOf_any S T L P E A2 A3 A4 c2 c3 c4 w hp2 hp3 hp4 h2 h3 h4 hL hP hE
theorem iReachedN_any (S : Nat) (T : Int) (L : List A4) (P E : List Int) (A2 A3 A4 : Option Addr) (c2 c3 c4 : Nat) (AF : Option Addr) (cF : Nat) (F : List Int) (back : Bool) (w : World) (nF : Nat) (hnF : nF = S)
    (h2 : SlA w w.heap.size A2 L.length L) (hF : SlI w w.heap.size AF nF F) (hS : S ≤ 16) (hL : L.length ≤ 128) (hA : ∀ a ∈ L, (0 ≤ a.1 ∧ a.1 < S) ∧ (0 ≤ a.2.1 ∧ a.2.1 < S)) :
    Calls Try.prog 57 #[.agg #[.int .i64 (S : Int), .int .i64 T, .slice A2 L.length c2, .slice A3 P.length c3, .slice A4 E.length c4], .slice AF nF cF, .bool back] w fun e w' => ∃ g, e = .returned (.slice (some ⟨g, 0, none⟩) S S) ∧ w.heap.size ≤ g ∧ Row w' g 4 (bv (rc back L F)) ∧ Below w.heap.size w w' := by
  rw [hnF] at hF ⊢
  exact iReached_any S T L P E A2 A3 A4 c2 c3 c4 AF cF F back w h2 hF hS hL hA
set_option maxRecDepth 100000 in
set_option maxHeartbeats 16000000 in
theorem iTrim_true (S : Nat) (T : Int) (L : List A4) (P E : List Int) (p2 p3 p4 c2 c3 c4 : Nat) (w : World)
    (h2 : SlA w w.heap.size (some ⟨p2, 0, none⟩) L.length L) (h3 : SlI w w.heap.size (some ⟨p3, 0, none⟩) P.length P) (h4 : SlI w w.heap.size (some ⟨p4, 0, none⟩) E.length E) (hok : vmB S T L P E = true) :
    Calls Try.prog 16 #[.agg #[.int .i64 (S : Int), .int .i64 T, .slice (some ⟨p2, 0, none⟩) L.length c2, .slice (some ⟨p3, 0, none⟩) P.length c3, .slice (some ⟨p4, 0, none⟩) E.length c4]] w fun e w' => ∃ v', e = .returned (.tuple #[v', .bool (tmOk S T L P E)]) ∧ McW w' w.heap.size v' (ckI (tmOk S T L P E) (tmS L P E)) (ckI (tmOk S T L P E) T) (ckL (tmOk S T L P E) (tdy (tmL L P E))) (ckL (tmOk S T L P E) (tmPp L P E)) (ckL (tmOk S T L P E) (tmEe L P E)) ∧ Below w.heap.size w w' := by
  obtain ⟨qS, qT, qL, qA, qP, qE⟩ := vmB_true hok
  obtain ⟨qP1, qP2⟩ := mkB_true qP
  obtain ⟨qE1, qE2⟩ := mkB_true qE
  have hPS : P.length = S := by omega
  have hES : E.length = S := by omega
  have QA : Hid (∀ a ∈ L, (0 ≤ a.1 ∧ a.1 < (S : Int)) ∧ (0 ≤ a.2.1 ∧ a.2.1 < (S : Int))) := fun a ha => by have := okAm_true (qA a ha); omega
  have HTO : Hid (tmOk S T L P E = decide (1 ≤ tmS L P E)) := by show (vmB _ _ _ _ _ && _) = _; rw [hok]; rfl
  have HVA : Hid (vmB (tmS L P E) T (tmL L P E) (tmPp L P E) (tmEe L P E) = decide (1 ≤ tmS L P E)) := tm_valid hok (tmL_len _ _ _) (fun a h => h)
  have HOK := Lib.hid hok
  have H2 := Lib.hid h2; have H3 := Lib.hid h3; have H4 := Lib.hid h4
  have HPS := Lib.hid hPS; have HES := Lib.hid hES
  clear qA qP qE qP2 qE2 qP1 qE1 h2 h3 h4 hok hPS hES
  have rb := (Row.new w 28 [.int .i64 (S : Int), .int .i64 T, .slice (some ⟨p2, 0, none⟩) L.length c2, .slice (some ⟨p3, 0, none⟩) P.length c3, .slice (some ⟨p4, 0, none⟩) E.length c4]).alloc (.cells ([.int .i64 0, .int .i64 0, .slice none 0 0, .slice none 0 0, .slice none 0 0] : List Value).toArray 28)
  have rr := Row.new (w.alloc (.cells ([.int .i64 (S : Int), .int .i64 T, .slice (some ⟨p2, 0, none⟩) L.length c2, .slice (some ⟨p3, 0, none⟩) P.length c3, .slice (some ⟨p4, 0, none⟩) E.length c4] : List Value).toArray 28)) 28 [.int .i64 0, .int .i64 0, .slice none 0 0, .slice none 0 0, .slice none 0 0]
  rw [show (w.alloc (.cells ([.int .i64 (S : Int), .int .i64 T, .slice (some ⟨p2, 0, none⟩) L.length c2, .slice (some ⟨p3, 0, none⟩) P.length c3, .slice (some ⟨p4, 0, none⟩) E.length c4] : List Value).toArray 28)).heap.size = w.heap.size + 1 by simp] at rr
  have bx : Below w.heap.size w ((w.alloc (.cells ([.int .i64 (S : Int), .int .i64 T, .slice (some ⟨p2, 0, none⟩) L.length c2, .slice (some ⟨p3, 0, none⟩) P.length c3, .slice (some ⟨p4, 0, none⟩) E.length c4] : List Value).toArray 28)).alloc (.cells ([.int .i64 0, .int .i64 0, .slice none 0 0, .slice none 0 0, .slice none 0 0] : List Value).toArray 28)) := ((Below.refl _ _).alloc (Nat.le_refl _) _).alloc (by simp) _
  have RB := Lib.hid rb; have RR := Lib.hid rr; have BX := Lib.hid bx; clear rb rr bx
  go_enter Try.func16, Try.ntmps16
  go_wp2_with fail
  obtain ⟨x0, hx0⟩ : ∃ x, x = ((w.alloc (.cells ([.int .i64 (S : Int), .int .i64 T, .slice (some ⟨p2, 0, none⟩) L.length c2, .slice (some ⟨p3, 0, none⟩) P.length c3, .slice (some ⟨p4, 0, none⟩) E.length c4] : List Value).toArray 28)).alloc (.cells ([.int .i64 0, .int .i64 0, .slice none 0 0, .slice none 0 0, .slice none 0 0] : List Value).toArray 28)) := ⟨_, rfl⟩
  rw [← hx0] at RB RR BX
  change Calls _ _ _ ((w.alloc (.cells ([.int .i64 (S : Int), .int .i64 T, .slice (some ⟨p2, 0, none⟩) L.length c2, .slice (some ⟨p3, 0, none⟩) P.length c3, .slice (some ⟨p4, 0, none⟩) E.length c4] : List Value).toArray 28)).alloc (.cells ([.int .i64 0, .int .i64 0, .slice none 0 0, .slice none 0 0, .slice none 0 0] : List Value).toArray 28)) _
  rw [← hx0]
  clear hx0
  refine (iValidMachine_any _ (S : Int) T L P E x0 ⟨_, _, _, _, _, _, _, _, _, rfl, (H2.out.below BX.out (Nat.le_refl _)).more BX.out.size, (H3.out.below BX.out (Nat.le_refl _)).more BX.out.size, (H4.out.below BX.out (Nat.le_refl _)).more BX.out.size⟩ (by omega) (by have := HPS.out; omega) (by have := HES.out; omega)).mono ?_
  rintro e w1 ⟨rfl, hb1⟩
  have BX1 := Lib.hid (BX.out.trans (hb1.mono BX.out.size))
  have RB1 := Lib.hid (RB.out.below hb1 RB.out.lt)
  have RR1 := Lib.hid (RR.out.below hb1 RR.out.lt)
  clear hb1 RB RR BX
  rw [HOK.out]
  obtain ⟨ah, hah⟩ : ∃ x, x = tmAh L P := ⟨_, rfl⟩
  obtain ⟨bh, hbh⟩ : ∃ x, x = tmBh L E := ⟨_, rfl⟩
  have HAH := Lib.hid hah; have HBH := Lib.hid hbh
  have HAL : Hid (ah.length = S) := by show _ = _; rw [hah]; unfold tmAh; rw [rc_len]; exact HPS.out
  have HBL : Hid (bh.length = S) := by show _ = _; rw [hbh]; unfold tmBh; rw [rc_len]; exact HES.out
  clear hah hbh
  have LT1 : Hid (w.heap.size + 1 < w1.heap.size) := RR1.out.lt
  have hcel : Hid (∀ x : World, Below w1.heap.size w1 x → (Below w1.heap.size w1 x ∧ x.cell? ⟨w.heap.size, 0, none⟩ = some (.int .i64 (S : Int)) ∧ x.cell? ⟨w.heap.size, 1, none⟩ = some (.int .i64 T) ∧ x.cell? ⟨w.heap.size, 2, none⟩ = some (.slice (some ⟨p2, 0, none⟩) L.length c2) ∧ x.cell? ⟨w.heap.size, 3, none⟩ = some (.slice (some ⟨p3, 0, none⟩) P.length c3) ∧ x.cell? ⟨w.heap.size, 4, none⟩ = some (.slice (some ⟨p4, 0, none⟩) E.length c4))) := fun x hx => by
    have r := RB1.out.below hx RB1.out.lt
    exact ⟨hx, r.cell 0, r.cell 1, r.cell 2, r.cell 3, r.cell 4⟩
  have hkeep : Hid (∀ x y : World, Below w1.heap.size w1 x → Below x.heap.size x y → (Below w1.heap.size w1 y ∧ y.cell? ⟨w.heap.size, 0, none⟩ = some (.int .i64 (S : Int)) ∧ y.cell? ⟨w.heap.size, 1, none⟩ = some (.int .i64 T) ∧ y.cell? ⟨w.heap.size, 2, none⟩ = some (.slice (some ⟨p2, 0, none⟩) L.length c2) ∧ y.cell? ⟨w.heap.size, 3, none⟩ = some (.slice (some ⟨p3, 0, none⟩) P.length c3) ∧ y.cell? ⟨w.heap.size, 4, none⟩ = some (.slice (some ⟨p4, 0, none⟩) E.length c4))) := fun x y h1 h2 => hcel.out y (h1.trans (h2.mono h1.size))
  have hR1 : Hid (∀ x : World, Below w1.heap.size w1 x → Calls Try.prog 57 #[.agg #[.int .i64 (S : Int), .int .i64 T, .slice (some ⟨p2, 0, none⟩) L.length c2, .slice (some ⟨p3, 0, none⟩) P.length c3, .slice (some ⟨p4, 0, none⟩) E.length c4], .slice (some ⟨p3, 0, none⟩) P.length c3, .bool false] x fun e y => ∃ g, e = .returned (.slice (some ⟨g, 0, none⟩) S S) ∧ w1.heap.size ≤ g ∧ Row y g 4 (bv ah) ∧ Below x.heap.size x y) := by
    intro x hx
    have hb := BX1.out.trans (hx.mono BX1.out.size)
    have h := iReachedN_any S T L P E (some ⟨p2, 0, none⟩) (some ⟨p3, 0, none⟩) (some ⟨p4, 0, none⟩) c2 c3 c4 (some ⟨p3, 0, none⟩) c3 P false x P.length HPS.out ((H2.out.below hb (Nat.le_refl _)).more hb.size) ((H3.out.below hb (Nat.le_refl _)).more hb.size) (by omega) qL QA.out
    exact h.mono fun e y ⟨g, h1, h2, h3, h4⟩ => ⟨g, h1, Nat.le_trans hx.size h2, by rw [HAH.out]; exact h3, h4⟩
  have hR2 : Hid (∀ x : World, Below w1.heap.size w1 x → Calls Try.prog 57 #[.agg #[.int .i64 (S : Int), .int .i64 T, .slice (some ⟨p2, 0, none⟩) L.length c2, .slice (some ⟨p3, 0, none⟩) P.length c3, .slice (some ⟨p4, 0, none⟩) E.length c4], .slice (some ⟨p4, 0, none⟩) E.length c4, .bool true] x fun e y => ∃ g, e = .returned (.slice (some ⟨g, 0, none⟩) S S) ∧ w1.heap.size ≤ g ∧ Row y g 4 (bv bh) ∧ Below x.heap.size x y) := by
    intro x hx
    have hb := BX1.out.trans (hx.mono BX1.out.size)
    have h := iReachedN_any S T L P E (some ⟨p2, 0, none⟩) (some ⟨p3, 0, none⟩) (some ⟨p4, 0, none⟩) c2 c3 c4 (some ⟨p4, 0, none⟩) c4 E true x E.length HES.out ((H2.out.below hb (Nat.le_refl _)).more hb.size) ((H4.out.below hb (Nat.le_refl _)).more hb.size) (by omega) qL QA.out
    exact h.mono fun e y ⟨g, h1, h2, h3, h4⟩ => ⟨g, h1, Nat.le_trans hx.size h2, by rw [HBH.out]; exact h3, h4⟩
  have hfrom := hcel.out w1.drew (Below.drew (Below.refl _ _))
  go_upto_region 3 with fail
  go_cut [4, 5] from 15 to 23 (fun v4 v5 wx => ∃ g1 g2, v4 = .slice (some ⟨g1, 0, none⟩) S S ∧ v5 = .slice (some ⟨g2, 0, none⟩) S S ∧ Hid (w1.heap.size ≤ g1) ∧ Hid (w1.heap.size ≤ g2) ∧ Hid (Row wx g1 4 (bv ah)) ∧ Hid (Row wx g2 4 (bv bh)) ∧ Hid (Below w1.heap.size w1 wx))
  case first =>
    go_region_held3 (fun x => Below w1.heap.size w1 x ∧ x.cell? ⟨w.heap.size, 0, none⟩ = some (.int .i64 (S : Int)) ∧ x.cell? ⟨w.heap.size, 1, none⟩ = some (.int .i64 T) ∧ x.cell? ⟨w.heap.size, 2, none⟩ = some (.slice (some ⟨p2, 0, none⟩) L.length c2) ∧ x.cell? ⟨w.heap.size, 3, none⟩ = some (.slice (some ⟨p3, 0, none⟩) P.length c3) ∧ x.cell? ⟨w.heap.size, 4, none⟩ = some (.slice (some ⟨p4, 0, none⟩) E.length c4)) (first | (with_reducible assumption) | go_keep)
      (first
        | (go_at_call_of 57 (Value.bool false); refine (hR1.out _ (by first | (with_reducible assumption) | (with_reducible (apply And.left; assumption)))).mono ?_; rintro e wy ⟨g1, rfl, hg1, hr1, hb1⟩; have s1 := (fun h => hkeep.out _ _ h hb1) (by first | (with_reducible assumption) | (with_reducible (apply And.left; assumption))); have u1 := Up.of hb1)
        | (go_at_call_of 57 (Value.bool true); refine (hR2.out _ (by first | (with_reducible assumption) | (with_reducible (apply And.left; assumption)))).mono ?_; rintro e wy ⟨g2, rfl, hg2, hr2, hb2⟩; have s2 := (fun h => hkeep.out _ _ h hb2) (by first | (with_reducible assumption) | (with_reducible (apply And.left; assumption))); have u2 := Up.of hb2))
    all_goals
      try go_wp2_with fail
      go_meet
      refine ⟨g1, g2, rfl, rfl, hg1, hg2, ?_, ?_, ?_⟩
      · show Row _ _ _ _
        first | exact hr1 | exact (u2.2 g1 hr1.lt).trans hr1
      · show Row _ _ _ _
        first | exact hr2 | exact (u1.2 g2 hr2.lt).trans hr2
      · show Below _ _ _
        first | (with_reducible exact s2.1) | (with_reducible exact s1.1)
  case rest =>
  obtain ⟨g1, g2, rfl, rfl, HG1, HG2, HR1, HR2, HBw⟩ := hcut
  obtain ⟨w2, rfl⟩ : ∃ x : World, x = wc := ⟨_, rfl⟩
  clear hcel hkeep hR1 hR2 hfrom
  have RB2 := RB1.out.below HBw.out RB1.out.lt
  have z0 := RB2.cell 0
  go_wp2_with fail
  clear z0
  refine (iNone_any S w2 (by omega) (by omega)).mono ?_
  rintro e w3 ⟨g6, rfl, hg6, hr6, hb3⟩
  have RB3 := RB2.below hb3 RB2.lt
  have RR3 := (RR1.out.below HBw.out RR1.out.lt).below hb3 (RR1.out.below HBw.out RR1.out.lt).lt
  have K1 := HR1.out.below hb3 HR1.out.lt
  have K2 := HR2.out.below hb3 HR2.out.lt
  have BX3 := (BX1.out.trans (HBw.out.mono BX1.out.size)).trans (hb3.mono (Nat.le_trans BX1.out.size HBw.out.size))
  have hl1 := HR1.out.lt; have hl2 := HR2.out.lt; have hs2 := HBw.out.size; have hg1 := HG1.out; have hg2 := HG2.out
  have z1 := RB3.cell 1
  go_upto_region 6 with fail
  clear z1 RB2
  -- the machine that is being built
  have rx := Row.new w3 28 [.int .i64 0, .int .i64 T, .slice none 0 0, .slice none 0 0, .slice none 0 0]
  have hOut0 : Out (w3.alloc (.cells ([.int .i64 0, .int .i64 T, .slice none 0 0, .slice none 0 0, .slice none 0 0] : List Value).toArray 28)) (w3.alloc (.cells ([.int .i64 0, .int .i64 T, .slice none 0 0, .slice none 0 0, .slice none 0 0] : List Value).toArray 28)) w2.heap.size g6 S S w3.heap.size w3.heap.size (tmR ah bh S 0) 0 T (.slice none 0 0) (.slice none 0 0) (.slice none 0 0) 0 0 0 [] [] [] := by
    refine ⟨⟨rx, Below.refl _ _, Nat.le_refl _, by simp, World.ownsRow_nil _ _ _ _, World.ownsRow_nil _ _ _ _, World.ownsRow_nil _ _ _ _, fun k hk => by simp [Value.ownBlock] at hk, fun k hk => by simp [Value.ownBlock] at hk, fun k hk => by simp [Value.ownBlock] at hk⟩, ?_, hr6.lt, Lo.refl _ _ _⟩
    rw [tmR_zero]
    exact own_row2 (hr6.alloc _) hg6 (by rw [iv_length, List.length_replicate]; omega) (by unfold maxLen; omega)
  have RB4 := RB3.alloc (.cells ([.int .i64 0, .int .i64 T, .slice none 0 0, .slice none 0 0, .slice none 0 0] : List Value).toArray 28)
  have RR4 := RR3.alloc (.cells ([.int .i64 0, .int .i64 T, .slice none 0 0, .slice none 0 0, .slice none 0 0] : List Value).toArray 28)
  have K14 := K1.alloc (.cells ([.int .i64 0, .int .i64 T, .slice none 0 0, .slice none 0 0, .slice none 0 0] : List Value).toArray 28)
  have K24 := K2.alloc (.cells ([.int .i64 0, .int .i64 T, .slice none 0 0, .slice none 0 0, .slice none 0 0] : List Value).toArray 28)
  have BX4 : Below w.heap.size w (w3.alloc (.cells ([.int .i64 0, .int .i64 T, .slice none 0 0, .slice none 0 0, .slice none 0 0] : List Value).toArray 28)) := BX3.alloc BX3.size _
  have hs3 := hr6.lt
  obtain ⟨w4, hw4⟩ : ∃ x, x = w3.alloc (.cells ([.int .i64 0, .int .i64 T, .slice none 0 0, .slice none 0 0, .slice none 0 0] : List Value).toArray 28) := ⟨_, rfl⟩
  obtain ⟨gx, hgx⟩ : ∃ x, x = w3.heap.size := ⟨_, rfl⟩
  obtain ⟨nb, hnb⟩ : ∃ x, x = w2.heap.size := ⟨_, rfl⟩
  change Code.wp _ _ _ _ (w3.alloc (.cells ([.int .i64 0, .int .i64 T, .slice none 0 0, .slice none 0 0, .slice none 0 0] : List Value).toArray 28))
  rw [← hw4, ← hgx, ← hnb] at hOut0
  rw [← hw4] at RB4 RR4 K14 K24 BX4
  rw [← hw4, ← hgx]
  rw [← hnb] at hg6 hl1 hl2 hs2
  rw [← hgx] at hs3
  have BOX := Lib.hid RB4; have RES := Lib.hid RR4; have R1 := Lib.hid K14; have R2 := Lib.hid K24; have BX := Lib.hid BX4
  have LTS : Hid (w.heap.size + 1 < w1.heap.size ∧ w1.heap.size ≤ nb ∧ g1 < nb ∧ g2 < nb ∧ nb ≤ g6 ∧ g6 < gx ∧ w1.heap.size ≤ g1 ∧ w1.heap.size ≤ g2) := by have := LT1.out; show _ ∧ _ ∧ _ ∧ _ ∧ _ ∧ _ ∧ _ ∧ _; omega
  clear rx RB4 RR4 K14 K24 BX4 K1 K2 RB3 RR3 BX3 hw4 hgx hnb hr6 hb3 hg6 hl1 hl2 hs2 hg1 hg2 hs3 HR1 HR2 HG1 HG2 HBw LT1
  clear RB1 RR1 BX1
  have HO0 : Hid (Out w4 w4 nb g6 S S gx gx (tmR ah bh S 0) 0 T (.slice none 0 0) (.slice none 0 0) (.slice none 0 0) 0 0 0 [] [] []) := hOut0
  clear hOut0
  go_wp2_with fail
  go_loopg [8, 31] S (fun q u8 i wr => ∃ (k n3 : Nat) (v3 v4 : Value), i = .int .i64 (k : Int) ∧ k ≤ S ∧ S ≤ q + k ∧ Hid (n3 = tmC ah bh k) ∧ Hid (Out w4 wr nb g6 S S gx gx (tmR ah bh S k) n3 T (.slice none 0 0) v3 v4 0 n3 n3 [] (tmX ah bh P k) (tmX ah bh E k)))
  case atStart => exact ⟨0, 0, _, _, by go_num, by omega, by omega, rfl, HO0.out⟩
  case round =>
    clear HO0
    obtain ⟨k, n3, v3, v4, rfl, hk, hm, HN, HO⟩ := hrel
    obtain ⟨wo, rfl⟩ : ∃ x : World, x = wr := ⟨_, rfl⟩
    obtain ⟨A3, d3, hv3, _, _⟩ := own_form HO.out.m3.o3
    subst hv3
    obtain ⟨A4, d4, hv4, _, _⟩ := own_form HO.out.m3.o4
    subst hv4
    have hn3 : n3 ≤ k := by rw [HN.out]; exact tmC_le k
    by_cases hlt : k < S
    · obtain ⟨x1, hx1⟩ : ∃ x, ah[k]? = some x := ⟨_, List.getElem?_eq_getElem (by rw [HAL.out]; exact hlt)⟩
      obtain ⟨x2, hx2⟩ : ∃ x, bh[k]? = some x := ⟨_, List.getElem?_eq_getElem (by rw [HBL.out]; exact hlt)⟩
      have HKP : Hid (kpB ah bh k = (x1 && x2)) := by show (ah.getD k false && bh.getD k false) = _; rw [List.getD_eq_getElem?_getD, List.getD_eq_getElem?_getD, hx1, hx2]; rfl
      have t1 := bv_at (HO.out.old R1.out (by have := LTS.out; omega) (by have := LTS.out; omega)) hx1
      have t2 := bv_at (HO.out.old R2.out (by have := LTS.out; omega) (by have := LTS.out; omega)) hx2
      have l0 : (0 : Int) ≤ (k : Int) := by omega
      have l1 : (k : Int) < (S : Int) := by omega
      clear hx1 hx2
      cases x1 with
      | false =>
        have hkp : kpB ah bh k = false := by rw [HKP.out]; rfl
        have hR := tmR_no (S := S) hkp; have hP := tmX_no (X := P) hkp; have hE := tmX_no (X := E) hkp; have hC := tmC_no hkp
        have HRE := Lib.hid hR; have HPE := Lib.hid hP; have HEE := Lib.hid hE; have HCE := Lib.hid hC
        clear hkp hR hP hE hC
        go_wp2_with fail
        go_roundg (gk - 1)
        case measure => omega
        case rel => exact ⟨k + 1, n3, _, _, by go_num, by omega, by omega, by show _ = _; rw [HCE.out]; exact HN.out, by show Out _ _ _ _ _ _ _ _ _ _ _ _ _ _ _ _ _ _ _ _; rw [HRE.out, HPE.out, HEE.out]; exact HO.out⟩

      | true =>
        cases x2 with
        | false =>
          have hkp : kpB ah bh k = false := by rw [HKP.out]; rfl
          have hR := tmR_no (S := S) hkp; have hP := tmX_no (X := P) hkp; have hE := tmX_no (X := E) hkp; have hC := tmC_no hkp
          have HRE := Lib.hid hR; have HPE := Lib.hid hP; have HEE := Lib.hid hE; have HCE := Lib.hid hC
          clear hkp hR hP hE hC
          go_wp2_with fail
          go_roundg (gk - 1)
          case measure => omega
          case rel => exact ⟨k + 1, n3, _, _, by go_num, by omega, by omega, by show _ = _; rw [HCE.out]; exact HN.out, by show Out _ _ _ _ _ _ _ _ _ _ _ _ _ _ _ _ _ _ _ _; rw [HRE.out, HPE.out, HEE.out]; exact HO.out⟩

        | true =>
          have hkp : kpB ah bh k = true := by rw [HKP.out]; rfl
          have HYR := Lib.hid (tmR_yes (S := S) hlt hkp); have HYC := Lib.hid (tmC_yes hkp); have HYP := fun x => tmX_yes (X := P) (x := x) hkp; have HYE := fun x => tmX_yes (X := E) (x := x) hkp
          have HYP := Lib.hid HYP; have HYE := Lib.hid HYE
          have hrk : (tmR ah bh S k)[k]? = some (-1) := by rw [tmR_at hlt, if_neg (by omega)]
          obtain ⟨n0, n1⟩ := HO.out.at_ hrk
          have o0 := HO.out.m3.row.cell 0
          have ew : IntKind.i64.wrap ((n3 : Int) + 1) = (n3 : Int) + 1 := IntWalk.i64_in _ (by omega)
          have O1 := HO.out.name (k := k) (by rw [tmR_len]; exact hlt) (n3 : Int)
          have O2 := O1.count ((n3 : Int) + 1)
          have HO1 := Lib.hid O1; have HO2 := Lib.hid O2
          clear hrk hkp O1 O2
          go_upto_region 11 with fail
          clear n0 n1 o0 t1 t2
          obtain ⟨ya, hya⟩ : ∃ x, x = wo.setCell ⟨g6, k, none⟩ (.int .i64 (n3 : Int)) := ⟨_, rfl⟩
          have h1 := HO1.out; have h2 := HO2.out
          rw [← hya] at h1 h2
          change Code.wp _ _ _ _ (wo.setCell ⟨g6, k, none⟩ (.int .i64 (n3 : Int)))
          rw [← hya]
          have HO2 := Lib.hid h2
          have o0 := h1.m3.row.cell 0; have o1 := h1.m3.row.frozen 0
          clear h1 h2 hya HO1 HO
          go_upto_region 12 with fail
          clear o0 o1
          obtain ⟨yb, hyb⟩ : ∃ x, x = ya.setCell ⟨gx, 0, none⟩ (.int .i64 ((n3 : Int) + 1)) := ⟨_, rfl⟩
          have h2 := HO2.out
          rw [← hyb] at h2
          change Code.wp _ _ _ _ (ya.setCell ⟨gx, 0, none⟩ (.int .i64 ((n3 : Int) + 1)))
          rw [← hyb]
          have HO2 := Lib.hid h2
          clear h2 hyb
          have BOv := HO2.out.old BOX.out (by have := LTS.out; omega) (by have := LTS.out; omega)
          have hbW : w.heap.size < yb.heap.size := BOv.lt
          have hbc := BOv.cell 3
          have hbv : Below w.heap.size w yb := BX.out.trans (HO2.out.fr.bel (by have := LTS.out; omega) (by have := LTS.out; omega))
          obtain ⟨b, off, xp, hsl, hbB, hxp, hc⟩ := (H3.out.below hbv (Nat.le_refl _)).at_ (k := k) (by rw [HPS.out]; exact hlt)
          injection hsl with hsl
          injection hsl with e1 e2 _
          subst e1 e2
          rw [Nat.zero_add] at hc
          have lk : (k : Int) < (P.length : Int) := by have := HPS.out; omega
          clear BOv hbv
          go_cut [] from 53 to 63 (fun wx => ∃ A5 d5, Hid (Out w4 wx nb g6 S S gx gx ((tmR ah bh S k).set k (n3 : Int)) ((n3 : Int) + 1) T (.slice none 0 0) (.slice A5 (n3 + 1) d5) (.slice A4 n3 d4) 0 (n3 + 1) n3 [] (tmX ah bh P k ++ [xp]) (tmX ah bh E k)))
          case first =>
            obtain ⟨Wv, rfl⟩ : ∃ x : World, x = yb := ⟨_, rfl⟩
            have HOA : Hid (Out w4 (Wv.alloc (.cells ([.int .i64 xp] : List Value).toArray 2)).drew nb g6 S S gx gx ((tmR ah bh S k).set k (n3 : Int)) ((n3 : Int) + 1) T (.slice none 0 0) (.slice A3 n3 d3) (.slice A4 n3 d4) 0 n3 n3 [] (tmX ah bh P k) (tmX ah bh E k)) := (HO2.out.alloc _).drewN 1
            have HNEW : Hid (∀ j' u, ([.int .i64 xp] : List Value)[j']? = some u → ((Wv.alloc (.cells ([.int .i64 xp] : List Value).toArray 2)).drew).cell? ⟨Wv.heap.size, 0 + j', none⟩ = some u) := fun j' u hu => by
              rw [Nat.zero_add]; exact ((Row.new Wv 2 [.int .i64 xp]).cell j').trans hu
            have ROOM : Hid (n3 + 1 ≤ 4294967296) := by show _ ≤ _; omega
            have HSx : Hid (∀ x9 : World, (∀ b, b < Wv.heap.size → b ≠ gx → (Value.slice A3 n3 d3).ownBlock ≠ some b → x9.heap[b]? = Wv.heap[b]?) → (x9.cell? ⟨w.heap.size, 3, none⟩ = some (.slice (some ⟨p3, 0, none⟩) P.length c3) ∧ x9.cell? ⟨p3, k, none⟩ = some (.int .i64 xp))) := fun x9 h9 => ⟨((World.cell?_of_block (a := ⟨w.heap.size, 3, none⟩) (h9 w.heap.size hbW (by have := LTS.out; omega) (fun e => by have := (HO2.out.m3.o3.lt _ e).1; have := LTS.out; omega))).trans hbc), ((World.cell?_of_block (a := ⟨p3, k, none⟩) (h9 p3 (by omega) (by have := LTS.out; omega) (fun e => by have := (HO2.out.m3.o3.lt _ e).1; have := LTS.out; omega))).trans hc)⟩
            have cA2 : (Wv.alloc (.cells ([.int .i64 xp] : List Value).toArray 2)).cell? ⟨gx, 3, none⟩ = some (Value.slice A3 n3 d3) := (HO2.out.alloc _).m3.row.cell 3
            have e5 : Wv.cell? ⟨gx, 3, none⟩ = some (Value.slice A3 n3 d3) := HO2.out.m3.row.cell 3
            have hS0 := HSx.out Wv.drew (fun b _ _ _ => rfl)
            refine wp_region_held_drew (S := fun x9 => x9.cell? ⟨w.heap.size, 3, none⟩ = some (.slice (some ⟨p3, 0, none⟩) P.length c3) ∧ x9.cell? ⟨p3, k, none⟩ = some (.int .i64 xp)) (by kernel_rfl) hS0 (fun hHeld => ?_)
            clear hS0
            refine wpAnyH_take (i := 0) (v := ?_) rfl (by kernel_rfl) (by kernel_rfl) (by kernel_rfl) (fun _ _ _ h => h) (Or.inl ⟨by rfl, ?_⟩) (by assumption) ?_
            rotate_left
            · intro w9 hSw; (try dsimp only at hSw); go_simp; first | done | (with_reducible rfl)
            try simp only [Act.put, List.setIfInBounds_toArray]
            refine wpAnyH_take (i := 2) (v := ?_) rfl (by kernel_rfl) (by kernel_rfl) (by kernel_rfl) (fun _ _ _ h => h) (Or.inl ⟨by rfl, ?_⟩) (by assumption) ?_
            rotate_left
            · intro w9 hSw; (try dsimp only at hSw); go_simp; first | done | (with_reducible rfl)
            try simp only [Act.put]
            refine wpAnyH_take (i := 3) (v := ?_) rfl (by kernel_rfl) (by kernel_rfl) (by kernel_rfl) (fun _ _ _ h => h) (Or.inl ⟨by rfl, ?_⟩) (by assumption) ?_
            rotate_left
            · intro w9 hSw; (try dsimp only at hSw); go_simp; first | done | (with_reducible rfl)
            try simp only [Act.put]
            refine wpAnyH_take (i := 4) (v := ?_) rfl (by kernel_rfl) (by kernel_rfl) (by kernel_rfl) (fun _ _ _ h => h) (Or.inl ⟨by rfl, ?_⟩) (by assumption) ?_
            rotate_left
            · intro w9 hSw; (try dsimp only at hSw); go_simp; first | done | (with_reducible rfl)
            try simp only [Act.put]
            refine wpAnyH_take (i := 5) (v := ?_) rfl (by kernel_rfl) (by kernel_rfl) (by kernel_rfl) (fun _ _ _ h => h) (Or.inl ⟨by rfl, ?_⟩) (by assumption) ?_
            rotate_left
            · intro w9 hSw; (try dsimp only at hSw); go_simp; first | done | (with_reducible rfl)
            try simp only [Act.put]
            refine wpAnyH_take (i := 6) (v := ?_) rfl (by kernel_rfl) (by kernel_rfl) (by kernel_rfl) (fun _ _ _ h => h) (Or.inl ⟨by rfl, ?_⟩) (by assumption) ?_
            rotate_left
            · intro w9 hSw; (try dsimp only at hSw); go_simp; first | done | (with_reducible rfl)
            try simp only [Act.put]
            refine wpAnyH_ready (rs := [1, 7]) (by kernel_rfl) (by simp) ?_
            refine AllReadyH.cons rfl (fun K hK => ?_) ?_
            · go_simp
              refine hK.out _ _ (HSx.out _ (fun b _ _ _ => rfl)) (fun hHeld => ?_)
              clear hK K
              try simp only [Act.put, List.setIfInBounds_toArray, List.set_cons_zero, List.set_cons_succ]
              refine wpAnyH_ready (rs := [7]) (by kernel_rfl) (by simp) ?_
              refine AllReadyH.cons rfl (fun K hK => ?_) AllReadyH.nil
              go_simp
              refine hK.out _ _ (HSx.out _ (fun b hb1 hb2 hb3 => Below.heap_alloc Wv _ b hb1)) (fun hHeld => ?_)
              clear hK K
              try simp only [Act.put, List.setIfInBounds_toArray, List.set_cons_zero, List.set_cons_succ]
              refine wpAnyH_ready (rs := [8]) (by kernel_rfl) (by simp) ?_
              refine AllReadyH.cons rfl (fun K hK => ?_) AllReadyH.nil
              refine step_cells_push rfl (.tmp 54) (.tmp 60) _ rfl gx 2 (.int .i64 0) 1 8 Try.underlying26 infoQ rfl (by omega) (by omega) (Value.slice A3 n3 d3) n3 (iv (tmX ah bh P k)) ?_ HOA.out.m3.o3 Wv.heap.size 0 1 1 [.int .i64 xp] ?_ rfl HNEW.out (iv_one [xp]) ROOM.out (Nat.le_of_lt HOA.out.size) ?_
              rfl
              rfl
              intro A5 d5 wv hown hgr hbl hat
              have hrw := HOA.out.m3.row.grown hgr (fun e => ((HOA.out.m3.d3 gx e.symm).1) rfl)
              have y0 := hrw.cell 3
              have y1 := hrw.frozen 3
              have HQv : Hid (∀ b, b < Wv.heap.size → b ≠ gx → (Value.slice A3 n3 d3).ownBlock ≠ some b → wv.heap[b]? = Wv.heap[b]?) := fun b hb1 hb2 hb3 => (hgr.block b (by show b < (Wv.alloc (.cells ([.int .i64 xp] : List Value).toArray 2)).heap.size; simp; omega) (fun e => hb3 e.symm)).trans (Below.heap_alloc Wv _ b hb1)
              have HPU : Hid (Out w4 (wv.setCell ⟨gx, 3, none⟩ (.slice A5 (n3 + 1) d5)) nb g6 S S gx gx ((tmR ah bh S k).set k (n3 : Int)) ((n3 : Int) + 1) T (.slice none 0 0) (.slice A5 (n3 + 1) d5) (.slice A4 n3 d4) 0 (n3 + 1) n3 [] (tmX ah bh P k ++ [xp]) (tmX ah bh E k)) := HOA.out.push3 (by first | (rw [iv_append]; exact hown) | (rw [fa_append]; exact hown)) hgr hat
              clear hown hgr hbl hat hrw
              refine hK.out _ _ (HSx.out _ HQv.out) (fun hHeld => ?_)
              clear hK K
              try simp only [Act.put, List.setIfInBounds_toArray]
              refine wpAnyH_take (i := 9) (v := ?_) rfl (by kernel_rfl) (by kernel_rfl) (by kernel_rfl) (fun _ _ _ h => h) (Or.inl ⟨by rfl, ?_⟩) (by assumption) ?_
              rotate_left
              · intro w9 hSw; (try dsimp only at hSw); go_simp; first | done | (with_reducible rfl)
              try simp only [Act.put]
              refine wpAnyH_ready (rs := [10]) (by kernel_rfl) (by simp) ?_
              refine AllReadyH.cons rfl (fun K hK => ?_) AllReadyH.nil
              go_simp
              refine hK.out _ _ (HSx.out _ (fun b hb1 hb2 hb3 => (Below.heap_setCell wv ⟨gx, 3, none⟩ _ b hb2).trans (HQv.out b hb1 hb2 hb3))) (fun hHeld => ?_)
              clear hK K
              try simp only [Act.put, List.setIfInBounds_toArray, List.set_cons_zero, List.set_cons_succ]
              refine wpAnyH_done (by kernel_rfl) ?_ _
              clear y0 y1 e5 cA2
              try go_wp2_with fail
              go_meet
              exact ⟨_, _, HPU⟩
            refine AllReadyH.cons rfl (fun K hK => ?_) AllReadyH.nil
            · go_simp
              refine hK.out _ _ (HSx.out _ (fun b hb1 hb2 hb3 => Below.heap_alloc Wv _ b hb1)) (fun hHeld => ?_)
              clear hK K
              try simp only [Act.put, List.setIfInBounds_toArray, List.set_cons_zero, List.set_cons_succ]
              refine wpAnyH_ready (rs := [1]) (by kernel_rfl) (by simp) ?_
              refine AllReadyH.cons rfl (fun K hK => ?_) AllReadyH.nil
              go_simp
              refine hK.out _ _ (HSx.out _ (fun b hb1 hb2 hb3 => Below.heap_alloc Wv _ b hb1)) (fun hHeld => ?_)
              clear hK K
              try simp only [Act.put, List.setIfInBounds_toArray, List.set_cons_zero, List.set_cons_succ]
              refine wpAnyH_ready (rs := [8]) (by kernel_rfl) (by simp) ?_
              refine AllReadyH.cons rfl (fun K hK => ?_) AllReadyH.nil
              refine step_cells_push rfl (.tmp 54) (.tmp 60) _ rfl gx 2 (.int .i64 0) 1 8 Try.underlying26 infoQ rfl (by omega) (by omega) (Value.slice A3 n3 d3) n3 (iv (tmX ah bh P k)) ?_ HOA.out.m3.o3 Wv.heap.size 0 1 1 [.int .i64 xp] ?_ rfl HNEW.out (iv_one [xp]) ROOM.out (Nat.le_of_lt HOA.out.size) ?_
              rfl
              rfl
              intro A5 d5 wv hown hgr hbl hat
              have hrw := HOA.out.m3.row.grown hgr (fun e => ((HOA.out.m3.d3 gx e.symm).1) rfl)
              have y0 := hrw.cell 3
              have y1 := hrw.frozen 3
              have HQv : Hid (∀ b, b < Wv.heap.size → b ≠ gx → (Value.slice A3 n3 d3).ownBlock ≠ some b → wv.heap[b]? = Wv.heap[b]?) := fun b hb1 hb2 hb3 => (hgr.block b (by show b < (Wv.alloc (.cells ([.int .i64 xp] : List Value).toArray 2)).heap.size; simp; omega) (fun e => hb3 e.symm)).trans (Below.heap_alloc Wv _ b hb1)
              have HPU : Hid (Out w4 (wv.setCell ⟨gx, 3, none⟩ (.slice A5 (n3 + 1) d5)) nb g6 S S gx gx ((tmR ah bh S k).set k (n3 : Int)) ((n3 : Int) + 1) T (.slice none 0 0) (.slice A5 (n3 + 1) d5) (.slice A4 n3 d4) 0 (n3 + 1) n3 [] (tmX ah bh P k ++ [xp]) (tmX ah bh E k)) := HOA.out.push3 (by first | (rw [iv_append]; exact hown) | (rw [fa_append]; exact hown)) hgr hat
              clear hown hgr hbl hat hrw
              refine hK.out _ _ (HSx.out _ HQv.out) (fun hHeld => ?_)
              clear hK K
              try simp only [Act.put, List.setIfInBounds_toArray]
              refine wpAnyH_take (i := 9) (v := ?_) rfl (by kernel_rfl) (by kernel_rfl) (by kernel_rfl) (fun _ _ _ h => h) (Or.inl ⟨by rfl, ?_⟩) (by assumption) ?_
              rotate_left
              · intro w9 hSw; (try dsimp only at hSw); go_simp; first | done | (with_reducible rfl)
              try simp only [Act.put]
              refine wpAnyH_ready (rs := [10]) (by kernel_rfl) (by simp) ?_
              refine AllReadyH.cons rfl (fun K hK => ?_) AllReadyH.nil
              go_simp
              refine hK.out _ _ (HSx.out _ (fun b hb1 hb2 hb3 => (Below.heap_setCell wv ⟨gx, 3, none⟩ _ b hb2).trans (HQv.out b hb1 hb2 hb3))) (fun hHeld => ?_)
              clear hK K
              try simp only [Act.put, List.setIfInBounds_toArray, List.set_cons_zero, List.set_cons_succ]
              refine wpAnyH_done (by kernel_rfl) ?_ _
              clear y0 y1 e5 cA2
              try go_wp2_with fail
              go_meet
              exact ⟨_, _, HPU⟩
          case rest =>
          obtain ⟨A5, d5, HO3⟩ := hcut
          obtain ⟨yc, rfl⟩ : ∃ x : World, x = wc := ⟨_, rfl⟩
          clear hc lk hbW hbc
          go_upto_region 13 with fail
          have BOv := HO3.out.old BOX.out (by have := LTS.out; omega) (by have := LTS.out; omega)
          have hbW : w.heap.size < yc.heap.size := BOv.lt
          have hbc := BOv.cell 4
          have hbv : Below w.heap.size w yc := BX.out.trans (HO3.out.fr.bel (by have := LTS.out; omega) (by have := LTS.out; omega))
          obtain ⟨b, off, xe, hsl, hbB, hxe, hc⟩ := (H4.out.below hbv (Nat.le_refl _)).at_ (k := k) (by rw [HES.out]; exact hlt)
          injection hsl with hsl
          injection hsl with e1 e2 _
          subst e1 e2
          rw [Nat.zero_add] at hc
          have lk : (k : Int) < (E.length : Int) := by have := HES.out; omega
          clear BOv hbv
          have HOA : Hid (Out w4 (yc.alloc (.cells ([.int .i64 xe] : List Value).toArray 2)).drew nb g6 S S gx gx ((tmR ah bh S k).set k (n3 : Int)) ((n3 : Int) + 1) T (.slice none 0 0) (.slice A5 (n3 + 1) d5) (.slice A4 n3 d4) 0 (n3 + 1) n3 [] (tmX ah bh P k ++ [xp]) (tmX ah bh E k)) := (HO3.out.alloc _).drewN 1
          have HNEW : Hid (∀ j' u, ([.int .i64 xe] : List Value)[j']? = some u → ((yc.alloc (.cells ([.int .i64 xe] : List Value).toArray 2)).drew).cell? ⟨yc.heap.size, 0 + j', none⟩ = some u) := fun j' u hu => by
            rw [Nat.zero_add]; exact ((Row.new yc 2 [.int .i64 xe]).cell j').trans hu
          have ROOM : Hid (n3 + 1 ≤ 4294967296) := by show _ ≤ _; omega
          have HSx : Hid (∀ x9 : World, (∀ b, b < yc.heap.size → b ≠ gx → (Value.slice A4 n3 d4).ownBlock ≠ some b → x9.heap[b]? = yc.heap[b]?) → (x9.cell? ⟨w.heap.size, 4, none⟩ = some (.slice (some ⟨p4, 0, none⟩) E.length c4) ∧ x9.cell? ⟨p4, k, none⟩ = some (.int .i64 xe))) := fun x9 h9 => ⟨((World.cell?_of_block (a := ⟨w.heap.size, 4, none⟩) (h9 w.heap.size hbW (by have := LTS.out; omega) (fun e => by have := (HO3.out.m3.o4.lt _ e).1; have := LTS.out; omega))).trans hbc), ((World.cell?_of_block (a := ⟨p4, k, none⟩) (h9 p4 (by omega) (by have := LTS.out; omega) (fun e => by have := (HO3.out.m3.o4.lt _ e).1; have := LTS.out; omega))).trans hc)⟩
          have cA2 : (yc.alloc (.cells ([.int .i64 xe] : List Value).toArray 2)).cell? ⟨gx, 4, none⟩ = some (Value.slice A4 n3 d4) := (HO3.out.alloc _).m3.row.cell 4
          have e5 : yc.cell? ⟨gx, 4, none⟩ = some (Value.slice A4 n3 d4) := HO3.out.m3.row.cell 4
          have hS0 := HSx.out yc.drew (fun b _ _ _ => rfl)
          refine wp_region_held_drew (S := fun x9 => x9.cell? ⟨w.heap.size, 4, none⟩ = some (.slice (some ⟨p4, 0, none⟩) E.length c4) ∧ x9.cell? ⟨p4, k, none⟩ = some (.int .i64 xe)) (by kernel_rfl) hS0 (fun hHeld => ?_)
          clear hS0
          refine wpAnyH_take (i := 0) (v := ?_) rfl (by kernel_rfl) (by kernel_rfl) (by kernel_rfl) (fun _ _ _ h => h) (Or.inl ⟨by rfl, ?_⟩) (by assumption) ?_
          rotate_left
          · intro w9 hSw; (try dsimp only at hSw); go_simp; first | done | (with_reducible rfl)
          try simp only [Act.put, List.setIfInBounds_toArray]
          refine wpAnyH_take (i := 2) (v := ?_) rfl (by kernel_rfl) (by kernel_rfl) (by kernel_rfl) (fun _ _ _ h => h) (Or.inl ⟨by rfl, ?_⟩) (by assumption) ?_
          rotate_left
          · intro w9 hSw; (try dsimp only at hSw); go_simp; first | done | (with_reducible rfl)
          try simp only [Act.put]
          refine wpAnyH_take (i := 3) (v := ?_) rfl (by kernel_rfl) (by kernel_rfl) (by kernel_rfl) (fun _ _ _ h => h) (Or.inl ⟨by rfl, ?_⟩) (by assumption) ?_
          rotate_left
          · intro w9 hSw; (try dsimp only at hSw); go_simp; first | done | (with_reducible rfl)
          try simp only [Act.put]
          refine wpAnyH_take (i := 4) (v := ?_) rfl (by kernel_rfl) (by kernel_rfl) (by kernel_rfl) (fun _ _ _ h => h) (Or.inl ⟨by rfl, ?_⟩) (by assumption) ?_
          rotate_left
          · intro w9 hSw; (try dsimp only at hSw); go_simp; first | done | (with_reducible rfl)
          try simp only [Act.put]
          refine wpAnyH_take (i := 5) (v := ?_) rfl (by kernel_rfl) (by kernel_rfl) (by kernel_rfl) (fun _ _ _ h => h) (Or.inl ⟨by rfl, ?_⟩) (by assumption) ?_
          rotate_left
          · intro w9 hSw; (try dsimp only at hSw); go_simp; first | done | (with_reducible rfl)
          try simp only [Act.put]
          refine wpAnyH_take (i := 6) (v := ?_) rfl (by kernel_rfl) (by kernel_rfl) (by kernel_rfl) (fun _ _ _ h => h) (Or.inl ⟨by rfl, ?_⟩) (by assumption) ?_
          rotate_left
          · intro w9 hSw; (try dsimp only at hSw); go_simp; first | done | (with_reducible rfl)
          try simp only [Act.put]
          refine wpAnyH_ready (rs := [1, 7]) (by kernel_rfl) (by simp) ?_
          refine AllReadyH.cons rfl (fun K hK => ?_) ?_
          · go_simp
            refine hK.out _ _ (HSx.out _ (fun b _ _ _ => rfl)) (fun hHeld => ?_)
            clear hK K
            try simp only [Act.put, List.setIfInBounds_toArray, List.set_cons_zero, List.set_cons_succ]
            refine wpAnyH_ready (rs := [7]) (by kernel_rfl) (by simp) ?_
            refine AllReadyH.cons rfl (fun K hK => ?_) AllReadyH.nil
            go_simp
            refine hK.out _ _ (HSx.out _ (fun b hb1 hb2 hb3 => Below.heap_alloc yc _ b hb1)) (fun hHeld => ?_)
            clear hK K
            try simp only [Act.put, List.setIfInBounds_toArray, List.set_cons_zero, List.set_cons_succ]
            refine wpAnyH_ready (rs := [8]) (by kernel_rfl) (by simp) ?_
            refine AllReadyH.cons rfl (fun K hK => ?_) AllReadyH.nil
            refine step_cells_push rfl (.tmp 64) (.tmp 70) _ rfl gx 2 (.int .i64 0) 1 8 Try.underlying26 infoQ rfl (by omega) (by omega) (Value.slice A4 n3 d4) n3 (iv (tmX ah bh E k)) ?_ HOA.out.m3.o4 yc.heap.size 0 1 1 [.int .i64 xe] ?_ rfl HNEW.out (iv_one [xe]) ROOM.out (Nat.le_of_lt HOA.out.size) ?_
            rfl
            rfl
            intro A6 d6 wv hown hgr hbl hat
            have hrw := HOA.out.m3.row.grown hgr (fun e => (HOA.out.m3.d4 gx e.symm) rfl)
            have y0 := hrw.cell 4
            have y1 := hrw.frozen 4
            have HQv : Hid (∀ b, b < yc.heap.size → b ≠ gx → (Value.slice A4 n3 d4).ownBlock ≠ some b → wv.heap[b]? = yc.heap[b]?) := fun b hb1 hb2 hb3 => (hgr.block b (by show b < (yc.alloc (.cells ([.int .i64 xe] : List Value).toArray 2)).heap.size; simp; omega) (fun e => hb3 e.symm)).trans (Below.heap_alloc yc _ b hb1)
            have HPU : Hid (Out w4 (wv.setCell ⟨gx, 4, none⟩ (.slice A6 (n3 + 1) d6)) nb g6 S S gx gx ((tmR ah bh S k).set k (n3 : Int)) ((n3 : Int) + 1) T (.slice none 0 0) (.slice A5 (n3 + 1) d5) (.slice A6 (n3 + 1) d6) 0 (n3 + 1) (n3 + 1) [] (tmX ah bh P k ++ [xp]) (tmX ah bh E k ++ [xe])) := HOA.out.push4 (by first | (rw [iv_append]; exact hown) | (rw [fa_append]; exact hown)) hgr hat
            clear hown hgr hbl hat hrw
            refine hK.out _ _ (HSx.out _ HQv.out) (fun hHeld => ?_)
            clear hK K
            try simp only [Act.put, List.setIfInBounds_toArray]
            refine wpAnyH_take (i := 9) (v := ?_) rfl (by kernel_rfl) (by kernel_rfl) (by kernel_rfl) (fun _ _ _ h => h) (Or.inl ⟨by rfl, ?_⟩) (by assumption) ?_
            rotate_left
            · intro w9 hSw; (try dsimp only at hSw); go_simp; first | done | (with_reducible rfl)
            try simp only [Act.put]
            refine wpAnyH_ready (rs := [10]) (by kernel_rfl) (by simp) ?_
            refine AllReadyH.cons rfl (fun K hK => ?_) AllReadyH.nil
            go_simp
            refine hK.out _ _ (HSx.out _ (fun b hb1 hb2 hb3 => (Below.heap_setCell wv ⟨gx, 4, none⟩ _ b hb2).trans (HQv.out b hb1 hb2 hb3))) (fun hHeld => ?_)
            clear hK K
            try simp only [Act.put, List.setIfInBounds_toArray, List.set_cons_zero, List.set_cons_succ]
            refine wpAnyH_done (by kernel_rfl) ?_ _
            clear y0 y1 e5 cA2
            go_wp2_with fail
            go_roundg (gk - 1)
            case measure => omega
            case rel =>
              refine ⟨k + 1, n3 + 1, (.slice A5 (n3 + 1) d5), (.slice A6 (n3 + 1) d6), by go_num, by omega, by omega, by show _ = _; rw [HYC.out, ← HN.out], ?_⟩
              show Out _ _ _ _ _ _ _ _ _ _ _ _ _ _ _ _ _ _ _ _
              rw [HYR.out, HYP.out xp hxp.out, HYE.out xe hxe.out, ← HN.out]
              exact HPU.out
          refine AllReadyH.cons rfl (fun K hK => ?_) AllReadyH.nil
          · go_simp
            refine hK.out _ _ (HSx.out _ (fun b hb1 hb2 hb3 => Below.heap_alloc yc _ b hb1)) (fun hHeld => ?_)
            clear hK K
            try simp only [Act.put, List.setIfInBounds_toArray, List.set_cons_zero, List.set_cons_succ]
            refine wpAnyH_ready (rs := [1]) (by kernel_rfl) (by simp) ?_
            refine AllReadyH.cons rfl (fun K hK => ?_) AllReadyH.nil
            go_simp
            refine hK.out _ _ (HSx.out _ (fun b hb1 hb2 hb3 => Below.heap_alloc yc _ b hb1)) (fun hHeld => ?_)
            clear hK K
            try simp only [Act.put, List.setIfInBounds_toArray, List.set_cons_zero, List.set_cons_succ]
            refine wpAnyH_ready (rs := [8]) (by kernel_rfl) (by simp) ?_
            refine AllReadyH.cons rfl (fun K hK => ?_) AllReadyH.nil
            refine step_cells_push rfl (.tmp 64) (.tmp 70) _ rfl gx 2 (.int .i64 0) 1 8 Try.underlying26 infoQ rfl (by omega) (by omega) (Value.slice A4 n3 d4) n3 (iv (tmX ah bh E k)) ?_ HOA.out.m3.o4 yc.heap.size 0 1 1 [.int .i64 xe] ?_ rfl HNEW.out (iv_one [xe]) ROOM.out (Nat.le_of_lt HOA.out.size) ?_
            rfl
            rfl
            intro A6 d6 wv hown hgr hbl hat
            have hrw := HOA.out.m3.row.grown hgr (fun e => (HOA.out.m3.d4 gx e.symm) rfl)
            have y0 := hrw.cell 4
            have y1 := hrw.frozen 4
            have HQv : Hid (∀ b, b < yc.heap.size → b ≠ gx → (Value.slice A4 n3 d4).ownBlock ≠ some b → wv.heap[b]? = yc.heap[b]?) := fun b hb1 hb2 hb3 => (hgr.block b (by show b < (yc.alloc (.cells ([.int .i64 xe] : List Value).toArray 2)).heap.size; simp; omega) (fun e => hb3 e.symm)).trans (Below.heap_alloc yc _ b hb1)
            have HPU : Hid (Out w4 (wv.setCell ⟨gx, 4, none⟩ (.slice A6 (n3 + 1) d6)) nb g6 S S gx gx ((tmR ah bh S k).set k (n3 : Int)) ((n3 : Int) + 1) T (.slice none 0 0) (.slice A5 (n3 + 1) d5) (.slice A6 (n3 + 1) d6) 0 (n3 + 1) (n3 + 1) [] (tmX ah bh P k ++ [xp]) (tmX ah bh E k ++ [xe])) := HOA.out.push4 (by first | (rw [iv_append]; exact hown) | (rw [fa_append]; exact hown)) hgr hat
            clear hown hgr hbl hat hrw
            refine hK.out _ _ (HSx.out _ HQv.out) (fun hHeld => ?_)
            clear hK K
            try simp only [Act.put, List.setIfInBounds_toArray]
            refine wpAnyH_take (i := 9) (v := ?_) rfl (by kernel_rfl) (by kernel_rfl) (by kernel_rfl) (fun _ _ _ h => h) (Or.inl ⟨by rfl, ?_⟩) (by assumption) ?_
            rotate_left
            · intro w9 hSw; (try dsimp only at hSw); go_simp; first | done | (with_reducible rfl)
            try simp only [Act.put]
            refine wpAnyH_ready (rs := [10]) (by kernel_rfl) (by simp) ?_
            refine AllReadyH.cons rfl (fun K hK => ?_) AllReadyH.nil
            go_simp
            refine hK.out _ _ (HSx.out _ (fun b hb1 hb2 hb3 => (Below.heap_setCell wv ⟨gx, 4, none⟩ _ b hb2).trans (HQv.out b hb1 hb2 hb3))) (fun hHeld => ?_)
            clear hK K
            try simp only [Act.put, List.setIfInBounds_toArray, List.set_cons_zero, List.set_cons_succ]
            refine wpAnyH_done (by kernel_rfl) ?_ _
            clear y0 y1 e5 cA2
            go_wp2_with fail
            go_roundg (gk - 1)
            case measure => omega
            case rel =>
              refine ⟨k + 1, n3 + 1, (.slice A5 (n3 + 1) d5), (.slice A6 (n3 + 1) d6), by go_num, by omega, by omega, by show _ = _; rw [HYC.out, ← HN.out], ?_⟩
              show Out _ _ _ _ _ _ _ _ _ _ _ _ _ _ _ _ _ _ _ _
              rw [HYR.out, HYP.out xp hxp.out, HYE.out xe hxe.out, ← HN.out]
              exact HPU.out

    · have hkS : k = S := by omega
      have l1 : ¬ (k : Int) < (S : Int) := by omega
      obtain ⟨wz, rfl⟩ : ∃ x : World, x = wo := ⟨_, rfl⟩
      subst hkS
      clear hlt hk hm
      have BOz := HO.out.old BOX.out (by have := LTS.out; omega) (by have := LTS.out; omega)
      have z2 := BOz.cell 2
      go_wp2_with fail
      clear z2 BOz
      go_loopg [10, 77] L.length (fun q u10 i wr => ∃ (j n2 : Nat) (v2 : Value), i = .int .i64 (j : Int) ∧ j ≤ L.length ∧ L.length ≤ q + j ∧ Hid (n2 = (tmA ah bh L j).length) ∧ Hid (Out w4 wr nb g6 k k gx gx (tmR ah bh k k) n3 T v2 (.slice A3 n3 d3) (.slice A4 n3 d4) n2 n3 n3 (tmA ah bh L j) (tmX ah bh P k) (tmX ah bh E k)))
      case atStart => exact ⟨0, 0, _, by go_num, by omega, by omega, rfl, HO.out⟩
      case round =>
        clear HO
        obtain ⟨j, n2, v2, rfl, hj, hm, HN2, HO⟩ := hrel
        obtain ⟨wo, rfl⟩ : ∃ x : World, x = wr := ⟨_, rfl⟩
        obtain ⟨B2, e2, hv2, _, _⟩ := own_form HO.out.m3.o2
        subst hv2
        have hn2 : n2 ≤ j := by rw [HN2.out]; exact tmA_len L j
        by_cases hlt : j < L.length
        · have hbo : Below w.heap.size w wo := BX.out.trans (HO.out.fr.bel (by have := LTS.out; omega) (by have := LTS.out; omega))
          obtain ⟨b, off, a0, a1, a2, a3, hsl, hbB, hx, k0, k1, k2, k3⟩ := (H2.out.below hbo (Nat.le_refl _)).at_ hlt
          injection hsl with hsl
          injection hsl with q1 q2 _
          subst q1 q2
          rw [Nat.zero_add] at k0 k1 k2 k3
          have HX := hx
          have hrange := QA.out _ (List.mem_of_getElem? hx.out)
          simp only at hrange
          obtain ⟨⟨r1, r2⟩, r3, r4⟩ := hrange
          obtain ⟨fn, hfn⟩ : ∃ f : Nat, a0 = (f : Int) := ⟨a0.toNat, by omega⟩
          obtain ⟨tn, htn⟩ : ∃ f : Nat, a1 = (f : Int) := ⟨a1.toNat, by omega⟩
          subst hfn htn
          obtain ⟨m1, hm1⟩ : ∃ m, m = tmM ah bh fn := ⟨_, rfl⟩
          obtain ⟨m2, hm2⟩ : ∃ m, m = tmM ah bh tn := ⟨_, rfl⟩
          have hr1 : (tmR ah bh k k)[fn]? = some m1 := by rw [tmR_at (by omega), if_pos (by omega), hm1]
          have hr2 : (tmR ah bh k k)[tn]? = some m2 := by rw [tmR_at (by omega), if_pos (by omega), hm2]
          have HTM : Hid (tmO ah bh ((fn : Int), (tn : Int), a2, a3) = (decide (0 ≤ m1) && decide (0 ≤ m2))) := by show (decide (0 ≤ tmM ah bh (Int.toNat (fn : Int))) && decide (0 ≤ tmM ah bh (Int.toNat (tn : Int)))) = _; rw [Int.toNat_natCast, Int.toNat_natCast, hm1, hm2]
          have HTB : Hid (tmB ah bh ((fn : Int), (tn : Int), a2, a3) = (m1, m2, a2, a3)) := by show (tmM ah bh (Int.toNat (fn : Int)), tmM ah bh (Int.toNat (tn : Int)), a2, a3) = _; rw [Int.toNat_natCast, Int.toNat_natCast, hm1, hm2]
          have q1 : (0 : Int) ≤ (fn : Int) := by omega
          have q2 : (fn : Int) < (k : Int) := by omega
          have q3 : (0 : Int) ≤ (tn : Int) := by omega
          have q4 : (tn : Int) < (k : Int) := by omega
          have l2 : (0 : Int) ≤ (j : Int) := by omega
          have l3 : (j : Int) < (L.length : Int) := by omega
          have HR1_ := Lib.hid hr1; have HR2_ := Lib.hid hr2
          have RA_ := Row.new wo 39 [.int .i64 (fn : Int), .int .i64 (tn : Int), .int .i64 a2, .int .i64 a3]
          have HO_ := HO.out.alloc (.cells ([.int .i64 (fn : Int), .int .i64 (tn : Int), .int .i64 a2, .int .i64 a3] : List Value).toArray 39)
          clear hm1 hm2 hr1 hr2 r1 r2 r3 r4 hbo
          go_upto_region 18 with fail
          clear k0 k1 k2 k3
          obtain ⟨y, hy⟩ : ∃ y, y = (wo.alloc (.cells ([.int .i64 (fn : Int), .int .i64 (tn : Int), .int .i64 a2, .int .i64 a3] : List Value).toArray 39)) := ⟨_, rfl⟩
          obtain ⟨ga, hga⟩ : ∃ x, x = wo.heap.size := ⟨_, rfl⟩
          have hgg : gx < ga := by rw [hga]; exact HO.out.size
          have HGN : Hid ((Value.slice B2 n2 e2).ownBlock ≠ some ga) := fun e => by have := (HO.out.m3.o2.lt _ e).2; omega
          change Code.wp _ _ _ _ (wo.alloc (.cells ([.int .i64 (fn : Int), .int .i64 (tn : Int), .int .i64 a2, .int .i64 a3] : List Value).toArray 39))
          rw [← hy, ← hga] at RA_
          rw [← hy] at HO_
          rw [← hy, ← hga]
          have RAy := Lib.hid RA_; have HOy := Lib.hid HO_; have HGG := Lib.hid hgg
          clear RA_ HO_ hy hga HO hgg
          have d0 := RAy.out.cell 0; have d1 := RAy.out.cell 1
          have m3 := (HOy.out.at_ HR1_.out).1; have m4 := (HOy.out.at_ HR2_.out).1
          by_cases hp1 : 0 ≤ m1
          · by_cases hp2 : 0 ≤ m2
            · have hto : tmO ah bh ((fn : Int), (tn : Int), a2, a3) = true := by rw [HTM.out]; simp [hp1, hp2]
              have HA1 := Lib.hid (tmA_yes HX.out hto)
              clear hto
              go_upto_region 19 with fail
              clear d0 d1 m3 m4
              have d0 := RAy.out.cell 0; have d1 := RAy.out.cell 1; have d2_ := RAy.out.cell 2; have d3_ := RAy.out.cell 3
              have m3 := (HOy.out.at_ HR1_.out).1; have m4 := (HOy.out.at_ HR2_.out).1
              have hga1 : ga < y.heap.size := RAy.out.lt
              have hga2 : (Value.slice B2 n2 e2).ownBlock ≠ some ga := HGN.out
              have HOA : Hid (Out w4 (y.alloc (.cells ([.int .i64 m1, .int .i64 m2, .int .i64 a2, .int .i64 a3] : List Value).toArray 39)).drew nb g6 k k gx gx (tmR ah bh k k) n3 T (.slice B2 n2 e2) (.slice A3 n3 d3) (.slice A4 n3 d4) n2 n3 n3 (tmA ah bh L j) (tmX ah bh P k) (tmX ah bh E k)) := (HOy.out.alloc _).drewN 1
              have HNEW : Hid (∀ j' u, ([.int .i64 m1, .int .i64 m2, .int .i64 a2, .int .i64 a3] : List Value)[j']? = some u → ((y.alloc (.cells ([.int .i64 m1, .int .i64 m2, .int .i64 a2, .int .i64 a3] : List Value).toArray 39)).drew).cell? ⟨y.heap.size, 0 + j', none⟩ = some u) := fun j' u hu => by
                rw [Nat.zero_add]; exact ((Row.new y 39 [.int .i64 m1, .int .i64 m2, .int .i64 a2, .int .i64 a3]).cell j').trans hu
              have ROOM : Hid (n2 + 1 ≤ 4294967296) := by show _ ≤ _; omega
              have HSx : Hid (∀ x9 : World, (∀ b, b < y.heap.size → b ≠ gx → (Value.slice B2 n2 e2).ownBlock ≠ some b → x9.heap[b]? = y.heap[b]?) → (x9.cell? ⟨ga, 0, none⟩ = some (.int .i64 (fn : Int)) ∧ x9.cell? ⟨ga, 1, none⟩ = some (.int .i64 (tn : Int)) ∧ x9.cell? ⟨ga, 2, none⟩ = some (.int .i64 a2) ∧ x9.cell? ⟨ga, 3, none⟩ = some (.int .i64 a3) ∧ x9.cell? ⟨g6, fn, none⟩ = some (.int .i64 m1) ∧ x9.cell? ⟨g6, tn, none⟩ = some (.int .i64 m2))) := fun x9 h9 => by
                have e1 := h9 ga hga1 (by have := HGG.out; omega) hga2
                have e2 := h9 g6 (by have := HOy.out.size; have := LTS.out; omega) (by have := LTS.out; omega) (fun e => by have := (HOy.out.m3.o2.lt _ e).1; have := LTS.out; omega)
                exact ⟨(World.cell?_of_block (a := ⟨ga, 0, none⟩) e1).trans d0, (World.cell?_of_block (a := ⟨ga, 1, none⟩) e1).trans d1, (World.cell?_of_block (a := ⟨ga, 2, none⟩) e1).trans d2_, (World.cell?_of_block (a := ⟨ga, 3, none⟩) e1).trans d3_, (World.cell?_of_block (a := ⟨g6, fn, none⟩) e2).trans m3, (World.cell?_of_block (a := ⟨g6, tn, none⟩) e2).trans m4⟩
              have cA2 : (y.alloc (.cells ([.int .i64 m1, .int .i64 m2, .int .i64 a2, .int .i64 a3] : List Value).toArray 39)).cell? ⟨gx, 2, none⟩ = some (Value.slice B2 n2 e2) := (HOy.out.alloc _).m3.row.cell 2
              have e5 : y.cell? ⟨gx, 2, none⟩ = some (Value.slice B2 n2 e2) := HOy.out.m3.row.cell 2
              have hS0 := HSx.out y.drew (fun b _ _ _ => rfl)
              refine wp_region_held_drew (S := fun x9 => x9.cell? ⟨ga, 0, none⟩ = some (.int .i64 (fn : Int)) ∧ x9.cell? ⟨ga, 1, none⟩ = some (.int .i64 (tn : Int)) ∧ x9.cell? ⟨ga, 2, none⟩ = some (.int .i64 a2) ∧ x9.cell? ⟨ga, 3, none⟩ = some (.int .i64 a3) ∧ x9.cell? ⟨g6, fn, none⟩ = some (.int .i64 m1) ∧ x9.cell? ⟨g6, tn, none⟩ = some (.int .i64 m2)) (by kernel_rfl) hS0 (fun hHeld => ?_)
              clear hS0
              refine wpAnyH_take (i := 0) (v := ?_) rfl (by kernel_rfl) (by kernel_rfl) (by kernel_rfl) (fun _ _ _ h => h) (Or.inl ⟨by rfl, ?_⟩) (by assumption) ?_
              rotate_left
              · intro w9 hSw; (try dsimp only at hSw); go_simp; first | done | (with_reducible rfl)
              try simp only [Act.put, List.setIfInBounds_toArray]
              refine wpAnyH_take (i := 2) (v := ?_) rfl (by kernel_rfl) (by kernel_rfl) (by kernel_rfl) (fun _ _ _ h => h) (Or.inl ⟨by rfl, ?_⟩) (by assumption) ?_
              rotate_left
              · intro w9 hSw; (try dsimp only at hSw); go_simp; first | done | (with_reducible rfl)
              try simp only [Act.put]
              refine wpAnyH_take (i := 3) (v := ?_) rfl (by kernel_rfl) (by kernel_rfl) (by kernel_rfl) (fun _ _ _ h => h) (Or.inl ⟨by rfl, ?_⟩) (by assumption) ?_
              rotate_left
              · intro w9 hSw; (try dsimp only at hSw); go_simp; first | done | (with_reducible rfl)
              try simp only [Act.put]
              refine wpAnyH_take (i := 4) (v := ?_) rfl (by kernel_rfl) (by kernel_rfl) (by kernel_rfl) (fun _ _ _ h => h) (Or.inl ⟨by rfl, ?_⟩) (by assumption) ?_
              rotate_left
              · intro w9 hSw; (try dsimp only at hSw); go_simp; first | done | (with_reducible rfl)
              try simp only [Act.put]
              refine wpAnyH_take (i := 5) (v := ?_) rfl (by kernel_rfl) (by kernel_rfl) (by kernel_rfl) (fun _ _ _ h => h) (Or.inl ⟨by rfl, ?_⟩) (by assumption) ?_
              rotate_left
              · intro w9 hSw; (try dsimp only at hSw); go_simp; first | done | (with_reducible rfl)
              try simp only [Act.put]
              refine wpAnyH_take (i := 6) (v := ?_) rfl (by kernel_rfl) (by kernel_rfl) (by kernel_rfl) (fun _ _ _ h => h) (Or.inl ⟨by rfl, ?_⟩) (by assumption) ?_
              rotate_left
              · intro w9 hSw; (try dsimp only at hSw); go_simp; first | done | (with_reducible rfl)
              try simp only [Act.put]
              refine wpAnyH_take (i := 7) (v := ?_) rfl (by kernel_rfl) (by kernel_rfl) (by kernel_rfl) (fun _ _ _ h => h) (Or.inl ⟨by rfl, ?_⟩) (by assumption) ?_
              rotate_left
              · intro w9 hSw; (try dsimp only at hSw); go_simp; first | done | (with_reducible rfl)
              try simp only [Act.put]
              refine wpAnyH_take (i := 8) (v := ?_) rfl (by kernel_rfl) (by kernel_rfl) (by kernel_rfl) (fun _ _ _ h => h) (Or.inl ⟨by rfl, ?_⟩) (by assumption) ?_
              rotate_left
              · intro w9 hSw; (try dsimp only at hSw); go_simp; first | done | (with_reducible rfl)
              try simp only [Act.put]
              refine wpAnyH_take (i := 9) (v := ?_) rfl (by kernel_rfl) (by kernel_rfl) (by kernel_rfl) (fun _ _ _ h => h) (Or.inl ⟨by rfl, ?_⟩) (by assumption) ?_
              rotate_left
              · intro w9 hSw; (try dsimp only at hSw); go_simp; first | done | (with_reducible rfl)
              try simp only [Act.put]
              refine wpAnyH_take (i := 10) (v := ?_) rfl (by kernel_rfl) (by kernel_rfl) (by kernel_rfl) (fun _ _ _ h => h) (Or.inl ⟨by rfl, ?_⟩) (by assumption) ?_
              rotate_left
              · intro w9 hSw; (try dsimp only at hSw); go_simp; first | done | (with_reducible rfl)
              try simp only [Act.put]
              refine wpAnyH_take (i := 11) (v := ?_) rfl (by kernel_rfl) (by kernel_rfl) (by kernel_rfl) (fun _ _ _ h => h) (Or.inl ⟨by rfl, ?_⟩) (by assumption) ?_
              rotate_left
              · intro w9 hSw; (try dsimp only at hSw); go_simp; first | done | (with_reducible rfl)
              try simp only [Act.put]
              refine wpAnyH_take (i := 12) (v := ?_) rfl (by kernel_rfl) (by kernel_rfl) (by kernel_rfl) (fun _ _ _ h => h) (Or.inl ⟨by rfl, ?_⟩) (by assumption) ?_
              rotate_left
              · intro w9 hSw; (try dsimp only at hSw); go_simp; first | done | (with_reducible rfl)
              try simp only [Act.put]
              refine wpAnyH_take (i := 13) (v := ?_) rfl (by kernel_rfl) (by kernel_rfl) (by kernel_rfl) (fun _ _ _ h => h) (Or.inl ⟨by rfl, ?_⟩) (by assumption) ?_
              rotate_left
              · intro w9 hSw; (try dsimp only at hSw); go_simp; first | done | (with_reducible rfl)
              try simp only [Act.put]
              refine wpAnyH_take (i := 14) (v := ?_) rfl (by kernel_rfl) (by kernel_rfl) (by kernel_rfl) (fun _ _ _ h => h) (Or.inl ⟨by rfl, ?_⟩) (by assumption) ?_
              rotate_left
              · intro w9 hSw; (try dsimp only at hSw); go_simp; first | done | (with_reducible rfl)
              try simp only [Act.put]
              refine wpAnyH_take (i := 15) (v := ?_) rfl (by kernel_rfl) (by kernel_rfl) (by kernel_rfl) (fun _ _ _ h => h) (Or.inl ⟨by rfl, ?_⟩) (by assumption) ?_
              rotate_left
              · intro w9 hSw; (try dsimp only at hSw); go_simp; first | done | (with_reducible rfl)
              try simp only [Act.put]
              refine wpAnyH_take (i := 16) (v := ?_) rfl (by kernel_rfl) (by kernel_rfl) (by kernel_rfl) (fun _ _ _ h => h) (Or.inl ⟨by rfl, ?_⟩) (by assumption) ?_
              rotate_left
              · intro w9 hSw; (try dsimp only at hSw); go_simp; first | done | (with_reducible rfl)
              try simp only [Act.put]
              refine wpAnyH_ready (rs := [1, 17]) (by kernel_rfl) (by simp) ?_
              refine AllReadyH.cons rfl (fun K hK => ?_) ?_
              · go_simp
                refine hK.out _ _ (HSx.out _ (fun b _ _ _ => rfl)) (fun hHeld => ?_)
                clear hK K
                try simp only [Act.put, List.setIfInBounds_toArray, List.set_cons_zero, List.set_cons_succ]
                refine wpAnyH_ready (rs := [17]) (by kernel_rfl) (by simp) ?_
                refine AllReadyH.cons rfl (fun K hK => ?_) AllReadyH.nil
                go_simp
                refine hK.out _ _ (HSx.out _ (fun b hb1 hb2 hb3 => Below.heap_alloc y _ b hb1)) (fun hHeld => ?_)
                clear hK K
                try simp only [Act.put, List.setIfInBounds_toArray, List.set_cons_zero, List.set_cons_succ]
                refine wpAnyH_ready (rs := [18]) (by kernel_rfl) (by simp) ?_
                refine AllReadyH.cons rfl (fun K hK => ?_) AllReadyH.nil
                refine step_cells_push rfl (.tmp 96) (.tmp 112) _ rfl gx 39 (.agg #[.int .i64 0, .int .i64 0, .int .i64 0, .int .i64 0]) 4 32 Try.underlying25 infoAr rfl (by omega) (by omega) (Value.slice B2 n2 e2) n2 (fa (tmA ah bh L j)) ?_ HOA.out.m3.o2 y.heap.size 0 1 1 [.int .i64 m1, .int .i64 m2, .int .i64 a2, .int .i64 a3] ?_ rfl HNEW.out (fa_one [(m1, m2, a2, a3)]) ROOM.out (Nat.le_of_lt HOA.out.size) ?_
                rfl
                rfl
                intro B3 e3 wv hown hgr hbl hat
                have hrw := HOA.out.m3.row.grown hgr (fun e => ((HOA.out.m3.d2 gx e.symm).1) rfl)
                have y0 := hrw.cell 2
                have y1 := hrw.frozen 2
                have HQv : Hid (∀ b, b < y.heap.size → b ≠ gx → (Value.slice B2 n2 e2).ownBlock ≠ some b → wv.heap[b]? = y.heap[b]?) := fun b hb1 hb2 hb3 => (hgr.block b (by show b < (y.alloc (.cells ([.int .i64 m1, .int .i64 m2, .int .i64 a2, .int .i64 a3] : List Value).toArray 39)).heap.size; simp; omega) (fun e => hb3 e.symm)).trans (Below.heap_alloc y _ b hb1)
                have HPU : Hid (Out w4 (wv.setCell ⟨gx, 2, none⟩ (.slice B3 (n2 + 1) e3)) nb g6 k k gx gx (tmR ah bh k k) n3 T (.slice B3 (n2 + 1) e3) (.slice A3 n3 d3) (.slice A4 n3 d4) (n2 + 1) n3 n3 (tmA ah bh L j ++ [(m1, m2, a2, a3)]) (tmX ah bh P k) (tmX ah bh E k)) := HOA.out.push2 (by first | (rw [iv_append]; exact hown) | (rw [fa_append]; exact hown)) hgr hat
                clear hown hgr hbl hat hrw
                refine hK.out _ _ (HSx.out _ HQv.out) (fun hHeld => ?_)
                clear hK K
                try simp only [Act.put, List.setIfInBounds_toArray]
                refine wpAnyH_take (i := 19) (v := ?_) rfl (by kernel_rfl) (by kernel_rfl) (by kernel_rfl) (fun _ _ _ h => h) (Or.inl ⟨by rfl, ?_⟩) (by assumption) ?_
                rotate_left
                · intro w9 hSw; (try dsimp only at hSw); go_simp; first | done | (with_reducible rfl)
                try simp only [Act.put]
                refine wpAnyH_ready (rs := [20]) (by kernel_rfl) (by simp) ?_
                refine AllReadyH.cons rfl (fun K hK => ?_) AllReadyH.nil
                go_simp
                refine hK.out _ _ (HSx.out _ (fun b hb1 hb2 hb3 => (Below.heap_setCell wv ⟨gx, 2, none⟩ _ b hb2).trans (HQv.out b hb1 hb2 hb3))) (fun hHeld => ?_)
                clear hK K
                try simp only [Act.put, List.setIfInBounds_toArray, List.set_cons_zero, List.set_cons_succ]
                refine wpAnyH_done (by kernel_rfl) ?_ _
                clear y0 y1 e5 cA2
                go_wp2_with fail
                go_roundg (gk - 1)
                case measure => omega
                case rel =>
                  refine ⟨j + 1, n2 + 1, (.slice B3 (n2 + 1) e3), by go_num, by omega, by omega, ?_, ?_⟩
                  · show _ = _
                    rw [HA1.out, List.length_append, ← HN2.out]; rfl
                  · show Out _ _ _ _ _ _ _ _ _ _ _ _ _ _ _ _ _ _ _ _
                    rw [HA1.out, HTB.out]
                    exact HPU.out
              refine AllReadyH.cons rfl (fun K hK => ?_) AllReadyH.nil
              · go_simp
                refine hK.out _ _ (HSx.out _ (fun b hb1 hb2 hb3 => Below.heap_alloc y _ b hb1)) (fun hHeld => ?_)
                clear hK K
                try simp only [Act.put, List.setIfInBounds_toArray, List.set_cons_zero, List.set_cons_succ]
                refine wpAnyH_ready (rs := [1]) (by kernel_rfl) (by simp) ?_
                refine AllReadyH.cons rfl (fun K hK => ?_) AllReadyH.nil
                go_simp
                refine hK.out _ _ (HSx.out _ (fun b hb1 hb2 hb3 => Below.heap_alloc y _ b hb1)) (fun hHeld => ?_)
                clear hK K
                try simp only [Act.put, List.setIfInBounds_toArray, List.set_cons_zero, List.set_cons_succ]
                refine wpAnyH_ready (rs := [18]) (by kernel_rfl) (by simp) ?_
                refine AllReadyH.cons rfl (fun K hK => ?_) AllReadyH.nil
                refine step_cells_push rfl (.tmp 96) (.tmp 112) _ rfl gx 39 (.agg #[.int .i64 0, .int .i64 0, .int .i64 0, .int .i64 0]) 4 32 Try.underlying25 infoAr rfl (by omega) (by omega) (Value.slice B2 n2 e2) n2 (fa (tmA ah bh L j)) ?_ HOA.out.m3.o2 y.heap.size 0 1 1 [.int .i64 m1, .int .i64 m2, .int .i64 a2, .int .i64 a3] ?_ rfl HNEW.out (fa_one [(m1, m2, a2, a3)]) ROOM.out (Nat.le_of_lt HOA.out.size) ?_
                rfl
                rfl
                intro B3 e3 wv hown hgr hbl hat
                have hrw := HOA.out.m3.row.grown hgr (fun e => ((HOA.out.m3.d2 gx e.symm).1) rfl)
                have y0 := hrw.cell 2
                have y1 := hrw.frozen 2
                have HQv : Hid (∀ b, b < y.heap.size → b ≠ gx → (Value.slice B2 n2 e2).ownBlock ≠ some b → wv.heap[b]? = y.heap[b]?) := fun b hb1 hb2 hb3 => (hgr.block b (by show b < (y.alloc (.cells ([.int .i64 m1, .int .i64 m2, .int .i64 a2, .int .i64 a3] : List Value).toArray 39)).heap.size; simp; omega) (fun e => hb3 e.symm)).trans (Below.heap_alloc y _ b hb1)
                have HPU : Hid (Out w4 (wv.setCell ⟨gx, 2, none⟩ (.slice B3 (n2 + 1) e3)) nb g6 k k gx gx (tmR ah bh k k) n3 T (.slice B3 (n2 + 1) e3) (.slice A3 n3 d3) (.slice A4 n3 d4) (n2 + 1) n3 n3 (tmA ah bh L j ++ [(m1, m2, a2, a3)]) (tmX ah bh P k) (tmX ah bh E k)) := HOA.out.push2 (by first | (rw [iv_append]; exact hown) | (rw [fa_append]; exact hown)) hgr hat
                clear hown hgr hbl hat hrw
                refine hK.out _ _ (HSx.out _ HQv.out) (fun hHeld => ?_)
                clear hK K
                try simp only [Act.put, List.setIfInBounds_toArray]
                refine wpAnyH_take (i := 19) (v := ?_) rfl (by kernel_rfl) (by kernel_rfl) (by kernel_rfl) (fun _ _ _ h => h) (Or.inl ⟨by rfl, ?_⟩) (by assumption) ?_
                rotate_left
                · intro w9 hSw; (try dsimp only at hSw); go_simp; first | done | (with_reducible rfl)
                try simp only [Act.put]
                refine wpAnyH_ready (rs := [20]) (by kernel_rfl) (by simp) ?_
                refine AllReadyH.cons rfl (fun K hK => ?_) AllReadyH.nil
                go_simp
                refine hK.out _ _ (HSx.out _ (fun b hb1 hb2 hb3 => (Below.heap_setCell wv ⟨gx, 2, none⟩ _ b hb2).trans (HQv.out b hb1 hb2 hb3))) (fun hHeld => ?_)
                clear hK K
                try simp only [Act.put, List.setIfInBounds_toArray, List.set_cons_zero, List.set_cons_succ]
                refine wpAnyH_done (by kernel_rfl) ?_ _
                clear y0 y1 e5 cA2
                go_wp2_with fail
                go_roundg (gk - 1)
                case measure => omega
                case rel =>
                  refine ⟨j + 1, n2 + 1, (.slice B3 (n2 + 1) e3), by go_num, by omega, by omega, ?_, ?_⟩
                  · show _ = _
                    rw [HA1.out, List.length_append, ← HN2.out]; rfl
                  · show Out _ _ _ _ _ _ _ _ _ _ _ _ _ _ _ _ _ _ _ _
                    rw [HA1.out, HTB.out]
                    exact HPU.out

            · have hp3 : m2 < 0 := by omega
              clear hp2
              have hto : tmO ah bh ((fn : Int), (tn : Int), a2, a3) = false := by rw [HTM.out]; simp; omega
              have HA0 := Lib.hid (tmA_no HX.out hto)
              clear hto
              go_wp2_with fail
              go_roundg (gk - 1)
              case measure => omega
              case rel => exact ⟨j + 1, n2, _, by go_num, by omega, by omega, by show _ = _; rw [HA0.out]; exact HN2.out, by show Out _ _ _ _ _ _ _ _ _ _ _ _ _ _ _ _ _ _ _ _; rw [HA0.out]; exact HOy.out⟩

          · have hp3 : m1 < 0 := by omega
            clear hp1
            have hto : tmO ah bh ((fn : Int), (tn : Int), a2, a3) = false := by rw [HTM.out]; simp; omega
            have HA0 := Lib.hid (tmA_no HX.out hto)
            clear hto
            go_wp2_with fail
            go_roundg (gk - 1)
            case measure => omega
            case rel => exact ⟨j + 1, n2, _, by go_num, by omega, by omega, by show _ = _; rw [HA0.out]; exact HN2.out, by show Out _ _ _ _ _ _ _ _ _ _ _ _ _ _ _ _ _ _ _ _; rw [HA0.out]; exact HOy.out⟩

        · have hjL : j = L.length := by omega
          have l1 : ¬ (j : Int) < (L.length : Int) := by omega
          subst hjL
          clear hlt hj hm
          obtain ⟨w5, rfl⟩ : ∃ x : World, x = wo := ⟨_, rfl⟩
          have eC : tmC ah bh k = tmS L P E := by rw [HAH.out, HBH.out]; unfold tmS; rw [HPS.out]
          have eL : tmA ah bh L L.length = tmL L P E := by rw [HAH.out, HBH.out]; rfl
          have eP : tmX ah bh P k = tmPp L P E := by rw [HAH.out, HBH.out]; unfold tmPp; rw [HPS.out]
          have eE : tmX ah bh E k = tmEe L P E := by rw [HAH.out, HBH.out]; unfold tmEe; rw [HPS.out]
          have e3 : n3 = tmS L P E := by rw [HN.out, eC]
          have ho := HO.out
          rw [eL, eP, eE] at ho
          have e2' : n2 = (tmL L P E).length := by rw [HN2.out, eL]
          have hst : n3 = (tmPp L P E).length := by rw [tmPp_len]; exact e3
          have hen : n3 = (tmEe L P E).length := by rw [tmEe_len]; exact e3
          have hT := iTidyOfN_any (n3 : Int) T (tmL L P E) (tmPp L P E) (tmEe L P E) B2 A3 A4 n2 n3 n3 e2 d3 d4 w5 e2' hst hen (ownA_pl ho.m3.o2) (ownA_pl ho.m3.o3) (ownA_pl ho.m3.o4) (ow_slA ho.m3.o2 e2') (own_sl ho.m3.o3) (own_sl ho.m3.o4) (by omega) (by have := tmS_le L P E; have := HPS.out; omega) (by have := tmS_le L P E; have := HPS.out; omega)
          have hva := HVA.out
          rw [← e3] at hva
          rw [hva] at hT
          have RES5 := ho.old RES.out (by have := LTS.out; omega) (by have := LTS.out; omega)
          have hb5 : Below w.heap.size w w5 := BX.out.trans (ho.fr.bel (by have := LTS.out; omega) (by have := LTS.out; omega))
          have hr5 := ho.m3.row
          have q0 := hr5.cell 0; have q1 := hr5.cell 1; have q2 := hr5.cell 2; have q3 := hr5.cell 3; have q4 := hr5.cell 4
          have RES5 := Lib.hid RES5; have HB5 := Lib.hid hb5; have E3 := Lib.hid e3; have HT := Lib.hid hT
          have LT5 : Hid (w.heap.size + 2 ≤ w5.heap.size) := by have := ho.size; have := LTS.out; show _ ≤ _; omega
          clear ho hr5 hb5 hva eC eL eP eE e2' hst hen hT e3
          go_wp2_with fail
          clear q0 q1 q2 q3 q4
          refine HT.out.mono ?_
          rintro e w6 ⟨v', rfl, hv, hb6⟩
          obtain ⟨F2, f2, F3, f3, F4, f4, hsh⟩ := McO.shape hv
          subst hsh
          have RES6 := RES5.out.below hb6 RES5.out.lt
          have r0 := RES6.cell 0; have r1 := RES6.cell 1; have r2 := RES6.cell 2; have r3 := RES6.cell 3; have r4 := RES6.cell 4
          have f0 := RES6.frozen 0; have f1 := RES6.frozen 1; have f2_ := RES6.frozen 2; have f3_ := RES6.frozen 3; have f4_ := RES6.frozen 4
          have HV := Lib.hid hv; have HB6 := Lib.hid (HB5.out.trans (hb6.mono HB5.out.size)); have RES6 := Lib.hid RES6
          clear hv hb6
          obtain ⟨u0, hu0⟩ : ∃ u, u = ckI (decide (1 ≤ n3)) (n3 : Int) := ⟨_, rfl⟩
          obtain ⟨u1, hu1⟩ : ∃ u, u = ckI (decide (1 ≤ n3)) T := ⟨_, rfl⟩
          obtain ⟨l2, hl2⟩ : ∃ u, u = (ckL (decide (1 ≤ n3)) (tdy (tmL L P E))).length := ⟨_, rfl⟩
          obtain ⟨l3, hl3⟩ : ∃ u, u = (ckL (decide (1 ≤ n3)) (tmPp L P E)).length := ⟨_, rfl⟩
          obtain ⟨l4, hl4⟩ : ∃ u, u = (ckL (decide (1 ≤ n3)) (tmEe L P E)).length := ⟨_, rfl⟩
          obtain ⟨bk, hbk⟩ : ∃ u, u = decide (1 ≤ n3) := ⟨_, rfl⟩
          rw [← hu0, ← hu1, ← hl2, ← hl3, ← hl4, ← hbk]
          have hv := HV.out
          rw [← hu0, ← hu1, ← hl2, ← hl3, ← hl4] at hv
          have HV := Lib.hid hv
          have U0 := Lib.hid hu0; have BK := Lib.hid hbk
          have U1 := Lib.hid hu1
          clear hv hu0 hu1 hl2 hl3 hl4 hbk
          go_wp2_with fail
          clear r0 r1 r2 r3 r4 f0 f1 f2_ f3_ f4_
          have hF := (((((RES6.out.set_ 0 (.int .i64 u0)).set_ 1 (.int .i64 u1)).set_ 2 (.slice F2 l2 f2)).set_ 3 (.slice F3 l3 f3)).set_ 4 (.slice F4 l4 f4))
          refine bodyPost_ret (results_cell2 rfl _ _ (w.heap.size + 1) 28 #[.int .i64 u0, .int .i64 u1, .slice F2 l2 f2, .slice F3 l3 f3, .slice F4 l4 f4] (0, 0) _ (.bool bk) rfl rfl hF Try.underlying28 rfl (by kernel_rfl)) rfl ?_
          have hkp : Kp (w.heap.size + 1) (w.heap.size + 2) w6 (((((w6.setCell ⟨w.heap.size + 1, 0, none⟩ (.int .i64 u0)).setCell ⟨w.heap.size + 1, 1, none⟩ (.int .i64 u1)).setCell ⟨w.heap.size + 1, 2, none⟩ (.slice F2 l2 f2)).setCell ⟨w.heap.size + 1, 3, none⟩ (.slice F3 l3 f3)).setCell ⟨w.heap.size + 1, 4, none⟩ (.slice F4 l4 f4)) := ⟨rfl, rfl, rfl, by simp [World.setCell], fun q hq hn => heap_set5 _ _ _ _ _ (by omega)⟩
          have hBF := (((((HB6.out.setCell (p := ⟨w.heap.size + 1, 0, none⟩) (show w.heap.size ≤ w.heap.size + 1 by omega) (.int .i64 u0)).setCell (p := ⟨w.heap.size + 1, 1, none⟩) (show w.heap.size ≤ w.heap.size + 1 by omega) (.int .i64 u1)).setCell (p := ⟨w.heap.size + 1, 2, none⟩) (show w.heap.size ≤ w.heap.size + 1 by omega) (.slice F2 l2 f2)).setCell (p := ⟨w.heap.size + 1, 3, none⟩) (show w.heap.size ≤ w.heap.size + 1 by omega) (.slice F3 l3 f3)).setCell (p := ⟨w.heap.size + 1, 4, none⟩) (show w.heap.size ≤ w.heap.size + 1 by omega) (.slice F4 l4 f4))
          have hfin := McW.mono (McW.kp HV.out hkp LT5.out) (show w.heap.size ≤ w5.heap.size by have := LT5.out; omega)
          refine ⟨_, by rw [HTO.out, ← E3.out, BK.out], ?_, hBF⟩
          rw [HTO.out, ← E3.out, ← U0.out, ← U1.out]
          exact hfin


end Go.Proofs.Ytkfmjnefbimecaa
