/- BestWords of the reference, walked (arguments that are fit). -/
import Derived.Test.YtedbngnkkfpbeaaMgy

namespace Go.Proofs.Ytedbngnkkfpbeaa
open Go.RowKit
set_option linter.unusedVariables false
set_option maxRecDepth 100000 in
set_option maxHeartbeats 16000000 in
theorem sBws_yes (S : Int) (T m cnt : Nat) (L : List A4) (P E : List Int) (A2 : Option Addr) (n2 c2 : Nat) (A3 : Option Addr) (n3 c3 : Nat) (A4 : Option Addr) (n4 c4 : Nat) (w : World) (h2 : SlA w w.heap.size A2 n2 L) (h3 : SlI w w.heap.size A3 n3 P) (h4 : SlI w w.heap.size A4 n4 E) (v1 : vmB S (T : Int) L P E = true) (hm : m ≤ 5) (hc : 1 ≤ cnt) (hc2 : cnt ≤ 64) :
    Calls Try.prog 15 #[.agg #[.int .i64 S, .int .i64 (T : Int), .slice A2 n2 c2, .slice A3 n3 c3, .slice A4 n4 c4], .int .i64 (m : Int), .int .i64 (cnt : Int)] w fun e w' => ∃ (R : List (List Int × Int)) (g c g' c' : Nat), R = bwsL 1099511627776 T m cnt L P E ∧ e = .returned (.tuple #[.slice (some ⟨g, 0, none⟩) R.length c, .slice (some ⟨g', 0, none⟩) R.length c', .bool true]) ∧ TabI w' w.heap.size 26 (.slice (some ⟨g, 0, none⟩) R.length c) (R.map Prod.fst) ∧ RowI w' w.heap.size 2 (.slice (some ⟨g', 0, none⟩) R.length c') (R.map Prod.snd) ∧ g ≠ g' ∧ Below w.heap.size w w' := by
  obtain ⟨q3, q1, q2, q4, q5, q6, q7, q8, q9, q10⟩ := vm_okM v1
  have hT1 : 1 ≤ T ∧ T ≤ 4 := by omega
  have e2 := h2.len; have e3 := h3.len; have e4 := h4.len
  subst e2 e3 e4
  have rb := Row.new w 28 [.int .i64 S, .int .i64 (T : Int), .slice A2 L.length c2, .slice A3 P.length c3, .slice A4 E.length c4]
  have bx : Below w.heap.size w (w.alloc (.cells ([.int .i64 S, .int .i64 (T : Int), .slice A2 L.length c2, .slice A3 P.length c3, .slice A4 E.length c4] : List Value).toArray 28)) := (Below.refl _ _).alloc (Nat.le_refl _) _
  have H2 := Lib.hid ((h2.below bx (Nat.le_refl _)).more bx.size); have H3 := Lib.hid ((h3.below bx (Nat.le_refl _)).more bx.size); have H4 := Lib.hid ((h4.below bx (Nat.le_refl _)).more bx.size)
  have HM : Hid (Mp (w.alloc (.cells ([.int .i64 S, .int .i64 (T : Int), .slice A2 L.length c2, .slice A3 P.length c3, .slice A4 E.length c4] : List Value).toArray 28)) w.heap.size S (T : Int) L P E) := ⟨_, _, _, _, _, _, rb, H2.out, H3.out, H4.out⟩
  obtain ⟨x0, hx0⟩ : ∃ x, x = w.alloc (.cells ([.int .i64 S, .int .i64 (T : Int), .slice A2 L.length c2, .slice A3 P.length c3, .slice A4 E.length c4] : List Value).toArray 28) := ⟨_, rfl⟩
  rw [← hx0] at rb bx HM H2 H3 H4
  have V := sIs_any w.heap.size S (T : Int) L P E A2 L.length c2 A3 P.length c3 A4 E.length c4 x0.heap.size x0 rb (Nat.le_refl _) H2.out H3.out H4.out (by omega) (by omega) (by omega)
  rw [v1] at V
  have V := Lib.hid V
  have W1 : Hid (∀ w, Calls Try.prog 47 #[.int .i64 (m : Int), .int .i64 0, .int .i64 5] w fun e w' => e = .returned (.bool true) ∧ w = w') := fun w => by
    have e : inB (m : Int) 0 5 = true := by simp [inB]; omega
    have := sIn_any (m : Int) 0 5 w; rw [e] at this; exact this
  have W2 : Hid (∀ w, Calls Try.prog 47 #[.int .i64 (cnt : Int), .int .i64 1, .int .i64 64] w fun e w' => e = .returned (.bool true) ∧ w = w') := fun w => by
    have e : inB (cnt : Int) 1 64 = true := by simp [inB]; omega
    have := sIn_any (cnt : Int) 1 64 w; rw [e] at this; exact this
  have RB := Lib.hid rb; have BX := Lib.hid bx; have HX0 := Lib.hid hx0
  have HT4 := Lib.hid hT1; have HM5 := Lib.hid hm; have HC1 := Lib.hid hc; have HC64 := Lib.hid hc2
  have HLK := Lib.hid q3; have HP1 := Lib.hid q1; have HE1 := Lib.hid q2; have HPE := Lib.hid q5; have HSN := Lib.hid q8
  have HN : Hid (0 < P.length ∧ P.length ≤ 16 ∧ L.length ≤ 128) := ⟨q4, q6, q7⟩
  clear h2 h3 h4 v1 rb bx hT1 hm hc hc2 q1 q2 q3 q4 q5 q6 q7 q8 q9 q10 hx0 H2 H3 H4
  go_enter Try.func15, Try.ntmps15
  go_upto_region 1 with fail
  change Code.wp _ _ _ _ (w.alloc (.cells ([.int .i64 S, .int .i64 (T : Int), .slice A2 L.length c2, .slice A3 P.length c3, .slice A4 E.length c4] : List Value).toArray 28))
  rw [← HX0.out]
  go_upto_region 3 with (first
    | (go_at_call 46; refine V.out.mono ?_; rintro e w1 ⟨rfl, hb1⟩; have HM1 := Lib.hid (HM.out.below hb1 (Nat.le_refl _)); have BX1 := Lib.hid (BX.out.trans (hb1.mono BX.out.size)); clear hb1)
    | (go_at_call 47; refine (W1.out _).mono ?_; rintro e w' ⟨rfl, hw⟩; obtain rfl := hw; clear W1)
    | (go_at_call 47; refine (W2.out _).mono ?_; rintro e w' ⟨rfl, hw⟩; obtain rfl := hw; clear W2))
  have h0 := HN.out
  have CL := Lib.hid (sClosed_any w.heap.size S (T : Int) L P E P.length w1 HM1.out HSN.out HLK.out h0.1 (by omega) (by omega))
  clear h0 V HM RB BX HX0
  go_upto_region 6 with (first
    | (go_at_call 48; refine CL.out.mono ?_; rintro e w2 ⟨gt, ct, C, rfl, hT2, hC, hb2⟩; have HTR2 : Hid (TabR w2 gt P.length C) := hT2.r hC.1.1 hC.1.2; have HC := Lib.hid hC; have HM2 := Lib.hid (HM1.out.below hb2 (Nat.le_refl _)); have BX2 := Lib.hid (BX1.out.trans (hb2.mono BX1.out.size)); have h0 := HN.out; have CA := Lib.hid (sAll_any w.heap.size S (T : Int) L P E gt P.length ct T C w2 HM2.out HTR2.out HSN.out rfl HT4.out.2 HLK.out HC.out.2.1 (by omega) (by omega)); clear hT2 hC hb2 h0 CL)
    | (go_at_call 49; refine CA.out.mono ?_; rintro e w3 ⟨gA, cA, rfl, hA, hb3⟩; have HA := Lib.hid hA; have HM3 := Lib.hid (HM2.out.below hb3 (Nat.le_refl _)); have HTR3 := Lib.hid (HTR2.out.below hb3 (Nat.le_refl _)); have BX3 := Lib.hid (BX2.out.trans (hb3.mono BX2.out.size)); have h0 := HN.out; have CE := Lib.hid (sEnds_any w.heap.size S (T : Int) L P E gt P.length ct C w3 HM3.out HTR3.out HSN.out HPE.out.symm HE1.out HC.out.2.1 (by omega)); clear hA hb3 h0 CA)
    | (go_at_call 50; refine CE.out.mono ?_; rintro e w4 ⟨Ae, ce, rfl, hE4, hb4⟩; have HE4 := Lib.hid hE4; have HM4 := Lib.hid (HM3.out.below hb4 (Nat.le_refl _)); have HA4 := Lib.hid (HA.out.below hb4 (Nat.le_refl _)); have BX4 := Lib.hid (BX3.out.trans (hb4.mono BX3.out.size)); clear hE4 hb4 CE))
  clear HM1 HM2 HM3 HTR2 HTR3 BX1 BX2 BX3 HA
  have hP0 : Pr2 ((w4.alloc (.cells #[] 26)).alloc (.cells #[] 2)) w4.heap.size w4.heap.size 0 (w4.heap.size + 1) 0 [] := by
    refine ⟨?_, ?_, by omega⟩
    · have h : (w4.alloc (.cells #[] 26)).ownsRow w4.heap.size 26 1 (.slice (some ⟨w4.heap.size, 0, none⟩) 0 0) 0 [] := World.ownsRow_made w4 #[] 0 (Nat.le_refl _) (by unfold maxLen; omega) rfl
      exact World.ownsRow.alloc h _
    · have h := RowI.made (w4.alloc (.cells #[] 26)) w4.heap.size 2 (by simp)
      rw [show (w4.alloc (.cells #[] 26)).heap.size = w4.heap.size + 1 by simp] at h
      exact h
  have b6 : Below w4.heap.size w4 ((w4.alloc (.cells #[] 26)).alloc (.cells #[] 2)) := ((Below.refl _ _).alloc (Nat.le_refl _) _).alloc (by simp) _
  have s6 : ((w4.alloc (.cells #[] 26)).alloc (.cells #[] 2)).heap.size = w4.heap.size + 2 := by simp
  go_upto_region 8 with fail
  obtain ⟨w6, hw6⟩ : ∃ x, x = (w4.alloc (.cells #[] 26)).alloc (.cells #[] 2) := ⟨_, rfl⟩
  change Code.wp _ _ _ _ ((w4.alloc (.cells #[] 26)).alloc (.cells #[] 2))
  rw [← hw6] at hP0 b6 s6 ⊢
  have HP6 := Lib.hid hP0; have HB6 := Lib.hid b6; have HS6 := Lib.hid s6
  clear hP0 b6 s6 hw6
  have HE6 := Lib.hid (TabI.empty1 w6)
  go_upto_region 9 with fail
  have b8 : Below w6.heap.size w6 ((w6.alloc (.cells #[] 2)).alloc (.cells #[.slice (some ⟨w6.heap.size, 0, none⟩) 0 0] 26)) := ((Below.refl _ _).alloc (Nat.le_refl _) _).alloc (by simp) _
  obtain ⟨w8, hw8⟩ : ∃ x, x = (w6.alloc (.cells #[] 2)).alloc (.cells #[.slice (some ⟨w6.heap.size, 0, none⟩) 0 0] 26) := ⟨_, rfl⟩
  change Code.wp _ _ _ _ ((w6.alloc (.cells #[] 2)).alloc (.cells #[.slice (some ⟨w6.heap.size, 0, none⟩) 0 0] 26))
  rw [← hw8] at HE6 b8 ⊢
  have HP8 : Hid (Pr2 w8 w4.heap.size w4.heap.size 0 (w4.heap.size + 1) 0 []) := HP6.out.keep b8 (Nat.le_refl _)
  have HB8 : Hid (Below w4.heap.size w4 w8) := HB6.out.trans (b8.mono HB6.out.size)
  rw [HS6.out] at HE6 ⊢
  clear HP6 HB6 HS6 b8 hw8
  go_wp2_with fail
  go_loopg [12, 13, 14, 15] (m + 1) (fun q tw tc tn tk wr => ∃ (k gw cw gc cc gn cn bN : Nat) (Q : List Ce) (Ps : List (Ce × List Int)) (R : List (List Int)), tw = .slice (some ⟨gw, 0, none⟩) Q.length cw ∧ tc = .slice (some ⟨gc, 0, none⟩) Q.length cc ∧ tn = .slice (some ⟨gn, 0, none⟩) R.length cn ∧ tk = .int .i64 (k : Int) ∧ Hid (k ≤ m + 1 ∧ m + 1 ≤ q + k) ∧ Hid (Q = Ps.map Prod.fst) ∧ Hid (Pr2 wr w4.heap.size gw cw gc cc Q) ∧ Hid (R = wlN T k) ∧ Hid (TabI wr bN 26 (.slice (some ⟨gn, 0, none⟩) R.length cn) R) ∧ Hid (gw < bN ∧ gc < bN ∧ w.heap.size ≤ bN) ∧ Hid (∃ Es : List (Ce × List Int), Ps = (srtK (fun p : Ce × List Int => p.1.c) Es).take cnt ∧ Es.map (fun p => (p.2, p.1.c)) = ((List.range k).flatMap (wlN T)).filterMap (cfW 1099511627776 L P E)) ∧ Hid (∀ p ∈ Ps, RdX wr w.heap.size p) ∧ Hid (∀ p ∈ Ps, ∀ gr, p.1.A = some ⟨gr, 0, none⟩ → gr ≠ gw ∧ gr ≠ gc) ∧ Hid (Below w4.heap.size w4 wr))
  case atStart =>
    refine ⟨0, w4.heap.size, 0, w4.heap.size + 1, 0, w4.heap.size + 3, 1, w4.heap.size + 2, [], [], [[]], rfl, rfl, rfl, rfl, ?_, rfl, HP8.out, rfl, HE6.out, ?_, ?_, ?_, ?_, HB8.out⟩
    · show _ ∧ _; omega
    · show _ ∧ _; have := BX4.out.size; omega
    · exact ⟨[], by simp [srtK], rfl⟩
    · show ∀ p ∈ [], _; intro p hp; cases hp
    · show ∀ p ∈ [], _; intro p hp; cases hp
  case round =>
    clear HP8 HE6 HB8
    obtain ⟨k, gw, cw, gc, cc, gn, cn, bN, Q, Ps, R, rfl, rfl, rfl, rfl, EK, EQ, HPR, ER, HTN, HBN, HES, HRX, HNE, HBL⟩ := hrel
    obtain ⟨wS, rfl⟩ : ∃ z : World, z = wr := ⟨_, rfl⟩
    obtain ⟨go, hgo⟩ : ∃ z : Nat, z = gk := ⟨_, rfl⟩
    by_cases hlt : k ≤ m
    · have l0 : (k : Int) ≤ (m : Int) := by omega
      have HKM : Hid (k ≤ m) := hlt
      clear hlt
      go_wp2_with fail
      clear l0
      go_loopg [12, 13, 16] R.length (fun q tw tc ti wr => ∃ (i gw' cw' gc' cc' : Nat) (Q' : List Ce) (Ps' : List (Ce × List Int)), tw = .slice (some ⟨gw', 0, none⟩) Q'.length cw' ∧ tc = .slice (some ⟨gc', 0, none⟩) Q'.length cc' ∧ ti = .int .i64 (i : Int) ∧ Hid (i ≤ R.length ∧ R.length ≤ q + i) ∧ Hid (Q' = Ps'.map Prod.fst) ∧ Hid (Pr2 wr w4.heap.size gw' cw' gc' cc' Q') ∧ Hid ((gw' = gw ∨ wS.heap.size ≤ gw') ∧ (gc' = gc ∨ wS.heap.size ≤ gc')) ∧ Hid (∃ Es : List (Ce × List Int), Ps' = (srtK (fun p : Ce × List Int => p.1.c) Es).take cnt ∧ Es.map (fun p => (p.2, p.1.c)) = ((List.range k).flatMap (wlN T) ++ R.take i).filterMap (cfW 1099511627776 L P E)) ∧ Hid (∀ p ∈ Ps', RdX wr w.heap.size p) ∧ Hid (∀ p ∈ Ps', ∀ gr, p.1.A = some ⟨gr, 0, none⟩ → gr ≠ gw' ∧ gr ≠ gc') ∧ Hid (Below w4.heap.size w4 wr) ∧ Hid (Lo2 gw gc wS wr))
      case atStart =>
        refine ⟨0, gw, cw, gc, cc, Q, Ps, rfl, rfl, rfl, ?_, EQ.out, HPR.out, ⟨.inl rfl, .inl rfl⟩, ?_, HRX.out, HNE.out, HBL.out, Lo2.refl _ _ _⟩
        · show _ ∧ _; omega
        · have h := HES.out
          show ∃ Es : List (Ce × List Int), _
          simpa using h
      case round =>
        obtain ⟨i, gw', cw', gc', cc', Q', Ps', rfl, rfl, rfl, EI, EQ', HPR', HGG, HES', HRX', HNE', HBL', HLO⟩ := hrel
        obtain ⟨wo, rfl⟩ : ∃ z : World, z = wr := ⟨_, rfl⟩
        obtain ⟨gi, hgi⟩ : ∃ z : Nat, z = gk := ⟨_, rfl⟩
        by_cases hli : i < R.length
        · obtain ⟨x, hx⟩ : ∃ x, R[i]? = some x := ⟨_, List.getElem?_eq_getElem hli⟩
          obtain ⟨gt, ct, gr, cr, e, -, hgt1, hgt2, hc0, hrc, hgr1, hgr2, -, hcells⟩ := HTN.out.at_ hx
          injection e with e e8 e9
          clear e8 e9
          injection e with e
          injection e with e e8 e9
          clear e8 e9
          subst e
          have hbn := HBN.out; have hgg := HGG.out; have hls := HLO.out.size; have hkm := HKM.out; have hm5 := HM5.out; have hnn := HN.out
          have kb : ∀ q, q < wS.heap.size → bN ≤ q → wo.heap[q]? = wS.heap[q]? := fun q h1 h2 => HLO.out.block h1 (by omega) (by omega)
          have c0 : wo.cell? ⟨gn, i, none⟩ = some (.slice (some ⟨gr, 0, none⟩) x.length cr) := (World.cell?_of_block (a := ⟨gn, i, none⟩) (kb gn hgt2 hgt1)).trans hc0
          have hcw : ∀ (q : Nat) (u : Int), x[q]? = some u → wo.cell? ⟨gr, q, none⟩ = some (.int .i64 u) := fun q u hu => (World.cell?_of_block (a := ⟨gr, q, none⟩) (kb gr hgr2 hgr1)).trans (hcells q u hu)
          have hgro : gr < wo.heap.size := Nat.lt_of_lt_of_le hgr2 hls
          have hsl : SlI wo wo.heap.size (some ⟨gr, 0, none⟩) x.length x := slI_cells2 hgro hcw
          have hwx := wlN_word (show x ∈ wlN T k by rw [← ER.out]; exact List.mem_of_getElem? hx)
          obtain ⟨cv, hcv⟩ : ∃ cv, cv = coV 1099511627776 L P E x := ⟨_, rfl⟩
          have hcs : csR 1000000000 L P E C x = cv := by rw [hcv]; exact cost_same HLK.out HP1.out HE1.out HPE.out hnn.2.1 (by omega) HC.out
          have CF := Lib.hid (fun (y : World) (hy : Below w4.heap.size w4 y) => sFirst_any w.heap.size S (T : Int) L P E y (HM4.out.below hy (Nat.le_refl _)) HSN.out (by omega))
          have CO := fun (y : World) (An : Option Addr) (cn' : Nat) (hy : Below wo.heap.size wo y) (hf : SlI y y.heap.size An P.length (frL 1000000000 P)) => sFound_any gA cA T P.length L P E C Ae ce An cn' (some ⟨gr, 0, none⟩) x.length cr x y (HA4.out.below (HBL'.out.trans (hy.mono HBL'.out.size)) (Nat.le_refl _)) (((RowI.sl HE4.out (by simp [enV])).below (HBL'.out.trans (hy.mono HBL'.out.size)) (Nat.le_refl _)).more (Nat.le_trans HBL'.out.size hy.size)) hf ((hsl.below hy (Nat.le_refl _)).more hy.size) hwx.2 rfl HP1.out HLK.out HC.out (by omega) (by omega) HT4.out.2
          rw [hcs] at CO
          have CO := Lib.hid CO
          have HRN : Hid (RdX wo w.heap.size (⟨some ⟨gr, 0, none⟩, x.length, cr, cv⟩, x)) := ⟨gr, rfl, rfl, hrc, by omega, hgro, hcw⟩
          have HNP : Hid (gr ≠ gw' ∧ gr ≠ gc' ∧ gr < wo.heap.size) := by show _ ∧ _; omega
          have HTK : Hid (((List.range k).flatMap (wlN T) ++ R.take (i + 1)).filterMap (cfW 1099511627776 L P E) = ((List.range k).flatMap (wlN T) ++ R.take i).filterMap (cfW 1099511627776 L P E) ++ (if 0 ≤ cv then [(x, cv)] else [])) := cf_snoc _ hx hcv
          have HCNT : Hid (Q'.length ≤ cnt) := by
            obtain ⟨Es, h1, -⟩ := HES'.out
            show _ ≤ _
            rw [EQ'.out, List.length_map, h1, List.length_take]; omega
          have HSQ : Hid (Srt Q') := by
            obtain ⟨Es, h1, -⟩ := HES'.out
            show Srt _
            rw [EQ'.out, h1]; exact srt_of_cut Es cnt
          have HLI : Hid (i < R.length) := hli
          have HGN : Hid (gn < wo.heap.size) := Nat.lt_of_lt_of_le hgt2 hls
          have l1 : (i : Int) < (R.length : Int) := by omega
          have l2 : (0 : Int) ≤ (i : Int) := by omega
          have wi1 : IntKind.i64.wrap ((i : Int) + 1) = ((i + 1 : Nat) : Int) := by rw [IntWalk.i64_in _ (by have := wlN_max (T := T) (n := k) HT4.out.2 (by omega); rw [← ER.out] at this; omega)]; omega
          clear hx hgt1 hgt2 hc0 hrc hgr1 hgr2 hcells hbn hgg hls kb hcw hgro hsl hwx hcv hcs hli hkm hm5 hnn
          go_upto_region 15 with fail
          have hfrom : wo.drew.cell? ⟨gn, i, none⟩ = some (.slice (some ⟨gr, 0, none⟩) x.length cr) := c0
          have HBD : Hid (Below wo.heap.size wo wo.drew) := Below.drew (Below.refl _ _)
          have HC0 := Lib.hid c0
          clear c0
          go_cut [17] from 53 to 60 (fun v wx => v = .int .i64 cv ∧ Hid (Below wo.heap.size wo wx))
          case first =>
            go_region_held3 (fun y => y.cell? ⟨gn, i, none⟩ = some (.slice (some ⟨gr, 0, none⟩) x.length cr)) (first | assumption | go_keep)
              (first
                | (go_at_call 52; refine (CF.out _ (HBL'.out.trans (HBD.out.mono HBL'.out.size))).mono ?_; rintro e wy ⟨Af, cf, rfl, hrf, hby⟩; have HRF := Lib.hid hrf; have HBY := Lib.hid (HBD.out.trans hby); have hky := (HBY.out.cell (p := ⟨gn, i, none⟩) HGN.out).trans HC0.out; clear hrf hby)
                | (go_at_call 51; refine (CO.out _ _ _ HBY.out (RowI.sl HRF.out (frL_len _ _))).mono ?_; rintro e wz ⟨rfl, hbz⟩; have HBZ := Lib.hid (HBY.out.trans (hbz.mono HBY.out.size)); have hkz := (HBZ.out.cell (p := ⟨gn, i, none⟩) HGN.out).trans HC0.out; clear hbz))
            go_wp2_with fail
            go_meet
            exact ⟨rfl, HBZ.out⟩
          case rest =>
          obtain ⟨rfl, HB1⟩ := hcut
          obtain ⟨w1, rfl⟩ : ∃ z : World, z = wc := ⟨_, rfl⟩
          clear hfrom HBD CF CO
          have HPW := Lib.hid (HPR'.out.keep HB1.out (Nat.le_refl _))
          have HS1 : Hid (wo.heap.size ≤ w1.heap.size) := HB1.out.size
          by_cases hcp : 0 ≤ cv
          · have b0 : ¬ cv < 0 := by omega
            have c1 : w1.cell? ⟨gn, i, none⟩ = some (.slice (some ⟨gr, 0, none⟩) x.length cr) := (HB1.out.cell (p := ⟨gn, i, none⟩) HGN.out).trans HC0.out
            have HL4 : Hid (w4.heap.size ≤ w1.heap.size) := Nat.le_trans HBL'.out.size HS1.out
            have HQL : Hid (Q'.length + 1 ≤ 4294967296) := by show _ ≤ _; have := HCNT.out; have := HC64.out; omega
            have HCP := Lib.hid hcp
            clear hcp
            go_upto_region 19 with (first
              | (at_builtin; refine wpList_push w1 rfl (.tmp 63) (.tmp 68) _ rfl w4.heap.size 26 (.slice none 0 0) 24 Try.underlying35 infoWo rfl (.slice (some ⟨gw', 0, none⟩) Q'.length cw') Q'.length (hdQ Q') rfl HPW.out.ow (.slice (some ⟨gr, 0, none⟩) x.length cr) rfl rfl HQL.out (by omega) HL4.out ?_; intro g7 c7 w7 hown hgr hat hlt7 hcap7; have HO7 := Lib.hid hown; have HG7 : Hid (w1.grownBy w7 (some gw')) := hgr; have HA7 : Hid (some gw' = some g7 ∨ w1.heap.size ≤ g7) := hat; clear hown hgr hat hlt7 hcap7 c1)
              | (at_builtin; refine wpList_push w7 rfl (.tmp 70) (.tmp 72) _ rfl w4.heap.size 2 (.int .i64 0) 8 Try.underlying26 infoW6 rfl (.slice (some ⟨gc', 0, none⟩) Q'.length cc') Q'.length (csQ Q') rfl (HPW.out.oc1 HG7.out) (.int .i64 cv) rfl rfl HQL.out (by omega) (Nat.le_trans HL4.out HG7.out.size) ?_; intro g8 c8 w8 hown hgr hat hlt8 hcap8; have HO8 := Lib.hid hown; have HG8 : Hid (w7.grownBy w8 (some gc')) := hgr; have HA8 : Hid (some gc' = some g8 ∨ w7.heap.size ≤ g8) := hat; clear hown hgr hat hlt8 hcap8))
            have HPP : Hid (Pr2 w8 w4.heap.size g7 c7 g8 c8 (Q' ++ [⟨some ⟨gr, 0, none⟩, x.length, cr, cv⟩])) := HPW.out.push ⟨some ⟨gr, 0, none⟩, x.length, cr, cv⟩ HO7.out HG7.out HA7.out HO8.out HG8.out HA8.out
            have HL8 : Hid (Lo2 gw' gc' wo w8) := ((Lo2.below _ _ HB1.out).trans (Lo2.grow1 HG7.out rfl) (.inl rfl) (.inl rfl)).trans (Lo2.grow2 HG8.out rfl) (.inl rfl) (.inl rfl)
            have HAT : Hid ((g7 = gw' ∨ wo.heap.size ≤ g7) ∧ (g8 = gc' ∨ wo.heap.size ≤ g8)) := by
              have s1 := HS1.out; have s7 := HG7.out.size
              refine ⟨?_, ?_⟩
              · rcases HA7.out with a | a
                · exact .inl (Option.some.inj a).symm
                · exact .inr (by omega)
              · rcases HA8.out with a | a
                · exact .inl (Option.some.inj a).symm
                · exact .inr (by omega)
            obtain ⟨E0, hE0⟩ : ∃ E0 : Ce, E0 = ⟨some ⟨gr, 0, none⟩, x.length, cr, cv⟩ := ⟨_, rfl⟩
            rw [← hE0] at HPP HRN
            have HEC : Hid (E0.c = cv) := by show _ = _; rw [hE0]
            have HEA : Hid (E0.A = some ⟨gr, 0, none⟩) := by show _ = _; rw [hE0]
            clear HO7 HG7 HA7 HO8 HG8 HA8 HPW HB1 HS1 HL4 b0 hE0
            have ww : IntKind.i64.wrap (((Q'.length + 1 : Nat) : Int) - 1) = (Q'.length : Int) := by rw [IntWalk.i64_in _ (by have := HQL.out; omega)]; omega
            have ww2 : IntKind.i64.wrap ((Q'.length : Int) + 1 - 1) = (Q'.length : Int) := by rw [IntWalk.i64_in _ (by have := HQL.out; omega)]; omega
            have ww3 : IntKind.i64.wrap (Q'.length : Int) = (Q'.length : Int) := by rw [IntWalk.i64_in _ (by have := HQL.out; omega)]
            go_wp2_with fail
            go_loopg [18] Q'.length (fun q tk wr => ∃ (j : Nat) (M1 M2 : List Ce), tk = .int .i64 (j : Int) ∧ Hid (M1.length = j ∧ j ≤ q ∧ j ≤ Q'.length) ∧ Hid (Q' = M1 ++ M2) ∧ Hid (∀ y ∈ M2, cv < y.c) ∧ Hid (Pr2 wr w4.heap.size g7 c7 g8 c8 (M1 ++ E0 :: M2)) ∧ Hid (Lo2 g7 g8 w8 wr))
            case atStart =>
              refine ⟨Q'.length, Q', [], by first | rfl | rw [ww] | rw [ww2] | rw [ww3], ?_, ?_, ?_, HPP.out, Lo2.refl _ _ _⟩
              · show _ ∧ _; omega
              · show _ = _; simp
              · show ∀ y ∈ [], _; intro y hy; cases hy
            case round =>
              obtain ⟨j, M1, M2, rfl, EJ, EM, HM2, HPJ, HLJ⟩ := hrel
              obtain ⟨wi, rfl⟩ : ∃ z : World, z = wr := ⟨_, rfl⟩
              clear ww ww2 ww3 HPP
              obtain ⟨b, hb⟩ : ∃ b : Bool, b = decide (∃ y, M1.getLast? = some y ∧ cv < y.c) := ⟨_, rfl⟩
              have HB := Lib.hid hb
              clear hb
              go_upto_region 20 with fail
              go_cut [90] from 77 to 90 (fun v wx => v = .bool b ∧ Hid (∃ q, wx = wi.drewN q))
              case first =>
                rcases List.eq_nil_or_concat M1 with h0 | ⟨U, y, h0⟩
                · have hj0 : j = 0 := by have := EJ.out; rw [h0] at this; simp at this; omega
                  have hbv : b = false := by rw [HB.out, h0]; simp
                  subst hj0 hbv
                  go_quiet (fail)
                  go_wp2_with fail
                  go_meet
                  exact ⟨rfl, ⟨_, rfl⟩⟩
                · have hU : U.length + 1 = j := by have := EJ.out.1; rw [h0] at this; simpa using this
                  have hbv : b = decide (cv < y.c) := by rw [HB.out, h0]; simp
                  have hpj := HPJ.out
                  rw [h0, List.concat_eq_append, List.append_assoc] at hpj
                  obtain ⟨n1, n2⟩ := nb_at U M2 E0 y hU
                  obtain ⟨-, c1, -⟩ := hpj.at_ n1
                  obtain ⟨-, c2, -⟩ := hpj.at_ n2
                  rw [HEC.out] at c1
                  have hjq := EJ.out.2.2; have hql := HQL.out
                  have g0 : 0 < j := by omega
                  have g1 : (0 : Int) < (j : Int) := by omega
                  have v1 : IntKind.i64.wrap ((j : Int) - 1) = ((j - 1 : Nat) : Int) := by rw [IntWalk.i64_in _ (by omega)]; omega
                  have f1 : (0 : Int) ≤ (j : Int) := by omega
                  have f2 : (j : Int) < (Q'.length : Int) + 1 := by omega
                  have f3 : (0 : Int) ≤ ((j - 1 : Nat) : Int) := by omega
                  have f4 : ((j - 1 : Nat) : Int) < (Q'.length : Int) + 1 := by omega
                  have f5 : j < Q'.length + 1 := by omega
                  have f6 : j - 1 < Q'.length + 1 := by omega
                  have HBV := Lib.hid hbv
                  clear hpj n1 n2 hjq hql hbv h0
                  go_quiet (fail)
                  go_wp2_with fail
                  go_meet
                  exact ⟨by rw [HBV.out], ⟨_, rfl⟩⟩
              case rest =>
              obtain ⟨rfl, HBD⟩ := hcut
              obtain ⟨wd, rfl⟩ : ∃ z : World, z = wc := ⟨_, rfl⟩
              have HPD : Hid (Pr2 wd w4.heap.size g7 c7 g8 c8 (M1 ++ E0 :: M2)) := by
                obtain ⟨q, hq⟩ := HBD.out
                show Pr2 _ _ _ _ _ _ _
                rw [hq]; exact HPJ.out.drewN q
              have HLD : Hid (Lo2 g7 g8 w8 wd) := by
                obtain ⟨q, hq⟩ := HBD.out
                show Lo2 _ _ _ _
                rw [hq]; exact HLJ.out.trans (Lo2.drewN _ _ _ _) (.inl rfl) (.inl rfl)
              clear HBD HPJ HLJ
              by_cases hbb : b = true
              · subst hbb
                obtain ⟨y, hy1, hy2⟩ := of_decide_eq_true HB.out.symm
                obtain ⟨U, h0⟩ : ∃ U, M1 = U ++ [y] := by
                  rcases List.eq_nil_or_concat M1 with h | ⟨U, y', h⟩
                  · rw [h] at hy1; cases hy1
                  · rw [h] at hy1; simp at hy1; exact ⟨U, by rw [h, hy1, List.concat_eq_append]⟩
                have hU : U.length + 1 = j := by have := EJ.out.1; rw [h0] at this; simpa using this
                have hpj := HPD.out
                rw [h0, List.append_assoc] at hpj
                have hpj : Pr2 wd w4.heap.size g7 c7 g8 c8 (U ++ y :: E0 :: M2) := hpj
                obtain ⟨n1, n2⟩ := nb_at U M2 E0 y hU
                have HSW := hpj.swap n1 n2
                rw [swp_nb U M2 E0 y hU] at HSW
                obtain ⟨⟨a1, a2⟩, a3, a4⟩ := hpj.at_ n1
                obtain ⟨⟨d1, d2⟩, d3, d4⟩ := hpj.at_ n2
                have HSW := Lib.hid HSW
                have hjq := EJ.out.2.2; have hql := HQL.out
                have v1 : IntKind.i64.wrap ((j : Int) - 1) = ((j - 1 : Nat) : Int) := by rw [IntWalk.i64_in _ (by omega)]; omega
                have f1 : (0 : Int) ≤ (j : Int) := by omega
                have f2 : (j : Int) < (Q'.length : Int) + 1 := by omega
                have f3 : (0 : Int) ≤ ((j - 1 : Nat) : Int) := by omega
                have f4 : ((j - 1 : Nat) : Int) < (Q'.length : Int) + 1 := by omega
                have NE1 : ¬ g7 = g8 := hpj.ne
                have NE2 : ¬ g8 = g7 := fun e => hpj.ne e.symm
                have NE3 : ¬ j = j - 1 := by omega
                have NE4 : ¬ j - 1 = j := by omega
                have HM1 : Hid (M1 = U ++ [y]) := h0
                have HY2 : Hid (cv < y.c) := hy2
                have HU := Lib.hid hU
                clear hpj n1 n2 hjq hql h0 hy1 hy2 hU HPD
                go_wp2_with fail
                go_roundg (gk - 1)
                case measure => have := EJ.out.2.1; have := HU.out; omega
                case rel =>
                  refine ⟨j - 1, U, y :: M2, rfl, ?_, ?_, ?_, HSW.out, HLD.out.trans (Lo2.set4 _ _ _ _ _ _ _ _ _ _ _) (.inl rfl) (.inl rfl)⟩
                  · have := EJ.out; have := HU.out; show _ ∧ _; omega
                  · show _ = _; rw [EM.out, HM1.out]; simp
                  · show ∀ z ∈ _, _
                    intro z hz
                    rcases List.mem_cons.1 hz with hz | hz
                    · rw [hz]; exact HY2.out
                    · exact HM2.out z hz
              · have hbf : b = false := by simpa using hbb
                subst hbf
                obtain ⟨Ns, hNs⟩ : ∃ Ns, Ns = (insK (fun q : Ce × List Int => q.1.c) (E0, x) Ps').take cnt := ⟨_, rfl⟩
                have hins := insK_done (Ps := Ps') (p := (E0, x)) (EQ'.out.symm.trans EM.out) (by rw [HEC.out]; exact nb_least (by rw [← EM.out]; exact HSQ.out) HB.out) (by rw [HEC.out]; exact HM2.out)
                have hmem : ∀ q ∈ Ns, q = (E0, x) ∨ q ∈ Ps' := fun q hq => by rw [hNs] at hq; exact insK_mem (List.mem_of_mem_take hq)
                have hlq : (M1 ++ E0 :: M2).length = Q'.length + 1 := by rw [EM.out]; simp; omega
                have hmap : Ns.map Prod.fst = (M1 ++ E0 :: M2).take cnt := by rw [hNs, List.map_take, hins]
                have hl9 : Lo2 gw' gc' wo wd := HL8.out.trans HLD.out HAT.out.1 HAT.out.2
                have hpl := HPR'.out.lt
                have HES2 : Hid (∃ Es : List (Ce × List Int), Ns = (srtK (fun p : Ce × List Int => p.1.c) Es).take cnt ∧ Es.map (fun p => (p.2, p.1.c)) = ((List.range k).flatMap (wlN T) ++ R.take (i + 1)).filterMap (cfW 1099511627776 L P E)) := by
                  obtain ⟨Es, h1, h2⟩ := HES'.out
                  refine ⟨Es ++ [(E0, x)], ?_, ?_⟩
                  · rw [srt_cut, ← h1, hNs]
                  · rw [HTK.out, if_pos (by have := HCP.out; omega), List.map_append, h2]
                    show _ ++ [(x, E0.c)] = _
                    rw [HEC.out]
                have HRX2 : Hid (∀ q ∈ Ns, RdX wd w.heap.size q) := fun q hq => by
                  rcases hmem q hq with h | h
                  · rw [h]; exact HRN.out.keep hl9.size (fun k a b c => hl9.block a b c) (fun g hg => by have := HNP.out; have h2 := hg.symm.trans HEA.out; injection h2 with h2; injection h2 with h2; subst h2; exact ⟨this.1, this.2.1⟩)
                  · exact (HRX'.out q h).keep hl9.size (fun k a b c => hl9.block a b c) (HNE'.out q h)
                have HNE2 : Hid (∀ q ∈ Ns, ∀ gr, q.1.A = some ⟨gr, 0, none⟩ → gr ≠ g7 ∧ gr ≠ g8) := fun q hq g hg => by
                  have hat := HAT.out
                  have hlt : g < wo.heap.size ∧ g ≠ gw' ∧ g ≠ gc' := by
                    rcases hmem q hq with h | h
                    · rw [h] at hg
                      have h3 := HNP.out; have h2 := hg.symm.trans HEA.out; injection h2 with h2; injection h2 with h2; subst h2; exact ⟨h3.2.2, h3.1, h3.2.1⟩
                    · obtain ⟨g', e1, -, -, -, e5, -⟩ := HRX'.out q h
                      have h2 := hg.symm.trans e1; injection h2 with h2; injection h2 with h2; subst h2
                      exact ⟨e5, HNE'.out q h g hg⟩
                  omega
                have HGG2 : Hid ((g7 = gw ∨ wS.heap.size ≤ g7) ∧ (g8 = gc ∨ wS.heap.size ≤ g8)) := by
                  have h1 := HAT.out; have h2 := HGG.out; have h3 := HLO.out.size
                  show _ ∧ _; omega
                have HLO2 : Hid (Lo2 gw gc wS wd) := HLO.out.trans hl9 HGG.out.1 HGG.out.2
                have HBL2 : Hid (Below w4.heap.size w4 wd) := HBL'.out.trans (hl9.bel hpl.1.1 hpl.2.1 HBL'.out.size)
                have hcap := HPD.out.cap
                rw [hlq] at hcap
                have HMAP := Lib.hid hmap; have HLQ := Lib.hid hlq
                have hcnt := HCNT.out
                clear hNs hins hmem hlq hmap hl9 hpl
                by_cases hcc : cnt < Q'.length + 1
                · have hqc : Q'.length = cnt := by omega
                  have x1 : (Q'.length : Int) + 1 > (cnt : Int) := by omega
                  have x2 : (cnt : Int) < (Q'.length : Int) + 1 := by omega
                  have f1 : cnt ≤ c7 := by omega
                  have f2 : (cnt : Int) ≤ (c7 : Int) := by omega
                  have f3 : (0 : Int) ≤ (cnt : Int) := by omega
                  have f4 : (cnt : Int).toNat = cnt := by omega
                  have f5 : cnt ≤ c8 := by omega
                  have f6 : (cnt : Int) ≤ (c8 : Int) := by omega
                  have HQC := Lib.hid hqc
                  clear hcc hcnt hcap hqc
                  go_wp2_with fail
                  go_roundg (gi - 1)
                  case measure => have := EI.out; have := HLI.out; omega
                  case rel =>
                    have hl : (Ns.map Prod.fst).length = cnt := by rw [HMAP.out, List.length_take, HLQ.out, HQC.out]; omega
                    have hp := HPD.out.cut (m := cnt) (by rw [HLQ.out, HQC.out]; omega) (by rw [HLQ.out]; omega)
                    rw [← HMAP.out] at hp
                    refine ⟨i + 1, g7, c7, g8, c8, Ns.map Prod.fst, Ns, by rw [hl], by rw [hl], by go_num, ?_, rfl, hp, HGG2.out, HES2.out, HRX2.out, HNE2.out, HBL2.out, HLO2.out⟩
                    show _ ∧ _; have := EI.out; have := HLI.out; omega
                · have x1 : ¬ (Q'.length : Int) + 1 > (cnt : Int) := by omega
                  have HQC : Hid (Q'.length + 1 ≤ cnt) := by show _ ≤ _; omega
                  clear hcc hcnt hcap
                  go_wp2_with fail
                  go_roundg (gi - 1)
                  case measure => have := EI.out; have := HLI.out; omega
                  case rel =>
                    have hmm : Ns.map Prod.fst = M1 ++ E0 :: M2 := by rw [HMAP.out, List.take_of_length_le (by rw [HLQ.out]; exact HQC.out)]
                    have hl : (Ns.map Prod.fst).length = Q'.length + 1 := by rw [hmm, HLQ.out]
                    have hp := HPD.out
                    rw [← hmm] at hp
                    refine ⟨i + 1, g7, c7, g8, c8, Ns.map Prod.fst, Ns, by rw [hl], by rw [hl], by go_num, ?_, rfl, hp, HGG2.out, HES2.out, HRX2.out, HNE2.out, HBL2.out, HLO2.out⟩
                    show _ ∧ _; have := EI.out; have := HLI.out; omega
          · have b0 : cv < 0 := by omega
            have HCP : Hid (¬ 0 ≤ cv) := hcp
            clear hcp
            go_wp2_with fail
            go_roundg (gk - 1)
            case measure => have := EI.out; have := HLI.out; omega
            case rel =>
              refine ⟨i + 1, gw', cw', gc', cc', Q', Ps', rfl, rfl, by go_num, ?_, EQ'.out, HPW.out, HGG.out, ?_, fun p hp => (HRX'.out p hp).keep HS1.out (fun q hq _ _ => HB1.out.block q hq) (HNE'.out p hp), HNE'.out, HBL'.out.trans (HB1.out.mono HBL'.out.size), HLO.out.trans (Lo2.below _ _ HB1.out) (.inl rfl) (.inl rfl)⟩
              · show _ ∧ _; have := EI.out; have := HLI.out; omega
              · obtain ⟨Es, h1, h2⟩ := HES'.out
                exact ⟨Es, h1, by rw [HTK.out, if_neg (by have := HCP.out; omega), List.append_nil]; exact h2⟩
        · have hiR : i = R.length := by have := EI.out; omega
          have l1 : ¬ (i : Int) < (R.length : Int) := by omega
          have hkm := HKM.out; have hm5 := HM5.out
          obtain ⟨B2, d2, B3, d3, B4, d4, hrow, -, -, -⟩ := HM4.out.below HBL'.out (Nat.le_refl _)
          have z1 : wo.cell? ⟨w.heap.size, 1, none⟩ = some (.int .i64 (T : Int)) := hrow.cell 1
          have GR := Lib.hid (sGrown_any bN gn cn T R wo (HTN.out.lo2 HLO.out HBN.out.1 HBN.out.2.1) HT4.out.2 (by rw [ER.out]; have := wlN_max (T := T) (n := k) HT4.out.2 (by omega); omega) (fun r hr => by rw [ER.out] at hr; have := (wlN_word hr).1; omega))
          have HES3 : Hid (∃ Es : List (Ce × List Int), Ps' = (srtK (fun p : Ce × List Int => p.1.c) Es).take cnt ∧ Es.map (fun p => (p.2, p.1.c)) = ((List.range (k + 1)).flatMap (wlN T)).filterMap (cfW 1099511627776 L P E)) := by
            obtain ⟨Es, h1, h2⟩ := HES'.out
            refine ⟨Es, h1, ?_⟩
            rw [h2, hiR, List.take_length, ER.out, List.range_succ, List.flatMap_append]
            simp
          have wk1 : IntKind.i64.wrap ((k : Int) + 1) = ((k + 1 : Nat) : Int) := by rw [IntWalk.i64_in _ (by omega)]; omega
          clear hiR hli hkm hm5 hrow
          go_wp2_with (first
            | (go_at_call 53; refine GR.out.mono ?_; rintro e w5 ⟨gq, cq, rfl, h5, hb5⟩; have HT5 := Lib.hid h5; have HB5 := Lib.hid hb5; clear h5 hb5 z1))
          go_roundg (go - 1)
          case measure => have := EK.out; have := HKM.out; omega
          case rel =>
            have hpl := HPR'.out.lt
            refine ⟨k + 1, gw', cw', gc', cc', gq, cq, wo.heap.size, Q', Ps', wlG T R, rfl, rfl, rfl, by go_num, ?_, EQ'.out, HPR'.out.keep HB5.out (Nat.le_refl _), ?_, HT5.out, ?_, HES3.out, fun p hp => (HRX'.out p hp).keep HB5.out.size (fun q hq _ _ => HB5.out.block q hq) (HNE'.out p hp), HNE'.out, HBL'.out.trans (HB5.out.mono HBL'.out.size)⟩
            · show _ ∧ _; have := EK.out; have := HKM.out; omega
            · show _ = _; rw [ER.out]; rfl
            · show _ ∧ _; have := BX4.out.size; have := HBL'.out.size; omega
    · have hkm : k = m + 1 := by have := EK.out; omega
      have l0 : ¬ (k : Int) ≤ (m : Int) := by omega
      have HR : Hid (Ps.map (fun p => (p.2, p.1.c)) = bwsL 1099511627776 T m cnt L P E) := by
        obtain ⟨Es, h1, h2⟩ := HES.out
        show _ = _
        unfold bwsL wlU
        rw [← hkm, ← h2, ← srtK_map (fun p : Ce × List Int => (p.2, p.1.c)) Prod.snd Es, ← List.map_take, h1]
      have HQP : Hid (Q.length = Ps.length) := by show _ = _; rw [EQ.out, List.length_map]
      clear hkm hlt
      go_wp2_with fail
      go_ret3
      have hq := HQP.out
      have hp := HPR.out
      rw [EQ.out] at hp
      have hb := BX4.out.size
      obtain ⟨t1, t2⟩ := (hp.mono hb).tab HRX.out (fun p hp gr hg => (HNE.out p hp gr hg).1)
      have eL : (Ps.map fun p => (p.2, p.1.c)).length = Ps.length := List.length_map _
      have e1 : (Ps.map fun p => (p.2, p.1.c)).map Prod.fst = Ps.map Prod.snd := by rw [List.map_map]; rfl
      have e2 : (Ps.map fun p => (p.2, p.1.c)).map Prod.snd = Ps.map (fun p => p.1.c) := by rw [List.map_map]; rfl
      rw [← HR.out, eL, e1, e2]
      exact ⟨gw, cw, gc, cc, by rw [← hq]; rfl, t1, t2, HPR.out.ne, BX4.out.trans (HBL.out.mono hb)⟩
end Go.Proofs.Ytedbngnkkfpbeaa
