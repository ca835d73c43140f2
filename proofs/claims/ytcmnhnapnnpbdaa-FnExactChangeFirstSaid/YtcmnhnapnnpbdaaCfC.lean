/- ChangeFirst of both programs: the whole. -/
import Derived.Test.YtcmnhnapnnpbdaaCf
namespace Go.Proofs.Ytcmnhnapnnpbdaa
open Go.RowKit
set_option linter.unusedVariables false
theorem cfL_none {L F G R ws : List Int} (h : cfP L F R ws = none) : cfL L F G R ws = ws := by unfold cfL; rw [h]
theorem cfL_some {L F G R ws : List Int} {p : Nat} (h : cfP L F R ws = some p) : cfL L F G R ws = putL F G ws p := by unfold cfL; rw [h]
theorem cfZ_none {L F R ws : List Int} (h : cfP L F R ws = none) : cfZ L F R ws = -1 := by unfold cfZ; rw [h]
theorem cfZ_some {L F R ws : List Int} {p : Nat} (h : cfP L F R ws = some p) : cfZ L F R ws = (p : Int) := by unfold cfZ; rw [h]
set_option maxHeartbeats 4000000 in
theorem iFirst_any (v : Value) (b off n : Nat) (L F G R ws : List Int) (l : Int) (w : World) (h : CgS w w.heap.size v L F G R) (hw : SlI w w.heap.size (some ⟨b, off, none⟩) n ws) (hL : L.length ≤ 4294967296) (hF : F.length ≤ 4294967296) (hG : G.length ≤ 4294967296) (hR : R.length ≤ 4294967296) (hn : n ≤ 4294967296) :
    Calls Try.prog 33 #[v, .slice (some ⟨b, off, none⟩) n n, .int .i64 l] w fun e w' => ∃ v, e = .returned (.tuple #[v, .bool (cfB L F G R ws l)]) ∧ FOut w' w.heap.size v (cfB L F G R ws l) (cfL L F G R ws) ∧ Below w.heap.size w w' := by
  have HC := Lib.hid h
  obtain ⟨b0, o0, n0, c0, b1, o1, n1, c1, b2, o2, n2, c2, b3, o3, n3, c3, rfl, h0, h1, h2, h3⟩ := h
  clear h0 h1 h2 h3
  have hdef := cfB_def L F G R ws l
  have hl := Lib.hid hw.len
  have hbx : Below w.heap.size w (w.alloc (.cells ([.slice (some ⟨b0, o0, none⟩) n0 c0, .slice (some ⟨b1, o1, none⟩) n1 c1, .slice (some ⟨b2, o2, none⟩) n2 c2, .slice (some ⟨b3, o3, none⟩) n3 c3] : List Value).toArray 27)) := (Below.refl _ _).alloc (Nat.le_refl _) _
  have rb := Row.new w 27 [.slice (some ⟨b0, o0, none⟩) n0 c0, .slice (some ⟨b1, o1, none⟩) n1 c1, .slice (some ⟨b2, o2, none⟩) n2 c2, .slice (some ⟨b3, o3, none⟩) n3 c3]
  have hC := iValid_any _ L F G R l _ ((HC.out.cg.below hbx (Nat.le_refl _)).more hbx.size) hL hF hG hR
  have hG2 := fun (x : World) (hx : Below w.heap.size w x) => iIsLong_any (some ⟨b, off, none⟩) n n ws l w.heap.size x (hw.below hx (Nat.le_refl _)) hn
  have HW := Lib.hid hw; have HBX := Lib.hid hbx; have RB := Lib.hid rb
  clear hw hbx rb hL hF hG hR hn
  cases h1 : vcB L F G R l with
  | false =>
    rw [h1, Bool.false_and, Bool.false_and] at hdef
    rw [h1] at hC
    have HD := Lib.hid hdef
    clear hdef
    go_enter Try.func33, Try.ntmps33
    go_wp2_with fail
    refine hC.mono ?_; rintro e w1 ⟨rfl, hb1⟩; clear hC
    go_wp2_with fail
    go_ret2
    exact ⟨_, by rw [HD.out]; rfl, by rw [FOut, HD.out]; rfl, HBX.out.trans (hb1.mono HBX.out.size)⟩
  | true =>
    have h4 := vc_lens h1
    rw [h1] at hC
    cases h2 : longB ws l with
    | false =>
      rw [h2] at hG2
      rw [h1, h2, Bool.and_false, Bool.false_and] at hdef
      have HD := Lib.hid hdef
      clear hdef
      go_enter Try.func33, Try.ntmps33
      go_wp2_with fail
      refine hC.mono ?_; rintro e w1 ⟨rfl, hb1⟩; clear hC
      have hx1 := HBX.out.trans (hb1.mono HBX.out.size)
      go_wp2_with fail
      refine (hG2 _ hx1).mono ?_; rintro e w' ⟨rfl, hw⟩; subst hw; clear hG2
      go_wp2_with fail
      go_ret2
      exact ⟨_, by rw [HD.out]; rfl, by rw [FOut, HD.out]; rfl, hx1⟩
    | true =>
      have h24 := long24 h2
      rw [hl.out] at h24
      rw [h2] at hG2
      rw [h1, h2, Bool.true_and, Bool.true_and] at hdef
      have HD := Lib.hid hdef
      obtain ⟨g1, g2, g3, g4, g5⟩ := h4
      clear hdef
      go_enter Try.func33, Try.ntmps33
      go_wp2_with fail
      refine hC.mono ?_; rintro e w1 ⟨rfl, hb1⟩; clear hC
      have hx1 := HBX.out.trans (hb1.mono HBX.out.size)
      have RB1 := Lib.hid (RB.out.below hb1 RB.out.lt)
      have k0 := RB1.out.cell 0; have k1 := RB1.out.cell 1; have k2 := RB1.out.cell 2; have k3 := RB1.out.cell 3
      go_wp2_with fail
      refine (hG2 _ hx1).mono ?_; rintro e w' ⟨rfl, hw⟩; subst hw; clear hG2
      have hM := iFst_any _ b off n n L F G R ws w1 ((HC.out.cg.below hx1 (Nat.le_refl _)).more hx1.size) ((HW.out.below hx1 (Nat.le_refl _)).more hx1.size) g1 g3 g5 h24 (Nat.le_refl _)
      have HX := Lib.hid hx1
      clear hx1 hb1
      cases hp : cfP L F R ws with
      | none =>
        rw [cfZ_none hp] at hM
        have HL := Lib.hid (cfL_none (G := G) hp)
        clear hp
        go_wp2_with fail
        refine hM.mono ?_; rintro e w2 ⟨rfl, hb2⟩; clear hM k0 k1 k2 k3
        have hx2 := HX.out.trans (hb2.mono HX.out.size)
        go_wp2_with fail
        refine (iCloneI_any b off n n ws w2 ((HW.out.below hx2 (Nat.le_refl _)).more hx2.size) (by omega)).mono ?_
        rintro e w3 ⟨A', c', rfl, hO, hb3⟩
        obtain ⟨m, hm⟩ : ∃ m, m = ws.length := ⟨_, rfl⟩
        rw [← hm] at hO ⊢
        have HO := Lib.hid hO; have HM := Lib.hid hm; have HX2 := Lib.hid hx2; clear hO hm hx2
        go_wp2_with fail
        go_ret2
        have hok : cfB L F G R ws l = true := by rw [HD.out, HL.out]; exact decide_eq_true (by rw [hl.out]; exact h24)
        refine ⟨_, by rw [hok]; rfl, ?_, HX2.out.trans (hb3.mono HX2.out.size)⟩
        rw [FOut, hok, HL.out]
        exact World.ownsRow.mono HO.out HX2.out.size
      | some p =>
        obtain ⟨hp1, hp2⟩ := cfP_fit hp
        have hroom := fit_room hp2
        rw [cfZ_some hp] at hM
        rw [hl.out] at hp1 hroom
        have HL := Lib.hid (cfL_some (G := G) hp)
        have HLen := Lib.hid (putL_len (F := F) (G := G) (ws := ws) (p := p) (by rw [hl.out]; exact hroom))
        clear hp hp2
        have l0 : (0 : Int) ≤ (p : Int) := by omega
        go_wp2_with fail
        refine hM.mono ?_; rintro e w2 ⟨rfl, hb2⟩; clear hM k0 k1 k2 k3
        have hx2 := HX.out.trans (hb2.mono HX.out.size)
        have RB2 := RB1.out.below hb2 RB1.out.lt
        have k0 := RB2.cell 0; have k1 := RB2.cell 1; have k2 := RB2.cell 2; have k3 := RB2.cell 3
        have hU := iPut_any _ b off n L F G R ws p w2 ((HC.out.below hx2 (Nat.le_refl _)).more hx2.size) ((HW.out.below hx2 (Nat.le_refl _)).more hx2.size) g3 g4 h24 hroom
        have HX2 := Lib.hid hx2
        clear hx2 RB2 hb2
        go_wp2_with fail
        refine hU.mono ?_
        rintro e w3 ⟨A', c', rfl, hO, hb3⟩
        clear hU k0 k1 k2 k3
        obtain ⟨m, hm⟩ : ∃ m, m = (putL F G ws p).length := ⟨_, rfl⟩
        rw [← hm] at hO ⊢
        have HO := Lib.hid hO; have HM := Lib.hid hm; clear hO hm
        by_cases h24' : m ≤ 24
        · have hok : Hid (cfB L F G R ws l = true) := by show _ = _; rw [HD.out, HL.out, ← HM.out]; exact decide_eq_true h24'
          go_wp2_with fail
          refine (iLong_yes A' m c' w3 h24').mono ?_; rintro e wq ⟨rfl, hwq⟩; obtain rfl := hwq
          go_wp2_with fail
          go_ret2
          refine ⟨_, by rw [hok.out]; rfl, ?_, HX2.out.trans (hb3.mono HX2.out.size)⟩
          rw [FOut, hok.out, HL.out]
          exact World.ownsRow.mono HO.out HX2.out.size
        · have hok : Hid (cfB L F G R ws l = false) := by show _ = _; rw [HD.out, HL.out, ← HM.out]; exact decide_eq_false h24'
          have h25 : 24 < m := by omega
          clear h24'
          go_wp2_with fail
          refine (iLong_no A' m c' w3 h25).mono ?_; rintro e wq ⟨rfl, hwq⟩; obtain rfl := hwq
          go_wp2_with fail
          go_ret2
          exact ⟨_, by rw [hok.out]; rfl, by rw [FOut, hok.out]; rfl, HX2.out.trans (hb3.mono HX2.out.size)⟩
set_option maxRecDepth 100000 in
set_option maxHeartbeats 4000000 in
theorem sOnce_any (g b off n b0 o0 n0 c0 b1 o1 n1 c1 b2 o2 n2 c2 b3 o3 n3 c3 : Nat) (L F G R ws : List Int) (w : World) (hP : CgP w g L F G R) (hr : Row w g 27 [.slice (some ⟨b0, o0, none⟩) n0 c0, .slice (some ⟨b1, o1, none⟩) n1 c1, .slice (some ⟨b2, o2, none⟩) n2 c2, .slice (some ⟨b3, o3, none⟩) n3 c3]) (hg2 : SlI w w.heap.size (some ⟨b2, o2, none⟩) n2 G) (hf1 : F.length = n1) (hw : SlI w w.heap.size (some ⟨b, off, none⟩) n ws) (hL : L.length ≤ 4) (hF : F.length ≤ 4) (hG : G.length ≤ 4) (hR : R.length ≤ 4) (h24 : n ≤ 24) :
    Calls Try.prog 63 #[.pointer (some ⟨g, 0, none⟩), .slice (some ⟨b, off, none⟩) n n] w fun e w' => ∃ A' c', e = .returned (.tuple #[.slice A' (cfL L F G R ws).length c', .bool (decide ((cfL L F G R ws).length ≤ 24))]) ∧ RowI w' w.heap.size 2 (.slice A' (cfL L F G R ws).length c') (cfL L F G R ws) ∧ Below w.heap.size w w' := by
  have hl := Lib.hid hw.len
  have lg := hg2.len
  have hS := sPlacesL_any g b off n n L F G R ws w hP hw hL hF hR h24 (Nat.le_refl _)
  have HP := Lib.hid hP; have HW := Lib.hid hw; have HR := Lib.hid hr; have HG2 := Lib.hid hg2; have HF1 := Lib.hid hf1; have LG := Lib.hid lg
  rw [hf1] at hF; rw [lg] at hG
  clear hP hw hr hg2 hf1 lg
  go_enter Try.func63, Try.ntmps63
  go_wp2_with fail
  refine hS.mono ?_
  rintro e w1 ⟨v, rfl, hv, hb1⟩
  clear hS
  obtain ⟨A1, k1, hv1, _, _⟩ := own_form hv
  have hhead := @plL_head L F R ws
  obtain ⟨m, hm⟩ : ∃ m, m = (plL L F R ws).length := ⟨_, rfl⟩
  rw [← hm] at hv1
  subst hv1
  have HV := Lib.hid hv; have HM := Lib.hid hm; have HB1 := Lib.hid hb1
  clear hv hm hb1
  cases hp : cfP L F R ws with
  | none =>
    have hm0 : m = 0 := by
      rw [hp] at hhead
      rw [HM.out]
      rw [Option.map_none, List.getElem?_eq_none_iff] at hhead
      omega
    subst hm0
    have HL := Lib.hid (cfL_none (G := G) hp)
    have hR0 := RowI.made w1 w.heap.size 2 HB1.out.size
    have HR0 := Lib.hid hR0
    have HS := Lib.hid (SlV.alloc ((HW.out.below HB1.out (Nat.le_refl _)).more HB1.out.size) (Nat.le_refl _) (.cells #[] 2))
    have HB0 := Lib.hid (HB1.out.alloc HB1.out.size (.cells #[] 2))
    have N0 : Hid (([] : List Int).length + n ≤ 4294967296) := by show _ ≤ _; simp; omega
    clear hp hhead hR0
    go_wp2_with (first | (at_builtin; refine wpList_ints_push rfl (.tmp 14) (.tmp 15) _ rfl w.heap.size 2 Try.underlying22 infoF _ [] rfl HR0.out b off n n w1.heap.size ws rfl HS.out N0.out HB0.out.size ?_; intro v1 x1 hown1 hbl1; have HO1 := Lib.hid hown1; have B1 := Lib.hid (HB0.out.trans hbl1); obtain ⟨A2, k2, hv2, _, _⟩ := own_form hown1; obtain ⟨m2, hm2⟩ : ∃ m, m = ([] ++ ws).length := ⟨_, rfl⟩; rw [← hm2] at hv2; subst hv2; have HM2 := Lib.hid hm2; clear hm2 hown1 hbl1))
    go_ret2
    have hO := HO1.out
    have h2 := HM2.out
    rw [List.nil_append] at hO h2
    refine ⟨A2, k2, ret_val ?_, ?_, B1.out⟩
    · show Value.tuple #[.slice A2 m2 k2, .bool true] = _
      rw [HL.out, h2, decide_eq_true (show ws.length ≤ 24 by rw [hl.out]; exact h24)]
    · rw [HL.out, ← h2]; exact hO
  | some p =>
    obtain ⟨hp1, hp2⟩ := cfP_fit hp
    have hroom := fit_room hp2
    rw [hl.out] at hp1 hroom
    rw [HF1.out] at hroom
    have HL := Lib.hid (cfL_some (G := G) hp)
    rw [hp] at hhead
    have hm0 : 0 < m := by
      rw [HM.out]
      have := (List.getElem?_eq_some_iff.1 hhead).1
      exact this
    have hmn : ((m : Int) == 0) = false := by simp; omega
    obtain ⟨gq, cq, hvq, hcq, hbq, hgq, hcell⟩ := RowI.form HV.out (by rw [← HM.out]; exact hm0)
    injection hvq with e1 e2 e3
    subst e1 e3
    have hc0 := hcell 0 (p : Int) hhead
    clear hp hp2 hcell e2
    have RB1 := Lib.hid (HR.out.below HB1.out HR.out.lt)
    have l1 : (0 : Int) < (m : Int) := by omega
    go_wp2_with fail
    refine wp_tail 13 (by kernel_rfl) (by kernel_rfl) (fun y hy => ?_)
    have k1 : y.cell? ⟨g, 1, none⟩ = some (.slice (some ⟨b1, o1, none⟩) n1 c1) := by rw [hy]; exact RB1.out.cell 1
    have k2 : y.cell? ⟨g, 2, none⟩ = some (.slice (some ⟨b2, o2, none⟩) n2 c2) := by rw [hy]; exact RB1.out.cell 2
    have k3 : y.cell? ⟨gq, 0, none⟩ = some (.int .i64 (p : Int)) := by rw [hy]; exact hc0
    have HY : Hid (Below w.heap.size w y) := by rw [hy]; exact below_draws HB1.out _
    clear hy hc0
    simp only [List.take_succ_cons, List.take_zero, List.drop_succ_cons, List.drop_zero]
    repeat still_step
    refine wpStill_nil ?_
    have hU := sPut_any b off n b2 o2 n2 c2 F G ws p n1 y ((HW.out.below HY.out (Nat.le_refl _)).more HY.out.size) ((HG2.out.below HY.out (Nat.le_refl _)).more HY.out.size) HF1.out hG h24 hroom
    go_wp2_with fail
    refine hU.mono ?_
    rintro e w3 ⟨A', c', rfl, hO, hb3⟩
    clear hU k1 k2 k3
    obtain ⟨q, hq⟩ : ∃ m, m = (putL F G ws p).length := ⟨_, rfl⟩
    rw [← hq] at hO ⊢
    have HO := Lib.hid hO; have HQ := Lib.hid hq; clear hO hq
    go_wp2_with fail
    go_ret2
    refine ⟨A', c', ret_val ?_, ?_, HY.out.trans (hb3.mono HY.out.size)⟩
    · rw [HL.out, ← HQ.out]
      show Value.tuple #[.slice A' q c', .bool (decide ((q : Int) ≤ 24))] = _
      rw [show decide ((q : Int) ≤ 24) = decide (q ≤ 24) from decide_eq_decide.2 (by omega)]
    · rw [HL.out, ← HQ.out]; exact World.ownsRow.mono HO.out HY.out.size
set_option maxHeartbeats 2000000 in
theorem sFirst_any (v : Value) (b off n : Nat) (L F G R ws : List Int) (l : Int) (w : World) (h : CgS w w.heap.size v L F G R) (hw : SlI w w.heap.size (some ⟨b, off, none⟩) n ws) (hL : L.length ≤ 4294967296) (hF : F.length ≤ 4294967296) (hG : G.length ≤ 4294967296) (hR : R.length ≤ 4294967296) (hn : n ≤ 4294967296) :
    Calls Try.prog 32 #[v, .slice (some ⟨b, off, none⟩) n n, .int .i64 l] w fun e w' => ∃ v, e = .returned (.tuple #[v, .bool (cfB L F G R ws l)]) ∧ FOut w' w.heap.size v (cfB L F G R ws l) (cfL L F G R ws) ∧ Below w.heap.size w w' := by
  have hP := h.cg.boxed
  obtain ⟨b0, o0, n0, c0, b1, o1, n1, c1, b2, o2, n2, c2, b3, o3, n3, c3, rfl, h0, h1, h2, h3⟩ := h
  obtain ⟨vs, hv, hP⟩ := hP
  injection hv with hv
  rw [← hv] at hP
  have hdef := cfB_def L F G R ws l
  have hl := Lib.hid hw.len
  have hf1 := Lib.hid h1.len
  have hbx : Below w.heap.size w (w.alloc (.cells ([.slice (some ⟨b0, o0, none⟩) n0 c0, .slice (some ⟨b1, o1, none⟩) n1 c1, .slice (some ⟨b2, o2, none⟩) n2 c2, .slice (some ⟨b3, o3, none⟩) n3 c3] : List Value).toArray 27)) := (Below.refl _ _).alloc (Nat.le_refl _) _
  have rb := Row.new w 27 [.slice (some ⟨b0, o0, none⟩) n0 c0, .slice (some ⟨b1, o1, none⟩) n1 c1, .slice (some ⟨b2, o2, none⟩) n2 c2, .slice (some ⟨b3, o3, none⟩) n3 c3]
  have hC := sIs_any w.heap.size L F G R l _ hP hL hF hG hR
  have hwx := (hw.below hbx (Nat.le_refl _)).more hbx.size
  have hG2 := sLong_any (some ⟨b, off, none⟩) n n ws l _ _ hwx hn
  have hg2 := (h2.below hbx (Nat.le_refl _)).more hbx.size
  have HP := Lib.hid hP; have HWX := Lib.hid hwx; have HBX := Lib.hid hbx; have RB := Lib.hid rb; have HG2 := Lib.hid hg2
  clear hP hv hw hwx hbx rb hg2 h0 h1 h2 h3 hL hF hG hR hn
  cases h1 : vcB L F G R l with
  | false =>
    rw [h1, Bool.false_and, Bool.false_and] at hdef
    rw [h1] at hC
    have HD := Lib.hid hdef
    clear hdef
    go_enter Try.func32, Try.ntmps32
    go_wp2_with fail
    refine hC.mono ?_; rintro e w' ⟨rfl, hw⟩; subst hw
    go_wp2_with fail
    go_ret2
    exact ⟨_, by rw [HD.out]; rfl, by rw [FOut, HD.out]; rfl, HBX.out⟩
  | true =>
    have h4 := vc_lens h1
    rw [h1] at hC
    cases h2 : longB ws l with
    | false =>
      rw [h2] at hG2
      rw [h1, h2, Bool.and_false, Bool.false_and] at hdef
      have HD := Lib.hid hdef
      clear hdef
      go_enter Try.func32, Try.ntmps32
      go_wp2_with fail
      refine hC.mono ?_; rintro e w' ⟨rfl, hw⟩; subst hw
      go_wp2_with fail
      refine hG2.mono ?_; rintro e w' ⟨rfl, hw⟩; subst hw
      go_wp2_with fail
      go_ret2
      exact ⟨_, by rw [HD.out]; rfl, by rw [FOut, HD.out]; rfl, HBX.out⟩
    | true =>
      have h24 := long24 h2
      rw [hl.out] at h24
      rw [h2] at hG2
      rw [h1, h2, Bool.true_and, Bool.true_and] at hdef
      have hS := sOnce_any w.heap.size b off n b0 o0 n0 c0 b1 o1 n1 c1 b2 o2 n2 c2 b3 o3 n3 c3 L F G R ws _ HP.out RB.out HG2.out hf1.out HWX.out h4.1 h4.2.2.1 h4.2.2.2.1 h4.2.2.2.2 h24
      obtain ⟨ok, hok⟩ : ∃ ok, ok = decide ((cfL L F G R ws).length ≤ 24) := ⟨_, rfl⟩
      rw [← hok] at hS hdef
      obtain ⟨m, hm⟩ : ∃ m, m = (cfL L F G R ws).length := ⟨_, rfl⟩
      rw [← hm] at hS
      have HD := Lib.hid hdef
      clear hdef h4 hok hm
      go_enter Try.func32, Try.ntmps32
      go_wp2_with fail
      refine hC.mono ?_; rintro e w' ⟨rfl, hw⟩; subst hw
      go_wp2_with fail
      refine hG2.mono ?_; rintro e w' ⟨rfl, hw⟩; subst hw
      go_wp2_with fail
      refine hS.mono ?_; rintro e w2 ⟨A', c', rfl, hv, hb2⟩; clear hS
      have HV := Lib.hid hv; clear hv
      cases ok with
      | false =>
        go_wp2_with fail
        go_ret2
        exact ⟨_, by rw [HD.out]; rfl, by rw [FOut, HD.out]; rfl, HBX.out.trans (hb2.mono HBX.out.size)⟩
      | true =>
        go_wp2_with fail
        go_ret2
        exact ⟨_, by rw [HD.out]; rfl, by rw [FOut, HD.out]; exact World.ownsRow.mono HV.out HBX.out.size, HBX.out.trans (hb2.mono HBX.out.size)⟩
end Go.Proofs.Ytcmnhnapnnpbdaa
