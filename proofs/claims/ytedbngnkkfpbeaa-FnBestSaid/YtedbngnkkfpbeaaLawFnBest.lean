/- FnBest: the walk: the law returns true. -/
import Derived.Test.YtedbngnkkfpbeaaMhb
import Derived.Deep.LoopGhost
import Derived.Deep.RegionHeld3
import Derived.Deep.CutRange

namespace Go.Proofs.Ytedbngnkkfpbeaa.fnBest
open Go.RowKit
set_option linter.unusedVariables false
theorem r8v_nat (z : List Int) (k m : Nat) (h : 0 < m) : ∃ q : Nat, r8v z k (m : Int) = (q : Int) ∧ q < m := by
  have := r8v_bd (z := z) (k := k) (m := (m : Int)) (by omega)
  exact ⟨(r8v z k m).toNat, by omega, by omega⟩
theorem wordB_mkb {xs : List Int} {t : Nat} (ht : 1 ≤ t) (ht' : t ≤ 4) (hl : xs.length ≤ 12) (hx : ∀ x ∈ xs, 0 ≤ x ∧ x < (t : Int)) : wordB xs t = true := by
  simp only [wordB, allIn, Bool.and_eq_true, decide_eq_true_eq, List.all_eq_true]
  refine ⟨decide_eq_true (by omega), hl, fun x h => decide_eq_true ?_⟩
  have := hx x h
  omega
theorem rowI_at {w : World} {base g n c : Nat} {t : TypeId} {r : List Int} (h : RowI w base t (.slice (some ⟨g, 0, none⟩) n c) r) {k : Nat} {x : Int} (hk : r[k]? = some x) : w.cell? ⟨g, k, none⟩ = some (.int .i64 x) := by
  have := World.ownsRow.cells h (g := g) rfl k (.int .i64 x) (by simp [iv, hk])
  have ea : (⟨g, 0, none⟩ : Addr).add k = ⟨g, k, none⟩ := by unfold Addr.add; by_cases h : k = 0 <;> simp [h]
  rw [ea] at this; exact this
theorem tab_slI {w : World} {base gt n c : Nat} {TT : TypeId} {rows : List (List Int)} (h : TabI w base TT (.slice (some ⟨gt, 0, none⟩) n c) rows) {j : Nat} {r : List Int} (hj : rows[j]? = some r) : ∃ g c', w.cell? ⟨gt, j, none⟩ = some (.slice (some ⟨g, 0, none⟩) r.length c') ∧ SlI w w.heap.size (some ⟨g, 0, none⟩) r.length r ∧ g < w.heap.size := by
  obtain ⟨gt', ct, g, c', e, -, -, -, e1, -, -, e2, -, e3⟩ := h.at_ hj
  injection e with e _ _
  injection e with e
  injection e with e _ _
  subst e
  refine ⟨g, c', e1, ⟨iv_length r, fun _ => ⟨g, 0, rfl, e2, fun k u hu => ?_⟩⟩, e2⟩
  obtain ⟨x, hx, rfl⟩ := iv_get hu
  rw [Nat.zero_add]; exact e3 k x hx
set_option maxRecDepth 100000 in
set_option maxHeartbeats 40000000 in
theorem walk (a0 : Option Addr) (n0 c0 : Nat) (z0 : List Int) (a1 : Option Addr) (n1 c1 : Nat) (z1 : List Int) (w0 : World) (wf0 : IsRow .u8 w0 a0 n0 c0 z0) (wf1 : IsRow .u8 w0 a1 n1 c1 z1) :
    Calls Try.prog 3 #[.slice a0 n0 c0, .slice a1 n1 c1] w0 fun e w' => e = .returned (.bool true) ∧ Below w0.heap.size w0 w' := by
  have hl0 := wf0.lens; have hl1 := wf1.lens
  have hm0 : n0 ≤ maxLen := by omega
  have hm1 : n1 ≤ maxLen := by omega
  by_cases hlong : n0 ≤ 48 ∧ n1 ≤ 48
  case neg =>
    have hY := r8Long_yes a0 n0 c0 a1 n1 c1 w0 hm0 hm1 (by omega)
    clear hlong wf0 wf1 hl0 hl1 hm0 hm1
    go_enter Try.func3, Try.ntmps3
    go_wp2_with fail
    refine hY.mono ?_
    rintro e w' ⟨rfl, hw⟩
    obtain rfl := hw
    clear hY
    go_wp2_with fail
    go_ret
    exact ⟨rfl, Below.refl _ _⟩
  have hN := r8Long_no a0 n0 c0 a1 n1 c1 w0 hlong.1 hlong.2
  have HY0 := Lib.hid wf0.slY; have HY1 := Lib.hid wf1.slY
  obtain ⟨y0, hy0⟩ : ∃ y, y = z0.take n0 := ⟨_, rfl⟩
  obtain ⟨y1, hy1⟩ : ∃ y, y = z1.take n1 := ⟨_, rfl⟩
  rw [← hy0] at HY0
  rw [← hy1] at HY1
  clear hy0 hy1 wf0 wf1 hl0 hl1 hlong
  obtain ⟨k40, e40, l40⟩ := r8v_nat y1 40 3 (by omega)
  obtain ⟨k41, e41, l41⟩ := r8v_nat y1 41 4 (by omega)
  obtain ⟨k42, e42, l42⟩ := r8v_nat y1 42 6 (by omega)
  have A40 : Hid (∀ x : World, SlY x w0.heap.size a1 n1 y1 → Calls Try.prog 6 #[.slice a1 n1 c1, .int .i64 40, .int .i64 3] x fun e w' => e = .returned (.int .i64 k40) ∧ x = w') := fun x hx => by have h := r8At_any a1 n1 c1 y1 w0.heap.size x hx 40 3 (by omega) (by omega) (by omega) hm1; rw [show r8v y1 40 3 = (k40 : Int) from e40] at h; exact h
  have A41 : Hid (∀ x : World, SlY x w0.heap.size a1 n1 y1 → Calls Try.prog 6 #[.slice a1 n1 c1, .int .i64 41, .int .i64 4] x fun e w' => e = .returned (.int .i64 k41) ∧ x = w') := fun x hx => by have h := r8At_any a1 n1 c1 y1 w0.heap.size x hx 41 4 (by omega) (by omega) (by omega) hm1; rw [show r8v y1 41 4 = (k41 : Int) from e41] at h; exact h
  have A42 : Hid (∀ x : World, SlY x w0.heap.size a1 n1 y1 → Calls Try.prog 6 #[.slice a1 n1 c1, .int .i64 42, .int .i64 6] x fun e w' => e = .returned (.int .i64 k42) ∧ x = w') := fun x hx => by have h := r8At_any a1 n1 c1 y1 w0.heap.size x hx 42 6 (by omega) (by omega) (by omega) hm1; rw [show r8v y1 42 6 = (k42 : Int) from e42] at h; exact h
  clear e40 e41 e42
  obtain ⟨t, ht⟩ : ∃ t, t = k40 + 1 := ⟨_, rfl⟩
  have W40 : IntKind.i64.wrap (1 + (k40 : Int)) = (t : Int) := by rw [IntWalk.i64_in _ (by omega)]; omega
  obtain ⟨s, hs⟩ : ∃ t, t = k41 + 1 := ⟨_, rfl⟩
  have W41 : IntKind.i64.wrap (1 + (k41 : Int)) = (s : Int) := by rw [IntWalk.i64_in _ (by omega)]; omega
  have bt : 1 ≤ t ∧ t ≤ 3 := by omega
  have bs : 1 ≤ s ∧ s ≤ 4 := by omega
  have L42 : Hid (k42 ≤ 5) := by show _ ≤ _; omega
  have BT := Lib.hid bt; have BS := Lib.hid bs
  have BT4 : Hid (1 ≤ t ∧ t ≤ 4) := ⟨bt.1, by omega⟩
  clear ht hs l40 l41 l42 bt bs
  have M0 := Lib.hid hm0; have M1 := Lib.hid hm1
  clear hm0 hm1
  go_enter Try.func3, Try.ntmps3
  go_wp2_with fail
  refine hN.mono ?_
  rintro e w' ⟨rfl, hw⟩
  obtain rfl := hw
  clear hN
  go_wp2_with fail
  refine (A40.out w0 HY1.out).mono ?_
  rintro e w' ⟨rfl, hw⟩
  obtain rfl := hw
  clear A40
  go_wp2_with fail
  refine (A41.out w0 HY1.out).mono ?_
  rintro e w' ⟨rfl, hw⟩
  obtain rfl := hw
  clear A41
  go_wp2_with fail
  refine (r8Machine_any w0 a0 n0 c0 y0 HY0.out M0.out s t BS.out.1 (by have := BS.out.2; omega) BT.out.1 BT4.out.2 true).mono ?_
  rintro e w1 ⟨L, P, E, p2, p3, p4, c2, c3, c4, hD, rfl, g2, g3, g4, hb1⟩
  have HD := Lib.hid hD; clear hD W40 W41
  have HA_ := Mf.new (c2 := c2) (c3 := c3) (c4 := c4) (S := (s : Int)) (T := (t : Int)) g2 g3 g4
  obtain ⟨gA, hg⟩ : ∃ x, x = w1.heap.size := ⟨_, rfl⟩
  obtain ⟨w2, hw⟩ : ∃ x, x = w1.alloc (.cells ([.int .i64 (s : Int), .int .i64 (t : Int), .slice (some ⟨p2, 0, none⟩) L.length c2, .slice (some ⟨p3, 0, none⟩) P.length c3, .slice (some ⟨p4, 0, none⟩) E.length c4] : List Value).toArray 28) := ⟨_, rfl⟩
  have hb2 : Below w1.heap.size w1 (w1.alloc (.cells ([.int .i64 (s : Int), .int .i64 (t : Int), .slice (some ⟨p2, 0, none⟩) L.length c2, .slice (some ⟨p3, 0, none⟩) P.length c3, .slice (some ⟨p4, 0, none⟩) E.length c4] : List Value).toArray 28)) := (Below.refl _ _).alloc (Nat.le_refl _) _
  rw [← hw, ← hg] at HA_
  rw [← hw] at hb2
  have HA := Lib.hid HA_; clear HA_
  clear g2 g3 g4
  go_wp2_with fail
  change Calls _ _ _ (w1.alloc (.cells ([.int .i64 (s : Int), .int .i64 (t : Int), .slice (some ⟨p2, 0, none⟩) L.length c2, .slice (some ⟨p3, 0, none⟩) P.length c3, .slice (some ⟨p4, 0, none⟩) E.length c4] : List Value).toArray 28)) _
  rw [← hw]
  try rw [← hg]
  clear hw hg
  have s02 : Below w0.heap.size w0 w2 := hb1.trans (hb2.mono hb1.size)
  refine (A42.out w2 (HY1.out.below s02 (Nat.le_refl _))).mono ?_
  rintro e w' ⟨rfl, hw⟩
  obtain rfl := hw
  clear A42
  go_wp2_with fail
  refine (r8Word_any w2 a1 n1 c1 y1 ((HY1.out.below s02 (Nat.le_refl _)).more s02.size) M1.out k42 t (by have := L42.out; omega) BT.out.1 BT4.out.2).mono ?_
  rintro e w3 ⟨xs, gw, d, hxl, hxr, rfl, hrw, hb3⟩
  have HXL := Lib.hid hxl; have HW := Lib.hid hrw; have HXR := Lib.hid hxr
  have HX12 : Hid (xs.length ≤ 12) := by show _ ≤ _; rw [hxl]; have := L42.out; omega
  have HWB : Hid (wordB xs t = true) := wordB_mkb BT.out.1 BT4.out.2 HX12.out hxr
  have HV1 : Hid (vmB s t L P E = true) := HD.out.vm BS.out.1 (by have := BS.out.2; omega) BT.out.1 BT4.out.2
  have HPN : Hid (P.length ≤ 13) := by show _ ≤ _; have := HD.out.np; have := BS.out.2; omega
  obtain ⟨r, hr⟩ : ∃ r, r = coV 1099511627776 L P E xs := ⟨_, rfl⟩
  have HRE := Lib.hid hr
  obtain ⟨W, hW⟩ : ∃ W, W = bwW 1099511627776 s t L P E := ⟨_, rfl⟩
  obtain ⟨C, hC⟩ : ∃ C, C = bwC 1099511627776 s t L P E := ⟨_, rfl⟩
  obtain ⟨bb, hbb⟩ : ∃ b, b = bwB 1099511627776 s t L P E := ⟨_, rfl⟩
  obtain ⟨R, hR⟩ : ∃ R, R = (bsA 1099511627776 t 4 L P E).take 20 := ⟨_, rfl⟩
  have HWW := Lib.hid hW; have HCC := Lib.hid hC; have HBB := Lib.hid hbb; have HRR := Lib.hid hR
  have HLE : Hid (0 ≤ r → bb = true ∧ C ≤ r) := fun h0 => by
    have h := bw_least HV1.out HPN.out HX12.out HXR.out (by rw [← HRE.out]; exact h0)
    exact ⟨HBB.out.trans h.1, by rw [HCC.out, HRE.out]; exact h.2.1⟩
  have HRL : Hid (R.length ≤ 20) := by show _ ≤ _; rw [hR, List.length_take]; omega
  clear hxl hxr hrw hr hW hC hbb hR
  have s23 := hb3
  have r_ := ((HA.out.below s23 (Nat.le_refl _))).1; have kc0 := r_.cell 0; have kc1 := r_.cell 1; have kc2 := r_.cell 2; have kc3 := r_.cell 3; have kc4 := r_.cell 4; clear r_
  go_wp2_with fail
  clear kc0 kc1 kc2 kc3 kc4
  refine (fCostB (HA.out.below s23 (Nat.le_refl _)) HV1.out (some ⟨gw, 0, none⟩) k42 d xs (RowI.sl HW.out HXL.out) HWB.out r HRE.out).mono ?_
  rintro e w4 ⟨rfl, hb4⟩
  have s24 := s23.trans (hb4.mono s23.size)
  have r_ := ((HA.out.below s24 (Nat.le_refl _))).1; have kc0 := r_.cell 0; have kc1 := r_.cell 1; have kc2 := r_.cell 2; have kc3 := r_.cell 3; have kc4 := r_.cell 4; clear r_
  go_wp2_with fail
  clear kc0 kc1 kc2 kc3 kc4
  refine (fBestB (HA.out.below s24 (Nat.le_refl _)) HV1.out W C bb HWW.out HCC.out HBB.out).mono ?_
  rintro e w5 ⟨A5, c5, rfl, hrW, hb5⟩
  have HRW := Lib.hid hrW; clear hrW
  have s25 := s24.trans (hb5.mono s24.size)
  have r_ := ((HA.out.below s25 (Nat.le_refl _))).1; have kc0 := r_.cell 0; have kc1 := r_.cell 1; have kc2 := r_.cell 2; have kc3 := r_.cell 3; have kc4 := r_.cell 4; clear r_
  go_wp2_with fail
  clear kc0 kc1 kc2 kc3 kc4
  refine (fBwsB (HA.out.below s25 (Nat.le_refl _)) HV1.out 4 20 (by omega) (by omega) (by omega) R HRR.out).mono ?_
  rintro e w6 ⟨gq, cq, gc, cc, rfl, htb, hrc, hb6⟩
  have s26 := s25.trans (hb6.mono s25.size)
  have HTB := Lib.hid htb; have HRC := Lib.hid hrc
  have HA6 := Lib.hid (HA.out.below s26 (Nat.le_refl _))
  have HW6 := Lib.hid (RowI.keep HRW.out hb6 (Nat.le_refl _))
  have HB06 : Hid (Below w0.heap.size w0 w6) := s02.trans (s26.mono s02.size)
  have HGA : Hid (gA < w6.heap.size) := HA6.out.1.lt
  clear htb hrc s23 s24 s25 s26 s02 hb1 hb2 hb3 hb4 hb5 hb6 HA HRW HW HY0 HY1
  go_upto_region 9 with fail
  go_cut [91] from 59 to 91 (fun v wx => v = .bool false ∧ wx = w6)
  case first =>
    by_cases hr0 : 0 ≤ r
    · obtain ⟨hb1, hb2⟩ := HLE.out hr0
      subst hb1
      have q1 : r ≥ 0 := hr0
      have q2 : ¬ C > r := by omega
      go_wp2_with fail
      go_meet
      exact ⟨rfl, rfl⟩
    · have q1 : ¬ r ≥ 0 := hr0
      cases bb with
      | false =>
        go_wp2_with fail
        go_meet
        exact ⟨rfl, rfl⟩
      | true =>
        go_wp2_with fail
        go_meet
        exact ⟨rfl, rfl⟩
  case rest =>
  obtain ⟨rfl, hwc⟩ := hcut
  obtain rfl := hwc.symm
  go_upto_if 92 with fail
  go_cut [16, 17, 92] from 93 to 130 (fun u16 u17 u92 wx => Hid (Below w6.heap.size w6 wx))
  case first =>
    cases bb with
    | false =>
      go_wp2_with fail
      go_meet
      exact Below.refl _ _
    | true =>
      obtain ⟨f1, f2, f3, f4, -⟩ := bw_word HV1.out HBB.out.symm
      rw [← HWW.out] at f1 f2 f3
      rw [← HCC.out] at f3 f4
      have HWWB : Hid (wordB W t = true) := wordB_mkb BT.out.1 BT4.out.2 f1 f2
      have HF3 := Lib.hid f3.symm
      have HW12 : Hid (W.length ≤ 12) := f1
      clear f1 f2 f3 f4
      have r_ := (HA6.out).1; have kc0 := r_.cell 0; have kc1 := r_.cell 1; have kc2 := r_.cell 2; have kc3 := r_.cell 3; have kc4 := r_.cell 4; clear r_
      go_wp2_with fail
      clear kc0 kc1 kc2 kc3 kc4
      refine (fCostB HA6.out HV1.out A5 W.length c5 W (RowI.sl HW6.out rfl) HWWB.out C HF3.out).mono ?_
      rintro e w7 ⟨rfl, hb7⟩
      have HB7 := Lib.hid hb7; clear hb7
      go_upto_region 13 with fail
      by_cases hl4 : W.length ≤ 4
      · have h0 := bs_first HV1.out (show 4 ≤ 12 by omega) HBB.out.symm HPN.out (by rw [← HWW.out]; exact hl4)
        rw [← HWW.out, ← HCC.out] at h0
        have hR0 : R[0]? = some (W, C) := by rw [HRR.out, List.getElem?_take_of_lt (by omega)]; exact h0
        have hRp : 0 < R.length := (List.getElem?_eq_some_iff.1 hR0).1
        obtain ⟨g0, cg0, k0, k1, k2⟩ := tab_slI (HTB.out.keep HB7.out (Nat.le_refl _)) (j := 0) (r := W) (by rw [List.getElem?_map, hR0]; rfl)
        have k3 := rowI_at (HRC.out.keep HB7.out (Nat.le_refl _)) (k := 0) (x := C) (by rw [List.getElem?_map, hR0]; rfl)
        have SM := Lib.hid (r8Same_yes (some ⟨g0, 0, none⟩) W.length cg0 A5 c5 W w7 k1 ((RowI.sl HW6.out rfl).below HB7.out (Nat.le_refl _) |>.more HB7.out.size) (by omega))
        have q1 : (W.length : Int) ≤ 4 := by omega
        have q2 : ¬ (R.length : Int) < 1 := by omega
        have q3 : (0 : Int) < (R.length : Int) := by omega
        clear h0 hR0 k1 k2 hl4
        go_wp2_with (go_at_call 12; refine SM.out.mono ?_; rintro e wz ⟨rfl, hwz⟩; have HWZ := Lib.hid hwz; clear hwz)
        go_meet
        obtain ⟨dz, hdz⟩ := HWZ.out
        show Below _ _ _
        rw [hdz]
        exact below_draws HB7.out dz
      · have q1 : ¬ (W.length : Int) ≤ 4 := by omega
        clear hl4
        go_wp2_with fail
        go_meet
        exact HB7.out
  case rest =>
  have HB7 := Lib.hid hcut.out
  obtain ⟨w7, rfl⟩ : ∃ z : World, z = wc := ⟨_, rfl⟩
  clear hcut
  have HPL : Hid (∀ p ∈ R, wordB p.1 t = true ∧ p.2 = coV 1099511627776 L P E p.1 ∧ 0 ≤ p.2 ∧ p.1.length ≤ 4) := fun p hp => by
    rw [HRR.out] at hp
    obtain ⟨h1, h2, h3⟩ := bsA_mem.1 (List.mem_of_mem_take hp)
    obtain ⟨h4, h5⟩ := wlU_word h1
    exact ⟨wordB_mkb BT.out.1 BT4.out.2 (by omega) h5, h2, h3, h4⟩
  have HRS : Hid (R.Pairwise Rc) := by
    show List.Pairwise _ _
    rw [HRR.out]
    exact List.Pairwise.sublist (List.take_sublist _ _) (bsA_rc _ _ _ _ _ _)
  go_wp2_with fail
  go_loopg [18] R.length (fun q ti wr => ∃ i : Nat, ti = .int .i64 (i : Int) ∧ Hid (i ≤ R.length ∧ R.length ≤ q + i) ∧ Hid (Below w6.heap.size w6 wr))
  case atStart => exact ⟨0, rfl, (by show _ ∧ _; omega), HB7.out⟩
  case round =>
    obtain ⟨i, rfl, EI, HBW⟩ := hrel
    obtain ⟨wo, rfl⟩ : ∃ x : World, x = wr := ⟨_, rfl⟩
    clear HB7
    by_cases hlt : i < R.length
    · obtain ⟨p, hp⟩ : ∃ p, R[i]? = some p := ⟨_, List.getElem?_eq_getElem hlt⟩
      obtain ⟨x, cx⟩ := p
      obtain ⟨e1, e2, e3, e4⟩ := HPL.out _ (List.mem_of_getElem? hp)
      have hsz := HBW.out.size
      obtain ⟨gx, dx, k0, k1, k2⟩ := tab_slI HTB.out (j := i) (r := x) (by rw [List.getElem?_map, hp]; rfl)
      have k3 := rowI_at HRC.out (k := i) (x := cx) (by rw [List.getElem?_map, hp]; rfl)
      have hgq := (HTB.out.block gq rfl).2
      have hgc := (World.ownsRow.lt HRC.out gc rfl).2
      have HSC : Hid (∀ y : World, Below w6.heap.size w6 y → (y.cell? ⟨gA, 0, none⟩ = some (.int .i64 (s : Int)) ∧ y.cell? ⟨gA, 1, none⟩ = some (.int .i64 (t : Int)) ∧ y.cell? ⟨gA, 2, none⟩ = some (.slice (some ⟨p2, 0, none⟩) L.length c2) ∧ y.cell? ⟨gA, 3, none⟩ = some (.slice (some ⟨p3, 0, none⟩) P.length c3) ∧ y.cell? ⟨gA, 4, none⟩ = some (.slice (some ⟨p4, 0, none⟩) E.length c4) ∧ y.cell? ⟨gq, i, none⟩ = some (.slice (some ⟨gx, 0, none⟩) x.length dx))) := fun y hy => by
        have r_ := (HA6.out.below hy (Nat.le_refl _)).1
        exact ⟨r_.cell 0, r_.cell 1, r_.cell 2, r_.cell 3, r_.cell 4, (hy.cell (p := ⟨gq, i, none⟩) hgq).trans k0⟩
      have HC3 : Hid (∀ y : World, Below w6.heap.size w6 y → y.cell? ⟨gc, i, none⟩ = some (.int .i64 cx)) := fun y hy => (hy.cell (p := ⟨gc, i, none⟩) hgc).trans k3
      have CC : Hid (∀ y : World, Below w6.heap.size w6 y → Calls Try.prog 9 #[.agg #[.int .i64 (s : Int), .int .i64 (t : Int), .slice (some ⟨p2, 0, none⟩) L.length c2, .slice (some ⟨p3, 0, none⟩) P.length c3, .slice (some ⟨p4, 0, none⟩) E.length c4], .slice (some ⟨gx, 0, none⟩) x.length dx] y fun e z => e = .returned (.tuple #[.int .i64 cx, .bool true]) ∧ Below y.heap.size y z) := fun y hy => fCostB (HA6.out.below hy (Nat.le_refl _)) HV1.out (some ⟨gx, 0, none⟩) x.length dx x ((k1.below hy (Nat.le_refl _)).more hy.size) e1 cx e2
      have HP := Lib.hid hp; have HE4 := Lib.hid e4; have HE3 := Lib.hid e3; have HX := Lib.hid k1; have HK0 := Lib.hid k0; have HGQ := Lib.hid hgq; have HLT : Hid (i < R.length) := hlt
      have l1 : (i : Int) < (R.length : Int) := by omega
      have l2 : (0 : Int) ≤ (i : Int) := by omega
      have hrl := HRL.out
      have wi1 : IntKind.i64.wrap ((i : Int) + 1) = ((i + 1 : Nat) : Int) := by rw [IntWalk.i64_in _ (by omega)]; omega
      clear hp e1 e2 e3 e4 k0 k1 k2 k3 hgq hgc hlt hrl hsz
      go_upto_region 18 with fail
      have hfrom := HSC.out wo.drew (Below.drew HBW.out)
      go_cut [19, 20] from 137 to 145 (fun u19 u20 wx => u19 = .int .i64 cx ∧ u20 = .bool true ∧ Hid (Below w6.heap.size w6 wx))
      case first =>
        go_region_held3 (fun y => y.cell? ⟨gA, 0, none⟩ = some (.int .i64 (s : Int)) ∧ y.cell? ⟨gA, 1, none⟩ = some (.int .i64 (t : Int)) ∧ y.cell? ⟨gA, 2, none⟩ = some (.slice (some ⟨p2, 0, none⟩) L.length c2) ∧ y.cell? ⟨gA, 3, none⟩ = some (.slice (some ⟨p3, 0, none⟩) P.length c3) ∧ y.cell? ⟨gA, 4, none⟩ = some (.slice (some ⟨p4, 0, none⟩) E.length c4) ∧ y.cell? ⟨gq, i, none⟩ = some (.slice (some ⟨gx, 0, none⟩) x.length dx)) (first | assumption | go_keep)
          (first | (go_at_call 9; refine (CC.out _ (Below.drew HBW.out)).mono ?_; rintro e wy ⟨rfl, hby⟩; have HBY : Hid (Below w6.heap.size w6 wy) := (Below.drew HBW.out).trans (hby.mono HBW.out.size); have hky := HSC.out wy HBY.out; clear hby))
        go_wp2_with fail
        go_meet
        exact ⟨rfl, rfl, HBY.out⟩
      case rest =>
      obtain ⟨rfl, rfl, HB8⟩ := hcut
      obtain ⟨w8, rfl⟩ : ∃ z : World, z = wc := ⟨_, rfl⟩
      clear hfrom HBW CC
      obtain ⟨-, -, -, -, -, j5⟩ := HSC.out w8 HB8.out
      have j6 := HC3.out w8 HB8.out
      have n1 : ¬ cx < 0 := by have := HE3.out; simp at this; omega
      have n2 : ¬ (x.length : Int) > 4 := by have := HE4.out; simp at this; omega
      go_upto_region 21 with fail
      by_cases hi0 : i = 0
      · have z1 : ((i : Int) == 0) = true := by simp [hi0]
        clear j5 j6
        go_wp2_with fail
        go_roundg (gk - 1)
        case measure => have := EI.out; have := HLT.out; omega
        case rel => exact ⟨i + 1, by go_num, (by show _ ∧ _; have := EI.out; have := HLT.out; omega), HB8.out⟩
      · have z1 : ((i : Int) == 0) = false := by rw [beq_eq_false_iff_ne]; omega
        obtain ⟨p, hp⟩ : ∃ p, R[i - 1]? = some p := ⟨_, List.getElem?_eq_getElem (by have := HLT.out; omega)⟩
        obtain ⟨x', cx'⟩ := p
        have hrc : Rc (x', cx') (x, cx) := by
          obtain ⟨i1, i2⟩ := List.getElem?_eq_some_iff.1 hp
          obtain ⟨i3, i4⟩ := List.getElem?_eq_some_iff.1 HP.out
          have h := List.pairwise_iff_getElem.1 HRS.out (i - 1) i i1 i3 (by omega)
          rw [i2, i4] at h; exact h
        obtain ⟨gx', dx', k0, k1, k2⟩ := tab_slI HTB.out (j := i - 1) (r := x') (by rw [List.getElem?_map, hp]; rfl)
        have k3 := rowI_at HRC.out (k := i - 1) (x := cx') (by rw [List.getElem?_map, hp]; rfl)
        have j7 : w8.cell? ⟨gq, i - 1, none⟩ = some (.slice (some ⟨gx', 0, none⟩) x'.length dx') := (HB8.out.cell (p := ⟨gq, i - 1, none⟩) HGQ.out).trans k0
        have j8 : w8.cell? ⟨gc, i - 1, none⟩ = some (.int .i64 cx') := (HB8.out.cell (p := ⟨gc, i - 1, none⟩) (World.ownsRow.lt HRC.out gc rfl).2).trans k3
        have m1 : IntKind.i64.wrap ((i : Int) - 1) = ((i - 1 : Nat) : Int) := by rw [IntWalk.i64_in _ (by have := HRL.out; have := HLT.out; omega)]; omega
        have m2 : (0 : Int) ≤ ((i - 1 : Nat) : Int) := by omega
        have m3 : ((i - 1 : Nat) : Int) < (R.length : Int) := by have := HLT.out; omega
        have HX' := Lib.hid k1; have HRCC := Lib.hid hrc
        have HI0 := Lib.hid hi0
        clear hp k0 k1 k2 k3 hrc hi0
        go_upto_region 22 with fail
        go_cut [232] from 170 to 232 (fun v wx => v = .bool false ∧ Hid (∃ d, wx = w8.drewN d))
        case first =>
          rcases HRCC.out with hc | ⟨hc, ho⟩
          · have hc' : cx' < cx := hc
            have v1 : decide (cx < cx') = false := decide_eq_false (by omega)
            have v2 : (cx == cx') = false := by rw [beq_eq_false_iff_ne]; omega
            have v3 : ¬ cx < cx' := by omega
            clear hc hc'
            go_quiet (fail)
            go_wp2_with fail
            go_meet
            exact ⟨rfl, ⟨_, rfl⟩⟩
          · have hc' : cx' = cx := hc
            subst hc'
            have v1 : decide (cx' < cx') = false := decide_eq_false (by omega)
            have v2 : (cx' == cx') = true := by simp
            have v3 : ¬ cx' < cx' := by omega
            clear hc
            rcases ho with ho | ⟨ho, hbf⟩
            · have ho' : x'.length < x.length := ho
              have v4 : ¬ (x.length : Int) < (x'.length : Int) := by omega
              have v5 : decide ((x.length : Int) < (x'.length : Int)) = false := decide_eq_false v4
              have v5' : decide (x.length < x'.length) = false := decide_eq_false (by omega)
              have v6 : ((x.length : Int) == (x'.length : Int)) = false := by rw [beq_eq_false_iff_ne]; omega
              clear ho ho'
              go_quiet (fail)
              go_wp2_with fail
              go_meet
              exact ⟨rfl, ⟨_, rfl⟩⟩
            · have ho' : x'.length = x.length := ho
              have hbf' : Bf x' x := hbf
              rw [ho'] at j7
              have hx' := HX'.out
              rw [ho'] at hx'
              have RB := Lib.hid (fun d => r8Before_yes (some ⟨gx', 0, none⟩) x.length dx' (some ⟨gx, 0, none⟩) dx x' x (w8.drewN d) ((hx'.below HB8.out (Nat.le_refl _)).more HB8.out.size) ((HX.out.below HB8.out (Nat.le_refl _)).more HB8.out.size) (by have := HE4.out; simp at this; omega) hbf')
              have v4 : ¬ (x.length : Int) < (x.length : Int) := by omega
              have v5 : decide ((x.length : Int) < (x.length : Int)) = false := decide_eq_false v4
              have v5' : decide (x.length < x.length) = false := decide_eq_false (by omega)
              have v6 : ((x.length : Int) == (x.length : Int)) = true := by simp
              clear ho ho' hbf hbf' hx'
              go_quiet ((go_at_call 13; exact Calls.quiet_of (RB.out _)))
              go_wp2_with fail
              go_meet
              exact ⟨rfl, ⟨_, rfl⟩⟩
        case rest =>
        obtain ⟨rfl, HBD⟩ := hcut
        obtain ⟨w9, rfl⟩ : ∃ z : World, z = wc := ⟨_, rfl⟩
        have HB9 : Hid (Below w6.heap.size w6 w9) := by
          obtain ⟨q, hq⟩ := HBD.out
          show Below _ _ _
          rw [hq]; exact below_draws HB8.out q
        clear HBD j5 j6 j7 j8
        go_wp2_with fail
        go_roundg (gk - 1)
        case measure => have := EI.out; have := HLT.out; omega
        case rel => exact ⟨i + 1, by go_num, (by show _ ∧ _; have := EI.out; have := HLT.out; omega), HB9.out⟩
    · have l1 : ¬ (i : Int) < (R.length : Int) := by have := EI.out; omega
      clear hlt
      obtain ⟨R1, hR1⟩ : ∃ R, R = (bsA 1099511627776 t 4 L P E).take 1 := ⟨_, rfl⟩
      have HR1 := Lib.hid hR1; clear hR1
      have r_ := ((HA6.out.below HBW.out (Nat.le_refl _))).1; have kc0 := r_.cell 0; have kc1 := r_.cell 1; have kc2 := r_.cell 2; have kc3 := r_.cell 3; have kc4 := r_.cell 4; clear r_
      go_wp2_with fail
      clear kc0 kc1 kc2 kc3 kc4
      refine (fBwsB (HA6.out.below HBW.out (Nat.le_refl _)) HV1.out 4 1 (by omega) (by omega) (by omega) R1 HR1.out).mono ?_
      rintro e wn ⟨ge, ce, gf, cf, rfl, hte, -, hbn⟩
      have HTE := Lib.hid hte
      have HBN : Hid (Below w6.heap.size w6 wn) := HBW.out.trans (hbn.mono HBW.out.size)
      clear hte hbn
      cases hA : bsA 1099511627776 t 4 L P E with
      | nil =>
        have h1 : R.length = 0 := by rw [HRR.out, hA]; rfl
        have h2 : R1.length = 0 := by rw [HR1.out, hA]; rfl
        rw [h1, h2]
        clear h1 h2 hA
        go_upto_region 25 with fail
        go_quiet (fail)
        go_wp2_with fail
        go_ret
        exact ⟨rfl, below_draws (HB06.out.trans (HBN.out.mono HB06.out.size)) _⟩
      | cons v l =>
        have hR0 : R[0]? = some v := by rw [HRR.out, hA]; rfl
        have hE0 : R1 = [v] := by rw [HR1.out, hA]; rfl
        have hRp : 0 < R.length := (List.getElem?_eq_some_iff.1 hR0).1
        obtain ⟨gx, dx, k0, k1, k2⟩ := tab_slI (HTB.out.keep HBN.out (Nat.le_refl _)) (j := 0) (r := v.1) (by rw [List.getElem?_map, hR0]; rfl)
        obtain ⟨gy, dy, m0, m1, m2⟩ := tab_slI HTE.out (j := 0) (r := v.1) (by rw [hE0]; rfl)
        have hvl := (HPL.out v (List.mem_of_getElem? hR0)).2.2.2
        have SM := Lib.hid (fun d => r8Same_yes (some ⟨gy, 0, none⟩) v.1.length dy (some ⟨gx, 0, none⟩) dx v.1 (wn.drewN d) m1 k1 (by omega))
        have h2 : R1.length = 1 := by rw [hE0]; rfl
        rw [h2]
        have v1 : ((R.length : Int) == 0) = false := by rw [beq_eq_false_iff_ne]; omega
        have v3 : (0 : Int) < (R.length : Int) := by omega
        have v4 : 0 < R.length := hRp
        clear h2 hA hR0 hE0 k1 k2 m1 m2 hvl hRp
        go_upto_region 25 with fail
        go_quiet ((go_at_call 12; exact Calls.quiet_of (SM.out _)))
        go_wp2_with fail
        go_ret
        exact ⟨rfl, below_draws (HB06.out.trans (HBN.out.mono HB06.out.size)) _⟩
end Go.Proofs.Ytedbngnkkfpbeaa.fnBest
