/- FnPlains: the walk: the law returns true. -/
import Derived.Test.YtbdfbmohdbigfaaMgz
import Derived.Deep.LoopGhost
import Derived.Deep.RegionHeld3
import Derived.Deep.CutRange

namespace Go.Proofs.Ytbdfbmohdbigfaa.fnPlains
open Go.RowKit
set_option linter.unusedVariables false
theorem r8v_nat (z : List Int) (k m : Nat) (h : 0 < m) : ∃ q : Nat, r8v z k (m : Int) = (q : Int) ∧ q < m := by
  have := r8v_bd (z := z) (k := k) (m := (m : Int)) (by omega)
  exact ⟨(r8v z k m).toNat, by omega, by omega⟩
theorem wordB_mkp {xs : List Int} {t : Nat} (ht : 1 ≤ t) (ht' : t ≤ 4) (hl : xs.length ≤ 12) (hx : ∀ x ∈ xs, 0 ≤ x ∧ x < (t : Int)) : wordB xs t = true := by
  simp only [wordB, allIn, Bool.and_eq_true, decide_eq_true_eq, List.all_eq_true]
  refine ⟨decide_eq_true (by omega), hl, fun x h => decide_eq_true ?_⟩
  have := hx x h
  omega
theorem pow_small {t l : Nat} (ht : t ≤ 3) (hl : l ≤ 8) : t ^ l ≤ 6561 := Nat.le_trans (Nat.pow_le_pow_left ht l) (Nat.le_trans (Nat.pow_le_pow_right (by omega) hl) (by decide))
set_option maxRecDepth 100000 in
set_option maxHeartbeats 40000000 in
theorem walk (a0 : Option Addr) (n0 c0 : Nat) (z0 : List Int) (a1 : Option Addr) (n1 c1 : Nat) (z1 : List Int) (w0 : World) (wf0 : IsRow .u8 w0 a0 n0 c0 z0) (wf1 : IsRow .u8 w0 a1 n1 c1 z1) :
    Calls Try.prog 3 #[.slice a0 n0 c0, .slice a1 n1 c1] w0 fun e w' => e = .returned (.bool true) ∧ Below w0.heap.size w0 w' := by
  have hl0 := wf0.lens; have hl1 := wf1.lens
  have hm0 : n0 ≤ maxLen := by omega
  have hm1 : n1 ≤ maxLen := by omega
  by_cases hlong : n0 ≤ 48 ∧ n1 ≤ 48
  case neg =>
    have hY := r8Long_yes a0 n0 c0 a1 n1 c1 w0 hm0 hm1 (by omega)
    clear hlong wf0 wf1 hl0 hl1 hm0 hm1
    go_enter Try.func3, Try.ntmps3
    go_wp2_with fail
    refine hY.mono ?_
    rintro e w' ⟨rfl, hw⟩
    obtain rfl := hw
    clear hY
    go_wp2_with fail
    go_ret
    exact ⟨rfl, Below.refl _ _⟩
  have hN := r8Long_no a0 n0 c0 a1 n1 c1 w0 hlong.1 hlong.2
  have HY0 := Lib.hid wf0.slY; have HY1 := Lib.hid wf1.slY
  obtain ⟨y0, hy0⟩ : ∃ y, y = z0.take n0 := ⟨_, rfl⟩
  obtain ⟨y1, hy1⟩ : ∃ y, y = z1.take n1 := ⟨_, rfl⟩
  rw [← hy0] at HY0
  rw [← hy1] at HY1
  clear hy0 hy1 wf0 wf1 hl0 hl1 hlong
  obtain ⟨k40, e40, l40⟩ := r8v_nat y1 40 3 (by omega)
  obtain ⟨k41, e41, l41⟩ := r8v_nat y1 41 4 (by omega)
  obtain ⟨k42, e42, l42⟩ := r8v_nat y1 42 8 (by omega)
  obtain ⟨k43, e43, l43⟩ := r8v_nat y1 43 5 (by omega)
  obtain ⟨k44, e44, l44⟩ := r8v_nat y1 44 5 (by omega)
  obtain ⟨k45, e45, l45⟩ := r8v_nat y1 45 9 (by omega)
  have A40 : Hid (∀ x : World, SlY x w0.heap.size a1 n1 y1 → Calls Try.prog 8 #[.slice a1 n1 c1, .int .i64 40, .int .i64 3] x fun e w' => e = .returned (.int .i64 k40) ∧ x = w') := fun x hx => by have h := r8At_any a1 n1 c1 y1 w0.heap.size x hx 40 3 (by omega) (by omega) (by omega) hm1; rw [show r8v y1 40 3 = (k40 : Int) from e40] at h; exact h
  have A41 : Hid (∀ x : World, SlY x w0.heap.size a1 n1 y1 → Calls Try.prog 8 #[.slice a1 n1 c1, .int .i64 41, .int .i64 4] x fun e w' => e = .returned (.int .i64 k41) ∧ x = w') := fun x hx => by have h := r8At_any a1 n1 c1 y1 w0.heap.size x hx 41 4 (by omega) (by omega) (by omega) hm1; rw [show r8v y1 41 4 = (k41 : Int) from e41] at h; exact h
  have A42 : Hid (∀ x : World, SlY x w0.heap.size a1 n1 y1 → Calls Try.prog 8 #[.slice a1 n1 c1, .int .i64 42, .int .i64 8] x fun e w' => e = .returned (.int .i64 k42) ∧ x = w') := fun x hx => by have h := r8At_any a1 n1 c1 y1 w0.heap.size x hx 42 8 (by omega) (by omega) (by omega) hm1; rw [show r8v y1 42 8 = (k42 : Int) from e42] at h; exact h
  have A43 : Hid (∀ x : World, SlY x w0.heap.size a1 n1 y1 → Calls Try.prog 8 #[.slice a1 n1 c1, .int .i64 43, .int .i64 5] x fun e w' => e = .returned (.int .i64 k43) ∧ x = w') := fun x hx => by have h := r8At_any a1 n1 c1 y1 w0.heap.size x hx 43 5 (by omega) (by omega) (by omega) hm1; rw [show r8v y1 43 5 = (k43 : Int) from e43] at h; exact h
  have A44 : Hid (∀ x : World, SlY x w0.heap.size a1 n1 y1 → Calls Try.prog 8 #[.slice a1 n1 c1, .int .i64 44, .int .i64 5] x fun e w' => e = .returned (.int .i64 k44) ∧ x = w') := fun x hx => by have h := r8At_any a1 n1 c1 y1 w0.heap.size x hx 44 5 (by omega) (by omega) (by omega) hm1; rw [show r8v y1 44 5 = (k44 : Int) from e44] at h; exact h
  have A45 : Hid (∀ x : World, SlY x w0.heap.size a1 n1 y1 → Calls Try.prog 8 #[.slice a1 n1 c1, .int .i64 45, .int .i64 9] x fun e w' => e = .returned (.int .i64 k45) ∧ x = w') := fun x hx => by have h := r8At_any a1 n1 c1 y1 w0.heap.size x hx 45 9 (by omega) (by omega) (by omega) hm1; rw [show r8v y1 45 9 = (k45 : Int) from e45] at h; exact h
  clear e40 e41 e42 e43 e44 e45
  obtain ⟨t, ht⟩ : ∃ t, t = k40 + 1 := ⟨_, rfl⟩
  have W40 : IntKind.i64.wrap (1 + (k40 : Int)) = (t : Int) := by rw [IntWalk.i64_in _ (by omega)]; omega
  obtain ⟨s, hs⟩ : ∃ t, t = k41 + 1 := ⟨_, rfl⟩
  have W41 : IntKind.i64.wrap (1 + (k41 : Int)) = (s : Int) := by rw [IntWalk.i64_in _ (by omega)]; omega
  obtain ⟨sa, hsa⟩ : ∃ t, t = k43 + 1 := ⟨_, rfl⟩
  have W43 : IntKind.i64.wrap (1 + (k43 : Int)) = (sa : Int) := by rw [IntWalk.i64_in _ (by omega)]; omega
  obtain ⟨sb, hsb⟩ : ∃ t, t = k44 + 1 := ⟨_, rfl⟩
  have W44 : IntKind.i64.wrap (1 + (k44 : Int)) = (sb : Int) := by rw [IntWalk.i64_in _ (by omega)]; omega
  have bt : 1 ≤ t ∧ t ≤ 3 := by omega
  have bs : 1 ≤ s ∧ s ≤ 4 := by omega
  have bsa : 1 ≤ sa ∧ sa ≤ 5 := by omega
  have bsb : 1 ≤ sb ∧ sb ≤ 5 := by omega
  have L42 : Hid (k42 ≤ 7) := by show _ ≤ _; omega
  have L45 : Hid (k45 ≤ 8) := by show _ ≤ _; omega
  have BT := Lib.hid bt; have BS := Lib.hid bs; have BSA := Lib.hid bsa; have BSB := Lib.hid bsb
  have BT4 : Hid (1 ≤ t ∧ t ≤ 4) := ⟨bt.1, by omega⟩
  clear ht hs hsa hsb l40 l41 l42 l43 l44 l45 bt bs bsa bsb
  have M0 := Lib.hid hm0; have M1 := Lib.hid hm1
  clear hm0 hm1
  go_enter Try.func3, Try.ntmps3
  go_wp2_with fail
  refine hN.mono ?_
  rintro e w' ⟨rfl, hw⟩
  obtain rfl := hw
  clear hN
  go_wp2_with fail
  refine (A40.out w0 HY1.out).mono ?_
  rintro e w' ⟨rfl, hw⟩
  obtain rfl := hw
  clear A40
  go_wp2_with fail
  refine (A41.out w0 HY1.out).mono ?_
  rintro e w' ⟨rfl, hw⟩
  obtain rfl := hw
  clear A41
  go_wp2_with fail
  refine (r8Machine_any w0 a0 n0 c0 y0 HY0.out M0.out s t BS.out.1 (by have := BS.out.2; omega) BT.out.1 BT4.out.2 true).mono ?_
  rintro e w1 ⟨L, P, E, p2, p3, p4, c2, c3, c4, hD, rfl, g2, g3, g4, hb1⟩
  have HD := Lib.hid hD; clear hD W40 W41
  have HA_ := Mb'.new (c2 := c2) (c3 := c3) (c4 := c4) (S := (s : Int)) (T := (t : Int)) g2 g3 g4
  obtain ⟨gA, hg⟩ : ∃ x, x = w1.heap.size := ⟨_, rfl⟩
  obtain ⟨w2, hw⟩ : ∃ x, x = w1.alloc (.cells ([.int .i64 (s : Int), .int .i64 (t : Int), .slice (some ⟨p2, 0, none⟩) L.length c2, .slice (some ⟨p3, 0, none⟩) P.length c3, .slice (some ⟨p4, 0, none⟩) E.length c4] : List Value).toArray 28) := ⟨_, rfl⟩
  have hb2 : Below w1.heap.size w1 (w1.alloc (.cells ([.int .i64 (s : Int), .int .i64 (t : Int), .slice (some ⟨p2, 0, none⟩) L.length c2, .slice (some ⟨p3, 0, none⟩) P.length c3, .slice (some ⟨p4, 0, none⟩) E.length c4] : List Value).toArray 28)) := (Below.refl _ _).alloc (Nat.le_refl _) _
  rw [← hw, ← hg] at HA_
  rw [← hw] at hb2
  have HA := Lib.hid HA_; clear HA_
  clear g2 g3 g4
  go_wp2_with fail
  change Calls _ _ _ (w1.alloc (.cells ([.int .i64 (s : Int), .int .i64 (t : Int), .slice (some ⟨p2, 0, none⟩) L.length c2, .slice (some ⟨p3, 0, none⟩) P.length c3, .slice (some ⟨p4, 0, none⟩) E.length c4] : List Value).toArray 28)) _
  rw [← hw]
  try rw [← hg]
  clear hw hg
  have s0_2 : Below w0.heap.size w0 w2 := hb1.trans (hb2.mono hb1.size)
  refine (A42.out w2 (HY1.out.below s0_2 (Nat.le_refl _))).mono ?_
  rintro e w' ⟨rfl, hw⟩
  obtain rfl := hw
  clear A42
  go_wp2_with fail
  refine (r8Word_any w2 a1 n1 c1 y1 ((HY1.out.below s0_2 (Nat.le_refl _)).more s0_2.size) M1.out k42 t (by have := L42.out; omega) BT.out.1 BT4.out.2).mono ?_
  rintro e w3 ⟨xs, gw, d, hxl, hxr, rfl, hrw, hb3⟩
  have HXL := Lib.hid hxl; have HW := Lib.hid hrw
  obtain ⟨zs, hzs⟩ : ∃ z, z = xs.map Int.toNat := ⟨_, rfl⟩
  have hz := natW_of hxr
  rw [← hzs] at hz
  have HZ := Lib.hid hz.1; have HZL := Lib.hid hz.2
  have HX12 : Hid (xs.length ≤ 12) := by show _ ≤ _; rw [hxl]; have := L42.out; omega
  have HZ12 : Hid (zs.length ≤ 12) := by show _ ≤ _; rw [hzs, List.length_map]; exact HX12.out
  have HWB : Hid (wordB xs t = true) := wordB_mkp BT.out.1 BT4.out.2 HX12.out hxr
  have HV1 : Hid (vmB s t L P E = true) := HD.out.vm BS.out.1 (by have := BS.out.2; omega) BT.out.1 BT4.out.2
  obtain ⟨r, hr⟩ : ∃ r, r = cst L P E xs := ⟨_, rfl⟩
  have HRE := Lib.hid hr
  clear hxl hxr hrw hzs hz hr
  have r_ := ((HA.out.below hb3 (Nat.le_refl _))).1
  have HAc0 := r_.cell 0; have HAc1 := r_.cell 1; have HAc2 := r_.cell 2; have HAc3 := r_.cell 3; have HAc4 := r_.cell 4
  clear r_
  obtain ⟨-, h2, h3, h4⟩ := (HA.out.below hb3 (Nat.le_refl _))
  go_wp2_with fail
  clear HAc0 HAc1 HAc2 HAc3 HAc4
  refine (fPlain c2 c3 c4 h2 h3 h4 HV1.out HD.out.np BS.out.2 BT4.out).mono ?_
  rintro e w4 ⟨N, B2, b2, B3, b3, P', E', rfl, hN16, hok, hrd, hb4⟩
  clear h2 h3 h4
  obtain ⟨rd, hrdE⟩ : ∃ b, b = rdP t P' E' zs := ⟨_, rfl⟩
  have HRD : Hid (decide (0 ≤ r) = rd) := by
    show _ = _
    rw [hrdE, hrd zs HZL.out HZ12.out, HZ.out, HRE.out]
  have HRDE := Lib.hid hrdE
  have HN16 : Hid ((N : Int) ≤ 16) := by show _ ≤ _; omega
  clear hrd hrdE hN16
  have HP_ := Px.new (c2 := b2) (c3 := b3) hok
  obtain ⟨gP, hg⟩ : ∃ x, x = w4.heap.size := ⟨_, rfl⟩
  obtain ⟨w5, hw⟩ : ∃ x, x = w4.alloc (.cells ([.int .i64 (N : Int), .int .i64 (t : Int), .slice B2 P'.length b2, .slice B3 E'.length b3] : List Value).toArray 33) := ⟨_, rfl⟩
  have hb5 : Below w4.heap.size w4 (w4.alloc (.cells ([.int .i64 (N : Int), .int .i64 (t : Int), .slice B2 P'.length b2, .slice B3 E'.length b3] : List Value).toArray 33)) := (Below.refl _ _).alloc (Nat.le_refl _) _
  rw [← hw, ← hg] at HP_
  rw [← hw] at hb5
  have HP := Lib.hid HP_; clear HP_
  clear hok
  have s2_4 : Below w2.heap.size w2 w4 := hb3.trans (hb4.mono hb3.size)
  have s2_5 : Below w2.heap.size w2 w5 := s2_4.trans (hb5.mono s2_4.size)
  have r_ := ((HA.out.below s2_5 (Nat.le_refl _))).1
  have HAc0 := r_.cell 0; have HAc1 := r_.cell 1; have HAc2 := r_.cell 2; have HAc3 := r_.cell 3; have HAc4 := r_.cell 4
  clear r_
  rw [hw] at HAc0 HAc1 HAc2 HAc3 HAc4
  go_wp2_with fail
  clear HAc0 HAc1 HAc2 HAc3 HAc4
  change Calls _ _ _ (w4.alloc (.cells ([.int .i64 (N : Int), .int .i64 (t : Int), .slice B2 P'.length b2, .slice B3 E'.length b3] : List Value).toArray 33)) _
  rw [← hw]
  try rw [← hg]
  clear hw hg
  have s3_5 : Below w3.heap.size w3 w5 := hb4.trans (hb5.mono hb4.size)
  obtain ⟨-, h2, h3, h4⟩ := (HA.out.below s2_5 (Nat.le_refl _))
  refine (fCostP (s : Int) (t : Int) L P E (some ⟨p2, 0, none⟩) L.length c2 (some ⟨p3, 0, none⟩) P.length c3 (some ⟨p4, 0, none⟩) E.length c4 (some ⟨gw, 0, none⟩) k42 d xs w5 h2 h3 h4 ((RowI.keep HW.out s3_5 (Nat.le_refl _)).sl HXL.out) HV1.out HWB.out r HRE.out).mono ?_
  rintro e w6 ⟨rfl, hb6⟩
  clear h2 h3 h4
  have r_ := ((HP.out.below hb6 (Nat.le_refl _))).1
  have HPc0 := r_.cell 0; have HPc1 := r_.cell 1; have HPc2 := r_.cell 2; have HPc3 := r_.cell 3
  clear r_
  go_wp2_with fail
  clear HPc0 HPc1 HPc2 HPc3
  have s3_6 : Below w3.heap.size w3 w6 := s3_5.trans (hb6.mono s3_5.size)
  refine (fReads b2 b3 d ((HP.out.below hb6 (Nat.le_refl _))).2 ((RowI.keep HW.out s3_6 (Nat.le_refl _)).sl HXL.out) zs HZ.out HZL.out HX12.out rd HRDE.out.symm).mono ?_
  rintro e w7 ⟨rfl, hb7⟩
  have s5_7 : Below w5.heap.size w5 w7 := hb6.trans (hb7.mono hb6.size)
  have r_ := ((HP.out.below s5_7 (Nat.le_refl _))).1
  have HPc0 := r_.cell 0; have HPc1 := r_.cell 1; have HPc2 := r_.cell 2; have HPc3 := r_.cell 3
  clear r_
  go_wp2_with fail
  clear HPc0 HPc1 HPc2 HPc3
  refine (fOther b2 b3 ((HP.out.below s5_7 (Nat.le_refl _))).2).mono ?_
  rintro e w8 ⟨O2, o2, O3, o3, E2, rfl, HE2, hok, hb8⟩
  have HOR : Hid (rdP t P' E2 zs = !rd) := by
    have h := ((HP.out.below s5_7 (Nat.le_refl _))).2
    show _ = _
    rw [HE2.out, HRDE.out, rd_other h.hn h.h2.len h.hP (by have := h.hS; omega) (by rw [h.h3.len, h.hE]) HZL.out]
  have HO_ := Px.new (c2 := o2) (c3 := o3) hok
  obtain ⟨gO, hg⟩ : ∃ x, x = w8.heap.size := ⟨_, rfl⟩
  obtain ⟨w9, hw⟩ : ∃ x, x = w8.alloc (.cells ([.int .i64 (N : Int), .int .i64 (t : Int), .slice O2 P'.length o2, .slice O3 E2.length o3] : List Value).toArray 33) := ⟨_, rfl⟩
  have hb9 : Below w8.heap.size w8 (w8.alloc (.cells ([.int .i64 (N : Int), .int .i64 (t : Int), .slice O2 P'.length o2, .slice O3 E2.length o3] : List Value).toArray 33)) := (Below.refl _ _).alloc (Nat.le_refl _) _
  rw [← hw, ← hg] at HO_
  rw [← hw] at hb9
  have HO := Lib.hid HO_; clear HO_
  clear hok
  have r_ := (HO.out).1
  have HOc0 := r_.cell 0; have HOc1 := r_.cell 1; have HOc2 := r_.cell 2; have HOc3 := r_.cell 3
  clear r_
  rw [hw] at HOc0 HOc1 HOc2 HOc3
  try rw [hg] at HOc0 HOc1 HOc2 HOc3
  go_wp2_with fail
  clear HOc0 HOc1 HOc2 HOc3
  change Calls _ _ _ (w8.alloc (.cells ([.int .i64 (N : Int), .int .i64 (t : Int), .slice O2 P'.length o2, .slice O3 E2.length o3] : List Value).toArray 33)) _
  rw [← hw]
  try rw [← hg]
  clear hw hg
  have s3_7 : Below w3.heap.size w3 w7 := s3_6.trans (hb7.mono s3_6.size)
  have s3_8 : Below w3.heap.size w3 w8 := s3_7.trans (hb8.mono s3_7.size)
  have s3_9 : Below w3.heap.size w3 w9 := s3_8.trans (hb9.mono s3_8.size)
  refine (fReads o2 o3 d HO.out.2 ((RowI.keep HW.out s3_9 (Nat.le_refl _)).sl HXL.out) zs HZ.out HZL.out HX12.out (!rd) HOR.out).mono ?_
  rintro e w10 ⟨rfl, hb10⟩
  have s5_8 : Below w5.heap.size w5 w8 := s5_7.trans (hb8.mono s5_7.size)
  have s5_9 : Below w5.heap.size w5 w9 := s5_8.trans (hb9.mono s5_8.size)
  have s5_10 : Below w5.heap.size w5 w10 := s5_9.trans (hb10.mono s5_9.size)
  have HPc0 := ((HP.out.below s5_10 (Nat.le_refl _))).1.cell 0
  have hrd := HRD.out; have hn16 := HN16.out
  go_wp2_with fail
  clear hrd hn16 HPc0
  have s0_3 : Below w0.heap.size w0 w3 := s0_2.trans (hb3.mono s0_2.size)
  have s0_4 : Below w0.heap.size w0 w4 := s0_3.trans (hb4.mono s0_3.size)
  have s0_5 : Below w0.heap.size w0 w5 := s0_4.trans (hb5.mono s0_4.size)
  have s0_6 : Below w0.heap.size w0 w6 := s0_5.trans (hb6.mono s0_5.size)
  have s0_7 : Below w0.heap.size w0 w7 := s0_6.trans (hb7.mono s0_6.size)
  have s0_8 : Below w0.heap.size w0 w8 := s0_7.trans (hb8.mono s0_7.size)
  have s0_9 : Below w0.heap.size w0 w9 := s0_8.trans (hb9.mono s0_8.size)
  have s0_10 : Below w0.heap.size w0 w10 := s0_9.trans (hb10.mono s0_9.size)
  refine (A43.out w10 (HY1.out.below s0_10 (Nat.le_refl _))).mono ?_
  rintro e w' ⟨rfl, hw⟩
  obtain rfl := hw
  clear A43
  go_wp2_with fail
  refine (r8Plain_any w10 a0 n0 c0 y0 ((HY0.out.below s0_10 (Nat.le_refl _)).more s0_10.size) M0.out sa t BSA.out.1 (by have := BSA.out.2; omega) BT.out.1 BT4.out.2).mono ?_
  rintro e w11 ⟨Pa, Ea, u2, u3, f2, f3, hl1, hb1', hl2, rfl, g2, g3, hb11⟩
  clear W43
  have HPa_ := Px.new (c2 := f2) (c3 := f3) (PlOk.mk g2 g3 (⟨BSA.out.1, by have := BSA.out.2; omega⟩) BT4.out hl1 hb1' hl2)
  obtain ⟨ga, hg⟩ : ∃ x, x = w11.heap.size := ⟨_, rfl⟩
  obtain ⟨w12, hw⟩ : ∃ x, x = w11.alloc (.cells ([.int .i64 (sa : Int), .int .i64 (t : Int), .slice (some ⟨u2, 0, none⟩) Pa.length f2, .slice (some ⟨u3, 0, none⟩) Ea.length f3] : List Value).toArray 33) := ⟨_, rfl⟩
  have hb12 : Below w11.heap.size w11 (w11.alloc (.cells ([.int .i64 (sa : Int), .int .i64 (t : Int), .slice (some ⟨u2, 0, none⟩) Pa.length f2, .slice (some ⟨u3, 0, none⟩) Ea.length f3] : List Value).toArray 33)) := (Below.refl _ _).alloc (Nat.le_refl _) _
  rw [← hw, ← hg] at HPa_
  rw [← hw] at hb12
  have HPa := Lib.hid HPa_; clear HPa_
  clear g2 g3 hl1 hb1' hl2
  go_wp2_with fail
  change Calls _ _ _ (w11.alloc (.cells ([.int .i64 (sa : Int), .int .i64 (t : Int), .slice (some ⟨u2, 0, none⟩) Pa.length f2, .slice (some ⟨u3, 0, none⟩) Ea.length f3] : List Value).toArray 33)) _
  rw [← hw]
  try rw [← hg]
  clear hw hg
  have s0_11 : Below w0.heap.size w0 w11 := s0_10.trans (hb11.mono s0_10.size)
  have s0_12 : Below w0.heap.size w0 w12 := s0_11.trans (hb12.mono s0_11.size)
  refine (A44.out w12 (HY1.out.below s0_12 (Nat.le_refl _))).mono ?_
  rintro e w' ⟨rfl, hw⟩
  obtain rfl := hw
  clear A44
  go_wp2_with fail
  refine (r8Plain_any w12 a1 n1 c1 y1 ((HY1.out.below s0_12 (Nat.le_refl _)).more s0_12.size) M1.out sb t BSB.out.1 (by have := BSB.out.2; omega) BT.out.1 BT4.out.2).mono ?_
  rintro e w13 ⟨Pb, Eb, v2, v3, h2, h3, hl1, hb1', hl2, rfl, g2, g3, hb13⟩
  clear W44
  have HPb_ := Px.new (c2 := h2) (c3 := h3) (PlOk.mk g2 g3 (⟨BSB.out.1, by have := BSB.out.2; omega⟩) BT4.out hl1 hb1' hl2)
  obtain ⟨gb, hg⟩ : ∃ x, x = w13.heap.size := ⟨_, rfl⟩
  obtain ⟨w14, hw⟩ : ∃ x, x = w13.alloc (.cells ([.int .i64 (sb : Int), .int .i64 (t : Int), .slice (some ⟨v2, 0, none⟩) Pb.length h2, .slice (some ⟨v3, 0, none⟩) Eb.length h3] : List Value).toArray 33) := ⟨_, rfl⟩
  have hb14 : Below w13.heap.size w13 (w13.alloc (.cells ([.int .i64 (sb : Int), .int .i64 (t : Int), .slice (some ⟨v2, 0, none⟩) Pb.length h2, .slice (some ⟨v3, 0, none⟩) Eb.length h3] : List Value).toArray 33)) := (Below.refl _ _).alloc (Nat.le_refl _) _
  rw [← hw, ← hg] at HPb_
  rw [← hw] at hb14
  have HPb := Lib.hid HPb_; clear HPb_
  clear g2 g3 hl1 hb1' hl2
  have s12_14 : Below w12.heap.size w12 w14 := hb13.trans (hb14.mono hb13.size)
  have r_ := ((HPa.out.below s12_14 (Nat.le_refl _))).1
  have HPac0 := r_.cell 0; have HPac1 := r_.cell 1; have HPac2 := r_.cell 2; have HPac3 := r_.cell 3
  clear r_
  have r_ := (HPb.out).1
  have HPbc0 := r_.cell 0; have HPbc1 := r_.cell 1; have HPbc2 := r_.cell 2; have HPbc3 := r_.cell 3
  clear r_
  rw [hw] at HPac0 HPac1 HPac2 HPac3 HPbc0 HPbc1 HPbc2 HPbc3
  try rw [hg] at HPbc0 HPbc1 HPbc2 HPbc3
  go_wp2_with fail
  clear HPac0 HPac1 HPac2 HPac3
  clear HPbc0 HPbc1 HPbc2 HPbc3
  change Calls _ _ _ (w13.alloc (.cells ([.int .i64 (sb : Int), .int .i64 (t : Int), .slice (some ⟨v2, 0, none⟩) Pb.length h2, .slice (some ⟨v3, 0, none⟩) Eb.length h3] : List Value).toArray 33)) _
  rw [← hw]
  try rw [← hg]
  clear hw hg
  refine (fMeetP f2 f3 h2 h3 ((HPa.out.below s12_14 (Nat.le_refl _))).2 HPb.out.2 (by have := BSA.out.2; omega) (by have := BSB.out.2; omega)).mono ?_
  rintro e w15 ⟨M, C2, e2, C3, e3, Pm, Em, rfl, hok, hrm, hb15⟩
  obtain ⟨ra, hra⟩ : ∃ b, b = rdP t Pa Ea zs := ⟨_, rfl⟩
  obtain ⟨rb, hrb⟩ : ∃ b, b = rdP t Pb Eb zs := ⟨_, rfl⟩
  have HRA := Lib.hid hra; have HRB := Lib.hid hrb
  have HRM : Hid (rdP t Pm Em zs = (ra && rb)) := by show _ = _; rw [hrm zs HZL.out, hra, hrb]
  clear hra hrb hrm
  have HPm_ := Px.new (c2 := e2) (c3 := e3) hok
  obtain ⟨gm, hg⟩ : ∃ x, x = w15.heap.size := ⟨_, rfl⟩
  obtain ⟨w16, hw⟩ : ∃ x, x = w15.alloc (.cells ([.int .i64 (M : Int), .int .i64 (t : Int), .slice C2 Pm.length e2, .slice C3 Em.length e3] : List Value).toArray 33) := ⟨_, rfl⟩
  have hb16 : Below w15.heap.size w15 (w15.alloc (.cells ([.int .i64 (M : Int), .int .i64 (t : Int), .slice C2 Pm.length e2, .slice C3 Em.length e3] : List Value).toArray 33)) := (Below.refl _ _).alloc (Nat.le_refl _) _
  rw [← hw, ← hg] at HPm_
  rw [← hw] at hb16
  have HPm := Lib.hid HPm_; clear HPm_
  clear hok
  have s12_15 : Below w12.heap.size w12 w15 := s12_14.trans (hb15.mono s12_14.size)
  have s12_16 : Below w12.heap.size w12 w16 := s12_15.trans (hb16.mono s12_15.size)
  have r_ := ((HPa.out.below s12_16 (Nat.le_refl _))).1
  have HPac0 := r_.cell 0; have HPac1 := r_.cell 1; have HPac2 := r_.cell 2; have HPac3 := r_.cell 3
  clear r_
  rw [hw] at HPac0 HPac1 HPac2 HPac3
  go_wp2_with fail
  clear HPac0 HPac1 HPac2 HPac3
  change Calls _ _ _ (w15.alloc (.cells ([.int .i64 (M : Int), .int .i64 (t : Int), .slice C2 Pm.length e2, .slice C3 Em.length e3] : List Value).toArray 33)) _
  rw [← hw]
  try rw [← hg]
  clear hw hg
  have s3_10 : Below w3.heap.size w3 w10 := s3_9.trans (hb10.mono s3_9.size)
  have s3_11 : Below w3.heap.size w3 w11 := s3_10.trans (hb11.mono s3_10.size)
  have s3_12 : Below w3.heap.size w3 w12 := s3_11.trans (hb12.mono s3_11.size)
  have s3_13 : Below w3.heap.size w3 w13 := s3_12.trans (hb13.mono s3_12.size)
  have s3_14 : Below w3.heap.size w3 w14 := s3_13.trans (hb14.mono s3_13.size)
  have s3_15 : Below w3.heap.size w3 w15 := s3_14.trans (hb15.mono s3_14.size)
  have s3_16 : Below w3.heap.size w3 w16 := s3_15.trans (hb16.mono s3_15.size)
  refine (fReads f2 f3 d ((HPa.out.below s12_16 (Nat.le_refl _))).2 ((RowI.keep HW.out s3_16 (Nat.le_refl _)).sl HXL.out) zs HZ.out HZL.out HX12.out ra HRA.out.symm).mono ?_
  rintro e w17 ⟨rfl, hb17⟩
  have s14_16 : Below w14.heap.size w14 w16 := hb15.trans (hb16.mono hb15.size)
  have s14_17 : Below w14.heap.size w14 w17 := s14_16.trans (hb17.mono s14_16.size)
  have r_ := ((HPb.out.below s14_17 (Nat.le_refl _))).1
  have HPbc0 := r_.cell 0; have HPbc1 := r_.cell 1; have HPbc2 := r_.cell 2; have HPbc3 := r_.cell 3
  clear r_
  go_wp2_with fail
  clear HPbc0 HPbc1 HPbc2 HPbc3
  have s3_17 : Below w3.heap.size w3 w17 := s3_16.trans (hb17.mono s3_16.size)
  refine (fReads h2 h3 d ((HPb.out.below s14_17 (Nat.le_refl _))).2 ((RowI.keep HW.out s3_17 (Nat.le_refl _)).sl HXL.out) zs HZ.out HZL.out HX12.out rb HRB.out.symm).mono ?_
  rintro e w18 ⟨rfl, hb18⟩
  have s16_18 : Below w16.heap.size w16 w18 := hb17.trans (hb18.mono hb17.size)
  have r_ := ((HPm.out.below s16_18 (Nat.le_refl _))).1
  have HPmc0 := r_.cell 0; have HPmc1 := r_.cell 1; have HPmc2 := r_.cell 2; have HPmc3 := r_.cell 3
  clear r_
  go_wp2_with fail
  clear HPmc0 HPmc1 HPmc2 HPmc3
  have s3_18 : Below w3.heap.size w3 w18 := s3_17.trans (hb18.mono s3_17.size)
  refine (fReads e2 e3 d ((HPm.out.below s16_18 (Nat.le_refl _))).2 ((RowI.keep HW.out s3_18 (Nat.le_refl _)).sl HXL.out) zs HZ.out HZL.out HX12.out (ra && rb) HRM.out).mono ?_
  rintro e w19 ⟨rfl, hb19⟩
  go_upto_region 19 with fail
  go_cut [22, 24, 26, 140, 143, 144, 146, 149, 150, 152, 155, 156, 179] from 158 to 178 (fun u1 u2 u3 u4 u5 u6 u7 u8 u9 v1 v2 v3 b wx => b = .bool false ∧ Hid (w19 = wx))
  case first =>
    go_wp2_with fail
    all_goals
      go_meet
      exact ⟨rfl, rfl⟩
  case rest =>
  obtain ⟨rfl, hcw⟩ := hcut
  obtain rfl := hcw.out
  clear hcw
  go_wp2_with fail
  have s0_13 : Below w0.heap.size w0 w13 := s0_12.trans (hb13.mono s0_12.size)
  have s0_14 : Below w0.heap.size w0 w14 := s0_13.trans (hb14.mono s0_13.size)
  have s0_15 : Below w0.heap.size w0 w15 := s0_14.trans (hb15.mono s0_14.size)
  have s0_16 : Below w0.heap.size w0 w16 := s0_15.trans (hb16.mono s0_15.size)
  have s0_17 : Below w0.heap.size w0 w17 := s0_16.trans (hb17.mono s0_16.size)
  have s0_18 : Below w0.heap.size w0 w18 := s0_17.trans (hb18.mono s0_17.size)
  have s0_19 : Below w0.heap.size w0 w19 := s0_18.trans (hb19.mono s0_18.size)
  refine (A45.out w19 (HY1.out.below s0_19 (Nat.le_refl _))).mono ?_
  rintro e w' ⟨rfl, hw⟩
  obtain rfl := hw
  clear A45
  have s12_17 : Below w12.heap.size w12 w17 := s12_16.trans (hb17.mono s12_16.size)
  have s12_18 : Below w12.heap.size w12 w18 := s12_17.trans (hb18.mono s12_17.size)
  have s12_19 : Below w12.heap.size w12 w19 := s12_18.trans (hb19.mono s12_18.size)
  have r_ := ((HPa.out.below s12_19 (Nat.le_refl _))).1
  have HPac0 := r_.cell 0; have HPac1 := r_.cell 1; have HPac2 := r_.cell 2; have HPac3 := r_.cell 3
  clear r_
  go_wp2_with fail
  clear HPac0 HPac1 HPac2 HPac3
  have BA := Lib.hid ((HPa.out.below s12_19 (Nat.le_refl _))).2
  obtain ⟨cn, hcn⟩ : ∃ x, x = cwS Ea (cuN (plT t Pa) sa t k45) sa := ⟨_, rfl⟩
  have CA := Lib.hid (iCount_any sa t (some ⟨u2, 0, none⟩) Pa.length f2 (some ⟨u3, 0, none⟩) Ea.length f3 Pa Ea k45 w19 BA.out (by have := L45.out; omega))
  rw [← hcn] at CA
  have HCN := Lib.hid hcn
  clear hcn
  refine CA.out.mono ?_
  rintro e w20 ⟨rfl, hb20⟩
  clear CA
  have s12_20 : Below w12.heap.size w12 w20 := s12_19.trans (hb20.mono s12_19.size)
  have r_ := ((HPa.out.below s12_20 (Nat.le_refl _))).1
  have HPac0 := r_.cell 0; have HPac1 := r_.cell 1; have HPac2 := r_.cell 2; have HPac3 := r_.cell 3
  clear r_
  go_wp2_with fail
  clear HPac0 HPac1 HPac2 HPac3
  refine (fOther f2 f3 ((HPa.out.below s12_20 (Nat.le_refl _))).2).mono ?_
  rintro e w21 ⟨X2, x2, X3, x3, Eo, rfl, HEO, hok, hb21⟩
  have HPo_ := Px.new (c2 := x2) (c3 := x3) hok
  obtain ⟨go, hg⟩ : ∃ x, x = w21.heap.size := ⟨_, rfl⟩
  obtain ⟨w22, hw⟩ : ∃ x, x = w21.alloc (.cells ([.int .i64 (sa : Int), .int .i64 (t : Int), .slice X2 Pa.length x2, .slice X3 Eo.length x3] : List Value).toArray 33) := ⟨_, rfl⟩
  have hb22 : Below w21.heap.size w21 (w21.alloc (.cells ([.int .i64 (sa : Int), .int .i64 (t : Int), .slice X2 Pa.length x2, .slice X3 Eo.length x3] : List Value).toArray 33)) := (Below.refl _ _).alloc (Nat.le_refl _) _
  rw [← hw, ← hg] at HPo_
  rw [← hw] at hb22
  have HPo := Lib.hid HPo_; clear HPo_
  clear hok
  have r_ := (HPo.out).1
  have HPoc0 := r_.cell 0; have HPoc1 := r_.cell 1; have HPoc2 := r_.cell 2; have HPoc3 := r_.cell 3
  clear r_
  rw [hw] at HPoc0 HPoc1 HPoc2 HPoc3
  try rw [hg] at HPoc0 HPoc1 HPoc2 HPoc3
  go_wp2_with fail
  clear HPoc0 HPoc1 HPoc2 HPoc3
  change Calls _ _ _ (w21.alloc (.cells ([.int .i64 (sa : Int), .int .i64 (t : Int), .slice X2 Pa.length x2, .slice X3 Eo.length x3] : List Value).toArray 33)) _
  rw [← hw]
  try rw [← hg]
  clear hw hg
  obtain ⟨ck, hck⟩ : ∃ x, x = cwS Eo (cuN (plT t Pa) sa t k45) sa := ⟨_, rfl⟩
  have CO := Lib.hid (iCount_any sa t X2 Pa.length x2 X3 Eo.length x3 Pa Eo k45 w22 HPo.out.2 (by have := L45.out; omega))
  rw [← hck] at CO
  have HSUM : Hid (cn + ck = ((t ^ k45 : Nat) : Int)) := by
    have h := BA.out
    show _ = _
    rw [hck, HCN.out, HEO.out]
    exact cw_all h.hn h.h2.len h.hP (by have := h.hS; omega) (by rw [h.h3.len, h.hE]) k45
  have HPOS : Hid (0 ≤ cn ∧ (0 < cn ↔ ∃ ys : List Nat, ys.length = k45 ∧ (∀ y ∈ ys, y < t) ∧ rdP t Pa Ea ys = true)) := by
    have h := BA.out
    rw [HCN.out]
    exact cw_reads h.hn h.h2.len h.hP (by have := h.hS; omega) k45
  clear hck
  refine CO.out.mono ?_
  rintro e w23 ⟨rfl, hb23⟩
  clear CO
  go_wp2_with fail
  go_loopg [35, 36] k45 (fun m al i wr => ∃ j : Nat, al = .int .i64 ((t ^ j : Nat) : Int) ∧ i = .int .i64 (j : Int) ∧ j ≤ k45 ∧ k45 ≤ m + j ∧ Hid (w23 = wr))
  case atStart => exact ⟨0, rfl, rfl, by omega, by omega, rfl⟩
  case round =>
    obtain ⟨j, rfl, rfl, hj, hm, hwr⟩ := hrel
    obtain rfl := hwr.out
    clear hwr
    by_cases hlt : j < k45
    · have q1 : (j : Int) < (k45 : Int) := by omega
      obtain ⟨pw, hpw⟩ : ∃ x, x = t ^ j := ⟨_, rfl⟩
      have hps : pw * t ≤ 6561 := by rw [hpw, ← Nat.pow_succ]; exact pow_small BT.out.2 (by have := L45.out; omega)
      have HPN : Hid (pw * t = t ^ (j + 1)) := by show _ = _; rw [hpw, Nat.pow_succ]
      have wp : IntKind.i64.wrap ((pw : Int) * (t : Int)) = ((pw * t : Nat) : Int) := by rw [← Int.natCast_mul]; exact IntWalk.i64_in _ (by omega)
      have wj : IntKind.i64.wrap ((j : Int) + 1) = (j : Int) + 1 := IntWalk.i64_in _ (by have := L45.out; omega)
      rw [← hpw]
      clear hpw hps
      go_wp2_with fail
      go_roundg (gk - 1)
      case measure => omega
      case rel => exact ⟨j + 1, by rw [← HPN.out, Int.natCast_mul], by go_num, by omega, by omega, rfl⟩
    · have hjk : j = k45 := by omega
      subst hjk
      have hsum := HSUM.out
      have hp0 := HPOS.out.1
      obtain ⟨al, hal⟩ : ∃ x : Int, x = ((t ^ j : Nat) : Int) := ⟨_, rfl⟩
      rw [← hal] at hsum ⊢
      have hsm : al ≤ 6561 := by rw [hal]; have := pow_small BT.out.2 (l := j) (by have := L45.out; omega); omega
      have ws : IntKind.i64.wrap (cn + ck) = al := by rw [hsum]; exact IntWalk.i64_in _ (by omega)
      have hcn0 : ¬ cn < 0 := by omega
      clear hlt hal hsm hsum
      go_upto_region 30 with fail
      have s12_21 : Below w12.heap.size w12 w21 := s12_20.trans (hb21.mono s12_20.size)
      have s12_22 : Below w12.heap.size w12 w22 := s12_21.trans (hb22.mono s12_21.size)
      have s12_23 : Below w12.heap.size w12 w23 := s12_22.trans (hb23.mono s12_22.size)
      have r_ := ((HPa.out.below s12_23 (Nat.le_refl _))).1
      have HPac0 := r_.cell 0; have HPac1 := r_.cell 1; have HPac2 := r_.cell 2; have HPac3 := r_.cell 3
      clear r_
      have s0_20 : Below w0.heap.size w0 w20 := s0_19.trans (hb20.mono s0_19.size)
      have s0_21 : Below w0.heap.size w0 w21 := s0_20.trans (hb21.mono s0_20.size)
      have s0_22 : Below w0.heap.size w0 w22 := s0_21.trans (hb22.mono s0_21.size)
      have s0_23 : Below w0.heap.size w0 w23 := s0_22.trans (hb23.mono s0_22.size)
      obtain ⟨rf, hrf⟩ : ∃ x, x = faAll (plX t Pa (List.replicate t 0)) (plD Ea [false]) (0, 0) t := ⟨_, rfl⟩
      have CF := Lib.hid (iFirstW_any sa t (some ⟨u2, 0, none⟩) Pa.length f2 (some ⟨u3, 0, none⟩) Ea.length f3 Pa Ea w23 ((HPa.out.below s12_23 (Nat.le_refl _))).2)
      have hfw := (fun h : PlOk w19 sa t (some ⟨u2, 0, none⟩) Pa.length (some ⟨u3, 0, none⟩) Ea.length Pa Ea => fw_law (E := Ea) h.hn h.h2.len h.hP (by have := h.hS; omega) h.hS.2) BA.out
      rw [← hrf] at CF hfw
      have HFW := Lib.hid hfw
      clear hrf hfw
      go_wp2_with fail
      clear ws hcn0
      clear HPac0 HPac1 HPac2 HPac3
      refine CF.out.mono ?_
      intro e w24 hpost
      clear CF
      cases rf with
      | none =>
        obtain ⟨hb24, rfl⟩ := hpost
        have HB24 : Hid (Below w0.heap.size w0 w24) := s0_23.trans (hb24.mono s0_23.size)
        have hz0 : cn = 0 := by
          rcases Int.lt_or_le 0 cn with q | q
          · obtain ⟨ys, y1', y2', y3'⟩ := HPOS.out.2.1 q
            have := HFW.out ys y2' (by have := L45.out; omega)
            rw [y3'] at this; cases this
          · omega
        subst hz0
        clear hb24
        go_wp2_with fail
        go_ret
        exact ⟨ret_bool (by first | rfl | simp), HB24.out⟩
      | some wd =>
        obtain ⟨hb24, AW, cw, rfl, hrw⟩ := hpost
        have HB24 : Hid (Below w0.heap.size w0 w24) := s0_23.trans (hb24.mono s0_23.size)
        obtain ⟨hw12, ⟨xf, hxf, hxl, hxr⟩, hmin⟩ := HFW.out
        have HXF := Lib.hid hxf; have HXF2 := Lib.hid hxl; have HXR := Lib.hid hxr; have HMIN := Lib.hid hmin; have HW24 := Lib.hid hrw; have HW12 := Lib.hid hw12
        clear hxf hxl hxr hmin hrw hw12 HFW
        have s12_24 : Below w12.heap.size w12 w24 := s12_23.trans (hb24.mono s12_23.size)
        have r_ := ((HPa.out.below s12_24 (Nat.le_refl _))).1
        have HPac0 := r_.cell 0; have HPac1 := r_.cell 1; have HPac2 := r_.cell 2; have HPac3 := r_.cell 3
        clear r_
        go_wp2_with fail
        clear HPac0 HPac1 HPac2 HPac3
        refine (fReads f2 f3 cw ((HPa.out.below s12_24 (Nat.le_refl _))).2 (HW24.out.sl rfl) xf HXF.out.symm HXF2.out HW12.out true HXR.out).mono ?_
        rintro e w25 ⟨rfl, hb25⟩
        have s12_25 : Below w12.heap.size w12 w25 := s12_24.trans (hb25.mono s12_24.size)
        have r_ := ((HPa.out.below s12_25 (Nat.le_refl _))).1
        have HPac0 := r_.cell 0; have HPac1 := r_.cell 1; have HPac2 := r_.cell 2; have HPac3 := r_.cell 3
        clear r_
        go_wp2_with fail
        clear HPac0 HPac1 HPac2 HPac3
        obtain ⟨cq, hcq⟩ : ∃ x, x = cwS Ea (cuN (plT t Pa) sa t wd.length) sa := ⟨_, rfl⟩
        have CQ := Lib.hid (iCount_any sa t (some ⟨u2, 0, none⟩) Pa.length f2 (some ⟨u3, 0, none⟩) Ea.length f3 Pa Ea wd.length w25 ((HPa.out.below s12_25 (Nat.le_refl _))).2 HW12.out)
        rw [← hcq] at CQ
        have hq1 : 1 ≤ cq := by
          have h := BA.out
          rw [hcq]
          exact ((cw_reads h.hn h.h2.len h.hP (by have := h.hS; omega) wd.length).2.2 ⟨xf, by rw [HXF.out]; simp [natW], HXF2.out, HXR.out⟩)
        clear hcq
        refine CQ.out.mono ?_
        rintro e w26 ⟨rfl, hb26⟩
        clear CQ
        have HB26 : Hid (Below w0.heap.size w0 w26) := HB24.out.trans ((hb25.trans (hb26.mono hb25.size)).mono HB24.out.size)
        by_cases hz0 : cn = 0
        · subst hz0
          go_wp2_with fail
          all_goals go_ret
          all_goals exact ⟨ret_bool (by first | rfl | simp), HB26.out⟩
        · have hle : wd.length ≤ j := by
            have hp := HPOS.out.1
            obtain ⟨ys, y1', y2', y3'⟩ := HPOS.out.2.1 (by omega)
            have := HMIN.out ys y2' (by have := L45.out; omega) y3'
            omega
          have hle2 : (wd.length : Int) ≤ (j : Int) := by omega
          clear hle hz0
          go_wp2_with fail
          all_goals go_ret
          all_goals exact ⟨ret_bool (by first | rfl | simp), HB26.out⟩
end Go.Proofs.Ytbdfbmohdbigfaa.fnPlains
