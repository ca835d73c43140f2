/- FnTidied: the walk: the law returns true. -/
import Derived.Test.YtkfmjnefbimecaaTdF
import Derived.Test.YtkfmjnefbimecaaTdM
import Derived.Test.YtkfmjnefbimecaaDrT
import Derived.Deep.RegionHeld3
import Derived.Deep.CutRange


namespace Go.Proofs.Ytkfmjnefbimecaa.fnTidied
open Go.RowKit
set_option linter.unusedVariables false
theorem r8v_nat (z : List Int) (k m : Nat) (h : 0 < m) : ∃ q : Nat, r8v z k (m : Int) = (q : Int) ∧ q < m := by
  have := r8v_bd (z := z) (k := k) (m := (m : Int)) (by omega)
  exact ⟨(r8v z k m).toNat, by omega, by omega⟩
theorem slI_take {w : World} {B n : Nat} {A : Option Addr} {xs : List Int} (h : SlI w B A n xs) {m : Nat} (hm : m ≤ n) : SlI w B A m (xs.take m) := by
  have := SlV.take h hm
  unfold SlI iv
  rw [List.map_take]
  exact this
set_option maxRecDepth 100000 in
set_option maxHeartbeats 40000000 in
theorem walk (a0 : Option Addr) (n0 c0 : Nat) (z0 : List Int) (a1 : Option Addr) (n1 c1 : Nat) (z1 : List Int) (w0 : World) (wf0 : IsRow .u8 w0 a0 n0 c0 z0) (wf1 : IsRow .u8 w0 a1 n1 c1 z1) :
    Calls Try.prog 3 #[.slice a0 n0 c0, .slice a1 n1 c1] w0 fun e w' => e = .returned (.bool true) ∧ Below w0.heap.size w0 w' := by
  have hl0 := wf0.lens; have hl1 := wf1.lens
  have hm0 : n0 ≤ maxLen := by omega
  have hm1 : n1 ≤ maxLen := by omega
  by_cases hlong : n0 ≤ 48 ∧ n1 ≤ 48
  case neg =>
    have hY := r8Long_yes a0 n0 c0 a1 n1 c1 w0 hm0 hm1 (by omega)
    clear hlong wf0 wf1 hl0 hl1 hm0 hm1
    go_enter Try.func3, Try.ntmps3
    go_wp2_with fail
    refine hY.mono ?_
    rintro e w' ⟨rfl, hw⟩
    obtain rfl := hw
    clear hY
    go_wp2_with fail
    go_ret
    exact ⟨rfl, Below.refl _ _⟩
  have hN := r8Long_no a0 n0 c0 a1 n1 c1 w0 hlong.1 hlong.2
  have HY0 := Lib.hid wf0.slY; have HY1 := Lib.hid wf1.slY
  obtain ⟨y0, hy0⟩ : ∃ y, y = z0.take n0 := ⟨_, rfl⟩
  obtain ⟨y1, hy1⟩ : ∃ y, y = z1.take n1 := ⟨_, rfl⟩
  rw [← hy0] at HY0
  rw [← hy1] at HY1
  clear hy0 hy1 wf0 wf1 hl0 hl1 hlong
  obtain ⟨k40, e40, l40⟩ := r8v_nat y1 40 3 (by omega)
  have A40 : Hid (∀ x : World, SlY x w0.heap.size a1 n1 y1 → Calls Try.prog 7 #[.slice a1 n1 c1, .int .i64 40, .int .i64 3] x fun e w' => e = .returned (.int .i64 k40) ∧ x = w') := fun x hx => by have h := r8At_any a1 n1 c1 y1 w0.heap.size x hx 40 3 (by omega) (by omega) (by omega) hm1; rw [show r8v y1 40 3 = (k40 : Int) from e40] at h; exact h
  obtain ⟨k41, e41, l41⟩ := r8v_nat y1 41 4 (by omega)
  have A41 : Hid (∀ x : World, SlY x w0.heap.size a1 n1 y1 → Calls Try.prog 7 #[.slice a1 n1 c1, .int .i64 41, .int .i64 4] x fun e w' => e = .returned (.int .i64 k41) ∧ x = w') := fun x hx => by have h := r8At_any a1 n1 c1 y1 w0.heap.size x hx 41 4 (by omega) (by omega) (by omega) hm1; rw [show r8v y1 41 4 = (k41 : Int) from e41] at h; exact h
  obtain ⟨m, e42, l42⟩ := r8v_nat y1 42 7 (by omega)
  have A42 : Hid (∀ x : World, SlY x w0.heap.size a1 n1 y1 → Calls Try.prog 7 #[.slice a1 n1 c1, .int .i64 42, .int .i64 7] x fun e w' => e = .returned (.int .i64 m) ∧ x = w') := fun x hx => by have h := r8At_any a1 n1 c1 y1 w0.heap.size x hx 42 7 (by omega) (by omega) (by omega) hm1; rw [show r8v y1 42 7 = (m : Int) from e42] at h; exact h
  obtain ⟨k43, e43, l43⟩ := r8v_nat y1 43 3 (by omega)
  have A43 : Hid (∀ x : World, SlY x w0.heap.size a1 n1 y1 → Calls Try.prog 7 #[.slice a1 n1 c1, .int .i64 43, .int .i64 3] x fun e w' => e = .returned (.int .i64 k43) ∧ x = w') := fun x hx => by have h := r8At_any a1 n1 c1 y1 w0.heap.size x hx 43 3 (by omega) (by omega) (by omega) hm1; rw [show r8v y1 43 3 = (k43 : Int) from e43] at h; exact h
  obtain ⟨k44, e44, l44⟩ := r8v_nat y1 44 3 (by omega)
  have A44 : Hid (∀ x : World, SlY x w0.heap.size a1 n1 y1 → Calls Try.prog 7 #[.slice a1 n1 c1, .int .i64 44, .int .i64 3] x fun e w' => e = .returned (.int .i64 k44) ∧ x = w') := fun x hx => by have h := r8At_any a1 n1 c1 y1 w0.heap.size x hx 44 3 (by omega) (by omega) (by omega) hm1; rw [show r8v y1 44 3 = (k44 : Int) from e44] at h; exact h
  clear e40 e41 e42 e43 e44
  obtain ⟨t, ht⟩ : ∃ t, t = k40 + 1 := ⟨_, rfl⟩
  obtain ⟨s, hs⟩ : ∃ s, s = k41 + 1 := ⟨_, rfl⟩
  obtain ⟨sa, hsa⟩ : ∃ s, s = k43 + 1 := ⟨_, rfl⟩
  obtain ⟨sb, hsb⟩ : ∃ s, s = k44 + 1 := ⟨_, rfl⟩
  have W40 : IntKind.i64.wrap (1 + (k40 : Int)) = (t : Int) := by rw [IntWalk.i64_in _ (by omega)]; omega
  have W41 : IntKind.i64.wrap (1 + (k41 : Int)) = (s : Int) := by rw [IntWalk.i64_in _ (by omega)]; omega
  have W43 : Hid (IntKind.i64.wrap (1 + (k43 : Int)) = (sa : Int)) := by show _ = _; rw [IntWalk.i64_in _ (by omega)]; omega
  have W44 : Hid (IntKind.i64.wrap (1 + (k44 : Int)) = (sb : Int)) := by show _ = _; rw [IntWalk.i64_in _ (by omega)]; omega
  have bt : 1 ≤ t ∧ t ≤ 3 := by omega
  have bs : 1 ≤ s ∧ s ≤ 4 := by omega
  have bsa : 1 ≤ sa ∧ sa ≤ 3 := by omega
  have bsb : 1 ≤ sb ∧ sb ≤ 3 := by omega
  have BT := Lib.hid bt; have BS := Lib.hid bs; have BSA := Lib.hid bsa; have BSB := Lib.hid bsb
  have BM : Hid (m ≤ 6) := by show _ ≤ _; omega
  clear ht hs hsa hsb l40 l41 l42 l43 l44 bt bs bsa bsb
  have M0 := Lib.hid hm0; have M1 := Lib.hid hm1
  clear hm0 hm1
  go_enter Try.func3, Try.ntmps3
  go_wp2_with fail
  refine hN.mono ?_
  rintro e w' ⟨rfl, hw⟩
  obtain rfl := hw
  clear hN
  go_wp2_with fail
  refine (A40.out w0 HY1.out).mono ?_
  rintro e w' ⟨rfl, hw⟩
  obtain rfl := hw
  clear A40
  go_wp2_with fail
  refine (A41.out w0 HY1.out).mono ?_
  rintro e w' ⟨rfl, hw⟩
  obtain rfl := hw
  clear A41
  go_wp2_with fail
  refine (r8Machine_any w0 a0 n0 c0 y0 HY0.out M0.out s t BS.out.1 (by have := BS.out.2; omega) BT.out.1 (by have := BT.out.2; omega) true).mono ?_
  rintro e w1 ⟨L, P, E, p2, p3, p4, c2, c3, c4, hD, rfl, g2, g3, g4, hb1⟩
  have HD := Lib.hid hD; clear hD
  have HA_ := Mb.new (c2 := c2) (c3 := c3) (c4 := c4) (S := (s : Int)) (T := (t : Int)) g2 g3 g4
  clear g2 g3 g4 W40 W41
  obtain ⟨gA, hg⟩ : ∃ x, x = w1.heap.size := ⟨_, rfl⟩
  obtain ⟨w2, hw⟩ : ∃ x, x = w1.alloc (.cells ([.int .i64 (s : Int), .int .i64 (t : Int), .slice (some ⟨p2, 0, none⟩) L.length c2, .slice (some ⟨p3, 0, none⟩) P.length c3, .slice (some ⟨p4, 0, none⟩) E.length c4] : List Value).toArray 28) := ⟨_, rfl⟩
  have hb2 : Below w1.heap.size w1 (w1.alloc (.cells ([.int .i64 (s : Int), .int .i64 (t : Int), .slice (some ⟨p2, 0, none⟩) L.length c2, .slice (some ⟨p3, 0, none⟩) P.length c3, .slice (some ⟨p4, 0, none⟩) E.length c4] : List Value).toArray 28)) := (Below.refl _ _).alloc (Nat.le_refl _) _
  rw [← hw, ← hg] at HA_
  rw [← hw] at hb2
  have HA := Lib.hid HA_; clear HA_
  go_wp2_with fail
  change Calls _ _ _ (w1.alloc (.cells ([.int .i64 (s : Int), .int .i64 (t : Int), .slice (some ⟨p2, 0, none⟩) L.length c2, .slice (some ⟨p3, 0, none⟩) P.length c3, .slice (some ⟨p4, 0, none⟩) E.length c4] : List Value).toArray 28)) _
  rw [← hw]
  try rw [← hg]
  clear hw hg
  have s0_2 : Below w0.heap.size w0 w2 := hb1.trans (hb2.mono hb1.size)
  refine (A42.out w2 (HY1.out.below s0_2 (Nat.le_refl _))).mono ?_
  rintro e w' ⟨rfl, hw⟩
  obtain rfl := hw
  clear A42
  go_wp2_with fail
  refine (r8Word_any w2 a1 n1 c1 y1 ((HY1.out.below s0_2 (Nat.le_refl _)).more s0_2.size) M1.out m t (by have := BM.out; omega) BT.out.1 (by have := BT.out.2; omega)).mono ?_
  rintro e w3 ⟨xs, gw, d, hxl, hxr, rfl, hrw, hb3⟩
  have HXL := Lib.hid hxl; have HXR := Lib.hid hxr; have HW := Lib.hid hrw
  clear hxl hxr hrw
  have HV1 : Hid (vmB s t L P E = true) := HD.out.vm BS.out.1 (by have := BS.out.2; omega) BT.out.1 (by have := BT.out.2; omega)
  have HOA : Hid (Okw t L P E) := okw_vm HV1.out t
  have HNP : Hid (P.length = s) := HD.out.np
  have HNE : Hid (E.length = s) := HD.out.ne
  have HWB : Hid (wordB xs t = true) := wordB_mk BT.out.1 (by have := BT.out.2; omega) (by rw [HXL.out]; have := BM.out; omega) HXR.out
  have HW12 : Hid (xs.length ≤ 12) := by show _ ≤ _; rw [HXL.out]; have := BM.out; omega
  have HX0 : Hid (∀ l ∈ xs, 0 ≤ l) := fun l h => (HXR.out l h).1
  have HVT : Hid (vmB s t (tdy L) P E = true) := vm_tdy HV1.out
  have hvw := vm_we HD.out BS.out.1 BS.out.2 BT.out.1 (by have := BT.out.2; omega)
  have HVW := Lib.hid hvw
  have hvc := vm_tdy hvw
  obtain ⟨vx, hvx⟩ : ∃ v, v = cst L P E xs := ⟨_, rfl⟩
  have HVX := Lib.hid hvx
  have HVY : Hid (vx = cst (tdy L) P E xs) := by show _ = _; rw [hvx]; exact (cst_tdy HOA.out HW12.out).symm
  have HVZ_ : vx = cst (tdy (weA 1099511627776 L P.length)) P (weE 1099511627776 L E P.length) xs := by rw [hvx]; exact (cst_we HOA.out (okw_vm hvc t) HX0.out HW12.out).symm
  obtain ⟨M, hM⟩ : ∃ M, M = tdy (weA 1099511627776 L P.length) := ⟨_, rfl⟩
  obtain ⟨EC, hEC⟩ : ∃ M, M = weE 1099511627776 L E P.length := ⟨_, rfl⟩
  rw [← hM, ← hEC] at HVZ_ hvc
  have HVZ := Lib.hid HVZ_; have HVC := Lib.hid hvc
  have HMB : Hid (∀ b ∈ M, 0 ≤ b.2.2.1) := fun b hb => by rw [hM] at hb; exact clear_ok hb
  have HM := Lib.hid hM; have HEC := Lib.hid hEC
  clear hvx HVZ_ hvw hvc hM hEC
  obtain ⟨hrHA, h2HA, h3HA, h4HA⟩ := (HA.out.below hb3 (Nat.le_refl _))
  have HAc0 := hrHA.cell 0; have HAc1 := hrHA.cell 1; have HAc2 := hrHA.cell 2; have HAc3 := hrHA.cell 3; have HAc4 := hrHA.cell 4
  clear hrHA
  go_wp2_with fail
  clear HAc0 HAc1 HAc2 HAc3 HAc4
  refine (fTidy (s : Int) (t : Int) L P E (some ⟨p2, 0, none⟩) (some ⟨p3, 0, none⟩) (some ⟨p4, 0, none⟩) c2 c3 c4 w3 (.inr ⟨_, _, rfl⟩) (.inr ⟨_, _, rfl⟩) (.inr ⟨_, _, rfl⟩) h2HA h3HA h4HA HV1.out).mono ?_
  rintro e w4 ⟨Q2, q2, Q3, q3, Q4, q4, rfl, l2Q, l3Q, l4Q, g2, g3, g4, hb4⟩
  have HT_ := Mb.new (c2 := q2) (c3 := q3) (c4 := q4) (S := (s : Int)) (T := (t : Int)) g2 g3 g4
  have L2Q := Lib.hid l2Q; have L3Q := Lib.hid l3Q; have L4Q := Lib.hid l4Q
  clear g2 g3 g4 l2Q l3Q l4Q
  obtain ⟨gT, hg⟩ : ∃ x, x = w4.heap.size := ⟨_, rfl⟩
  obtain ⟨w5, hw⟩ : ∃ x, x = w4.alloc (.cells ([.int .i64 ((s : Int)), .int .i64 ((t : Int)), .slice Q2 (tdy L).length q2, .slice Q3 P.length q3, .slice Q4 E.length q4] : List Value).toArray 28) := ⟨_, rfl⟩
  have hb5 : Below w4.heap.size w4 (w4.alloc (.cells ([.int .i64 ((s : Int)), .int .i64 ((t : Int)), .slice Q2 (tdy L).length q2, .slice Q3 P.length q3, .slice Q4 E.length q4] : List Value).toArray 28)) := (Below.refl _ _).alloc (Nat.le_refl _) _
  rw [← hw, ← hg] at HT_
  rw [← hw] at hb5
  have HT := Lib.hid HT_; clear HT_
  clear h2HA h3HA h4HA
  obtain ⟨hrHT, h2HT, h3HT, h4HT⟩ := HT.out
  have HTc0 := hrHT.cell 0; have HTc1 := hrHT.cell 1; have HTc2 := hrHT.cell 2; have HTc3 := hrHT.cell 3; have HTc4 := hrHT.cell 4
  clear hrHT
  rw [hw] at HTc0 HTc1 HTc2 HTc3 HTc4
  go_wp2_with fail
  clear HTc0 HTc1 HTc2 HTc3 HTc4
  change Calls _ _ _ (w4.alloc (.cells ([.int .i64 ((s : Int)), .int .i64 ((t : Int)), .slice Q2 (tdy L).length q2, .slice Q3 P.length q3, .slice Q4 E.length q4] : List Value).toArray 28)) _
  rw [← hw]
  try rw [← hg]
  clear hw hg
  have hT2 := fTidy (s : Int) (t : Int) (tdy L) P E Q2 Q3 Q4 q2 q3 q4 w5 L2Q.out L3Q.out L4Q.out h2HT h3HT h4HT HVT.out
  rw [tdy_idem] at hT2
  refine (hT2).mono ?_
  rintro e w6 ⟨U2, u2, U3, u3, U4, u4, rfl, l2U, l3U, l4U, g2, g3, g4, hb6⟩
  have HU_ := Mb.new (c2 := u2) (c3 := u3) (c4 := u4) (S := (s : Int)) (T := (t : Int)) g2 g3 g4
  have L2U := Lib.hid l2U; have L3U := Lib.hid l3U; have L4U := Lib.hid l4U
  clear g2 g3 g4 l2U l3U l4U
  obtain ⟨gU, hg⟩ : ∃ x, x = w6.heap.size := ⟨_, rfl⟩
  obtain ⟨w7, hw⟩ : ∃ x, x = w6.alloc (.cells ([.int .i64 ((s : Int)), .int .i64 ((t : Int)), .slice U2 (tdy L).length u2, .slice U3 P.length u3, .slice U4 E.length u4] : List Value).toArray 28) := ⟨_, rfl⟩
  have hb7 : Below w6.heap.size w6 (w6.alloc (.cells ([.int .i64 ((s : Int)), .int .i64 ((t : Int)), .slice U2 (tdy L).length u2, .slice U3 P.length u3, .slice U4 E.length u4] : List Value).toArray 28)) := (Below.refl _ _).alloc (Nat.le_refl _) _
  rw [← hw, ← hg] at HU_
  rw [← hw] at hb7
  have HU := Lib.hid HU_; clear HU_
  clear h2HT h3HT h4HT hT2
  have s2_4 : Below w2.heap.size w2 w4 := hb3.trans (hb4.mono hb3.size)
  have s2_5 : Below w2.heap.size w2 w5 := s2_4.trans (hb5.mono s2_4.size)
  have s2_6 : Below w2.heap.size w2 w6 := s2_5.trans (hb6.mono s2_5.size)
  have s2_7 : Below w2.heap.size w2 w7 := s2_6.trans (hb7.mono s2_6.size)
  obtain ⟨hrHA, h2HA, h3HA, h4HA⟩ := (HA.out.below s2_7 (Nat.le_refl _))
  have HAc0 := hrHA.cell 0; have HAc1 := hrHA.cell 1; have HAc2 := hrHA.cell 2; have HAc3 := hrHA.cell 3; have HAc4 := hrHA.cell 4
  clear hrHA
  rw [hw] at HAc0 HAc1 HAc2 HAc3 HAc4
  go_wp2_with fail
  clear HAc0 HAc1 HAc2 HAc3 HAc4
  change Calls _ _ _ (w6.alloc (.cells ([.int .i64 ((s : Int)), .int .i64 ((t : Int)), .slice U2 (tdy L).length u2, .slice U3 P.length u3, .slice U4 E.length u4] : List Value).toArray 28)) _
  rw [← hw]
  try rw [← hg]
  clear hw hg
  have hC2 := fClear s (t : Int) L P E p2 p3 p4 c2 c3 c4 w7 h2HA h3HA h4HA HV1.out HVW.out
  rw [← HM.out, ← HEC.out] at hC2
  refine (hC2).mono ?_
  rintro e w8 ⟨K2, k2, K3, k3, K4, k4, rfl, l2K, l3K, l4K, g2, g3, g4, hb8⟩
  have HC_ := Mb.new (c2 := k2) (c3 := k3) (c4 := k4) (S := (s : Int)) (T := (t : Int)) g2 g3 g4
  have L2K := Lib.hid l2K; have L3K := Lib.hid l3K; have L4K := Lib.hid l4K
  clear g2 g3 g4 l2K l3K l4K
  obtain ⟨gC, hg⟩ : ∃ x, x = w8.heap.size := ⟨_, rfl⟩
  obtain ⟨w9, hw⟩ : ∃ x, x = w8.alloc (.cells ([.int .i64 ((s : Int)), .int .i64 ((t : Int)), .slice K2 M.length k2, .slice K3 P.length k3, .slice K4 EC.length k4] : List Value).toArray 28) := ⟨_, rfl⟩
  have hb9 : Below w8.heap.size w8 (w8.alloc (.cells ([.int .i64 ((s : Int)), .int .i64 ((t : Int)), .slice K2 M.length k2, .slice K3 P.length k3, .slice K4 EC.length k4] : List Value).toArray 28)) := (Below.refl _ _).alloc (Nat.le_refl _) _
  rw [← hw, ← hg] at HC_
  rw [← hw] at hb9
  have HC := Lib.hid HC_; clear HC_
  clear h2HA h3HA h4HA hC2
  have s2_8 : Below w2.heap.size w2 w8 := s2_7.trans (hb8.mono s2_7.size)
  have s2_9 : Below w2.heap.size w2 w9 := s2_8.trans (hb9.mono s2_8.size)
  obtain ⟨hrHA, h2HA, h3HA, h4HA⟩ := (HA.out.below s2_9 (Nat.le_refl _))
  have HAc0 := hrHA.cell 0; have HAc1 := hrHA.cell 1; have HAc2 := hrHA.cell 2; have HAc3 := hrHA.cell 3; have HAc4 := hrHA.cell 4
  clear hrHA
  rw [hw] at HAc0 HAc1 HAc2 HAc3 HAc4
  go_wp2_with fail
  clear HAc0 HAc1 HAc2 HAc3 HAc4
  change Calls _ _ _ (w8.alloc (.cells ([.int .i64 ((s : Int)), .int .i64 ((t : Int)), .slice K2 M.length k2, .slice K3 P.length k3, .slice K4 EC.length k4] : List Value).toArray 28)) _
  rw [← hw]
  try rw [← hg]
  clear hw hg
  have s3_5 : Below w3.heap.size w3 w5 := hb4.trans (hb5.mono hb4.size)
  have s3_6 : Below w3.heap.size w3 w6 := s3_5.trans (hb6.mono s3_5.size)
  have s3_7 : Below w3.heap.size w3 w7 := s3_6.trans (hb7.mono s3_6.size)
  have s3_8 : Below w3.heap.size w3 w8 := s3_7.trans (hb8.mono s3_7.size)
  have s3_9 : Below w3.heap.size w3 w9 := s3_8.trans (hb9.mono s3_8.size)
  refine (fCost (s : Int) (t : Int) L P E (some ⟨p2, 0, none⟩) L.length c2 (some ⟨p3, 0, none⟩) P.length c3 (some ⟨p4, 0, none⟩) E.length c4 (some ⟨gw, 0, none⟩) m d xs w9 h2HA h3HA h4HA ((RowI.keep HW.out s3_9 (Nat.le_refl _)).sl HXL.out) HV1.out HWB.out vx HVX.out).mono ?_
  rintro e w10 ⟨rfl, hb10⟩
  clear h2HA h3HA h4HA
  have s5_7 : Below w5.heap.size w5 w7 := hb6.trans (hb7.mono hb6.size)
  have s5_8 : Below w5.heap.size w5 w8 := s5_7.trans (hb8.mono s5_7.size)
  have s5_9 : Below w5.heap.size w5 w9 := s5_8.trans (hb9.mono s5_8.size)
  have s5_10 : Below w5.heap.size w5 w10 := s5_9.trans (hb10.mono s5_9.size)
  obtain ⟨hrHT, h2HT, h3HT, h4HT⟩ := (HT.out.below s5_10 (Nat.le_refl _))
  have HTc0 := hrHT.cell 0; have HTc1 := hrHT.cell 1; have HTc2 := hrHT.cell 2; have HTc3 := hrHT.cell 3; have HTc4 := hrHT.cell 4
  clear hrHT
  go_wp2_with fail
  clear HTc0 HTc1 HTc2 HTc3 HTc4
  have s3_10 : Below w3.heap.size w3 w10 := s3_9.trans (hb10.mono s3_9.size)
  refine (fCost (s : Int) (t : Int) (tdy L) P E Q2 (tdy L).length q2 Q3 P.length q3 Q4 E.length q4 (some ⟨gw, 0, none⟩) m d xs w10 h2HT h3HT h4HT ((RowI.keep HW.out s3_10 (Nat.le_refl _)).sl HXL.out) HVT.out HWB.out vx HVY.out).mono ?_
  rintro e w11 ⟨rfl, hb11⟩
  clear h2HT h3HT h4HT
  have s9_11 : Below w9.heap.size w9 w11 := hb10.trans (hb11.mono hb10.size)
  obtain ⟨hrHC, h2HC, h3HC, h4HC⟩ := (HC.out.below s9_11 (Nat.le_refl _))
  have HCc0 := hrHC.cell 0; have HCc1 := hrHC.cell 1; have HCc2 := hrHC.cell 2; have HCc3 := hrHC.cell 3; have HCc4 := hrHC.cell 4
  clear hrHC
  go_wp2_with fail
  clear HCc0 HCc1 HCc2 HCc3 HCc4
  have s3_11 : Below w3.heap.size w3 w11 := s3_10.trans (hb11.mono s3_10.size)
  refine (fCost (s : Int) (t : Int) M P EC K2 M.length k2 K3 P.length k3 K4 EC.length k4 (some ⟨gw, 0, none⟩) m d xs w11 h2HC h3HC h4HC ((RowI.keep HW.out s3_11 (Nat.le_refl _)).sl HXL.out) HVC.out HWB.out vx HVZ.out).mono ?_
  rintro e w12 ⟨rfl, hb12⟩
  clear h2HC h3HC h4HC
  have s2_10 : Below w2.heap.size w2 w10 := s2_9.trans (hb10.mono s2_9.size)
  have s2_11 : Below w2.heap.size w2 w11 := s2_10.trans (hb11.mono s2_10.size)
  have s2_12 : Below w2.heap.size w2 w12 := s2_11.trans (hb12.mono s2_11.size)
  obtain ⟨hrHA, h2HA, h3HA, h4HA⟩ := (HA.out.below s2_12 (Nat.le_refl _))
  have HAc0 := hrHA.cell 0; have HAc1 := hrHA.cell 1; have HAc2 := hrHA.cell 2; have HAc3 := hrHA.cell 3; have HAc4 := hrHA.cell 4
  clear hrHA
  go_wp2_with fail
  clear HAc0 HAc1 HAc2 HAc3 HAc4
  refine (fEndsN (s : Int) (t : Int) L P E (some ⟨p2, 0, none⟩) (some ⟨p3, 0, none⟩) (some ⟨p4, 0, none⟩) c2 c3 c4 s w12 h2HA h3HA h4HA HV1.out HNE.out).mono ?_
  rintro e w13 ⟨ge, ce, rfl, hre, hb13⟩
  have HRE := Lib.hid hre
  clear h2HA h3HA h4HA hre
  have s7_9 : Below w7.heap.size w7 w9 := hb8.trans (hb9.mono hb8.size)
  have s7_10 : Below w7.heap.size w7 w10 := s7_9.trans (hb10.mono s7_9.size)
  have s7_11 : Below w7.heap.size w7 w11 := s7_10.trans (hb11.mono s7_10.size)
  have s7_12 : Below w7.heap.size w7 w12 := s7_11.trans (hb12.mono s7_11.size)
  have s7_13 : Below w7.heap.size w7 w13 := s7_12.trans (hb13.mono s7_12.size)
  obtain ⟨hrHU, h2HU, h3HU, h4HU⟩ := (HU.out.below s7_13 (Nat.le_refl _))
  have HUc0 := hrHU.cell 0; have HUc1 := hrHU.cell 1; have HUc2 := hrHU.cell 2; have HUc3 := hrHU.cell 3; have HUc4 := hrHU.cell 4
  clear hrHU
  have s5_11 : Below w5.heap.size w5 w11 := s5_10.trans (hb11.mono s5_10.size)
  have s5_12 : Below w5.heap.size w5 w12 := s5_11.trans (hb12.mono s5_11.size)
  have s5_13 : Below w5.heap.size w5 w13 := s5_12.trans (hb13.mono s5_12.size)
  obtain ⟨hrHT, h2HT, h3HT, h4HT⟩ := (HT.out.below s5_13 (Nat.le_refl _))
  have HTc0 := hrHT.cell 0; have HTc1 := hrHT.cell 1; have HTc2 := hrHT.cell 2; have HTc3 := hrHT.cell 3; have HTc4 := hrHT.cell 4
  clear hrHT
  go_wp2_with fail
  clear HUc0 HUc1 HUc2 HUc3 HUc4 HTc0 HTc1 HTc2 HTc3 HTc4
  refine (iSame_same (s : Int) (t : Int) (tdy L) P E U2 U3 U4 Q2 Q3 Q4 (tdy L).length P.length E.length u2 u3 u4 q2 q3 q4 w13 h2HU h3HU h4HU h2HT h3HT h4HT (by have := tdy_len L; have := HD.out.nl; have := BS.out.2; omega) (by rw [HNP.out]; have := BS.out.2; omega) (by rw [HNE.out]; have := BS.out.2; omega)).mono ?_
  rintro e w14 ⟨rfl, hb14⟩
  clear h2HU h3HU h4HU h2HT h3HT h4HT
  have s2_13 : Below w2.heap.size w2 w13 := s2_12.trans (hb13.mono s2_12.size)
  have s2_14 : Below w2.heap.size w2 w14 := s2_13.trans (hb14.mono s2_13.size)
  obtain ⟨hrHA, h2HA, h3HA, h4HA⟩ := (HA.out.below s2_14 (Nat.le_refl _))
  have HAc0 := hrHA.cell 0; have HAc1 := hrHA.cell 1; have HAc2 := hrHA.cell 2; have HAc3 := hrHA.cell 3; have HAc4 := hrHA.cell 4
  clear hrHA
  have s9_12 : Below w9.heap.size w9 w12 := s9_11.trans (hb12.mono s9_11.size)
  have s9_13 : Below w9.heap.size w9 w13 := s9_12.trans (hb13.mono s9_12.size)
  have s9_14 : Below w9.heap.size w9 w14 := s9_13.trans (hb14.mono s9_13.size)
  obtain ⟨hrHC, h2HC, h3HC, h4HC⟩ := (HC.out.below s9_14 (Nat.le_refl _))
  have HCc0 := hrHC.cell 0; have HCc1 := hrHC.cell 1; have HCc2 := hrHC.cell 2; have HCc3 := hrHC.cell 3; have HCc4 := hrHC.cell 4
  clear hrHC
  clear h2HA h3HA h4HA h2HC h3HC h4HC
  have sC := s9_14
  have HMC : Hid (∀ x : World, Below w14.heap.size w14 x → Mb x gC K2 k2 K3 k3 K4 k4 (s : Int) (t : Int) M P EC) := fun x hx => HC.out.below (sC.trans (hx.mono sC.size)) (Nat.le_refl _)
  go_wp2_with fail
  clear HAc0 HAc1 HAc2 HAc3 HAc4 HCc0 HCc1 HCc2 HCc3 HCc4
  go_loopg [22] M.length (fun q i wr => ∃ k : Nat, i = .int .i64 (k : Int) ∧ k ≤ M.length ∧ M.length ≤ q + k ∧ Hid (Below w14.heap.size w14 wr))
  case atStart => exact ⟨0, by go_num, by omega, by omega, Below.refl _ _⟩
  case round =>
    obtain ⟨k, rfl, hk, hq, HB⟩ := hrel
    obtain ⟨wo, rfl⟩ : ∃ x : World, x = wr := ⟨_, rfl⟩
    obtain ⟨hr, h2, -, -⟩ := HMC.out wo HB.out
    have e2 := hr.cell 2
    clear hr
    by_cases hlt : k < M.length
    · obtain ⟨b, off, b0, b1, b2, b3, hA, _, hx, d0, d1, d2, d3⟩ := h2.at_ hlt
      have hb := HMB.out _ (List.mem_of_getElem? hx.out)
      simp only at hb
      cases hA
      have l0 : (0 : Int) ≤ (k : Int) := by omega
      have l1 : (k : Int) < (M.length : Int) := by omega
      have hkw : IntKind.i64.wrap ((k : Int) + 1) = (k : Int) + 1 := IntWalk.i64_in _ (by have := (vmB_true HVC.out).2.2.1; omega)
      clear h2 hx
      go_wp2_with fail
      go_roundg (gk - 1)
      case measure => omega
      case rel => exact ⟨k + 1, by go_num, by omega, by omega, HB.out⟩
    have hkm : ¬ (k : Int) < (M.length : Int) := by omega
    clear h2 hlt
    obtain ⟨w15, rfl⟩ : ∃ x : World, x = wo := ⟨_, rfl⟩
    have hb15 : Below w14.heap.size w14 w15 := HB.out
    have s2_15 : Below w2.heap.size w2 w15 := s2_14.trans (hb15.mono s2_14.size)
    have s13_15 : Below w13.heap.size w13 w15 := hb14.trans (hb15.mono hb14.size)
    have HMA : Hid (∀ x : World, Below w15.heap.size w15 x → Mb x gA (some ⟨p2, 0, none⟩) c2 (some ⟨p3, 0, none⟩) c3 (some ⟨p4, 0, none⟩) c4 (s : Int) (t : Int) L P E) := fun x hx => HA.out.below (s2_15.trans (hx.mono s2_15.size)) (Nat.le_refl _)
    have HRX : Hid (∀ x : World, Below w15.heap.size w15 x → RowI x w12.heap.size 2 (.slice (some ⟨ge, 0, none⟩) s ce) (edT L E)) := fun x hx => RowI.keep HRE.out (s13_15.trans (hx.mono s13_15.size)) (Nat.le_refl _)
    have HCA : Hid (∀ x : World, Below w15.heap.size w15 x → (x.cell? ⟨gA, 0, none⟩ = some (.int .i64 (s : Int)) ∧ x.cell? ⟨gA, 3, none⟩ = some (.slice (some ⟨p3, 0, none⟩) P.length c3) ∧ x.cell? ⟨gA, 4, none⟩ = some (.slice (some ⟨p4, 0, none⟩) E.length c4))) := fun x hx => ⟨(HMA.out x hx).1.cell 0, (HMA.out x hx).1.cell 3, (HMA.out x hx).1.cell 4⟩
    obtain ⟨c_0, c_3, c_4⟩ := HCA.out w15 (Below.refl _ _)
    go_wp2_with fail
    clear c_0 c_3 c_4
    go_loopg [23, 24] s (fun q le i wr => ∃ k : Nat, i = .int .i64 (k : Int) ∧ k ≤ s ∧ s ≤ q + k ∧ le = .int .i64 (leV L P E k) ∧ Hid (∃ d, wr = w15.drewN d))
    case atStart => exact ⟨0, by go_num, by omega, by omega, rfl, ⟨0, rfl⟩⟩
    case round =>
      clear hk hq
      obtain ⟨j, rfl, hj, hq, rfl, HDR⟩ := hrel
      obtain ⟨wo, rfl⟩ : ∃ x : World, x = wr := ⟨_, rfl⟩
      have HB2 : Hid (Below w15.heap.size w15 wo) := by obtain ⟨d, hd⟩ := HDR.out; show Below _ _ _; rw [hd]; exact below_draws (Below.refl _ _) d
      obtain ⟨c_0, c_3, c_4⟩ := HCA.out wo HB2.out
      obtain ⟨-, -, h3, h4⟩ := HMA.out wo HB2.out
      have hle := leV_ge (L := L) (P := P) (E := E) j
      have hle2 := lePick (L := L) (E := E) (P := P) (fun x hx => by have := HD.out.st x hx; omega) j
      obtain ⟨le, hlv⟩ : ∃ v, v = leV L P E j := ⟨_, rfl⟩
      rw [← hlv] at hle hle2
      rw [← hlv]
      have HLV := Lib.hid hlv; clear hlv
      by_cases hlt : j < s
      · obtain ⟨b, off, pk, hA3, _, hxp, kp⟩ := h3.at_ (k := j) (by rw [HNP.out]; exact hlt)
        cases hA3
        rw [Nat.zero_add] at kp
        obtain ⟨b, off, ek, hA4, _, hxe, ke⟩ := h4.at_ (k := j) (by rw [HNE.out]; exact hlt)
        cases hA4
        rw [Nat.zero_add] at ke
        have hjP : j < P.length := by rw [HNP.out]; exact hlt
        obtain ⟨dk, hdk⟩ : ∃ v, v = g0 (edT L E) j := ⟨_, rfl⟩
        have hdx := g0_some (show j < (edT L E).length by rw [edT_len, HNE.out]; exact hlt)
        rw [← hdk] at hdx
        have kd := (HRX.out wo HB2.out).cell hdx
        have dlt := edT_lt L E j
        have dge := edT_ge HOA.out hjP
        have hend := fun h0 => ed_end HOA.out hxe.out h0
        rw [← hdk] at dlt dge hend
        have pb := HD.out.st pk (List.mem_of_getElem? hxp.out)
        have HF : Hid (r8A (g0 P j) (g0 (edT L E) j) = r8A pk dk) := by show _ = _; rw [g0_get hxp.out, hdk]
        have l0 : (0 : Int) ≤ (j : Int) := by omega
        have l1 : (j : Int) < (s : Int) := by omega
        have lP : (j : Int) < (P.length : Int) := by omega
        have lE : (j : Int) < (E.length : Int) := by have := HNE.out; omega
        have hjw : IntKind.i64.wrap ((j : Int) + 1) = (j : Int) + 1 := IntWalk.i64_in _ (by have := BS.out.2; omega)
        have pb1 : pk ≤ 1000 := by omega
        have pb0 : -1 ≤ pk := by omega
        clear hdk hdx hxp hxe h3 h4 hjP pb
        have HNX : Hid (∀ v : Int, (0 ≤ pk ∧ 0 ≤ dk → r8L le (pk + dk) = v) → (¬ (0 ≤ pk ∧ 0 ≤ dk) → le = v) → leV L P E (j + 1) = v) := by
          intro v h1 h2
          rw [leV_step, ← HLV.out, HF.out]
          by_cases hc : 0 ≤ pk ∧ 0 ≤ dk
          · rw [← h1 hc]; unfold r8A; rw [if_pos hc]
          · rw [← h2 hc]; unfold r8A; rw [if_neg hc, r8L_none hle]
        have HLQ : Hid (∀ (x : World) (v : Int), r8L le (pk + dk) = v → Calls Try.prog 15 #[.int .i64 le, .int .i64 (pk + dk)] x fun e w' => e = .returned (.int .i64 v) ∧ x = w') := fun x v h => r8Less_e le (pk + dk) v x h
        have ew : IntKind.i64.wrap (pk + dk) = pk + dk := IntWalk.i64_in _ (by omega)
        clear pb1 dlt hle2
        have HWR : Hid (Value.int .i64 (IntKind.i64.wrap (pk + dk)) = .int .i64 (pk + dk)) := by show _ = _; rw [ew]
        by_cases he : 0 ≤ ek
        · obtain ⟨hd0, hd1⟩ := hend he
          clear hend
          by_cases hp : 0 ≤ pk
          · skip
            obtain ⟨v, hv⟩ : ∃ v, v = r8L le (pk + dk) := ⟨_, rfl⟩
            have HV : Hid (leV L P E (j + 1) = v) := HNX.out v (fun _ => hv.symm) (fun h => absurd ⟨by omega, by omega⟩ h)
            have HQ : Hid (∀ x : World, Calls Try.prog 15 #[.int .i64 le, .int .i64 (pk + dk)] x fun e w' => e = .returned (.int .i64 v) ∧ x = w') := fun x => HLQ.out x v hv.symm
            clear hv
            go_wp2_with fail
            go_quiet (fail)
            go_wp2_with fail
            obtain ⟨wp, hwp⟩ : ∃ x, x = wo.drewN nq := ⟨_, rfl⟩
            have HDP : Hid (∃ d, wp = w15.drewN d) := drew2 HDR.out hwp
            have hfrom : wp.drew.cell? ⟨gA, 3, none⟩ = some (.slice (some ⟨p3, 0, none⟩) P.length c3) ∧ wp.drew.cell? ⟨p3, j, none⟩ = some (.int .i64 pk) ∧ wp.drew.cell? ⟨ge, j, none⟩ = some (.int .i64 dk) := by rw [hwp]; exact ⟨c_3, kp, kd⟩
            rw [← hwp]
            clear hwp
            go_region_held3 (fun x => x.cell? ⟨gA, 3, none⟩ = some (.slice (some ⟨p3, 0, none⟩) P.length c3) ∧ x.cell? ⟨p3, j, none⟩ = some (.int .i64 pk) ∧ x.cell? ⟨ge, j, none⟩ = some (.int .i64 dk)) (first | (with_reducible assumption) | go_keep)
              (first | (go_at_call 15; (try rw [HWR.out]); refine (HQ.out _).mono ?_; rintro e y ⟨rfl, hy⟩; obtain rfl := hy))
            go_wp2_with fail
            go_roundg (gk - 1)
            case measure => omega
            case rel => exact ⟨j + 1, by go_num, by omega, by omega, by rw [HV.out], drew2 (a := 1) HDP.out rfl⟩
          · have hp2 : pk < 0 := by omega
            have HV : Hid (leV L P E (j + 1) = le) := HNX.out le (fun h => absurd h (by omega)) (fun _ => rfl)
            clear hp
            go_wp2_with fail
            go_quiet (fail)
            go_wp2_with fail
            go_roundg (gk - 1)
            case measure => omega
            case rel => exact ⟨j + 1, by go_num, by omega, by omega, by rw [HV.out], (by first | exact drew2 HDR.out rfl | exact drew3 HDR.out rfl)⟩
        · have he2 : ek < 0 := by omega
          have hd8 : decide (0 ≤ ek) = false := decide_eq_false he
          clear hend he
          by_cases hp : 0 ≤ pk
          · by_cases hd : 0 ≤ dk
            · skip
              obtain ⟨v, hv⟩ : ∃ v, v = r8L le (pk + dk) := ⟨_, rfl⟩
              have HV : Hid (leV L P E (j + 1) = v) := HNX.out v (fun _ => hv.symm) (fun h => absurd ⟨by omega, by omega⟩ h)
              have HQ : Hid (∀ x : World, Calls Try.prog 15 #[.int .i64 le, .int .i64 (pk + dk)] x fun e w' => e = .returned (.int .i64 v) ∧ x = w') := fun x => HLQ.out x v hv.symm
              clear hv
              go_wp2_with fail
              go_quiet (fail)
              go_wp2_with fail
              obtain ⟨wp, hwp⟩ : ∃ x, x = wo.drewN nq := ⟨_, rfl⟩
              have HDP : Hid (∃ d, wp = w15.drewN d) := drew2 HDR.out hwp
              have hfrom : wp.drew.cell? ⟨gA, 3, none⟩ = some (.slice (some ⟨p3, 0, none⟩) P.length c3) ∧ wp.drew.cell? ⟨p3, j, none⟩ = some (.int .i64 pk) ∧ wp.drew.cell? ⟨ge, j, none⟩ = some (.int .i64 dk) := by rw [hwp]; exact ⟨c_3, kp, kd⟩
              rw [← hwp]
              clear hwp
              go_region_held3 (fun x => x.cell? ⟨gA, 3, none⟩ = some (.slice (some ⟨p3, 0, none⟩) P.length c3) ∧ x.cell? ⟨p3, j, none⟩ = some (.int .i64 pk) ∧ x.cell? ⟨ge, j, none⟩ = some (.int .i64 dk)) (first | (with_reducible assumption) | go_keep)
                (first | (go_at_call 15; (try rw [HWR.out]); refine (HQ.out _).mono ?_; rintro e y ⟨rfl, hy⟩; obtain rfl := hy))
              go_wp2_with fail
              go_roundg (gk - 1)
              case measure => omega
              case rel => exact ⟨j + 1, by go_num, by omega, by omega, by rw [HV.out], drew2 (a := 1) HDP.out rfl⟩
            · have hd2 : dk < 0 := by omega
              have HV : Hid (leV L P E (j + 1) = le) := HNX.out le (fun h => absurd h (by omega)) (fun _ => rfl)
              clear hd
              go_wp2_with fail
              go_quiet (fail)
              go_wp2_with fail
              go_roundg (gk - 1)
              case measure => omega
              case rel => exact ⟨j + 1, by go_num, by omega, by omega, by rw [HV.out], (by first | exact drew2 HDR.out rfl | exact drew3 HDR.out rfl)⟩
          · have hp2 : pk < 0 := by omega
            have HV : Hid (leV L P E (j + 1) = le) := HNX.out le (fun h => absurd h (by omega)) (fun _ => rfl)
            clear hp
            go_wp2_with fail
            go_quiet (fail)
            go_wp2_with fail
            go_roundg (gk - 1)
            case measure => omega
            case rel => exact ⟨j + 1, by go_num, by omega, by omega, by rw [HV.out], (by first | exact drew2 HDR.out rfl | exact drew3 HDR.out rfl)⟩
      have hjs : j = s := by omega
      have hjn : ¬ (j : Int) < (s : Int) := by omega
      have HLS : Hid (le = leV L P E P.length) := by show _ = _; rw [HLV.out, hjs, HNP.out]
      clear h3 h4 hlt hjs hle hle2
      obtain ⟨w16, rfl⟩ : ∃ x : World, x = wo := ⟨_, rfl⟩
      have hb16 : Below w15.heap.size w15 w16 := HB2.out
      go_upto_region 28 with fail
      go_cut [223] from 213 to 223 (fun v wx => v = .bool false ∧ wx = w16)
      case first =>
        by_cases hx : 0 ≤ vx
        · have hlw := le_word HOA.out (fun x hx => (HD.out.st x hx).1) HW12.out (by rw [← HVX.out]; exact hx)
          rw [← HVX.out, ← HLS.out] at hlw
          obtain ⟨f1, f2⟩ := hlw
          go_wp2_with fail
          go_meet
          exact ⟨by first | rfl | (rw [decide_eq_false (show ¬ le < 0 by omega), decide_eq_false (show ¬ vx < le by omega)]; rfl), rfl⟩
        · have hx2 : vx < 0 := by omega
          clear hx
          go_wp2_with fail
          go_meet
          exact ⟨rfl, rfl⟩
      case rest =>
      obtain ⟨rfl, hcw⟩ := hcut
      obtain rfl := hcw.symm
      obtain ⟨ok, hok⟩ : ∃ b, b = decide (1 ≤ tmS L P E) := ⟨_, rfl⟩
      have HOK : Hid (ok = decide (0 ≤ le)) := by show _ = _; rw [hok, HLS.out]; exact le_trim HOA.out (fun x hx => (HD.out.st x hx).1)
      have HTV : Hid (vmB (tmS L P E) t (tdy (tmL L P E)) (tmPp L P E) (tmEe L P E) = ok) := by show _ = _; rw [hok]; exact tm_valid HV1.out (Nat.le_trans (tdy_len _) (tmL_len _ _ _)) (fun a h => tdy_mem h)
      have HTL : Hid (tmS L P E ≤ s) := by have := tmS_le L P E; rw [HNP.out] at this; exact this
      have s2_16 : Below w2.heap.size w2 w16 := s2_15.trans (hb16.mono s2_15.size)
      obtain ⟨hrHA, h2HA, h3HA, h4HA⟩ := (HA.out.below s2_16 (Nat.le_refl _))
      have HAc0 := hrHA.cell 0; have HAc1 := hrHA.cell 1; have HAc2 := hrHA.cell 2; have HAc3 := hrHA.cell 3; have HAc4 := hrHA.cell 4
      clear hrHA
      go_wp2_with fail
      clear HAc0 HAc1 HAc2 HAc3 HAc4
      have hT := fTrim s (t : Int) L P E p2 p3 p4 c2 c3 c4 w16 h2HA h3HA h4HA HV1.out ok hok
      obtain ⟨ms, hms⟩ : ∃ v : Int, v = ckI ok (tmS L P E : Int) := ⟨_, rfl⟩
      obtain ⟨mt, hmt⟩ : ∃ v : Int, v = ckI ok (t : Int) := ⟨_, rfl⟩
      obtain ⟨ML, hML2⟩ : ∃ v, v = ckL ok (tdy (tmL L P E)) := ⟨_, rfl⟩
      obtain ⟨MP, hMP⟩ : ∃ v, v = ckL ok (tmPp L P E) := ⟨_, rfl⟩
      obtain ⟨ME, hME⟩ : ∃ v, v = ckL ok (tmEe L P E) := ⟨_, rfl⟩
      rw [← hms, ← hmt, ← hML2, ← hMP, ← hME] at hT
      have HMS := Lib.hid hms; have HMT := Lib.hid hmt; have HML := Lib.hid hML2; have HMP := Lib.hid hMP; have HME := Lib.hid hME
      have HOKT := Lib.hid hok
      clear hms hmt hML2 hMP hME hok
      refine (hT).mono ?_
      rintro e w17 ⟨R2, r2, R3, r3, R4, r4, rfl, l2R, l3R, l4R, g2, g3, g4, hb17⟩
      have HG_ := Mb.new (c2 := r2) (c3 := r3) (c4 := r4) (S := ms) (T := mt) g2 g3 g4
      have L2R := Lib.hid l2R; have L3R := Lib.hid l3R; have L4R := Lib.hid l4R
      clear g2 g3 g4 l2R l3R l4R
      obtain ⟨gG, hg⟩ : ∃ x, x = w17.heap.size := ⟨_, rfl⟩
      obtain ⟨w18, hw⟩ : ∃ x, x = w17.alloc (.cells ([.int .i64 (ms), .int .i64 (mt), .slice R2 ML.length r2, .slice R3 MP.length r3, .slice R4 ME.length r4] : List Value).toArray 28) := ⟨_, rfl⟩
      have hb18 : Below w17.heap.size w17 (w17.alloc (.cells ([.int .i64 (ms), .int .i64 (mt), .slice R2 ML.length r2, .slice R3 MP.length r3, .slice R4 ME.length r4] : List Value).toArray 28)) := (Below.refl _ _).alloc (Nat.le_refl _) _
      rw [← hw, ← hg] at HG_
      rw [← hw] at hb18
      have HG := Lib.hid HG_; clear HG_
      clear h2HA h3HA h4HA hT
      go_upto_region 31 with fail
      change Code.wp _ _ _ _ (w17.alloc (.cells ([.int .i64 (ms), .int .i64 (mt), .slice R2 ML.length r2, .slice R3 MP.length r3, .slice R4 ME.length r4] : List Value).toArray 28))
      rw [← hw]
      try rw [← hg]
      clear hw hg
      go_cut [232] from 229 to 232 (fun v wx => v = .bool false ∧ wx = w18)
      case first =>
        by_cases hl : 0 ≤ le
        · have hok2 : ok = true := by rw [HOK.out]; exact decide_eq_true hl
          subst hok2
          go_wp2_with fail
          go_meet
          exact ⟨rfl, rfl⟩
        · have hok2 : ok = false := by rw [HOK.out]; exact decide_eq_false hl
          subst hok2
          have hl2 : le < 0 := by omega
          clear hl
          go_wp2_with fail
          go_meet
          exact ⟨by first | rfl | (rw [decide_eq_false (show ¬ 0 ≤ le by omega)]), rfl⟩
      case rest =>
      obtain ⟨rfl, hcw⟩ := hcut
      obtain rfl := hcw.symm
      go_upto_if 233 with fail
      go_cut [27, 28] from 234 to 253 (fun v27 v28 wx => Hid (Below w18.heap.size w18 wx))
      case first =>
        cases ok with
        | false =>
          go_wp2_with fail
          go_meet
          exact Below.refl _ _
        | true =>
          obtain ⟨hrHG, h2HG, h3HG, h4HG⟩ := HG.out
          have HGc0 := hrHG.cell 0; have HGc1 := hrHG.cell 1; have HGc2 := hrHG.cell 2; have HGc3 := hrHG.cell 3; have HGc4 := hrHG.cell 4
          clear hrHG
          have hv := HTV.out
          have e1 : ms = (tmS L P E : Int) := HMS.out
          have e2 : mt = (t : Int) := HMT.out
          have e3 : ML = tdy (tmL L P E) := HML.out
          have e4 : MP = tmPp L P E := HMP.out
          have e5 : ME = tmEe L P E := HME.out
          have hvm : vmB ms mt ML MP ME = true := by rw [e1, e2, e3, e4, e5]; exact hv
          have hct : vx = cst ML MP ME xs := by rw [HVX.out, e3, e4, e5]; exact (cst_trim HOA.out (okw_vm hv t) HW12.out).symm
          have hms : ms ≤ (s : Int) := by rw [e1]; have := HTL.out; omega
          have HVM := Lib.hid hvm; have HCT := Lib.hid hct
          have HWT : Hid (wordB xs mt = true) := by show _ = _; rw [e2]; exact HWB.out
          clear hv e1 e2 e3 e4 e5 hvm hct
          go_wp2_with fail
          clear HGc0 HGc1 HGc2 HGc3 HGc4
          have s3_12 : Below w3.heap.size w3 w12 := s3_11.trans (hb12.mono s3_11.size)
          have s3_13 : Below w3.heap.size w3 w13 := s3_12.trans (hb13.mono s3_12.size)
          have s3_14 : Below w3.heap.size w3 w14 := s3_13.trans (hb14.mono s3_13.size)
          have s3_15 : Below w3.heap.size w3 w15 := s3_14.trans (hb15.mono s3_14.size)
          have s3_16 : Below w3.heap.size w3 w16 := s3_15.trans (hb16.mono s3_15.size)
          have s3_17 : Below w3.heap.size w3 w17 := s3_16.trans (hb17.mono s3_16.size)
          have s3_18 : Below w3.heap.size w3 w18 := s3_17.trans (hb18.mono s3_17.size)
          refine (fCost ms mt ML MP ME R2 ML.length r2 R3 MP.length r3 R4 ME.length r4 (some ⟨gw, 0, none⟩) m d xs w18 h2HG h3HG h4HG ((RowI.keep HW.out s3_18 (Nat.le_refl _)).sl HXL.out) HVM.out HWT.out vx HCT.out).mono ?_
          rintro e w19 ⟨rfl, hb19⟩
          clear h2HG h3HG h4HG
          obtain ⟨hrHG, h2HG, h3HG, h4HG⟩ := (HG.out.below hb19 (Nat.le_refl _))
          have HGc0 := hrHG.cell 0; have HGc1 := hrHG.cell 1; have HGc2 := hrHG.cell 2; have HGc3 := hrHG.cell 3; have HGc4 := hrHG.cell 4
          clear hrHG
          have s2_17 : Below w2.heap.size w2 w17 := s2_16.trans (hb17.mono s2_16.size)
          have s2_18 : Below w2.heap.size w2 w18 := s2_17.trans (hb18.mono s2_17.size)
          have s2_19 : Below w2.heap.size w2 w19 := s2_18.trans (hb19.mono s2_18.size)
          obtain ⟨hrHA, h2HA, h3HA, h4HA⟩ := (HA.out.below s2_19 (Nat.le_refl _))
          have HAc0 := hrHA.cell 0; have HAc1 := hrHA.cell 1; have HAc2 := hrHA.cell 2; have HAc3 := hrHA.cell 3; have HAc4 := hrHA.cell 4
          clear hrHA
          clear h2HG h3HG h4HG h2HA h3HA h4HA
          go_wp2_with fail
          go_meet
          exact hb19
      case rest =>
      obtain ⟨w19, rfl⟩ : ∃ x : World, x = wc := ⟨_, rfl⟩
      have hb19 : Below w18.heap.size w18 w19 := hcut.out
      clear hcut
      have s0_3 : Below w0.heap.size w0 w3 := s0_2.trans (hb3.mono s0_2.size)
      have s0_4 : Below w0.heap.size w0 w4 := s0_3.trans (hb4.mono s0_3.size)
      have s0_5 : Below w0.heap.size w0 w5 := s0_4.trans (hb5.mono s0_4.size)
      have s0_6 : Below w0.heap.size w0 w6 := s0_5.trans (hb6.mono s0_5.size)
      have s0_7 : Below w0.heap.size w0 w7 := s0_6.trans (hb7.mono s0_6.size)
      have s0_8 : Below w0.heap.size w0 w8 := s0_7.trans (hb8.mono s0_7.size)
      have s0_9 : Below w0.heap.size w0 w9 := s0_8.trans (hb9.mono s0_8.size)
      have s0_10 : Below w0.heap.size w0 w10 := s0_9.trans (hb10.mono s0_9.size)
      have s0_11 : Below w0.heap.size w0 w11 := s0_10.trans (hb11.mono s0_10.size)
      have s0_12 : Below w0.heap.size w0 w12 := s0_11.trans (hb12.mono s0_11.size)
      have s0_13 : Below w0.heap.size w0 w13 := s0_12.trans (hb13.mono s0_12.size)
      have s0_14 : Below w0.heap.size w0 w14 := s0_13.trans (hb14.mono s0_13.size)
      have s0_15 : Below w0.heap.size w0 w15 := s0_14.trans (hb15.mono s0_14.size)
      have s0_16 : Below w0.heap.size w0 w16 := s0_15.trans (hb16.mono s0_15.size)
      have s0_17 : Below w0.heap.size w0 w17 := s0_16.trans (hb17.mono s0_16.size)
      have s0_18 : Below w0.heap.size w0 w18 := s0_17.trans (hb18.mono s0_17.size)
      have s0_19 : Below w0.heap.size w0 w19 := s0_18.trans (hb19.mono s0_18.size)
      go_wp2_with fail
      refine (A43.out w19 (HY1.out.below s0_19 (Nat.le_refl _))).mono ?_
      rintro e w' ⟨rfl, hw⟩
      obtain rfl := hw
      clear A43
      have W43p := W43.out
      go_wp2_with fail
      clear W43p
      refine (r8Machine_any w19 a0 n0 c0 y0 ((HY0.out.below s0_19 (Nat.le_refl _)).more s0_19.size) M0.out sa t BSA.out.1 (by have := BSA.out.2; omega) BT.out.1 (by have := BT.out.2; omega) false).mono ?_
      rintro e w20 ⟨La, Pa, Ea, a2, a3, a4, ca2, ca3, ca4, hD, rfl, g2, g3, g4, hb20⟩
      have HDa := Lib.hid hD; clear hD
      have HX_ := Mb.new (c2 := ca2) (c3 := ca3) (c4 := ca4) (S := (sa : Int)) (T := (t : Int)) g2 g3 g4
      clear g2 g3 g4
      obtain ⟨gX, hg⟩ : ∃ x, x = w20.heap.size := ⟨_, rfl⟩
      obtain ⟨w21, hw⟩ : ∃ x, x = w20.alloc (.cells ([.int .i64 (sa : Int), .int .i64 (t : Int), .slice (some ⟨a2, 0, none⟩) La.length ca2, .slice (some ⟨a3, 0, none⟩) Pa.length ca3, .slice (some ⟨a4, 0, none⟩) Ea.length ca4] : List Value).toArray 28) := ⟨_, rfl⟩
      have hb21 : Below w20.heap.size w20 (w20.alloc (.cells ([.int .i64 (sa : Int), .int .i64 (t : Int), .slice (some ⟨a2, 0, none⟩) La.length ca2, .slice (some ⟨a3, 0, none⟩) Pa.length ca3, .slice (some ⟨a4, 0, none⟩) Ea.length ca4] : List Value).toArray 28)) := (Below.refl _ _).alloc (Nat.le_refl _) _
      rw [← hw, ← hg] at HX_
      rw [← hw] at hb21
      have HX := Lib.hid HX_; clear HX_
      go_wp2_with fail
      change Calls _ _ _ (w20.alloc (.cells ([.int .i64 (sa : Int), .int .i64 (t : Int), .slice (some ⟨a2, 0, none⟩) La.length ca2, .slice (some ⟨a3, 0, none⟩) Pa.length ca3, .slice (some ⟨a4, 0, none⟩) Ea.length ca4] : List Value).toArray 28)) _
      rw [← hw]
      try rw [← hg]
      clear hw hg
      have s0_20 : Below w0.heap.size w0 w20 := s0_19.trans (hb20.mono s0_19.size)
      have s0_21 : Below w0.heap.size w0 w21 := s0_20.trans (hb21.mono s0_20.size)
      refine (A44.out w21 (HY1.out.below s0_21 (Nat.le_refl _))).mono ?_
      rintro e w' ⟨rfl, hw⟩
      obtain rfl := hw
      clear A44
      have W44p := W44.out
      go_wp2_with fail
      clear W44p
      refine (r8Machine_any w21 a1 n1 c1 y1 ((HY1.out.below s0_21 (Nat.le_refl _)).more s0_21.size) M1.out sb t BSB.out.1 (by have := BSB.out.2; omega) BT.out.1 (by have := BT.out.2; omega) false).mono ?_
      rintro e w22 ⟨Lb, Pb, Eb, b2, b3, b4, cb2, cb3, cb4, hD, rfl, g2, g3, g4, hb22⟩
      have HDb := Lib.hid hD; clear hD
      have HZ_ := Mb.new (c2 := cb2) (c3 := cb3) (c4 := cb4) (S := (sb : Int)) (T := (t : Int)) g2 g3 g4
      clear g2 g3 g4
      have HVa : Hid (vmB sa t La Pa Ea = true) := HDa.out.vm BSA.out.1 (by have := BSA.out.2; omega) BT.out.1 (by have := BT.out.2; omega)
      have HVb : Hid (vmB sb t Lb Pb Eb = true) := HDb.out.vm BSB.out.1 (by have := BSB.out.2; omega) BT.out.1 (by have := BT.out.2; omega)
      have HNa : Hid (∀ a ∈ La, 0 ≤ a.2.2.1) := fun a ha => (HDa.out.arc a ha).2.2.2.2.2.2.2.2 rfl
      have HNb : Hid (∀ a ∈ Lb, 0 ≤ a.2.2.1) := fun a ha => (HDb.out.arc a ha).2.2.2.2.2.2.2.2 rfl
      have HPb : Hid (Pb.length = sb) := HDb.out.np
      have hvm := vm_mt HDa.out HDb.out BSA.out.1 BSA.out.2 BSB.out.1 BSB.out.2 BT.out.1 (by have := BT.out.2; omega)
      rw [HPb.out] at hvm
      have HVM := Lib.hid hvm; clear hvm
      have HSS : Hid (sa * sb ≤ 16) := by have h : sa * sb ≤ 3 * 3 := Nat.mul_le_mul BSA.out.2 BSB.out.2; show _ ≤ _; omega
      obtain ⟨va, hva⟩ : ∃ v, v = cst La Pa Ea xs := ⟨_, rfl⟩
      obtain ⟨vb, hvb⟩ : ∃ v, v = cst Lb Pb Eb xs := ⟨_, rfl⟩
      obtain ⟨vm, hvm⟩ : ∃ v, v = r8A va vb := ⟨_, rfl⟩
      have HVMC : Hid (vm = cst (mtA (sb : Int) La Lb) (psL Pa Pb) (psL Ea Eb) xs) := by
        have h := cst_mt (okw_vm HVa.out t) (okw_vm HVb.out t) HNa.out HNb.out (by rw [HPb.out]; exact okw_vm HVM.out t) HW12.out
        rw [HPb.out] at h
        show _ = _
        rw [h, hvm, hva, hvb]
      have HA1 := Lib.hid hva; have HB1 := Lib.hid hvb; have HM1 := Lib.hid hvm
      have va_lt := cst_lt La Pa Ea xs; have vb_lt := cst_lt Lb Pb Eb xs
      rw [← hva] at va_lt
      rw [← hvb] at vb_lt
      clear hva hvb hvm
      obtain ⟨gZ, hg⟩ : ∃ x, x = w22.heap.size := ⟨_, rfl⟩
      obtain ⟨w23, hw⟩ : ∃ x, x = w22.alloc (.cells ([.int .i64 (sb : Int), .int .i64 (t : Int), .slice (some ⟨b2, 0, none⟩) Lb.length cb2, .slice (some ⟨b3, 0, none⟩) Pb.length cb3, .slice (some ⟨b4, 0, none⟩) Eb.length cb4] : List Value).toArray 28) := ⟨_, rfl⟩
      have hb23 : Below w22.heap.size w22 (w22.alloc (.cells ([.int .i64 (sb : Int), .int .i64 (t : Int), .slice (some ⟨b2, 0, none⟩) Lb.length cb2, .slice (some ⟨b3, 0, none⟩) Pb.length cb3, .slice (some ⟨b4, 0, none⟩) Eb.length cb4] : List Value).toArray 28)) := (Below.refl _ _).alloc (Nat.le_refl _) _
      rw [← hw, ← hg] at HZ_
      rw [← hw] at hb23
      have HZ := Lib.hid HZ_; clear HZ_
      have s21_23 : Below w21.heap.size w21 w23 := hb22.trans (hb23.mono hb22.size)
      obtain ⟨hrHX, h2HX, h3HX, h4HX⟩ := (HX.out.below s21_23 (Nat.le_refl _))
      have HXc0 := hrHX.cell 0; have HXc1 := hrHX.cell 1; have HXc2 := hrHX.cell 2; have HXc3 := hrHX.cell 3; have HXc4 := hrHX.cell 4
      clear hrHX
      obtain ⟨hrHZ, h2HZ, h3HZ, h4HZ⟩ := HZ.out
      have HZc0 := hrHZ.cell 0; have HZc1 := hrHZ.cell 1; have HZc2 := hrHZ.cell 2; have HZc3 := hrHZ.cell 3; have HZc4 := hrHZ.cell 4
      clear hrHZ
      rw [hw] at HXc0 HXc1 HXc2 HXc3 HXc4 HZc0 HZc1 HZc2 HZc3 HZc4
      go_wp2_with fail
      clear HXc0 HXc1 HXc2 HXc3 HXc4 HZc0 HZc1 HZc2 HZc3 HZc4
      change Calls _ _ _ (w22.alloc (.cells ([.int .i64 (sb : Int), .int .i64 (t : Int), .slice (some ⟨b2, 0, none⟩) Lb.length cb2, .slice (some ⟨b3, 0, none⟩) Pb.length cb3, .slice (some ⟨b4, 0, none⟩) Eb.length cb4] : List Value).toArray 28)) _
      rw [← hw]
      try rw [← hg]
      clear hw hg
      have hMe := fMeet sa sb (t : Int) La Pa Ea a2 a3 a4 ca2 ca3 ca4 Lb Pb Eb b2 b3 b4 cb2 cb3 cb4 w23 h2HX h3HX h4HX h2HZ h3HZ h4HZ HVa.out HVb.out HNa.out HNb.out HSS.out HVM.out
      obtain ⟨sm, hsm⟩ : ∃ v : Int, v = (sa : Int) * (sb : Int) := ⟨_, rfl⟩
      rw [← hsm] at hMe
      have HVM2 : Hid (vmB sm t (mtA (sb : Int) La Lb) (psL Pa Pb) (psL Ea Eb) = true) := by have := HVM.out; rw [← hsm] at this; exact this
      clear hsm
      refine hMe.mono ?_
      rintro e w24 ⟨V2, e2, v2, V3, e3, v3, V4, e4, v4, rfl, g2, g3, g4, hb24⟩
      have HE_ := mx_new (v2 := v2) (v3 := v3) (v4 := v4) (S := sm) (T := (t : Int)) g2 g3 g4
      clear g2 g3 g4 h2HX h3HX h4HX h2HZ h3HZ h4HZ hMe
      obtain ⟨gE, hg⟩ : ∃ x, x = w24.heap.size := ⟨_, rfl⟩
      obtain ⟨w25, hw⟩ : ∃ x, x = w24.alloc (.cells ([.int .i64 sm, .int .i64 (t : Int), .slice V2 e2 v2, .slice V3 e3 v3, .slice V4 e4 v4] : List Value).toArray 28) := ⟨_, rfl⟩
      have hb25 : Below w24.heap.size w24 (w24.alloc (.cells ([.int .i64 sm, .int .i64 (t : Int), .slice V2 e2 v2, .slice V3 e3 v3, .slice V4 e4 v4] : List Value).toArray 28)) := (Below.refl _ _).alloc (Nat.le_refl _) _
      rw [← hw, ← hg] at HE_
      rw [← hw] at hb25
      have HE := Lib.hid HE_; clear HE_
      have s21_24 : Below w21.heap.size w21 w24 := s21_23.trans (hb24.mono s21_23.size)
      have s21_25 : Below w21.heap.size w21 w25 := s21_24.trans (hb25.mono s21_24.size)
      obtain ⟨hrHX, h2HX, h3HX, h4HX⟩ := (HX.out.below s21_25 (Nat.le_refl _))
      have HXc0 := hrHX.cell 0; have HXc1 := hrHX.cell 1; have HXc2 := hrHX.cell 2; have HXc3 := hrHX.cell 3; have HXc4 := hrHX.cell 4
      clear hrHX
      rw [hw] at HXc0 HXc1 HXc2 HXc3 HXc4
      go_wp2_with fail
      clear HXc0 HXc1 HXc2 HXc3 HXc4
      change Calls _ _ _ (w24.alloc (.cells ([.int .i64 sm, .int .i64 (t : Int), .slice V2 e2 v2, .slice V3 e3 v3, .slice V4 e4 v4] : List Value).toArray 28)) _
      rw [← hw]
      try rw [← hg]
      clear hw hg
      have s3_12 : Below w3.heap.size w3 w12 := s3_11.trans (hb12.mono s3_11.size)
      have s3_13 : Below w3.heap.size w3 w13 := s3_12.trans (hb13.mono s3_12.size)
      have s3_14 : Below w3.heap.size w3 w14 := s3_13.trans (hb14.mono s3_13.size)
      have s3_15 : Below w3.heap.size w3 w15 := s3_14.trans (hb15.mono s3_14.size)
      have s3_16 : Below w3.heap.size w3 w16 := s3_15.trans (hb16.mono s3_15.size)
      have s3_17 : Below w3.heap.size w3 w17 := s3_16.trans (hb17.mono s3_16.size)
      have s3_18 : Below w3.heap.size w3 w18 := s3_17.trans (hb18.mono s3_17.size)
      have s3_19 : Below w3.heap.size w3 w19 := s3_18.trans (hb19.mono s3_18.size)
      have s3_20 : Below w3.heap.size w3 w20 := s3_19.trans (hb20.mono s3_19.size)
      have s3_21 : Below w3.heap.size w3 w21 := s3_20.trans (hb21.mono s3_20.size)
      have s3_22 : Below w3.heap.size w3 w22 := s3_21.trans (hb22.mono s3_21.size)
      have s3_23 : Below w3.heap.size w3 w23 := s3_22.trans (hb23.mono s3_22.size)
      have s3_24 : Below w3.heap.size w3 w24 := s3_23.trans (hb24.mono s3_23.size)
      have s3_25 : Below w3.heap.size w3 w25 := s3_24.trans (hb25.mono s3_24.size)
      refine (fCost (sa : Int) (t : Int) La Pa Ea (some ⟨a2, 0, none⟩) La.length ca2 (some ⟨a3, 0, none⟩) Pa.length ca3 (some ⟨a4, 0, none⟩) Ea.length ca4 (some ⟨gw, 0, none⟩) m d xs w25 h2HX h3HX h4HX ((RowI.keep HW.out s3_25 (Nat.le_refl _)).sl HXL.out) HVa.out HWB.out va HA1.out).mono ?_
      rintro e w26 ⟨rfl, hb26⟩
      clear h2HX h3HX h4HX
      have s23_25 : Below w23.heap.size w23 w25 := hb24.trans (hb25.mono hb24.size)
      have s23_26 : Below w23.heap.size w23 w26 := s23_25.trans (hb26.mono s23_25.size)
      obtain ⟨hrHZ, h2HZ, h3HZ, h4HZ⟩ := (HZ.out.below s23_26 (Nat.le_refl _))
      have HZc0 := hrHZ.cell 0; have HZc1 := hrHZ.cell 1; have HZc2 := hrHZ.cell 2; have HZc3 := hrHZ.cell 3; have HZc4 := hrHZ.cell 4
      clear hrHZ
      go_wp2_with fail
      clear HZc0 HZc1 HZc2 HZc3 HZc4
      have s3_26 : Below w3.heap.size w3 w26 := s3_25.trans (hb26.mono s3_25.size)
      refine (fCost (sb : Int) (t : Int) Lb Pb Eb (some ⟨b2, 0, none⟩) Lb.length cb2 (some ⟨b3, 0, none⟩) Pb.length cb3 (some ⟨b4, 0, none⟩) Eb.length cb4 (some ⟨gw, 0, none⟩) m d xs w26 h2HZ h3HZ h4HZ ((RowI.keep HW.out s3_26 (Nat.le_refl _)).sl HXL.out) HVb.out HWB.out vb HB1.out).mono ?_
      rintro e w27 ⟨rfl, hb27⟩
      clear h2HZ h3HZ h4HZ
      have s25_27 : Below w25.heap.size w25 w27 := hb26.trans (hb27.mono hb26.size)
      obtain ⟨hrHE, h2HE, h3HE, h4HE⟩ := (HE.out.below s25_27 (Nat.le_refl _))
      have HEc0 := hrHE.cell 0; have HEc1 := hrHE.cell 1; have HEc2 := hrHE.cell 2; have HEc3 := hrHE.cell 3; have HEc4 := hrHE.cell 4
      clear hrHE
      go_wp2_with fail
      clear HEc0 HEc1 HEc2 HEc3 HEc4
      have s3_27 : Below w3.heap.size w3 w27 := s3_26.trans (hb27.mono s3_26.size)
      refine (fCost sm (t : Int) (mtA (sb : Int) La Lb) (psL Pa Pb) (psL Ea Eb) V2 e2 v2 V3 e3 v3 V4 e4 v4 (some ⟨gw, 0, none⟩) m d xs w27 h2HE h3HE h4HE ((RowI.keep HW.out s3_27 (Nat.le_refl _)).sl HXL.out) HVM2.out HWB.out vm HVMC.out).mono ?_
      rintro e w28 ⟨rfl, hb28⟩
      clear h2HE h3HE h4HE
      have s0_22 : Below w0.heap.size w0 w22 := s0_21.trans (hb22.mono s0_21.size)
      have s0_23 : Below w0.heap.size w0 w23 := s0_22.trans (hb23.mono s0_22.size)
      have s0_24 : Below w0.heap.size w0 w24 := s0_23.trans (hb24.mono s0_23.size)
      have s0_25 : Below w0.heap.size w0 w25 := s0_24.trans (hb25.mono s0_24.size)
      have s0_26 : Below w0.heap.size w0 w26 := s0_25.trans (hb26.mono s0_25.size)
      have s0_27 : Below w0.heap.size w0 w27 := s0_26.trans (hb27.mono s0_26.size)
      have s0_28 : Below w0.heap.size w0 w28 := s0_27.trans (hb28.mono s0_27.size)
      have hvm := HM1.out
      by_cases hp : 0 ≤ va
      · by_cases hq2 : 0 ≤ vb
        · have e1 : vm = va + vb := by rw [hvm]; unfold r8A; rw [if_pos ⟨hp, hq2⟩]
          have ew : IntKind.i64.wrap (va + vb) = va + vb := IntWalk.i64_in _ (by omega)
          clear hvm
          subst e1
          go_wp2_with fail
          go_ret
          exact ⟨by first | rfl | simp, s0_28⟩
        · have hq3 : vb < 0 := by omega
          have e1 : vm = -1 := by rw [hvm]; unfold r8A; rw [if_neg (fun h => hq2 h.2)]
          clear hvm hq2
          subst e1
          go_wp2_with fail
          go_ret
          exact ⟨by first | rfl | simp, s0_28⟩
      · have hp3 : va < 0 := by omega
        have e1 : vm = -1 := by rw [hvm]; unfold r8A; rw [if_neg (fun h => hp h.1)]
        clear hvm hp
        subst e1
        go_wp2_with fail
        go_ret
        exact ⟨by first | rfl | simp, s0_28⟩
end Go.Proofs.Ytkfmjnefbimecaa.fnTidied
