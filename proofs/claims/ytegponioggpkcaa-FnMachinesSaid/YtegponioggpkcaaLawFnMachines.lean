/- FnMachines: the walk: the law returns true. -/
import Derived.Test.YtegponioggpkcaaFmC
import Derived.Deep.RegionHeld3
import Derived.Deep.CutRange

namespace Go.Proofs.Ytegponioggpkcaa.fnMachines
open Go.RowKit
set_option linter.unusedVariables false
theorem r8v_nat (z : List Int) (k m : Nat) (h : 0 < m) : ∃ q : Nat, r8v z k (m : Int) = (q : Int) ∧ q < m := by
  have := r8v_bd (z := z) (k := k) (m := (m : Int)) (by omega)
  exact ⟨(r8v z k m).toNat, by omega, by omega⟩
theorem slI_take {w : World} {B n : Nat} {A : Option Addr} {xs : List Int} (h : SlI w B A n xs) {m : Nat} (hm : m ≤ n) : SlI w B A m (xs.take m) := by
  have := SlV.take h hm
  unfold SlI iv
  rw [List.map_take]
  exact this
theorem slI_drop {w : World} {B n g o : Nat} {xs : List Int} (h : SlI w B (some ⟨g, o, none⟩) n xs) {m : Nat} (hm : m ≤ n) : SlI w B (some ⟨g, o + m, none⟩) (n - m) (xs.drop m) := by
  obtain ⟨hl, h2⟩ := h
  refine ⟨by rw [iv_length, List.length_drop]; rw [iv_length] at hl; omega, fun h0 => ?_⟩
  obtain ⟨b, off, e, hb, hc⟩ := h2 (by omega)
  injection e with e
  injection e with e1 e2 _
  subst e1 e2
  refine ⟨g, o + m, rfl, hb, fun j u hu => ?_⟩
  have := hc (m + j) u (by
    unfold iv at hu ⊢
    rw [List.map_drop, List.getElem?_drop] at hu
    exact hu)
  rw [← Nat.add_assoc] at this
  exact this
theorem slI_dropd {w : World} {B n g d : Nat} {xs : List Int} (h : SlI w B (some ⟨g, 0, none⟩) n xs) {m : Nat} (hm : m ≤ n) (hd : n ≤ d) : SlI w B (if d = m then some ⟨g, 0, none⟩ else some ⟨g, m, none⟩) (n - m) (xs.drop m) := by
  by_cases e : d = m
  · rw [if_pos e]
    have hl := h.len
    have e1 : n - m = 0 := by omega
    have e2 : xs.drop m = [] := List.drop_of_length_le (by omega)
    rw [e1, e2]
    exact SlV.nil _ _ _
  · rw [if_neg e]
    have := slI_drop h hm
    rw [Nat.zero_add] at this
    exact this
set_option maxRecDepth 100000 in
set_option maxHeartbeats 40000000 in
theorem walk (a0 : Option Addr) (n0 c0 : Nat) (z0 : List Int) (a1 : Option Addr) (n1 c1 : Nat) (z1 : List Int) (w0 : World) (wf0 : IsRow .u8 w0 a0 n0 c0 z0) (wf1 : IsRow .u8 w0 a1 n1 c1 z1) :
    Calls Try.prog 3 #[.slice a0 n0 c0, .slice a1 n1 c1] w0 fun e w' => e = .returned (.bool true) ∧ Below w0.heap.size w0 w' := by
  have hl0 := wf0.lens; have hl1 := wf1.lens
  have hm0 : n0 ≤ maxLen := by omega
  have hm1 : n1 ≤ maxLen := by omega
  by_cases hlong : n0 ≤ 48 ∧ n1 ≤ 48
  case neg =>
    have hY := r8Long_yes a0 n0 c0 a1 n1 c1 w0 hm0 hm1 (by omega)
    clear hlong wf0 wf1 hl0 hl1 hm0 hm1
    go_enter Try.func3, Try.ntmps3
    go_wp2_with fail
    refine hY.mono ?_
    rintro e w' ⟨rfl, hw⟩
    obtain rfl := hw
    clear hY
    go_wp2_with fail
    go_ret
    exact ⟨rfl, Below.refl _ _⟩
  have hN := r8Long_no a0 n0 c0 a1 n1 c1 w0 hlong.1 hlong.2
  have HY0 := Lib.hid wf0.slY; have HY1 := Lib.hid wf1.slY
  obtain ⟨y0, hy0⟩ : ∃ y, y = z0.take n0 := ⟨_, rfl⟩
  obtain ⟨y1, hy1⟩ : ∃ y, y = z1.take n1 := ⟨_, rfl⟩
  rw [← hy0] at HY0
  rw [← hy1] at HY1
  clear hy0 hy1 wf0 wf1 hl0 hl1 hlong
  obtain ⟨k40, e40, l40⟩ := r8v_nat y1 40 3 (by omega)
  obtain ⟨k41, e41, l41⟩ := r8v_nat y1 41 4 (by omega)
  obtain ⟨k42, e42, l42⟩ := r8v_nat y1 42 4 (by omega)
  obtain ⟨m, e43, l43⟩ := r8v_nat y1 43 6 (by omega)
  obtain ⟨k44, e44, l44⟩ := r8v_nat y1 44 8 (by omega)
  have A40 : Hid (∀ x : World, SlY x w0.heap.size a1 n1 y1 → Calls Try.prog 8 #[.slice a1 n1 c1, .int .i64 40, .int .i64 3] x fun e w' => e = .returned (.int .i64 k40) ∧ x = w') := fun x hx => by have h := r8At_any a1 n1 c1 y1 w0.heap.size x hx 40 3 (by omega) (by omega) (by omega) hm1; rw [show r8v y1 40 3 = (k40 : Int) from e40] at h; exact h
  have A41 : Hid (∀ x : World, SlY x w0.heap.size a1 n1 y1 → Calls Try.prog 8 #[.slice a1 n1 c1, .int .i64 41, .int .i64 4] x fun e w' => e = .returned (.int .i64 k41) ∧ x = w') := fun x hx => by have h := r8At_any a1 n1 c1 y1 w0.heap.size x hx 41 4 (by omega) (by omega) (by omega) hm1; rw [show r8v y1 41 4 = (k41 : Int) from e41] at h; exact h
  have A42 : Hid (∀ x : World, SlY x w0.heap.size a1 n1 y1 → Calls Try.prog 8 #[.slice a1 n1 c1, .int .i64 42, .int .i64 4] x fun e w' => e = .returned (.int .i64 k42) ∧ x = w') := fun x hx => by have h := r8At_any a1 n1 c1 y1 w0.heap.size x hx 42 4 (by omega) (by omega) (by omega) hm1; rw [show r8v y1 42 4 = (k42 : Int) from e42] at h; exact h
  have A43 : Hid (∀ x : World, SlY x w0.heap.size a1 n1 y1 → Calls Try.prog 8 #[.slice a1 n1 c1, .int .i64 43, .int .i64 6] x fun e w' => e = .returned (.int .i64 m) ∧ x = w') := fun x hx => by have h := r8At_any a1 n1 c1 y1 w0.heap.size x hx 43 6 (by omega) (by omega) (by omega) hm1; rw [show r8v y1 43 6 = (m : Int) from e43] at h; exact h
  have A44 : Hid (∀ x : World, SlY x w0.heap.size a1 n1 y1 → Calls Try.prog 8 #[.slice a1 n1 c1, .int .i64 44, .int .i64 8] x fun e w' => e = .returned (.int .i64 k44) ∧ x = w') := fun x hx => by have h := r8At_any a1 n1 c1 y1 w0.heap.size x hx 44 8 (by omega) (by omega) (by omega) hm1; rw [show r8v y1 44 8 = (k44 : Int) from e44] at h; exact h
  clear e40 e41 e42 e43 e44
  obtain ⟨t, ht⟩ : ∃ t, t = k40 + 1 := ⟨_, rfl⟩
  obtain ⟨s, hs⟩ : ∃ s, s = k41 + 1 := ⟨_, rfl⟩
  obtain ⟨s', hs'⟩ : ∃ s, s = k42 + 1 := ⟨_, rfl⟩
  have W40 : IntKind.i64.wrap (1 + (k40 : Int)) = (t : Int) := by rw [IntWalk.i64_in _ (by omega)]; omega
  have W41 : IntKind.i64.wrap (1 + (k41 : Int)) = (s : Int) := by rw [IntWalk.i64_in _ (by omega)]; omega
  have W42 : IntKind.i64.wrap (1 + (k42 : Int)) = (s' : Int) := by rw [IntWalk.i64_in _ (by omega)]; omega
  have W44 : IntKind.i64.wrap (1 + (k44 : Int)) = ((k44 + 1 : Nat) : Int) := by rw [IntWalk.i64_in _ (by omega)]; omega
  have bt : 1 ≤ t ∧ t ≤ 3 := by omega
  have bs : 1 ≤ s ∧ s ≤ 4 := by omega
  have bs' : 1 ≤ s' ∧ s' ≤ 4 := by omega
  have BT := Lib.hid bt; have BS := Lib.hid bs; have BS' := Lib.hid bs'
  clear ht hs hs' l40 l41 l42 bt bs bs'
  have M0 := Lib.hid hm0; have M1 := Lib.hid hm1
  clear hm0 hm1
  go_enter Try.func3, Try.ntmps3
  go_wp2_with fail
  refine hN.mono ?_
  rintro e w' ⟨rfl, hw⟩
  obtain rfl := hw
  clear hN
  go_wp2_with fail
  refine (A40.out w0 HY1.out).mono ?_
  rintro e w' ⟨rfl, hw⟩
  obtain rfl := hw
  clear A40
  go_wp2_with fail
  refine (A41.out w0 HY1.out).mono ?_
  rintro e w' ⟨rfl, hw⟩
  obtain rfl := hw
  clear A41
  go_wp2_with fail
  refine (r8Machine_any w0 a0 n0 c0 y0 HY0.out M0.out s t BS.out.1 (by have := BS.out.2; omega) BT.out.1 (by have := BT.out.2; omega) true).mono ?_
  rintro e w1 ⟨L, P, E, p2, p3, p4, c2, c3, c4, hD, rfl, g2, g3, g4, hb1⟩
  have HD := Lib.hid hD; clear hD
  have HA_ := Ma.new (c2 := c2) (c3 := c3) (c4 := c4) (S := (s : Int)) (T := (t : Int)) g2 g3 g4
  clear g2 g3 g4 W40 W41
  obtain ⟨gA, hg⟩ : ∃ x, x = w1.heap.size := ⟨_, rfl⟩
  obtain ⟨w2, hw⟩ : ∃ x, x = w1.alloc (.cells ([.int .i64 (s : Int), .int .i64 (t : Int), .slice (some ⟨p2, 0, none⟩) L.length c2, .slice (some ⟨p3, 0, none⟩) P.length c3, .slice (some ⟨p4, 0, none⟩) E.length c4] : List Value).toArray 28) := ⟨_, rfl⟩
  have hb2 : Below w1.heap.size w1 (w1.alloc (.cells ([.int .i64 (s : Int), .int .i64 (t : Int), .slice (some ⟨p2, 0, none⟩) L.length c2, .slice (some ⟨p3, 0, none⟩) P.length c3, .slice (some ⟨p4, 0, none⟩) E.length c4] : List Value).toArray 28)) := (Below.refl _ _).alloc (Nat.le_refl _) _
  rw [← hw, ← hg] at HA_
  rw [← hw] at hb2
  have HA := Lib.hid HA_; clear HA_
  go_wp2_with fail
  change Calls _ _ _ (w1.alloc (.cells ([.int .i64 (s : Int), .int .i64 (t : Int), .slice (some ⟨p2, 0, none⟩) L.length c2, .slice (some ⟨p3, 0, none⟩) P.length c3, .slice (some ⟨p4, 0, none⟩) E.length c4] : List Value).toArray 28)) _
  rw [← hw]
  try rw [← hg]
  clear hw hg
  have s0_2 : Below w0.heap.size w0 w2 := hb1.trans (hb2.mono hb1.size)
  refine (A42.out w2 (HY1.out.below s0_2 (Nat.le_refl _))).mono ?_
  rintro e w' ⟨rfl, hw⟩
  obtain rfl := hw
  clear A42
  go_wp2_with fail
  clear W42
  refine (r8Machine_any w2 a1 n1 c1 y1 ((HY1.out.below s0_2 (Nat.le_refl _)).more s0_2.size) M1.out s' t BS'.out.1 (by have := BS'.out.2; omega) BT.out.1 (by have := BT.out.2; omega) true).mono ?_
  rintro e w3 ⟨L', P', E', q2, q3, q4, d2, d3, d4, hD, rfl, g2, g3, g4, hb3⟩
  have HD' := Lib.hid hD; clear hD
  have HB_ := Ma.new (c2 := d2) (c3 := d3) (c4 := d4) (S := (s' : Int)) (T := (t : Int)) g2 g3 g4
  clear g2 g3 g4
  obtain ⟨gB, hg⟩ : ∃ x, x = w3.heap.size := ⟨_, rfl⟩
  obtain ⟨w4, hw⟩ : ∃ x, x = w3.alloc (.cells ([.int .i64 (s' : Int), .int .i64 (t : Int), .slice (some ⟨q2, 0, none⟩) L'.length d2, .slice (some ⟨q3, 0, none⟩) P'.length d3, .slice (some ⟨q4, 0, none⟩) E'.length d4] : List Value).toArray 28) := ⟨_, rfl⟩
  have hb4 : Below w3.heap.size w3 (w3.alloc (.cells ([.int .i64 (s' : Int), .int .i64 (t : Int), .slice (some ⟨q2, 0, none⟩) L'.length d2, .slice (some ⟨q3, 0, none⟩) P'.length d3, .slice (some ⟨q4, 0, none⟩) E'.length d4] : List Value).toArray 28)) := (Below.refl _ _).alloc (Nat.le_refl _) _
  rw [← hw, ← hg] at HB_
  rw [← hw] at hb4
  have HB := Lib.hid HB_; clear HB_
  go_wp2_with fail
  change Calls _ _ _ (w3.alloc (.cells ([.int .i64 (s' : Int), .int .i64 (t : Int), .slice (some ⟨q2, 0, none⟩) L'.length d2, .slice (some ⟨q3, 0, none⟩) P'.length d3, .slice (some ⟨q4, 0, none⟩) E'.length d4] : List Value).toArray 28)) _
  rw [← hw]
  try rw [← hg]
  clear hw hg
  have s0_3 : Below w0.heap.size w0 w3 := s0_2.trans (hb3.mono s0_2.size)
  have s0_4 : Below w0.heap.size w0 w4 := s0_3.trans (hb4.mono s0_3.size)
  refine (A43.out w4 (HY1.out.below s0_4 (Nat.le_refl _))).mono ?_
  rintro e w' ⟨rfl, hw⟩
  obtain rfl := hw
  clear A43
  go_wp2_with fail
  refine (r8Word_any w4 a1 n1 c1 y1 ((HY1.out.below s0_4 (Nat.le_refl _)).more s0_4.size) M1.out m t (by omega) BT.out.1 (by have := BT.out.2; omega)).mono ?_
  rintro e w5 ⟨xs, gw, d, hxl, hxr, rfl, hrw, hb5⟩
  have HXL := Lib.hid hxl; have HXR := Lib.hid hxr; have HW := Lib.hid hrw
  clear hxl hxr hrw
  have HV1 : Hid (vmB s t L P E = true) := HD.out.vm BS.out.1 (by have := BS.out.2; omega) BT.out.1 (by have := BT.out.2; omega)
  have HV2 : Hid (vmB s' t L' P' E' = true) := HD'.out.vm BS'.out.1 (by have := BS'.out.2; omega) BT.out.1 (by have := BT.out.2; omega)
  have HV3 : Hid (vmB ((s : Int) + (s' : Int)) t (eiL s L L') (P ++ P') (E ++ E') = true) := vm_either HD.out HD'.out BS.out.1 BS.out.2 BS'.out.1 BS'.out.2 BT.out.1 (by have := BT.out.2; omega)
  have HV4 : Hid (vmB ((s : Int) + (s' : Int)) t (joA s L L' P' E) (joS P P') (joE P E') = true) := vm_joined HD.out HD'.out BS.out.1 BS.out.2 BS'.out.1 BS'.out.2 BT.out.1 (by have := BT.out.2; omega)
  have HV5 : Hid (vmB ((s : Int) + 1) t (rpA L P E) (rpS s) (rpS s) = true) := vm_repeat HD.out BS.out.1 BS.out.2 BT.out.1 (by have := BT.out.2; omega)
  have HV6 : Hid (vmB s t (L.map bkA) E P = true) := vm_back HV1.out
  have HLE : Hid (L.length ≤ 128 ∧ P.length ≤ 128 ∧ E.length ≤ 128 ∧ L'.length ≤ 128 ∧ P'.length ≤ 128 ∧ E'.length ≤ 128) := by
    have h1 := HD.out.np; have h2 := HD.out.ne; have h3 := HD.out.nl; have h4 := HD'.out.np; have h5 := HD'.out.ne; have h6 := HD'.out.nl
    have := BS.out.2; have := BS'.out.2
    show _ ∧ _
    omega
  have HWB : Hid (wordB xs t = true) := wordB_mk BT.out.1 (by have := BT.out.2; omega) (by rw [HXL.out]; omega) HXR.out
  have s2_4 : Below w2.heap.size w2 w4 := hb3.trans (hb4.mono hb3.size)
  have s2_5 : Below w2.heap.size w2 w5 := s2_4.trans (hb5.mono s2_4.size)
  obtain ⟨hrHA, h2HA, h3HA, h4HA⟩ := (HA.out.below s2_5 (Nat.le_refl _))
  have HAc0 := hrHA.cell 0; have HAc1 := hrHA.cell 1; have HAc2 := hrHA.cell 2; have HAc3 := hrHA.cell 3; have HAc4 := hrHA.cell 4
  clear hrHA
  obtain ⟨hrHB, h2HB, h3HB, h4HB⟩ := (HB.out.below hb5 (Nat.le_refl _))
  have HBc0 := hrHB.cell 0; have HBc1 := hrHB.cell 1; have HBc2 := hrHB.cell 2; have HBc3 := hrHB.cell 3; have HBc4 := hrHB.cell 4
  clear hrHB
  go_wp2_with fail
  clear HAc0 HAc1 HAc2 HAc3 HAc4
  clear HBc0 HBc1 HBc2 HBc3 HBc4
  refine (fEither (s : Int) (t : Int) (s' : Int) L P E L' P' E' p2 p3 p4 c2 c3 c4 q2 q3 q4 d2 d3 d4 w5 h2HA h3HA h4HA h2HB h3HB h4HB HLE.out HV1.out HV2.out HV3.out).mono ?_
  rintro e w6 ⟨B2, m2, b2, B3, m3, b3, B4, m4, b4, rfl, g2, g3, g4, hb6⟩
  have HE_ := Mx.new (c2 := b2) (c3 := b3) (c4 := b4) (S := (s : Int) + (s' : Int)) (T := (t : Int)) g2 g3 g4
  clear g2 g3 g4 h2HA h3HA h4HA
  obtain ⟨gE, hg⟩ : ∃ x, x = w6.heap.size := ⟨_, rfl⟩
  obtain ⟨w7, hw⟩ : ∃ x, x = w6.alloc (.cells ([.int .i64 ((s : Int) + (s' : Int)), .int .i64 (t : Int), .slice B2 m2 b2, .slice B3 m3 b3, .slice B4 m4 b4] : List Value).toArray 28) := ⟨_, rfl⟩
  have hb7 : Below w6.heap.size w6 (w6.alloc (.cells ([.int .i64 ((s : Int) + (s' : Int)), .int .i64 (t : Int), .slice B2 m2 b2, .slice B3 m3 b3, .slice B4 m4 b4] : List Value).toArray 28)) := (Below.refl _ _).alloc (Nat.le_refl _) _
  rw [← hw, ← hg] at HE_
  rw [← hw] at hb7
  have HE := Lib.hid HE_; clear HE_
  clear h2HB h3HB h4HB
  have s2_6 : Below w2.heap.size w2 w6 := s2_5.trans (hb6.mono s2_5.size)
  have s2_7 : Below w2.heap.size w2 w7 := s2_6.trans (hb7.mono s2_6.size)
  obtain ⟨hrHA, h2HA, h3HA, h4HA⟩ := (HA.out.below s2_7 (Nat.le_refl _))
  have HAc0 := hrHA.cell 0; have HAc1 := hrHA.cell 1; have HAc2 := hrHA.cell 2; have HAc3 := hrHA.cell 3; have HAc4 := hrHA.cell 4
  clear hrHA
  have s4_6 : Below w4.heap.size w4 w6 := hb5.trans (hb6.mono hb5.size)
  have s4_7 : Below w4.heap.size w4 w7 := s4_6.trans (hb7.mono s4_6.size)
  obtain ⟨hrHB, h2HB, h3HB, h4HB⟩ := (HB.out.below s4_7 (Nat.le_refl _))
  have HBc0 := hrHB.cell 0; have HBc1 := hrHB.cell 1; have HBc2 := hrHB.cell 2; have HBc3 := hrHB.cell 3; have HBc4 := hrHB.cell 4
  clear hrHB
  rw [hw] at HAc0 HAc1 HAc2 HAc3 HAc4 HBc0 HBc1 HBc2 HBc3 HBc4
  go_wp2_with fail
  clear HAc0 HAc1 HAc2 HAc3 HAc4 HBc0 HBc1 HBc2 HBc3 HBc4
  change Calls _ _ _ (w6.alloc (.cells ([.int .i64 ((s : Int) + (s' : Int)), .int .i64 (t : Int), .slice B2 m2 b2, .slice B3 m3 b3, .slice B4 m4 b4] : List Value).toArray 28)) _
  rw [← hw]
  try rw [← hg]
  clear hw hg
  refine (fJoined (s : Int) (t : Int) (s' : Int) L P E L' P' E' p2 p3 p4 c2 c3 c4 q2 q3 q4 d2 d3 d4 w7 h2HA h3HA h4HA h2HB h3HB h4HB HLE.out HV1.out HV2.out HV4.out).mono ?_
  rintro e w8 ⟨B2, m2, b2, B3, m3, b3, B4, m4, b4, rfl, g2, g3, g4, hb8⟩
  have HJ_ := Mx.new (c2 := b2) (c3 := b3) (c4 := b4) (S := (s : Int) + (s' : Int)) (T := (t : Int)) g2 g3 g4
  clear g2 g3 g4 h2HA h3HA h4HA
  obtain ⟨gJ, hg⟩ : ∃ x, x = w8.heap.size := ⟨_, rfl⟩
  obtain ⟨w9, hw⟩ : ∃ x, x = w8.alloc (.cells ([.int .i64 ((s : Int) + (s' : Int)), .int .i64 (t : Int), .slice B2 m2 b2, .slice B3 m3 b3, .slice B4 m4 b4] : List Value).toArray 28) := ⟨_, rfl⟩
  have hb9 : Below w8.heap.size w8 (w8.alloc (.cells ([.int .i64 ((s : Int) + (s' : Int)), .int .i64 (t : Int), .slice B2 m2 b2, .slice B3 m3 b3, .slice B4 m4 b4] : List Value).toArray 28)) := (Below.refl _ _).alloc (Nat.le_refl _) _
  rw [← hw, ← hg] at HJ_
  rw [← hw] at hb9
  have HJ := Lib.hid HJ_; clear HJ_
  clear h2HB h3HB h4HB
  have s2_8 : Below w2.heap.size w2 w8 := s2_7.trans (hb8.mono s2_7.size)
  have s2_9 : Below w2.heap.size w2 w9 := s2_8.trans (hb9.mono s2_8.size)
  obtain ⟨hrHA, h2HA, h3HA, h4HA⟩ := (HA.out.below s2_9 (Nat.le_refl _))
  have HAc0 := hrHA.cell 0; have HAc1 := hrHA.cell 1; have HAc2 := hrHA.cell 2; have HAc3 := hrHA.cell 3; have HAc4 := hrHA.cell 4
  clear hrHA
  rw [hw] at HAc0 HAc1 HAc2 HAc3 HAc4
  go_wp2_with fail
  clear HAc0 HAc1 HAc2 HAc3 HAc4
  change Calls _ _ _ (w8.alloc (.cells ([.int .i64 ((s : Int) + (s' : Int)), .int .i64 (t : Int), .slice B2 m2 b2, .slice B3 m3 b3, .slice B4 m4 b4] : List Value).toArray 28)) _
  rw [← hw]
  try rw [← hg]
  clear hw hg
  refine (fRepeat (s : Int) (t : Int) L P E p2 p3 p4 c2 c3 c4 w9 h2HA h3HA h4HA ⟨HLE.out.1, HLE.out.2.1, HLE.out.2.2.1⟩ HV1.out (by rw [show (s : Int).toNat = s by simp]; exact HV5.out)).mono ?_
  rintro e w10 ⟨B2, m2, b2, B3, m3, b3, B4, m4, b4, rfl, g2, g3, g4, hb10⟩
  have HR_ := Mx.new (c2 := b2) (c3 := b3) (c4 := b4) (S := (s : Int) + 1) (T := (t : Int)) g2 g3 g4
  clear g2 g3 g4 h2HA h3HA h4HA
  obtain ⟨gR, hg⟩ : ∃ x, x = w10.heap.size := ⟨_, rfl⟩
  obtain ⟨w11, hw⟩ : ∃ x, x = w10.alloc (.cells ([.int .i64 ((s : Int) + 1), .int .i64 (t : Int), .slice B2 m2 b2, .slice B3 m3 b3, .slice B4 m4 b4] : List Value).toArray 28) := ⟨_, rfl⟩
  have hb11 : Below w10.heap.size w10 (w10.alloc (.cells ([.int .i64 ((s : Int) + 1), .int .i64 (t : Int), .slice B2 m2 b2, .slice B3 m3 b3, .slice B4 m4 b4] : List Value).toArray 28)) := (Below.refl _ _).alloc (Nat.le_refl _) _
  rw [← hw, ← hg] at HR_
  rw [← hw] at hb11
  have HR := Lib.hid HR_; clear HR_
  have s2_10 : Below w2.heap.size w2 w10 := s2_9.trans (hb10.mono s2_9.size)
  have s2_11 : Below w2.heap.size w2 w11 := s2_10.trans (hb11.mono s2_10.size)
  obtain ⟨hrHA, h2HA, h3HA, h4HA⟩ := (HA.out.below s2_11 (Nat.le_refl _))
  have HAc0 := hrHA.cell 0; have HAc1 := hrHA.cell 1; have HAc2 := hrHA.cell 2; have HAc3 := hrHA.cell 3; have HAc4 := hrHA.cell 4
  clear hrHA
  rw [hw] at HAc0 HAc1 HAc2 HAc3 HAc4
  go_wp2_with fail
  clear HAc0 HAc1 HAc2 HAc3 HAc4
  change Calls _ _ _ (w10.alloc (.cells ([.int .i64 ((s : Int) + 1), .int .i64 (t : Int), .slice B2 m2 b2, .slice B3 m3 b3, .slice B4 m4 b4] : List Value).toArray 28)) _
  rw [← hw]
  try rw [← hg]
  clear hw hg
  refine (fBack (s : Int) (t : Int) L P E p2 p3 p4 c2 c3 c4 w11 h2HA h3HA h4HA HV1.out).mono ?_
  rintro e w12 ⟨B2, m2, b2, B3, m3, b3, B4, m4, b4, rfl, g2, g3, g4, hb12⟩
  have HK_ := Mx.new (c2 := b2) (c3 := b3) (c4 := b4) (S := (s : Int)) (T := (t : Int)) g2 g3 g4
  clear g2 g3 g4 h2HA h3HA h4HA
  obtain ⟨gK, hg⟩ : ∃ x, x = w12.heap.size := ⟨_, rfl⟩
  obtain ⟨w13, hw⟩ : ∃ x, x = w12.alloc (.cells ([.int .i64 ((s : Int)), .int .i64 (t : Int), .slice B2 m2 b2, .slice B3 m3 b3, .slice B4 m4 b4] : List Value).toArray 28) := ⟨_, rfl⟩
  have hb13 : Below w12.heap.size w12 (w12.alloc (.cells ([.int .i64 ((s : Int)), .int .i64 (t : Int), .slice B2 m2 b2, .slice B3 m3 b3, .slice B4 m4 b4] : List Value).toArray 28)) := (Below.refl _ _).alloc (Nat.le_refl _) _
  rw [← hw, ← hg] at HK_
  rw [← hw] at hb13
  have HK := Lib.hid HK_; clear HK_
  go_wp2_with fail
  change Calls _ _ _ (w12.alloc (.cells ([.int .i64 ((s : Int)), .int .i64 (t : Int), .slice B2 m2 b2, .slice B3 m3 b3, .slice B4 m4 b4] : List Value).toArray 28)) _
  rw [← hw]
  try rw [← hg]
  clear hw hg
  have s5_7 : Below w5.heap.size w5 w7 := hb6.trans (hb7.mono hb6.size)
  have s5_8 : Below w5.heap.size w5 w8 := s5_7.trans (hb8.mono s5_7.size)
  have s5_9 : Below w5.heap.size w5 w9 := s5_8.trans (hb9.mono s5_8.size)
  have s5_10 : Below w5.heap.size w5 w10 := s5_9.trans (hb10.mono s5_9.size)
  have s5_11 : Below w5.heap.size w5 w11 := s5_10.trans (hb11.mono s5_10.size)
  have s5_12 : Below w5.heap.size w5 w12 := s5_11.trans (hb12.mono s5_11.size)
  have s5_13 : Below w5.heap.size w5 w13 := s5_12.trans (hb13.mono s5_12.size)
  have hIW := iIsWord_any (some ⟨gw, 0, none⟩) m d xs t w13 ((RowI.keep HW.out s5_13 (Nat.le_refl _)).sl HXL.out) (by omega)
  rw [HWB.out] at hIW
  refine hIW.mono ?_
  rintro e w' ⟨rfl, hw⟩
  obtain rfl := hw
  clear hIW
  have hw12 : xs.length ≤ 12 := by rw [HXL.out]; omega
  have HW12 := Lib.hid hw12; clear hw12
  have HX0 : Hid (∀ l ∈ xs, 0 ≤ l) := fun l h => (HXR.out l h).1
  have HOA : Hid (Okw t L P E) := okw_vm HV1.out t
  have HOB : Hid (Okw t L' P' E') := okw_vm HV2.out t
  have HOE : Hid (Okw t (eiL (s : Int) L L') (P ++ P') (E ++ E')) := okw_vm HV3.out t
  have HOJ : Hid (Okw t (joA (s : Int) L L' P' E) (joS P P') (joE P E')) := okw_vm HV4.out t
  have HOR : Hid (Okw t (rpA L P E) (rpS s) (rpS s)) := okw_vm HV5.out t
  have HOK : Hid (Okw t (L.map bkA) E P) := okw_vm HV6.out t
  have HNP : Hid (P.length = s) := HD.out.np
  obtain ⟨vx, hvx⟩ : ∃ v, v = cst L P E xs := ⟨_, rfl⟩
  obtain ⟨vy, hvy⟩ : ∃ v, v = cst L' P' E' xs := ⟨_, rfl⟩
  obtain ⟨vz, hvz⟩ : ∃ v, v = r8L vx vy := ⟨_, rfl⟩
  have HVX := Lib.hid hvx; have HVY := Lib.hid hvy; have HVZ := Lib.hid hvz
  clear hvx hvy hvz
  have HEZ : Hid (vz = cst (eiL (s : Int) L L') (P ++ P') (E ++ E') xs) := by
    have h := fm_either (w := xs) HOA.out HOB.out (by rw [HNP.out]; exact HOE.out) HW12.out
    rw [HNP.out] at h
    show _ = _
    rw [HVZ.out, HVX.out, HVY.out]; exact h.symm
  obtain ⟨f, hf⟩ : ∃ f : Nat → Int, f = fun k => r8A (cst L P E (xs.take k)) (cst L' P' E' (xs.drop k)) := ⟨_, rfl⟩
  have HFF := Lib.hid hf; clear hf
  have HFG : Hid (∀ k, -1 ≤ f k) := fun k => by rw [HFF.out]; exact r8A_ge
  obtain ⟨vj, hvj⟩ : ∃ v, v = dpL f (m + 1) := ⟨_, rfl⟩
  have HVJ := Lib.hid hvj; clear hvj
  have HEJ : Hid (vj = cst (joA (s : Int) L L' P' E) (joS P P') (joE P E') xs) := by
    have h := fm_joined (w := xs) HOA.out HOB.out (by rw [HNP.out]; exact HOJ.out) HW12.out HX0.out
    rw [HNP.out, HXL.out] at h
    show _ = _
    rw [HVJ.out, HFF.out]; exact h.symm
  obtain ⟨p, hp⟩ : ∃ p : Nat → Nat → Int, p = fun i k => cst L P E ((xs.take k).drop i) := ⟨_, rfl⟩
  have HPP := Lib.hid hp; clear hp
  obtain ⟨vr, hvr⟩ : ∃ v, v = g0 (lsL p m) m := ⟨_, rfl⟩
  have HVR := Lib.hid hvr; clear hvr
  have HER : Hid (vr = cst (rpA L P E) (rpS s) (rpS s) xs) := by
    have h := fm_repeat (m := s) (w := xs) (least := fun k => g0 (lsL p k) k) HOA.out HOR.out HW12.out HX0.out rfl (fun k hk _ => by rw [HPP.out]; exact lsL_eq _ hk)
    rw [HXL.out] at h
    show _ = _
    rw [HVR.out]; exact h.symm
  have HE0 : Hid ((0 : Int) = cst (rpA L P E) (rpS s) (rpS s) []) := (fm_empty HOA.out HOR.out).symm
  have HEK : Hid (vx = cst (L.map bkA) E P xs.reverse) := by show _ = _; rw [HVX.out]; exact (fm_back HOA.out HOK.out HW12.out).symm
  obtain ⟨ve, hve⟩ : ∃ v, v = cst L P E [] := ⟨_, rfl⟩
  have HVE := Lib.hid hve; clear hve
  have HWB0 : Hid (wordB [] t = true) := wordB_mk BT.out.1 (by have := BT.out.2; omega) (by simp) (fun x hx => by cases hx)
  have HWR : Hid (wordB xs.reverse t = true) := wordB_mk BT.out.1 (by have := BT.out.2; omega) (by rw [List.length_reverse]; exact HW12.out) (fun x hx => HXR.out x (List.mem_reverse.1 hx))
  have HMD : Hid (m ≤ d) := by
    obtain ⟨_, _, _, _, _, _, h, _⟩ := HW.out.open
    exact h
  have s2_12 : Below w2.heap.size w2 w12 := s2_11.trans (hb12.mono s2_11.size)
  have s2_13 : Below w2.heap.size w2 w13 := s2_12.trans (hb13.mono s2_12.size)
  obtain ⟨hrHA, h2HA, h3HA, h4HA⟩ := (HA.out.below s2_13 (Nat.le_refl _))
  have HAc0 := hrHA.cell 0; have HAc1 := hrHA.cell 1; have HAc2 := hrHA.cell 2; have HAc3 := hrHA.cell 3; have HAc4 := hrHA.cell 4
  clear hrHA
  go_wp2_with fail
  clear HAc0 HAc1 HAc2 HAc3 HAc4
  refine (fCost (s : Int) (t : Int) L P E (some ⟨p2, 0, none⟩) L.length c2 (some ⟨p3, 0, none⟩) P.length c3 (some ⟨p4, 0, none⟩) E.length c4 (some ⟨gw, 0, none⟩) m d xs w13 h2HA h3HA h4HA ((RowI.keep HW.out s5_13 (Nat.le_refl _)).sl HXL.out) HV1.out HWB.out vx HVX.out).mono ?_
  rintro e w14 ⟨rfl, hb14⟩
  clear h2HA h3HA h4HA
  have s4_8 : Below w4.heap.size w4 w8 := s4_7.trans (hb8.mono s4_7.size)
  have s4_9 : Below w4.heap.size w4 w9 := s4_8.trans (hb9.mono s4_8.size)
  have s4_10 : Below w4.heap.size w4 w10 := s4_9.trans (hb10.mono s4_9.size)
  have s4_11 : Below w4.heap.size w4 w11 := s4_10.trans (hb11.mono s4_10.size)
  have s4_12 : Below w4.heap.size w4 w12 := s4_11.trans (hb12.mono s4_11.size)
  have s4_13 : Below w4.heap.size w4 w13 := s4_12.trans (hb13.mono s4_12.size)
  have s4_14 : Below w4.heap.size w4 w14 := s4_13.trans (hb14.mono s4_13.size)
  obtain ⟨hrHB, h2HB, h3HB, h4HB⟩ := (HB.out.below s4_14 (Nat.le_refl _))
  have HBc0 := hrHB.cell 0; have HBc1 := hrHB.cell 1; have HBc2 := hrHB.cell 2; have HBc3 := hrHB.cell 3; have HBc4 := hrHB.cell 4
  clear hrHB
  go_wp2_with fail
  clear HBc0 HBc1 HBc2 HBc3 HBc4
  have s5_14 : Below w5.heap.size w5 w14 := s5_13.trans (hb14.mono s5_13.size)
  refine (fCost (s' : Int) (t : Int) L' P' E' (some ⟨q2, 0, none⟩) L'.length d2 (some ⟨q3, 0, none⟩) P'.length d3 (some ⟨q4, 0, none⟩) E'.length d4 (some ⟨gw, 0, none⟩) m d xs w14 h2HB h3HB h4HB ((RowI.keep HW.out s5_14 (Nat.le_refl _)).sl HXL.out) HV2.out HWB.out vy HVY.out).mono ?_
  rintro e w15 ⟨rfl, hb15⟩
  clear h2HB h3HB h4HB
  have s7_9 : Below w7.heap.size w7 w9 := hb8.trans (hb9.mono hb8.size)
  have s7_10 : Below w7.heap.size w7 w10 := s7_9.trans (hb10.mono s7_9.size)
  have s7_11 : Below w7.heap.size w7 w11 := s7_10.trans (hb11.mono s7_10.size)
  have s7_12 : Below w7.heap.size w7 w12 := s7_11.trans (hb12.mono s7_11.size)
  have s7_13 : Below w7.heap.size w7 w13 := s7_12.trans (hb13.mono s7_12.size)
  have s7_14 : Below w7.heap.size w7 w14 := s7_13.trans (hb14.mono s7_13.size)
  have s7_15 : Below w7.heap.size w7 w15 := s7_14.trans (hb15.mono s7_14.size)
  obtain ⟨B2, m2, b2, B3, m3, b3, B4, m4, b4, hrHE, h2HE, h3HE, h4HE⟩ := (HE.out.below s7_15 (Nat.le_refl _))
  have HEc0 := hrHE.cell 0; have HEc1 := hrHE.cell 1; have HEc2 := hrHE.cell 2; have HEc3 := hrHE.cell 3; have HEc4 := hrHE.cell 4
  clear hrHE
  go_wp2_with fail
  clear HEc0 HEc1 HEc2 HEc3 HEc4
  have s5_15 : Below w5.heap.size w5 w15 := s5_14.trans (hb15.mono s5_14.size)
  refine (fCost ((s : Int) + (s' : Int)) (t : Int) (eiL (s : Int) L L') (P ++ P') (E ++ E') B2 m2 b2 B3 m3 b3 B4 m4 b4 (some ⟨gw, 0, none⟩) m d xs w15 h2HE h3HE h4HE ((RowI.keep HW.out s5_15 (Nat.le_refl _)).sl HXL.out) HV3.out HWB.out vz HEZ.out).mono ?_
  rintro e w16 ⟨rfl, hb16⟩
  clear h2HE h3HE h4HE
  have s9_11 : Below w9.heap.size w9 w11 := hb10.trans (hb11.mono hb10.size)
  have s9_12 : Below w9.heap.size w9 w12 := s9_11.trans (hb12.mono s9_11.size)
  have s9_13 : Below w9.heap.size w9 w13 := s9_12.trans (hb13.mono s9_12.size)
  have s9_14 : Below w9.heap.size w9 w14 := s9_13.trans (hb14.mono s9_13.size)
  have s9_15 : Below w9.heap.size w9 w15 := s9_14.trans (hb15.mono s9_14.size)
  have s9_16 : Below w9.heap.size w9 w16 := s9_15.trans (hb16.mono s9_15.size)
  obtain ⟨B2, m2, b2, B3, m3, b3, B4, m4, b4, hrHJ, h2HJ, h3HJ, h4HJ⟩ := (HJ.out.below s9_16 (Nat.le_refl _))
  have HJc0 := hrHJ.cell 0; have HJc1 := hrHJ.cell 1; have HJc2 := hrHJ.cell 2; have HJc3 := hrHJ.cell 3; have HJc4 := hrHJ.cell 4
  clear hrHJ
  go_wp2_with fail
  clear HJc0 HJc1 HJc2 HJc3 HJc4
  have s5_16 : Below w5.heap.size w5 w16 := s5_15.trans (hb16.mono s5_15.size)
  refine (fCost ((s : Int) + (s' : Int)) (t : Int) (joA (s : Int) L L' P' E) (joS P P') (joE P E') B2 m2 b2 B3 m3 b3 B4 m4 b4 (some ⟨gw, 0, none⟩) m d xs w16 h2HJ h3HJ h4HJ ((RowI.keep HW.out s5_16 (Nat.le_refl _)).sl HXL.out) HV4.out HWB.out vj HEJ.out).mono ?_
  rintro e w17 ⟨rfl, hb17⟩
  clear h2HJ h3HJ h4HJ
  have s11_13 : Below w11.heap.size w11 w13 := hb12.trans (hb13.mono hb12.size)
  have s11_14 : Below w11.heap.size w11 w14 := s11_13.trans (hb14.mono s11_13.size)
  have s11_15 : Below w11.heap.size w11 w15 := s11_14.trans (hb15.mono s11_14.size)
  have s11_16 : Below w11.heap.size w11 w16 := s11_15.trans (hb16.mono s11_15.size)
  have s11_17 : Below w11.heap.size w11 w17 := s11_16.trans (hb17.mono s11_16.size)
  obtain ⟨B2, m2, b2, B3, m3, b3, B4, m4, b4, hrHR, h2HR, h3HR, h4HR⟩ := (HR.out.below s11_17 (Nat.le_refl _))
  have HRc0 := hrHR.cell 0; have HRc1 := hrHR.cell 1; have HRc2 := hrHR.cell 2; have HRc3 := hrHR.cell 3; have HRc4 := hrHR.cell 4
  clear hrHR
  go_wp2_with fail
  clear HRc0 HRc1 HRc2 HRc3 HRc4
  have s5_17 : Below w5.heap.size w5 w17 := s5_16.trans (hb17.mono s5_16.size)
  refine (fCost ((s : Int) + 1) (t : Int) (rpA L P E) (rpS s) (rpS s) B2 m2 b2 B3 m3 b3 B4 m4 b4 (some ⟨gw, 0, none⟩) m d xs w17 h2HR h3HR h4HR ((RowI.keep HW.out s5_17 (Nat.le_refl _)).sl HXL.out) HV5.out HWB.out vr HER.out).mono ?_
  rintro e w18 ⟨rfl, hb18⟩
  clear h2HR h3HR h4HR
  obtain ⟨w19, hw⟩ : ∃ x, x = w18.alloc (.cells #[] 2) := ⟨_, rfl⟩
  have hb19 : Below w18.heap.size w18 (w18.alloc (.cells #[] 2)) := (Below.refl _ _).alloc (Nat.le_refl _) _
  have HN_ := RowI.made w18 w18.heap.size 2 (Nat.le_refl _)
  obtain ⟨gn, hg⟩ : ∃ x, x = w18.heap.size := ⟨_, rfl⟩
  rw [← hw, ← hg] at HN_
  rw [← hw] at hb19
  have HN0 : Hid (SlI w19 w19.heap.size (some ⟨gn, 0, none⟩) 0 []) := HN_.sl rfl
  clear HN_
  have s11_18 : Below w11.heap.size w11 w18 := s11_17.trans (hb18.mono s11_17.size)
  obtain ⟨B2, m2, b2, B3, m3, b3, B4, m4, b4, hrHR, h2HR, h3HR, h4HR⟩ := (HR.out.below s11_18 (Nat.le_refl _))
  have HRc0 := hrHR.cell 0; have HRc1 := hrHR.cell 1; have HRc2 := hrHR.cell 2; have HRc3 := hrHR.cell 3; have HRc4 := hrHR.cell 4
  clear hrHR
  go_wp2_with fail
  clear HRc0 HRc1 HRc2 HRc3 HRc4
  have h2HR := (h2HR.below hb19 (Nat.le_refl _)).more hb19.size; have h3HR := (h3HR.below hb19 (Nat.le_refl _)).more hb19.size; have h4HR := (h4HR.below hb19 (Nat.le_refl _)).more hb19.size
  change Calls _ _ _ (w18.alloc (.cells #[] 2)) _
  rw [← hw, ← hg]
  clear hw hg
  refine (fCost ((s : Int) + 1) (t : Int) (rpA L P E) (rpS s) (rpS s) B2 m2 b2 B3 m3 b3 B4 m4 b4 (some ⟨gn, 0, none⟩) 0 0 [] w19 h2HR h3HR h4HR HN0.out HV5.out HWB0.out 0 HE0.out).mono ?_
  rintro e w20 ⟨rfl, hb20⟩
  clear h2HR h3HR h4HR
  clear HN0
  have s13_15 : Below w13.heap.size w13 w15 := hb14.trans (hb15.mono hb14.size)
  have s13_16 : Below w13.heap.size w13 w16 := s13_15.trans (hb16.mono s13_15.size)
  have s13_17 : Below w13.heap.size w13 w17 := s13_16.trans (hb17.mono s13_16.size)
  have s13_18 : Below w13.heap.size w13 w18 := s13_17.trans (hb18.mono s13_17.size)
  have s13_19 : Below w13.heap.size w13 w19 := s13_18.trans (hb19.mono s13_18.size)
  have s13_20 : Below w13.heap.size w13 w20 := s13_19.trans (hb20.mono s13_19.size)
  obtain ⟨B2, m2, b2, B3, m3, b3, B4, m4, b4, hrHK, h2HK, h3HK, h4HK⟩ := (HK.out.below s13_20 (Nat.le_refl _))
  have HKc0 := hrHK.cell 0; have HKc1 := hrHK.cell 1; have HKc2 := hrHK.cell 2; have HKc3 := hrHK.cell 3; have HKc4 := hrHK.cell 4
  clear hrHK
  have s5_18 : Below w5.heap.size w5 w18 := s5_17.trans (hb18.mono s5_17.size)
  have s5_19 : Below w5.heap.size w5 w19 := s5_18.trans (hb19.mono s5_18.size)
  have s5_20 : Below w5.heap.size w5 w20 := s5_19.trans (hb20.mono s5_19.size)
  have hgK : gK < w20.heap.size := World.block_lt_of_cell? _ _ HKc0
  have hcel : Hid (∀ x : World, Below w20.heap.size w20 x → (Below w20.heap.size w20 x ∧ x.cell? ⟨gK, 0, none⟩ = some (.int .i64 (s : Int)) ∧ x.cell? ⟨gK, 1, none⟩ = some (.int .i64 (t : Int)) ∧ x.cell? ⟨gK, 2, none⟩ = some (.slice B2 m2 b2) ∧ x.cell? ⟨gK, 3, none⟩ = some (.slice B3 m3 b3) ∧ x.cell? ⟨gK, 4, none⟩ = some (.slice B4 m4 b4))) := fun x hx => ⟨hx, (hx.cell (p := ⟨gK, 0, none⟩) hgK).trans HKc0, (hx.cell (p := ⟨gK, 1, none⟩) hgK).trans HKc1, (hx.cell (p := ⟨gK, 2, none⟩) hgK).trans HKc2, (hx.cell (p := ⟨gK, 3, none⟩) hgK).trans HKc3, (hx.cell (p := ⟨gK, 4, none⟩) hgK).trans HKc4⟩
  have hkeep : Hid (∀ x y : World, Below w20.heap.size w20 x → Below x.heap.size x y → (Below w20.heap.size w20 y ∧ y.cell? ⟨gK, 0, none⟩ = some (.int .i64 (s : Int)) ∧ y.cell? ⟨gK, 1, none⟩ = some (.int .i64 (t : Int)) ∧ y.cell? ⟨gK, 2, none⟩ = some (.slice B2 m2 b2) ∧ y.cell? ⟨gK, 3, none⟩ = some (.slice B3 m3 b3) ∧ y.cell? ⟨gK, 4, none⟩ = some (.slice B4 m4 b4))) := fun x y h1 h2 => hcel.out y (h1.trans (h2.mono h1.size))
  have HWi := Lib.hid (RowI.keep HW.out s5_20 (Nat.le_refl _))
  have hRB : Hid (∀ x : World, Below w20.heap.size w20 x → Calls Try.prog 17 #[.slice (some ⟨gw, 0, none⟩) m d] x fun e y => ∃ g d', e = .returned (.slice (some ⟨g, 0, none⟩) m d') ∧ RowI y x.heap.size 2 (.slice (some ⟨g, 0, none⟩) m d') xs.reverse ∧ Below x.heap.size x y) := fun x hx => r8Back_any _ m d xs x ((RowI.keep HWi.out hx (Nat.le_refl _)).sl HXL.out) (by omega)
  have hCo : Hid (∀ (x : World) (g d' B : Nat), Below w20.heap.size w20 x → RowI x B 2 (.slice (some ⟨g, 0, none⟩) m d') xs.reverse → Calls Try.prog 16 #[.agg #[.int .i64 (s : Int), .int .i64 (t : Int), .slice B2 m2 b2, .slice B3 m3 b3, .slice B4 m4 b4], .slice (some ⟨g, 0, none⟩) m d'] x fun e y => e = .returned (.tuple #[.int .i64 vx, .bool true]) ∧ Below x.heap.size x y) := fun x g d' B hx hr => fCost (s : Int) (t : Int) (L.map bkA) E P B2 m2 b2 B3 m3 b3 B4 m4 b4 (some ⟨g, 0, none⟩) m d' xs.reverse x ((h2HK.below hx (Nat.le_refl _)).more hx.size) ((h3HK.below hx (Nat.le_refl _)).more hx.size) ((h4HK.below hx (Nat.le_refl _)).more hx.size) (hr.sl (by rw [List.length_reverse]; exact HXL.out)) HV6.out HWR.out vx HEK.out
  have hfrom := hcel.out w20.drew (Below.drew (Below.refl _ _))
  clear HKc0 HKc1 HKc2 HKc3 HKc4 h2HK h3HK h4HK hgK
  go_wp2_with fail
  go_region_held3 (fun x => Below w20.heap.size w20 x ∧ x.cell? ⟨gK, 0, none⟩ = some (.int .i64 (s : Int)) ∧ x.cell? ⟨gK, 1, none⟩ = some (.int .i64 (t : Int)) ∧ x.cell? ⟨gK, 2, none⟩ = some (.slice B2 m2 b2) ∧ x.cell? ⟨gK, 3, none⟩ = some (.slice B3 m3 b3) ∧ x.cell? ⟨gK, 4, none⟩ = some (.slice B4 m4 b4)) (first | (with_reducible assumption) | go_keep)
    (first
      | (go_at_call 17; refine (hRB.out _ (by first | (with_reducible assumption) | (with_reducible (apply And.left; assumption)))).mono ?_; rintro e yb ⟨gb, db, rfl, hrb, hbb⟩; have sb := (fun h => hkeep.out _ _ h hbb) (by first | (with_reducible assumption) | (with_reducible (apply And.left; assumption))); have HRBk := Lib.hid hrb; clear hrb)
      | (go_at_call 16; refine (hCo.out _ _ _ _ (by first | (with_reducible assumption) | (with_reducible (apply And.left; assumption))) HRBk.out).mono ?_; rintro e w21 ⟨rfl, hbc⟩; have sc := (fun h => hkeep.out _ _ h hbc) (by first | (with_reducible assumption) | (with_reducible (apply And.left; assumption)))))
  have hb21 : Below w20.heap.size w20 w21 := sc.1
  clear sc sb hbb hbc hfrom hcel hkeep hRB hCo HRBk HWi
  have hLs := r8Less_any vx vy w21
  rw [← HVZ.out] at hLs
  go_wp2_with fail
  refine hLs.mono ?_
  rintro e w' ⟨rfl, hw⟩
  obtain rfl := hw
  clear hLs
  go_wp2_with fail
  have s2_14 : Below w2.heap.size w2 w14 := s2_13.trans (hb14.mono s2_13.size)
  have s2_15 : Below w2.heap.size w2 w15 := s2_14.trans (hb15.mono s2_14.size)
  have s2_16 : Below w2.heap.size w2 w16 := s2_15.trans (hb16.mono s2_15.size)
  have s2_17 : Below w2.heap.size w2 w17 := s2_16.trans (hb17.mono s2_16.size)
  have s2_18 : Below w2.heap.size w2 w18 := s2_17.trans (hb18.mono s2_17.size)
  have s2_19 : Below w2.heap.size w2 w19 := s2_18.trans (hb19.mono s2_18.size)
  have s2_20 : Below w2.heap.size w2 w20 := s2_19.trans (hb20.mono s2_19.size)
  have s2_21 : Below w2.heap.size w2 w21 := s2_20.trans (hb21.mono s2_20.size)
  have s4_15 : Below w4.heap.size w4 w15 := s4_14.trans (hb15.mono s4_14.size)
  have s4_16 : Below w4.heap.size w4 w16 := s4_15.trans (hb16.mono s4_15.size)
  have s4_17 : Below w4.heap.size w4 w17 := s4_16.trans (hb17.mono s4_16.size)
  have s4_18 : Below w4.heap.size w4 w18 := s4_17.trans (hb18.mono s4_17.size)
  have s4_19 : Below w4.heap.size w4 w19 := s4_18.trans (hb19.mono s4_18.size)
  have s4_20 : Below w4.heap.size w4 w20 := s4_19.trans (hb20.mono s4_19.size)
  have s4_21 : Below w4.heap.size w4 w21 := s4_20.trans (hb21.mono s4_20.size)
  have s5_21 : Below w5.heap.size w5 w21 := s5_20.trans (hb21.mono s5_20.size)
  have s0_5 : Below w0.heap.size w0 w5 := s0_4.trans (hb5.mono s0_4.size)
  have s0_6 : Below w0.heap.size w0 w6 := s0_5.trans (hb6.mono s0_5.size)
  have s0_7 : Below w0.heap.size w0 w7 := s0_6.trans (hb7.mono s0_6.size)
  have s0_8 : Below w0.heap.size w0 w8 := s0_7.trans (hb8.mono s0_7.size)
  have s0_9 : Below w0.heap.size w0 w9 := s0_8.trans (hb9.mono s0_8.size)
  have s0_10 : Below w0.heap.size w0 w10 := s0_9.trans (hb10.mono s0_9.size)
  have s0_11 : Below w0.heap.size w0 w11 := s0_10.trans (hb11.mono s0_10.size)
  have s0_12 : Below w0.heap.size w0 w12 := s0_11.trans (hb12.mono s0_11.size)
  have s0_13 : Below w0.heap.size w0 w13 := s0_12.trans (hb13.mono s0_12.size)
  have s0_14 : Below w0.heap.size w0 w14 := s0_13.trans (hb14.mono s0_13.size)
  have s0_15 : Below w0.heap.size w0 w15 := s0_14.trans (hb15.mono s0_14.size)
  have s0_16 : Below w0.heap.size w0 w16 := s0_15.trans (hb16.mono s0_15.size)
  have s0_17 : Below w0.heap.size w0 w17 := s0_16.trans (hb17.mono s0_16.size)
  have s0_18 : Below w0.heap.size w0 w18 := s0_17.trans (hb18.mono s0_17.size)
  have s0_19 : Below w0.heap.size w0 w19 := s0_18.trans (hb19.mono s0_18.size)
  have s0_20 : Below w0.heap.size w0 w20 := s0_19.trans (hb20.mono s0_19.size)
  have s0_21 : Below w0.heap.size w0 w21 := s0_20.trans (hb21.mono s0_20.size)
  have HMA : Hid (∀ x : World, Below w21.heap.size w21 x → Ma x gA p2 p3 p4 c2 c3 c4 (s : Int) (t : Int) L P E) := fun x hx => HA.out.below (s2_21.trans (hx.mono s2_21.size)) (Nat.le_refl _)
  have HMB : Hid (∀ x : World, Below w21.heap.size w21 x → Ma x gB q2 q3 q4 d2 d3 d4 (s' : Int) (t : Int) L' P' E') := fun x hx => HB.out.below (s4_21.trans (hx.mono s4_21.size)) (Nat.le_refl _)
  have HCA : Hid (∀ x : World, Below w21.heap.size w21 x → (x.cell? ⟨gA, 0, none⟩ = some (.int .i64 (s : Int)) ∧ x.cell? ⟨gA, 1, none⟩ = some (.int .i64 (t : Int)) ∧ x.cell? ⟨gA, 2, none⟩ = some (.slice (some ⟨p2, 0, none⟩) L.length c2) ∧ x.cell? ⟨gA, 3, none⟩ = some (.slice (some ⟨p3, 0, none⟩) P.length c3) ∧ x.cell? ⟨gA, 4, none⟩ = some (.slice (some ⟨p4, 0, none⟩) E.length c4))) := fun x hx => ⟨(HMA.out x hx).1.cell 0, (HMA.out x hx).1.cell 1, (HMA.out x hx).1.cell 2, (HMA.out x hx).1.cell 3, (HMA.out x hx).1.cell 4⟩
  have HCB : Hid (∀ x : World, Below w21.heap.size w21 x → (x.cell? ⟨gB, 0, none⟩ = some (.int .i64 (s' : Int)) ∧ x.cell? ⟨gB, 1, none⟩ = some (.int .i64 (t : Int)) ∧ x.cell? ⟨gB, 2, none⟩ = some (.slice (some ⟨q2, 0, none⟩) L'.length d2) ∧ x.cell? ⟨gB, 3, none⟩ = some (.slice (some ⟨q3, 0, none⟩) P'.length d3) ∧ x.cell? ⟨gB, 4, none⟩ = some (.slice (some ⟨q4, 0, none⟩) E'.length d4))) := fun x hx => ⟨(HMB.out x hx).1.cell 0, (HMB.out x hx).1.cell 1, (HMB.out x hx).1.cell 2, (HMB.out x hx).1.cell 3, (HMB.out x hx).1.cell 4⟩
  have HWX : Hid (∀ x : World, Below w21.heap.size w21 x → SlI x x.heap.size (some ⟨gw, 0, none⟩) m xs) := fun x hx => (RowI.keep HW.out (s5_21.trans (hx.mono s5_21.size)) (Nat.le_refl _)).sl HXL.out
  have HWS : Hid (∀ ys : List Int, (∀ y ∈ ys, y ∈ xs) → ys.length ≤ 12 → wordB ys t = true) := fun ys hy hl => wordB_mk BT.out.1 (by have := BT.out.2; omega) hl (fun x hx => HXR.out x (hy x hx))
  have HPA : Hid (∀ (x : World) (A : Option Addr) (n c : Nat) (ys : List Int) (v : Int), Below w21.heap.size w21 x → SlI x x.heap.size A n ys → (∀ y ∈ ys, y ∈ xs) → ys.length ≤ 12 → v = cst L P E ys → Calls Try.prog 16 #[.agg #[.int .i64 (s : Int), .int .i64 (t : Int), .slice (some ⟨p2, 0, none⟩) L.length c2, .slice (some ⟨p3, 0, none⟩) P.length c3, .slice (some ⟨p4, 0, none⟩) E.length c4], .slice A n c] x fun e y => e = .returned (.tuple #[.int .i64 v, .bool true]) ∧ Below x.heap.size x y) := fun x A n c ys v hx hs hy hl hv => fCost (s : Int) (t : Int) L P E (some ⟨p2, 0, none⟩) L.length c2 (some ⟨p3, 0, none⟩) P.length c3 (some ⟨p4, 0, none⟩) E.length c4 A n c ys x (HMA.out x hx).2.1 (HMA.out x hx).2.2.1 (HMA.out x hx).2.2.2 hs HV1.out (HWS.out ys hy hl) v hv
  have HPB : Hid (∀ (x : World) (A : Option Addr) (n c : Nat) (ys : List Int) (v : Int), Below w21.heap.size w21 x → SlI x x.heap.size A n ys → (∀ y ∈ ys, y ∈ xs) → ys.length ≤ 12 → v = cst L' P' E' ys → Calls Try.prog 16 #[.agg #[.int .i64 (s' : Int), .int .i64 (t : Int), .slice (some ⟨q2, 0, none⟩) L'.length d2, .slice (some ⟨q3, 0, none⟩) P'.length d3, .slice (some ⟨q4, 0, none⟩) E'.length d4], .slice A n c] x fun e y => e = .returned (.tuple #[.int .i64 v, .bool true]) ∧ Below x.heap.size x y) := fun x A n c ys v hx hs hy hl hv => fCost (s' : Int) (t : Int) L' P' E' (some ⟨q2, 0, none⟩) L'.length d2 (some ⟨q3, 0, none⟩) P'.length d3 (some ⟨q4, 0, none⟩) E'.length d4 A n c ys x (HMB.out x hx).2.1 (HMB.out x hx).2.2.1 (HMB.out x hx).2.2.2 hs HV2.out (HWS.out ys hy hl) v hv
  have hmd : (m : Int) ≤ (d : Int) := by have := HMD.out; omega
  go_loopg [32, 33, 34, 35, 36, 37] (m + 1) (fun q b kk u34 u35 u36 u37 wr => ∃ k : Nat, kk = .int .i64 k ∧ k ≤ m + 1 ∧ m + 1 ≤ q + k ∧ b = .int .i64 (dpL f k) ∧ Hid (Below w21.heap.size w21 wr))
  case atStart => exact ⟨0, rfl, by omega, by omega, rfl, Below.refl _ _⟩
  case round =>
    obtain ⟨k, rfl, hk, hq, rfl, HBl⟩ := hrel
    obtain ⟨wo, rfl⟩ : ∃ x : World, x = wr := ⟨_, rfl⟩
    obtain ⟨bk, hbk⟩ : ∃ b, b = dpL f k := ⟨_, rfl⟩
    rw [← hbk]
    have HBK := Lib.hid hbk; clear hbk
    by_cases hlt : k ≤ m
    · have l1 : (k : Int) ≤ (m : Int) := by omega
      have l2 : (0 : Int) ≤ (k : Int) := by omega
      have l3 : (k : Int) ≤ (d : Int) := by omega
      obtain ⟨vp, hvp⟩ : ∃ v, v = cst L P E (xs.take k) := ⟨_, rfl⟩
      obtain ⟨vq, hvq⟩ : ∃ v, v = cst L' P' E' (xs.drop k) := ⟨_, rfl⟩
      have HVP := Lib.hid hvp; have HVQ := Lib.hid hvq
      have bp := cst_lt L P E (xs.take k); have bq := cst_lt L' P' E' (xs.drop k)
      have gp := cst_ge (w := xs.take k) HOA.out (by rw [List.length_take]; have := HW12.out; omega)
      have gq := cst_ge (w := xs.drop k) HOB.out (by rw [List.length_drop]; have := HW12.out; omega)
      rw [← hvp] at bp gp
      rw [← hvq] at bq gq
      clear hvp hvq
      have hP : Hid (∀ x : World, Below wo.heap.size wo x → Calls Try.prog 16 #[.agg #[.int .i64 (s : Int), .int .i64 (t : Int), .slice (some ⟨p2, 0, none⟩) L.length c2, .slice (some ⟨p3, 0, none⟩) P.length c3, .slice (some ⟨p4, 0, none⟩) E.length c4], .slice (some ⟨gw, 0, none⟩) k d] x fun e y => e = .returned (.tuple #[.int .i64 vp, .bool true]) ∧ Below x.heap.size x y) := fun x hx => HPA.out x _ k d (xs.take k) vp (HBl.out.trans (hx.mono HBl.out.size)) (slI_take (HWX.out x (HBl.out.trans (hx.mono HBl.out.size))) hlt) (fun y hy => List.mem_of_mem_take hy) (by rw [List.length_take]; have := HW12.out; omega) HVP.out
      have hcel : Hid (∀ x : World, Below wo.heap.size wo x → (Below wo.heap.size wo x ∧ x.cell? ⟨gA, 0, none⟩ = some (.int .i64 (s : Int)) ∧ x.cell? ⟨gA, 1, none⟩ = some (.int .i64 (t : Int)) ∧ x.cell? ⟨gA, 2, none⟩ = some (.slice (some ⟨p2, 0, none⟩) L.length c2) ∧ x.cell? ⟨gA, 3, none⟩ = some (.slice (some ⟨p3, 0, none⟩) P.length c3) ∧ x.cell? ⟨gA, 4, none⟩ = some (.slice (some ⟨p4, 0, none⟩) E.length c4))) := fun x hx => ⟨hx, HCA.out x (HBl.out.trans (hx.mono HBl.out.size))⟩
      have hkeep : Hid (∀ x y : World, Below wo.heap.size wo x → Below x.heap.size x y → (Below wo.heap.size wo y ∧ y.cell? ⟨gA, 0, none⟩ = some (.int .i64 (s : Int)) ∧ y.cell? ⟨gA, 1, none⟩ = some (.int .i64 (t : Int)) ∧ y.cell? ⟨gA, 2, none⟩ = some (.slice (some ⟨p2, 0, none⟩) L.length c2) ∧ y.cell? ⟨gA, 3, none⟩ = some (.slice (some ⟨p3, 0, none⟩) P.length c3) ∧ y.cell? ⟨gA, 4, none⟩ = some (.slice (some ⟨p4, 0, none⟩) E.length c4))) := fun x y h1 h2 => hcel.out y (h1.trans (h2.mono h1.size))
      have hfrom := hcel.out wo.drew (Below.drew (Below.refl _ _))
      go_wp2_with fail
      go_region_held3 (fun x => Below wo.heap.size wo x ∧ x.cell? ⟨gA, 0, none⟩ = some (.int .i64 (s : Int)) ∧ x.cell? ⟨gA, 1, none⟩ = some (.int .i64 (t : Int)) ∧ x.cell? ⟨gA, 2, none⟩ = some (.slice (some ⟨p2, 0, none⟩) L.length c2) ∧ x.cell? ⟨gA, 3, none⟩ = some (.slice (some ⟨p3, 0, none⟩) P.length c3) ∧ x.cell? ⟨gA, 4, none⟩ = some (.slice (some ⟨p4, 0, none⟩) E.length c4)) (first | (with_reducible assumption) | go_keep)
        (first
          | (go_at_call 16; refine (hP.out _ (by first | (with_reducible assumption) | (with_reducible (apply And.left; assumption)))).mono ?_; rintro e wp ⟨rfl, hbp⟩; have sp := (fun h => hkeep.out _ _ h hbp) (by first | (with_reducible assumption) | (with_reducible (apply And.left; assumption)))))
      have HBp := Lib.hid sp.1
      clear sp hbp hfrom hcel hkeep hP
      have HBq := Lib.hid (HBl.out.trans (HBp.out.mono HBl.out.size))
      have hcel : Hid (∀ x : World, Below wp.heap.size wp x → (Below wp.heap.size wp x ∧ x.cell? ⟨gB, 0, none⟩ = some (.int .i64 (s' : Int)) ∧ x.cell? ⟨gB, 1, none⟩ = some (.int .i64 (t : Int)) ∧ x.cell? ⟨gB, 2, none⟩ = some (.slice (some ⟨q2, 0, none⟩) L'.length d2) ∧ x.cell? ⟨gB, 3, none⟩ = some (.slice (some ⟨q3, 0, none⟩) P'.length d3) ∧ x.cell? ⟨gB, 4, none⟩ = some (.slice (some ⟨q4, 0, none⟩) E'.length d4))) := fun x hx => ⟨hx, HCB.out x (HBq.out.trans (hx.mono HBq.out.size))⟩
      have hkeep : Hid (∀ x y : World, Below wp.heap.size wp x → Below x.heap.size x y → (Below wp.heap.size wp y ∧ y.cell? ⟨gB, 0, none⟩ = some (.int .i64 (s' : Int)) ∧ y.cell? ⟨gB, 1, none⟩ = some (.int .i64 (t : Int)) ∧ y.cell? ⟨gB, 2, none⟩ = some (.slice (some ⟨q2, 0, none⟩) L'.length d2) ∧ y.cell? ⟨gB, 3, none⟩ = some (.slice (some ⟨q3, 0, none⟩) P'.length d3) ∧ y.cell? ⟨gB, 4, none⟩ = some (.slice (some ⟨q4, 0, none⟩) E'.length d4))) := fun x y h1 h2 => hcel.out y (h1.trans (h2.mono h1.size))
      have hfrom := hcel.out wp.drew (Below.drew (Below.refl _ _))
      have hQ : Hid (∀ x : World, Below wp.heap.size wp x → Calls Try.prog 16 #[.agg #[.int .i64 (s' : Int), .int .i64 (t : Int), .slice (some ⟨q2, 0, none⟩) L'.length d2, .slice (some ⟨q3, 0, none⟩) P'.length d3, .slice (some ⟨q4, 0, none⟩) E'.length d4], .slice (if d = k then some ⟨gw, 0, none⟩ else some ⟨gw, k, none⟩) (m - k) (d - k)] x fun e y => e = .returned (.tuple #[.int .i64 vq, .bool true]) ∧ Below x.heap.size x y) := fun x hx => HPB.out x _ (m - k) (d - k) (xs.drop k) vq (HBq.out.trans (hx.mono HBq.out.size)) (slI_dropd (HWX.out x (HBq.out.trans (hx.mono HBq.out.size))) hlt HMD.out) (fun y hy => List.mem_of_mem_drop hy) (by rw [List.length_drop]; have := HW12.out; omega) HVQ.out
      go_upto_region 28 with fail
      go_cut [36, 37] from 213 to 221 (fun v36 v37 wx => v36 = .int .i64 vq ∧ v37 = .bool true ∧ Hid (Below wp.heap.size wp wx))
      case first =>
        by_cases hdk : d = k
        · have hQp : Hid (∀ x : World, Below wp.heap.size wp x → Calls Try.prog 16 #[.agg #[.int .i64 (s' : Int), .int .i64 (t : Int), .slice (some ⟨q2, 0, none⟩) L'.length d2, .slice (some ⟨q3, 0, none⟩) P'.length d3, .slice (some ⟨q4, 0, none⟩) E'.length d4], .slice (some ⟨gw, 0, none⟩) (m - k) (d - k)] x fun e y => e = .returned (.tuple #[.int .i64 vq, .bool true]) ∧ Below x.heap.size x y) := by
            intro x hx
            have h := hQ.out x hx
            rw [if_pos hdk] at h
            exact h
          have hdt : (d = k) = True := eq_true hdk
          clear hdk hQ
          go_region_held3 (fun x => Below wp.heap.size wp x ∧ x.cell? ⟨gB, 0, none⟩ = some (.int .i64 (s' : Int)) ∧ x.cell? ⟨gB, 1, none⟩ = some (.int .i64 (t : Int)) ∧ x.cell? ⟨gB, 2, none⟩ = some (.slice (some ⟨q2, 0, none⟩) L'.length d2) ∧ x.cell? ⟨gB, 3, none⟩ = some (.slice (some ⟨q3, 0, none⟩) P'.length d3) ∧ x.cell? ⟨gB, 4, none⟩ = some (.slice (some ⟨q4, 0, none⟩) E'.length d4)) (first | (with_reducible assumption) | go_keep)
            (first
              | (go_at_call 16; refine (hQp.out _ (by first | (with_reducible assumption) | (with_reducible (apply And.left; assumption)))).mono ?_; rintro e wq ⟨rfl, hbq⟩; have sq := (fun h => hkeep.out _ _ h hbq) (by first | (with_reducible assumption) | (with_reducible (apply And.left; assumption)))))
          try go_wp2_with fail
          go_meet
          exact ⟨rfl, rfl, sq.1⟩
        · have hQp : Hid (∀ x : World, Below wp.heap.size wp x → Calls Try.prog 16 #[.agg #[.int .i64 (s' : Int), .int .i64 (t : Int), .slice (some ⟨q2, 0, none⟩) L'.length d2, .slice (some ⟨q3, 0, none⟩) P'.length d3, .slice (some ⟨q4, 0, none⟩) E'.length d4], .slice (some ⟨gw, k, none⟩) (m - k) (d - k)] x fun e y => e = .returned (.tuple #[.int .i64 vq, .bool true]) ∧ Below x.heap.size x y) := by
            intro x hx
            have h := hQ.out x hx
            rw [if_neg hdk] at h
            exact h
          have hdt : (d = k) = False := eq_false hdk
          clear hdk hQ
          go_region_held3 (fun x => Below wp.heap.size wp x ∧ x.cell? ⟨gB, 0, none⟩ = some (.int .i64 (s' : Int)) ∧ x.cell? ⟨gB, 1, none⟩ = some (.int .i64 (t : Int)) ∧ x.cell? ⟨gB, 2, none⟩ = some (.slice (some ⟨q2, 0, none⟩) L'.length d2) ∧ x.cell? ⟨gB, 3, none⟩ = some (.slice (some ⟨q3, 0, none⟩) P'.length d3) ∧ x.cell? ⟨gB, 4, none⟩ = some (.slice (some ⟨q4, 0, none⟩) E'.length d4)) (first | (with_reducible assumption) | go_keep)
            (first
              | (go_at_call 16; refine (hQp.out _ (by first | (with_reducible assumption) | (with_reducible (apply And.left; assumption)))).mono ?_; rintro e wq ⟨rfl, hbq⟩; have sq := (fun h => hkeep.out _ _ h hbq) (by first | (with_reducible assumption) | (with_reducible (apply And.left; assumption)))))
          try go_wp2_with fail
          go_meet
          exact ⟨rfl, rfl, sq.1⟩
      case rest =>
      obtain ⟨rfl, rfl, HBwq⟩ := hcut
      obtain ⟨wq, rfl⟩ : ∃ x : World, x = wc := ⟨_, rfl⟩
      have HBz := Lib.hid (HBq.out.trans (HBwq.out.mono HBq.out.size))
      have HFK : Hid (f k = r8A vp vq) := by show _ = _; rw [HFF.out, HVP.out, HVQ.out]
      clear hfrom hcel hkeep hQ
      by_cases hpp : 0 ≤ vp
      · by_cases hqq : 0 ≤ vq
        · have HST : Hid (dpL f (k + 1) = r8L bk (vp + vq)) := by show _ = _; rw [dpL_both HFK.out hpp hqq, HBK.out]
          have ew : IntKind.i64.wrap (vp + vq) = vp + vq := IntWalk.i64_in _ (by omega)
          have hLs := r8Less_any bk (vp + vq) wq
          rw [← HST.out] at hLs
          obtain ⟨bk1, hbk1⟩ : ∃ b, b = dpL f (k + 1) := ⟨_, rfl⟩
          rw [← hbk1] at hLs
          have HB1 := Lib.hid hbk1; clear hbk1
          go_wp2_with fail
          refine hLs.mono ?_
          rintro e w' ⟨rfl, hw⟩
          obtain rfl := hw
          clear hLs
          go_wp2_with fail
          go_roundg (gk - 1)
          case measure => omega
          case rel => exact ⟨k + 1, by go_num, by omega, by omega, by rw [HB1.out], HBz.out⟩
        · have HST : Hid (dpL f (k + 1) = bk) := by show _ = _; rw [dpL_not HFG.out HFK.out (fun h => hqq h.2), HBK.out]
          have hq1 : vq < 0 := by omega
          clear hqq
          go_wp2_with fail
          go_roundg (gk - 1)
          case measure => omega
          case rel => exact ⟨k + 1, by go_num, by omega, by omega, by rw [HST.out], HBz.out⟩
      · have HST : Hid (dpL f (k + 1) = bk) := by show _ = _; rw [dpL_not HFG.out HFK.out (fun h => hpp h.1), HBK.out]
        have hp1 : vp < 0 := by omega
        clear hpp
        go_wp2_with fail
        go_roundg (gk - 1)
        case measure => omega
        case rel => exact ⟨k + 1, by go_num, by omega, by omega, by rw [HST.out], HBz.out⟩
    · have hkm : k = m + 1 := by omega
      subst hkm
      have hbj : bk = vj := by rw [HBK.out, HVJ.out]
      subst hbj
      have hn1 : ¬ ((m + 1 : Nat) : Int) ≤ (m : Int) := by omega
      obtain ⟨wz, rfl⟩ : ∃ x : World, x = wo := ⟨_, rfl⟩
      have HR0 : Hid (RowI (wz.alloc (.cells ([.int .i64 0] : List Value).toArray 2)) wz.heap.size 2 (.slice (some ⟨wz.heap.size, 0, none⟩) 1 1) (lsL p 0)) := by
        have h := rowI_of (w := wz.alloc (.cells ([.int .i64 0] : List Value).toArray 2)) (base := wz.heap.size) (g := wz.heap.size) (t := 2) (xs := [0]) (Row.new wz 2 [.int .i64 0]) (Nat.le_refl _) (by simp [maxLen])
        exact h
      have HB0 : Hid (Below wz.heap.size wz (wz.alloc (.cells ([.int .i64 0] : List Value).toArray 2))) := (Below.refl _ _).alloc (Nat.le_refl _) _
      have HPL : Hid (∀ i k, p i k < 1099511627776) := fun i k => by rw [HPP.out]; exact cst_lt _ _ _ _
      clear hlt
      go_wp2_with fail
      go_loopg [38, 39, 40, 41, 42, 43] m (fun q ls kk u40 u41 u42 u43 wr => ∃ (k g c : Nat), kk = .int .i64 ((k : Int) + 1) ∧ k ≤ m ∧ m ≤ q + k ∧ ls = .slice (some ⟨g, 0, none⟩) (k + 1) c ∧ Hid (RowI wr wz.heap.size 2 (.slice (some ⟨g, 0, none⟩) (k + 1) c) (lsL p k)) ∧ Hid (Below wz.heap.size wz wr))
      case atStart => exact ⟨0, wz.heap.size, 1, rfl, by omega, by omega, rfl, HR0.out, HB0.out⟩
      case round =>
        clear HR0 HB0
        obtain ⟨k, g, c, rfl, hk2, hq2, rfl, HRL, HBm⟩ := hrel
        obtain ⟨wa, rfl⟩ : ∃ x : World, x = wr := ⟨_, rfl⟩
        obtain ⟨gz, hgz⟩ : ∃ x : Nat, x = gk := ⟨_, rfl⟩
        have HBa := Lib.hid (HBl.out.trans (HBm.out.mono HBl.out.size))
        by_cases hlt : k < m
        · have l1 : (k : Int) + 1 ≤ (m : Int) := by omega
          obtain ⟨fd, hfd⟩ : ∃ h : Nat → Int, h = fun i => r8A (g0 (lsL p k) i) (p i (k + 1)) := ⟨_, rfl⟩
          have HFD := Lib.hid hfd; clear hfd
          have HFDG : Hid (∀ i, -1 ≤ fd i) := fun i => by rw [HFD.out]; exact r8A_ge
          go_wp2_with fail
          go_loopg [40, 41, 42, 43] (k + 1) (fun q nw ii u42 u43 wr => ∃ j : Nat, ii = .int .i64 j ∧ j ≤ k + 1 ∧ k + 1 ≤ q + j ∧ nw = .int .i64 (dpL fd j) ∧ Hid (Below wa.heap.size wa wr))
          case atStart => exact ⟨0, rfl, by omega, by omega, rfl, Below.refl _ _⟩
          case round =>
            obtain ⟨j, rfl, hj, hq3, rfl, HBi⟩ := hrel
            obtain ⟨wo, rfl⟩ : ∃ x : World, x = wr := ⟨_, rfl⟩
            have HBo := Lib.hid (HBa.out.trans (HBi.out.mono HBa.out.size))
            obtain ⟨bk, hbk⟩ : ∃ b, b = dpL fd j := ⟨_, rfl⟩
            rw [← hbk]
            have HBK2 := Lib.hid hbk; clear hbk
            by_cases hlt2 : j < k + 1
            · have l2 : (j : Int) < (k : Int) + 1 := by omega
              have l3 : (0 : Int) ≤ (j : Int) := by omega
              have l4 : (j : Int) ≤ (k : Int) + 1 := by omega
              have l5 : (k : Int) + 1 ≤ (d : Int) := by omega
              have l6 : (j : Int) ≤ (d : Int) := by omega
              obtain ⟨vp, hvp⟩ : ∃ v, v = p j (k + 1) := ⟨_, rfl⟩
              obtain ⟨vl, hvl⟩ : ∃ v, v = g0 (lsL p k) j := ⟨_, rfl⟩
              have HVP := Lib.hid hvp
              have bp := HPL.out j (k + 1)
              have bl := lsL_bd HPL.out j j (Nat.le_refl j)
              rw [← lsL_at p (show j ≤ k by omega)] at bl
              have gl := lsL_ge p (show j ≤ k by omega)
              have HEP : Hid (vp = cst L P E ((xs.take (k + 1)).drop j)) := by show _ = _; rw [hvp, HPP.out]
              have gp := cst_ge (w := (xs.take (k + 1)).drop j) HOA.out (by rw [List.length_drop, List.length_take]; have := HW12.out; omega)
              rw [← HEP.out] at gp
              rw [← hvp] at bp
              rw [← hvl] at bl gl
              have hrl := RowI.keep HRL.out HBi.out (Nat.le_refl _)
              have hxl := g0_some (show j < (lsL p k).length by rw [lsL_len]; exact hlt2)
              rw [← hvl] at hxl
              have HFJ : Hid (fd j = r8A vl vp) := by show _ = _; rw [HFD.out, hvl, hvp]
              have bj : (j : Int) * 1099511627776 ≤ 12 * 1099511627776 := by omega
              clear hvp hvl
              have hP : Hid (∀ x : World, Below wo.heap.size wo x → Calls Try.prog 16 #[.agg #[.int .i64 (s : Int), .int .i64 (t : Int), .slice (some ⟨p2, 0, none⟩) L.length c2, .slice (some ⟨p3, 0, none⟩) P.length c3, .slice (some ⟨p4, 0, none⟩) E.length c4], .slice (if d = j then some ⟨gw, 0, none⟩ else some ⟨gw, j, none⟩) (k + 1 - j) (d - j)] x fun e y => e = .returned (.tuple #[.int .i64 vp, .bool true]) ∧ Below x.heap.size x y) := fun x hx => HPA.out x _ (k + 1 - j) (d - j) ((xs.take (k + 1)).drop j) vp (HBo.out.trans (hx.mono HBo.out.size)) (slI_dropd (slI_take (HWX.out x (HBo.out.trans (hx.mono HBo.out.size))) (by omega)) (by omega) (by omega)) (fun y hy => List.mem_of_mem_take (List.mem_of_mem_drop hy)) (by rw [List.length_drop, List.length_take]; have := HW12.out; omega) HEP.out
              have hcel : Hid (∀ x : World, Below wo.heap.size wo x → (Below wo.heap.size wo x ∧ x.cell? ⟨gA, 0, none⟩ = some (.int .i64 (s : Int)) ∧ x.cell? ⟨gA, 1, none⟩ = some (.int .i64 (t : Int)) ∧ x.cell? ⟨gA, 2, none⟩ = some (.slice (some ⟨p2, 0, none⟩) L.length c2) ∧ x.cell? ⟨gA, 3, none⟩ = some (.slice (some ⟨p3, 0, none⟩) P.length c3) ∧ x.cell? ⟨gA, 4, none⟩ = some (.slice (some ⟨p4, 0, none⟩) E.length c4))) := fun x hx => ⟨hx, HCA.out x (HBo.out.trans (hx.mono HBo.out.size))⟩
              have hkeep : Hid (∀ x y : World, Below wo.heap.size wo x → Below x.heap.size x y → (Below wo.heap.size wo y ∧ y.cell? ⟨gA, 0, none⟩ = some (.int .i64 (s : Int)) ∧ y.cell? ⟨gA, 1, none⟩ = some (.int .i64 (t : Int)) ∧ y.cell? ⟨gA, 2, none⟩ = some (.slice (some ⟨p2, 0, none⟩) L.length c2) ∧ y.cell? ⟨gA, 3, none⟩ = some (.slice (some ⟨p3, 0, none⟩) P.length c3) ∧ y.cell? ⟨gA, 4, none⟩ = some (.slice (some ⟨p4, 0, none⟩) E.length c4))) := fun x y h1 h2 => hcel.out y (h1.trans (h2.mono h1.size))
              have hfrom := hcel.out wo.drew (Below.drew (Below.refl _ _))
              have HRo := Lib.hid hrl
              clear hrl bj
              go_upto_region 41 with fail
              go_cut [42, 43] from 249 to 258 (fun v36 v37 wx => v36 = .int .i64 vp ∧ v37 = .bool true ∧ Hid (Below wo.heap.size wo wx))
              case first =>
                by_cases hdk : d = j
                · have hQp : Hid (∀ x : World, Below wo.heap.size wo x → Calls Try.prog 16 #[.agg #[.int .i64 (s : Int), .int .i64 (t : Int), .slice (some ⟨p2, 0, none⟩) L.length c2, .slice (some ⟨p3, 0, none⟩) P.length c3, .slice (some ⟨p4, 0, none⟩) E.length c4], .slice (some ⟨gw, 0, none⟩) (k + 1 - j) (d - j)] x fun e y => e = .returned (.tuple #[.int .i64 vp, .bool true]) ∧ Below x.heap.size x y) := by
                    intro x hx
                    have h := hP.out x hx
                    rw [if_pos hdk] at h
                    exact h
                  have hdt : (d = j) = True := eq_true hdk
                  clear hdk hP
                  go_region_held3 (fun x => Below wo.heap.size wo x ∧ x.cell? ⟨gA, 0, none⟩ = some (.int .i64 (s : Int)) ∧ x.cell? ⟨gA, 1, none⟩ = some (.int .i64 (t : Int)) ∧ x.cell? ⟨gA, 2, none⟩ = some (.slice (some ⟨p2, 0, none⟩) L.length c2) ∧ x.cell? ⟨gA, 3, none⟩ = some (.slice (some ⟨p3, 0, none⟩) P.length c3) ∧ x.cell? ⟨gA, 4, none⟩ = some (.slice (some ⟨p4, 0, none⟩) E.length c4)) (first | (with_reducible assumption) | go_keep)
                    (first
                      | (go_at_call 16; refine (hQp.out _ (by first | (with_reducible assumption) | (with_reducible (apply And.left; assumption)))).mono ?_; rintro e wp ⟨rfl, hbp⟩; have sp := (fun h => hkeep.out _ _ h hbp) (by first | (with_reducible assumption) | (with_reducible (apply And.left; assumption)))))
                  try go_wp2_with fail
                  go_meet
                  exact ⟨rfl, rfl, sp.1⟩
                · have hQp : Hid (∀ x : World, Below wo.heap.size wo x → Calls Try.prog 16 #[.agg #[.int .i64 (s : Int), .int .i64 (t : Int), .slice (some ⟨p2, 0, none⟩) L.length c2, .slice (some ⟨p3, 0, none⟩) P.length c3, .slice (some ⟨p4, 0, none⟩) E.length c4], .slice (some ⟨gw, j, none⟩) (k + 1 - j) (d - j)] x fun e y => e = .returned (.tuple #[.int .i64 vp, .bool true]) ∧ Below x.heap.size x y) := by
                    intro x hx
                    have h := hP.out x hx
                    rw [if_neg hdk] at h
                    exact h
                  have hdt : (d = j) = False := eq_false hdk
                  clear hdk hP
                  go_region_held3 (fun x => Below wo.heap.size wo x ∧ x.cell? ⟨gA, 0, none⟩ = some (.int .i64 (s : Int)) ∧ x.cell? ⟨gA, 1, none⟩ = some (.int .i64 (t : Int)) ∧ x.cell? ⟨gA, 2, none⟩ = some (.slice (some ⟨p2, 0, none⟩) L.length c2) ∧ x.cell? ⟨gA, 3, none⟩ = some (.slice (some ⟨p3, 0, none⟩) P.length c3) ∧ x.cell? ⟨gA, 4, none⟩ = some (.slice (some ⟨p4, 0, none⟩) E.length c4)) (first | (with_reducible assumption) | go_keep)
                    (first
                      | (go_at_call 16; refine (hQp.out _ (by first | (with_reducible assumption) | (with_reducible (apply And.left; assumption)))).mono ?_; rintro e wp ⟨rfl, hbp⟩; have sp := (fun h => hkeep.out _ _ h hbp) (by first | (with_reducible assumption) | (with_reducible (apply And.left; assumption)))))
                  try go_wp2_with fail
                  go_meet
                  exact ⟨rfl, rfl, sp.1⟩
              case rest =>
              obtain ⟨rfl, rfl, HBwp⟩ := hcut
              obtain ⟨wp, rfl⟩ : ∃ x : World, x = wc := ⟨_, rfl⟩
              have HBp := Lib.hid (HBi.out.trans (HBwp.out.mono HBi.out.size))
              have hrp := RowI.keep HRo.out HBwp.out (Nat.le_refl _)
              have kl := hrp.cell hxl
              clear hfrom hcel hkeep hP hxl hrp
              by_cases hpp : 0 ≤ vp
              · by_cases hll : 0 ≤ vl
                · have HST : Hid (dpL fd (j + 1) = r8L bk (vl + vp)) := by show _ = _; rw [dpL_both HFJ.out hll hpp, HBK2.out]
                  have ew : IntKind.i64.wrap (vl + vp) = vl + vp := IntWalk.i64_in _ (by omega)
                  have hLs := r8Less_any bk (vl + vp) wp
                  rw [← HST.out] at hLs
                  obtain ⟨bk1, hbk1⟩ : ∃ b, b = dpL fd (j + 1) := ⟨_, rfl⟩
                  rw [← hbk1] at hLs
                  have HB1 := Lib.hid hbk1; clear hbk1
                  go_wp2_with fail
                  refine hLs.mono ?_
                  rintro e w' ⟨rfl, hw⟩
                  obtain rfl := hw
                  clear hLs
                  go_wp2_with fail
                  go_roundg (gk - 1)
                  case measure => omega
                  case rel => exact ⟨j + 1, by go_num, by omega, by omega, by rw [HB1.out], HBp.out⟩
                · have HST : Hid (dpL fd (j + 1) = bk) := by show _ = _; rw [dpL_not HFDG.out HFJ.out (fun h => hll h.1), HBK2.out]
                  have hq1 : vl < 0 := by omega
                  clear hll
                  go_wp2_with fail
                  go_roundg (gk - 1)
                  case measure => omega
                  case rel => exact ⟨j + 1, by go_num, by omega, by omega, by rw [HST.out], HBp.out⟩
              · have HST : Hid (dpL fd (j + 1) = bk) := by show _ = _; rw [dpL_not HFDG.out HFJ.out (fun h => hpp h.2), HBK2.out]
                have hp1 : vp < 0 := by omega
                clear hpp
                go_wp2_with fail
                go_roundg (gk - 1)
                case measure => omega
                case rel => exact ⟨j + 1, by go_num, by omega, by omega, by rw [HST.out], HBp.out⟩
            · have hjk : j = k + 1 := by omega
              have HLN : Hid (lsL p (k + 1) = lsL p k ++ [bk]) := by show _ = _; rw [lsL, HBK2.out, HFD.out, hjk]
              have HRo := Lib.hid (RowI.keep HRL.out HBi.out (Nat.le_refl _))
              have HLL : Hid ((lsL p k).length = k + 1) := lsL_len p k
              have HLEN : Hid ((lsL p k).length + 1 ≤ 4294967296) := by show _ ≤ _; rw [HLL.out]; omega
              have hbs : wz.heap.size ≤ wo.heap.size := Nat.le_trans HBm.out.size HBi.out.size
              have hn2 : ¬ (j : Int) < (k : Int) + 1 := by omega
              clear hlt2 hjk
              go_wp2_with (first | (at_builtin; refine wpList_int_push wo rfl (.tmp 277) (.tmp 279) _ rfl wz.heap.size 2 Try.underlying26 infoQ (.slice (some ⟨g, 0, none⟩) (k + 1) c) (lsL p k) rfl HRo.out bk rfl HLEN.out hbs ?_; intro g' cap w' hown hbl hat hgr; have HOW := Lib.hid hown; have HBL := Lib.hid hbl; clear hown hbl hat hgr))
              go_roundg (gz - 1)
              case measure => omega
              case rel =>
                refine ⟨k + 1, g', cap, by go_num, by omega, by omega, by first | rfl | (rw [HLL.out]), ?_, (HBm.out.trans (HBi.out.mono HBm.out.size)).trans HBL.out⟩
                show RowI _ _ _ _ _
                rw [HLN.out]
                have := HOW.out
                rw [HLL.out] at this
                exact this
        · have hkm : k = m := by omega
          subst hkm
          have hn1 : ¬ (k : Int) + 1 ≤ (k : Int) := by omega
          have HKV : Hid (∀ x : World, Below wa.heap.size wa x → x.cell? ⟨g, k, none⟩ = some (.int .i64 vr)) := fun x hx => by
            rw [HVR.out]
            exact (RowI.keep HRL.out hx (Nat.le_refl _)).cell (g0_some (by rw [lsL_len]; omega))
          have hcel : Hid (∀ x : World, Below wa.heap.size wa x → (Below wa.heap.size wa x ∧ x.cell? ⟨gA, 0, none⟩ = some (.int .i64 (s : Int)) ∧ x.cell? ⟨gA, 1, none⟩ = some (.int .i64 (t : Int)) ∧ x.cell? ⟨gA, 2, none⟩ = some (.slice (some ⟨p2, 0, none⟩) L.length c2) ∧ x.cell? ⟨gA, 3, none⟩ = some (.slice (some ⟨p3, 0, none⟩) P.length c3) ∧ x.cell? ⟨gA, 4, none⟩ = some (.slice (some ⟨p4, 0, none⟩) E.length c4))) := fun x hx => ⟨hx, HCA.out x (HBa.out.trans (hx.mono HBa.out.size))⟩
          have hkeep : Hid (∀ x y : World, Below wa.heap.size wa x → Below x.heap.size x y → (Below wa.heap.size wa y ∧ y.cell? ⟨gA, 0, none⟩ = some (.int .i64 (s : Int)) ∧ y.cell? ⟨gA, 1, none⟩ = some (.int .i64 (t : Int)) ∧ y.cell? ⟨gA, 2, none⟩ = some (.slice (some ⟨p2, 0, none⟩) L.length c2) ∧ y.cell? ⟨gA, 3, none⟩ = some (.slice (some ⟨p3, 0, none⟩) P.length c3) ∧ y.cell? ⟨gA, 4, none⟩ = some (.slice (some ⟨p4, 0, none⟩) E.length c4))) := fun x y h1 h2 => hcel.out y (h1.trans (h2.mono h1.size))
          have hkeepA : Hid (∀ (x : World) (ob : Obj), Below wa.heap.size wa x → (Below wa.heap.size wa (x.alloc ob) ∧ (x.alloc ob).cell? ⟨gA, 0, none⟩ = some (.int .i64 (s : Int)) ∧ (x.alloc ob).cell? ⟨gA, 1, none⟩ = some (.int .i64 (t : Int)) ∧ (x.alloc ob).cell? ⟨gA, 2, none⟩ = some (.slice (some ⟨p2, 0, none⟩) L.length c2) ∧ (x.alloc ob).cell? ⟨gA, 3, none⟩ = some (.slice (some ⟨p3, 0, none⟩) P.length c3) ∧ (x.alloc ob).cell? ⟨gA, 4, none⟩ = some (.slice (some ⟨p4, 0, none⟩) E.length c4))) := fun x ob h1 => hcel.out _ (h1.alloc h1.size ob)
          have hkeepE : Hid (∀ (o1 : Obj), (Below wa.heap.size wa (wa.alloc o1).drew ∧ (wa.alloc o1).drew.cell? ⟨gA, 0, none⟩ = some (.int .i64 (s : Int)) ∧ (wa.alloc o1).drew.cell? ⟨gA, 1, none⟩ = some (.int .i64 (t : Int)) ∧ (wa.alloc o1).drew.cell? ⟨gA, 2, none⟩ = some (.slice (some ⟨p2, 0, none⟩) L.length c2) ∧ (wa.alloc o1).drew.cell? ⟨gA, 3, none⟩ = some (.slice (some ⟨p3, 0, none⟩) P.length c3) ∧ (wa.alloc o1).drew.cell? ⟨gA, 4, none⟩ = some (.slice (some ⟨p4, 0, none⟩) E.length c4))) := fun o1 => hcel.out _ (Below.drew ((Below.refl _ _).alloc (Nat.le_refl _) o1))
          have hkeepF : Hid (∀ (o1 o2 : Obj), (Below wa.heap.size wa ((wa.alloc o1).alloc o2).drew ∧ ((wa.alloc o1).alloc o2).drew.cell? ⟨gA, 0, none⟩ = some (.int .i64 (s : Int)) ∧ ((wa.alloc o1).alloc o2).drew.cell? ⟨gA, 1, none⟩ = some (.int .i64 (t : Int)) ∧ ((wa.alloc o1).alloc o2).drew.cell? ⟨gA, 2, none⟩ = some (.slice (some ⟨p2, 0, none⟩) L.length c2) ∧ ((wa.alloc o1).alloc o2).drew.cell? ⟨gA, 3, none⟩ = some (.slice (some ⟨p3, 0, none⟩) P.length c3) ∧ ((wa.alloc o1).alloc o2).drew.cell? ⟨gA, 4, none⟩ = some (.slice (some ⟨p4, 0, none⟩) E.length c4))) := fun o1 o2 => hcel.out _ (Below.drew (((Below.refl _ _).alloc (Nat.le_refl _) o1).alloc (by simp) o2))
          have hfrom := hcel.out wa.drew (Below.drew (Below.refl _ _))
          have hAt : Hid (∀ x : World, Below wa.heap.size wa x → Calls Try.prog 8 #[.slice a1 n1 c1, .int .i64 44, .int .i64 8] x fun e w' => e = .returned (.int .i64 k44) ∧ x = w') := fun x hx => A44.out x (HY1.out.below (s0_21.trans ((HBa.out.trans (hx.mono HBa.out.size)).mono s0_21.size)) (Nat.le_refl _))
          have hSh : Hid (∀ (x : World) (gq : Nat), Below wa.heap.size wa x → (∃ ge : Nat, Row x gq 26 [.slice (some ⟨gw, 0, none⟩) k d, .slice (some ⟨ge, 0, none⟩) 0 0, .slice (some ⟨gw, 0, none⟩) k d]) → Calls Try.prog 19 #[.agg #[.int .i64 (s : Int), .int .i64 (t : Int), .slice (some ⟨p2, 0, none⟩) L.length c2, .slice (some ⟨p3, 0, none⟩) P.length c3, .slice (some ⟨p4, 0, none⟩) E.length c4], .slice (some ⟨gq, 0, none⟩) 3 3, .int .i64 ((k44 : Int) + 1)] x fun e y => ∃ q c, e = .returned (.tuple #[.slice (some ⟨q, 0, none⟩) 3 c, .bool true]) ∧ RowI y wa.heap.size 2 (.slice (some ⟨q, 0, none⟩) 3 c) [vx, ve, vx] ∧ Below x.heap.size x y) := by
            intro x gq hx hre
            obtain ⟨ge, hr⟩ := hre
            have hbx := HBa.out.trans (hx.mono HBa.out.size)
            have hwx := HWX.out x hbx
            have hml : ∀ r : List Int, r.length ≤ 12 → r.length ≤ maxLen := fun r h => by unfold maxLen; omega
            have hSL : SlL x x.heap.size (some ⟨gq, 0, none⟩) 3 [xs, [], xs] := by
              refine ⟨_, hr.sl, rfl, fun j r hj => ?_⟩
              have hj3 : j = 0 ∨ j = 1 ∨ j = 2 := by have := (List.getElem?_eq_some_iff.1 hj).1; simp at this; omega
              rcases hj3 with rfl | rfl | rfl
              · obtain rfl : xs = r := by simpa using hj
                exact ⟨_, d, by rw [HXL.out]; rfl, by rw [HXL.out]; exact hwx, hml _ HW12.out⟩
              · obtain rfl : [] = r := by simpa using hj
                exact ⟨_, 0, rfl, SlV.nil _ _ _, Nat.zero_le _⟩
              · obtain rfl : xs = r := by simpa using hj
                exact ⟨_, d, by rw [HXL.out]; rfl, by rw [HXL.out]; exact hwx, hml _ HW12.out⟩
            refine (fShared (s : Int) (t : Int) L P E (some ⟨p2, 0, none⟩) L.length c2 (some ⟨p3, 0, none⟩) P.length c3 (some ⟨p4, 0, none⟩) E.length c4 gq 3 3 [xs, [], xs] ((k44 : Int) + 1) x (HMA.out x hbx).2.1 (HMA.out x hbx).2.2.1 (HMA.out x hbx).2.2.2 hSL HV1.out ?_ (by omega) ?_ (by omega) (by omega)).mono ?_
            · intro ys hy
              simp only [List.mem_cons, List.not_mem_nil, or_false] at hy
              rcases hy with rfl | rfl | rfl
              · exact HWB.out
              · exact HWB0.out
              · exact HWB.out
            · have := HW12.out
              simp [sumL]
              omega
            · rintro e y ⟨q, c, rfl, h1, h2⟩
              refine ⟨q, c, rfl, ?_, h2⟩
              have e1 : [xs, [], xs].map (cst L P E) = [vx, ve, vx] := by rw [HVX.out, HVE.out]; rfl
              rw [e1] at h1
              exact World.ownsRow.mono h1 hx.size
          have HW44 : Hid (Value.int .i64 (IntKind.i64.wrap (1 + (k44 : Int))) = .int .i64 ((k44 + 1 : Nat) : Int)) := by show _ = _; rw [W44]
          clear hlt
          go_upto_region 47 with fail
          go_cut [44, 45, 202] from 281 to 293 (fun v44 v45 v202 wx => ∃ q c, v44 = .slice (some ⟨q, 0, none⟩) 3 c ∧ v45 = .bool true ∧ Hid (RowI wx wa.heap.size 2 (.slice (some ⟨q, 0, none⟩) 3 c) [vx, ve, vx]) ∧ Hid (Below wa.heap.size wa wx))
          case first =>
            go_region_held3 (fun x => Below wa.heap.size wa x ∧ x.cell? ⟨gA, 0, none⟩ = some (.int .i64 (s : Int)) ∧ x.cell? ⟨gA, 1, none⟩ = some (.int .i64 (t : Int)) ∧ x.cell? ⟨gA, 2, none⟩ = some (.slice (some ⟨p2, 0, none⟩) L.length c2) ∧ x.cell? ⟨gA, 3, none⟩ = some (.slice (some ⟨p3, 0, none⟩) P.length c3) ∧ x.cell? ⟨gA, 4, none⟩ = some (.slice (some ⟨p4, 0, none⟩) E.length c4)) (first | (with_reducible assumption) | (with_reducible exact hkeepF.out _ _) | (with_reducible exact hkeepE.out _) | (with_reducible exact hkeepA.out _ _ (by first | (with_reducible assumption) | (with_reducible (apply And.left; assumption)))) | go_keep)
              (first
                | (go_at_call 8; refine (hAt.out _ (by first | (with_reducible assumption) | (with_reducible (apply And.left; assumption)))).mono ?_; rintro e w' ⟨rfl, hw⟩; obtain rfl := hw)
                | (go_at_call 19; refine (hSh.out _ _ (by first | (with_reducible assumption) | (with_reducible (apply And.left; assumption))) ?_).mono ?_; (apply Exists.intro); (repeat (first | (with_reducible exact Row.new _ _ _) | ((with_reducible refine rowNewE ?_); focus (simp; done)) | (with_reducible refine Row.drew ?_) | (with_reducible refine Row.alloc ?_ _))); rintro e wf ⟨q, c, rfl, hrf, hbf⟩; have sf := (fun h => hkeep.out _ _ h hbf) (by first | (with_reducible assumption) | (with_reducible (apply And.left; assumption)))))
            all_goals
              try go_wp2_with fail
              go_meet
              exact ⟨q, c, rfl, rfl, hrf, sf.1⟩
          case rest =>
          clear hfrom hcel hkeep hkeepA hkeepE hkeepF hAt hSh
          obtain ⟨q, cq, rfl, rfl, HRQ, HBf⟩ := hcut
          obtain ⟨wf, rfl⟩ : ∃ x : World, x = wc := ⟨_, rfl⟩
          have HBF := Lib.hid (HBa.out.trans (HBf.out.mono HBa.out.size))
          obtain ⟨cA0, cA1, cA2, cA3, cA4⟩ := HCA.out wf HBF.out
          have hba : Below wf.heap.size wf (wf.alloc (.cells #[] 2)) := (Below.refl _ _).alloc (Nat.le_refl _) _
          have hPe := HPA.out (wf.alloc (.cells #[] 2)) (some ⟨wf.heap.size, 0, none⟩) 0 0 [] ve (HBF.out.trans (hba.mono HBF.out.size)) (SlV.nil _ _ _) (by simp) (by simp) HVE.out
          have HBA := Lib.hid hba
          clear hba
          go_wp2_with fail
          clear cA0 cA1 cA2 cA3 cA4
          refine hPe.mono ?_
          clear hPe
          rintro e wg ⟨rfl, hbg⟩
          have HBG := Lib.hid (HBA.out.trans (hbg.mono HBA.out.size))
          clear hbg
          have kv := HKV.out wg (HBf.out.trans (HBG.out.mono HBf.out.size))
          have hrq := RowI.keep HRQ.out HBG.out (Nat.le_refl _)
          have z0q := hrq.cell (k := 0) (x := vx) rfl
          have z1q := hrq.cell (k := 1) (x := ve) rfl
          have z2q := hrq.cell (k := 2) (x := vx) rfl
          have i1 : (0 : Int) ≤ (k : Int) := by omega
          have i2 : (k : Int) < (k : Int) + 1 := by omega
          clear hrq
          go_wp2_with fail
          go_ret
          exact ⟨rfl, s0_21.trans ((HBF.out.trans (HBG.out.mono HBF.out.size)).mono s0_21.size)⟩
end Go.Proofs.Ytegponioggpkcaa.fnMachines
