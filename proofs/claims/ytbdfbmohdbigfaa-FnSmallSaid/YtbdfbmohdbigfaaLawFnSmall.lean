/- FnSmall: the walk: the law returns true. -/
import Derived.Test.YtbdfbmohdbigfaaMhi
import Derived.Deep.LoopGhost
import Derived.Deep.RegionHeld3
import Derived.Deep.CutRange

namespace Go.Proofs.Ytbdfbmohdbigfaa.fnSmall
open Go.RowKit
set_option linter.unusedVariables false
theorem r8v_nat (z : List Int) (k m : Nat) (h : 0 < m) : ∃ q : Nat, r8v z k (m : Int) = (q : Int) ∧ q < m := by
  have := r8v_bd (z := z) (k := k) (m := (m : Int)) (by omega)
  exact ⟨(r8v z k m).toNat, by omega, by omega⟩
set_option maxRecDepth 100000 in
set_option maxHeartbeats 40000000 in
theorem walk (a0 : Option Addr) (n0 c0 : Nat) (z0 : List Int) (a1 : Option Addr) (n1 c1 : Nat) (z1 : List Int) (w0 : World) (wf0 : IsRow .u8 w0 a0 n0 c0 z0) (wf1 : IsRow .u8 w0 a1 n1 c1 z1) :
    Calls Try.prog 6 #[.slice a0 n0 c0, .slice a1 n1 c1] w0 fun e w' => e = .returned (.bool true) ∧ Below w0.heap.size w0 w' := by
  have hl0 := wf0.lens; have hl1 := wf1.lens
  have hm0 : n0 ≤ maxLen := by omega
  have hm1 : n1 ≤ maxLen := by omega
  by_cases hlong : n0 ≤ 48 ∧ n1 ≤ 48
  case neg =>
    have hY := r8Long_yes a0 n0 c0 a1 n1 c1 w0 hm0 hm1 (by omega)
    clear hlong wf0 wf1 hl0 hl1 hm0 hm1
    go_enter Try.func6, Try.ntmps6
    go_wp2_with fail
    refine hY.mono ?_
    rintro e w' ⟨rfl, hw⟩
    obtain rfl := hw
    clear hY
    go_wp2_with fail
    go_ret
    exact ⟨rfl, Below.refl _ _⟩
  have hN := r8Long_no a0 n0 c0 a1 n1 c1 w0 hlong.1 hlong.2
  have HY0 := Lib.hid wf0.slY; have HY1 := Lib.hid wf1.slY
  obtain ⟨y0, hy0⟩ : ∃ y, y = z0.take n0 := ⟨_, rfl⟩
  obtain ⟨y1, hy1⟩ : ∃ y, y = z1.take n1 := ⟨_, rfl⟩
  rw [← hy0] at HY0
  rw [← hy1] at HY1
  clear hy0 hy1 wf0 wf1 hl0 hl1 hlong
  obtain ⟨k40, e40, l40⟩ := r8v_nat y1 40 3 (by omega)
  obtain ⟨k41, e41, l41⟩ := r8v_nat y1 41 6 (by omega)
  obtain ⟨k42, e42, l42⟩ := r8v_nat y1 42 6 (by omega)
  obtain ⟨k43, e43, l43⟩ := r8v_nat y1 43 10 (by omega)
  obtain ⟨k44, e44, l44⟩ := r8v_nat y1 44 2 (by omega)
  obtain ⟨k45, e45, l45⟩ := r8v_nat y1 45 2 (by omega)
  have A40 : Hid (∀ x : World, SlY x w0.heap.size a1 n1 y1 → Calls Try.prog 8 #[.slice a1 n1 c1, .int .i64 40, .int .i64 3] x fun e w' => e = .returned (.int .i64 k40) ∧ x = w') := fun x hx => by have h := r8At_any a1 n1 c1 y1 w0.heap.size x hx 40 3 (by omega) (by omega) (by omega) hm1; rw [show r8v y1 40 3 = (k40 : Int) from e40] at h; exact h
  have A41 : Hid (∀ x : World, SlY x w0.heap.size a1 n1 y1 → Calls Try.prog 8 #[.slice a1 n1 c1, .int .i64 41, .int .i64 6] x fun e w' => e = .returned (.int .i64 k41) ∧ x = w') := fun x hx => by have h := r8At_any a1 n1 c1 y1 w0.heap.size x hx 41 6 (by omega) (by omega) (by omega) hm1; rw [show r8v y1 41 6 = (k41 : Int) from e41] at h; exact h
  have A42 : Hid (∀ x : World, SlY x w0.heap.size a1 n1 y1 → Calls Try.prog 8 #[.slice a1 n1 c1, .int .i64 42, .int .i64 6] x fun e w' => e = .returned (.int .i64 k42) ∧ x = w') := fun x hx => by have h := r8At_any a1 n1 c1 y1 w0.heap.size x hx 42 6 (by omega) (by omega) (by omega) hm1; rw [show r8v y1 42 6 = (k42 : Int) from e42] at h; exact h
  have A43 : Hid (∀ x : World, SlY x w0.heap.size a1 n1 y1 → Calls Try.prog 8 #[.slice a1 n1 c1, .int .i64 43, .int .i64 10] x fun e w' => e = .returned (.int .i64 k43) ∧ x = w') := fun x hx => by have h := r8At_any a1 n1 c1 y1 w0.heap.size x hx 43 10 (by omega) (by omega) (by omega) hm1; rw [show r8v y1 43 10 = (k43 : Int) from e43] at h; exact h
  have A44 : Hid (∀ x : World, SlY x w0.heap.size a1 n1 y1 → Calls Try.prog 8 #[.slice a1 n1 c1, .int .i64 44, .int .i64 2] x fun e w' => e = .returned (.int .i64 k44) ∧ x = w') := fun x hx => by have h := r8At_any a1 n1 c1 y1 w0.heap.size x hx 44 2 (by omega) (by omega) (by omega) hm1; rw [show r8v y1 44 2 = (k44 : Int) from e44] at h; exact h
  have A45 : Hid (∀ x : World, SlY x w0.heap.size a1 n1 y1 → Calls Try.prog 8 #[.slice a1 n1 c1, .int .i64 45, .int .i64 2] x fun e w' => e = .returned (.int .i64 k45) ∧ x = w') := fun x hx => by have h := r8At_any a1 n1 c1 y1 w0.heap.size x hx 45 2 (by omega) (by omega) (by omega) hm1; rw [show r8v y1 45 2 = (k45 : Int) from e45] at h; exact h
  clear e40 e41 e42 e43 e44 e45
  obtain ⟨t, ht⟩ : ∃ t, t = k40 + 1 := ⟨_, rfl⟩
  have W40 : IntKind.i64.wrap (1 + (k40 : Int)) = (t : Int) := by rw [IntWalk.i64_in _ (by omega)]; omega
  obtain ⟨sa, hsa⟩ : ∃ t, t = k41 + 1 := ⟨_, rfl⟩
  have W41 : IntKind.i64.wrap (1 + (k41 : Int)) = (sa : Int) := by rw [IntWalk.i64_in _ (by omega)]; omega
  obtain ⟨sb, hsb⟩ : ∃ t, t = k42 + 1 := ⟨_, rfl⟩
  have W42 : IntKind.i64.wrap (1 + (k42 : Int)) = (sb : Int) := by rw [IntWalk.i64_in _ (by omega)]; omega
  obtain ⟨tf, htf⟩ : ∃ t, t = k45 + 1 := ⟨_, rfl⟩
  have W45 : IntKind.i64.wrap (1 + (k45 : Int)) = (tf : Int) := by rw [IntWalk.i64_in _ (by omega)]; omega
  have bt : 1 ≤ t ∧ t ≤ 3 := by omega
  have bsa : 1 ≤ sa ∧ sa ≤ 6 := by omega
  have bsb : 1 ≤ sb ∧ sb ≤ 6 := by omega
  have L43 : Hid (k43 ≤ 9) := by show _ ≤ _; omega
  have L44 : Hid (k44 ≤ 1) := by show _ ≤ _; omega
  have LTF : Hid (tf = 1 ∨ tf = 2) := by show _ ∨ _; omega
  have BT := Lib.hid bt; have BSA := Lib.hid bsa; have BSB := Lib.hid bsb
  have BT4 : Hid (1 ≤ t ∧ t ≤ 4) := ⟨bt.1, by omega⟩
  clear ht hsa hsb htf l40 l41 l42 l43 l44 l45 bt bsa bsb
  have M0 := Lib.hid hm0; have M1 := Lib.hid hm1
  clear hm0 hm1
  have HW45 := Lib.hid W45
  clear W45
  go_enter Try.func6, Try.ntmps6
  go_wp2_with fail
  refine hN.mono ?_
  rintro e w' ⟨rfl, hw⟩
  obtain rfl := hw
  clear hN
  go_wp2_with fail
  refine (A40.out w0 HY1.out).mono ?_
  rintro e w' ⟨rfl, hw⟩
  obtain rfl := hw
  clear A40
  go_wp2_with fail
  refine (A41.out w0 HY1.out).mono ?_
  rintro e w' ⟨rfl, hw⟩
  obtain rfl := hw
  clear A41
  go_wp2_with fail
  refine (r8Plain_any w0 a0 n0 c0 y0 HY0.out M0.out sa t BSA.out.1 BSA.out.2 BT.out.1 BT4.out.2).mono ?_
  rintro e w1 ⟨Pa, Ea, u2, u3, f2, f3, hl1, hb1', hl2, rfl, g2, g3, hb1⟩
  clear W40 W41
  have HPa_ := Px.new (c2 := f2) (c3 := f3) (PlOk.mk g2 g3 (⟨BSA.out.1, by have := BSA.out.2; omega⟩) BT4.out hl1 hb1' hl2)
  obtain ⟨ga, hg⟩ : ∃ x, x = w1.heap.size := ⟨_, rfl⟩
  obtain ⟨w2, hw⟩ : ∃ x, x = w1.alloc (.cells ([.int .i64 (sa : Int), .int .i64 (t : Int), .slice (some ⟨u2, 0, none⟩) Pa.length f2, .slice (some ⟨u3, 0, none⟩) Ea.length f3] : List Value).toArray 33) := ⟨_, rfl⟩
  have hb2 : Below w1.heap.size w1 (w1.alloc (.cells ([.int .i64 (sa : Int), .int .i64 (t : Int), .slice (some ⟨u2, 0, none⟩) Pa.length f2, .slice (some ⟨u3, 0, none⟩) Ea.length f3] : List Value).toArray 33)) := (Below.refl _ _).alloc (Nat.le_refl _) _
  rw [← hw, ← hg] at HPa_
  rw [← hw] at hb2
  have HPa := Lib.hid HPa_; clear HPa_
  clear g2 g3 hl1 hb1' hl2
  go_wp2_with fail
  change Calls _ _ _ (w1.alloc (.cells ([.int .i64 (sa : Int), .int .i64 (t : Int), .slice (some ⟨u2, 0, none⟩) Pa.length f2, .slice (some ⟨u3, 0, none⟩) Ea.length f3] : List Value).toArray 33)) _
  rw [← hw]
  try rw [← hg]
  clear hw hg
  have s0_2 : Below w0.heap.size w0 w2 := hb1.trans (hb2.mono hb1.size)
  refine (A42.out w2 (HY1.out.below s0_2 (Nat.le_refl _))).mono ?_
  rintro e w' ⟨rfl, hw⟩
  obtain rfl := hw
  clear A42
  go_wp2_with fail
  refine (r8Plain_any w2 a1 n1 c1 y1 ((HY1.out.below s0_2 (Nat.le_refl _)).more s0_2.size) M1.out sb t BSB.out.1 BSB.out.2 BT.out.1 BT4.out.2).mono ?_
  rintro e w3 ⟨Pb, Eb, v2, v3, h2, h3, hl1, hb1', hl2, rfl, g2, g3, hb3⟩
  clear W42
  have HPb_ := Px.new (c2 := h2) (c3 := h3) (PlOk.mk g2 g3 (⟨BSB.out.1, by have := BSB.out.2; omega⟩) BT4.out hl1 hb1' hl2)
  obtain ⟨gb, hg⟩ : ∃ x, x = w3.heap.size := ⟨_, rfl⟩
  obtain ⟨w4, hw⟩ : ∃ x, x = w3.alloc (.cells ([.int .i64 (sb : Int), .int .i64 (t : Int), .slice (some ⟨v2, 0, none⟩) Pb.length h2, .slice (some ⟨v3, 0, none⟩) Eb.length h3] : List Value).toArray 33) := ⟨_, rfl⟩
  have hb4 : Below w3.heap.size w3 (w3.alloc (.cells ([.int .i64 (sb : Int), .int .i64 (t : Int), .slice (some ⟨v2, 0, none⟩) Pb.length h2, .slice (some ⟨v3, 0, none⟩) Eb.length h3] : List Value).toArray 33)) := (Below.refl _ _).alloc (Nat.le_refl _) _
  rw [← hw, ← hg] at HPb_
  rw [← hw] at hb4
  have HPb := Lib.hid HPb_; clear HPb_
  clear g2 g3 hl1 hb1' hl2
  have s2_4 : Below w2.heap.size w2 w4 := hb3.trans (hb4.mono hb3.size)
  have r_ := ((HPa.out.below s2_4 (Nat.le_refl _))).1
  have HPac0 := r_.cell 0; have HPac1 := r_.cell 1; have HPac2 := r_.cell 2; have HPac3 := r_.cell 3
  clear r_
  try rw [hw] at HPac0
  try rw [hw] at HPac1
  try rw [hw] at HPac2
  try rw [hw] at HPac3
  try rw [hg] at HPac0
  try rw [hg] at HPac1
  try rw [hg] at HPac2
  try rw [hg] at HPac3
  go_wp2_with fail
  clear HPac0 HPac1 HPac2 HPac3
  change Calls _ _ _ (w3.alloc (.cells ([.int .i64 (sb : Int), .int .i64 (t : Int), .slice (some ⟨v2, 0, none⟩) Pb.length h2, .slice (some ⟨v3, 0, none⟩) Eb.length h3] : List Value).toArray 33)) _
  rw [← hw]
  try rw [← hg]
  clear hw hg
  have TA : Hid (TeO sa t Pa Ea) := HPa.out.2.teo
  have TB : Hid (TeO sb t Pb Eb) := HPb.out.2.teo
  refine (fSmall f2 f3 ((HPa.out.below s2_4 (Nat.le_refl _))).2).mono ?_
  rintro e w5 ⟨N, C2, e2, C3, e3, P1, E1, rfl, hok, hlp, hb5⟩
  have HLP := Lib.hid hlp
  have HRS := Lib.hid (hlp.res TA.out)
  clear hlp
  have HPs_ := Px.new (c2 := e2) (c3 := e3) hok
  obtain ⟨gs, hg⟩ : ∃ x, x = w5.heap.size := ⟨_, rfl⟩
  obtain ⟨w6, hw⟩ : ∃ x, x = w5.alloc (.cells ([.int .i64 (N : Int), .int .i64 (t : Int), .slice C2 P1.length e2, .slice C3 E1.length e3] : List Value).toArray 33) := ⟨_, rfl⟩
  have hb6 : Below w5.heap.size w5 (w5.alloc (.cells ([.int .i64 (N : Int), .int .i64 (t : Int), .slice C2 P1.length e2, .slice C3 E1.length e3] : List Value).toArray 33)) := (Below.refl _ _).alloc (Nat.le_refl _) _
  rw [← hw, ← hg] at HPs_
  rw [← hw] at hb6
  have HPs := Lib.hid HPs_; clear HPs_
  clear hok
  have r_ := (HPs.out).1
  have HPsc0 := r_.cell 0; have HPsc1 := r_.cell 1; have HPsc2 := r_.cell 2; have HPsc3 := r_.cell 3
  clear r_
  try rw [hw] at HPsc0
  try rw [hw] at HPsc1
  try rw [hw] at HPsc2
  try rw [hw] at HPsc3
  try rw [hg] at HPsc0
  try rw [hg] at HPsc1
  try rw [hg] at HPsc2
  try rw [hg] at HPsc3
  go_wp2_with fail
  clear HPsc0 HPsc1 HPsc2 HPsc3
  change Calls _ _ _ (w5.alloc (.cells ([.int .i64 (N : Int), .int .i64 (t : Int), .slice C2 P1.length e2, .slice C3 E1.length e3] : List Value).toArray 33)) _
  rw [← hw]
  try rw [← hg]
  clear hw hg
  refine (fSmall e2 e3 HPs.out.2).mono ?_
  rintro e w7 ⟨N', D2, i2, D3, i3, P1', E1', rfl, hok, hlp, hb7⟩
  obtain ⟨q1, q2, q3⟩ := HLP.out.same hlp TA.out HRS.out.1 (fun w hw => (HRS.out.2.2 w hw).symm)
  obtain rfl := q1.symm
  obtain rfl := q2.symm
  obtain rfl := q3.symm
  clear hlp
  have HPg_ := Px.new (c2 := i2) (c3 := i3) hok
  obtain ⟨gg, hg⟩ : ∃ x, x = w7.heap.size := ⟨_, rfl⟩
  obtain ⟨w8, hw⟩ : ∃ x, x = w7.alloc (.cells ([.int .i64 (N : Int), .int .i64 (t : Int), .slice D2 P1.length i2, .slice D3 E1.length i3] : List Value).toArray 33) := ⟨_, rfl⟩
  have hb8 : Below w7.heap.size w7 (w7.alloc (.cells ([.int .i64 (N : Int), .int .i64 (t : Int), .slice D2 P1.length i2, .slice D3 E1.length i3] : List Value).toArray 33)) := (Below.refl _ _).alloc (Nat.le_refl _) _
  rw [← hw, ← hg] at HPg_
  rw [← hw] at hb8
  have HPg := Lib.hid HPg_; clear HPg_
  clear hok
  have s2_5 : Below w2.heap.size w2 w5 := s2_4.trans (hb5.mono s2_4.size)
  have s2_6 : Below w2.heap.size w2 w6 := s2_5.trans (hb6.mono s2_5.size)
  have s2_7 : Below w2.heap.size w2 w7 := s2_6.trans (hb7.mono s2_6.size)
  have s2_8 : Below w2.heap.size w2 w8 := s2_7.trans (hb8.mono s2_7.size)
  have r_ := ((HPa.out.below s2_8 (Nat.le_refl _))).1
  have HPac0 := r_.cell 0; have HPac1 := r_.cell 1; have HPac2 := r_.cell 2; have HPac3 := r_.cell 3
  clear r_
  try rw [hw] at HPac0
  try rw [hw] at HPac1
  try rw [hw] at HPac2
  try rw [hw] at HPac3
  try rw [hg] at HPac0
  try rw [hg] at HPac1
  try rw [hg] at HPac2
  try rw [hg] at HPac3
  have s6_8 : Below w6.heap.size w6 w8 := hb7.trans (hb8.mono hb7.size)
  have r_ := ((HPs.out.below s6_8 (Nat.le_refl _))).1
  have HPsc0 := r_.cell 0; have HPsc1 := r_.cell 1; have HPsc2 := r_.cell 2; have HPsc3 := r_.cell 3
  clear r_
  try rw [hw] at HPsc0
  try rw [hw] at HPsc1
  try rw [hw] at HPsc2
  try rw [hw] at HPsc3
  try rw [hg] at HPsc0
  try rw [hg] at HPsc1
  try rw [hg] at HPsc2
  try rw [hg] at HPsc3
  go_wp2_with fail
  clear HPac0 HPac1 HPac2 HPac3
  clear HPsc0 HPsc1 HPsc2 HPsc3
  change Calls _ _ _ (w7.alloc (.cells ([.int .i64 (N : Int), .int .i64 (t : Int), .slice D2 P1.length i2, .slice D3 E1.length i3] : List Value).toArray 33)) _
  rw [← hw]
  try rw [← hg]
  clear hw hg
  refine (fApartNo f2 f3 e2 e3 ((HPa.out.below s2_8 (Nat.le_refl _))).2 ((HPs.out.below s6_8 (Nat.le_refl _))).2 HRS.out.2.2).mono ?_
  rintro e w9 ⟨rfl, hb9⟩
  have s2_9 : Below w2.heap.size w2 w9 := s2_8.trans (hb9.mono s2_8.size)
  have r_ := ((HPa.out.below s2_9 (Nat.le_refl _))).1
  have HPac0 := r_.cell 0; have HPac1 := r_.cell 1; have HPac2 := r_.cell 2; have HPac3 := r_.cell 3
  clear r_
  go_wp2_with fail
  clear HPac0 HPac1 HPac2 HPac3
  refine (fLearnS f2 f3 ((HPa.out.below s2_9 (Nat.le_refl _))).2 BSA.out.2 HLP.out).mono ?_
  rintro e w10 ⟨M, gs', L2, j2, L3, j3, P2, E2, rfl, hok, hMN, hg1, hgM, hlr, hb10⟩
  have HLR := Lib.hid hlr
  have TL : Hid (TeO M t P2 E2) := hok.teo
  have HMN := Lib.hid hMN; have HG1 := Lib.hid hg1; have HGM := Lib.hid hgM
  clear hlr hMN hg1 hgM
  have HPl_ := Px.new (c2 := j2) (c3 := j3) hok
  obtain ⟨gl, hg⟩ : ∃ x, x = w10.heap.size := ⟨_, rfl⟩
  obtain ⟨w11, hw⟩ : ∃ x, x = w10.alloc (.cells ([.int .i64 (M : Int), .int .i64 (t : Int), .slice L2 P2.length j2, .slice L3 E2.length j3] : List Value).toArray 33) := ⟨_, rfl⟩
  have hb11 : Below w10.heap.size w10 (w10.alloc (.cells ([.int .i64 (M : Int), .int .i64 (t : Int), .slice L2 P2.length j2, .slice L3 E2.length j3] : List Value).toArray 33)) := (Below.refl _ _).alloc (Nat.le_refl _) _
  rw [← hw, ← hg] at HPl_
  rw [← hw] at hb11
  have HPl := Lib.hid HPl_; clear HPl_
  clear hok
  have r_ := (HPl.out).1
  have HPlc0 := r_.cell 0; have HPlc1 := r_.cell 1; have HPlc2 := r_.cell 2; have HPlc3 := r_.cell 3
  clear r_
  try rw [hw] at HPlc0
  try rw [hw] at HPlc1
  try rw [hw] at HPlc2
  try rw [hw] at HPlc3
  try rw [hg] at HPlc0
  try rw [hg] at HPlc1
  try rw [hg] at HPlc2
  try rw [hg] at HPlc3
  go_wp2_with fail
  clear HPlc0 HPlc1 HPlc2 HPlc3
  change Calls _ _ _ (w10.alloc (.cells ([.int .i64 (M : Int), .int .i64 (t : Int), .slice L2 P2.length j2, .slice L3 E2.length j3] : List Value).toArray 33)) _
  rw [← hw]
  try rw [← hg]
  clear hw hg
  refine (fSmall j2 j3 HPl.out.2).mono ?_
  rintro e w12 ⟨N', K2, m2, K3, m3, P1', E1', rfl, hok, hlp, hb12⟩
  obtain ⟨q1, q2, q3⟩ := HLP.out.same hlp TA.out TL.out (fun w hw => (HLR.out w hw).symm)
  obtain rfl := q1.symm
  obtain rfl := q2.symm
  obtain rfl := q3.symm
  have hNM : M = N := by have := (hlp.res TL.out).2.1; have := HMN.out; omega
  have HNM := Lib.hid hNM
  clear hlp hNM
  have HPc_ := Px.new (c2 := m2) (c3 := m3) hok
  obtain ⟨gc, hg⟩ : ∃ x, x = w12.heap.size := ⟨_, rfl⟩
  obtain ⟨w13, hw⟩ : ∃ x, x = w12.alloc (.cells ([.int .i64 (N : Int), .int .i64 (t : Int), .slice K2 P1.length m2, .slice K3 E1.length m3] : List Value).toArray 33) := ⟨_, rfl⟩
  have hb13 : Below w12.heap.size w12 (w12.alloc (.cells ([.int .i64 (N : Int), .int .i64 (t : Int), .slice K2 P1.length m2, .slice K3 E1.length m3] : List Value).toArray 33)) := (Below.refl _ _).alloc (Nat.le_refl _) _
  rw [← hw, ← hg] at HPc_
  rw [← hw] at hb13
  have HPc := Lib.hid HPc_; clear HPc_
  clear hok
  have hNM := HNM.out
  subst hNM
  have HPL1 : Hid (P1.length ≤ 4294967296) := by
    show _ ≤ _
    have h1 := HRS.out.1.hl; have h4 := Nat.mul_le_mul HRS.out.1.hS.2 HRS.out.1.hT.2
    omega
  have HPL2 : Hid (E1.length ≤ 4294967296) := by show _ ≤ _; have h1 := HRS.out.1.hE; have h2 := HRS.out.1.hS; omega
  have z1 : ¬ (sa : Int) < (M : Int) := by have := HRS.out.2.1; omega
  have z2 : ¬ (gs' : Int) < 1 := by have := HG1.out; omega
  have wM : IntKind.i64.wrap ((M : Int) + 1) = (M : Int) + 1 := IntWalk.i64_in _ (by have := (HRS.out.1).hS; omega)
  have z3 : ¬ (M : Int) + 1 < (gs' : Int) := by have := HGM.out; omega
  have z4 : ((M : Int) == (M : Int)) = true := by simp
  have z5 : ((M : Int) != (M : Int)) = false := by simp
  have s6_9 : Below w6.heap.size w6 w9 := s6_8.trans (hb9.mono s6_8.size)
  have s6_10 : Below w6.heap.size w6 w10 := s6_9.trans (hb10.mono s6_9.size)
  have s6_11 : Below w6.heap.size w6 w11 := s6_10.trans (hb11.mono s6_10.size)
  have s6_12 : Below w6.heap.size w6 w12 := s6_11.trans (hb12.mono s6_11.size)
  have s6_13 : Below w6.heap.size w6 w13 := s6_12.trans (hb13.mono s6_12.size)
  have r_ := ((HPs.out.below s6_13 (Nat.le_refl _))).1
  have HPsc0 := r_.cell 0; have HPsc1 := r_.cell 1; have HPsc2 := r_.cell 2; have HPsc3 := r_.cell 3
  clear r_
  try rw [hw] at HPsc0
  try rw [hw] at HPsc1
  try rw [hw] at HPsc2
  try rw [hw] at HPsc3
  try rw [hg] at HPsc0
  try rw [hg] at HPsc1
  try rw [hg] at HPsc2
  try rw [hg] at HPsc3
  have s8_10 : Below w8.heap.size w8 w10 := hb9.trans (hb10.mono hb9.size)
  have s8_11 : Below w8.heap.size w8 w11 := s8_10.trans (hb11.mono s8_10.size)
  have s8_12 : Below w8.heap.size w8 w12 := s8_11.trans (hb12.mono s8_11.size)
  have s8_13 : Below w8.heap.size w8 w13 := s8_12.trans (hb13.mono s8_12.size)
  have r_ := ((HPg.out.below s8_13 (Nat.le_refl _))).1
  have HPgc0 := r_.cell 0; have HPgc1 := r_.cell 1; have HPgc2 := r_.cell 2; have HPgc3 := r_.cell 3
  clear r_
  try rw [hw] at HPgc0
  try rw [hw] at HPgc1
  try rw [hw] at HPgc2
  try rw [hw] at HPgc3
  try rw [hg] at HPgc0
  try rw [hg] at HPgc1
  try rw [hg] at HPgc2
  try rw [hg] at HPgc3
  go_wp2_with fail
  clear HPsc0 HPsc1 HPsc2 HPsc3
  clear HPgc0 HPgc1 HPgc2 HPgc3
  change Calls _ _ _ (w12.alloc (.cells ([.int .i64 (M : Int), .int .i64 (t : Int), .slice K2 P1.length m2, .slice K3 E1.length m3] : List Value).toArray 33)) _
  rw [← hw]
  try rw [← hg]
  clear hw hg
  refine (iSameP_any M t D2 P1.length i2 D3 E1.length i3 C2 e2 C3 e3 P1 E1 w13 ((HPg.out.below s8_13 (Nat.le_refl _))).2.h2 ((HPg.out.below s8_13 (Nat.le_refl _))).2.h3 ((HPs.out.below s6_13 (Nat.le_refl _))).2.h2 ((HPs.out.below s6_13 (Nat.le_refl _))).2.h3 HPL1.out HPL2.out).mono ?_
  rintro e w14 ⟨rfl, hb14⟩
  have s6_14 : Below w6.heap.size w6 w14 := s6_13.trans (hb14.mono s6_13.size)
  have r_ := ((HPs.out.below s6_14 (Nat.le_refl _))).1
  have HPsc0 := r_.cell 0; have HPsc1 := r_.cell 1; have HPsc2 := r_.cell 2; have HPsc3 := r_.cell 3
  clear r_
  have s2_10 : Below w2.heap.size w2 w10 := s2_9.trans (hb10.mono s2_9.size)
  have s2_11 : Below w2.heap.size w2 w11 := s2_10.trans (hb11.mono s2_10.size)
  have s2_12 : Below w2.heap.size w2 w12 := s2_11.trans (hb12.mono s2_11.size)
  have s2_13 : Below w2.heap.size w2 w13 := s2_12.trans (hb13.mono s2_12.size)
  have s2_14 : Below w2.heap.size w2 w14 := s2_13.trans (hb14.mono s2_13.size)
  have r_ := ((HPa.out.below s2_14 (Nat.le_refl _))).1
  have HPac0 := r_.cell 0; have HPac1 := r_.cell 1; have HPac2 := r_.cell 2; have HPac3 := r_.cell 3
  clear r_
  have s11_13 : Below w11.heap.size w11 w13 := hb12.trans (hb13.mono hb12.size)
  have s11_14 : Below w11.heap.size w11 w14 := s11_13.trans (hb14.mono s11_13.size)
  have r_ := ((HPl.out.below s11_14 (Nat.le_refl _))).1
  have HPlc0 := r_.cell 0; have HPlc1 := r_.cell 1; have HPlc2 := r_.cell 2; have HPlc3 := r_.cell 3
  clear r_
  have r_ := ((HPc.out.below hb14 (Nat.le_refl _))).1
  have HPcc0 := r_.cell 0; have HPcc1 := r_.cell 1; have HPcc2 := r_.cell 2; have HPcc3 := r_.cell 3
  clear r_
  go_wp2_with fail
  clear HPsc0 HPsc1 HPsc2 HPsc3
  clear HPac0 HPac1 HPac2 HPac3
  clear HPlc0 HPlc1 HPlc2 HPlc3
  clear HPcc0 HPcc1 HPcc2 HPcc3
  refine (iSameP_any M t K2 P1.length m2 K3 E1.length m3 C2 e2 C3 e3 P1 E1 w14 ((HPc.out.below hb14 (Nat.le_refl _))).2.h2 ((HPc.out.below hb14 (Nat.le_refl _))).2.h3 ((HPs.out.below s6_14 (Nat.le_refl _))).2.h2 ((HPs.out.below s6_14 (Nat.le_refl _))).2.h3 HPL1.out HPL2.out).mono ?_
  rintro e w15 ⟨rfl, hb15⟩
  go_wp2_with fail
  have s0_3 : Below w0.heap.size w0 w3 := s0_2.trans (hb3.mono s0_2.size)
  have s0_4 : Below w0.heap.size w0 w4 := s0_3.trans (hb4.mono s0_3.size)
  have s0_5 : Below w0.heap.size w0 w5 := s0_4.trans (hb5.mono s0_4.size)
  have s0_6 : Below w0.heap.size w0 w6 := s0_5.trans (hb6.mono s0_5.size)
  have s0_7 : Below w0.heap.size w0 w7 := s0_6.trans (hb7.mono s0_6.size)
  have s0_8 : Below w0.heap.size w0 w8 := s0_7.trans (hb8.mono s0_7.size)
  have s0_9 : Below w0.heap.size w0 w9 := s0_8.trans (hb9.mono s0_8.size)
  have s0_10 : Below w0.heap.size w0 w10 := s0_9.trans (hb10.mono s0_9.size)
  have s0_11 : Below w0.heap.size w0 w11 := s0_10.trans (hb11.mono s0_10.size)
  have s0_12 : Below w0.heap.size w0 w12 := s0_11.trans (hb12.mono s0_11.size)
  have s0_13 : Below w0.heap.size w0 w13 := s0_12.trans (hb13.mono s0_12.size)
  have s0_14 : Below w0.heap.size w0 w14 := s0_13.trans (hb14.mono s0_13.size)
  have s0_15 : Below w0.heap.size w0 w15 := s0_14.trans (hb15.mono s0_14.size)
  refine (A43.out w15 (HY1.out.below s0_15 (Nat.le_refl _))).mono ?_
  rintro e w' ⟨rfl, hw⟩
  obtain rfl := hw
  clear A43
  clear z1 z2 z3 z4 z5 wM
  go_wp2_with fail
  refine (r8Word_any w15 a1 n1 c1 y1 ((HY1.out.below s0_15 (Nat.le_refl _)).more s0_15.size) M1.out k43 t (by have := L43.out; omega) BT.out.1 BT4.out.2).mono ?_
  rintro e w16 ⟨xs, gw, d, hxl, hxr, rfl, hrw, hb16⟩
  have HXL := Lib.hid hxl; have HW := Lib.hid hrw
  obtain ⟨zs, hzs⟩ : ∃ z, z = xs.map Int.toNat := ⟨_, rfl⟩
  have hz := natW_of hxr
  rw [← hzs] at hz
  have HZ := Lib.hid hz.1; have HZL := Lib.hid hz.2
  have HX12 : Hid (xs.length ≤ 12) := by show _ ≤ _; rw [hxl]; have := L43.out; omega
  have HZ12 : Hid (zs.length ≤ 12) := by show _ ≤ _; rw [hzs, List.length_map]; exact HX12.out
  have HZK : Hid (zs.length = k43) := by show _ = _; rw [hzs, List.length_map, hxl]
  obtain ⟨ra, hra⟩ : ∃ b, b = rdP t Pa Ea zs := ⟨_, rfl⟩
  obtain ⟨rb, hrb⟩ : ∃ b, b = rdP t Pb Eb zs := ⟨_, rfl⟩
  have HRA := Lib.hid hra; have HRB := Lib.hid hrb
  have HR1 : Hid (rdP t P1 E1 zs = ra) := by show _ = _; rw [HRS.out.2.2 zs hz.2, hra]
  have HR2 : Hid (rdP t P2 E2 zs = ra) := by show _ = _; rw [HLR.out zs hz.2, hra]
  clear hxl hxr hrw hzs hz hra hrb
  have s2_15 : Below w2.heap.size w2 w15 := s2_14.trans (hb15.mono s2_14.size)
  have s2_16 : Below w2.heap.size w2 w16 := s2_15.trans (hb16.mono s2_15.size)
  have r_ := ((HPa.out.below s2_16 (Nat.le_refl _))).1
  have HPac0 := r_.cell 0; have HPac1 := r_.cell 1; have HPac2 := r_.cell 2; have HPac3 := r_.cell 3
  clear r_
  go_wp2_with fail
  clear HPac0 HPac1 HPac2 HPac3
  refine (fReads f2 f3 d ((HPa.out.below s2_16 (Nat.le_refl _))).2 (HW.out.sl HXL.out) zs HZ.out HZL.out HX12.out ra HRA.out.symm).mono ?_
  rintro e w17 ⟨rfl, hb17⟩
  have s6_15 : Below w6.heap.size w6 w15 := s6_14.trans (hb15.mono s6_14.size)
  have s6_16 : Below w6.heap.size w6 w16 := s6_15.trans (hb16.mono s6_15.size)
  have s6_17 : Below w6.heap.size w6 w17 := s6_16.trans (hb17.mono s6_16.size)
  have r_ := ((HPs.out.below s6_17 (Nat.le_refl _))).1
  have HPsc0 := r_.cell 0; have HPsc1 := r_.cell 1; have HPsc2 := r_.cell 2; have HPsc3 := r_.cell 3
  clear r_
  go_wp2_with fail
  clear HPsc0 HPsc1 HPsc2 HPsc3
  refine (fReads e2 e3 d ((HPs.out.below s6_17 (Nat.le_refl _))).2 ((RowI.keep HW.out hb17 (Nat.le_refl _)).sl HXL.out) zs HZ.out HZL.out HX12.out ra HR1.out).mono ?_
  rintro e w18 ⟨rfl, hb18⟩
  have s11_15 : Below w11.heap.size w11 w15 := s11_14.trans (hb15.mono s11_14.size)
  have s11_16 : Below w11.heap.size w11 w16 := s11_15.trans (hb16.mono s11_15.size)
  have s11_17 : Below w11.heap.size w11 w17 := s11_16.trans (hb17.mono s11_16.size)
  have s11_18 : Below w11.heap.size w11 w18 := s11_17.trans (hb18.mono s11_17.size)
  have r_ := ((HPl.out.below s11_18 (Nat.le_refl _))).1
  have HPlc0 := r_.cell 0; have HPlc1 := r_.cell 1; have HPlc2 := r_.cell 2; have HPlc3 := r_.cell 3
  clear r_
  go_wp2_with fail
  clear HPlc0 HPlc1 HPlc2 HPlc3
  have s16_18 : Below w16.heap.size w16 w18 := hb17.trans (hb18.mono hb17.size)
  refine (fReads j2 j3 d ((HPl.out.below s11_18 (Nat.le_refl _))).2 ((RowI.keep HW.out s16_18 (Nat.le_refl _)).sl HXL.out) zs HZ.out HZL.out HX12.out ra HR2.out).mono ?_
  rintro e w19 ⟨rfl, hb19⟩
  have s4_6 : Below w4.heap.size w4 w6 := hb5.trans (hb6.mono hb5.size)
  have s4_7 : Below w4.heap.size w4 w7 := s4_6.trans (hb7.mono s4_6.size)
  have s4_8 : Below w4.heap.size w4 w8 := s4_7.trans (hb8.mono s4_7.size)
  have s4_9 : Below w4.heap.size w4 w9 := s4_8.trans (hb9.mono s4_8.size)
  have s4_10 : Below w4.heap.size w4 w10 := s4_9.trans (hb10.mono s4_9.size)
  have s4_11 : Below w4.heap.size w4 w11 := s4_10.trans (hb11.mono s4_10.size)
  have s4_12 : Below w4.heap.size w4 w12 := s4_11.trans (hb12.mono s4_11.size)
  have s4_13 : Below w4.heap.size w4 w13 := s4_12.trans (hb13.mono s4_12.size)
  have s4_14 : Below w4.heap.size w4 w14 := s4_13.trans (hb14.mono s4_13.size)
  have s4_15 : Below w4.heap.size w4 w15 := s4_14.trans (hb15.mono s4_14.size)
  have s4_16 : Below w4.heap.size w4 w16 := s4_15.trans (hb16.mono s4_15.size)
  have s4_17 : Below w4.heap.size w4 w17 := s4_16.trans (hb17.mono s4_16.size)
  have s4_18 : Below w4.heap.size w4 w18 := s4_17.trans (hb18.mono s4_17.size)
  have s4_19 : Below w4.heap.size w4 w19 := s4_18.trans (hb19.mono s4_18.size)
  have r_ := ((HPb.out.below s4_19 (Nat.le_refl _))).1
  have HPbc0 := r_.cell 0; have HPbc1 := r_.cell 1; have HPbc2 := r_.cell 2; have HPbc3 := r_.cell 3
  clear r_
  go_wp2_with fail
  clear HPbc0 HPbc1 HPbc2 HPbc3
  have s16_19 : Below w16.heap.size w16 w19 := s16_18.trans (hb19.mono s16_18.size)
  refine (fReads h2 h3 d ((HPb.out.below s4_19 (Nat.le_refl _))).2 ((RowI.keep HW.out s16_19 (Nat.le_refl _)).sl HXL.out) zs HZ.out HZL.out HX12.out rb HRB.out.symm).mono ?_
  rintro e w20 ⟨rfl, hb20⟩
  have s2_17 : Below w2.heap.size w2 w17 := s2_16.trans (hb17.mono s2_16.size)
  have s2_18 : Below w2.heap.size w2 w18 := s2_17.trans (hb18.mono s2_17.size)
  have s2_19 : Below w2.heap.size w2 w19 := s2_18.trans (hb19.mono s2_18.size)
  have s2_20 : Below w2.heap.size w2 w20 := s2_19.trans (hb20.mono s2_19.size)
  have r_ := ((HPa.out.below s2_20 (Nat.le_refl _))).1
  have HPac0 := r_.cell 0; have HPac1 := r_.cell 1; have HPac2 := r_.cell 2; have HPac3 := r_.cell 3
  clear r_
  have s4_20 : Below w4.heap.size w4 w20 := s4_19.trans (hb20.mono s4_19.size)
  have r_ := ((HPb.out.below s4_20 (Nat.le_refl _))).1
  have HPbc0 := r_.cell 0; have HPbc1 := r_.cell 1; have HPbc2 := r_.cell 2; have HPbc3 := r_.cell 3
  clear r_
  go_wp2_with fail
  clear HPac0 HPac1 HPac2 HPac3
  clear HPbc0 HPbc1 HPbc2 HPbc3
  refine (fApart f2 f3 h2 h3 ((HPa.out.below s2_20 (Nat.le_refl _))).2 ((HPb.out.below s4_20 (Nat.le_refl _))).2).mono ?_
  rintro e w21 ⟨Aw, nw, cw, bw, rfl, hbf, hbt, hb21⟩
  have HBF := Lib.hid hbf; have HBT := Lib.hid hbt
  clear hbf hbt
  go_upto_region 19 with fail
  go_cut [20, 22, 24, 26, 29, 150, 153, 154, 156, 159, 160, 162, 165, 166, 168, 171, 172, 174, 177, 179, 219] from 180 to 218 (fun u20 u22 u24 u26 u29 u150 u153 u154 u156 u159 u160 u162 u165 u166 u168 u171 u172 u174 u177 u179 b wx => b = .bool false ∧ u29 = .bool bw ∧ Hid (w21 = wx))
  case first =>
    cases bw with
    | false =>
      have hxy : ra = rb := by rw [HRA.out, HRB.out]; exact HBF.out rfl zs HZL.out HZ12.out
      subst hxy
      go_wp2_with fail
      all_goals
        go_meet
        exact ⟨rfl, rfl, rfl⟩
    | true =>
      by_cases hxy : ra = rb
      · subst hxy
        go_wp2_with fail
        all_goals
          go_meet
          exact ⟨rfl, rfl, rfl⟩
      · have hle : nw ≤ k43 := by
          obtain ⟨xf, q1, q2, q3, q4, q5, q6⟩ := HBT.out rfl
          have := q6 zs HZL.out HZ12.out (by rw [← HRA.out, ← HRB.out]; exact hxy)
          have := HZK.out
          omega
        have z1 : ¬ (k43 : Int) < (nw : Int) := by omega
        clear hle hxy
        go_wp2_with fail
        all_goals
          go_meet
          exact ⟨rfl, rfl, rfl⟩
  case rest =>
  obtain ⟨rfl, rfl, hcw⟩ := hcut
  obtain rfl := hcw.out
  clear hcw
  have s2_21 : Below w2.heap.size w2 w21 := s2_20.trans (hb21.mono s2_20.size)
  have r_ := ((HPa.out.below s2_21 (Nat.le_refl _))).1
  have HPac0 := r_.cell 0; have HPac1 := r_.cell 1; have HPac2 := r_.cell 2; have HPac3 := r_.cell 3
  clear r_
  have s4_21 : Below w4.heap.size w4 w21 := s4_20.trans (hb21.mono s4_20.size)
  have r_ := ((HPb.out.below s4_21 (Nat.le_refl _))).1
  have HPbc0 := r_.cell 0; have HPbc1 := r_.cell 1; have HPbc2 := r_.cell 2; have HPbc3 := r_.cell 3
  clear r_
  go_upto_if 220 with fail
  go_cut [29, 220, 30, 31, 32, 33] from 221 to 243 (fun u29 u220 u30 u31 u32 u33 wx => Hid (Below w21.heap.size w21 wx))
  case first =>
    cases bw with
    | false =>
      go_wp2_with fail
      all_goals
        go_meet
        exact Below.refl _ _
    | true =>
      obtain ⟨xf, q1, q2, q3, q4, q5, q6⟩ := HBT.out rfl
      have HXN : Hid ((natW xf).length = nw) := by show _ = _; rw [natW_len, q1]
      have HXV := Lib.hid q2; have HX9 : Hid ((natW xf).length ≤ 12) := by show _ ≤ _; rw [natW_len, q1]; exact q3
      have HXS := Lib.hid q4; have HXNE := Lib.hid q5
      obtain ⟨pa, hpa⟩ : ∃ b, b = rdP t Pa Ea xf := ⟨_, rfl⟩
      obtain ⟨pb, hpb⟩ : ∃ b, b = rdP t Pb Eb xf := ⟨_, rfl⟩
      have HPA := Lib.hid hpa; have HPB := Lib.hid hpb
      have zne : (pa == pb) = false := by
        have h := HXNE.out
        rw [← hpa, ← hpb] at h
        simpa using h
      clear q1 q2 q3 q4 q5 q6 hpa hpb
      go_wp2_with fail
      clear HPac0 HPac1 HPac2 HPac3 HPbc0 HPbc1 HPbc2 HPbc3
      refine (fReads f2 f3 cw ((HPa.out.below s2_21 (Nat.le_refl _))).2 HXS.out xf rfl HXV.out HX9.out pa HPA.out.symm).mono ?_
      rintro e wp ⟨rfl, hbp⟩
      have RB := Lib.hid ((HPb.out.below s4_21 (Nat.le_refl _)).below hbp (Nat.le_refl _))
      have qb0 := RB.out.1.cell 0; have qb1 := RB.out.1.cell 1; have qb2 := RB.out.1.cell 2; have qb3 := RB.out.1.cell 3
      go_wp2_with fail
      refine (fReads h2 h3 cw RB.out.2 ((HXS.out.below hbp (Nat.le_refl _)).more hbp.size) xf rfl HXV.out HX9.out pb HPB.out.symm).mono ?_
      rintro e wq ⟨rfl, hbq⟩
      clear qb0 qb1 qb2 qb3
      have HBQ : Hid (Below w21.heap.size w21 wq) := hbp.trans (hbq.mono hbp.size)
      clear hbp hbq
      go_wp2_with fail
      all_goals
        go_meet
        exact HBQ.out
  case rest =>
  clear HPac0 HPac1 HPac2 HPac3 HPbc0 HPbc1 HPbc2 HPbc3
  have hb22 := hcut.out
  clear hcut HBF HBT
  obtain ⟨w22, rfl⟩ : ∃ x : World, x = wc := ⟨_, rfl⟩
  have hg0 := Wl.two w22 [0] [0, 0, 0] (by decide) (by decide)
  have hb23 : Below w22.heap.size w22 (((w22.alloc (.cells (iv [0]).toArray 2)).alloc (.cells (iv [0, 0, 0]).toArray 2)).alloc (.cells ([.slice (some ⟨w22.heap.size, 0, none⟩) 1 1, .slice (some ⟨w22.heap.size + 1, 0, none⟩) 3 3] : List Value).toArray 26)) := (((Below.refl _ _).alloc (Nat.le_refl _) _).alloc (by simp) _).alloc (by simp; omega) _
  obtain ⟨w23, hw23⟩ : ∃ x, x = (((w22.alloc (.cells (iv [0]).toArray 2)).alloc (.cells (iv [0, 0, 0]).toArray 2)).alloc (.cells ([.slice (some ⟨w22.heap.size, 0, none⟩) 1 1, .slice (some ⟨w22.heap.size + 1, 0, none⟩) 3 3] : List Value).toArray 26)) := ⟨_, rfl⟩
  have hg1 : Wl w23 w22.heap.size (w22.heap.size + 1 + 1) 2 [.slice (some ⟨w22.heap.size, 0, none⟩) 1 1, .slice (some ⟨w22.heap.size + 1, 0, none⟩) 3 3] (gdL false) := by rw [hw23]; exact hg0
  rw [← hw23] at hb23
  have HW23 : Hid (w23 = (((w22.alloc (.cells #[.int .i64 0] 2)).alloc (.cells #[.int .i64 0, .int .i64 0, .int .i64 0] 2)).alloc (.cells #[.slice (some ⟨w22.heap.size, 0, none⟩) 1 1, .slice (some ⟨w22.heap.size + 1, 0, none⟩) 3 3] 26))) := hw23
  have HG1 := Lib.hid hg1
  clear hg0 hw23
  go_upto_region 27 with fail
  rw [← HW23.out]
  have hg0 := Wl.two w23 [] [0, 0] (by decide) (by decide)
  have hb24 : Below w23.heap.size w23 (((w23.alloc (.cells (iv []).toArray 2)).alloc (.cells (iv [0, 0]).toArray 2)).alloc (.cells ([.slice (some ⟨w23.heap.size, 0, none⟩) 0 0, .slice (some ⟨w23.heap.size + 1, 0, none⟩) 2 2] : List Value).toArray 26)) := (((Below.refl _ _).alloc (Nat.le_refl _) _).alloc (by simp) _).alloc (by simp; omega) _
  obtain ⟨w24, hw24⟩ : ∃ x, x = (((w23.alloc (.cells (iv []).toArray 2)).alloc (.cells (iv [0, 0]).toArray 2)).alloc (.cells ([.slice (some ⟨w23.heap.size, 0, none⟩) 0 0, .slice (some ⟨w23.heap.size + 1, 0, none⟩) 2 2] : List Value).toArray 26)) := ⟨_, rfl⟩
  have hg2 : Wl w24 w23.heap.size (w23.heap.size + 1 + 1) 2 [.slice (some ⟨w23.heap.size, 0, none⟩) 0 0, .slice (some ⟨w23.heap.size + 1, 0, none⟩) 2 2] bdL := by rw [hw24]; exact hg0
  rw [← hw24] at hb24
  have HW24 : Hid (w24 = (((w23.alloc (.cells #[] 2)).alloc (.cells #[.int .i64 0, .int .i64 0] 2)).alloc (.cells #[.slice (some ⟨w23.heap.size, 0, none⟩) 0 0, .slice (some ⟨w23.heap.size + 1, 0, none⟩) 2 2] 26))) := hw24
  have HG2 := Lib.hid hg2
  have HG1b := Lib.hid (hg1.below hb24 (Nat.le_refl _))
  have hgl := hg1.own.lt _ rfl
  have HGL : Hid (w22.heap.size + 1 + 1 < w23.heap.size ∧ w23.heap.size ≤ w24.heap.size ∧ w22.heap.size ≤ w24.heap.size) := ⟨hgl.2, hb24.size, Nat.le_trans hb23.size hb24.size⟩
  clear hg0 hw24 hg1 hg2 hgl
  go_upto_region 28 with fail
  rw [← HW24.out]
  go_wp2_with fail
  have s0_16 : Below w0.heap.size w0 w16 := s0_15.trans (hb16.mono s0_15.size)
  have s0_17 : Below w0.heap.size w0 w17 := s0_16.trans (hb17.mono s0_16.size)
  have s0_18 : Below w0.heap.size w0 w18 := s0_17.trans (hb18.mono s0_17.size)
  have s0_19 : Below w0.heap.size w0 w19 := s0_18.trans (hb19.mono s0_18.size)
  have s0_20 : Below w0.heap.size w0 w20 := s0_19.trans (hb20.mono s0_19.size)
  have s0_21 : Below w0.heap.size w0 w21 := s0_20.trans (hb21.mono s0_20.size)
  have s0_22 : Below w0.heap.size w0 w22 := s0_21.trans (hb22.mono s0_21.size)
  have s0_23 : Below w0.heap.size w0 w23 := s0_22.trans (hb23.mono s0_22.size)
  have s0_24 : Below w0.heap.size w0 w24 := s0_23.trans (hb24.mono s0_23.size)
  refine (A44.out w24 (HY1.out.below s0_24 (Nat.le_refl _))).mono ?_
  rintro e w' ⟨rfl, hw⟩
  obtain rfl := hw
  clear A44
  go_upto_if 252 with fail
  obtain ⟨g2, hg2⟩ : ∃ q, q = w23.heap.size + 1 + 1 := ⟨_, rfl⟩
  rw [← hg2] at HG2 ⊢
  have HG2E := Lib.hid hg2
  clear hg2
  go_cut [34, 252] from 253 to 256 (fun v34 v252 wx => ∃ (b : Bool) (g c : Nat) (hs : List Value), v34 = .slice (some ⟨g, 0, none⟩) (gdL b).length c ∧ Hid (Wl wx w22.heap.size g c hs (gdL b)) ∧ Hid (Wl wx w23.heap.size g2 2 [.slice (some ⟨w23.heap.size, 0, none⟩) 0 0, .slice (some ⟨w23.heap.size + 1, 0, none⟩) 2 2] bdL) ∧ Hid (Below w22.heap.size w22 wx))
  case first =>
    have HB24 : Hid (Below w22.heap.size w22 w24) := hb23.trans (hb24.mono hb23.size)
    by_cases h1 : k44 = 1
    · have z1 : ((k44 : Int) == 1) = true := by rw [h1]; rfl
      have hbY : Below w24.heap.size w24 (w24.alloc (.cells (iv [0, 0, 0, 0, 0]).toArray 2)) := (Below.refl _ _).alloc (Nat.le_refl _) _
      have hrY := Row.new w24 2 (iv [0, 0, 0, 0, 0])
      obtain ⟨wY, hwY⟩ : ∃ x, x = w24.alloc (.cells (iv [0, 0, 0, 0, 0]).toArray 2) := ⟨_, rfl⟩
      have HWY : wY = w24.alloc (.cells #[.int .i64 0, .int .i64 0, .int .i64 0, .int .i64 0, .int .i64 0] 2) := hwY
      rw [← hwY] at hbY hrY
      have hsY : wY.heap.size = w24.heap.size + 1 := by rw [hwY]; simp
      have qY : RowI wY w24.heap.size 2 (.slice (some ⟨w24.heap.size, 0, none⟩) 5 5) [0, 0, 0, 0, 0] := own_rowX hrY (Nat.le_refl _) rfl (by unfold maxLen; omega)
      have HSY : Hid (SlI wY wY.heap.size (some ⟨w24.heap.size, 0, none⟩) 5 [0, 0, 0, 0, 0]) := RowI.sl qY rfl
      have HGY := Lib.hid (HG1b.out.below hbY (Nat.le_refl _)); have HG2Y := Lib.hid (HG2.out.below hbY (Nat.le_refl _))
      have HBY : Hid (Below w22.heap.size w22 wY) := HB24.out.trans (hbY.mono HB24.out.size)
      have HSZ := Lib.hid hsY
      have HWY2 := Lib.hid HWY
      clear hbY hrY hwY hsY qY HWY h1
      go_wp2_with (first
        | (at_builtin; rw [← HWY2.out]; (refine wpList_push wY rfl (.tmp 253) (.tmp 255) _ rfl w22.heap.size 26 (.slice none 0 0) 24 Try.underlying63 infoSL rfl (.slice (some ⟨w22.heap.size + 1 + 1, 0, none⟩) 2 2) 2 _ rfl HGY.out.own (.slice (some ⟨w24.heap.size, 0, none⟩) 5 5) (by rw [HSZ.out]; rfl) rfl (by omega) (by omega) HBY.out.size ?_; intro g9 c9 w9 hown hgr hat hlt9 hcap9; have HOW9 := Lib.hid hown; have HGR9 := Lib.hid hgr; have HAT9 := Lib.hid hat; clear hown hgr hat hlt9 hcap9)))
      go_meet
      have hgl := HGL.out
      have hgr9 : wY.grownBy w9 (some (w22.heap.size + 1 + 1)) := HGR9.out
      have hwl := HGY.out.push (g' := g9) (c' := c9) (b := w24.heap.size) (d := 5) (r := [0, 0, 0, 0, 0]) HOW9.out HGR9.out (HAT9.out.imp (fun e => (Option.some.inj e).symm) id) HSY.out (by decide) (by omega) (by rw [HSZ.out]; omega) (by omega)
      exact ⟨true, g9, c9, _, rfl, hwl, HG2Y.out.grown hgr9 (by omega), HBY.out.trans ⟨hgr9.os, hgr9.tape, hgr9.output, hgr9.size, fun k hk => hgr9.block k (by have := HBY.out.size; omega) (fun e => by have := Option.some.inj e; omega)⟩⟩
    · have z1 : ((k44 : Int) == 1) = false := by rw [beq_eq_false_iff_ne]; omega
      clear h1
      go_wp2_with fail
      all_goals
        go_meet
        exact ⟨false, _, 2, _, rfl, HG1b.out, HG2.out, HB24.out⟩
  case rest =>
  obtain ⟨bg, gG, cG, hsG, rfl, HWG, HWB, hb25⟩ := hcut
  obtain ⟨w25, rfl⟩ : ∃ x : World, x = wc := ⟨_, rfl⟩
  have HB25 : Hid (Below w22.heap.size w22 w25) := hb25.out
  have HB0 : Hid (Below w0.heap.size w0 w25) := s0_22.trans (hb25.out.mono s0_22.size)
  have HTB : Hid ((gdL bg).length ≤ 3) := by show _ ≤ _; cases bg <;> decide
  clear hb25 hb23 hb24 HG1 HG1b HG2 HW23 HW24
  have W45 := HW45.out
  go_wp2_with fail
  refine (A45.out w25 (HY1.out.below HB0.out (Nat.le_refl _))).mono ?_
  rintro e w' ⟨rfl, hw⟩
  obtain rfl := hw
  clear A45
  go_wp2_with fail
  clear W45
  refine (fFit LTF.out HWG.out HWB.out).mono ?_
  rintro e w26 ⟨X2, x2, X3, x3, Pf, Ef, rfl, hok, hgd, hbd, hb26⟩
  have HGD := Lib.hid hgd; have HBD := Lib.hid hbd
  clear hgd hbd
  have HPf_ := Px.new (S := 2) (c2 := x2) (c3 := x3) hok
  obtain ⟨gf, hg⟩ : ∃ x, x = w26.heap.size := ⟨_, rfl⟩
  obtain ⟨w27, hw⟩ : ∃ x, x = w26.alloc (.cells ([.int .i64 ((2 : Nat) : Int), .int .i64 (tf : Int), .slice X2 Pf.length x2, .slice X3 Ef.length x3] : List Value).toArray 33) := ⟨_, rfl⟩
  have hb27 : Below w26.heap.size w26 (w26.alloc (.cells ([.int .i64 ((2 : Nat) : Int), .int .i64 (tf : Int), .slice X2 Pf.length x2, .slice X3 Ef.length x3] : List Value).toArray 33)) := (Below.refl _ _).alloc (Nat.le_refl _) _
  rw [← hw, ← hg] at HPf_
  rw [← hw] at hb27
  have HPf := Lib.hid HPf_; clear HPf_
  have s25_27 : Below w25.heap.size w25 w27 := hb26.trans (hb27.mono hb26.size)
  clear hok
  have HWG7 := Lib.hid (HWG.out.below s25_27 (Nat.le_refl _)); have HWB7 := Lib.hid (HWB.out.below s25_27 (Nat.le_refl _))
  have HB27 : Hid (Below w0.heap.size w0 w27) := HB0.out.trans (s25_27.mono HB0.out.size)
  have HW27 : Hid (w27 = w26.alloc (.cells #[.int .i64 2, .int .i64 (tf : Int), .slice X2 Pf.length x2, .slice X3 Ef.length x3] 33)) := hw
  have HGF := Lib.hid hg
  clear hw hg
  go_upto_region 31 with fail
  rw [← HW27.out]
  try rw [← HGF.out]
  have q1 := SlL.one w27 [0] (by decide)
  have hb28 : Below w27.heap.size w27 ((w27.alloc (.cells (iv [0]).toArray 2)).alloc (.cells ([.slice (some ⟨w27.heap.size, 0, none⟩) 1 1] : List Value).toArray 26)) := ((Below.refl _ _).alloc (Nat.le_refl _) _).alloc (by simp) _
  obtain ⟨w28, hw28⟩ : ∃ x, x = ((w27.alloc (.cells (iv [0]).toArray 2)).alloc (.cells ([.slice (some ⟨w27.heap.size, 0, none⟩) 1 1] : List Value).toArray 26)) := ⟨_, rfl⟩
  have q1' : SlL w28 w28.heap.size (some ⟨w27.heap.size + 1, 0, none⟩) 1 [[0]] := by rw [hw28]; exact q1
  rw [← hw28] at hb28
  have q2 := SlL.one w28 [0] (by decide)
  have hb29 : Below w28.heap.size w28 ((w28.alloc (.cells (iv [0]).toArray 2)).alloc (.cells ([.slice (some ⟨w28.heap.size, 0, none⟩) 1 1] : List Value).toArray 26)) := ((Below.refl _ _).alloc (Nat.le_refl _) _).alloc (by simp) _
  obtain ⟨w29, hw29⟩ : ∃ x, x = ((w28.alloc (.cells (iv [0]).toArray 2)).alloc (.cells ([.slice (some ⟨w28.heap.size, 0, none⟩) 1 1] : List Value).toArray 26)) := ⟨_, rfl⟩
  have hs28 : w28.heap.size = w27.heap.size + 1 + 1 := by rw [hw28]; simp
  have q2' : SlL w29 w29.heap.size (some ⟨w28.heap.size + 1, 0, none⟩) 1 [[0]] := by rw [hw29]; exact q2
  rw [← hw29] at hb29
  rw [hs28] at q2'
  have CN := Lib.hid (fFitNo (c := 1) (c' := 1) ((q1'.below hb29 (Nat.le_refl _)).more hb29.size) q2')
  have HW29 : Hid (w29 = ((((w27.alloc (.cells #[.int .i64 0] 2)).alloc (.cells #[.slice (some ⟨w27.heap.size, 0, none⟩) 1 1] 26)).alloc (.cells #[.int .i64 0] 2)).alloc (.cells #[.slice (some ⟨w27.heap.size + 1 + 1, 0, none⟩) 1 1] 26))) := by
    show _ = _
    rw [hw29, hs28, hw28]; rfl
  clear q1 q2 q1' q2' hw28 hw29 hs28
  go_wp2_with fail
  rw [← HW29.out]
  refine CN.out.mono ?_
  rintro e w30 ⟨Z2, zn2, zc2, Z3, zn3, zc3, rfl, hb30⟩
  have hb31 : Below w30.heap.size w30 (w30.alloc (.cells ([.int .i64 0, .int .i64 0, .slice Z2 zn2 zc2, .slice Z3 zn3 zc3] : List Value).toArray 33)) := (Below.refl _ _).alloc (Nat.le_refl _) _
  obtain ⟨w31, hw31⟩ : ∃ x, x = w30.alloc (.cells ([.int .i64 0, .int .i64 0, .slice Z2 zn2 zc2, .slice Z3 zn3 zc3] : List Value).toArray 33) := ⟨_, rfl⟩
  rw [← hw31] at hb31
  have HW31 : Hid (w31 = w30.alloc (.cells #[.int .i64 0, .int .i64 0, .slice Z2 zn2 zc2, .slice Z3 zn3 zc3] 33)) := hw31
  clear CN hw31
  go_upto_region 32 with fail
  rw [← HW31.out]
  have s27_29 : Below w27.heap.size w27 w29 := hb28.trans (hb29.mono hb28.size)
  have s27_30 : Below w27.heap.size w27 w30 := s27_29.trans (hb30.mono s27_29.size)
  have s27_31 : Below w27.heap.size w27 w31 := s27_30.trans (hb31.mono s27_30.size)
  have r_ := ((HPf.out.below s27_31 (Nat.le_refl _))).1
  have HPfc0 := r_.cell 0; have HPfc1 := r_.cell 1; have HPfc2 := r_.cell 2; have HPfc3 := r_.cell 3
  clear r_
  have HBF : Hid (Below w27.heap.size w27 w31) := s27_31
  have HB31 : Hid (Below w0.heap.size w0 w31) := HB27.out.trans (HBF.out.mono HB27.out.size)
  go_wp2_with fail
  clear HPfc0 HPfc1 HPfc2 HPfc3
  clear hb26 hb27 hb28 hb29 hb30 hb31
  go_loopg [40] (gdL bg).length (fun m i wr => ∃ k : Nat, i = .int .i64 (k : Int) ∧ k ≤ (gdL bg).length ∧ (gdL bg).length ≤ m + k ∧ Hid (Below w27.heap.size w27 wr))
  case atStart => exact ⟨0, rfl, by omega, by omega, HBF.out⟩
  case round =>
    obtain ⟨k, rfl, hk, hm, HB⟩ := hrel
    obtain ⟨wo, rfl⟩ : ∃ x : World, x = wr := ⟨_, rfl⟩
    by_cases hlt : k < (gdL bg).length
    · obtain ⟨r, hr⟩ : ∃ r, (gdL bg)[k]? = some r := ⟨_, List.getElem?_eq_getElem hlt⟩
      have hmem := List.mem_of_getElem? hr
      obtain ⟨b, c', cL, hsr, -⟩ := (HWG7.out.below HB.out (Nat.le_refl _)).at_ hr
      obtain ⟨r5, rn, ry⟩ := gd_get (b := bg) (.inl hmem)
      have hpx := HPf.out.below HB.out (Nat.le_refl _)
      have hrd := HGD.out r hmem
      have hbl : b < wo.heap.size ∨ r.length = 0 := by
        rcases Nat.eq_zero_or_pos r.length with h | h
        · exact .inr h
        · obtain ⟨b', o', e', hb', -⟩ := hsr.2 h
          injection e' with e'
          injection e' with e1 _ _
          exact .inl (by omega)
      have hwl := (HWG7.out.below HB.out (Nat.le_refl _)).own.lt _ rfl
      have CR : Hid (∀ x : World, Below wo.heap.size wo x → Calls Try.prog 13 #[.agg #[.int .i64 2, .int .i64 (tf : Int), .slice X2 Pf.length x2, .slice X3 Ef.length x3], .slice (some ⟨b, 0, none⟩) r.length c'] x fun e y => e = .returned (.tuple #[.bool true, .bool true]) ∧ Below x.heap.size x y) := fun x hx => by
        have hp := hpx.2.below hx (Nat.le_refl _)
        exact fReads (S := 2) x2 x3 c' hp ((hsr.below hx (Nat.le_refl _)).more hx.size) (r.map Int.toNat) rn (fun y hy => by have := ry y hy; have := hp.hT; omega) (by omega) true hrd
      have hcel : Hid (∀ x : World, Below wo.heap.size wo x → (Below wo.heap.size wo x ∧ x.cell? ⟨gf, 0, none⟩ = some (.int .i64 2) ∧ x.cell? ⟨gf, 1, none⟩ = some (.int .i64 (tf : Int)) ∧ x.cell? ⟨gf, 2, none⟩ = some (.slice X2 Pf.length x2) ∧ x.cell? ⟨gf, 3, none⟩ = some (.slice X3 Ef.length x3) ∧ x.cell? ⟨gG, k, none⟩ = some (.slice (some ⟨b, 0, none⟩) r.length c'))) := fun x hx => by
        have q := hpx.1.below hx hpx.1.lt
        exact ⟨hx, q.cell 0, q.cell 1, q.cell 2, q.cell 3, (hx.cell (p := ⟨gG, k, none⟩) hwl.2).trans cL⟩
      have hfrom := hcel.out wo.drew (Below.drew (Below.refl _ _))
      have l0 : (0 : Int) ≤ (k : Int) := by omega
      have l1 : (k : Int) < (((gdL bg).length : Nat) : Int) := by first | omega | exact Int.ofNat_lt.mpr hlt
      have WK : IntKind.i64.wrap ((k : Int) + 1) = (k : Int) + 1 := IntWalk.i64_in _ (have h1 := HTB.out; have h2 : bdL.length ≤ 3 := (by show _ ≤ _; decide); by omega)
      clear hr hmem cL hsr r5 rn ry hpx hrd hbl hwl
      go_wp2_with fail
      go_region_held3 (fun x => Below wo.heap.size wo x ∧ x.cell? ⟨gf, 0, none⟩ = some (.int .i64 2) ∧ x.cell? ⟨gf, 1, none⟩ = some (.int .i64 (tf : Int)) ∧ x.cell? ⟨gf, 2, none⟩ = some (.slice X2 Pf.length x2) ∧ x.cell? ⟨gf, 3, none⟩ = some (.slice X3 Ef.length x3) ∧ x.cell? ⟨gG, k, none⟩ = some (.slice (some ⟨b, 0, none⟩) r.length c')) (first | (with_reducible assumption) | (have h := hcel.out _ (by (with_reducible (apply And.left; assumption))); exact h))
        (first
          | (go_at_call 13; ((with_reducible refine (CR.out _ (by first | (with_reducible assumption) | (with_reducible (apply And.left; assumption)))).mono ?_); rintro e wy ⟨rfl, hby⟩); have sA := (fun h => hcel.out _ (Below.trans h (hby.mono h.size))) (by first | (with_reducible assumption) | (with_reducible (apply And.left; assumption))); clear hby))
      all_goals
        go_wp2_with fail
        go_roundg (gk - 1)
        case measure => omega
        case rel => exact ⟨k + 1, by go_num, by omega, by omega, HB.out.trans (sA.1.mono HB.out.size)⟩
    · have hkn : k = ((gdL bg).length : Nat) := by first | omega | exact Nat.le_antisymm hk (Nat.le_of_not_lt hlt)
      clear hlt hk hm
      subst hkn
      have l1 : (((gdL bg).length : Nat) : Int) ≤ (((gdL bg).length : Nat) : Int) := by omega
      have dl : decide (((gdL bg).length : Nat) < ((gdL bg).length : Nat)) = false := decide_eq_false (by omega)
      go_wp2_with fail
      have HBk := HB
      clear HB dl l1
      go_loopg [43] (bdL).length (fun m i wr => ∃ k : Nat, i = .int .i64 (k : Int) ∧ k ≤ (bdL).length ∧ (bdL).length ≤ m + k ∧ Hid (Below w27.heap.size w27 wr))
      case atStart => exact ⟨0, rfl, by omega, by omega, HBk.out⟩
      case round =>
        obtain ⟨k, rfl, hk, hm, HB⟩ := hrel
        obtain ⟨wo, rfl⟩ : ∃ x : World, x = wr := ⟨_, rfl⟩
        by_cases hlt : k < (bdL).length
        · obtain ⟨r, hr⟩ : ∃ r, (bdL)[k]? = some r := ⟨_, List.getElem?_eq_getElem hlt⟩
          have hmem := List.mem_of_getElem? hr
          obtain ⟨b, c', cL, hsr, -⟩ := (HWB7.out.below HB.out (Nat.le_refl _)).at_ hr
          obtain ⟨r5, rn, ry⟩ := gd_get (b := bg) (.inr hmem)
          have hpx := HPf.out.below HB.out (Nat.le_refl _)
          have hrd := HBD.out r hmem
          have hbl : b < wo.heap.size ∨ r.length = 0 := by
            rcases Nat.eq_zero_or_pos r.length with h | h
            · exact .inr h
            · obtain ⟨b', o', e', hb', -⟩ := hsr.2 h
              injection e' with e'
              injection e' with e1 _ _
              exact .inl (by omega)
          have hwl := (HWB7.out.below HB.out (Nat.le_refl _)).own.lt _ rfl
          have CR : Hid (∀ x : World, Below wo.heap.size wo x → Calls Try.prog 13 #[.agg #[.int .i64 2, .int .i64 (tf : Int), .slice X2 Pf.length x2, .slice X3 Ef.length x3], .slice (some ⟨b, 0, none⟩) r.length c'] x fun e y => e = .returned (.tuple #[.bool false, .bool true]) ∧ Below x.heap.size x y) := fun x hx => by
            have hp := hpx.2.below hx (Nat.le_refl _)
            exact fReads (S := 2) x2 x3 c' hp ((hsr.below hx (Nat.le_refl _)).more hx.size) (r.map Int.toNat) rn (fun y hy => by have := ry y hy; have := hp.hT; omega) (by omega) false hrd
          have hcel : Hid (∀ x : World, Below wo.heap.size wo x → (Below wo.heap.size wo x ∧ x.cell? ⟨gf, 0, none⟩ = some (.int .i64 2) ∧ x.cell? ⟨gf, 1, none⟩ = some (.int .i64 (tf : Int)) ∧ x.cell? ⟨gf, 2, none⟩ = some (.slice X2 Pf.length x2) ∧ x.cell? ⟨gf, 3, none⟩ = some (.slice X3 Ef.length x3) ∧ x.cell? ⟨g2, k, none⟩ = some (.slice (some ⟨b, 0, none⟩) r.length c'))) := fun x hx => by
            have q := hpx.1.below hx hpx.1.lt
            exact ⟨hx, q.cell 0, q.cell 1, q.cell 2, q.cell 3, (hx.cell (p := ⟨g2, k, none⟩) hwl.2).trans cL⟩
          have hfrom := hcel.out wo.drew (Below.drew (Below.refl _ _))
          have l0 : (0 : Int) ≤ (k : Int) := by omega
          have l1 : (k : Int) < ((2 : Nat) : Int) := by first | omega | exact Int.ofNat_lt.mpr hlt
          have hlt2 : k < 2 := hlt
          have l2 : (k : Int) < 2 := by omega
          have l3 : ¬ ((2 : Int) ≤ (k : Int)) := by omega
          have WK : IntKind.i64.wrap ((k : Int) + 1) = (k : Int) + 1 := IntWalk.i64_in _ (have h1 := HTB.out; have h2 : bdL.length ≤ 3 := (by show _ ≤ _; decide); by omega)
          clear hr hmem cL hsr r5 rn ry hpx hrd hbl hwl
          go_wp2_with fail
          go_region_held3 (fun x => Below wo.heap.size wo x ∧ x.cell? ⟨gf, 0, none⟩ = some (.int .i64 2) ∧ x.cell? ⟨gf, 1, none⟩ = some (.int .i64 (tf : Int)) ∧ x.cell? ⟨gf, 2, none⟩ = some (.slice X2 Pf.length x2) ∧ x.cell? ⟨gf, 3, none⟩ = some (.slice X3 Ef.length x3) ∧ x.cell? ⟨g2, k, none⟩ = some (.slice (some ⟨b, 0, none⟩) r.length c')) (first | (with_reducible assumption) | (have h := hcel.out _ (by (with_reducible (apply And.left; assumption))); exact h))
            (first
              | (go_at_call 13; ((with_reducible refine (CR.out _ (by first | (with_reducible assumption) | (with_reducible (apply And.left; assumption)))).mono ?_); rintro e wy ⟨rfl, hby⟩); have sA := (fun h => hcel.out _ (Below.trans h (hby.mono h.size))) (by first | (with_reducible assumption) | (with_reducible (apply And.left; assumption))); clear hby))
          all_goals
            go_wp2_with fail
            go_roundg (gk - 1)
            case measure => omega
            case rel => exact ⟨k + 1, by go_num, by omega, by omega, HB.out.trans (sA.1.mono HB.out.size)⟩
        · have hkn : k = (2 : Nat) := by first | omega | exact Nat.le_antisymm hk (Nat.le_of_not_lt hlt)
          clear hlt hk hm
          subst hkn
          have l1 : ((2 : Nat) : Int) ≤ ((2 : Nat) : Int) := by omega
          have dl : decide ((2 : Nat) < (2 : Nat)) = false := decide_eq_false (by omega)
          go_wp2_with fail
          go_ret
          exact ⟨rfl, HB27.out.trans (HB.out.mono HB27.out.size)⟩
end Go.Proofs.Ytbdfbmohdbigfaa.fnSmall
