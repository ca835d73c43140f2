/- FnEdits: the walk: the law returns true. -/
import Derived.Test.YtkfmjnefbimecaaEeC
import Derived.Deep.RegionHeld3
import Derived.Deep.CutRange
import Derived.Deep.CutBlock

namespace Go.Proofs.Ytkfmjnefbimecaa.fnEdits
open Go.RowKit
set_option linter.unusedVariables false
theorem r8v_nat (z : List Int) (k m : Nat) (h : 0 < m) : ∃ q : Nat, r8v z k (m : Int) = (q : Int) ∧ q < m := by
  have := r8v_bd (z := z) (k := k) (m := (m : Int)) (by omega)
  exact ⟨(r8v z k m).toNat, by omega, by omega⟩
theorem eq_law {X : Int} {a b : ByteArray} (h : X = 0 ↔ a = b) : (!(X == 0) == (a.toList == b.toList)) = false := by
  by_cases hx : X = 0
  · obtain rfl := h.1 hx
    subst hx
    simp
  · have hn : ¬ a = b := fun e => hx (h.2 e)
    have h1 : (X == 0) = false := by simpa using hx
    rw [h1, str_ne hn]; rfl
set_option maxRecDepth 100000 in
set_option maxHeartbeats 40000000 in
theorem walk (a0 : Option Addr) (n0 c0 : Nat) (z0 : List Int) (a1 : Option Addr) (n1 c1 : Nat) (z1 : List Int) (w0 : World) (hG : GInt w0) (wf0 : IsRow .u8 w0 a0 n0 c0 z0) (wf1 : IsRow .u8 w0 a1 n1 c1 z1) :
    Calls Try.prog 5 #[.slice a0 n0 c0, .slice a1 n1 c1] w0 fun e w' => e = .returned (.bool true) ∧ Below w0.heap.size w0 w' := by
  have hl0 := wf0.lens; have hl1 := wf1.lens
  have hm0 : n0 ≤ maxLen := by omega
  have hm1 : n1 ≤ maxLen := by omega
  by_cases hlong : n0 ≤ 48 ∧ n1 ≤ 48
  case neg =>
    have hY := r8Long_yes a0 n0 c0 a1 n1 c1 w0 hm0 hm1 (by omega)
    clear hlong wf0 wf1 hl0 hl1 hm0 hm1 hG
    go_enter Try.func5, Try.ntmps5
    go_wp2_with fail
    refine hY.mono ?_
    rintro e w' ⟨rfl, hw⟩
    obtain rfl := hw
    clear hY
    go_wp2_with fail
    go_ret
    exact ⟨rfl, Below.refl _ _⟩
  have hN := r8Long_no a0 n0 c0 a1 n1 c1 w0 hlong.1 hlong.2
  have HY0 := Lib.hid wf0.slY; have HY1 := Lib.hid wf1.slY
  have HG0 : GInt w0 := hG
  obtain ⟨y0, hy0⟩ : ∃ y, y = z0.take n0 := ⟨_, rfl⟩
  obtain ⟨y1, hy1⟩ : ∃ y, y = z1.take n1 := ⟨_, rfl⟩
  rw [← hy0] at HY0
  rw [← hy1] at HY1
  clear hy0 hy1 wf0 wf1 hl0 hl1 hlong hG
  obtain ⟨k40, e40, l40⟩ := r8v_nat y1 40 10 (by omega)
  have A40 : Hid (∀ x : World, SlY x w0.heap.size a1 n1 y1 → Calls Try.prog 7 #[.slice a1 n1 c1, .int .i64 40, .int .i64 10] x fun e w' => e = .returned (.int .i64 k40) ∧ x = w') := fun x hx => by have h := r8At_any a1 n1 c1 y1 w0.heap.size x hx 40 10 (by omega) (by omega) (by omega) hm1; rw [show r8v y1 40 10 = (k40 : Int) from e40] at h; exact h
  obtain ⟨k41, e41, l41⟩ := r8v_nat y1 41 10 (by omega)
  have A41 : Hid (∀ x : World, SlY x w0.heap.size a1 n1 y1 → Calls Try.prog 7 #[.slice a1 n1 c1, .int .i64 41, .int .i64 10] x fun e w' => e = .returned (.int .i64 k41) ∧ x = w') := fun x hx => by have h := r8At_any a1 n1 c1 y1 w0.heap.size x hx 41 10 (by omega) (by omega) (by omega) hm1; rw [show r8v y1 41 10 = (k41 : Int) from e41] at h; exact h
  obtain ⟨k42, e42, l42⟩ := r8v_nat y1 42 10 (by omega)
  have A42 : Hid (∀ x : World, SlY x w0.heap.size a1 n1 y1 → Calls Try.prog 7 #[.slice a1 n1 c1, .int .i64 42, .int .i64 10] x fun e w' => e = .returned (.int .i64 k42) ∧ x = w') := fun x hx => by have h := r8At_any a1 n1 c1 y1 w0.heap.size x hx 42 10 (by omega) (by omega) (by omega) hm1; rw [show r8v y1 42 10 = (k42 : Int) from e42] at h; exact h
  obtain ⟨k43, e43, l43⟩ := r8v_nat y1 43 8 (by omega)
  have A43 : Hid (∀ x : World, SlY x w0.heap.size a1 n1 y1 → Calls Try.prog 7 #[.slice a1 n1 c1, .int .i64 43, .int .i64 8] x fun e w' => e = .returned (.int .i64 k43) ∧ x = w') := fun x hx => by have h := r8At_any a1 n1 c1 y1 w0.heap.size x hx 43 8 (by omega) (by omega) (by omega) hm1; rw [show r8v y1 43 8 = (k43 : Int) from e43] at h; exact h
  clear e40 e41 e42 e43
  have W43 : IntKind.i64.wrap (1 + (k43 : Int)) = (k43 : Int) + 1 := by rw [IntWalk.i64_in _ (by omega)]; omega
  have L40 := Lib.hid l40; have L41 := Lib.hid l41; have L42 := Lib.hid l42
  have L43 : Hid (1 ≤ (k43 : Int) + 1 ∧ (k43 : Int) + 1 ≤ 8) := by constructor <;> omega
  have M0 := Lib.hid hm0; have M1 := Lib.hid hm1
  have HG := Lib.hid HG0
  clear l40 l41 l42 l43 hm0 hm1 HG0
  have s0 : Below w0.heap.size w0 w0 := Below.refl _ _
  go_enter Try.func5, Try.ntmps5
  go_wp2_with fail
  refine hN.mono ?_
  rintro e w' ⟨rfl, hw⟩
  obtain rfl := hw
  clear hN
  go_wp2_with fail
  refine (A40.out w0 (HY1.out.below s0 (Nat.le_refl _))).mono ?_
  rintro e w' ⟨rfl, hw⟩
  obtain rfl := hw
  clear A40
  go_wp2_with fail
  refine (r8Text_any w0 a0 n0 c0 y0 ((HY0.out.below s0 (Nat.le_refl _)).more s0.size) M0.out k40 (by have := L40.out; omega)).mono ?_
  rintro e w1 ⟨a, rfl, sza, aba, hb⟩
  have s1 := s0.trans (hb.mono s0.size)
  have Za : Hid (a.size ≤ 9) := by show _ ≤ _; have := L40.out; omega
  clear hb sza aba
  go_wp2_with fail
  refine (A41.out w1 (HY1.out.below s1 (Nat.le_refl _))).mono ?_
  rintro e w' ⟨rfl, hw⟩
  obtain rfl := hw
  clear A41
  go_wp2_with fail
  refine (r8Text_any w1 a1 n1 c1 y1 ((HY1.out.below s1 (Nat.le_refl _)).more s1.size) M1.out k41 (by have := L41.out; omega)).mono ?_
  rintro e w2 ⟨b, rfl, szb, abb, hb⟩
  have s2 := s1.trans (hb.mono s1.size)
  have Zb : Hid (b.size ≤ 9) := by show _ ≤ _; have := L41.out; omega
  clear hb szb abb
  go_wp2_with fail
  refine (A42.out w2 (HY1.out.below s2 (Nat.le_refl _))).mono ?_
  rintro e w' ⟨rfl, hw⟩
  obtain rfl := hw
  clear A42
  go_wp2_with fail
  refine (r8Text_any w2 a0 n0 c0 y0 ((HY0.out.below s2 (Nat.le_refl _)).more s2.size) M0.out k42 (by have := L42.out; omega)).mono ?_
  rintro e w3 ⟨c, rfl, szc, abc, hb⟩
  have s3 := s2.trans (hb.mono s2.size)
  have Zc : Hid (c.size ≤ 9) := by show _ ≤ _; have := L42.out; omega
  clear hb szc abc
  obtain ⟨X, Z, V, SW, Y, G, LO, ST, CO, m, hT⟩ := told a b c Za.out Zb.out Zc.out
  have T := Lib.hid hT; clear hT
  have WZV : IntKind.i64.wrap (Z + V) = Z + V := IntWalk.i64_in _ (by have := T.out.z0; have := T.out.v0; omega)
  have WS2 : IntKind.i64.wrap (2 * SW) = 2 * SW := IntWalk.i64_in _ (by have := T.out.swx; have := T.out.x0; omega)
  have WNX : IntKind.i64.wrap (-X) = -X := IntWalk.i64_in _ (by have := T.out.x0; omega)
  have F1 : ((X ≤ Z + V ∧ SW ≤ X) ∧ X ≤ 2 * SW) ∧ (!(X == 0) == (a.toList == b.toList)) = false := ⟨⟨⟨T.out.tri, T.out.swx.2.1⟩, T.out.swx.2.2⟩, eq_law T.out.eq⟩
  go_wp2_with fail
  refine (ecAB T.out w3).mono ?_
  rintro e w4 ⟨rfl, hb⟩
  have s4 := s3.trans (hb.mono s3.size)
  clear hb s3
  go_wp2_with fail
  refine (ecBA T.out w4).mono ?_
  rintro e w5 ⟨rfl, hb⟩
  have s5 := s4.trans (hb.mono s4.size)
  clear hb s4
  go_wp2_with fail
  refine (ecAC T.out w5).mono ?_
  rintro e w6 ⟨rfl, hb⟩
  have s6 := s5.trans (hb.mono s5.size)
  clear hb s5
  go_wp2_with fail
  refine (ecCB T.out w6).mono ?_
  rintro e w7 ⟨rfl, hb⟩
  have s7 := s6.trans (hb.mono s6.size)
  clear hb s6
  go_wp2_with fail
  refine (esAB T.out w7).mono ?_
  rintro e w8 ⟨rfl, hb⟩
  have s8 := s7.trans (hb.mono s7.size)
  clear hb s7
  go_wp2_with fail
  refine (apAB T.out w8).mono ?_
  rintro e w9 ⟨rfl, hb⟩
  have s9 := s8.trans (hb.mono s8.size)
  clear hb s8
  go_wp2_with fail
  refine (swAB T.out w9).mono ?_
  rintro e w10 ⟨rfl, hb⟩
  have s10 := s9.trans (hb.mono s9.size)
  clear hb s9
  go_wp2_with fail
  refine (swBA T.out w10).mono ?_
  rintro e w11 ⟨rfl, hb⟩
  have s11 := s10.trans (hb.mono s10.size)
  clear hb s10
  have F2 : ST.size ≤ 18 := T.out.stn
  have hgS := get_b8 ST
  go_wp2_with fail
  rename_i hcond _ _
  clear hcond F1 WZV WS2
  go_loopg [24, 25] ST.size (fun m q i wr => ∃ I : Nat, i = .int .i64 I ∧ q = .int .i64 (edTo ST I) ∧ I ≤ ST.size ∧ ST.size ≤ m + I ∧ wr = w11)
  case atStart => exact ⟨0, rfl, rfl, by omega, by omega, rfl⟩
  case round =>
    obtain ⟨I, rfl, rfl, hI, hm, hw⟩ := hrel
    obtain rfl := hw.symm
    have hbd := edTo_bd ST I
    by_cases hi : I < ST.size
    · have l0 : (0 : Int) ≤ (I : Int) := by omega
      have l1 : (I : Int) < (ST.size : Int) := by omega
      by_cases he : b8 ST I = 61
      · have q1 : (((b8 ST I).toNat : Int) == 61) = true := by rw [he]; rfl
        have HE := Lib.hid (edTo_same hi he)
        clear he hbd
        go_wp2_with fail
        go_roundg (gk - 1)
        case measure => omega
        case rel => exact ⟨I + 1, by go_num, by rw [HE.out], by omega, by omega, rfl⟩
      · have q1 : (((b8 ST I).toNat : Int) == 61) = false := by
          rw [beq_eq_false_iff_ne]; exact fun e => he (UInt8.toNat_inj.1 (by simpa using (by omega : (b8 ST I).toNat = 61)))
        have HE := Lib.hid (edTo_more hi he)
        have w1 : IntKind.i64.wrap (edTo ST I + 1) = edTo ST I + 1 := IntWalk.i64_in _ (by omega)
        clear he hbd
        go_wp2_with fail
        go_roundg (gk - 1)
        case measure => omega
        case rel => exact ⟨I + 1, by go_num, by rw [HE.out], by omega, by omega, rfl⟩
    · have l1 : (ST.size : Int) ≤ (I : Int) := by omega
      obtain rfl : I = ST.size := by omega
      rw [T.out.sted] at *
      clear hbd
      clear hgS F2 l1 hI hm hi
      as_aux_lemma =>
        go_wp2_with fail
        refine (coAB T.out w11).mono ?_
        rintro e w12 ⟨rfl, hb⟩
        have s12 := s11.trans (hb.mono s11.size)
        clear hb s11
        go_wp2_with fail
        refine (ec2 T.out w12).mono ?_
        rintro e w13 ⟨rfl, hb⟩
        have s13 := s12.trans (hb.mono s12.size)
        clear hb s12
        obtain ⟨za, zb, zo⟩ : (a.size : Int) ≤ 9 ∧ (b.size : Int) ≤ 9 ∧ (CO.size : Int) ≤ 9 := by have := T.out.sa; have := T.out.sb; have := T.out.con; refine ⟨?_, ?_, ?_⟩ <;> omega
        have WAB : IntKind.i64.wrap ((a.size : Int) + (b.size : Int)) = (a.size : Int) + (b.size : Int) := IntWalk.i64_in _ (by omega)
        have WC2 : IntKind.i64.wrap (2 * (CO.size : Int)) = 2 * (CO.size : Int) := IntWalk.i64_in _ (by omega)
        have WDD : IntKind.i64.wrap ((a.size : Int) + (b.size : Int) - 2 * (CO.size : Int)) = (a.size : Int) + (b.size : Int) - 2 * (CO.size : Int) := IntWalk.i64_in _ (by omega)
        have WA3 : Hid (IntKind.i64.wrap (3 * (a.size : Int)) = 3 * (a.size : Int)) := IntWalk.i64_in _ (by omega)
        clear za zb zo
        go_wp2_with fail
        refine (r8Within_any CO a (by have := T.out.sa; have := T.out.con; omega) (by have := T.out.sa; omega) T.out.coa w13).mono ?_
        rintro e w14 ⟨rfl, hb⟩
        have s14 := s13.trans (hb.mono s13.size)
        clear hb s13
        go_wp2_with fail
        refine (r8Within_any CO b (by have := T.out.sa; have := T.out.con; omega) (by have := T.out.sb; omega) T.out.cob w14).mono ?_
        rintro e w15 ⟨rfl, hb⟩
        have s15 := s14.trans (hb.mono s14.size)
        clear hb s14
        as_aux_lemma =>
          go_wp2_with fail
          refine (shAB T.out w15 (HG.out.below s15 (Nat.le_refl _))).mono ?_
          rintro e w16 ⟨x, y, l, rfl, ⟨h1, h2, h3, h4, h5⟩, hb⟩
          have s16 := s15.trans (hb.mono s15.size)
          clear hb s15 WAB WC2 WDD
          have x0 : (0 : Int) ≤ (x : Int) := by omega
          have y0' : (0 : Int) ≤ (y : Int) := by omega
          have l0 : (0 : Int) ≤ (l : Int) := by omega
          have WXL : IntKind.i64.wrap ((x : Int) + (l : Int)) = (x : Int) + (l : Int) := IntWalk.i64_in _ (by have := T.out.sa; omega)
          have WYL : IntKind.i64.wrap ((y : Int) + (l : Int)) = (y : Int) + (l : Int) := IntWalk.i64_in _ (by have := T.out.sb; omega)
          have W3L : Hid (IntKind.i64.wrap (3 * (l : Int)) = 3 * (l : Int)) := IntWalk.i64_in _ (by have := T.out.sa; omega)
          have f1 : (x : Int) + (l : Int) ≤ (a.size : Int) := by omega
          have f2 : (y : Int) + (l : Int) ≤ (b.size : Int) := by omega
          have f3 : (l : Int) ≤ (CO.size : Int) := by omega
          have f4 : (x : Int) ≤ (x : Int) + (l : Int) := by omega
          have f5 : (y : Int) ≤ (y : Int) + (l : Int) := by omega
          have t1 : ((x : Int) + (l : Int)).toNat = x + l := by omega
          have t2 : ((y : Int) + (l : Int)).toNat = y + l := by omega
          have q1 : ((a.extract x (x + l)).toList == (b.extract y (y + l)).toList) = true := by rw [h4]; simp
          have H5 := Lib.hid h5
          have f0 : (((0 ≤ (x : Int) ∧ 0 ≤ (y : Int)) ∧ 0 ≤ (l : Int)) ∧ (x : Int) + (l : Int) ≤ (a.size : Int)) ∧ (y : Int) + (l : Int) ≤ (b.size : Int) := ⟨⟨⟨⟨x0, y0'⟩, l0⟩, f1⟩, f2⟩
          have d1 : decide (a.size < x + l) = false := decide_eq_false (by omega)
          have d2 : decide (b.size < y + l) = false := decide_eq_false (by omega)
          have d3 : decide (CO.size < l) = false := decide_eq_false (by omega)
          have d4 : decide ((CO.size : Int) < (l : Int)) = false := decide_eq_false (by omega)
          clear h1 h2 h3 h4 h5
          go_wp2_with fail
          go_quiet (fail)
          go_wp2_with fail
          rename_i hcond _ _ _ _
          clear hcond f0 x0 y0' l0 WXL WYL f1 f2 f3 f4 f5 t1 t2 q1 d1 d2 d3 d4
          as_aux_lemma =>
            refine (agAA T.out _).mono ?_
            rintro e w17 ⟨rfl, hb⟩
            have s17 : Below w0.heap.size w0 w17 := (below_draws s16 _).trans (hb.mono (below_draws s16 _).size)
            clear hb s16
            go_wp2_with fail
            refine (agAB0 T.out w17).mono ?_
            rintro e w18 ⟨rfl, hb⟩
            have s18 := s17.trans (hb.mono s17.size)
            clear hb s17
            go_wp2_with fail
            refine (agBA T.out w18).mono ?_
            rintro e w19 ⟨rfl, hb⟩
            have s19 := s18.trans (hb.mono s18.size)
            clear hb s18
            go_wp2_with fail
            refine (agAB T.out w19).mono ?_
            rintro e w20 ⟨rfl, hb⟩
            have s20 := s19.trans (hb.mono s19.size)
            clear hb s19
            go_wp2_with fail
            refine (lgAB T.out w20).mono ?_
            rintro e w21 ⟨rfl, hb⟩
            have s21 := s20.trans (hb.mono s20.size)
            clear hb s20
            go_wp2_with fail
            refine (lgAA T.out w21).mono ?_
            rintro e w22 ⟨rfl, hb⟩
            have s22 := s21.trans (hb.mono s21.size)
            clear hb s21
            as_aux_lemma =>
              go_wp2_with fail
              refine (near3 T.out _ _ 3 (row3 w22 a b c Za.out Zb.out Zc.out _)).mono ?_
              rintro e w23 ⟨g, k, r, rfl, hg0, hgl, hr1, hr15, hcell, hord, hb⟩
              have s23 := (s22.alloc s22.size _).trans (hb.mono (s22.alloc s22.size _).size)
              have HCE := Lib.hid hcell; have HOR := Lib.hid hord; have R1 := Lib.hid hr1; have R15 := Lib.hid hr15; have HGL := Lib.hid hgl
              clear hcell hord hr1 hr15 hgl hg0 hb s22
              go_wp2_with fail
              refine (A43.out _ ((HY1.out.below s23 (Nat.le_refl _)).below ((Below.refl _ _).alloc s23.size _) (Nat.le_refl _))).mono ?_
              rintro e w' ⟨rfl, hw⟩
              obtain rfl := hw
              clear A43
              as_aux_lemma =>
                go_wp2_with fail
                refine (shared3 T.out _ _ 3 (row3 w23 a b c Za.out Zb.out Zc.out _) _ L43.out).mono ?_
                rintro e w24 ⟨g', d, rfl, hgl', hsc, hb⟩
                have HNC : Hid (∀ (j x : Nat), r[j]? = some x → w24.cell? ⟨g, j, none⟩ = some (.int .i64 x)) := fun j x hx => by
                  rw [hb.cell (by have := HGL.out; simp; omega)]
                  exact (World.cell?_alloc_lt _ _ _ HGL.out).trans (HCE.out j x hx).1
                have s24 := (s23.alloc s23.size _).trans (hb.mono (s23.alloc s23.size _).size)
                have HSC := Lib.hid hsc
                have c0 := hsc 0 SW rfl
                have c1' := hsc 1 0 rfl
                clear hsc hb s23 hgl'
                have E1 := WA3.out; have E2 := W3L.out
                have F5 : 3 * (l : Int) ≤ LO ∧ 1 ≤ (r.length : Int) := ⟨H5.out, by have := R1.out; omega⟩
                go_wp2_with fail
                rename_i hcond _ _
                clear hcond F5 E1 E2 c0 c1' WNX
                have HRL : Hid (r.length ≤ 15) := R15
                go_loopg [50] r.length (fun m' q wr => ∃ J : Nat, q = .int .i64 J ∧ J ≤ r.length ∧ r.length ≤ m' + J ∧ Hid (∀ p, wr.cell? p = w24.cell? p) ∧ Below w0.heap.size w0 wr)
                case atStart => exact ⟨0, rfl, by omega, by omega, fun _ => rfl, s24⟩
                case round =>
                  obtain ⟨J, rfl, hJ, hm', hcl, hbl⟩ := hrel
                  have j0 : (0 : Int) ≤ (J : Int) := by omega
                  have jb : (J : Int) ≤ 15 := by have := R15.out; omega
                  by_cases hj : J < r.length
                  · have j1 : (J : Int) < (r.length : Int) := by omega
                    obtain ⟨x1, hx1⟩ : ∃ x, r[J]? = some x := ⟨_, List.getElem?_eq_getElem hj⟩
                    obtain ⟨-, xl, y1, hy1, yl⟩ := HCE.out J x1 hx1
                    have n1 : wr.cell? ⟨g, J, none⟩ = some (.int .i64 (x1 : Int)) := (hcl.out _).trans (HNC.out J x1 hx1)
                    have n2 : wr.cell? ⟨g', x1, none⟩ = some (.int .i64 y1) := (hcl.out _).trans (HSC.out x1 y1 hy1)
                    have k0 : (0 : Int) ≤ (x1 : Int) := by omega
                    have k3 : (x1 : Int) < 3 := by omega
                    have e1 : decide ((x1 : Int) < 0) = false := decide_eq_false (by omega)
                    have e2 : decide (2 < (x1 : Int)) = false := decide_eq_false (by omega)
                    have e3 : decide (2 < x1) = false := decide_eq_false (by omega)
                    have e4 : decide (4 < y1) = false := decide_eq_false (by omega)
                    clear xl yl
                    rcases Nat.eq_zero_or_pos J with h0 | h0
                    · subst h0
                      have e5 : decide ((0 : Int) < ((0 : Nat) : Int)) = false := rfl
                      clear hx1 hy1
                      as_aux_lemma =>
                        go_wp2_with fail
                        go_quiet (fail)
                        go_wp2_with fail
                        go_roundg (gk - 1)
                        case measure => omega
                        case rel => exact ⟨0 + 1, by go_num, by omega, by omega, hcl, below_draws hbl _⟩
                    · obtain ⟨J', hJ'⟩ : ∃ J' : Nat, J = J' + 1 := ⟨J - 1, by omega⟩
                      obtain ⟨x2, hx2⟩ : ∃ x, r[J']? = some x := ⟨_, List.getElem?_eq_getElem (by omega)⟩
                      obtain ⟨-, xl2, y2, hy2, -⟩ := HCE.out J' x2 hx2
                      have hle : y2 ≤ y1 := HOR.out J' x2 x1 y2 y1 hx2 (by rw [← hJ']; exact hx1) hy2 hy1
                      have n3 : wr.cell? ⟨g, J', none⟩ = some (.int .i64 (x2 : Int)) := (hcl.out _).trans (HNC.out J' x2 hx2)
                      have n4 : wr.cell? ⟨g', x2, none⟩ = some (.int .i64 y2) := (hcl.out _).trans (HSC.out x2 y2 hy2)
                      have k4 : (0 : Int) ≤ (x2 : Int) := by omega
                      have k5 : (x2 : Int) < 3 := by omega
                      have e5 : decide ((0 : Int) < (J : Int)) = true := decide_eq_true (by omega)
                      have e6 : decide (0 < J) = true := decide_eq_true (by omega)
                      have e7 : decide (y1 < y2) = false := decide_eq_false (by omega)
                      have w1 : IntKind.i64.wrap ((J : Int) - 1) = (J' : Int) := by rw [IntWalk.i64_in _ (by omega)]; omega
                      have k6 : (0 : Int) ≤ (J' : Int) := by omega
                      have k7 : (J' : Int) < (r.length : Int) := by omega
                      clear hx1 hy1 hx2 hy2 xl2 hJ'
                      as_aux_lemma =>
                        go_wp2_with fail
                        go_quiet (fail)
                        go_wp2_with fail
                        go_roundg (gk - 1)
                        case measure => omega
                        case rel => exact ⟨J + 1, by go_num, by omega, by omega, hcl, below_draws hbl _⟩
                  · have j1 : (r.length : Int) ≤ (J : Int) := by omega
                    obtain ⟨S, hS⟩ : ∃ S, S = a.extract 0 m := ⟨_, rfl⟩
                    have hA := T.out.alk
                    have hSz : S.size = m := by rw [hS, ByteArray.size_extract]; have := hA.la; omega
                    have C := fun w A q h => start3 T.out w A q h
                    rw [← hS] at C
                    have HC := Lib.hid C
                    have q1 : ((a.extract 0 S.size).toList == S.toList) = true := by rw [hSz, ← hS]; simp
                    have q2 : ((b.extract 0 S.size).toList == S.toList) = true := by
                      have : b.extract 0 m = a.extract 0 m := by
                        apply ext_b8
                        · rw [ByteArray.size_extract, ByteArray.size_extract]; have := hA.la; have := hA.lb; omega
                        · intro i hi
                          rw [ByteArray.size_extract] at hi
                          rw [b8_extract hA.lb (by omega), b8_extract hA.la (by omega), hA.eq i (by omega)]
                      rw [hSz, this, ← hS]; simp
                    rw [← hSz] at hA
                    have HA := Lib.hid hA
                    have a1' : (S.size : Int) ≤ (a.size : Int) := by have := hA.la; omega
                    have a2' : (S.size : Int) ≤ (b.size : Int) := by have := hA.lb; omega
                    have a3' : (0 : Int) ≤ (S.size : Int) := by omega
                    have d1 : decide ((S.size : Int) ≤ (a.size : Int)) = true := decide_eq_true a1'
                    have d2 : decide ((S.size : Int) ≤ (b.size : Int)) = true := decide_eq_true a2'
                    have d3 : decide (S.size ≤ a.size) = true := decide_eq_true hA.la
                    have d4 : decide (S.size ≤ b.size) = true := decide_eq_true hA.lb
                    clear C hA hS hSz
                    have Q1 := Lib.hid q1; have Q2 := Lib.hid q2; have D1 := Lib.hid d1; have D2 := Lib.hid d2; have D3 := Lib.hid d3; have D4 := Lib.hid d4
                    clear q1 q2 d1 d2 d3 d4 j0 jb hj hJ hm' hcl
                    go_wp2_with fail
                    refine (HC.out _ _ 3 (row3 wr a b a Za.out Zb.out Za.out _)).mono ?_
                    rintro e w25 ⟨rfl, hb⟩
                    have s25 : Below w0.heap.size w0 w25 := (hbl.alloc hbl.size _).trans (hb.mono (hbl.alloc hbl.size _).size)
                    clear hb
                    have q1 := Q1.out; have q2 := Q2.out; have d1 := D1.out; have d2 := D2.out; have d3 := D3.out; have d4 := D4.out
                    by_cases c1 : S.size = a.size
                    · have g1 : ((S.size : Int) == (a.size : Int)) = true := by rw [c1]; simp
                      clear c1
                      as_aux_lemma =>
                        as_aux_lemma =>
                          go_wp2_with fail
                          go_quiet (fail)
                          go_wp2_with fail
                          go_ret
                          exact ⟨rfl, below_draws s25 _⟩
                    · have g1 : ((S.size : Int) == (a.size : Int)) = false := beq_false_of_ne (by omega)
                      by_cases c2 : S.size = b.size
                      · have g2 : ((S.size : Int) == (b.size : Int)) = true := by rw [c2]; simp
                        clear c1 c2
                        as_aux_lemma =>
                          go_wp2_with fail
                          go_quiet (fail)
                          go_wp2_with fail
                          go_ret
                          exact ⟨rfl, below_draws s25 _⟩
                      · have g2 : ((S.size : Int) == (b.size : Int)) = false := beq_false_of_ne (by omega)
                        have hne : b8 a S.size ≠ b8 b S.size := by
                          rcases HA.out.fin with h | h | h
                          · exact absurd h c1
                          · exact absurd h c2
                          · exact h
                        have hga := get_b8 a
                        have hgb := get_b8 b
                        have l1 : (S.size : Int) < (a.size : Int) := by omega
                        have l2 : (S.size : Int) < (b.size : Int) := by omega
                        have g3 : (((b8 a S.size).toNat : Int) == ((b8 b S.size).toNat : Int)) = false := by
                          rw [beq_eq_false_iff_ne]; exact fun e => hne (UInt8.toNat_inj.1 (by omega))
                        clear c1 c2 hne
                        as_aux_lemma =>
                          go_wp2_with fail
                          go_quiet (fail)
                          go_wp2_with fail
                          go_ret
                          exact ⟨ret_bool (by rw [bne, g3]; rfl), below_draws s25 _⟩
end Go.Proofs.Ytkfmjnefbimecaa.fnEdits
