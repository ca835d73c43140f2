/- reached of the program. -/
import Derived.Test.YtkfmjnefbimecaaTmP
import Derived.Test.YtkfmjnefbimecaaMgt
import Derived.StillTailTactics


namespace Go.Proofs.Ytkfmjnefbimecaa
open Go.RowKit
set_option linter.unusedVariables false
theorem rowB_cell {w : World} {g : Nat} {t : TypeId} {o : List Bool} (h : Row w g t (bv o)) {k : Nat} (hk : k < o.length) : w.cell? ⟨g, k, none⟩ = some (.bool (o.getD k false)) := by
  rw [h.cell, bv, List.getElem?_map, List.getD_eq_getElem?_getD, List.getElem?_eq_getElem hk]; rfl
theorem bv_set {o : List Bool} {k : Nat} {x : Bool} : bv (o.set k x) = (bv o).set k (.bool x) := by unfold bv; rw [List.map_set]
set_option maxRecDepth 100000 in
set_option maxHeartbeats 8000000 in
theorem iReached_any (S : Nat) (T : Int) (L : List A4) (P E : List Int) (A2 A3 A4 : Option Addr) (c2 c3 c4 : Nat) (AF : Option Addr) (cF : Nat) (F : List Int) (back : Bool) (w : World)
    (h2 : SlA w w.heap.size A2 L.length L) (hF : SlI w w.heap.size AF S F) (hS : S ≤ 16) (hL : L.length ≤ 128) (hA : ∀ a ∈ L, (0 ≤ a.1 ∧ a.1 < S) ∧ (0 ≤ a.2.1 ∧ a.2.1 < S)) :
    Calls Try.prog 57 #[.agg #[.int .i64 (S : Int), .int .i64 T, .slice A2 L.length c2, .slice A3 P.length c3, .slice A4 E.length c4], .slice AF S cF, .bool back] w fun e w' => ∃ g, e = .returned (.slice (some ⟨g, 0, none⟩) S S) ∧ w.heap.size ≤ g ∧ Row w' g 4 (bv (rc back L F)) ∧ Below w.heap.size w w' := by
  have hfl := hF.len
  have rb := Row.new w 28 [.int .i64 (S : Int), .int .i64 T, .slice A2 L.length c2, .slice A3 P.length c3, .slice A4 E.length c4]
  have rb2 := rb.alloc (.cells (madeCells #[.bool false] S) 4)
  have ro := Row.made (w.alloc (.cells ([.int .i64 (S : Int), .int .i64 T, .slice A2 L.length c2, .slice A3 P.length c3, .slice A4 E.length c4] : List Value).toArray 28)) (.bool false) S 4
  have bx : Below w.heap.size w ((w.alloc (.cells ([.int .i64 (S : Int), .int .i64 T, .slice A2 L.length c2, .slice A3 P.length c3, .slice A4 E.length c4] : List Value).toArray 28)).alloc (.cells (madeCells #[.bool false] S) 4)) := ((Below.refl _ _).alloc (Nat.le_refl _) _).alloc (by simp) _
  rw [show (w.alloc (.cells ([.int .i64 (S : Int), .int .i64 T, .slice A2 L.length c2, .slice A3 P.length c3, .slice A4 E.length c4] : List Value).toArray 28)).heap.size = w.heap.size + 1 by simp] at ro
  have RB := Lib.hid rb2; have RO := Lib.hid ro; have BX := Lib.hid bx; have H2 := Lib.hid h2; have HF := Lib.hid hF; have HA := Lib.hid hA; have HFL := Lib.hid hfl
  clear rb2 ro bx h2 hF hA hfl
  have hmk := run_make_row' (P := Try.prog) 85 4 (.bool false) 1 Try.underlying85 infoBool rfl .i64 .i64 S (by omega) (by omega)
  have a0 := rb.cell 0
  go_enter Try.func57, Try.ntmps57
  go_wp2_with fail
  clear hmk a0 rb
  have hrc0 : (rc0 F).length = S := by unfold rc0; rw [List.length_map]; exact HFL.out
  have HRC := Lib.hid hrc0; clear hrc0
  go_loopg [8, 9, 17] S (fun q u8 u9 i wr => ∃ k : Nat, i = .int .i64 (k : Int) ∧ k ≤ S ∧ S ≤ q + k ∧ Hid (Row wr w.heap.size 28 [.int .i64 (S : Int), .int .i64 T, .slice A2 L.length c2, .slice A3 P.length c3, .slice A4 E.length c4]) ∧ Hid (Row wr (w.heap.size + 1) 4 (fill (bv ((rc0 F).take k)) S (.bool false))) ∧ Hid (Below w.heap.size w wr))
  case atStart => exact ⟨0, by go_num, by omega, by omega, RB.out, by show Row _ _ _ _; rw [List.take_zero, show bv [] = [] from rfl, fill_nil]; exact RO.out, BX.out⟩
  case round =>
    clear RB RO BX
    obtain ⟨k, rfl, hk, hm, RB, RO, HB⟩ := hrel
    obtain ⟨wo, rfl⟩ : ∃ x : World, x = wr := ⟨_, rfl⟩
    by_cases hlt : k < S
    · obtain ⟨b, off, x, rfl, hbB, hx, hc⟩ := (HF.out.below HB.out (Nat.le_refl _)).at_ hlt
      have hlen : Hid ((bv ((rc0 F).take k)).length = k) := by show _ = k; rw [bv_length, List.length_take, HRC.out]; omega
      have hxr : (rc0 F)[k]? = some (decide (0 ≤ x)) := by unfold rc0; rw [List.getElem?_map, hx.out]; rfl
      have HBT := Lib.hid (bv_take hxr)
      have hc2 : wo.cell? ⟨w.heap.size + 1, k, none⟩ = some (.bool false) := by rw [RO.out.cell, fill_at hlen.out hlt]
      have hf2 := RO.out.frozen k
      have l0 : (0 : Int) ≤ (k : Int) := by omega
      have l1 : (k : Int) < (S : Int) := by omega
      clear hxr
      go_wp2_with fail
      go_roundg (gk - 1)
      case measure => omega
      case rel =>
        refine ⟨k + 1, by go_num, by omega, by omega, RB.out.far (p := ⟨w.heap.size + 1, k, none⟩) (show w.heap.size ≠ w.heap.size + 1 by omega) _, ?_, HB.out.setCell (p := ⟨w.heap.size + 1, k, none⟩) (show w.heap.size ≤ w.heap.size + 1 by omega) _⟩
        show Row _ _ _ _
        rw [HBT.out, ← fill_set hlen.out hlt]
        exact RO.out.set_ _ _
    · have hkS : S = k := by omega
      subst hkS
      have RO0 : Hid (Row wo (w.heap.size + 1) 4 (bv (rc0 F))) := by
        have := RO.out
        rw [take_all HRC.out, fill_full (by rw [bv_length, HRC.out])] at this
        exact this
      have RB0 := RB; have HB0 := HB
      clear RO RB HB hlt hk hm
      go_wp2_with fail
      go_loopg [11, 30, 32, 33, 34, 35] S (fun q u11 i u32 u33 u34 u35 wr => ∃ n : Nat, i = .int .i64 (n : Int) ∧ n ≤ S ∧ S ≤ q + n ∧ Hid (Row wr w.heap.size 28 [.int .i64 (S : Int), .int .i64 T, .slice A2 L.length c2, .slice A3 P.length c3, .slice A4 E.length c4]) ∧ Hid (Row wr (w.heap.size + 1) 4 (bv (rcN back L (rc0 F) n))) ∧ Hid (Below w.heap.size w wr))
      case atStart => exact ⟨0, by go_num, by omega, by omega, RB0.out, RO0.out, HB0.out⟩
      case round =>
        clear RB0 RO0 HB0
        obtain ⟨n, rfl, hn, hm, RB, RO, HB⟩ := hrel
        obtain ⟨wo, rfl⟩ : ∃ x : World, x = wr := ⟨_, rfl⟩
        obtain ⟨gz, hgz⟩ : ∃ x : Nat, x = gk := ⟨_, rfl⟩
        by_cases hlt : n < S
        · have b2 := RB.out.cell 2
          have l1 : (n : Int) < (S : Int) := by omega
          go_wp2_with fail
          clear b2
          go_loopg [11, 35] L.length (fun q u11 i wr => ∃ (j : Nat) (O : List Bool), i = .int .i64 (j : Int) ∧ j ≤ L.length ∧ L.length ≤ q + j ∧ Hid (O = rcL back L (rcN back L (rc0 F) n) j) ∧ Hid (Row wr w.heap.size 28 [.int .i64 (S : Int), .int .i64 T, .slice A2 L.length c2, .slice A3 P.length c3, .slice A4 E.length c4]) ∧ Hid (Row wr (w.heap.size + 1) 4 (bv O)) ∧ Hid (Below w.heap.size w wr))
          case atStart => exact ⟨0, _, by go_num, by omega, by omega, rfl, RB.out, RO.out, HB.out⟩
          case round =>
            clear RB RO HB
            obtain ⟨j, O, rfl, hj, hm2, HOE, RB, RO, HB⟩ := hrel
            obtain ⟨wo, rfl⟩ : ∃ x : World, x = wr := ⟨_, rfl⟩
            have HOL : Hid (O.length = S) := by show _ = _; rw [HOE.out, rcL_len, rcN_len]; exact HRC.out
            by_cases hlt2 : j < L.length
            · obtain ⟨b, off, a0, a1, a2, a3, rfl, hbB, hx, k0, k1, k2, k3⟩ := (H2.out.below HB.out (Nat.le_refl _)).at_ hlt2
              have HX := hx
              have hrange := HA.out _ (List.mem_of_getElem? hx.out)
              simp only at hrange
              obtain ⟨⟨p1, p2⟩, p3, p4⟩ := hrange
              obtain ⟨fn, hfn⟩ : ∃ f : Nat, a0 = (f : Int) := ⟨a0.toNat, by omega⟩
              obtain ⟨tn, htn⟩ : ∃ f : Nat, a1 = (f : Int) := ⟨a1.toNat, by omega⟩
              subst hfn htn
              have q1 : (0 : Int) ≤ (fn : Int) := by omega
              have q2 : (fn : Int) < (S : Int) := by omega
              have q3 : (0 : Int) ≤ (tn : Int) := by omega
              have q4 : (tn : Int) < (S : Int) := by omega
              have l2 : (0 : Int) ≤ (j : Int) := by omega
              have l3 : (j : Int) < (L.length : Int) := by omega
              have RA_ := Row.new wo 39 [.int .i64 (fn : Int), .int .i64 (tn : Int), .int .i64 a2, .int .i64 a3]
              have RB_ := RB.out.alloc (.cells ([.int .i64 (fn : Int), .int .i64 (tn : Int), .int .i64 a2, .int .i64 a3] : List Value).toArray 39)
              have RO_ := RO.out.alloc (.cells ([.int .i64 (fn : Int), .int .i64 (tn : Int), .int .i64 a2, .int .i64 a3] : List Value).toArray 39)
              have HB_ : Below w.heap.size w (wo.alloc (.cells ([.int .i64 (fn : Int), .int .i64 (tn : Int), .int .i64 a2, .int .i64 a3] : List Value).toArray 39)) := HB.out.alloc HB.out.size _
              have HGA_ : w.heap.size + 1 < wo.heap.size := RO.out.lt
              clear p1 p2 p3 p4
              go_upto_region 12 with fail
              clear k0 k1 k2 k3
              obtain ⟨y, hy⟩ : ∃ y, y = wo.alloc (.cells ([.int .i64 (fn : Int), .int .i64 (tn : Int), .int .i64 a2, .int .i64 a3] : List Value).toArray 39) := ⟨_, rfl⟩
              obtain ⟨ga, hga⟩ : ∃ x, x = wo.heap.size := ⟨_, rfl⟩
              change Code.wp _ _ _ _ (wo.alloc (.cells ([.int .i64 (fn : Int), .int .i64 (tn : Int), .int .i64 a2, .int .i64 a3] : List Value).toArray 39))
              rw [← hy, ← hga] at RA_
              rw [← hy] at RB_ RO_ HB_
              rw [← hga] at HGA_
              rw [← hy, ← hga]
              have RA := RA_; have RBy := Lib.hid RB_; have ROy := Lib.hid RO_; have HBy := Lib.hid HB_; have HGA : Hid (w.heap.size + 1 < ga) := HGA_
              clear RA_ RB_ RO_ HB_ HGA_ hy hga
              cases back with
              | false =>
                go_upto_region 14 with fail
                obtain ⟨z, rfl⟩ : ∃ z : World, z = y := ⟨_, rfl⟩
                have RBz := RBy; have ROz := ROy; have HBz := HBy
                have d0 := RA.cell 0; have d1 := RA.cell 1
                clear RA
                have kt := rowB_cell ROz.out (k := tn) (by rw [HOL.out]; omega)
                have kf := rowB_cell ROz.out (k := fn) (by rw [HOL.out]; omega)
                have kz := ROz.out.frozen tn
                obtain ⟨x1, hx1⟩ : ∃ x, x = O.getD tn false := ⟨_, rfl⟩
                obtain ⟨x2, hx2⟩ : ∃ x, x = O.getD fn false := ⟨_, rfl⟩
                rw [← hx1] at kt
                rw [← hx2] at kf
                have HST : Hid (rcA false O ((fn : Int), (tn : Int), a2, a3) = O.set tn (x1 || x2)) := by
                  show O.set (Int.toNat (tn : Int)) (O.getD (Int.toNat (tn : Int)) false || O.getD (Int.toNat (fn : Int)) false) = _
                  rw [Int.toNat_natCast, Int.toNat_natCast, hx1, hx2]
                clear hx1 hx2
                cases x1 with
                | false =>
                  refine wp_tail 16 (by kernel_rfl) (by kernel_rfl) (fun v hv => ?_)
                  have y0 : v.cell? ⟨ga, 0, none⟩ = some (.int .i64 (fn : Int)) := by rw [hv]; exact d0
                  have y1 : v.cell? ⟨ga, 1, none⟩ = some (.int .i64 (tn : Int)) := by rw [hv]; exact d1
                  have y2 : v.cell? ⟨w.heap.size + 1, tn, none⟩ = some (.bool false) := by rw [hv]; exact kt
                  have y3 : v.cell? ⟨w.heap.size + 1, fn, none⟩ = some (.bool x2) := by rw [hv]; exact kf
                  have y4 : v.frozen? ⟨w.heap.size + 1, tn, none⟩ = false := by rw [hv]; exact kz
                  have RBv : Hid (Row v w.heap.size 28 [.int .i64 (S : Int), .int .i64 T, .slice (some ⟨b, off, none⟩) L.length c2, .slice A3 P.length c3, .slice A4 E.length c4]) := by rw [hv]; exact RBz.out
                  have ROv : Hid (Row v (w.heap.size + 1) 4 (bv O)) := by rw [hv]; exact ROz.out
                  have HBv : Hid (Below w.heap.size w v) := by rw [hv]; exact below_draws HBz.out _
                  clear hv kt kf kz d0 d1 RBz ROz HBz
                  simp only [List.take_succ_cons, List.take_zero, List.drop_succ_cons, List.drop_zero]
                  repeat still_step
                  refine wpStill_nil ?_
                  go_wp2
                  go_roundg (gk - 1)
                  case measure => omega
                  case rel =>
                    refine ⟨j + 1, O.set tn (false || x2), by go_num, by omega, by omega, ?_, ?_, ?_, HBv.out.setCell (p := ⟨w.heap.size + 1, tn, none⟩) (show w.heap.size ≤ w.heap.size + 1 by omega) _⟩
                    · show _ = _
                      rw [rcL_step HX.out, ← HOE.out, HST.out]
                    · exact RBv.out.far (p := ⟨w.heap.size + 1, tn, none⟩) (show w.heap.size ≠ w.heap.size + 1 by omega) _
                    · show Row _ _ _ _
                      rw [bv_set]; exact ROv.out.set_ _ _
                | true =>
                  refine wp_tail 16 (by kernel_rfl) (by kernel_rfl) (fun v hv => ?_)
                  have y0 : v.cell? ⟨ga, 0, none⟩ = some (.int .i64 (fn : Int)) := by rw [hv]; exact d0
                  have y1 : v.cell? ⟨ga, 1, none⟩ = some (.int .i64 (tn : Int)) := by rw [hv]; exact d1
                  have y2 : v.cell? ⟨w.heap.size + 1, tn, none⟩ = some (.bool true) := by rw [hv]; exact kt
                  have y3 : v.cell? ⟨w.heap.size + 1, fn, none⟩ = some (.bool x2) := by rw [hv]; exact kf
                  have y4 : v.frozen? ⟨w.heap.size + 1, tn, none⟩ = false := by rw [hv]; exact kz
                  have RBv : Hid (Row v w.heap.size 28 [.int .i64 (S : Int), .int .i64 T, .slice (some ⟨b, off, none⟩) L.length c2, .slice A3 P.length c3, .slice A4 E.length c4]) := by rw [hv]; exact RBz.out
                  have ROv : Hid (Row v (w.heap.size + 1) 4 (bv O)) := by rw [hv]; exact ROz.out
                  have HBv : Hid (Below w.heap.size w v) := by rw [hv]; exact below_draws HBz.out _
                  clear hv kt kf kz d0 d1 RBz ROz HBz
                  simp only [List.take_succ_cons, List.take_zero, List.drop_succ_cons, List.drop_zero]
                  repeat still_step
                  refine wpStill_nil ?_
                  go_wp2
                  go_roundg (gk - 1)
                  case measure => omega
                  case rel =>
                    refine ⟨j + 1, O.set tn (true || x2), by go_num, by omega, by omega, ?_, ?_, ?_, HBv.out.setCell (p := ⟨w.heap.size + 1, tn, none⟩) (show w.heap.size ≤ w.heap.size + 1 by omega) _⟩
                    · show _ = _
                      rw [rcL_step HX.out, ← HOE.out, HST.out]
                    · exact RBv.out.far (p := ⟨w.heap.size + 1, tn, none⟩) (show w.heap.size ≠ w.heap.size + 1 by omega) _
                    · show Row _ _ _ _
                      rw [bv_set]; exact ROv.out.set_ _ _
              | true =>
                have da0 := RA.cell 0; have da1 := RA.cell 1; have fa0 := RA.frozen 0; have fa1 := RA.frozen 1
                go_upto_region 14 with fail
                clear da0 da1 fa0 fa1
                have RA2 := (RA.set_ 0 (.int .i64 (tn : Int))).set_ 1 (.int .i64 (fn : Int))
                have hky : ∀ k, k ≠ ga → ((y.setCell ⟨ga, 0, none⟩ (.int .i64 (tn : Int))).setCell ⟨ga, 1, none⟩ (.int .i64 (fn : Int))).heap[k]? = y.heap[k]? := fun k hk => (Below.heap_setCell _ ⟨ga, 1, none⟩ _ k hk).trans (Below.heap_setCell _ ⟨ga, 0, none⟩ _ k hk)
                have hby2 : Below w.heap.size w ((y.setCell ⟨ga, 0, none⟩ (.int .i64 (tn : Int))).setCell ⟨ga, 1, none⟩ (.int .i64 (fn : Int))) := (HBy.out.setCell (p := ⟨ga, 0, none⟩) (show w.heap.size ≤ ga by have := HGA.out; omega) _).setCell (p := ⟨ga, 1, none⟩) (show w.heap.size ≤ ga by have := HGA.out; omega) _
                have RBz := (hky w.heap.size (by have := HGA.out; omega)).trans RBy.out
                have ROz := (hky (w.heap.size + 1) (by have := HGA.out; omega)).trans ROy.out
                obtain ⟨z, hz⟩ : ∃ z, z = (y.setCell ⟨ga, 0, none⟩ (.int .i64 (tn : Int))).setCell ⟨ga, 1, none⟩ (.int .i64 (fn : Int)) := ⟨_, rfl⟩
                change Code.wp _ _ _ _ ((y.setCell ⟨ga, 0, none⟩ (.int .i64 (tn : Int))).setCell ⟨ga, 1, none⟩ (.int .i64 (fn : Int)))
                rw [← hz] at RA2 hby2 RBz ROz ⊢
                have RBz := Lib.hid (show Row z w.heap.size 28 [.int .i64 (S : Int), .int .i64 T, .slice (some ⟨b, off, none⟩) L.length c2, .slice A3 P.length c3, .slice A4 E.length c4] from RBz)
                have ROz := Lib.hid (show Row z (w.heap.size + 1) 4 (bv O) from ROz)
                have HBz := Lib.hid hby2
                have d0 := RA2.cell 0; have d1 := RA2.cell 1
                clear hz hky hby2 RA2 RA
                have kt := rowB_cell ROz.out (k := fn) (by rw [HOL.out]; omega)
                have kf := rowB_cell ROz.out (k := tn) (by rw [HOL.out]; omega)
                have kz := ROz.out.frozen fn
                obtain ⟨x1, hx1⟩ : ∃ x, x = O.getD fn false := ⟨_, rfl⟩
                obtain ⟨x2, hx2⟩ : ∃ x, x = O.getD tn false := ⟨_, rfl⟩
                rw [← hx1] at kt
                rw [← hx2] at kf
                have HST : Hid (rcA true O ((fn : Int), (tn : Int), a2, a3) = O.set fn (x1 || x2)) := by
                  show O.set (Int.toNat (fn : Int)) (O.getD (Int.toNat (fn : Int)) false || O.getD (Int.toNat (tn : Int)) false) = _
                  rw [Int.toNat_natCast, Int.toNat_natCast, hx1, hx2]
                clear hx1 hx2
                cases x1 with
                | false =>
                  refine wp_tail 16 (by kernel_rfl) (by kernel_rfl) (fun v hv => ?_)
                  have y0 : v.cell? ⟨ga, 0, none⟩ = some (.int .i64 (tn : Int)) := by rw [hv]; exact d0
                  have y1 : v.cell? ⟨ga, 1, none⟩ = some (.int .i64 (fn : Int)) := by rw [hv]; exact d1
                  have y2 : v.cell? ⟨w.heap.size + 1, fn, none⟩ = some (.bool false) := by rw [hv]; exact kt
                  have y3 : v.cell? ⟨w.heap.size + 1, tn, none⟩ = some (.bool x2) := by rw [hv]; exact kf
                  have y4 : v.frozen? ⟨w.heap.size + 1, fn, none⟩ = false := by rw [hv]; exact kz
                  have RBv : Hid (Row v w.heap.size 28 [.int .i64 (S : Int), .int .i64 T, .slice (some ⟨b, off, none⟩) L.length c2, .slice A3 P.length c3, .slice A4 E.length c4]) := by rw [hv]; exact RBz.out
                  have ROv : Hid (Row v (w.heap.size + 1) 4 (bv O)) := by rw [hv]; exact ROz.out
                  have HBv : Hid (Below w.heap.size w v) := by rw [hv]; exact below_draws HBz.out _
                  clear hv kt kf kz d0 d1 RBz ROz HBz
                  simp only [List.take_succ_cons, List.take_zero, List.drop_succ_cons, List.drop_zero]
                  repeat still_step
                  refine wpStill_nil ?_
                  go_wp2
                  go_roundg (gk - 1)
                  case measure => omega
                  case rel =>
                    refine ⟨j + 1, O.set fn (false || x2), by go_num, by omega, by omega, ?_, ?_, ?_, HBv.out.setCell (p := ⟨w.heap.size + 1, fn, none⟩) (show w.heap.size ≤ w.heap.size + 1 by omega) _⟩
                    · show _ = _
                      rw [rcL_step HX.out, ← HOE.out, HST.out]
                    · exact RBv.out.far (p := ⟨w.heap.size + 1, fn, none⟩) (show w.heap.size ≠ w.heap.size + 1 by omega) _
                    · show Row _ _ _ _
                      rw [bv_set]; exact ROv.out.set_ _ _
                | true =>
                  refine wp_tail 16 (by kernel_rfl) (by kernel_rfl) (fun v hv => ?_)
                  have y0 : v.cell? ⟨ga, 0, none⟩ = some (.int .i64 (tn : Int)) := by rw [hv]; exact d0
                  have y1 : v.cell? ⟨ga, 1, none⟩ = some (.int .i64 (fn : Int)) := by rw [hv]; exact d1
                  have y2 : v.cell? ⟨w.heap.size + 1, fn, none⟩ = some (.bool true) := by rw [hv]; exact kt
                  have y3 : v.cell? ⟨w.heap.size + 1, tn, none⟩ = some (.bool x2) := by rw [hv]; exact kf
                  have y4 : v.frozen? ⟨w.heap.size + 1, fn, none⟩ = false := by rw [hv]; exact kz
                  have RBv : Hid (Row v w.heap.size 28 [.int .i64 (S : Int), .int .i64 T, .slice (some ⟨b, off, none⟩) L.length c2, .slice A3 P.length c3, .slice A4 E.length c4]) := by rw [hv]; exact RBz.out
                  have ROv : Hid (Row v (w.heap.size + 1) 4 (bv O)) := by rw [hv]; exact ROz.out
                  have HBv : Hid (Below w.heap.size w v) := by rw [hv]; exact below_draws HBz.out _
                  clear hv kt kf kz d0 d1 RBz ROz HBz
                  simp only [List.take_succ_cons, List.take_zero, List.drop_succ_cons, List.drop_zero]
                  repeat still_step
                  refine wpStill_nil ?_
                  go_wp2
                  go_roundg (gk - 1)
                  case measure => omega
                  case rel =>
                    refine ⟨j + 1, O.set fn (true || x2), by go_num, by omega, by omega, ?_, ?_, ?_, HBv.out.setCell (p := ⟨w.heap.size + 1, fn, none⟩) (show w.heap.size ≤ w.heap.size + 1 by omega) _⟩
                    · show _ = _
                      rw [rcL_step HX.out, ← HOE.out, HST.out]
                    · exact RBv.out.far (p := ⟨w.heap.size + 1, fn, none⟩) (show w.heap.size ≠ w.heap.size + 1 by omega) _
                    · show Row _ _ _ _
                      rw [bv_set]; exact ROv.out.set_ _ _
            · have hjL : j = L.length := by omega
              have n1 : ¬ (j : Int) < (L.length : Int) := by omega
              have HON : Hid (O = rcN back L (rc0 F) (n + 1)) := by show _ = _; rw [HOE.out, hjL]; rfl
              clear hlt2 hjL
              go_wp2_with fail
              go_roundg (gz - 1)
              case measure => omega
              case rel => exact ⟨n + 1, by go_num, by omega, by omega, RB.out, by show Row _ _ _ _; rw [← HON.out]; exact RO.out, HB.out⟩
        · have hnS : n = S := by omega
          have n1 : ¬ (n : Int) < (S : Int) := by omega
          have HON : Hid (rcN back L (rc0 F) n = rc back L F) := by show _ = rcN back L (rc0 F) F.length; rw [HFL.out, hnS]
          clear hlt hnS
          go_wp2_with fail
          go_ret
          exact ⟨_, rfl, by omega, by rw [← HON.out]; exact RO.out, HB.out⟩
end Go.Proofs.Ytkfmjnefbimecaa
