/- l02Tidy of the reference: arcs in order, of those that lead alike the first one. -/
import Derived.Test.YtegponioggpkcaaTiC
import Derived.Shelf.SlSortCmp.QuietGrown
import Derived.BigQuiet
namespace Go.Proofs.Ytegponioggpkcaa
open Go.RowKit Go.Sort Go.Lib
set_option linter.unusedVariables false
set_option maxHeartbeats 1000000 in
theorem sBefore_any (x y : A4) (W : World) :
    Calls Try.prog 90 #[.agg (encA x).toArray, .agg (encA y).toArray] W fun e w' => e = .returned (.bool (arLt x y)) ∧ ∃ q os', w' = grow (W.drewN q) os' := by
  obtain ⟨x0, x1, x2, x3⟩ := x
  obtain ⟨y0, y1, y2, y3⟩ := y
  change Calls _ _ #[.agg #[.int .i64 x0, .int .i64 x1, .int .i64 x2, .int .i64 x3], .agg #[.int .i64 y0, .int .i64 y1, .int .i64 y2, .int .i64 y3]] _ _
  have HB : Hid (∃ q os', ((W.alloc (.cells ([.int .i64 x0, .int .i64 x1, .int .i64 x2, .int .i64 x3] : List Value).toArray 62)).alloc (.cells ([.int .i64 y0, .int .i64 y1, .int .i64 y2, .int .i64 y3] : List Value).toArray 62)) = grow (W.drewN q) os') := ⟨0, _, by rw [alloc_eq_grow, alloc_eq_grow, grow_grow]; rfl⟩
  by_cases h0 : x0 = y0
  · subst h0
    by_cases h2 : x2 = y2
    · subst h2
      by_cases h1 : x1 = y1
      · subst h1
        have HV : Hid (arLt (x0, x1, x2, x3) (x0, x1, x2, y3) = decide (x3 < y3)) := by show arLt _ _ = _; simp [arLt]
        go_enter Try.func90, Try.ntmps90
        go_wp2_with fail
        go_ret
        exact ⟨ret_bool HV.out.symm, HB.out⟩
      · have HV : Hid (arLt (x0, x1, x2, x3) (x0, y1, x2, y3) = decide (x1 < y1)) := by show arLt _ _ = _; simp [arLt, h1]
        go_enter Try.func90, Try.ntmps90
        go_wp2_with fail
        go_ret
        exact ⟨ret_bool HV.out.symm, HB.out⟩
    · have HV : Hid (arLt (x0, x1, x2, x3) (x0, y1, y2, y3) = decide (x2 < y2)) := by show arLt _ _ = _; simp [arLt, h2]
      go_enter Try.func90, Try.ntmps90
      go_wp2_with fail
      go_ret
      exact ⟨ret_bool HV.out.symm, HB.out⟩
  · have HV : Hid (arLt (x0, x1, x2, x3) (y0, y1, y2, y3) = decide (x0 < y0)) := by show arLt _ _ = _; simp [arLt, h0]
    go_enter Try.func90, Try.ntmps90
    go_wp2_with fail
    go_ret
    exact ⟨ret_bool HV.out.symm, HB.out⟩
theorem below_grown (w : World) (n : Nat) (os : Array Obj) : Below w.heap.size w (grow (w.drewN n) os) :=
  ⟨rfl, rfl, rfl, by rw [size_grow]; exact Nat.le_add_right _ _, fun k hk => by
    show (w.heap ++ os)[k]? = w.heap[k]?
    rw [Array.getElem?_append_left hk]⟩
theorem getBang {D : Array A4} {k : Nat} (h : k < D.size) : D.toList[k]? = some D[k]! := by
  rw [Array.getElem?_toList, getElem!_pos D k h, Array.getElem?_eq_getElem h]
theorem swp_list {D : Array A4} {i j : Nat} : (swp D i j).toList = (D.toList.set i D[j]!).set j D[i]! := by
  unfold swp; rw [Array.toList_setIfInBounds, Array.toList_setIfInBounds]
theorem swp_sz {D : Array A4} {i j : Nat} : (swp D i j).size = D.size := by unfold swp; simp
theorem insOuter_step {n i : Nat} {D : Array A4} (h : i < n) : insOuter arLt 0 n i D = insOuter arLt 0 n (i + 1) (insInner arLt 0 i D) := by
  rw [insOuter, if_pos h]
theorem insOuter_end {n i : Nat} {D : Array A4} (h : ¬ i < n) : insOuter arLt 0 n i D = D := by
  rw [insOuter, if_neg h]
theorem insInner_yes {m : Nat} {D : Array A4} (h : arLt D[m + 1]! D[m]! = true) : insInner arLt 0 (m + 1) D = insInner arLt 0 m (swp D (m + 1) m) := by
  rw [insInner, if_pos (by rw [h]; simp)]
theorem insInner_no {m : Nat} {D : Array A4} (h : arLt D[m + 1]! D[m]! = false) : insInner arLt 0 (m + 1) D = D := by
  rw [insInner, if_neg (by rw [h]; simp)]
theorem ow_cells4f {w : World} {base g n c : Nat} {t : TypeId} {X : List A4} (h : w.ownsRow base t 4 (.slice (some ⟨g, 0, none⟩) n c) n (fa X)) {j : Nat} {a : A4} (hj : X[j]? = some a) :
    w.frozen? ⟨g, j * 4, none⟩ = false ∧ w.frozen? ⟨g, j * 4 + 1, none⟩ = false ∧ w.frozen? ⟨g, j * 4 + 2, none⟩ = false ∧ w.frozen? ⟨g, j * 4 + 3, none⟩ = false := by
  obtain ⟨e0, e1, e2, e3⟩ := fa_get hj
  exact ⟨(ow_cell h e0).2, (ow_cell h e1).2, (ow_cell h e2).2, (ow_cell h e3).2⟩
theorem ow_set4 {w : World} {base g n c : Nat} {t : TypeId} {X : List A4} (h : w.ownsRow base t 4 (.slice (some ⟨g, 0, none⟩) n c) n (fa X)) {j : Nat} (hj : j < X.length) (a : A4) :
    ((((w.setCell ⟨g, j * 4, none⟩ (.int .i64 a.1)).setCell ⟨g, j * 4 + 1, none⟩ (.int .i64 a.2.1)).setCell ⟨g, j * 4 + 2, none⟩ (.int .i64 a.2.2.1)).setCell ⟨g, j * 4 + 3, none⟩ (.int .i64 a.2.2.2)).ownsRow base t 4 (.slice (some ⟨g, 0, none⟩) n c) n (fa (X.set j a)) := by
  have hl := fa_length X
  have e := fa_set hj a.1 a.2.1 a.2.2.1 a.2.2.2
  rw [show X.set j a = X.set j (a.1, a.2.1, a.2.2.1, a.2.2.2) from rfl, ← e]
  exact ow_set (ow_set (ow_set (ow_set h (by omega)) (by rw [List.length_set]; omega)) (by rw [List.length_set, List.length_set]; omega)) (by rw [List.length_set, List.length_set, List.length_set]; omega)
set_option maxRecDepth 100000 in
set_option maxHeartbeats 8000000 in
theorem sTidy_any (b off n c : Nat) (L : List A4) (w : World) (h : SlA w w.heap.size (some ⟨b, off, none⟩) n L) (hn : n ≤ 1048576) :
    Calls Try.prog 71 #[.slice (some ⟨b, off, none⟩) n c] w fun e w' => ∃ A' c', e = .returned (.slice A' (tdy L).length c') ∧ w'.ownsRow w.heap.size 62 4 (.slice A' (tdy L).length c') (tdy L).length (fa (tdy L)) ∧ Below w.heap.size w w' := by
  have hl := h.len
  have ha : SlA (w.alloc (.cells #[] 62)) w.heap.size (some ⟨b, off, none⟩) n L := h.below ((Below.refl _ _).alloc (Nat.le_refl _) _) (Nat.le_refl _)
  have hcell := ha.cells
  have HC : Hid (∀ j u, (fa L)[j]? = some u → (w.alloc (.cells #[] 62)).cell? ⟨b, off + j, none⟩ = some u) := hcell
  have HLN : Hid ((fa L).length = n * 4) := by show _ = _; rw [fa_length, hl]; omega
  have HO : Hid ((w.alloc (.cells #[] 62)).ownsRow w.heap.size 62 4 (.slice (some ⟨w.heap.size, 0, none⟩) 0 0) 0 []) := World.ownsRow_made w #[] 0 (Nat.le_refl _) (by unfold maxLen; omega) rfl
  have hb0 : Below w.heap.size w (w.alloc (.cells #[] 62)) := (Below.refl _ _).alloc (Nat.le_refl _) _
  have HB0 := Lib.hid hb0; have HL := Lib.hid hl; clear hb0 ha hcell h hl
  go_enter Try.func71, Try.ntmps71
  go_wp2_with (first | (at_builtin; refine wpList_cells_push rfl (.tmp 10) (.tmp 11) _ rfl w.heap.size 62 (.agg #[.int .i64 0, .int .i64 0, .int .i64 0, .int .i64 0]) 4 32 Try.underlying25 infoAr rfl (by omega) (by omega) (.slice (some ⟨w.heap.size, 0, none⟩) 0 0) 0 [] rfl HO.out b off n c (fa L) rfl HLN.out HC.out (fa_one L) (by omega) HB0.out.size ?_; intro v' w1 hown hgr hat; obtain ⟨A, c', hv', _, _⟩ := own_form hown; subst hv'; have HG := Lib.hid (grown_below' HO.out hgr HB0.out.size); have HOW := Lib.hid hown; clear hgr hown hat))
  have HB1 := Lib.hid (HB0.out.trans HG.out)
  have h1 := HOW.out
  rw [Nat.zero_add, List.nil_append] at h1
  have HR1 : Hid (World.ownsRow w1 w.heap.size 62 4 (.slice A n c') n (fa L.toArray.toList)) := h1
  have HZ : Hid (L.toArray.size = n) := by show _ = _; simp [HL.out]
  have HT : Hid (tdy L = rG (Sort.insertionSort arLt L.toArray 0 n).toList n) := by show pG (tdS L) L.length = _; rw [pG_rG, HL.out]; rw [← tdS_ins, HL.out]
  clear HC HLN HO HB0 HG HOW h1
  go_loopg [4, 5, 6] n (fun q i k x wr => ∃ (j : Nat) (D : Array A4), i = .int .i64 ((j : Int) + 1) ∧ j ≤ n ∧ n ≤ q + j + 1 ∧ Hid (D.size = n) ∧ Hid (insOuter arLt 0 n (j + 1) D = Sort.insertionSort arLt L.toArray 0 n) ∧ Hid (World.ownsRow wr w.heap.size 62 4 (.slice A n c') n (fa D.toList)) ∧ Hid (Below w.heap.size w wr))
  case atStart => exact ⟨0, L.toArray, by go_num, by omega, by omega, HZ.out, rfl, HR1.out, HB1.out⟩
  case round =>
    clear HR1 HZ HB1
    obtain ⟨j, D, rfl, hj, hm, HS, HI, HR, HB⟩ := hrel
    obtain ⟨wo, rfl⟩ : ∃ x : World, x = wr := ⟨_, rfl⟩
    obtain ⟨gz, hgz⟩ : ∃ x : Nat, x = gk := ⟨_, rfl⟩
    by_cases hlt : j + 1 < n
    · obtain ⟨g, c2, hv, hgb, hgl⟩ := World.ownsRow.form HR.out (by omega)
      injection hv with e1 _ e3
      subst e1 e3
      have HGB := Lib.hid hgb
      have HI2 := Lib.hid ((insOuter_step hlt).symm.trans HI.out)
      have l1 : (j : Int) + 1 < (n : Int) := by omega
      clear hgb hgl
      go_wp2_with fail
      go_loopg [5, 6] (j + 1) (fun q k x wr => ∃ (m : Nat) (E : Array A4), k = .int .i64 (m : Int) ∧ m ≤ j + 1 ∧ m ≤ q ∧ Hid (E.size = n) ∧ Hid (insInner arLt 0 m E = insInner arLt 0 (j + 1) D) ∧ Hid (World.ownsRow wr w.heap.size 62 4 (.slice (some ⟨g, 0, none⟩) n c') n (fa E.toList)) ∧ Hid (Below w.heap.size w wr))
      case atStart => exact ⟨j + 1, D, by go_num, by omega, by omega, HS.out, rfl, HR.out, HB.out⟩
      case round =>
        clear HR HB
        obtain ⟨m, E, rfl, hmj, hq, HSE, HIE, HRE, HBE⟩ := hrel
        obtain ⟨wo, rfl⟩ : ∃ x : World, x = wr := ⟨_, rfl⟩
        cases m with
        | zero =>
          have HE : Hid (E = insInner arLt 0 (j + 1) D) := HIE.out
          go_upto_region 6 with fail
          go_quiet (fail)
          go_wp2_with fail
          go_roundg (gz - 1)
          case measure => omega
          case rel =>
            refine ⟨j + 1, E, by go_num, by omega, by omega, HSE.out, ?_, own_move HRE.out (fun _ _ => rfl), below_draws HBE.out _⟩
            show insOuter arLt 0 n (j + 1 + 1) E = _
            rw [HE.out]; exact HI2.out
        | succ m =>
          have hm1 : m + 1 < n := by omega
          have ha : E.toList[m + 1]? = some E[m + 1]! := getBang (by rw [HSE.out]; omega)
          have hb : E.toList[m]? = some E[m]! := getBang (by rw [HSE.out]; omega)
          have hbf := sBefore_any E[m + 1]! E[m]!
          have hyes : arLt E[m + 1]! E[m]! = true → _ := insInner_yes (m := m) (D := E)
          have hno : arLt E[m + 1]! E[m]! = false → _ := insInner_no (m := m) (D := E)
          have hsw : (swp E (m + 1) m).toList = _ := swp_list
          obtain ⟨r, hr⟩ : ∃ r, r = arLt E[m + 1]! E[m]! := ⟨_, rfl⟩
          rw [← hr] at hbf hyes hno
          obtain ⟨va, hva⟩ : ∃ v, v = E[m + 1]! := ⟨_, rfl⟩
          obtain ⟨vb, hvb⟩ : ∃ v, v = E[m]! := ⟨_, rfl⟩
          rw [← hva] at ha hbf hsw
          rw [← hvb] at hb hbf hsw
          have hca := ow_cells4 HRE.out ha
          have hcb := ow_cells4 HRE.out hb
          have hgl : g < wo.heap.size := (HRE.out.lt g rfl).2
          have HA := Lib.hid ha; have HBb := Lib.hid hb; have HBF := Lib.hid hbf; have HYES := Lib.hid hyes; have HNO := Lib.hid hno; have HSW := Lib.hid hsw
          clear hr hva hvb ha hb hbf hyes hno hsw
          obtain ⟨a0, a1, a2, a3⟩ := va
          obtain ⟨b0, b1, b2, b3⟩ := vb
          obtain ⟨ca0, ca1, ca2, ca3⟩ := hca
          obtain ⟨cb0, cb1, cb2, cb3⟩ := hcb
          simp only [] at ca0 ca1 ca2 ca3 cb0 cb1 cb2 cb3
          have ga0 := fun (k : Nat) (os : Array Obj) => cell_grown (w := wo) (a := ⟨g, (m + 1) * 4, none⟩) (v := .int .i64 a0) hgl ca0 k os
          have ga1 := fun (k : Nat) (os : Array Obj) => cell_grown (w := wo) (a := ⟨g, (m + 1) * 4 + 1, none⟩) (v := .int .i64 a1) hgl ca1 k os
          have ga2 := fun (k : Nat) (os : Array Obj) => cell_grown (w := wo) (a := ⟨g, (m + 1) * 4 + 2, none⟩) (v := .int .i64 a2) hgl ca2 k os
          have ga3 := fun (k : Nat) (os : Array Obj) => cell_grown (w := wo) (a := ⟨g, (m + 1) * 4 + 3, none⟩) (v := .int .i64 a3) hgl ca3 k os
          have gb0 := fun (k : Nat) (os : Array Obj) => cell_grown (w := wo) (a := ⟨g, m * 4, none⟩) (v := .int .i64 b0) hgl cb0 k os
          have gb1 := fun (k : Nat) (os : Array Obj) => cell_grown (w := wo) (a := ⟨g, m * 4 + 1, none⟩) (v := .int .i64 b1) hgl cb1 k os
          have gb2 := fun (k : Nat) (os : Array Obj) => cell_grown (w := wo) (a := ⟨g, m * 4 + 2, none⟩) (v := .int .i64 b2) hgl cb2 k os
          have gb3 := fun (k : Nat) (os : Array Obj) => cell_grown (w := wo) (a := ⟨g, m * 4 + 3, none⟩) (v := .int .i64 b3) hgl cb3 k os
          have i0 : (0 : Int) < (m : Int) + 1 := by omega
          have i0' : (0 : Int) ≤ (m : Int) + 1 := by omega
          have i1 : (m : Int) + 1 < (n : Int) := by omega
          have i2 : (0 : Int) ≤ (m : Int) := by omega
          have i3 : (m : Int) < (n : Int) := by omega
          have t1 : ((m : Int) + 1).toNat = m + 1 := by omega
          have e1 : IntKind.i64.wrap ((m : Int) + 1 - 1) = (m : Int) := by rw [IntWalk.i64_in _ (by omega)]; omega
          have e2 : IntKind.i64.wrap (m : Int) = (m : Int) := IntWalk.i64_in _ (by omega)
          have t2 : (m : Int).toNat = m := by omega
          clear ca0 ca1 ca2 ca3 cb0 cb1 cb2 cb3 hgl
          rw [show ((m + 1 : Nat) : Int) = (m : Int) + 1 by omega]
          go_upto_region 6 with fail
          have mixed : Try.prog.follows .mixedOrders = true := by kernel_rfl
          go_quiet_grown ((go_at_call 90; exact Calls.grown_of (HBF.out _)))
          have hbq := below_grown wo nq osq
          obtain ⟨wq, hwq⟩ : ∃ x, x = grow (wo.drewN nq) osq := ⟨_, rfl⟩
          rw [← hwq] at hbq
          change Exit.then _ _ _ _ (grow (wo.drewN nq) osq)
          rw [← hwq]
          clear hwq mixed
          have HRq := Lib.hid (ow_keep HRE.out hbq (Nat.le_refl _))
          have HBq := Lib.hid (HBE.out.trans (hbq.mono HBE.out.size))
          clear hbq ga0 ga1 ga2 ga3 gb0 gb1 gb2 gb3
          cases r with
          | false =>
            have HE : Hid (E = insInner arLt 0 (j + 1) D) := (HNO.out rfl).symm.trans HIE.out
            go_wp2_with fail
            go_roundg (gz - 1)
            case measure => omega
            case rel =>
              refine ⟨j + 1, E, by go_num, by omega, by omega, HSE.out, ?_, HRq.out, HBq.out⟩
              show insOuter arLt 0 n (j + 1 + 1) E = _
              rw [HE.out]; exact HI2.out
          | true =>
            have HIN := Lib.hid ((HYES.out rfl).symm.trans HIE.out)
            have HA4 := Lib.hid (ow_cells4 HRq.out HA.out)
            obtain ⟨ca0, ca1, ca2, ca3⟩ := HA4.out
            simp only [] at ca0 ca1 ca2 ca3
            go_upto_region 9 with fail
            have hle1 : m + 1 < E.toList.length := by simp [HSE.out]; omega
            have hgq : wq.heap.size ≠ g := by have := (HRq.out.lt g rfl).2; omega
            have RX := Row.new wq 62 [.int .i64 a0, .int .i64 a1, .int .i64 a2, .int .i64 a3]
            have HRy := HRq.out.alloc (.cells ([.int .i64 a0, .int .i64 a1, .int .i64 a2, .int .i64 a3] : List Value).toArray 62)
            have hby : Below w.heap.size w (wq.alloc (.cells ([.int .i64 a0, .int .i64 a1, .int .i64 a2, .int .i64 a3] : List Value).toArray 62)) := HBq.out.alloc HBq.out.size _
            obtain ⟨y, hy⟩ : ∃ y, y = (wq.alloc (.cells ([.int .i64 a0, .int .i64 a1, .int .i64 a2, .int .i64 a3] : List Value).toArray 62)) := ⟨_, rfl⟩
            obtain ⟨gx, hgx⟩ : ∃ x, x = wq.heap.size := ⟨_, rfl⟩
            rw [← hy, ← hgx] at RX
            rw [← hy] at HRy hby
            rw [← hgx] at hgq
            change Code.wp _ _ _ _ (wq.alloc (.cells ([.int .i64 a0, .int .i64 a1, .int .i64 a2, .int .i64 a3] : List Value).toArray 62))
            rw [← hy, ← hgx]
            have RXy := Lib.hid RX; have HRY := Lib.hid HRy; have HBY := Lib.hid hby
            have hne : gx ≠ g := hgq
            clear ca0 ca1 ca2 ca3 RX HRy hby hy hgx hgq HA4
            obtain ⟨ca0, ca1, ca2, ca3⟩ := ow_cells4 HRY.out HA.out
            obtain ⟨fa0, fa1, fa2, fa3⟩ := ow_cells4f HRY.out HA.out
            obtain ⟨cb0, cb1, cb2, cb3⟩ := ow_cells4 HRY.out HBb.out
            simp only [] at ca0 ca1 ca2 ca3 cb0 cb1 cb2 cb3
            have HRz := ow_set4 HRY.out hle1 (b0, b1, b2, b3)
            have RXz := ((((RXy.out.far (p := ⟨g, (m + 1) * 4, none⟩) hne (.int .i64 b0)).far (p := ⟨g, (m + 1) * 4 + 1, none⟩) hne (.int .i64 b1)).far (p := ⟨g, (m + 1) * 4 + 2, none⟩) hne (.int .i64 b2)).far (p := ⟨g, (m + 1) * 4 + 3, none⟩) hne (.int .i64 b3))
            have hgb := (HRY.out.lt g rfl).1
            have hbz := (((HBY.out.setCell (p := ⟨g, (m + 1) * 4, none⟩) hgb (.int .i64 b0)).setCell (p := ⟨g, (m + 1) * 4 + 1, none⟩) hgb (.int .i64 b1)).setCell (p := ⟨g, (m + 1) * 4 + 2, none⟩) hgb (.int .i64 b2)).setCell (p := ⟨g, (m + 1) * 4 + 3, none⟩) hgb (.int .i64 b3)
            have HZ1 := Lib.hid HRz; have HZ2 := Lib.hid RXz; have HZ3 := Lib.hid hbz; have HNE := Lib.hid hne; have HGB2 := Lib.hid hgb
            have hlm : (E.toList.set (m + 1) (b0, b1, b2, b3))[m]? = some (b0, b1, b2, b3) := by rw [List.getElem?_set, if_neg (by omega)]; exact HBb.out
            have HLM := Lib.hid hlm
            clear HRz RXz hbz hne hgb hlm hle1
            go_upto_region 10 with fail
            clear ca0 ca1 ca2 ca3 fa0 fa1 fa2 fa3 cb0 cb1 cb2 cb3
            obtain ⟨z, hz⟩ : ∃ z, z = ((((y.setCell ⟨g, (m + 1) * 4, none⟩ (.int .i64 b0)).setCell ⟨g, (m + 1) * 4 + 1, none⟩ (.int .i64 b1)).setCell ⟨g, (m + 1) * 4 + 2, none⟩ (.int .i64 b2)).setCell ⟨g, (m + 1) * 4 + 3, none⟩ (.int .i64 b3)) := ⟨_, rfl⟩
            have hz1 := HZ1.out; have hz2 := HZ2.out; have hz3 := HZ3.out
            simp only [] at hz1
            rw [← hz] at hz1 hz2 hz3
            change Code.wp _ _ _ _ ((((y.setCell ⟨g, (m + 1) * 4, none⟩ (.int .i64 b0)).setCell ⟨g, (m + 1) * 4 + 1, none⟩ (.int .i64 b1)).setCell ⟨g, (m + 1) * 4 + 2, none⟩ (.int .i64 b2)).setCell ⟨g, (m + 1) * 4 + 3, none⟩ (.int .i64 b3))
            rw [← hz]
            have HZ1 := Lib.hid hz1; have HZ3 := Lib.hid hz3
            clear hz hz1 hz3
            have x0 := hz2.cell 0; have x1 := hz2.cell 1; have x2 := hz2.cell 2; have x3 := hz2.cell 3
            obtain ⟨cb0, cb1, cb2, cb3⟩ := ow_cells4 HZ1.out HLM.out
            obtain ⟨fb0, fb1, fb2, fb3⟩ := ow_cells4f HZ1.out HLM.out
            simp only [] at cb0 cb1 cb2 cb3
            have HEND := Lib.hid (ow_set4 HZ1.out (j := m) (by rw [List.length_set]; simp [HSE.out]; omega) (a0, a1, a2, a3))
            clear hz2
            go_wp2_with fail
            go_roundg (gk - 1)
            case measure => omega
            case rel =>
              have hgb := HGB2.out
              refine ⟨m, swp E (m + 1) m, by go_num, by omega, by omega, swp_sz.trans HSE.out, HIN.out, ?_, (((HZ3.out.setCell (p := ⟨g, m * 4, none⟩) hgb _).setCell (p := ⟨g, m * 4 + 1, none⟩) hgb _).setCell (p := ⟨g, m * 4 + 2, none⟩) hgb _).setCell (p := ⟨g, m * 4 + 3, none⟩) hgb _⟩
              show World.ownsRow _ _ _ _ _ _ (fa (swp E (m + 1) m).toList)
              rw [HSW.out]
              exact HEND.out
    · have HD : Hid (D = Sort.insertionSort arLt L.toArray 0 n) := by show _ = _; rw [← HI.out, insOuter_end hlt]
      have n1 : ¬ (j : Int) + 1 < (n : Int) := by omega
      clear hlt
      obtain ⟨T, hT⟩ : ∃ T, T = (Sort.insertionSort arLt L.toArray 0 n).toList := ⟨_, rfl⟩
      have HDT : Hid (D.toList = T) := by show _ = _; rw [HD.out, hT]
      rw [← hT] at HT
      have HTL : Hid (T.length = n) := by show _ = _; rw [← HDT.out, Array.length_toList]; exact HS.out
      have HRT : Hid (World.ownsRow wo w.heap.size 62 4 (.slice A n c') n (fa T)) := by have := HR.out; rw [HDT.out] at this; exact this
      obtain ⟨wz, rfl⟩ : ∃ x : World, x = wo := ⟨_, rfl⟩
      have h0 : Hid (World.ownsRow (wz.alloc (.cells #[] 62)) wz.heap.size 62 4 (.slice (some ⟨wz.heap.size, 0, none⟩) 0 0) 0 []) := World.ownsRow_made wz #[] 0 (Nat.le_refl _) (by unfold maxLen; omega) rfl
      have hb0 : Hid (Below wz.heap.size wz (wz.alloc (.cells #[] 62))) := (Below.refl _ _).alloc (Nat.le_refl _) _
      clear hT HR HI HD HDT HS
      go_wp2_with fail
      go_loopg [7, 8, 9] n (fun q o i nn wr => ∃ (k lk : Nat) (A2 : Option Addr) (c2 : Nat), i = .int .i64 (k : Int) ∧ k ≤ n ∧ n ≤ q + k ∧ o = .slice A2 lk c2 ∧ lk ≤ k ∧ Hid (lk = (rG T k).length) ∧ Hid (World.ownsRow wr wz.heap.size 62 4 (.slice A2 lk c2) lk (fa (rG T k))) ∧ Hid (Below wz.heap.size wz wr))
      case atStart => exact ⟨0, 0, _, _, rfl, by omega, by omega, rfl, by omega, rfl, h0.out, hb0.out⟩
      case round =>
        clear h0 hb0
        obtain ⟨k, lk, A2, c2, rfl, hk, hm2, rfl, hlk, HLK, HR2, HB2⟩ := hrel
        obtain ⟨wo, rfl⟩ : ∃ x : World, x = wr := ⟨_, rfl⟩
        by_cases hlt : k < n
        · obtain ⟨g, c3, hv, hgb, hgl⟩ := World.ownsRow.form HRT.out (by omega)
          injection hv with e1 _ e3
          subst e1 e3
          obtain ⟨a, ha⟩ : ∃ a, T[k]? = some a := ⟨_, List.getElem?_eq_getElem (by rw [HTL.out]; exact hlt)⟩
          have hgd : T.getD k default = a := by rw [List.getD_eq_getElem?_getD, ha]; rfl
          have HRo := Lib.hid (ow_keep HRT.out HB2.out (Nat.le_refl _))
          have hca := ow_cells4 HRo.out ha
          have HBo := Lib.hid (HB.out.trans (HB2.out.mono HB.out.size))
          obtain ⟨a0, a1, a2, a3⟩ := a
          obtain ⟨ca0, ca1, ca2, ca3⟩ := hca
          simp only [] at ca0 ca1 ca2 ca3
          have HGD := Lib.hid hgd
          have HA := Lib.hid ha
          have l0 : (0 : Int) ≤ (k : Int) := by omega
          have l1 : (k : Int) < (n : Int) := by omega
          have HSZ : Hid (wz.heap.size ≤ wo.heap.size) := HB2.out.size
          clear ha hgd hgb hgl
          cases k with
          | zero =>
            have hl0 : lk = 0 := by omega
            subst hl0
            have HST : Hid (rG T (0 + 1) = rG T 0 ++ [(a0, a1, a2, a3)]) := by show [] ++ [T.getD 0 default] = _; rw [HGD.out]; rfl
            go_upto_region 16 with fail
            go_quiet (fail)
            clear ca0 ca1 ca2 ca3
            obtain ⟨wq, hwq⟩ : ∃ x, x = wo.drewN nq := ⟨_, rfl⟩
            have HRq : Hid (World.ownsRow wq w.heap.size 62 4 (.slice (some ⟨g, 0, none⟩) n c') n (fa T)) := by subst hwq; exact own_move HRo.out (fun _ _ => rfl)
            have HOq : Hid (World.ownsRow wq wz.heap.size 62 4 (.slice A2 0 c2) 0 (fa (rG T 0))) := by subst hwq; exact own_move HR2.out (fun _ _ => rfl)
            have HBq : Hid (Below wz.heap.size wz wq) := by subst hwq; exact below_draws HB2.out _
            have HSq : Hid (wz.heap.size ≤ wq.heap.size) := HBq.out.size
            change Exit.then _ _ _ _ (wo.drewN nq)
            rw [← hwq]
            obtain ⟨ca0, ca1, ca2, ca3⟩ := ow_cells4 HRq.out HA.out
            simp only [Nat.zero_mul, Nat.zero_add] at ca0 ca1 ca2 ca3
            clear hwq
            go_wp2_with (first | (at_builtin; refine wpList_one_push wq rfl (.tmp 106) (.tmp 111) _ rfl wz.heap.size 62 (.agg #[.int .i64 0, .int .i64 0, .int .i64 0, .int .i64 0]) 4 32 Try.underlying25 infoAr rfl (by omega) (by omega) (.slice A2 0 c2) 0 (fa (rG T 0)) rfl HOq.out [.int .i64 a0, .int .i64 a1, .int .i64 a2, .int .i64 a3] rfl (fa_one [(a0, a1, a2, a3)]) wq.heap.size rfl rfl (by omega) HSq.out ?_; intro v' w' hown hgr hat; obtain ⟨A3, c3, hv', _, _⟩ := own_form hown; subst hv'; have HGw := Lib.hid (grown_below' HOq.out hgr HSq.out); have HOW := Lib.hid hown; clear hgr hown hat))
            go_roundg (gk - 1)
            case measure => omega
            case rel =>
              refine ⟨0 + 1, _, A3, c3, by go_num, by omega, by omega, rfl, by omega, ?_, ?_, HBq.out.trans HGw.out⟩
              · show _ = (rG T (0 + 1)).length
                rw [HST.out, List.length_append, ← HLK.out]; rfl
              · show World.ownsRow _ _ _ _ _ _ (fa (rG T (0 + 1)))
                rw [HST.out, fa_append]
                exact HOW.out
          | succ k =>
            obtain ⟨p, hp, -⟩ := rG_last (l := T) k
            have hstep : rG T (k + 1 + 1) = if arEq p (a0, a1, a2, a3) then rG T (k + 1) else rG T (k + 1) ++ [(a0, a1, a2, a3)] := by
              show (match (rG T (k + 1)).getLast? with
                | none => rG T (k + 1) ++ [T.getD (k + 1) default]
                | some p => if arEq p (T.getD (k + 1) default) then rG T (k + 1) else rG T (k + 1) ++ [T.getD (k + 1) default]) = _
              rw [hp, HGD.out]
            have hl1 : 1 ≤ lk := by
              rw [HLK.out]
              rcases hh : rG T (k + 1) with _ | ⟨x, l⟩
              · rw [hh] at hp; cases hp
              · simp
            obtain ⟨q, rfl⟩ : ∃ q, lk = q + 1 := ⟨lk - 1, by omega⟩
            have hpq : (rG T (k + 1))[q]? = some p := by
              rw [List.getLast?_eq_getElem?, ← HLK.out] at hp
              simpa using hp
            obtain ⟨g2, c4, hv, hgb, hgl⟩ := World.ownsRow.form HR2.out (by omega)
            injection hv with e1 _ e3
            subst e1 e3
            obtain ⟨cp0, cp1, cp2, cp3⟩ := ow_cells4 HR2.out hpq
            obtain ⟨p0, p1, p2, p3⟩ := p
            simp only [] at cp0 cp1 cp2 cp3
            have l2 : (0 : Int) < (q : Int) + 1 := by omega
            have l3 : (0 : Int) ≤ (q : Int) := by omega
            have l4 : (q : Int) < (q : Int) + 1 := by omega
            have e1 : IntKind.i64.wrap ((q : Int) + 1 - 1) = (q : Int) := by rw [IntWalk.i64_in _ (by omega)]; omega
            have e2 : IntKind.i64.wrap (q : Int) = (q : Int) := IntWalk.i64_in _ (by omega)
            have t2 : (q : Int).toNat = q := by omega
            have t3 : ((k : Int) + 1).toNat = k + 1 := by omega
            have l5 : (0 : Int) ≤ (k : Int) + 1 := by omega
            have l6 : (k : Int) + 1 < (n : Int) := by omega
            clear l0 l1
            have HSTP := Lib.hid hstep
            clear hstep hp hl1 hpq hgb hgl
            by_cases h0 : p0 = a0
            · by_cases h2 : p2 = a2
              · by_cases h1 : p1 = a1
                · have HST : Hid (rG T (k + 1 + 1) = rG T (k + 1)) := by show _ = _; rw [HSTP.out, if_pos (by rw [arEq_iff]; exact ⟨h0, h2, h1⟩)]
                  subst h0 h1 h2
                  go_upto_region 16 with fail
                  go_quiet (fail)
                  go_wp2_with fail
                  go_roundg (gk - 1)
                  case measure => omega
                  case rel =>
                    refine ⟨k + 1 + 1, q + 1, _, _, by go_num, by omega, by omega, rfl, by omega, ?_, ?_, below_draws HB2.out _⟩
                    · show _ = (rG T (k + 1 + 1)).length
                      rw [HST.out]; exact HLK.out
                    · show World.ownsRow _ _ _ _ _ _ (fa (rG T (k + 1 + 1)))
                      rw [HST.out]; exact own_move HR2.out (fun _ _ => rfl)
                · have HST : Hid (rG T (k + 1 + 1) = rG T (k + 1) ++ [(a0, a1, a2, a3)]) := by show _ = _; rw [HSTP.out, if_neg (by rw [arEq_iff]; exact fun h => h1 h.2.2)]
                  have hd1 : (p1 == a1) = false := beq_false_of_ne h1
                  subst h0 h2
                  clear h1
                  go_upto_region 16 with fail
                  go_quiet (fail)
                  clear cp0 cp1 cp2 cp3 ca0 ca1 ca2 ca3
                  obtain ⟨wq, hwq⟩ : ∃ x, x = wo.drewN nq := ⟨_, rfl⟩
                  have HRq : Hid (World.ownsRow wq w.heap.size 62 4 (.slice (some ⟨g, 0, none⟩) n c') n (fa T)) := by subst hwq; exact own_move HRo.out (fun _ _ => rfl)
                  have HOq : Hid (World.ownsRow wq wz.heap.size 62 4 (.slice (some ⟨g2, 0, none⟩) (q + 1) c2) (q + 1) (fa (rG T (k + 1)))) := by subst hwq; exact own_move HR2.out (fun _ _ => rfl)
                  have HBq : Hid (Below wz.heap.size wz wq) := by subst hwq; exact below_draws HB2.out _
                  have HSq : Hid (wz.heap.size ≤ wq.heap.size) := HBq.out.size
                  change Exit.then _ _ _ _ (wo.drewN nq)
                  rw [← hwq]
                  obtain ⟨ca0, ca1, ca2, ca3⟩ := ow_cells4 HRq.out HA.out
                  simp only [] at ca0 ca1 ca2 ca3
                  clear hwq
                  go_wp2_with (first | (at_builtin; refine wpList_one_push wq rfl (.tmp 106) (.tmp 111) _ rfl wz.heap.size 62 (.agg #[.int .i64 0, .int .i64 0, .int .i64 0, .int .i64 0]) 4 32 Try.underlying25 infoAr rfl (by omega) (by omega) (.slice (some ⟨g2, 0, none⟩) (q + 1) c2) (q + 1) (fa (rG T (k + 1))) rfl HOq.out [.int .i64 p0, .int .i64 a1, .int .i64 p2, .int .i64 a3] rfl (fa_one [(p0, a1, p2, a3)]) wq.heap.size rfl rfl (by omega) HSq.out ?_; intro v' w' hown hgr hat; obtain ⟨A3, c3, hv', _, _⟩ := own_form hown; subst hv'; have HGw := Lib.hid (grown_below' HOq.out hgr HSq.out); have HOW := Lib.hid hown; clear hgr hown hat))
                  go_roundg (gk - 1)
                  case measure => omega
                  case rel =>
                    refine ⟨(k + 1) + 1, _, A3, c3, by go_num, by omega, by omega, rfl, by omega, ?_, ?_, HBq.out.trans HGw.out⟩
                    · show _ = (rG T ((k + 1) + 1)).length
                      rw [HST.out, List.length_append, ← HLK.out]; rfl
                    · show World.ownsRow _ _ _ _ _ _ (fa (rG T ((k + 1) + 1)))
                      rw [HST.out, fa_append]
                      exact HOW.out
              · have HST : Hid (rG T (k + 1 + 1) = rG T (k + 1) ++ [(a0, a1, a2, a3)]) := by show _ = _; rw [HSTP.out, if_neg (by rw [arEq_iff]; exact fun h => h2 h.2.1)]
                have hd1 : (p2 == a2) = false := beq_false_of_ne h2
                subst h0
                clear h2
                go_upto_region 16 with fail
                go_quiet (fail)
                clear cp0 cp1 cp2 cp3 ca0 ca1 ca2 ca3
                obtain ⟨wq, hwq⟩ : ∃ x, x = wo.drewN nq := ⟨_, rfl⟩
                have HRq : Hid (World.ownsRow wq w.heap.size 62 4 (.slice (some ⟨g, 0, none⟩) n c') n (fa T)) := by subst hwq; exact own_move HRo.out (fun _ _ => rfl)
                have HOq : Hid (World.ownsRow wq wz.heap.size 62 4 (.slice (some ⟨g2, 0, none⟩) (q + 1) c2) (q + 1) (fa (rG T (k + 1)))) := by subst hwq; exact own_move HR2.out (fun _ _ => rfl)
                have HBq : Hid (Below wz.heap.size wz wq) := by subst hwq; exact below_draws HB2.out _
                have HSq : Hid (wz.heap.size ≤ wq.heap.size) := HBq.out.size
                change Exit.then _ _ _ _ (wo.drewN nq)
                rw [← hwq]
                obtain ⟨ca0, ca1, ca2, ca3⟩ := ow_cells4 HRq.out HA.out
                simp only [] at ca0 ca1 ca2 ca3
                clear hwq
                go_wp2_with (first | (at_builtin; refine wpList_one_push wq rfl (.tmp 106) (.tmp 111) _ rfl wz.heap.size 62 (.agg #[.int .i64 0, .int .i64 0, .int .i64 0, .int .i64 0]) 4 32 Try.underlying25 infoAr rfl (by omega) (by omega) (.slice (some ⟨g2, 0, none⟩) (q + 1) c2) (q + 1) (fa (rG T (k + 1))) rfl HOq.out [.int .i64 p0, .int .i64 a1, .int .i64 a2, .int .i64 a3] rfl (fa_one [(p0, a1, a2, a3)]) wq.heap.size rfl rfl (by omega) HSq.out ?_; intro v' w' hown hgr hat; obtain ⟨A3, c3, hv', _, _⟩ := own_form hown; subst hv'; have HGw := Lib.hid (grown_below' HOq.out hgr HSq.out); have HOW := Lib.hid hown; clear hgr hown hat))
                go_roundg (gk - 1)
                case measure => omega
                case rel =>
                  refine ⟨(k + 1) + 1, _, A3, c3, by go_num, by omega, by omega, rfl, by omega, ?_, ?_, HBq.out.trans HGw.out⟩
                  · show _ = (rG T ((k + 1) + 1)).length
                    rw [HST.out, List.length_append, ← HLK.out]; rfl
                  · show World.ownsRow _ _ _ _ _ _ (fa (rG T ((k + 1) + 1)))
                    rw [HST.out, fa_append]
                    exact HOW.out
            · have HST : Hid (rG T (k + 1 + 1) = rG T (k + 1) ++ [(a0, a1, a2, a3)]) := by show _ = _; rw [HSTP.out, if_neg (by rw [arEq_iff]; exact fun h => h0 h.1)]
              have hd1 : (p0 == a0) = false := beq_false_of_ne h0
              clear h0
              go_upto_region 16 with fail
              go_quiet (fail)
              clear cp0 cp1 cp2 cp3 ca0 ca1 ca2 ca3
              obtain ⟨wq, hwq⟩ : ∃ x, x = wo.drewN nq := ⟨_, rfl⟩
              have HRq : Hid (World.ownsRow wq w.heap.size 62 4 (.slice (some ⟨g, 0, none⟩) n c') n (fa T)) := by subst hwq; exact own_move HRo.out (fun _ _ => rfl)
              have HOq : Hid (World.ownsRow wq wz.heap.size 62 4 (.slice (some ⟨g2, 0, none⟩) (q + 1) c2) (q + 1) (fa (rG T (k + 1)))) := by subst hwq; exact own_move HR2.out (fun _ _ => rfl)
              have HBq : Hid (Below wz.heap.size wz wq) := by subst hwq; exact below_draws HB2.out _
              have HSq : Hid (wz.heap.size ≤ wq.heap.size) := HBq.out.size
              change Exit.then _ _ _ _ (wo.drewN nq)
              rw [← hwq]
              obtain ⟨ca0, ca1, ca2, ca3⟩ := ow_cells4 HRq.out HA.out
              simp only [] at ca0 ca1 ca2 ca3
              clear hwq
              go_wp2_with (first | (at_builtin; refine wpList_one_push wq rfl (.tmp 106) (.tmp 111) _ rfl wz.heap.size 62 (.agg #[.int .i64 0, .int .i64 0, .int .i64 0, .int .i64 0]) 4 32 Try.underlying25 infoAr rfl (by omega) (by omega) (.slice (some ⟨g2, 0, none⟩) (q + 1) c2) (q + 1) (fa (rG T (k + 1))) rfl HOq.out [.int .i64 a0, .int .i64 a1, .int .i64 a2, .int .i64 a3] rfl (fa_one [(a0, a1, a2, a3)]) wq.heap.size rfl rfl (by omega) HSq.out ?_; intro v' w' hown hgr hat; obtain ⟨A3, c3, hv', _, _⟩ := own_form hown; subst hv'; have HGw := Lib.hid (grown_below' HOq.out hgr HSq.out); have HOW := Lib.hid hown; clear hgr hown hat))
              go_roundg (gk - 1)
              case measure => omega
              case rel =>
                refine ⟨(k + 1) + 1, _, A3, c3, by go_num, by omega, by omega, rfl, by omega, ?_, ?_, HBq.out.trans HGw.out⟩
                · show _ = (rG T ((k + 1) + 1)).length
                  rw [HST.out, List.length_append, ← HLK.out]; rfl
                · show World.ownsRow _ _ _ _ _ _ (fa (rG T ((k + 1) + 1)))
                  rw [HST.out, fa_append]
                  exact HOW.out
        · have hkn : k = n := by omega
          have HKN := Lib.hid hkn
          have n1 : ¬ (k : Int) < (n : Int) := by omega
          clear hlt hkn
          go_wp2_with fail
          go_ret
          have hT2 := HT.out
          have ho := HR2.out
          rw [HKN.out, ← hT2] at ho
          have hl2 := HLK.out
          rw [HKN.out, ← hT2] at hl2
          subst hl2
          exact ⟨_, _, rfl, World.ownsRow.mono ho HB.out.size, HB.out.trans (HB2.out.mono HB.out.size)⟩
end Go.Proofs.Ytegponioggpkcaa
