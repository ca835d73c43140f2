/- BestWord of the reference. -/
import Derived.Test.YtegponioggpkcaaBwS3
import Derived.Test.YtegponioggpkcaaBwJ

namespace Go.Proofs.Ytegponioggpkcaa
open Go.RowKit
set_option linter.unusedVariables false
set_option maxRecDepth 100000 in
set_option maxHeartbeats 16000000 in
theorem sBest_any (S T : Int) (L : List A4) (P E : List Int) (A2 : Option Addr) (C2 : Nat) (A3 : Option Addr) (C3 : Nat) (A4 : Option Addr) (C4 : Nat) (w : World)
    (h2 : SlA w w.heap.size A2 L.length L) (h3 : SlI w w.heap.size A3 P.length P) (h4 : SlI w w.heap.size A4 E.length E)
    (hL : L.length ≤ 1048576) (hP : P.length ≤ 1048576) (hE : E.length ≤ 1048576) :
    Calls Try.prog 21 #[.agg #[.int .i64 S, .int .i64 T, .slice A2 L.length C2, .slice A3 P.length C3, .slice A4 E.length C4]] w fun e w' => ∃ A c, e = .returned (.tuple #[.slice A (bwW 1099511627776 S T L P E).length c, .int .i64 (bwC 1099511627776 S T L P E), .bool (bwB 1099511627776 S T L P E)]) ∧ RowI w' w.heap.size 2 (.slice A (bwW 1099511627776 S T L P E).length c) (bwW 1099511627776 S T L P E) ∧ Below w.heap.size w w' := by
  have rb := Row.new w 28 [.int .i64 S, .int .i64 T, .slice A2 L.length C2, .slice A3 P.length C3, .slice A4 E.length C4]
  have bx : Below w.heap.size w (w.alloc (.cells ([.int .i64 S, .int .i64 T, .slice A2 L.length C2, .slice A3 P.length C3, .slice A4 E.length C4] : List Value).toArray 28)) := (Below.refl _ _).alloc (Nat.le_refl _) _
  have RB := Lib.hid rb; have BX := Lib.hid bx
  have H2 := Lib.hid ((h2.below bx (Nat.le_refl _)).more bx.size); have H3 := Lib.hid ((h3.below bx (Nat.le_refl _)).more bx.size); have H4 := Lib.hid ((h4.below bx (Nat.le_refl _)).more bx.size)
  have HM : Hid (Mp (w.alloc (.cells ([.int .i64 S, .int .i64 T, .slice A2 L.length C2, .slice A3 P.length C3, .slice A4 E.length C4] : List Value).toArray 28)) w.heap.size S T L P E) := ⟨_, _, _, _, _, _, rb, H2.out, H3.out, H4.out⟩
  clear rb bx h2 h3 h4
  go_enter Try.func21, Try.ntmps21
  go_wp2_with fail
  obtain ⟨x0, hx0⟩ : ∃ x, x = w.alloc (.cells ([.int .i64 S, .int .i64 T, .slice A2 L.length C2, .slice A3 P.length C3, .slice A4 E.length C4] : List Value).toArray 28) := ⟨_, rfl⟩
  rw [← hx0] at RB BX HM H2 H3 H4
  change Calls _ _ _ (w.alloc (.cells ([.int .i64 S, .int .i64 T, .slice A2 L.length C2, .slice A3 P.length C3, .slice A4 E.length C4] : List Value).toArray 28)) _
  rw [← hx0]
  clear hx0
  refine (sIs_any w.heap.size S T L P E A2 L.length C2 A3 P.length C3 A4 E.length C4 x0.heap.size x0 RB.out (Nat.le_refl _) H2.out H3.out H4.out (by omega) (by omega) (by omega)).mono ?_
  rintro e w1 ⟨rfl, hb1⟩
  have HM1 := Lib.hid (HM.out.below hb1 (Nat.le_refl _))
  have BX1 := Lib.hid (BX.out.trans (hb1.mono BX.out.size))
  clear hb1 HM H2 H3 H4 RB BX
  obtain ⟨ok, hok⟩ : ∃ ok, ok = vmB S T L P E := ⟨_, rfl⟩
  rw [← hok]
  have HOK := Lib.hid hok; clear hok
  cases ok with
  | false =>
    have HF : Hid (bwB 1099511627776 S T L P E = false) := by show _ = _; unfold bwB; rw [← HOK.out]; rfl
    have HN := Lib.hid (bw_none HF.out)
    go_wp2_with fail
    go_ret3
    rw [HF.out, HN.out.1, HN.out.2]
    exact ⟨none, 0, rfl, World.ownsRow_nil _ _ _ _, BX1.out⟩
  | true =>
  obtain ⟨hLk, hP1, hE1, h0, hPE, hPn, hLn, hS, hT1, hT4⟩ := vm_okM HOK.out.symm
  obtain ⟨t, ht⟩ : ∃ t : Nat, T = (t : Int) := ⟨T.toNat, by omega⟩
  have ht4 : t ≤ 4 := by omega
  have ht0 : 0 < t := by omega
  have HO : Hid (Okw t L P E) := ⟨hPE.symm, hPn, hLk, hP1, hE1⟩
  have HPF : Hid (∀ x ∈ P, x ≤ 1000000000) := fun x hx => by have := hP1 x hx; omega
  have HLc : Hid (∀ a ∈ L, 0 ≤ a.2.2.2) := hLk.cost
  have HLK := Lib.hid hLk; have HP1 := Lib.hid hP1; have HE1 := Lib.hid hE1
  have HTT := Lib.hid ht; have HSN := Lib.hid hS; have HPE := Lib.hid hPE
  have HTN : Hid (T.toNat = t) := by show _ = _; omega
  clear hLk hP1 hE1 hPE hS ht
  have hCl := sClosed_any w.heap.size S T L P E P.length w1 HM1.out HSN.out HLK.out h0 (by omega) (by omega)
  go_wp2_with fail
  refine hCl.mono ?_
  rintro e w2 ⟨gt, ct, C, rfl, hT2, hC, hb2⟩
  clear hCl
  have HC := Lib.hid hC
  have HT2 : Hid (TabR w2 gt P.length C) := hT2.r hC.1.1 hC.1.2
  have HM2 := Lib.hid (HM1.out.below hb2 (Nat.le_refl _))
  have BX2 := Lib.hid (BX1.out.trans (hb2.mono BX1.out.size))
  clear hT2 hC hb2 HM1 BX1
  have hAl := sAll_any w.heap.size S T L P E gt P.length ct t C w2 HM2.out HT2.out HSN.out HTT.out ht4 HLK.out HC.out.2.1 (by omega) (by omega)
  go_wp2_with fail
  refine hAl.mono ?_
  rintro e w3 ⟨gA, cA, rfl, hA3, hb3⟩
  clear hAl
  have HA3 := Lib.hid hA3
  have HT3 := Lib.hid (HT2.out.below hb3 (Nat.le_refl _)); have HM3 := Lib.hid (HM2.out.below hb3 (Nat.le_refl _))
  have BX3 := Lib.hid (BX2.out.trans (hb3.mono BX2.out.size))
  clear hA3 hb3 HT2 HM2 BX2
  have hRs := sRest_any w.heap.size S T L P E gt P.length ct gA cA t C w3 HM3.out HT3.out HA3.out HSN.out HTT.out ht4 HLc.out HC.out.2.1 HPE.out.symm HE1.out h0 (by omega)
  go_wp2_with fail
  refine hRs.mono ?_
  rintro e w4 ⟨gr, cr, rfl, hR4, hb4⟩
  clear hRs
  have HR4 := Lib.hid hR4
  have HA4 := Lib.hid (HA3.out.below hb4 (Nat.le_refl _)); have HM4 := Lib.hid (HM3.out.below hb4 (Nat.le_refl _))
  have BX4 := Lib.hid (BX3.out.trans (hb4.mono BX3.out.size))
  clear hR4 hb4 HA3 HM3 BX3 HT3
  have hFi := sFirst_any w.heap.size S T L P E w4 HM4.out HSN.out (by omega)
  go_wp2_with fail
  refine hFi.mono ?_
  rintro e w5 ⟨An, cn, rfl, hN5, hb5⟩
  clear hFi
  have HN5 : Hid (RowI w5 w.heap.size 2 (.slice An P.length cn) (frL 1000000000 P)) := World.ownsRow.mono hN5 BX4.out.size
  have HR5 := Lib.hid (HR4.out.keep hb5 (Nat.le_refl _))
  have HA5 := Lib.hid (HA4.out.below hb5 (Nat.le_refl _)); have HM5 := Lib.hid (HM4.out.below hb5 (Nat.le_refl _))
  have BX5 := Lib.hid (BX4.out.trans (hb5.mono BX4.out.size))
  clear hN5 hb5 HA4 HM4 BX4 HR4
  have hTo := sToEnd_any w.heap.size S T L P E w5 HM5.out (by rw [HSN.out, HPE.out]) HE1.out (by rw [← HPE.out]; exact HLK.out) (by rw [← HPE.out]; exact h0) (by rw [← HPE.out]; exact hPn) (by omega)
  rw [← HPE.out] at hTo
  go_wp2_with fail
  refine hTo.mono ?_
  rintro e w6 ⟨ge, ce, rfl, hE6, hb6⟩
  clear hTo
  have HN6 := Lib.hid (RowI.keep HN5.out hb6 (Nat.le_refl _))
  have HR6 := Lib.hid (HR5.out.keep hb6 (Nat.le_refl _))
  have HA6 := Lib.hid (HA5.out.below hb6 (Nat.le_refl _))
  have BX6 := Lib.hid (BX5.out.trans (hb6.mono BX5.out.size))
  have HEB : Hid (Bd 1000000000 (edV 1000000000 L E)) := by
    have h1 : okM E.length (L.map bkE) := by rw [← HPE.out]; exact HLK.out.bkE
    exact Bd.relN (by omega) (frL_bd (by omega) (fun x hx => by have := HE1.out x hx; omega)) h1.cost _
  have hSm := sSum_any An P.length cn (frL 1000000000 P) (some ⟨ge, 0, none⟩) ce (edV 1000000000 L E) w6 (HN6.out.sl (frL_len _ _)) (hE6.sl hE6.n) (frL_bd (by omega) HPF.out) HEB.out (by omega)
  rw [frL_len] at hSm
  have hbce : lsm 1000000000 (frL 1000000000 P) (edV 1000000000 L E) P.length = bcI 1000000000 L P E := rfl
  rw [hbce] at hSm
  clear hbce
  obtain ⟨bst, hbst⟩ : ∃ b, b = bcI 1000000000 L P E := ⟨_, rfl⟩
  rw [← hbst] at hSm
  have HBST := Lib.hid hbst
  clear hb6 hE6 HN5 HR5 HA5 HM5 BX5 HEB hbst
  go_wp2_with fail
  refine hSm.mono ?_
  rintro e w7 ⟨rfl, hb7⟩
  clear hSm
  have HN7 := Lib.hid (RowI.keep HN6.out hb7 (Nat.le_refl _))
  have HR7 := Lib.hid (HR6.out.keep hb7 (Nat.le_refl _))
  have HA7 := Lib.hid (HA6.out.below hb7 (Nat.le_refl _))
  have BX7 := Lib.hid (BX6.out.trans (hb7.mono BX6.out.size))
  clear hb7 HN6 HR6 HA6 BX6
  have HRB := Lib.hid (reV_bd (F := 1000000000) (T := t) (L := L) (E := E) (by omega) HC.out.2.1 HLc.out)
  have HRW : Hid (∀ (x : World) (r : Nat), r < 13 → Below w7.heap.size w7 x → ∃ gq cq, x.cell? ⟨gr, r, none⟩ = some (.slice (some ⟨gq, 0, none⟩) P.length cq) ∧ SlI x x.heap.size (some ⟨gq, 0, none⟩) P.length (reV 1000000000 t L E C r)) := by
    intro x r hr hx
    have hxk : ((List.range 13).map (reV 1000000000 t L E C))[r]? = some (reV 1000000000 t L E C r) := by rw [List.getElem?_map, List.getElem?_range hr]; rfl
    obtain ⟨gt', ct', gq, cq, hv, _, _, _, hck, _, _, hgq, _, hcells⟩ := (HR7.out.keep hx (Nat.le_refl _)).at_ hxk
    injection hv with e1 e2 e3
    injection e1 with e1
    injection e1 with e1 _ _
    subst e1
    have hel : (reV 1000000000 t L E C r).length = P.length := by rw [reV_len]; exact HPE.out.symm
    rw [hel] at hck
    exact ⟨gq, cq, hck, by rw [iv_length]; exact hel, fun _ => ⟨gq, 0, rfl, hgq, fun q u hu => by
      obtain ⟨y, hy, rfl⟩ := iv_get hu
      rw [Nat.zero_add]; exact hcells q y hy⟩⟩
  have HBC := Lib.hid (bc_both (F := 1099511627776) (F' := 1000000000) HO.out (by omega) (by omega))
  have HSAME : Hid (bcI 1099511627776 L P E < 1099511627776 → hI 1099511627776 t L P E = hR 1000000000 t L P E C ∧ lI 1099511627776 t L P E = lR 1000000000 t L P E C) := fun hb => h_same HO.out (by omega) (by omega) HC.out hb
  have HBB : Hid (bwB 1099511627776 S T L P E = (decide (bcI 1099511627776 L P E < 1099511627776) && decide (lI 1099511627776 t L P E < 13))) := by show _ = _; unfold bwB; rw [← HOK.out, Bool.true_and, HTN.out]
  go_wp2_with fail
  go_loopg [10] 13 (fun q i wr => ∃ r : Nat, i = .int .i64 r ∧ r ≤ 13 ∧ 13 ≤ q + r ∧ Hid (∀ j, j < r → decide (lgR 1000000000 t L P E C j ≤ bst) = false) ∧ Hid (Below w7.heap.size w7 wr))
  case atStart => exact ⟨0, rfl, by omega, by omega, fun j hj => by omega, Below.refl _ _⟩
  case round =>
    obtain ⟨r, rfl, hr, hm, HNO, HB⟩ := hrel
    obtain ⟨wo, rfl⟩ : ∃ x : World, x = wr := ⟨_, rfl⟩
    by_cases hlt : r ≤ 12
    case neg =>
      have hr13 : r = 13 := by omega
      subst hr13
      have HF : Hid (bwB 1099511627776 S T L P E = false) := by
        show _ = _
        rw [HBB.out]
        by_cases hb : bcI 1099511627776 L P E < 1099511627776
        · have e := (HSAME.out hb).2
          have e2 : lR 1000000000 t L P E C = 13 := by
            have := fstT_none (p := fun r => decide (lgR 1000000000 t L P E C r ≤ bcI 1000000000 L P E)) (f := 13) (l := 0) (fun j _ h2 => by have := HNO.out j (by omega); rw [HBST.out] at this; exact this)
            unfold lR
            omega
          rw [e, e2]; simp
        · rw [decide_eq_false hb]; rfl
      have HN := Lib.hid (bw_none HF.out)
      have q1 : ¬ ((13 : Nat) : Int) ≤ 12 := by omega
      by_cases hb9 : 1000000000 ≤ bst
      · go_wp2_with fail
        go_ret3
        rw [HF.out, HN.out.1, HN.out.2]
        exact ⟨none, 0, rfl, World.ownsRow_nil _ _ _ _, BX7.out.trans (HB.out.mono BX7.out.size)⟩
      · go_wp2_with fail
        go_ret3
        rw [HF.out, HN.out.1, HN.out.2]
        exact ⟨none, 0, rfl, World.ownsRow_nil _ _ _ _, BX7.out.trans (HB.out.mono BX7.out.size)⟩
    have q1 : (r : Int) ≤ 12 := by omega
    obtain ⟨gq, cq, hck, hsl⟩ := HRW.out wo r (by omega) HB.out
    obtain ⟨x, hx⟩ : ∃ x, x = lgR 1000000000 t L P E C r := ⟨_, rfl⟩
    have HNo := Lib.hid (RowI.keep HN7.out HB.out (Nat.le_refl _))
    have hSm := sSum_any An P.length cn (frL 1000000000 P) (some ⟨gq, 0, none⟩) cq (reV 1000000000 t L E C r) wo (HNo.out.sl (frL_len _ _)) hsl (frL_bd (by omega) HPF.out) (HRB.out r) (by omega)
    rw [frL_len] at hSm
    have hxe : lsm 1000000000 (frL 1000000000 P) (reV 1000000000 t L E C r) P.length = lgR 1000000000 t L P E C r := rfl
    rw [hxe, ← hx] at hSm
    have HX := Lib.hid hx
    have i1 : (r : Int) < 13 := by omega
    clear hxe hsl hx
    by_cases hbx : bst < x
    · have HNO2 : Hid (∀ j, j < r + 1 → decide (lgR 1000000000 t L P E C j ≤ bst) = false) := fun j hj => by
        by_cases e : j = r
        · rw [e, ← HX.out]; exact decide_eq_false (by omega)
        · exact HNO.out j (by omega)
      go_wp2_with fail
      refine hSm.mono ?_
      rintro e w8 ⟨rfl, hb8⟩
      clear hSm
      go_wp2_with fail
      go_roundg (gk - 1)
      case measure => omega
      case rel => exact ⟨r + 1, by go_num, by omega, by omega, HNO2.out, HB.out.trans (hb8.mono HB.out.size)⟩
    have hxb : x ≤ bst := by omega
    have HLR : Hid (lR 1000000000 t L P E C = r) := by
      show _ = _
      refine fstT_hit (fun j hj => ?_) (by omega) ?_
      · have := HNO.out j hj; rw [HBST.out] at this; exact this
      · rw [← HX.out, ← HBST.out]; exact decide_eq_true hxb
    by_cases hb9 : 1000000000 ≤ bst
    · have HF : Hid (bwB 1099511627776 S T L P E = false) := by
        show _ = _
        rw [HBB.out, decide_eq_false (p := bcI 1099511627776 L P E < 1099511627776) (fun hb => by have := HBC.out.1.1 hb; rw [← HBST.out] at this; omega)]; rfl
      have HN := Lib.hid (bw_none HF.out)
      go_wp2_with fail
      refine hSm.mono ?_
      rintro e w8 ⟨rfl, hb8⟩
      clear hSm
      go_wp2_with fail
      go_ret3
      rw [HF.out, HN.out.1, HN.out.2]
      exact ⟨none, 0, rfl, World.ownsRow_nil _ _ _ _, BX7.out.trans ((HB.out.trans (hb8.mono HB.out.size)).mono BX7.out.size)⟩
    have hb9' : bst < 1000000000 := by omega
    have HBF : Hid (bcI 1099511627776 L P E < 1099511627776) := HBC.out.1.2 (by rw [← HBST.out]; exact hb9')
    have HBE : Hid (bst = bcI 1099511627776 L P E) := by show _ = _; rw [HBST.out]; exact (HBC.out.2 HBF.out).symm
    have HLI : Hid (lI 1099511627776 t L P E = r) := by show _ = _; rw [(HSAME.out HBF.out).2]; exact HLR.out
    have HTR : Hid (bwB 1099511627776 S T L P E = true) := by
      show _ = _
      rw [HBB.out, decide_eq_true HBF.out, decide_eq_true (show lI 1099511627776 t L P E < 13 by rw [HLI.out]; omega)]; rfl
    have HWW : Hid (bwW 1099511627776 S T L P E = (gwW (hR 1000000000 t L P E C) t r []).reverse) := by
      show _ = _
      unfold bwW
      rw [HTR.out, if_pos rfl, HTN.out, HLI.out, (HSAME.out HBF.out).1]
    have HCC : Hid (bwC 1099511627776 S T L P E = bst) := by show _ = _; unfold bwC; rw [HTR.out, if_pos rfl]; exact HBE.out.symm
    have HHT : Hid (Ht P.length t L P E [] r bst) := by
      show Ht _ _ _ _ _ _ _ _
      have h1 := (lgR_iff HO.out (F := 1000000000) (C := C) (by omega) HC.out (by rw [← HBST.out]; exact hb9') r).1 (by rw [← HX.out, ← HBST.out]; exact hxb)
      rw [← HBST.out] at h1
      exact h1
    have HHR : Hid (∀ rw r l, hR 1000000000 t L P E C rw r l = true ↔ Ht P.length t L P E ((l : Int) :: rw) r bst) := fun rw' r l => by
      have h1 := htR_iff HO.out (F := 1000000000) (C := C) (by omega) HC.out (by rw [← HBST.out]; exact hb9') rw' r l
      rw [← HBST.out] at h1
      unfold hR
      rw [decide_eq_true_iff, ← HBST.out]
      exact h1
    clear hbx hb9
    go_wp2_with fail
    refine hSm.mono ?_
    rintro e w8 ⟨rfl, hb8⟩
    clear hSm hck
    have HB8 := Lib.hid (HB.out.trans (hb8.mono HB.out.size))
    have HN8 := Lib.hid (RowI.keep HN7.out HB8.out (Nat.le_refl _))
    have HA8 := Lib.hid (HA7.out.below HB8.out (Nat.le_refl _))
    have BX8 := Lib.hid (BX7.out.trans (HB8.out.mono BX7.out.size))
    have HO9 := Lib.hid (RowI.made w8 w8.heap.size 2 (Nat.le_refl _))
    have hba : Below w8.heap.size w8 (w8.alloc (.cells #[] 2)) := (Below.refl _ _).alloc (Nat.le_refl _) _
    have HN9 := Lib.hid (RowI.keep HN8.out hba (Nat.le_refl _))
    have HBA := Lib.hid hba
    have HAP : Hid (∀ k, (Value.slice (some ⟨w8.heap.size, 0, none⟩) 0 0).ownBlock = some k → (Value.slice An P.length cn).ownBlock ≠ some k) := fun k hk hk2 => by
      have h1 := (HN8.out.lt' k hk2).2
      simp [Value.ownBlock] at hk
      omega
    clear hb8 hba HB HNo HN7 HA7 BX7 HN8
    go_wp2_with fail
    obtain ⟨r0, hr0⟩ : ∃ x, x = r := ⟨_, rfl⟩
    have hr012 : r0 ≤ 12 := by omega
    go_loopg [8, 10, 11, 12, 13] 13 (fun q nw lf wd u12 u13 wr => ∃ (r m : Nat) (A : Option Addr) (c : Nat) (B : Option Addr) (d : Nat) (rw : List Int), lf = .int .i64 r ∧ r ≤ q ∧ m + r = r0 ∧ wd = .slice A m c ∧ nw = .slice B P.length d ∧ Hid (rw.length = m) ∧ Hid (RowI wr w8.heap.size 2 (.slice A m c) rw.reverse) ∧ Hid (RowI wr w.heap.size 2 (.slice B P.length d) (nwV 1000000000 L P C rw)) ∧ Hid (∀ k, (Value.slice A m c).ownBlock = some k → (Value.slice B P.length d).ownBlock ≠ some k) ∧ Hid (Below w8.heap.size w8 wr) ∧ Hid (gwW (hR 1000000000 t L P E C) t r rw = gwW (hR 1000000000 t L P E C) t r0 []) ∧ Hid (Ht P.length t L P E rw r bst))
    case atStart => exact ⟨r, 0, _, _, An, cn, [], rfl, by omega, by omega, rfl, rfl, rfl, HO9.out, HN9.out, HAP.out, HBA.out, by rw [hr0]; rfl, HHT.out⟩
    case round =>
      try rw [← hr0] at HWW
      clear HO9 HN9 HAP HBA HHT HLR HLI HX HNO hr0
      obtain ⟨r, m, A, c, B, d, rw', rfl, hrq, hmr, rfl, rfl, HLN, HRO, HCW, HAP, HB, HGW, HHT⟩ := hrel
      obtain ⟨wo, rfl⟩ : ∃ x : World, x = wr := ⟨_, rfl⟩
      obtain ⟨gz, hgz⟩ : ∃ g : Nat, g = gk := ⟨_, rfl⟩
      rcases r with _ | r
      · go_wp2_with fail
        go_ret3
        have HE : Hid (bwW 1099511627776 S T L P E = rw'.reverse) := by show _ = _; rw [HWW.out, ← HGW.out]; rfl
        rw [HTR.out, HCC.out, HE.out]
        have hrw := HRO.out
        unfold RowI at hrw ⊢
        rw [List.length_reverse, HLN.out] at hrw ⊢
        exact ⟨A, c, rfl, World.ownsRow.mono hrw BX8.out.size, BX8.out.trans (HB.out.mono BX8.out.size)⟩
      · have q1 : (0 : Int) < ((r + 1 : Nat) : Int) := by omega
        have hwr : IntKind.i64.wrap (((r + 1 : Nat) : Int) - 1) = (r : Int) := by rw [IntWalk.i64_in _ (by omega)]; omega
        rw [show ((r + 1 : Nat) : Int) = (r : Int) + 1 by omega] at q1 hwr ⊢
        have HFS := Lib.hid (nextL (h := hR 1000000000 t L P E C rw' r) (HHR.out rw' r) HHT.out)
        obtain ⟨fs, hfs⟩ : ∃ f, f = fstT (hR 1000000000 t L P E C rw' r) t 0 := ⟨_, rfl⟩
        rw [← hfs] at HFS
        have HFE := Lib.hid hfs
        have hft : fs < t := HFS.out.2.1
        have HNB := Lib.hid (nwV_bd (F := 1000000000) (L := L) (P := P) (C := C) (by omega) HPF.out HLc.out HC.out.2.1 rw')
        have HSB := Lib.hid (fun l : Nat => spV_bd (F := 1000000000) (L := L) (l := (l : Int)) (by omega) HC.out.2.1 HLc.out)
        have HAo := HA8.out.below HB.out (Nat.le_refl _)
        obtain ⟨ga, ca, ka, _, hTA⟩ := HAo 0 _ (alV_at ht0)
        have hMv := sMove_any B P.length d (nwV 1000000000 L P C rw') ga ca (spV 1000000000 L ((0 : Nat) : Int) C) wo (HCW.out.sl (nwV_len _ _ _ _ _)) hTA HNB.out (HSB.out 0) (by omega)
        have i3 : (0 : Int) < (t : Int) := by omega
        clear hfs hTA HAo
        go_wp2_with fail
        refine hMv.mono ?_
        clear hMv ka
        rintro e w9 ⟨B1, d1, rfl, hm9, hb9⟩
        have HM9 := Lib.hid hm9; have HB9 := Lib.hid hb9
        clear hm9 hb9
        go_wp2_with fail
        go_loopg [12, 13] t (fun q lt nx wr => ∃ (l : Nat) (B1 : Option Addr) (d1 : Nat), lt = .int .i64 l ∧ l ≤ fs ∧ t ≤ q + l ∧ nx = .slice B1 P.length d1 ∧ Hid (RowI wr wo.heap.size 2 (.slice B1 P.length d1) (mvV 1000000000 (nwV 1000000000 L P C rw') (spV 1000000000 L (l : Int) C))) ∧ Hid (Below wo.heap.size wo wr))
        case atStart => exact ⟨0, B1, d1, rfl, by omega, by omega, rfl, HM9.out, HB9.out⟩
        case round =>
          clear HM9 HB9
          obtain ⟨l, B1, d1, rfl, hlf, hm2, rfl, HM, HBi⟩ := hrel
          obtain ⟨wi, rfl⟩ : ∃ x : World, x = wr := ⟨_, rfl⟩
          have hb8i : Below w8.heap.size w8 wi := HB.out.trans (HBi.out.mono HB.out.size)
          obtain ⟨gq, cq, hck, hsl⟩ := HRW.out wi r (by omega) (HB8.out.trans (hb8i.mono HB8.out.size))
          obtain ⟨x, hx⟩ : ∃ x, x = htR 1000000000 t L P E C rw' r l := ⟨_, rfl⟩
          have hml : (mvV 1000000000 (nwV 1000000000 L P C rw') (spV 1000000000 L (l : Int) C)).length = P.length := by rw [mvV_len, nwV_len]
          have hSm := sSum_any B1 P.length d1 (mvV 1000000000 (nwV 1000000000 L P C rw') (spV 1000000000 L (l : Int) C)) (some ⟨gq, 0, none⟩) cq (reV 1000000000 t L E C r) wi (HM.out.sl hml) hsl (mvV_bd (by omega) HNB.out (HSB.out l)) (HRB.out r) (by omega)
          rw [hml] at hSm
          have hxe : lsm 1000000000 (mvV 1000000000 (nwV 1000000000 L P C rw') (spV 1000000000 L (l : Int) C)) (reV 1000000000 t L E C r) P.length = htR 1000000000 t L P E C rw' r l := rfl
          rw [hxe, ← hx] at hSm
          have HHE : Hid (hR 1000000000 t L P E C rw' r l = decide (x ≤ bst)) := by show _ = _; unfold hR; rw [← hx, ← HBST.out]
          have i1 : (0 : Int) ≤ (r : Int) := by omega
          have i2 : (r : Int) < 13 := by omega
          have HB8i := Lib.hid hb8i
          clear hxe hsl hx hml hb8i
          by_cases hbx : bst < x
          · have hlf2 : l + 1 ≤ fs := by
              rcases Nat.lt_or_ge l fs with h1 | h1
              · exact h1
              · have e : l = fs := by omega
                have h2 := HFS.out.1
                rw [← e, HHE.out] at h2
                have := of_decide_eq_true h2
                omega
            have hl1 : l + 1 < t := by omega
            have i4 : (0 : Int) ≤ (l : Int) + 1 := by omega
            have i5 : (l : Int) + 1 < (t : Int) := by omega
            have hw1 : IntKind.i64.wrap ((l : Int) + 1) = (l : Int) + 1 := IntWalk.i64_in _ (by omega)
            go_wp2_with fail
            refine hSm.mono ?_
            rintro e wj ⟨rfl, hbj⟩
            clear hSm hck
            have HB8j := Lib.hid (HB8i.out.trans (hbj.mono HB8i.out.size))
            obtain ⟨ga, ca, ka, _, hTA⟩ := (HA8.out.below HB8j.out (Nat.le_refl _)) (l + 1) _ (alV_at hl1)
            have HBj := Lib.hid (HBi.out.trans (hbj.mono HBi.out.size))
            have hMv := sMove_any B P.length d (nwV 1000000000 L P C rw') ga ca (spV 1000000000 L ((l + 1 : Nat) : Int) C) wj ((RowI.keep HCW.out HBj.out (Nat.le_refl _)).sl (nwV_len _ _ _ _ _)) hTA HNB.out (HSB.out (l + 1)) (by omega)
            clear hTA hbj
            go_wp2_with fail
            refine hMv.mono ?_
            clear hMv ka
            rintro e wk ⟨B2, d2, rfl, hm9, hb9⟩
            have HM9 := Lib.hid hm9; have HB9 := Lib.hid hb9
            clear hm9 hb9
            go_wp2_with fail
            go_roundg (gk - 1)
            case measure => omega
            case rel => exact ⟨l + 1, B2, d2, by go_num, by omega, by omega, rfl, World.ownsRow.mono HM9.out HBj.out.size, HBj.out.trans (HB9.out.mono HBj.out.size)⟩
          · have hxb : x ≤ bst := by omega
            have hle : l = fs := by
              rcases Nat.lt_or_ge l fs with h1 | h1
              · have h2 := HFS.out.2.2.1 l h1
                rw [HHE.out, decide_eq_true hxb] at h2
                cases h2
              · omega
            have HLE := Lib.hid hle
            clear hbx hle
            have HLR : Hid (rw'.reverse.length = m) := by show _ = _; rw [List.length_reverse]; exact HLN.out
            have HLEN : Hid (rw'.reverse.length + 1 ≤ 4294967296) := by show _ ≤ _; rw [HLR.out]; omega
            go_wp2_with fail
            refine hSm.mono ?_
            rintro e wj ⟨rfl, hbj⟩
            clear hSm hck
            have HB8j := Lib.hid (HB8i.out.trans (hbj.mono HB8i.out.size))
            have HBj := Lib.hid (HBi.out.trans (hbj.mono HBi.out.size))
            have HRj := Lib.hid (RowI.keep HRO.out HBj.out (Nat.le_refl _))
            have HMj := Lib.hid (RowI.keep HM.out hbj (Nat.le_refl _))
            have hsj : w8.heap.size ≤ wj.heap.size := HB8j.out.size
            clear hbj
            go_wp2_with (first | (at_builtin; refine wpList_int_push wj rfl (.tmp 74) (.tmp 76) _ rfl w8.heap.size 2 Try.underlying26 infoQ (.slice A m c) rw'.reverse rfl HRj.out (l : Int) rfl HLEN.out hsj ?_; intro g' cap w' hown hbl hat hgr; have HAT := Lib.hid hat; have HGR := Lib.hid hgr; have HOW := Lib.hid hown; have HBL := Lib.hid hbl; clear hown hbl hat hgr))
            go_roundg (gz - 1)
            case measure => omega
            case rel =>
              have hob : ∀ k, (Value.slice A m c).ownBlock = some k → k < wo.heap.size := fun k hk => (HRO.out.lt' k hk).2
              refine ⟨r, m + 1, some ⟨g', 0, none⟩, cap, B1, d1, (l : Int) :: rw', rfl, by omega, by omega, by first | rfl | (rw [HLN.out]) | (rw [HLR.out]), rfl, ?_, ?_, ?_, ?_, HB8j.out.trans HBL.out, ?_, ?_⟩
              · show _ = _; rw [List.length_cons, HLN.out]
              · show RowI _ _ _ _ _
                rw [List.reverse_cons]
                have := HOW.out
                rw [HLR.out] at this
                exact this
              · show RowI _ _ _ _ _
                exact own_move (World.ownsRow.mono HMj.out (Nat.le_trans BX8.out.size HB.out.size)) (fun q hq => HGR.out.block q (HMj.out.lt' q hq).2 (fun e => by
                  have h1 := hob q e.symm
                  have h2 := (HMj.out.lt' q hq).1
                  omega))
              · intro k hk hk2
                have h2 := HMj.out.lt' k hk2
                simp [Value.ownBlock] at hk
                subst hk
                rcases HAT.out with e | e
                · have := hob _ e; omega
                · omega
              · show _ = _
                rw [← HGW.out, gwW, ← HFE.out, ← HLE.out]
              · show Ht _ _ _ _ _ _ _ _
                have h1 := HFS.out.2.2.2
                rw [← HLE.out] at h1
                exact h1
end Go.Proofs.Ytegponioggpkcaa
