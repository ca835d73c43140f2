/- TrimOf of the reference. -/
import Derived.Test.YtegponioggpkcaaTmS
import Derived.Test.YtegponioggpkcaaTiR
import Derived.Test.YtegponioggpkcaaSRt
import Derived.Deep.CutRange
import Derived.Deep.RegionHeld3
namespace Go.Proofs.Ytegponioggpkcaa
open Go.RowKit
set_option linter.unusedVariables false
theorem ow_slAS {w : World} {lo n c : Nat} {t : TypeId} {A : Option Addr} {M : List A4} (h : w.ownsRow lo t 4 (.slice A n c) n (fa M)) (hl : n = M.length) : SlA w w.heap.size A n M := by
  subst hl
  obtain ⟨A', c', e, hs⟩ := (OwnV.of h).slA
  injection e with e1 _ _
  subst e1
  exact hs
theorem Out.oldB {w4 w : World} {nb g6 S c6 lo gx : Nat} {nr : List Int} {cn T : Int} {v2 v3 v4 : Value} {n2 n3 n4 : Nat} {X2 : List A4} {X3 X4 : List Int} (h : Out w4 w nb g6 S c6 lo gx nr cn T v2 v3 v4 n2 n3 n4 X2 X3 X4) {b S' c' g k : Nat} {o : List Bool} {x : Bool}
    (hr : w4.ownsRow b 4 1 (.slice (some ⟨g, 0, none⟩) S' c') S' (bv o)) (h1 : g < lo) (h2 : g ≠ g6) (hk : o[k]? = some x) : w.cell? ⟨g, k, none⟩ = some (.bool x) := by
  refine (World.cell?_of_block (a := ⟨g, k, none⟩) (h.fr.2.2.2.2 g h1 h2)).trans (ow_cell hr ?_).1
  unfold bv; rw [List.getElem?_map, hk]; rfl
set_option maxRecDepth 100000 in
set_option maxHeartbeats 16000000 in
theorem sTrim_true (S : Nat) (T : Int) (L : List A4) (P E : List Int) (p2 p3 p4 c2 c3 c4 : Nat) (w : World)
    (h2 : SlA w w.heap.size (some ⟨p2, 0, none⟩) L.length L) (h3 : SlI w w.heap.size (some ⟨p3, 0, none⟩) P.length P) (h4 : SlI w w.heap.size (some ⟨p4, 0, none⟩) E.length E) (hok : vmB S T L P E = true) :
    Calls Try.prog 32 #[.agg #[.int .i64 (S : Int), .int .i64 T, .slice (some ⟨p2, 0, none⟩) L.length c2, .slice (some ⟨p3, 0, none⟩) P.length c3, .slice (some ⟨p4, 0, none⟩) E.length c4]] w fun e w' => ∃ v', e = .returned (.tuple #[v', .bool (tmOk S T L P E)]) ∧ McW w' w.heap.size v' (ckI (tmOk S T L P E) (tmS L P E)) (ckI (tmOk S T L P E) T) (ckL (tmOk S T L P E) (tdy (tmL L P E))) (ckL (tmOk S T L P E) (tmPp L P E)) (ckL (tmOk S T L P E) (tmEe L P E)) ∧ Below w.heap.size w w' := by
  obtain ⟨qS, qT, qL, qA, qP, qE⟩ := vmB_true hok
  obtain ⟨qP1, qP2⟩ := mkB_true qP
  obtain ⟨qE1, qE2⟩ := mkB_true qE
  have hPS : P.length = S := by omega
  have hES : E.length = S := by omega
  have QA : Hid (∀ a ∈ L, (0 ≤ a.1 ∧ a.1 < (S : Int)) ∧ (0 ≤ a.2.1 ∧ a.2.1 < (S : Int))) := fun a ha => by have := okAm_true (qA a ha); omega
  have HTO : Hid (tmOk S T L P E = decide (1 ≤ tmS L P E)) := by show (vmB _ _ _ _ _ && _) = _; rw [hok]; rfl
  have HVA : Hid (vmB (tmS L P E) T (tdy (tmL L P E)) (tmPp L P E) (tmEe L P E) = decide (1 ≤ tmS L P E)) := tm_valid hok (Nat.le_trans (tdy_len _) (tmL_len _ _ _)) (fun a h => tdy_mem h)
  have HOK := Lib.hid hok
  have H2 := Lib.hid h2; have H3 := Lib.hid h3; have H4 := Lib.hid h4
  have HPS := Lib.hid hPS; have HES := Lib.hid hES
  clear qA qP qE qP2 qE2 qP1 qE1 h2 h3 h4 hok hPS hES
  have rb := (Row.new w 28 [.int .i64 (S : Int), .int .i64 T, .slice (some ⟨p2, 0, none⟩) L.length c2, .slice (some ⟨p3, 0, none⟩) P.length c3, .slice (some ⟨p4, 0, none⟩) E.length c4]).alloc (.cells ([.int .i64 0, .int .i64 0, .slice none 0 0, .slice none 0 0, .slice none 0 0] : List Value).toArray 28)
  have rr := Row.new (w.alloc (.cells ([.int .i64 (S : Int), .int .i64 T, .slice (some ⟨p2, 0, none⟩) L.length c2, .slice (some ⟨p3, 0, none⟩) P.length c3, .slice (some ⟨p4, 0, none⟩) E.length c4] : List Value).toArray 28)) 28 [.int .i64 0, .int .i64 0, .slice none 0 0, .slice none 0 0, .slice none 0 0]
  rw [show (w.alloc (.cells ([.int .i64 (S : Int), .int .i64 T, .slice (some ⟨p2, 0, none⟩) L.length c2, .slice (some ⟨p3, 0, none⟩) P.length c3, .slice (some ⟨p4, 0, none⟩) E.length c4] : List Value).toArray 28)).heap.size = w.heap.size + 1 by simp] at rr
  have bx : Below w.heap.size w ((w.alloc (.cells ([.int .i64 (S : Int), .int .i64 T, .slice (some ⟨p2, 0, none⟩) L.length c2, .slice (some ⟨p3, 0, none⟩) P.length c3, .slice (some ⟨p4, 0, none⟩) E.length c4] : List Value).toArray 28)).alloc (.cells ([.int .i64 0, .int .i64 0, .slice none 0 0, .slice none 0 0, .slice none 0 0] : List Value).toArray 28)) := ((Below.refl _ _).alloc (Nat.le_refl _) _).alloc (by simp) _
  have RB := Lib.hid rb; have RR := Lib.hid rr; have BX := Lib.hid bx; clear rb rr bx
  go_enter Try.func32, Try.ntmps32
  go_wp2_with fail
  obtain ⟨x0, hx0⟩ : ∃ x, x = ((w.alloc (.cells ([.int .i64 (S : Int), .int .i64 T, .slice (some ⟨p2, 0, none⟩) L.length c2, .slice (some ⟨p3, 0, none⟩) P.length c3, .slice (some ⟨p4, 0, none⟩) E.length c4] : List Value).toArray 28)).alloc (.cells ([.int .i64 0, .int .i64 0, .slice none 0 0, .slice none 0 0, .slice none 0 0] : List Value).toArray 28)) := ⟨_, rfl⟩
  rw [← hx0] at RB RR BX
  change Calls _ _ _ ((w.alloc (.cells ([.int .i64 (S : Int), .int .i64 T, .slice (some ⟨p2, 0, none⟩) L.length c2, .slice (some ⟨p3, 0, none⟩) P.length c3, .slice (some ⟨p4, 0, none⟩) E.length c4] : List Value).toArray 28)).alloc (.cells ([.int .i64 0, .int .i64 0, .slice none 0 0, .slice none 0 0, .slice none 0 0] : List Value).toArray 28)) _
  rw [← hx0]
  clear hx0
  refine (sIs_any w.heap.size (S : Int) T L P E _ _ c2 _ _ c3 _ _ c4 x0.heap.size x0 RB.out (Nat.le_refl _) ((H2.out.below BX.out (Nat.le_refl _)).more BX.out.size) ((H3.out.below BX.out (Nat.le_refl _)).more BX.out.size) ((H4.out.below BX.out (Nat.le_refl _)).more BX.out.size) (by omega) (by have := HPS.out; omega) (by have := HES.out; omega)).mono ?_
  rintro e w1 ⟨rfl, hb1⟩
  have BX1 := Lib.hid (BX.out.trans (hb1.mono BX.out.size))
  have RB1 := Lib.hid (RB.out.below hb1 RB.out.lt)
  have RR1 := Lib.hid (RR.out.below hb1 RR.out.lt)
  clear hb1 RB RR BX
  rw [HOK.out]
  obtain ⟨ah, hah⟩ : ∃ x, x = tmAh L P := ⟨_, rfl⟩
  obtain ⟨bh, hbh⟩ : ∃ x, x = tmBh L E := ⟨_, rfl⟩
  have HAH := Lib.hid hah; have HBH := Lib.hid hbh
  have HAL : Hid (ah.length = S) := by show _ = _; rw [hah]; unfold tmAh; rw [rc_len]; exact HPS.out
  have HBL : Hid (bh.length = S) := by show _ = _; rw [hbh]; unfold tmBh; rw [rc_len]; exact HES.out
  have LT1 : Hid (w.heap.size + 1 < w1.heap.size) := RR1.out.lt
  have z3 := RB1.out.cell 3
  have hR1 := sReached_any w.heap.size S T L P E (some ⟨p2, 0, none⟩) (some ⟨p3, 0, none⟩) (some ⟨p4, 0, none⟩) c2 c3 c4 (some ⟨p3, 0, none⟩) P.length c3 P false w1 HPS.out RB1.out ((H2.out.below BX1.out (Nat.le_refl _)).more BX1.out.size) ((H3.out.below BX1.out (Nat.le_refl _)).more BX1.out.size) (by omega) (by omega) qL QA.out
  rw [show rc false L P = ah from hah.symm] at hR1
  go_wp2_with fail
  clear z3
  refine hR1.mono ?_
  clear hR1
  rintro e wa ⟨g1, cc1, rfl, ho1, hba⟩
  have RBa := RB1.out.below hba RB1.out.lt
  have BXa := BX1.out.trans (hba.mono BX1.out.size)
  have z4 := RBa.cell 4
  have hR2 := sReached_any w.heap.size S T L P E (some ⟨p2, 0, none⟩) (some ⟨p3, 0, none⟩) (some ⟨p4, 0, none⟩) c2 c3 c4 (some ⟨p4, 0, none⟩) E.length c4 E true wa HES.out RBa ((H2.out.below BXa (Nat.le_refl _)).more BXa.size) ((H4.out.below BXa (Nat.le_refl _)).more BXa.size) (by omega) (by omega) qL QA.out
  rw [show rc true L E = bh from hbh.symm] at hR2
  have HO1 := Lib.hid ho1; have HBa := Lib.hid hba; have HRBa := Lib.hid RBa; have HBXa := Lib.hid BXa
  clear ho1 hba RBa BXa hah hbh
  go_wp2_with fail
  clear z4
  refine hR2.mono ?_
  clear hR2
  rintro e w2 ⟨g2, cc2, rfl, ho2, hbb⟩
  have RB2 := HRBa.out.below hbb HRBa.out.lt
  have ho1 := ow_keep HO1.out hbb (Nat.le_refl _)
  have RR2 := ((RR1.out.below HBa.out RR1.out.lt).below hbb (RR1.out.below HBa.out RR1.out.lt).lt)
  have BX2 := HBXa.out.trans (hbb.mono HBXa.out.size)
  have hl1 := HO1.out.lt g1 rfl; have hl2 := ho2.lt g2 rfl; have sa := HBa.out.size; have sb := hbb.size
  have z0 := RB2.cell 0
  have HRB2 := Lib.hid RB2; have HRR2 := Lib.hid RR2; have HBX2 := Lib.hid BX2; have HO1 := Lib.hid ho1; have HO2 := Lib.hid ho2
  clear RB2 RR2 BX2 ho1 ho2 hbb HBa HRBa HBXa
  go_wp2_with fail
  clear z0
  refine (sNone_any S w2 (by omega)).mono ?_
  rintro e w3 ⟨A6, c6, rfl, hr6, hb3⟩
  obtain ⟨g6, c6', hv6, _, hg6, hl6, hc6⟩ := RowI.form hr6 (by simp; omega)
  rw [List.length_replicate] at hv6
  injection hv6 with e1 _ e3
  subst e1 e3
  have hnm : w3.ownsRow w2.heap.size 2 1 (.slice (some ⟨g6, 0, none⟩) S c6) S (iv (List.replicate S (-1))) := by have := hr6; unfold RowI at this; rw [List.length_replicate] at this; exact this
  have RB3 := HRB2.out.below hb3 HRB2.out.lt
  have RR3 := HRR2.out.below hb3 HRR2.out.lt
  have K1 := ow_keep HO1.out hb3 (Nat.le_refl _)
  have K2 := ow_keep HO2.out hb3 (Nat.le_refl _)
  have BX3 := HBX2.out.trans (hb3.mono HBX2.out.size)
  have hs3 := hb3.size
  have z1 := RB3.cell 1
  go_upto_region 7 with fail
  clear z1
  -- the machine that is being built
  have hOut0 : Out ((w3.alloc (.cells #[] 62)).alloc (.cells ([.int .i64 0, .int .i64 T, .slice (some ⟨w3.heap.size, 0, none⟩) 0 0, .slice none 0 0, .slice none 0 0] : List Value).toArray 28)) ((w3.alloc (.cells #[] 62)).alloc (.cells ([.int .i64 0, .int .i64 T, .slice (some ⟨w3.heap.size, 0, none⟩) 0 0, .slice none 0 0, .slice none 0 0] : List Value).toArray 28)) w2.heap.size g6 S c6 w3.heap.size (w3.heap.size + 1) (tmR ah bh S 0) 0 T (.slice (some ⟨w3.heap.size, 0, none⟩) 0 0) (.slice none 0 0) (.slice none 0 0) 0 0 0 [] [] [] := by
    have rx := Row.new (w3.alloc (.cells #[] 62)) 28 [.int .i64 0, .int .i64 T, .slice (some ⟨w3.heap.size, 0, none⟩) 0 0, .slice none 0 0, .slice none 0 0]
    rw [show (w3.alloc (.cells #[] 62)).heap.size = w3.heap.size + 1 by simp] at rx
    have om : (w3.alloc (.cells #[] 62)).ownsRow w3.heap.size 62 4 (.slice (some ⟨w3.heap.size, 0, none⟩) 0 0) 0 [] := World.ownsRow_made w3 #[] 0 (Nat.le_refl _) (by unfold maxLen; omega) rfl
    refine ⟨⟨rx, Below.refl _ _, Nat.le_succ _, by simp; omega, om.alloc _, World.ownsRow_nil _ _ _ _, World.ownsRow_nil _ _ _ _, fun k hk => ?_, fun k hk => by simp [Value.ownBlock] at hk, fun k hk => by simp [Value.ownBlock] at hk⟩, ?_, hl6, Lo.refl _ _ _⟩
    · simp [Value.ownBlock] at hk
      exact ⟨by omega, by simp [Value.ownBlock], by simp [Value.ownBlock]⟩
    · rw [tmR_zero]; exact (hnm.alloc _).alloc _
  have RB4 := (RB3.alloc (.cells #[] 62)).alloc (.cells ([.int .i64 0, .int .i64 T, .slice (some ⟨w3.heap.size, 0, none⟩) 0 0, .slice none 0 0, .slice none 0 0] : List Value).toArray 28)
  have RR4 := (RR3.alloc (.cells #[] 62)).alloc (.cells ([.int .i64 0, .int .i64 T, .slice (some ⟨w3.heap.size, 0, none⟩) 0 0, .slice none 0 0, .slice none 0 0] : List Value).toArray 28)
  have K14 : World.ownsRow ((w3.alloc (.cells #[] 62)).alloc (.cells ([.int .i64 0, .int .i64 T, .slice (some ⟨w3.heap.size, 0, none⟩) 0 0, .slice none 0 0, .slice none 0 0] : List Value).toArray 28)) _ _ _ _ _ _ := (K1.alloc (.cells #[] 62)).alloc (.cells ([.int .i64 0, .int .i64 T, .slice (some ⟨w3.heap.size, 0, none⟩) 0 0, .slice none 0 0, .slice none 0 0] : List Value).toArray 28)
  have K24 : World.ownsRow ((w3.alloc (.cells #[] 62)).alloc (.cells ([.int .i64 0, .int .i64 T, .slice (some ⟨w3.heap.size, 0, none⟩) 0 0, .slice none 0 0, .slice none 0 0] : List Value).toArray 28)) _ _ _ _ _ _ := (K2.alloc (.cells #[] 62)).alloc (.cells ([.int .i64 0, .int .i64 T, .slice (some ⟨w3.heap.size, 0, none⟩) 0 0, .slice none 0 0, .slice none 0 0] : List Value).toArray 28)
  have BX4 : Below w.heap.size w ((w3.alloc (.cells #[] 62)).alloc (.cells ([.int .i64 0, .int .i64 T, .slice (some ⟨w3.heap.size, 0, none⟩) 0 0, .slice none 0 0, .slice none 0 0] : List Value).toArray 28)) := (BX3.alloc BX3.size _).alloc (by have := BX3.size; simp; omega) _
  obtain ⟨w4, hw4⟩ : ∃ x, x = ((w3.alloc (.cells #[] 62)).alloc (.cells ([.int .i64 0, .int .i64 T, .slice (some ⟨w3.heap.size, 0, none⟩) 0 0, .slice none 0 0, .slice none 0 0] : List Value).toArray 28)) := ⟨_, rfl⟩
  obtain ⟨lo, hlo⟩ : ∃ x, x = w3.heap.size := ⟨_, rfl⟩
  obtain ⟨nb, hnb⟩ : ∃ x, x = w2.heap.size := ⟨_, rfl⟩
  change Code.wp _ _ _ _ ((w3.alloc (.cells #[] 62)).alloc (.cells ([.int .i64 0, .int .i64 T, .slice (some ⟨w3.heap.size, 0, none⟩) 0 0, .slice none 0 0, .slice none 0 0] : List Value).toArray 28))
  rw [← hw4] at hOut0 RB4 RR4 K14 K24 BX4
  rw [← hlo, ← hnb] at hOut0
  rw [← hw4]
  try rw [← hlo]
  rw [← hnb] at hg6 hl2
  rw [← hlo] at hl6
  obtain ⟨gx, hgx⟩ : ∃ x, x = lo + 1 := ⟨_, rfl⟩
  rw [← hgx] at hOut0 ⊢
  have BOX := Lib.hid RB4; have RES := Lib.hid RR4; have R1 := Lib.hid K14; have R2 := Lib.hid K24; have BX := Lib.hid BX4
  have LTS : Hid (w.heap.size + 1 < w1.heap.size ∧ w1.heap.size ≤ nb ∧ g1 < nb ∧ g2 < nb ∧ nb ≤ g6 ∧ g6 < lo ∧ w1.heap.size ≤ g1 ∧ w1.heap.size ≤ g2 ∧ gx = lo + 1) := by have := LT1.out; show _ ∧ _ ∧ _ ∧ _ ∧ _ ∧ _ ∧ _ ∧ _ ∧ _; omega
  clear RB4 RR4 K14 K24 BX4 K1 K2 RB3 RR3 BX3 hw4 hlo hnb hgx hr6 hnm hb3 hg6 hl1 hl2 hl6 hc6 hs3 sa sb HO1 HO2 HRB2 HRR2 HBX2 LT1
  clear RB1 RR1 BX1
  have HO0 := Lib.hid hOut0
  clear hOut0
  go_wp2_with fail
  go_loopg [8] S (fun q i wr => ∃ (k n3 : Nat) (v3 v4 : Value), i = .int .i64 (k : Int) ∧ k ≤ S ∧ S ≤ q + k ∧ Hid (n3 = tmC ah bh k) ∧ Hid (Out w4 wr nb g6 S c6 lo gx (tmR ah bh S k) n3 T (.slice (some ⟨lo, 0, none⟩) 0 0) v3 v4 0 n3 n3 [] (tmX ah bh P k) (tmX ah bh E k)))
  case atStart => exact ⟨0, 0, _, _, by go_num, by omega, by omega, rfl, HO0.out⟩
  case round =>
    clear HO0
    obtain ⟨k, n3, v3, v4, rfl, hk, hm, HN, HO⟩ := hrel
    obtain ⟨wo, rfl⟩ : ∃ x : World, x = wr := ⟨_, rfl⟩
    obtain ⟨A3, d3, hv3, _, _⟩ := own_form HO.out.m3.o3
    subst hv3
    obtain ⟨A4, d4, hv4, _, _⟩ := own_form HO.out.m3.o4
    subst hv4
    have hn3 : n3 ≤ k := by rw [HN.out]; exact tmC_le k
    have b0 := (HO.out.old BOX.out (by have := LTS.out; omega) (by have := LTS.out; omega)).cell 0
    by_cases hlt : k < S
    · obtain ⟨x1, hx1⟩ : ∃ x, ah[k]? = some x := ⟨_, List.getElem?_eq_getElem (by rw [HAL.out]; exact hlt)⟩
      obtain ⟨x2, hx2⟩ : ∃ x, bh[k]? = some x := ⟨_, List.getElem?_eq_getElem (by rw [HBL.out]; exact hlt)⟩
      have HKP : Hid (kpB ah bh k = (x1 && x2)) := by show (ah.getD k false && bh.getD k false) = _; rw [List.getD_eq_getElem?_getD, List.getD_eq_getElem?_getD, hx1, hx2]; rfl
      have t1 := HO.out.oldB R1.out (by have := LTS.out; omega) (by have := LTS.out; omega) hx1
      have t2 := HO.out.oldB R2.out (by have := LTS.out; omega) (by have := LTS.out; omega) hx2
      have l0 : (0 : Int) ≤ (k : Int) := by omega
      have l1 : (k : Int) < (S : Int) := by omega
      clear hx1 hx2
      cases x1 with
      | false =>
        have hkp : kpB ah bh k = false := by rw [HKP.out]; rfl
        have hR := tmR_no (S := S) hkp; have hP := tmX_no (X := P) hkp; have hE := tmX_no (X := E) hkp; have hC := tmC_no hkp
        have HRE := Lib.hid hR; have HPE := Lib.hid hP; have HEE := Lib.hid hE; have HCE := Lib.hid hC
        clear hkp hR hP hE hC
        go_wp2_with fail
        go_roundg (gk - 1)
        case measure => omega
        case rel => exact ⟨k + 1, n3, _, _, by go_num, by omega, by omega, by show _ = _; rw [HCE.out]; exact HN.out, by show Out _ _ _ _ _ _ _ _ _ _ _ _ _ _ _ _ _ _ _ _; rw [HRE.out, HPE.out, HEE.out]; exact HO.out⟩

      | true =>
        cases x2 with
        | false =>
          have hkp : kpB ah bh k = false := by rw [HKP.out]; rfl
          have hR := tmR_no (S := S) hkp; have hP := tmX_no (X := P) hkp; have hE := tmX_no (X := E) hkp; have hC := tmC_no hkp
          have HRE := Lib.hid hR; have HPE := Lib.hid hP; have HEE := Lib.hid hE; have HCE := Lib.hid hC
          clear hkp hR hP hE hC
          go_wp2_with fail
          go_roundg (gk - 1)
          case measure => omega
          case rel => exact ⟨k + 1, n3, _, _, by go_num, by omega, by omega, by show _ = _; rw [HCE.out]; exact HN.out, by show Out _ _ _ _ _ _ _ _ _ _ _ _ _ _ _ _ _ _ _ _; rw [HRE.out, HPE.out, HEE.out]; exact HO.out⟩

        | true =>
          have hkp : kpB ah bh k = true := by rw [HKP.out]; rfl
          have HYR := Lib.hid (tmR_yes (S := S) hlt hkp); have HYC := Lib.hid (tmC_yes hkp); have HYP := fun x => tmX_yes (X := P) (x := x) hkp; have HYE := fun x => tmX_yes (X := E) (x := x) hkp
          have HYP := Lib.hid HYP; have HYE := Lib.hid HYE
          have hrk : (tmR ah bh S k)[k]? = some (-1) := by rw [tmR_at hlt, if_neg (by omega)]
          obtain ⟨n0, n1⟩ := HO.out.at_ hrk
          have o0 := HO.out.m3.row.cell 0
          have ew : IntKind.i64.wrap ((n3 : Int) + 1) = (n3 : Int) + 1 := IntWalk.i64_in _ (by omega)
          have O1 := HO.out.name (k := k) (by rw [tmR_len]; exact hlt) (n3 : Int)
          have O2 := O1.count ((n3 : Int) + 1)
          have HO1 := Lib.hid O1; have HO2 := Lib.hid O2
          clear hrk hkp O1 O2
          go_upto_region 12 with fail
          clear n0 n1 o0 t1 t2 b0
          obtain ⟨ya, hya⟩ : ∃ x, x = wo.setCell ⟨g6, k, none⟩ (.int .i64 (n3 : Int)) := ⟨_, rfl⟩
          have h1 := HO1.out; have h2 := HO2.out
          rw [← hya] at h1 h2
          change Code.wp _ _ _ _ (wo.setCell ⟨g6, k, none⟩ (.int .i64 (n3 : Int)))
          rw [← hya]
          have HO2 := Lib.hid h2
          have o0 := h1.m3.row.cell 0; have o1 := h1.m3.row.frozen 0
          clear h1 h2 hya HO1 HO
          go_upto_region 13 with fail
          clear o0 o1
          obtain ⟨yb, hyb⟩ : ∃ x, x = ya.setCell ⟨gx, 0, none⟩ (.int .i64 ((n3 : Int) + 1)) := ⟨_, rfl⟩
          have h2 := HO2.out
          rw [← hyb] at h2
          change Code.wp _ _ _ _ (ya.setCell ⟨gx, 0, none⟩ (.int .i64 ((n3 : Int) + 1)))
          rw [← hyb]
          have HO2 := Lib.hid h2
          clear h2 hyb
          have BOv := HO2.out.old BOX.out (by have := LTS.out; omega) (by have := LTS.out; omega)
          have hbW : w.heap.size < yb.heap.size := BOv.lt
          have hbc := BOv.cell 3
          have hbv : Below w.heap.size w yb := BX.out.trans (HO2.out.fr.bel (by have := LTS.out; omega) (by have := LTS.out; omega))
          obtain ⟨b, off, xp, hsl, hbB, hxp, hc⟩ := (H3.out.below hbv (Nat.le_refl _)).at_ (k := k) (by rw [HPS.out]; exact hlt)
          injection hsl with hsl
          injection hsl with e1 e2 _
          subst e1 e2
          rw [Nat.zero_add] at hc
          have lk : (k : Int) < (P.length : Int) := by have := HPS.out; omega
          clear BOv hbv
          go_cut [] from 52 to 62 (fun wx => ∃ A5 d5, Hid (Out w4 wx nb g6 S c6 lo gx ((tmR ah bh S k).set k (n3 : Int)) ((n3 : Int) + 1) T (.slice (some ⟨lo, 0, none⟩) 0 0) (.slice A5 (n3 + 1) d5) (.slice A4 n3 d4) 0 (n3 + 1) n3 [] (tmX ah bh P k ++ [xp]) (tmX ah bh E k)))
          case first =>
            obtain ⟨Wv, rfl⟩ : ∃ x : World, x = yb := ⟨_, rfl⟩
            have HOA : Hid (Out w4 (Wv.alloc (.cells ([.int .i64 xp] : List Value).toArray 2)).drew nb g6 S c6 lo gx ((tmR ah bh S k).set k (n3 : Int)) ((n3 : Int) + 1) T (.slice (some ⟨lo, 0, none⟩) 0 0) (.slice A3 n3 d3) (.slice A4 n3 d4) 0 n3 n3 [] (tmX ah bh P k) (tmX ah bh E k)) := (HO2.out.alloc _).drewN 1
            have HNEW : Hid (∀ j' u, ([.int .i64 xp] : List Value)[j']? = some u → ((Wv.alloc (.cells ([.int .i64 xp] : List Value).toArray 2)).drew).cell? ⟨Wv.heap.size, 0 + j', none⟩ = some u) := fun j' u hu => by
              rw [Nat.zero_add]; exact ((Row.new Wv 2 [.int .i64 xp]).cell j').trans hu
            have ROOM : Hid (n3 + 1 ≤ 4294967296) := by show _ ≤ _; omega
            have HSx : Hid (∀ x9 : World, (∀ b, b < Wv.heap.size → b ≠ gx → (Value.slice A3 n3 d3).ownBlock ≠ some b → x9.heap[b]? = Wv.heap[b]?) → (x9.cell? ⟨w.heap.size, 3, none⟩ = some (.slice (some ⟨p3, 0, none⟩) P.length c3) ∧ x9.cell? ⟨p3, k, none⟩ = some (.int .i64 xp))) := fun x9 h9 => ⟨((World.cell?_of_block (a := ⟨w.heap.size, 3, none⟩) (h9 w.heap.size hbW (by have := LTS.out; omega) (fun e => by have := (HO2.out.m3.o3.lt _ e).1; have := LTS.out; omega))).trans hbc), ((World.cell?_of_block (a := ⟨p3, k, none⟩) (h9 p3 (by omega) (by have := LTS.out; omega) (fun e => by have := (HO2.out.m3.o3.lt _ e).1; have := LTS.out; omega))).trans hc)⟩
            have cA2 : (Wv.alloc (.cells ([.int .i64 xp] : List Value).toArray 2)).cell? ⟨gx, 3, none⟩ = some (Value.slice A3 n3 d3) := (HO2.out.alloc _).m3.row.cell 3
            have e5 : Wv.cell? ⟨gx, 3, none⟩ = some (Value.slice A3 n3 d3) := HO2.out.m3.row.cell 3
            have hS0 := HSx.out Wv.drew (fun b _ _ _ => rfl)
            refine wp_region_held_drew (S := fun x9 => x9.cell? ⟨w.heap.size, 3, none⟩ = some (.slice (some ⟨p3, 0, none⟩) P.length c3) ∧ x9.cell? ⟨p3, k, none⟩ = some (.int .i64 xp)) (by kernel_rfl) hS0 (fun hHeld => ?_)
            clear hS0
            refine wpAnyH_take (i := 0) (v := ?_) rfl (by kernel_rfl) (by kernel_rfl) (by kernel_rfl) (fun _ _ _ h => h) (Or.inl ⟨by rfl, ?_⟩) (by assumption) ?_
            rotate_left
            · intro w9 hSw; (try dsimp only at hSw); go_simp; first | done | (with_reducible rfl)
            try simp only [Act.put, List.setIfInBounds_toArray]
            refine wpAnyH_take (i := 2) (v := ?_) rfl (by kernel_rfl) (by kernel_rfl) (by kernel_rfl) (fun _ _ _ h => h) (Or.inl ⟨by rfl, ?_⟩) (by assumption) ?_
            rotate_left
            · intro w9 hSw; (try dsimp only at hSw); go_simp; first | done | (with_reducible rfl)
            try simp only [Act.put]
            refine wpAnyH_take (i := 3) (v := ?_) rfl (by kernel_rfl) (by kernel_rfl) (by kernel_rfl) (fun _ _ _ h => h) (Or.inl ⟨by rfl, ?_⟩) (by assumption) ?_
            rotate_left
            · intro w9 hSw; (try dsimp only at hSw); go_simp; first | done | (with_reducible rfl)
            try simp only [Act.put]
            refine wpAnyH_take (i := 4) (v := ?_) rfl (by kernel_rfl) (by kernel_rfl) (by kernel_rfl) (fun _ _ _ h => h) (Or.inl ⟨by rfl, ?_⟩) (by assumption) ?_
            rotate_left
            · intro w9 hSw; (try dsimp only at hSw); go_simp; first | done | (with_reducible rfl)
            try simp only [Act.put]
            refine wpAnyH_take (i := 5) (v := ?_) rfl (by kernel_rfl) (by kernel_rfl) (by kernel_rfl) (fun _ _ _ h => h) (Or.inl ⟨by rfl, ?_⟩) (by assumption) ?_
            rotate_left
            · intro w9 hSw; (try dsimp only at hSw); go_simp; first | done | (with_reducible rfl)
            try simp only [Act.put]
            refine wpAnyH_take (i := 6) (v := ?_) rfl (by kernel_rfl) (by kernel_rfl) (by kernel_rfl) (fun _ _ _ h => h) (Or.inl ⟨by rfl, ?_⟩) (by assumption) ?_
            rotate_left
            · intro w9 hSw; (try dsimp only at hSw); go_simp; first | done | (with_reducible rfl)
            try simp only [Act.put]
            refine wpAnyH_ready (rs := [1, 7]) (by kernel_rfl) (by simp) ?_
            refine AllReadyH.cons rfl (fun K hK => ?_) ?_
            · go_simp
              refine hK.out _ _ (HSx.out _ (fun b _ _ _ => rfl)) (fun hHeld => ?_)
              clear hK K
              try simp only [Act.put, List.setIfInBounds_toArray, List.set_cons_zero, List.set_cons_succ]
              refine wpAnyH_ready (rs := [7]) (by kernel_rfl) (by simp) ?_
              refine AllReadyH.cons rfl (fun K hK => ?_) AllReadyH.nil
              go_simp
              refine hK.out _ _ (HSx.out _ (fun b hb1 hb2 hb3 => Below.heap_alloc Wv _ b hb1)) (fun hHeld => ?_)
              clear hK K
              try simp only [Act.put, List.setIfInBounds_toArray, List.set_cons_zero, List.set_cons_succ]
              refine wpAnyH_ready (rs := [8]) (by kernel_rfl) (by simp) ?_
              refine AllReadyH.cons rfl (fun K hK => ?_) AllReadyH.nil
              refine step_cells_push rfl (.tmp 53) (.tmp 59) _ rfl lo 2 (.int .i64 0) 1 8 Try.underlying26 infoQ rfl (by omega) (by omega) (Value.slice A3 n3 d3) n3 (iv (tmX ah bh P k)) ?_ HOA.out.m3.o3 Wv.heap.size 0 1 1 [.int .i64 xp] ?_ rfl HNEW.out (iv_one [xp]) ROOM.out HOA.out.m3.size ?_
              rfl
              rfl
              intro A5 d5 wv hown hgr hbl hat
              have hrw := HOA.out.m3.row.grown hgr (fun e => ((HOA.out.m3.d3 gx e.symm).1) rfl)
              have y0 := hrw.cell 3
              have y1 := hrw.frozen 3
              have HQv : Hid (∀ b, b < Wv.heap.size → b ≠ gx → (Value.slice A3 n3 d3).ownBlock ≠ some b → wv.heap[b]? = Wv.heap[b]?) := fun b hb1 hb2 hb3 => (hgr.block b (by show b < (Wv.alloc (.cells ([.int .i64 xp] : List Value).toArray 2)).heap.size; simp; omega) (fun e => hb3 e.symm)).trans (Below.heap_alloc Wv _ b hb1)
              have HPU : Hid (Out w4 (wv.setCell ⟨gx, 3, none⟩ (.slice A5 (n3 + 1) d5)) nb g6 S c6 lo gx ((tmR ah bh S k).set k (n3 : Int)) ((n3 : Int) + 1) T (.slice (some ⟨lo, 0, none⟩) 0 0) (.slice A5 (n3 + 1) d5) (.slice A4 n3 d4) 0 (n3 + 1) n3 [] (tmX ah bh P k ++ [xp]) (tmX ah bh E k)) := HOA.out.push3 (by first | (rw [iv_append]; exact hown) | (rw [fa_append]; exact hown)) hgr hat
              clear hown hgr hbl hat hrw
              refine hK.out _ _ (HSx.out _ HQv.out) (fun hHeld => ?_)
              clear hK K
              try simp only [Act.put, List.setIfInBounds_toArray]
              refine wpAnyH_take (i := 9) (v := ?_) rfl (by kernel_rfl) (by kernel_rfl) (by kernel_rfl) (fun _ _ _ h => h) (Or.inl ⟨by rfl, ?_⟩) (by assumption) ?_
              rotate_left
              · intro w9 hSw; (try dsimp only at hSw); go_simp; first | done | (with_reducible rfl)
              try simp only [Act.put]
              refine wpAnyH_ready (rs := [10]) (by kernel_rfl) (by simp) ?_
              refine AllReadyH.cons rfl (fun K hK => ?_) AllReadyH.nil
              go_simp
              refine hK.out _ _ (HSx.out _ (fun b hb1 hb2 hb3 => (Below.heap_setCell wv ⟨gx, 3, none⟩ _ b hb2).trans (HQv.out b hb1 hb2 hb3))) (fun hHeld => ?_)
              clear hK K
              try simp only [Act.put, List.setIfInBounds_toArray, List.set_cons_zero, List.set_cons_succ]
              refine wpAnyH_done (by kernel_rfl) ?_ _
              clear y0 y1 e5 cA2
              try go_wp2_with fail
              go_meet
              exact ⟨_, _, HPU⟩
            refine AllReadyH.cons rfl (fun K hK => ?_) AllReadyH.nil
            · go_simp
              refine hK.out _ _ (HSx.out _ (fun b hb1 hb2 hb3 => Below.heap_alloc Wv _ b hb1)) (fun hHeld => ?_)
              clear hK K
              try simp only [Act.put, List.setIfInBounds_toArray, List.set_cons_zero, List.set_cons_succ]
              refine wpAnyH_ready (rs := [1]) (by kernel_rfl) (by simp) ?_
              refine AllReadyH.cons rfl (fun K hK => ?_) AllReadyH.nil
              go_simp
              refine hK.out _ _ (HSx.out _ (fun b hb1 hb2 hb3 => Below.heap_alloc Wv _ b hb1)) (fun hHeld => ?_)
              clear hK K
              try simp only [Act.put, List.setIfInBounds_toArray, List.set_cons_zero, List.set_cons_succ]
              refine wpAnyH_ready (rs := [8]) (by kernel_rfl) (by simp) ?_
              refine AllReadyH.cons rfl (fun K hK => ?_) AllReadyH.nil
              refine step_cells_push rfl (.tmp 53) (.tmp 59) _ rfl lo 2 (.int .i64 0) 1 8 Try.underlying26 infoQ rfl (by omega) (by omega) (Value.slice A3 n3 d3) n3 (iv (tmX ah bh P k)) ?_ HOA.out.m3.o3 Wv.heap.size 0 1 1 [.int .i64 xp] ?_ rfl HNEW.out (iv_one [xp]) ROOM.out HOA.out.m3.size ?_
              rfl
              rfl
              intro A5 d5 wv hown hgr hbl hat
              have hrw := HOA.out.m3.row.grown hgr (fun e => ((HOA.out.m3.d3 gx e.symm).1) rfl)
              have y0 := hrw.cell 3
              have y1 := hrw.frozen 3
              have HQv : Hid (∀ b, b < Wv.heap.size → b ≠ gx → (Value.slice A3 n3 d3).ownBlock ≠ some b → wv.heap[b]? = Wv.heap[b]?) := fun b hb1 hb2 hb3 => (hgr.block b (by show b < (Wv.alloc (.cells ([.int .i64 xp] : List Value).toArray 2)).heap.size; simp; omega) (fun e => hb3 e.symm)).trans (Below.heap_alloc Wv _ b hb1)
              have HPU : Hid (Out w4 (wv.setCell ⟨gx, 3, none⟩ (.slice A5 (n3 + 1) d5)) nb g6 S c6 lo gx ((tmR ah bh S k).set k (n3 : Int)) ((n3 : Int) + 1) T (.slice (some ⟨lo, 0, none⟩) 0 0) (.slice A5 (n3 + 1) d5) (.slice A4 n3 d4) 0 (n3 + 1) n3 [] (tmX ah bh P k ++ [xp]) (tmX ah bh E k)) := HOA.out.push3 (by first | (rw [iv_append]; exact hown) | (rw [fa_append]; exact hown)) hgr hat
              clear hown hgr hbl hat hrw
              refine hK.out _ _ (HSx.out _ HQv.out) (fun hHeld => ?_)
              clear hK K
              try simp only [Act.put, List.setIfInBounds_toArray]
              refine wpAnyH_take (i := 9) (v := ?_) rfl (by kernel_rfl) (by kernel_rfl) (by kernel_rfl) (fun _ _ _ h => h) (Or.inl ⟨by rfl, ?_⟩) (by assumption) ?_
              rotate_left
              · intro w9 hSw; (try dsimp only at hSw); go_simp; first | done | (with_reducible rfl)
              try simp only [Act.put]
              refine wpAnyH_ready (rs := [10]) (by kernel_rfl) (by simp) ?_
              refine AllReadyH.cons rfl (fun K hK => ?_) AllReadyH.nil
              go_simp
              refine hK.out _ _ (HSx.out _ (fun b hb1 hb2 hb3 => (Below.heap_setCell wv ⟨gx, 3, none⟩ _ b hb2).trans (HQv.out b hb1 hb2 hb3))) (fun hHeld => ?_)
              clear hK K
              try simp only [Act.put, List.setIfInBounds_toArray, List.set_cons_zero, List.set_cons_succ]
              refine wpAnyH_done (by kernel_rfl) ?_ _
              clear y0 y1 e5 cA2
              try go_wp2_with fail
              go_meet
              exact ⟨_, _, HPU⟩
          case rest =>
          obtain ⟨A5, d5, HO3⟩ := hcut
          obtain ⟨yc, rfl⟩ : ∃ x : World, x = wc := ⟨_, rfl⟩
          clear hc lk hbW hbc
          go_upto_region 14 with fail
          have BOv := HO3.out.old BOX.out (by have := LTS.out; omega) (by have := LTS.out; omega)
          have hbW : w.heap.size < yc.heap.size := BOv.lt
          have hbc := BOv.cell 4
          have hbv : Below w.heap.size w yc := BX.out.trans (HO3.out.fr.bel (by have := LTS.out; omega) (by have := LTS.out; omega))
          obtain ⟨b, off, xe, hsl, hbB, hxe, hc⟩ := (H4.out.below hbv (Nat.le_refl _)).at_ (k := k) (by rw [HES.out]; exact hlt)
          injection hsl with hsl
          injection hsl with e1 e2 _
          subst e1 e2
          rw [Nat.zero_add] at hc
          have lk : (k : Int) < (E.length : Int) := by have := HES.out; omega
          clear BOv hbv
          have HOA : Hid (Out w4 (yc.alloc (.cells ([.int .i64 xe] : List Value).toArray 2)).drew nb g6 S c6 lo gx ((tmR ah bh S k).set k (n3 : Int)) ((n3 : Int) + 1) T (.slice (some ⟨lo, 0, none⟩) 0 0) (.slice A5 (n3 + 1) d5) (.slice A4 n3 d4) 0 (n3 + 1) n3 [] (tmX ah bh P k ++ [xp]) (tmX ah bh E k)) := (HO3.out.alloc _).drewN 1
          have HNEW : Hid (∀ j' u, ([.int .i64 xe] : List Value)[j']? = some u → ((yc.alloc (.cells ([.int .i64 xe] : List Value).toArray 2)).drew).cell? ⟨yc.heap.size, 0 + j', none⟩ = some u) := fun j' u hu => by
            rw [Nat.zero_add]; exact ((Row.new yc 2 [.int .i64 xe]).cell j').trans hu
          have ROOM : Hid (n3 + 1 ≤ 4294967296) := by show _ ≤ _; omega
          have HSx : Hid (∀ x9 : World, (∀ b, b < yc.heap.size → b ≠ gx → (Value.slice A4 n3 d4).ownBlock ≠ some b → x9.heap[b]? = yc.heap[b]?) → (x9.cell? ⟨w.heap.size, 4, none⟩ = some (.slice (some ⟨p4, 0, none⟩) E.length c4) ∧ x9.cell? ⟨p4, k, none⟩ = some (.int .i64 xe))) := fun x9 h9 => ⟨((World.cell?_of_block (a := ⟨w.heap.size, 4, none⟩) (h9 w.heap.size hbW (by have := LTS.out; omega) (fun e => by have := (HO3.out.m3.o4.lt _ e).1; have := LTS.out; omega))).trans hbc), ((World.cell?_of_block (a := ⟨p4, k, none⟩) (h9 p4 (by omega) (by have := LTS.out; omega) (fun e => by have := (HO3.out.m3.o4.lt _ e).1; have := LTS.out; omega))).trans hc)⟩
          have cA2 : (yc.alloc (.cells ([.int .i64 xe] : List Value).toArray 2)).cell? ⟨gx, 4, none⟩ = some (Value.slice A4 n3 d4) := (HO3.out.alloc _).m3.row.cell 4
          have e5 : yc.cell? ⟨gx, 4, none⟩ = some (Value.slice A4 n3 d4) := HO3.out.m3.row.cell 4
          have hS0 := HSx.out yc.drew (fun b _ _ _ => rfl)
          refine wp_region_held_drew (S := fun x9 => x9.cell? ⟨w.heap.size, 4, none⟩ = some (.slice (some ⟨p4, 0, none⟩) E.length c4) ∧ x9.cell? ⟨p4, k, none⟩ = some (.int .i64 xe)) (by kernel_rfl) hS0 (fun hHeld => ?_)
          clear hS0
          refine wpAnyH_take (i := 0) (v := ?_) rfl (by kernel_rfl) (by kernel_rfl) (by kernel_rfl) (fun _ _ _ h => h) (Or.inl ⟨by rfl, ?_⟩) (by assumption) ?_
          rotate_left
          · intro w9 hSw; (try dsimp only at hSw); go_simp; first | done | (with_reducible rfl)
          try simp only [Act.put, List.setIfInBounds_toArray]
          refine wpAnyH_take (i := 2) (v := ?_) rfl (by kernel_rfl) (by kernel_rfl) (by kernel_rfl) (fun _ _ _ h => h) (Or.inl ⟨by rfl, ?_⟩) (by assumption) ?_
          rotate_left
          · intro w9 hSw; (try dsimp only at hSw); go_simp; first | done | (with_reducible rfl)
          try simp only [Act.put]
          refine wpAnyH_take (i := 3) (v := ?_) rfl (by kernel_rfl) (by kernel_rfl) (by kernel_rfl) (fun _ _ _ h => h) (Or.inl ⟨by rfl, ?_⟩) (by assumption) ?_
          rotate_left
          · intro w9 hSw; (try dsimp only at hSw); go_simp; first | done | (with_reducible rfl)
          try simp only [Act.put]
          refine wpAnyH_take (i := 4) (v := ?_) rfl (by kernel_rfl) (by kernel_rfl) (by kernel_rfl) (fun _ _ _ h => h) (Or.inl ⟨by rfl, ?_⟩) (by assumption) ?_
          rotate_left
          · intro w9 hSw; (try dsimp only at hSw); go_simp; first | done | (with_reducible rfl)
          try simp only [Act.put]
          refine wpAnyH_take (i := 5) (v := ?_) rfl (by kernel_rfl) (by kernel_rfl) (by kernel_rfl) (fun _ _ _ h => h) (Or.inl ⟨by rfl, ?_⟩) (by assumption) ?_
          rotate_left
          · intro w9 hSw; (try dsimp only at hSw); go_simp; first | done | (with_reducible rfl)
          try simp only [Act.put]
          refine wpAnyH_take (i := 6) (v := ?_) rfl (by kernel_rfl) (by kernel_rfl) (by kernel_rfl) (fun _ _ _ h => h) (Or.inl ⟨by rfl, ?_⟩) (by assumption) ?_
          rotate_left
          · intro w9 hSw; (try dsimp only at hSw); go_simp; first | done | (with_reducible rfl)
          try simp only [Act.put]
          refine wpAnyH_ready (rs := [1, 7]) (by kernel_rfl) (by simp) ?_
          refine AllReadyH.cons rfl (fun K hK => ?_) ?_
          · go_simp
            refine hK.out _ _ (HSx.out _ (fun b _ _ _ => rfl)) (fun hHeld => ?_)
            clear hK K
            try simp only [Act.put, List.setIfInBounds_toArray, List.set_cons_zero, List.set_cons_succ]
            refine wpAnyH_ready (rs := [7]) (by kernel_rfl) (by simp) ?_
            refine AllReadyH.cons rfl (fun K hK => ?_) AllReadyH.nil
            go_simp
            refine hK.out _ _ (HSx.out _ (fun b hb1 hb2 hb3 => Below.heap_alloc yc _ b hb1)) (fun hHeld => ?_)
            clear hK K
            try simp only [Act.put, List.setIfInBounds_toArray, List.set_cons_zero, List.set_cons_succ]
            refine wpAnyH_ready (rs := [8]) (by kernel_rfl) (by simp) ?_
            refine AllReadyH.cons rfl (fun K hK => ?_) AllReadyH.nil
            refine step_cells_push rfl (.tmp 63) (.tmp 69) _ rfl lo 2 (.int .i64 0) 1 8 Try.underlying26 infoQ rfl (by omega) (by omega) (Value.slice A4 n3 d4) n3 (iv (tmX ah bh E k)) ?_ HOA.out.m3.o4 yc.heap.size 0 1 1 [.int .i64 xe] ?_ rfl HNEW.out (iv_one [xe]) ROOM.out HOA.out.m3.size ?_
            rfl
            rfl
            intro A6 d6 wv hown hgr hbl hat
            have hrw := HOA.out.m3.row.grown hgr (fun e => (HOA.out.m3.d4 gx e.symm) rfl)
            have y0 := hrw.cell 4
            have y1 := hrw.frozen 4
            have HQv : Hid (∀ b, b < yc.heap.size → b ≠ gx → (Value.slice A4 n3 d4).ownBlock ≠ some b → wv.heap[b]? = yc.heap[b]?) := fun b hb1 hb2 hb3 => (hgr.block b (by show b < (yc.alloc (.cells ([.int .i64 xe] : List Value).toArray 2)).heap.size; simp; omega) (fun e => hb3 e.symm)).trans (Below.heap_alloc yc _ b hb1)
            have HPU : Hid (Out w4 (wv.setCell ⟨gx, 4, none⟩ (.slice A6 (n3 + 1) d6)) nb g6 S c6 lo gx ((tmR ah bh S k).set k (n3 : Int)) ((n3 : Int) + 1) T (.slice (some ⟨lo, 0, none⟩) 0 0) (.slice A5 (n3 + 1) d5) (.slice A6 (n3 + 1) d6) 0 (n3 + 1) (n3 + 1) [] (tmX ah bh P k ++ [xp]) (tmX ah bh E k ++ [xe])) := HOA.out.push4 (by first | (rw [iv_append]; exact hown) | (rw [fa_append]; exact hown)) hgr hat
            clear hown hgr hbl hat hrw
            refine hK.out _ _ (HSx.out _ HQv.out) (fun hHeld => ?_)
            clear hK K
            try simp only [Act.put, List.setIfInBounds_toArray]
            refine wpAnyH_take (i := 9) (v := ?_) rfl (by kernel_rfl) (by kernel_rfl) (by kernel_rfl) (fun _ _ _ h => h) (Or.inl ⟨by rfl, ?_⟩) (by assumption) ?_
            rotate_left
            · intro w9 hSw; (try dsimp only at hSw); go_simp; first | done | (with_reducible rfl)
            try simp only [Act.put]
            refine wpAnyH_ready (rs := [10]) (by kernel_rfl) (by simp) ?_
            refine AllReadyH.cons rfl (fun K hK => ?_) AllReadyH.nil
            go_simp
            refine hK.out _ _ (HSx.out _ (fun b hb1 hb2 hb3 => (Below.heap_setCell wv ⟨gx, 4, none⟩ _ b hb2).trans (HQv.out b hb1 hb2 hb3))) (fun hHeld => ?_)
            clear hK K
            try simp only [Act.put, List.setIfInBounds_toArray, List.set_cons_zero, List.set_cons_succ]
            refine wpAnyH_done (by kernel_rfl) ?_ _
            clear y0 y1 e5 cA2
            go_wp2_with fail
            go_roundg (gk - 1)
            case measure => omega
            case rel =>
              refine ⟨k + 1, n3 + 1, (.slice A5 (n3 + 1) d5), (.slice A6 (n3 + 1) d6), by go_num, by omega, by omega, by show _ = _; rw [HYC.out, ← HN.out], ?_⟩
              show Out _ _ _ _ _ _ _ _ _ _ _ _ _ _ _ _ _ _ _ _
              rw [HYR.out, HYP.out xp hxp.out, HYE.out xe hxe.out, ← HN.out]
              exact HPU.out
          refine AllReadyH.cons rfl (fun K hK => ?_) AllReadyH.nil
          · go_simp
            refine hK.out _ _ (HSx.out _ (fun b hb1 hb2 hb3 => Below.heap_alloc yc _ b hb1)) (fun hHeld => ?_)
            clear hK K
            try simp only [Act.put, List.setIfInBounds_toArray, List.set_cons_zero, List.set_cons_succ]
            refine wpAnyH_ready (rs := [1]) (by kernel_rfl) (by simp) ?_
            refine AllReadyH.cons rfl (fun K hK => ?_) AllReadyH.nil
            go_simp
            refine hK.out _ _ (HSx.out _ (fun b hb1 hb2 hb3 => Below.heap_alloc yc _ b hb1)) (fun hHeld => ?_)
            clear hK K
            try simp only [Act.put, List.setIfInBounds_toArray, List.set_cons_zero, List.set_cons_succ]
            refine wpAnyH_ready (rs := [8]) (by kernel_rfl) (by simp) ?_
            refine AllReadyH.cons rfl (fun K hK => ?_) AllReadyH.nil
            refine step_cells_push rfl (.tmp 63) (.tmp 69) _ rfl lo 2 (.int .i64 0) 1 8 Try.underlying26 infoQ rfl (by omega) (by omega) (Value.slice A4 n3 d4) n3 (iv (tmX ah bh E k)) ?_ HOA.out.m3.o4 yc.heap.size 0 1 1 [.int .i64 xe] ?_ rfl HNEW.out (iv_one [xe]) ROOM.out HOA.out.m3.size ?_
            rfl
            rfl
            intro A6 d6 wv hown hgr hbl hat
            have hrw := HOA.out.m3.row.grown hgr (fun e => (HOA.out.m3.d4 gx e.symm) rfl)
            have y0 := hrw.cell 4
            have y1 := hrw.frozen 4
            have HQv : Hid (∀ b, b < yc.heap.size → b ≠ gx → (Value.slice A4 n3 d4).ownBlock ≠ some b → wv.heap[b]? = yc.heap[b]?) := fun b hb1 hb2 hb3 => (hgr.block b (by show b < (yc.alloc (.cells ([.int .i64 xe] : List Value).toArray 2)).heap.size; simp; omega) (fun e => hb3 e.symm)).trans (Below.heap_alloc yc _ b hb1)
            have HPU : Hid (Out w4 (wv.setCell ⟨gx, 4, none⟩ (.slice A6 (n3 + 1) d6)) nb g6 S c6 lo gx ((tmR ah bh S k).set k (n3 : Int)) ((n3 : Int) + 1) T (.slice (some ⟨lo, 0, none⟩) 0 0) (.slice A5 (n3 + 1) d5) (.slice A6 (n3 + 1) d6) 0 (n3 + 1) (n3 + 1) [] (tmX ah bh P k ++ [xp]) (tmX ah bh E k ++ [xe])) := HOA.out.push4 (by first | (rw [iv_append]; exact hown) | (rw [fa_append]; exact hown)) hgr hat
            clear hown hgr hbl hat hrw
            refine hK.out _ _ (HSx.out _ HQv.out) (fun hHeld => ?_)
            clear hK K
            try simp only [Act.put, List.setIfInBounds_toArray]
            refine wpAnyH_take (i := 9) (v := ?_) rfl (by kernel_rfl) (by kernel_rfl) (by kernel_rfl) (fun _ _ _ h => h) (Or.inl ⟨by rfl, ?_⟩) (by assumption) ?_
            rotate_left
            · intro w9 hSw; (try dsimp only at hSw); go_simp; first | done | (with_reducible rfl)
            try simp only [Act.put]
            refine wpAnyH_ready (rs := [10]) (by kernel_rfl) (by simp) ?_
            refine AllReadyH.cons rfl (fun K hK => ?_) AllReadyH.nil
            go_simp
            refine hK.out _ _ (HSx.out _ (fun b hb1 hb2 hb3 => (Below.heap_setCell wv ⟨gx, 4, none⟩ _ b hb2).trans (HQv.out b hb1 hb2 hb3))) (fun hHeld => ?_)
            clear hK K
            try simp only [Act.put, List.setIfInBounds_toArray, List.set_cons_zero, List.set_cons_succ]
            refine wpAnyH_done (by kernel_rfl) ?_ _
            clear y0 y1 e5 cA2
            go_wp2_with fail
            go_roundg (gk - 1)
            case measure => omega
            case rel =>
              refine ⟨k + 1, n3 + 1, (.slice A5 (n3 + 1) d5), (.slice A6 (n3 + 1) d6), by go_num, by omega, by omega, by show _ = _; rw [HYC.out, ← HN.out], ?_⟩
              show Out _ _ _ _ _ _ _ _ _ _ _ _ _ _ _ _ _ _ _ _
              rw [HYR.out, HYP.out xp hxp.out, HYE.out xe hxe.out, ← HN.out]
              exact HPU.out

    · have hkS : k = S := by omega
      have l1 : ¬ (k : Int) < (S : Int) := by omega
      obtain ⟨wz, rfl⟩ : ∃ x : World, x = wo := ⟨_, rfl⟩
      subst hkS
      clear hlt hk hm
      have BOz := HO.out.old BOX.out (by have := LTS.out; omega) (by have := LTS.out; omega)
      have z2 := BOz.cell 2
      go_wp2_with fail
      clear z2 BOz
      go_loopg [9, 10] L.length (fun q i u10 wr => ∃ (j n2 b2 e2 : Nat), i = .int .i64 (j : Int) ∧ j ≤ L.length ∧ L.length ≤ q + j ∧ Hid (n2 = (tmA ah bh L j).length) ∧ Hid (Out w4 wr nb g6 k c6 lo gx (tmR ah bh k k) n3 T (.slice (some ⟨b2, 0, none⟩) n2 e2) (.slice A3 n3 d3) (.slice A4 n3 d4) n2 n3 n3 (tmA ah bh L j) (tmX ah bh P k) (tmX ah bh E k)))
      case atStart => exact ⟨0, 0, lo, 0, by go_num, by omega, by omega, rfl, HO.out⟩
      case round =>
        clear HO
        obtain ⟨j, n2, b2, e2, rfl, hj, hm, HN2, HO⟩ := hrel
        obtain ⟨wo, rfl⟩ : ∃ x : World, x = wr := ⟨_, rfl⟩
        have b2c := (HO.out.old BOX.out (by have := LTS.out; omega) (by have := LTS.out; omega)).cell 2
        have hn2 : n2 ≤ j := by rw [HN2.out]; exact tmA_len L j
        by_cases hlt : j < L.length
        · have hbo : Below w.heap.size w wo := BX.out.trans (HO.out.fr.bel (by have := LTS.out; omega) (by have := LTS.out; omega))
          obtain ⟨b, off, a0, a1, a2, a3, hsl, hbB, hx, k0, k1, k2, k3⟩ := (H2.out.below hbo (Nat.le_refl _)).at_ hlt
          injection hsl with hsl
          injection hsl with q1 q2 _
          subst q1 q2
          rw [Nat.zero_add] at k0 k1 k2 k3
          have HX := hx
          have hrange := QA.out _ (List.mem_of_getElem? hx.out)
          simp only at hrange
          obtain ⟨⟨r1, r2⟩, r3, r4⟩ := hrange
          obtain ⟨fn, hfn⟩ : ∃ f : Nat, a0 = (f : Int) := ⟨a0.toNat, by omega⟩
          obtain ⟨tn, htn⟩ : ∃ f : Nat, a1 = (f : Int) := ⟨a1.toNat, by omega⟩
          subst hfn htn
          obtain ⟨m1, hm1⟩ : ∃ m, m = tmM ah bh fn := ⟨_, rfl⟩
          obtain ⟨m2, hm2⟩ : ∃ m, m = tmM ah bh tn := ⟨_, rfl⟩
          have hr1 : (tmR ah bh k k)[fn]? = some m1 := by rw [tmR_at (by omega), if_pos (by omega), hm1]
          have hr2 : (tmR ah bh k k)[tn]? = some m2 := by rw [tmR_at (by omega), if_pos (by omega), hm2]
          have HTM : Hid (tmO ah bh ((fn : Int), (tn : Int), a2, a3) = (decide (0 ≤ m1) && decide (0 ≤ m2))) := by show (decide (0 ≤ tmM ah bh (Int.toNat (fn : Int))) && decide (0 ≤ tmM ah bh (Int.toNat (tn : Int)))) = _; rw [Int.toNat_natCast, Int.toNat_natCast, hm1, hm2]
          have HTB : Hid (tmB ah bh ((fn : Int), (tn : Int), a2, a3) = (m1, m2, a2, a3)) := by show (tmM ah bh (Int.toNat (fn : Int)), tmM ah bh (Int.toNat (tn : Int)), a2, a3) = _; rw [Int.toNat_natCast, Int.toNat_natCast, hm1, hm2]
          have q1 : (0 : Int) ≤ (fn : Int) := by omega
          have q2 : (fn : Int) < (k : Int) := by omega
          have q3 : (0 : Int) ≤ (tn : Int) := by omega
          have q4 : (tn : Int) < (k : Int) := by omega
          have l2 : (0 : Int) ≤ (j : Int) := by omega
          have l3 : (j : Int) < (L.length : Int) := by omega
          have HR1_ := Lib.hid hr1; have HR2_ := Lib.hid hr2
          have RA_ := Row.new wo 62 [.int .i64 (fn : Int), .int .i64 (tn : Int), .int .i64 a2, .int .i64 a3]
          have HO_ := HO.out.alloc (.cells ([.int .i64 (fn : Int), .int .i64 (tn : Int), .int .i64 a2, .int .i64 a3] : List Value).toArray 62)
          clear hm1 hm2 hr1 hr2 r1 r2 r3 r4 hbo
          go_upto_region 19 with fail
          clear k0 k1 k2 k3
          obtain ⟨y, hy⟩ : ∃ y, y = (wo.alloc (.cells ([.int .i64 (fn : Int), .int .i64 (tn : Int), .int .i64 a2, .int .i64 a3] : List Value).toArray 62)) := ⟨_, rfl⟩
          obtain ⟨ga, hga⟩ : ∃ x, x = wo.heap.size := ⟨_, rfl⟩
          have hgg : gx < ga := by rw [hga]; exact HO.out.size
          have HGN : Hid ((Value.slice (some ⟨b2, 0, none⟩) n2 e2).ownBlock ≠ some ga) := fun e => by have := (HO.out.m3.o2.lt _ e).2; omega
          change Code.wp _ _ _ _ (wo.alloc (.cells ([.int .i64 (fn : Int), .int .i64 (tn : Int), .int .i64 a2, .int .i64 a3] : List Value).toArray 62))
          rw [← hy, ← hga] at RA_
          rw [← hy] at HO_
          rw [← hy, ← hga]
          have RAy := Lib.hid RA_; have HOy := Lib.hid HO_; have HGG := Lib.hid hgg
          clear RA_ HO_ hy hga HO hgg
          have d0 := RAy.out.cell 0; have d1 := RAy.out.cell 1
          have m3 := (HOy.out.at_ HR1_.out).1; have m4 := (HOy.out.at_ HR2_.out).1
          by_cases hp1 : 0 ≤ m1
          · by_cases hp2 : 0 ≤ m2
            · have hto : tmO ah bh ((fn : Int), (tn : Int), a2, a3) = true := by rw [HTM.out]; simp [hp1, hp2]
              have HA1 := Lib.hid (tmA_yes HX.out hto)
              clear hto
              go_upto_region 20 with fail
              clear d0 d1 m3 m4
              have d0 := RAy.out.cell 0; have d1 := RAy.out.cell 1; have d2_ := RAy.out.cell 2; have d3_ := RAy.out.cell 3
              have m3 := (HOy.out.at_ HR1_.out).1; have m4 := (HOy.out.at_ HR2_.out).1
              have hga1 : ga < y.heap.size := RAy.out.lt
              have hga2 : (Value.slice (some ⟨b2, 0, none⟩) n2 e2).ownBlock ≠ some ga := HGN.out
              have HOA : Hid (Out w4 (y.alloc (.cells ([.int .i64 m1, .int .i64 m2, .int .i64 a2, .int .i64 a3] : List Value).toArray 62)).drew nb g6 k c6 lo gx (tmR ah bh k k) n3 T (.slice (some ⟨b2, 0, none⟩) n2 e2) (.slice A3 n3 d3) (.slice A4 n3 d4) n2 n3 n3 (tmA ah bh L j) (tmX ah bh P k) (tmX ah bh E k)) := (HOy.out.alloc _).drewN 1
              have HNEW : Hid (∀ j' u, ([.int .i64 m1, .int .i64 m2, .int .i64 a2, .int .i64 a3] : List Value)[j']? = some u → ((y.alloc (.cells ([.int .i64 m1, .int .i64 m2, .int .i64 a2, .int .i64 a3] : List Value).toArray 62)).drew).cell? ⟨y.heap.size, 0 + j', none⟩ = some u) := fun j' u hu => by
                rw [Nat.zero_add]; exact ((Row.new y 62 [.int .i64 m1, .int .i64 m2, .int .i64 a2, .int .i64 a3]).cell j').trans hu
              have ROOM : Hid (n2 + 1 ≤ 4294967296) := by show _ ≤ _; omega
              have HSx : Hid (∀ x9 : World, (∀ b, b < y.heap.size → b ≠ gx → (Value.slice (some ⟨b2, 0, none⟩) n2 e2).ownBlock ≠ some b → x9.heap[b]? = y.heap[b]?) → (x9.cell? ⟨ga, 0, none⟩ = some (.int .i64 (fn : Int)) ∧ x9.cell? ⟨ga, 1, none⟩ = some (.int .i64 (tn : Int)) ∧ x9.cell? ⟨ga, 2, none⟩ = some (.int .i64 a2) ∧ x9.cell? ⟨ga, 3, none⟩ = some (.int .i64 a3) ∧ x9.cell? ⟨g6, fn, none⟩ = some (.int .i64 m1) ∧ x9.cell? ⟨g6, tn, none⟩ = some (.int .i64 m2))) := fun x9 h9 => by
                have e1 := h9 ga hga1 (by have := HGG.out; omega) hga2
                have e2_ := h9 g6 (by have := HOy.out.size; have := LTS.out; omega) (by have := LTS.out; omega) (fun e => by have := (HOy.out.m3.o2.lt _ e).1; have := LTS.out; omega)
                exact ⟨(World.cell?_of_block (a := ⟨ga, 0, none⟩) e1).trans d0, (World.cell?_of_block (a := ⟨ga, 1, none⟩) e1).trans d1, (World.cell?_of_block (a := ⟨ga, 2, none⟩) e1).trans d2_, (World.cell?_of_block (a := ⟨ga, 3, none⟩) e1).trans d3_, (World.cell?_of_block (a := ⟨g6, fn, none⟩) e2_).trans m3, (World.cell?_of_block (a := ⟨g6, tn, none⟩) e2_).trans m4⟩
              have cA2 : (y.alloc (.cells ([.int .i64 m1, .int .i64 m2, .int .i64 a2, .int .i64 a3] : List Value).toArray 62)).cell? ⟨gx, 2, none⟩ = some (Value.slice (some ⟨b2, 0, none⟩) n2 e2) := (HOy.out.alloc _).m3.row.cell 2
              have e5 : y.cell? ⟨gx, 2, none⟩ = some (Value.slice (some ⟨b2, 0, none⟩) n2 e2) := HOy.out.m3.row.cell 2
              have hS0 := HSx.out y.drew (fun b _ _ _ => rfl)
              refine wp_region_held_drew (S := fun x9 => x9.cell? ⟨ga, 0, none⟩ = some (.int .i64 (fn : Int)) ∧ x9.cell? ⟨ga, 1, none⟩ = some (.int .i64 (tn : Int)) ∧ x9.cell? ⟨ga, 2, none⟩ = some (.int .i64 a2) ∧ x9.cell? ⟨ga, 3, none⟩ = some (.int .i64 a3) ∧ x9.cell? ⟨g6, fn, none⟩ = some (.int .i64 m1) ∧ x9.cell? ⟨g6, tn, none⟩ = some (.int .i64 m2)) (by kernel_rfl) hS0 (fun hHeld => ?_)
              clear hS0
              refine wpAnyH_take (i := 0) (v := ?_) rfl (by kernel_rfl) (by kernel_rfl) (by kernel_rfl) (fun _ _ _ h => h) (Or.inl ⟨by rfl, ?_⟩) (by assumption) ?_
              rotate_left
              · intro w9 hSw; (try dsimp only at hSw); go_simp; first | done | (with_reducible rfl)
              try simp only [Act.put, List.setIfInBounds_toArray]
              refine wpAnyH_take (i := 2) (v := ?_) rfl (by kernel_rfl) (by kernel_rfl) (by kernel_rfl) (fun _ _ _ h => h) (Or.inl ⟨by rfl, ?_⟩) (by assumption) ?_
              rotate_left
              · intro w9 hSw; (try dsimp only at hSw); go_simp; first | done | (with_reducible rfl)
              try simp only [Act.put]
              refine wpAnyH_take (i := 3) (v := ?_) rfl (by kernel_rfl) (by kernel_rfl) (by kernel_rfl) (fun _ _ _ h => h) (Or.inl ⟨by rfl, ?_⟩) (by assumption) ?_
              rotate_left
              · intro w9 hSw; (try dsimp only at hSw); go_simp; first | done | (with_reducible rfl)
              try simp only [Act.put]
              refine wpAnyH_take (i := 4) (v := ?_) rfl (by kernel_rfl) (by kernel_rfl) (by kernel_rfl) (fun _ _ _ h => h) (Or.inl ⟨by rfl, ?_⟩) (by assumption) ?_
              rotate_left
              · intro w9 hSw; (try dsimp only at hSw); go_simp; first | done | (with_reducible rfl)
              try simp only [Act.put]
              refine wpAnyH_take (i := 5) (v := ?_) rfl (by kernel_rfl) (by kernel_rfl) (by kernel_rfl) (fun _ _ _ h => h) (Or.inl ⟨by rfl, ?_⟩) (by assumption) ?_
              rotate_left
              · intro w9 hSw; (try dsimp only at hSw); go_simp; first | done | (with_reducible rfl)
              try simp only [Act.put]
              refine wpAnyH_take (i := 6) (v := ?_) rfl (by kernel_rfl) (by kernel_rfl) (by kernel_rfl) (fun _ _ _ h => h) (Or.inl ⟨by rfl, ?_⟩) (by assumption) ?_
              rotate_left
              · intro w9 hSw; (try dsimp only at hSw); go_simp; first | done | (with_reducible rfl)
              try simp only [Act.put]
              refine wpAnyH_take (i := 7) (v := ?_) rfl (by kernel_rfl) (by kernel_rfl) (by kernel_rfl) (fun _ _ _ h => h) (Or.inl ⟨by rfl, ?_⟩) (by assumption) ?_
              rotate_left
              · intro w9 hSw; (try dsimp only at hSw); go_simp; first | done | (with_reducible rfl)
              try simp only [Act.put]
              refine wpAnyH_take (i := 8) (v := ?_) rfl (by kernel_rfl) (by kernel_rfl) (by kernel_rfl) (fun _ _ _ h => h) (Or.inl ⟨by rfl, ?_⟩) (by assumption) ?_
              rotate_left
              · intro w9 hSw; (try dsimp only at hSw); go_simp; first | done | (with_reducible rfl)
              try simp only [Act.put]
              refine wpAnyH_take (i := 9) (v := ?_) rfl (by kernel_rfl) (by kernel_rfl) (by kernel_rfl) (fun _ _ _ h => h) (Or.inl ⟨by rfl, ?_⟩) (by assumption) ?_
              rotate_left
              · intro w9 hSw; (try dsimp only at hSw); go_simp; first | done | (with_reducible rfl)
              try simp only [Act.put]
              refine wpAnyH_take (i := 10) (v := ?_) rfl (by kernel_rfl) (by kernel_rfl) (by kernel_rfl) (fun _ _ _ h => h) (Or.inl ⟨by rfl, ?_⟩) (by assumption) ?_
              rotate_left
              · intro w9 hSw; (try dsimp only at hSw); go_simp; first | done | (with_reducible rfl)
              try simp only [Act.put]
              refine wpAnyH_take (i := 11) (v := ?_) rfl (by kernel_rfl) (by kernel_rfl) (by kernel_rfl) (fun _ _ _ h => h) (Or.inl ⟨by rfl, ?_⟩) (by assumption) ?_
              rotate_left
              · intro w9 hSw; (try dsimp only at hSw); go_simp; first | done | (with_reducible rfl)
              try simp only [Act.put]
              refine wpAnyH_take (i := 12) (v := ?_) rfl (by kernel_rfl) (by kernel_rfl) (by kernel_rfl) (fun _ _ _ h => h) (Or.inl ⟨by rfl, ?_⟩) (by assumption) ?_
              rotate_left
              · intro w9 hSw; (try dsimp only at hSw); go_simp; first | done | (with_reducible rfl)
              try simp only [Act.put]
              refine wpAnyH_take (i := 13) (v := ?_) rfl (by kernel_rfl) (by kernel_rfl) (by kernel_rfl) (fun _ _ _ h => h) (Or.inl ⟨by rfl, ?_⟩) (by assumption) ?_
              rotate_left
              · intro w9 hSw; (try dsimp only at hSw); go_simp; first | done | (with_reducible rfl)
              try simp only [Act.put]
              refine wpAnyH_take (i := 14) (v := ?_) rfl (by kernel_rfl) (by kernel_rfl) (by kernel_rfl) (fun _ _ _ h => h) (Or.inl ⟨by rfl, ?_⟩) (by assumption) ?_
              rotate_left
              · intro w9 hSw; (try dsimp only at hSw); go_simp; first | done | (with_reducible rfl)
              try simp only [Act.put]
              refine wpAnyH_take (i := 15) (v := ?_) rfl (by kernel_rfl) (by kernel_rfl) (by kernel_rfl) (fun _ _ _ h => h) (Or.inl ⟨by rfl, ?_⟩) (by assumption) ?_
              rotate_left
              · intro w9 hSw; (try dsimp only at hSw); go_simp; first | done | (with_reducible rfl)
              try simp only [Act.put]
              refine wpAnyH_take (i := 16) (v := ?_) rfl (by kernel_rfl) (by kernel_rfl) (by kernel_rfl) (fun _ _ _ h => h) (Or.inl ⟨by rfl, ?_⟩) (by assumption) ?_
              rotate_left
              · intro w9 hSw; (try dsimp only at hSw); go_simp; first | done | (with_reducible rfl)
              try simp only [Act.put]
              refine wpAnyH_ready (rs := [1, 17]) (by kernel_rfl) (by simp) ?_
              refine AllReadyH.cons rfl (fun K hK => ?_) ?_
              · go_simp
                refine hK.out _ _ (HSx.out _ (fun b _ _ _ => rfl)) (fun hHeld => ?_)
                clear hK K
                try simp only [Act.put, List.setIfInBounds_toArray, List.set_cons_zero, List.set_cons_succ]
                refine wpAnyH_ready (rs := [17]) (by kernel_rfl) (by simp) ?_
                refine AllReadyH.cons rfl (fun K hK => ?_) AllReadyH.nil
                go_simp
                refine hK.out _ _ (HSx.out _ (fun b hb1 hb2 hb3 => Below.heap_alloc y _ b hb1)) (fun hHeld => ?_)
                clear hK K
                try simp only [Act.put, List.setIfInBounds_toArray, List.set_cons_zero, List.set_cons_succ]
                refine wpAnyH_ready (rs := [18]) (by kernel_rfl) (by simp) ?_
                refine AllReadyH.cons rfl (fun K hK => ?_) AllReadyH.nil
                refine step_cells_push rfl (.tmp 99) (.tmp 115) _ rfl lo 62 (.agg #[.int .i64 0, .int .i64 0, .int .i64 0, .int .i64 0]) 4 32 Try.underlying25 infoAr rfl (by omega) (by omega) (Value.slice (some ⟨b2, 0, none⟩) n2 e2) n2 (fa (tmA ah bh L j)) ?_ HOA.out.m3.o2 y.heap.size 0 1 1 [.int .i64 m1, .int .i64 m2, .int .i64 a2, .int .i64 a3] ?_ rfl HNEW.out (fa_one [(m1, m2, a2, a3)]) ROOM.out HOA.out.m3.size ?_
                rfl
                rfl
                intro B3 e3 wv hown hgr hbl hat
                have hrw := HOA.out.m3.row.grown hgr (fun e => ((HOA.out.m3.d2 gx e.symm).1) rfl)
                have y0 := hrw.cell 2
                have y1 := hrw.frozen 2
                have HQv : Hid (∀ b, b < y.heap.size → b ≠ gx → (Value.slice (some ⟨b2, 0, none⟩) n2 e2).ownBlock ≠ some b → wv.heap[b]? = y.heap[b]?) := fun b hb1 hb2 hb3 => (hgr.block b (by show b < (y.alloc (.cells ([.int .i64 m1, .int .i64 m2, .int .i64 a2, .int .i64 a3] : List Value).toArray 62)).heap.size; simp; omega) (fun e => hb3 e.symm)).trans (Below.heap_alloc y _ b hb1)
                have HPU : Hid (Out w4 (wv.setCell ⟨gx, 2, none⟩ (.slice B3 (n2 + 1) e3)) nb g6 k c6 lo gx (tmR ah bh k k) n3 T (.slice B3 (n2 + 1) e3) (.slice A3 n3 d3) (.slice A4 n3 d4) (n2 + 1) n3 n3 (tmA ah bh L j ++ [(m1, m2, a2, a3)]) (tmX ah bh P k) (tmX ah bh E k)) := HOA.out.push2 (by first | (rw [iv_append]; exact hown) | (rw [fa_append]; exact hown)) hgr hat
                clear hown hgr hbl hat hrw
                refine hK.out _ _ (HSx.out _ HQv.out) (fun hHeld => ?_)
                clear hK K
                try simp only [Act.put, List.setIfInBounds_toArray]
                refine wpAnyH_take (i := 19) (v := ?_) rfl (by kernel_rfl) (by kernel_rfl) (by kernel_rfl) (fun _ _ _ h => h) (Or.inl ⟨by rfl, ?_⟩) (by assumption) ?_
                rotate_left
                · intro w9 hSw; (try dsimp only at hSw); go_simp; first | done | (with_reducible rfl)
                try simp only [Act.put]
                refine wpAnyH_ready (rs := [20]) (by kernel_rfl) (by simp) ?_
                refine AllReadyH.cons rfl (fun K hK => ?_) AllReadyH.nil
                go_simp
                refine hK.out _ _ (HSx.out _ (fun b hb1 hb2 hb3 => (Below.heap_setCell wv ⟨gx, 2, none⟩ _ b hb2).trans (HQv.out b hb1 hb2 hb3))) (fun hHeld => ?_)
                clear hK K
                try simp only [Act.put, List.setIfInBounds_toArray, List.set_cons_zero, List.set_cons_succ]
                refine wpAnyH_done (by kernel_rfl) ?_ _
                clear y0 y1 e5 cA2
                go_wp2_with fail
                go_roundg (gk - 1)
                case measure => omega
                case rel =>
                  obtain ⟨b3, c3_, hv3, _, _⟩ := World.ownsRow.form HPU.out.m3.o2 (by omega)
                  injection hv3 with f1_ _ f3_
                  subst f1_ f3_
                  refine ⟨j + 1, n2 + 1, b3, e3, by go_num, by omega, by omega, ?_, ?_⟩
                  · show _ = _
                    rw [HA1.out, List.length_append, ← HN2.out]; rfl
                  · show Out _ _ _ _ _ _ _ _ _ _ _ _ _ _ _ _ _ _ _ _
                    rw [HA1.out, HTB.out]
                    exact HPU.out
              refine AllReadyH.cons rfl (fun K hK => ?_) AllReadyH.nil
              · go_simp
                refine hK.out _ _ (HSx.out _ (fun b hb1 hb2 hb3 => Below.heap_alloc y _ b hb1)) (fun hHeld => ?_)
                clear hK K
                try simp only [Act.put, List.setIfInBounds_toArray, List.set_cons_zero, List.set_cons_succ]
                refine wpAnyH_ready (rs := [1]) (by kernel_rfl) (by simp) ?_
                refine AllReadyH.cons rfl (fun K hK => ?_) AllReadyH.nil
                go_simp
                refine hK.out _ _ (HSx.out _ (fun b hb1 hb2 hb3 => Below.heap_alloc y _ b hb1)) (fun hHeld => ?_)
                clear hK K
                try simp only [Act.put, List.setIfInBounds_toArray, List.set_cons_zero, List.set_cons_succ]
                refine wpAnyH_ready (rs := [18]) (by kernel_rfl) (by simp) ?_
                refine AllReadyH.cons rfl (fun K hK => ?_) AllReadyH.nil
                refine step_cells_push rfl (.tmp 99) (.tmp 115) _ rfl lo 62 (.agg #[.int .i64 0, .int .i64 0, .int .i64 0, .int .i64 0]) 4 32 Try.underlying25 infoAr rfl (by omega) (by omega) (Value.slice (some ⟨b2, 0, none⟩) n2 e2) n2 (fa (tmA ah bh L j)) ?_ HOA.out.m3.o2 y.heap.size 0 1 1 [.int .i64 m1, .int .i64 m2, .int .i64 a2, .int .i64 a3] ?_ rfl HNEW.out (fa_one [(m1, m2, a2, a3)]) ROOM.out HOA.out.m3.size ?_
                rfl
                rfl
                intro B3 e3 wv hown hgr hbl hat
                have hrw := HOA.out.m3.row.grown hgr (fun e => ((HOA.out.m3.d2 gx e.symm).1) rfl)
                have y0 := hrw.cell 2
                have y1 := hrw.frozen 2
                have HQv : Hid (∀ b, b < y.heap.size → b ≠ gx → (Value.slice (some ⟨b2, 0, none⟩) n2 e2).ownBlock ≠ some b → wv.heap[b]? = y.heap[b]?) := fun b hb1 hb2 hb3 => (hgr.block b (by show b < (y.alloc (.cells ([.int .i64 m1, .int .i64 m2, .int .i64 a2, .int .i64 a3] : List Value).toArray 62)).heap.size; simp; omega) (fun e => hb3 e.symm)).trans (Below.heap_alloc y _ b hb1)
                have HPU : Hid (Out w4 (wv.setCell ⟨gx, 2, none⟩ (.slice B3 (n2 + 1) e3)) nb g6 k c6 lo gx (tmR ah bh k k) n3 T (.slice B3 (n2 + 1) e3) (.slice A3 n3 d3) (.slice A4 n3 d4) (n2 + 1) n3 n3 (tmA ah bh L j ++ [(m1, m2, a2, a3)]) (tmX ah bh P k) (tmX ah bh E k)) := HOA.out.push2 (by first | (rw [iv_append]; exact hown) | (rw [fa_append]; exact hown)) hgr hat
                clear hown hgr hbl hat hrw
                refine hK.out _ _ (HSx.out _ HQv.out) (fun hHeld => ?_)
                clear hK K
                try simp only [Act.put, List.setIfInBounds_toArray]
                refine wpAnyH_take (i := 19) (v := ?_) rfl (by kernel_rfl) (by kernel_rfl) (by kernel_rfl) (fun _ _ _ h => h) (Or.inl ⟨by rfl, ?_⟩) (by assumption) ?_
                rotate_left
                · intro w9 hSw; (try dsimp only at hSw); go_simp; first | done | (with_reducible rfl)
                try simp only [Act.put]
                refine wpAnyH_ready (rs := [20]) (by kernel_rfl) (by simp) ?_
                refine AllReadyH.cons rfl (fun K hK => ?_) AllReadyH.nil
                go_simp
                refine hK.out _ _ (HSx.out _ (fun b hb1 hb2 hb3 => (Below.heap_setCell wv ⟨gx, 2, none⟩ _ b hb2).trans (HQv.out b hb1 hb2 hb3))) (fun hHeld => ?_)
                clear hK K
                try simp only [Act.put, List.setIfInBounds_toArray, List.set_cons_zero, List.set_cons_succ]
                refine wpAnyH_done (by kernel_rfl) ?_ _
                clear y0 y1 e5 cA2
                go_wp2_with fail
                go_roundg (gk - 1)
                case measure => omega
                case rel =>
                  obtain ⟨b3, c3_, hv3, _, _⟩ := World.ownsRow.form HPU.out.m3.o2 (by omega)
                  injection hv3 with f1_ _ f3_
                  subst f1_ f3_
                  refine ⟨j + 1, n2 + 1, b3, e3, by go_num, by omega, by omega, ?_, ?_⟩
                  · show _ = _
                    rw [HA1.out, List.length_append, ← HN2.out]; rfl
                  · show Out _ _ _ _ _ _ _ _ _ _ _ _ _ _ _ _ _ _ _ _
                    rw [HA1.out, HTB.out]
                    exact HPU.out

            · have hp3 : m2 < 0 := by omega
              clear hp2
              have hto : tmO ah bh ((fn : Int), (tn : Int), a2, a3) = false := by rw [HTM.out]; simp; omega
              have HA0 := Lib.hid (tmA_no HX.out hto)
              clear hto
              go_wp2_with fail
              go_roundg (gk - 1)
              case measure => omega
              case rel => exact ⟨j + 1, n2, _, _, by go_num, by omega, by omega, by show _ = _; rw [HA0.out]; exact HN2.out, by show Out _ _ _ _ _ _ _ _ _ _ _ _ _ _ _ _ _ _ _ _; rw [HA0.out]; exact HOy.out⟩

          · have hp3 : m1 < 0 := by omega
            clear hp1
            have hto : tmO ah bh ((fn : Int), (tn : Int), a2, a3) = false := by rw [HTM.out]; simp; omega
            have HA0 := Lib.hid (tmA_no HX.out hto)
            clear hto
            go_wp2_with fail
            go_roundg (gk - 1)
            case measure => omega
            case rel => exact ⟨j + 1, n2, _, _, by go_num, by omega, by omega, by show _ = _; rw [HA0.out]; exact HN2.out, by show Out _ _ _ _ _ _ _ _ _ _ _ _ _ _ _ _ _ _ _ _; rw [HA0.out]; exact HOy.out⟩

        · have hjL : j = L.length := by omega
          have l1 : ¬ (j : Int) < (L.length : Int) := by omega
          subst hjL
          clear hlt hj hm
          obtain ⟨w5, rfl⟩ : ∃ x : World, x = wo := ⟨_, rfl⟩
          have eC : tmC ah bh k = tmS L P E := by rw [HAH.out, HBH.out]; unfold tmS; rw [HPS.out]
          have eL : tmA ah bh L L.length = tmL L P E := by rw [HAH.out, HBH.out]; rfl
          have eP : tmX ah bh P k = tmPp L P E := by rw [HAH.out, HBH.out]; unfold tmPp; rw [HPS.out]
          have eE : tmX ah bh E k = tmEe L P E := by rw [HAH.out, HBH.out]; unfold tmEe; rw [HPS.out]
          have e3 : n3 = tmS L P E := by rw [HN.out, eC]
          have ho := HO.out
          rw [eL, eP, eE] at ho
          have e2' : n2 = (tmL L P E).length := by rw [HN2.out, eL]
          have hst : n3 = (tmPp L P E).length := by rw [tmPp_len]; exact e3
          have hen : n3 = (tmEe L P E).length := by rw [tmEe_len]; exact e3
          have hva := HVA.out
          rw [← e3] at hva
          have hT := sTidy_any b2 0 n2 e2 (tmL L P E) w5 (ow_slAS ho.m3.o2 e2') (by omega)
          have RES5 := ho.old RES.out (by have := LTS.out; omega) (by have := LTS.out; omega)
          have hb5 : Below w.heap.size w w5 := BX.out.trans (ho.fr.bel (by have := LTS.out; omega) (by have := LTS.out; omega))
          have q2 := ho.m3.row.cell 2
          have h3n : n3 ≤ 16 := by have := tmS_le L P E; have := HPS.out; omega
          have HM := Lib.hid ho.m3; have RES5 := Lib.hid RES5; have HB5 := Lib.hid hb5; have E3 := Lib.hid e3; have HVA3 := Lib.hid hva; have HST := Lib.hid hst; have HEN := Lib.hid hen
          have hn2m : (tdy (tmL L P E)).length ≤ 128 := by have := tdy_len (tmL L P E); have := tmL_len L P E; omega
          clear ho hb5 hva eC eL eP eE e2' hst hen e3
          go_wp2_with fail
          clear q2 b2c
          refine hT.mono ?_
          clear hT
          rintro e w6 ⟨A7, c7, rfl, ho7, hb6⟩
          have r6 := HM.out.row.below hb6 HM.out.row.lt
          have o36 := ow_keep HM.out.o3 hb6 (Nat.le_refl _)
          have o46 := ow_keep HM.out.o4 hb6 (Nat.le_refl _)
          have RES6 := RES5.out.below hb6 RES5.out.lt
          have y2 := r6.cell 2; have yf := r6.frozen 2
          have HR6 := Lib.hid r6; have HO7 := Lib.hid ho7; have HO3 := Lib.hid o36; have HO4 := Lib.hid o46; have HRES6 := Lib.hid RES6
          have HB6 := Lib.hid (HB5.out.trans (hb6.mono HB5.out.size)); have SZ6 := Lib.hid hb6.size
          clear r6 ho7 o36 o46 RES6 hb6
          go_upto_region 22 with fail
          clear y2 yf
          have r7 := HR6.out.set_ 2 (.slice A7 (tdy (tmL L P E)).length c7)
          have hgx5 : gx < w5.heap.size := HM.out.row.lt
          have o77 : (w6.setCell ⟨gx, 2, none⟩ (.slice A7 (tdy (tmL L P E)).length c7)).ownsRow w5.heap.size 62 4 (.slice A7 (tdy (tmL L P E)).length c7) (tdy (tmL L P E)).length (fa (tdy (tmL L P E))) := own_move HO7.out (fun q hq => Below.heap_setCell w6 ⟨gx, 2, none⟩ _ q (show q ≠ gx by have := (HO7.out.lt q hq).1; omega))
          have o37 : (w6.setCell ⟨gx, 2, none⟩ (.slice A7 (tdy (tmL L P E)).length c7)).ownsRow lo 2 1 (.slice A3 n3 d3) n3 (iv (tmPp L P E)) := own_move HO3.out (fun q hq => Below.heap_setCell w6 ⟨gx, 2, none⟩ _ q (HM.out.d3 q hq).1)
          have o47 : (w6.setCell ⟨gx, 2, none⟩ (.slice A7 (tdy (tmL L P E)).length c7)).ownsRow lo 2 1 (.slice A4 n3 d4) n3 (iv (tmEe L P E)) := own_move HO4.out (fun q hq => Below.heap_setCell w6 ⟨gx, 2, none⟩ _ q (HM.out.d4 q hq))
          have RES7 := HRES6.out.far (p := ⟨gx, 2, none⟩) (show w.heap.size + 1 ≠ gx by have := LTS.out; omega) (.slice A7 (tdy (tmL L P E)).length c7)
          have hb7 := HB6.out.setCell (p := ⟨gx, 2, none⟩) (show w.heap.size ≤ gx by have := LTS.out; omega) (.slice A7 (tdy (tmL L P E)).length c7)
          have hs7 : (w6.setCell ⟨gx, 2, none⟩ (.slice A7 (tdy (tmL L P E)).length c7)).heap.size = w6.heap.size := by simp [World.setCell]
          obtain ⟨w7, hw7⟩ : ∃ x, x = w6.setCell ⟨gx, 2, none⟩ (.slice A7 (tdy (tmL L P E)).length c7) := ⟨_, rfl⟩
          change Code.wp _ _ _ _ (w6.setCell ⟨gx, 2, none⟩ (.slice A7 (tdy (tmL L P E)).length c7))
          rw [← hw7] at r7 o77 o37 o47 RES7 hb7 hs7
          rw [← hw7]
          have hlo5 : lo ≤ w5.heap.size := HM.out.size
          have hG := sGiveG lo (n3 : Int) T (tdy (tmL L P E)) (tmPp L P E) (tmEe L P E) A7 _ c7 A3 n3 d3 A4 n3 d4 w7 (World.ownsRow.mono o77 hlo5) o37 o47 rfl HST.out.symm HEN.out.symm (by omega) (by omega) (by omega)
          rw [HVA3.out] at hG
          have z0 := r7.cell 0; have z1 := r7.cell 1; have z2 := r7.cell 2; have z3 := r7.cell 3; have z4 := r7.cell 4
          simp only [List.set_cons_succ, List.set_cons_zero, List.getElem?_cons_succ, List.getElem?_cons_zero] at z0 z1 z2 z3 z4
          have HG := Lib.hid hG; have O77 := Lib.hid o77; have O37 := Lib.hid o37; have O47 := Lib.hid o47; have HRES7 := Lib.hid RES7; have HB7 := Lib.hid hb7
          have SZ7 : Hid (w5.heap.size ≤ w7.heap.size) := by have := SZ6.out; show _ ≤ _; omega
          clear r7 o77 o37 o47 RES7 hb7 hs7 hw7 hG HRES6 HR6 HO7 HO3 HO4
          go_wp2_with fail
          clear z0 z1 z2 z3 z4
          refine HG.out.mono ?_
          rintro e w8 ⟨bk, hbk, rfl, hb8⟩
          have RES8 := HRES7.out.below hb8 HRES7.out.lt
          have r0 := RES8.cell 0; have r1 := RES8.cell 1; have r2 := RES8.cell 2; have r3 := RES8.cell 3; have r4 := RES8.cell 4
          have f0 := RES8.frozen 0; have f1 := RES8.frozen 1; have f2_ := RES8.frozen 2; have f3_ := RES8.frozen 3; have f4_ := RES8.frozen 4
          have p7 := ow_keep O77.out hb8 (Nat.le_refl _); have p3_ := ow_keep O37.out hb8 (Nat.le_refl _); have p4_ := ow_keep O47.out hb8 (Nat.le_refl _)
          have RES8 := Lib.hid RES8; have P7 := Lib.hid p7; have P3 := Lib.hid p3_; have P4 := Lib.hid p4_; have HB8 := Lib.hid (HB7.out.trans (hb8.mono HB7.out.size)); have BK := Lib.hid hbk
          have SZ8 : Hid (w5.heap.size ≤ w8.heap.size) := Nat.le_trans SZ7.out hb8.size
          clear p7 p3_ p4_ hb8 hbk HG
          go_wp2_with fail
          clear r0 r1 r2 r3 r4 f0 f1 f2_ f3_ f4_
          have hF := (((((RES8.out.set_ 0 (.int .i64 (ckI bk (n3 : Int)))).set_ 1 (.int .i64 (ckI bk T))).set_ 2 (.slice (ckA bk A7) (ckN bk (tdy (tmL L P E)).length) (ckN bk c7))).set_ 3 (.slice (ckA bk A3) (ckN bk n3) (ckN bk d3))).set_ 4 (.slice (ckA bk A4) (ckN bk n3) (ckN bk d4)))
          refine bodyPost_ret (results_cell2 rfl _ _ (w.heap.size + 1) 28 #[.int .i64 (ckI bk (n3 : Int)), .int .i64 (ckI bk T), .slice (ckA bk A7) (ckN bk (tdy (tmL L P E)).length) (ckN bk c7), .slice (ckA bk A3) (ckN bk n3) (ckN bk d3), .slice (ckA bk A4) (ckN bk n3) (ckN bk d4)] (0, 0) _ (.bool bk) rfl rfl hF Try.underlying28 rfl (by kernel_rfl)) rfl ?_
          have keepF : ∀ q, q ≠ w.heap.size + 1 → (((((w8.setCell ⟨w.heap.size + 1, 0, none⟩ (.int .i64 (ckI bk (n3 : Int)))).setCell ⟨w.heap.size + 1, 1, none⟩ (.int .i64 (ckI bk T))).setCell ⟨w.heap.size + 1, 2, none⟩ (.slice (ckA bk A7) (ckN bk (tdy (tmL L P E)).length) (ckN bk c7))).setCell ⟨w.heap.size + 1, 3, none⟩ (.slice (ckA bk A3) (ckN bk n3) (ckN bk d3))).setCell ⟨w.heap.size + 1, 4, none⟩ (.slice (ckA bk A4) (ckN bk n3) (ckN bk d4))).heap[q]? = w8.heap[q]? := fun q hq => heap_set5 _ _ _ _ _ hq
          have hBF := (((((HB8.out.setCell (p := ⟨w.heap.size + 1, 0, none⟩) (show w.heap.size ≤ w.heap.size + 1 by omega) (.int .i64 (ckI bk (n3 : Int)))).setCell (p := ⟨w.heap.size + 1, 1, none⟩) (show w.heap.size ≤ w.heap.size + 1 by omega) (.int .i64 (ckI bk T))).setCell (p := ⟨w.heap.size + 1, 2, none⟩) (show w.heap.size ≤ w.heap.size + 1 by omega) (.slice (ckA bk A7) (ckN bk (tdy (tmL L P E)).length) (ckN bk c7))).setCell (p := ⟨w.heap.size + 1, 3, none⟩) (show w.heap.size ≤ w.heap.size + 1 by omega) (.slice (ckA bk A3) (ckN bk n3) (ckN bk d3))).setCell (p := ⟨w.heap.size + 1, 4, none⟩) (show w.heap.size ≤ w.heap.size + 1 by omega) (.slice (ckA bk A4) (ckN bk n3) (ckN bk d4)))
          obtain ⟨F, hFF⟩ : ∃ F, F = (((((w8.setCell ⟨w.heap.size + 1, 0, none⟩ (.int .i64 (ckI bk (n3 : Int)))).setCell ⟨w.heap.size + 1, 1, none⟩ (.int .i64 (ckI bk T))).setCell ⟨w.heap.size + 1, 2, none⟩ (.slice (ckA bk A7) (ckN bk (tdy (tmL L P E)).length) (ckN bk c7))).setCell ⟨w.heap.size + 1, 3, none⟩ (.slice (ckA bk A3) (ckN bk n3) (ckN bk d3))).setCell ⟨w.heap.size + 1, 4, none⟩ (.slice (ckA bk A4) (ckN bk n3) (ckN bk d4))) := ⟨_, rfl⟩
          rw [← hFF] at keepF hBF ⊢
          clear hF hFF
          have hl := LTS.out
          have m7 : F.ownsRow w5.heap.size 62 4 (.slice A7 (tdy (tmL L P E)).length c7) (tdy (tmL L P E)).length (fa (tdy (tmL L P E))) := own_move P7.out (fun q hq => keepF q (by have := (P7.out.lt q hq).1; omega))
          have m3 : F.ownsRow lo 2 1 (.slice A3 n3 d3) n3 (iv (tmPp L P E)) := own_move P3.out (fun q hq => keepF q (by have := (P3.out.lt q hq).1; omega))
          have m4 : F.ownsRow lo 2 1 (.slice A4 n3 d4) n3 (iv (tmEe L P E)) := own_move P4.out (fun q hq => keepF q (by have := (P4.out.lt q hq).1; omega))
          have hm3 := HM.out.o3; have hm4 := HM.out.o4; have hd3 := HM.out.d3
          have hfin : McO F w.heap.size F.heap.size (.agg #[.int .i64 (n3 : Int), .int .i64 T, .slice A7 (tdy (tmL L P E)).length c7, .slice A3 n3 d3, .slice A4 n3 d4]) (n3 : Int) T (tdy (tmL L P E)) (tmPp L P E) (tmEe L P E) := by
            refine ⟨_, _, _, rfl, OwnV.of (World.ownsRow.mono m7 (by omega)), ?_, ?_, fun q h h' => ?_, fun q h h' => ?_, fun q h => (hd3 q h).2⟩
            · have := OwnV.of (World.ownsRow.mono m3 (show w.heap.size ≤ lo by omega)); rw [HST.out] at this ⊢; exact this
            · have := OwnV.of (World.ownsRow.mono m4 (show w.heap.size ≤ lo by omega)); rw [HEN.out] at this ⊢; exact this
            · have := (m7.lt q h).1; have := (hm3.lt q h').2; omega
            · have := (m7.lt q h).1; have := (hm4.lt q h').2; omega
          have hfin2 := ckO bk hfin
          rw [ckV_agg] at hfin2
          refine ⟨_, by rw [HTO.out, ← E3.out, ← BK.out], ?_, hBF⟩
          rw [HTO.out, ← E3.out, ← BK.out]
          exact hfin2


end Go.Proofs.Ytegponioggpkcaa
