/- The reading of a pattern: the program. -/
import Derived.Test.YtpmklldochpnlaaDoorHyP
import Derived.Test.YtpmklldochpnlaaDoorMgd
import Derived.Deep.LoopGhost

namespace Go.Proofs.YtpmklldochpnlaaDoor
open Go.RowKit Go.PlainAid
set_option linter.unusedVariables false
theorem iDigit_any (c : UInt8) (w : World) : Calls Tryd.prog 25 #[.int .u8 (c.toNat : Int)] w fun e w' => e = .returned (.bool (isDig c)) ∧ w = w' := by
  by_cases h1 : 48 ≤ (c.toNat : Int)
  · by_cases h2 : (c.toNat : Int) ≤ 57
    · have H := Lib.hid (show isDig c = true from decide_eq_true ⟨h1, h2⟩)
      go_enter Tryd.func25, Tryd.ntmps25
      go_wp2_with fail
      go_ret
      exact ⟨ret_bool H.out.symm, rfl⟩
    · have H := Lib.hid (show isDig c = false from decide_eq_false (fun h => h2 h.2))
      have h3 : 57 < (c.toNat : Int) := by omega
      have h4 : decide ((c.toNat : Int) ≤ 57) = false := decide_eq_false h2
      clear h2
      go_enter Tryd.func25, Tryd.ntmps25
      go_wp2_with fail
      go_ret
      first | exact ⟨ret_bool H.out.symm, rfl⟩ | exact ⟨ret_bool (h4.trans H.out.symm), rfl⟩
  · have H := Lib.hid (show isDig c = false from decide_eq_false (fun h => h1 h.1))
    have h3 : (c.toNat : Int) < 48 := by omega
    clear h1
    go_enter Tryd.func25, Tryd.ntmps25
    go_wp2_with fail
    go_ret
    exact ⟨ret_bool H.out.symm, rfl⟩
theorem u8_wrap48 {c : UInt8} (h : isDig c = true) : IntKind.u8.wrap ((c.toNat : Int) - 48) = (c.toNat : Int) - 48 := by
  have := isDig_bd h; exact IntWalk.u8_in _ (by omega)
theorem u8_ne46 {c : UInt8} (h : c ≠ 46) : ((c.toNat : Int) != 46) = true := by
  have h2 : ((c.toNat : Int) == 46) = false := u8neH (n := 46) (by decide) h
  simp only [bne, h2]; rfl
theorem own_monoH {w : World} {lo lo' sz n : Nat} {t : TypeId} {v : Value} {xs : List Value} (h : w.ownsRow lo t sz v n xs) (hl : lo' ≤ lo) : w.ownsRow lo' t sz v n xs := by
  obtain ⟨h1, h2⟩ := h
  refine ⟨h1, ?_⟩
  rcases h2 with h2 | ⟨g, cap, cur, e, hb', rest⟩
  · exact .inl h2
  · exact .inr ⟨g, cap, cur, e, Nat.le_trans hl hb', rest⟩
set_option maxRecDepth 100000 in
set_option maxHeartbeats 8000000 in
theorem iPattern_any (p : ByteArray) (hp : p.size ≤ 4294967000) (w : World) :
    Calls Tryd.prog 36 #[.string p] w fun e w' => ∃ s v, e = .returned (.tuple #[.agg #[.string s, v], .bool (hyK p)]) ∧ HyI w' w.heap.size p s v ∧ (∃ A m c, v = .slice A m c) ∧ Below w.heap.size w w' := by
  have hg := get_b8 p
  obtain ⟨x0, hx0⟩ : ∃ x, x = w.alloc (.cells ([.string ⟨#[]⟩, .slice none 0 0] : List Value).toArray 50) := ⟨_, rfl⟩
  have RR := Lib.hid (show Row x0 w.heap.size 50 [.string ⟨#[]⟩, .slice none 0 0] by rw [hx0]; exact Row.new w 50 [.string ⟨#[]⟩, .slice none 0 0])
  have BX := Lib.hid (show Below w.heap.size w x0 by rw [hx0]; exact (Below.refl _ _).alloc (Nat.le_refl _) _)
  have HS0 : x0.heap.size = w.heap.size + 1 := by rw [hx0]; simp
  have hm0 := Row.new x0 50 [.string ⟨#[]⟩, .slice none 0 0]
  have hm1 : H2 x0 ((x0.alloc (.cells ([.string ⟨#[]⟩, .slice none 0 0] : List Value).toArray 50)).alloc (.cells #[] 5)) (w.heap.size + 1) (w.heap.size + 1) 50 5 (.string ⟨#[]⟩) (.slice (some ⟨w.heap.size + 2, 0, none⟩) 0 0) (.slice none 0 0) 0 0 [] [] := by
    have hsz : (x0.alloc (.cells ([.string ⟨#[]⟩, .slice none 0 0] : List Value).toArray 50)).heap.size = w.heap.size + 2 := by simp [HS0]
    rw [HS0] at hm0
    have hmade := OwnB.made (x0.alloc (.cells ([.string ⟨#[]⟩, .slice none 0 0] : List Value).toArray 50)) (w.heap.size + 1) (by omega)
    rw [hsz] at hmade
    exact ⟨hm0.alloc _, ((Below.refl _ _).alloc (by omega) _).alloc (by omega) _, Nat.le_refl _, by omega, hmade, World.ownsRow_nil _ _ _ _, fun k hk => ⟨by simp [Value.ownBlock] at hk; omega, by simp [Value.ownBlock]⟩, fun k hk => by simp [Value.ownBlock] at hk⟩
  have HM1 := Lib.hid hm1; clear hm1 hm0
  go_enter Tryd.func36, Tryd.ntmps36
  go_wp2_with fail
  go_loopg [5, 6, 7] (p.size + 1) (fun m ls si u7 wr => ∃ (i : Nat) (L : List UInt8) (D : List Int) (g5 c5 : Nat) (A1 : Option Addr) (c1 : Nat), ls = .slice (some ⟨g5, 0, none⟩) L.length c5 ∧ si = .int .i64 i ∧ i ≤ p.size ∧ p.size + 1 ≤ m + i ∧ L.length ≤ i ∧ D.length ≤ i ∧ Hid (HyAt p i L D 0 true) ∧ Hid (H2 x0 wr (w.heap.size + 1) (w.heap.size + 1) 50 5 (.string ⟨#[]⟩) (.slice (some ⟨g5, 0, none⟩) L.length c5) (.slice A1 D.length c1) L.length D.length (bvs L) (uv D)))
  case atStart => exact ⟨0, [], [], w.heap.size + 2, 0, none, 0, rfl, rfl, by omega, by omega, by simp, by simp, HyAt.first p, by have h := HM1.out; rw [hx0] at h ⊢; exact h⟩
  case round =>
    obtain ⟨i, L, D, g5, c5, A1, c1, rfl, rfl, hi, hm, hL, hD, HA, HM⟩ := hrel
    have HSZ := Lib.hid HM.out.size
    have c0 := HM.out.row.cell 1
    by_cases hlt : i < p.size ∧ isDig (b8 p i) = true
    · obtain ⟨hlt, hdg⟩ := hlt
      have l1 : (0 : Int) ≤ (i : Int) := by omega
      have HB := Lib.hid (HA.out.dig hlt hdg)
      have hw8 := u8_wrap48 hdg
      have HDG := Lib.hid hdg
      have hdb := isDig_bd hdg
      have hiD := iDigit_any (b8 p i)
      by_cases hj : i + 1 < p.size
      · have l3 : (i : Int) + 1 < (p.size : Int) := by omega
        have n3 : ((i : Int) + 1).toNat = i + 1 := by omega
        have n4 : ((i : Int) + 1 == (p.size : Int)) = false := by simp; omega
        have l4 : (0 : Int) ≤ (i : Int) + 1 := by omega
        cases hl : hyLet (b8 p (i + 1)) with
        | true =>
          have HA' := Lib.hid (HB.out.letr hj (isDig_no hl) hl)
          have hl2 := hl
          unfold hyLet at hl2
          rw [Bool.or_eq_true] at hl2
          by_cases hq : isLet (b8 p (i + 1)) = true
          · have hb := isLet_bd hq
            have hb2 : (((b8 p (i + 1)).toNat : Int) != 46) = true := u8_ne46 (fun e => by rw [e] at hb; simp at hb)
            clear hl hl2 hq
            go_wp2_with (first | (go_at_call 25; refine (iDigit_any _ _).mono ?_; rintro e w' ⟨rfl, hw⟩; subst hw) | (at_builtin; refine wpList_push wr rfl (.tmp 28) (.tmp 31) _ rfl (w.heap.size + 1) 5 (.int .u8 0) 1 Tryd.underlying25 infoB8 rfl (.slice A1 D.length c1) D.length (uv D) rfl HM.out.o2 (.int .u8 (((b8 p i).toNat : Int) - 48)) rfl rfl (by omega) (by omega) HSZ.out ?_; intro ga ca wa hown hgr hat hlt' hcap; rw [← uv_snoc] at hown; have HMa := Lib.hid (H2.push2 HM.out hown hgr hat); have hrow := HM.out.row.grown hgr (fun e => HM.out.d2 _ e.symm rfl); have cz := hrow.cell 1; have fz := hrow.frozen 1; have HSa := Lib.hid HMa.out.size; have hzz := Lib.hid (show (Value.slice (some ⟨wa.heap.size, 0, none⟩) 1 1) = .slice (some ⟨(wa.setCell ⟨w.heap.size + 1, 1, none⟩ (.slice (some ⟨ga, 0, none⟩) (D.length + 1) ca)).heap.size, 0, none⟩) 1 1 by simp); have RRa := RR.out.below HMa.out.bel (Nat.lt_succ_self _); have q0 := RRa.cell 0; have q1 := RRa.cell 1; have p0 := RRa.frozen 0; have p1 := RRa.frozen 1; have y0 := HMa.out.row.cell 0; have y1 := HMa.out.row.cell 1; have v0 := HMa.out.row.frozen 0; have hstr := holds_string (c := c5) (OwnB.holds HMa.out.o1); clear hown hgr hat hlt' hcap hrow RRa) | (at_builtin; refine wpList_push (wa.setCell ⟨w.heap.size + 1, 1, none⟩ (.slice (some ⟨ga, 0, none⟩) (D.length + 1) ca)) rfl (.tmp 55) (.tmp 59) _ rfl (w.heap.size + 1) 5 (.int .u8 0) 1 Tryd.underlying25 infoB8 rfl (.slice (some ⟨g5, 0, none⟩) L.length c5) L.length (bvs L) rfl HMa.out.o1 (.int .u8 ((b8 p (i + 1)).toNat : Int)) hzz.out rfl (by omega) (by omega) HSa.out ?_; intro gb cb wb hown hgr hat hlt' hcap; rw [← bvs_snoc] at hown; have HMb := Lib.hid (H2.push1 HMa.out hown hgr hat); clear hown hgr hat hlt' hcap))
            go_roundg (gk - 1)
            case measure => omega
            case rel => exact ⟨i + 1 + 1, L ++ [b8 p (i + 1)], D ++ [dg (b8 p i)], gb, cb, some ⟨ga, 0, none⟩, ca, by simp, by go_num, by omega, by omega, by simp; omega, by simp; omega, HA'.out, by have h := HMb.out; rw [show L.length + 1 = (L ++ [b8 p (i + 1)]).length by simp, show D.length + 1 = (D ++ [dg (b8 p i)]).length by simp] at h; exact h⟩
          · have h46 : b8 p (i + 1) = 46 := by
              rcases hl2 with h | h
              · exact absurd h hq
              · exact of_decide_eq_true h
            have hb : (((b8 p (i + 1)).toNat : Int) != 46) = false := by rw [h46]; rfl
            clear hl hl2 hq h46
            go_wp2_with (first | (go_at_call 25; refine (iDigit_any _ _).mono ?_; rintro e w' ⟨rfl, hw⟩; subst hw) | (at_builtin; refine wpList_push wr rfl (.tmp 28) (.tmp 31) _ rfl (w.heap.size + 1) 5 (.int .u8 0) 1 Tryd.underlying25 infoB8 rfl (.slice A1 D.length c1) D.length (uv D) rfl HM.out.o2 (.int .u8 (((b8 p i).toNat : Int) - 48)) rfl rfl (by omega) (by omega) HSZ.out ?_; intro ga ca wa hown hgr hat hlt' hcap; rw [← uv_snoc] at hown; have HMa := Lib.hid (H2.push2 HM.out hown hgr hat); have hrow := HM.out.row.grown hgr (fun e => HM.out.d2 _ e.symm rfl); have cz := hrow.cell 1; have fz := hrow.frozen 1; have HSa := Lib.hid HMa.out.size; have hzz := Lib.hid (show (Value.slice (some ⟨wa.heap.size, 0, none⟩) 1 1) = .slice (some ⟨(wa.setCell ⟨w.heap.size + 1, 1, none⟩ (.slice (some ⟨ga, 0, none⟩) (D.length + 1) ca)).heap.size, 0, none⟩) 1 1 by simp); have RRa := RR.out.below HMa.out.bel (Nat.lt_succ_self _); have q0 := RRa.cell 0; have q1 := RRa.cell 1; have p0 := RRa.frozen 0; have p1 := RRa.frozen 1; have y0 := HMa.out.row.cell 0; have y1 := HMa.out.row.cell 1; have v0 := HMa.out.row.frozen 0; have hstr := holds_string (c := c5) (OwnB.holds HMa.out.o1); clear hown hgr hat hlt' hcap hrow RRa) | (at_builtin; refine wpList_push (wa.setCell ⟨w.heap.size + 1, 1, none⟩ (.slice (some ⟨ga, 0, none⟩) (D.length + 1) ca)) rfl (.tmp 55) (.tmp 59) _ rfl (w.heap.size + 1) 5 (.int .u8 0) 1 Tryd.underlying25 infoB8 rfl (.slice (some ⟨g5, 0, none⟩) L.length c5) L.length (bvs L) rfl HMa.out.o1 (.int .u8 ((b8 p (i + 1)).toNat : Int)) hzz.out rfl (by omega) (by omega) HSa.out ?_; intro gb cb wb hown hgr hat hlt' hcap; rw [← bvs_snoc] at hown; have HMb := Lib.hid (H2.push1 HMa.out hown hgr hat); clear hown hgr hat hlt' hcap))
            go_roundg (gk - 1)
            case measure => omega
            case rel => exact ⟨i + 1 + 1, L ++ [b8 p (i + 1)], D ++ [dg (b8 p i)], gb, cb, some ⟨ga, 0, none⟩, ca, by simp, by go_num, by omega, by omega, by simp; omega, by simp; omega, HA'.out, by have h := HMb.out; rw [show L.length + 1 = (L ++ [b8 p (i + 1)]).length by simp, show D.length + 1 = (D ++ [dg (b8 p i)]).length by simp] at h; exact h⟩
        | false =>
          have HN := Lib.hid (hyK_none (if h : isDig (b8 p (i + 1)) = true then HB.out.dup hj h else HB.out.bad hj (by simpa using h) hl))
          have hl2 := hl
          unfold hyLet at hl2
          rw [Bool.or_eq_false_iff] at hl2
          have hb : (((b8 p (i + 1)).toNat : Int) != 46) = true := u8_ne46 (of_decide_eq_false hl2.2)
          have hl3 : ¬ (97 ≤ ((b8 p (i + 1)).toNat : Int) ∧ ((b8 p (i + 1)).toNat : Int) ≤ 122) := of_decide_eq_false hl2.1
          clear hl hl2
          by_cases k2 : ((b8 p (i + 1)).toNat : Int) < 97
          · clear hl3
            go_wp2_with (first | (go_at_call 25; refine (iDigit_any _ _).mono ?_; rintro e w' ⟨rfl, hw⟩; subst hw) | (at_builtin; refine wpList_push wr rfl (.tmp 28) (.tmp 31) _ rfl (w.heap.size + 1) 5 (.int .u8 0) 1 Tryd.underlying25 infoB8 rfl (.slice A1 D.length c1) D.length (uv D) rfl HM.out.o2 (.int .u8 (((b8 p i).toNat : Int) - 48)) rfl rfl (by omega) (by omega) HSZ.out ?_; intro ga ca wa hown hgr hat hlt' hcap; rw [← uv_snoc] at hown; have HMa := Lib.hid (H2.push2 HM.out hown hgr hat); have hrow := HM.out.row.grown hgr (fun e => HM.out.d2 _ e.symm rfl); have cz := hrow.cell 1; have fz := hrow.frozen 1; have HSa := Lib.hid HMa.out.size; have hzz := Lib.hid (show (Value.slice (some ⟨wa.heap.size, 0, none⟩) 1 1) = .slice (some ⟨(wa.setCell ⟨w.heap.size + 1, 1, none⟩ (.slice (some ⟨ga, 0, none⟩) (D.length + 1) ca)).heap.size, 0, none⟩) 1 1 by simp); have RRa := RR.out.below HMa.out.bel (Nat.lt_succ_self _); have q0 := RRa.cell 0; have q1 := RRa.cell 1; have p0 := RRa.frozen 0; have p1 := RRa.frozen 1; have y0 := HMa.out.row.cell 0; have y1 := HMa.out.row.cell 1; have v0 := HMa.out.row.frozen 0; have hstr := holds_string (c := c5) (OwnB.holds HMa.out.o1); clear hown hgr hat hlt' hcap hrow RRa) | (at_builtin; refine wpList_push (wa.setCell ⟨w.heap.size + 1, 1, none⟩ (.slice (some ⟨ga, 0, none⟩) (D.length + 1) ca)) rfl (.tmp 55) (.tmp 59) _ rfl (w.heap.size + 1) 5 (.int .u8 0) 1 Tryd.underlying25 infoB8 rfl (.slice (some ⟨g5, 0, none⟩) L.length c5) L.length (bvs L) rfl HMa.out.o1 (.int .u8 ((b8 p (i + 1)).toNat : Int)) hzz.out rfl (by omega) (by omega) HSa.out ?_; intro gb cb wb hown hgr hat hlt' hcap; rw [← bvs_snoc] at hown; have HMb := Lib.hid (H2.push1 HMa.out hown hgr hat); clear hown hgr hat hlt' hcap))
            have RRa := RR.out.below HMa.out.bel (Nat.lt_succ_self _)
            have hF := (RRa.set_ 0 (.string ⟨#[]⟩)).set_ 1 (.slice none 0 0)
            refine bodyPost_ret (results_cellH rfl _ _ w.heap.size 50 #[.string ⟨#[]⟩, .slice none 0 0] (0, 0) _ (.bool false) rfl rfl hF Tryd.underlying50 rfl (by kernel_rfl)) rfl ?_
            rw [HN.out]
            exact ⟨_, _, rfl, HyI.no HN.out, ⟨_, _, _, rfl⟩, ((BX.out.trans (HMa.out.bel.mono (by omega))).setCell (p := ⟨w.heap.size, 0, none⟩) (Nat.le_refl _) _).setCell (p := ⟨w.heap.size, 1, none⟩) (Nat.le_refl _) _⟩
          · have k3 : 97 ≤ ((b8 p (i + 1)).toNat : Int) := by omega
            have k4 : 122 < ((b8 p (i + 1)).toNat : Int) := by omega
            clear k2 hl3
            go_wp2_with (first | (go_at_call 25; refine (iDigit_any _ _).mono ?_; rintro e w' ⟨rfl, hw⟩; subst hw) | (at_builtin; refine wpList_push wr rfl (.tmp 28) (.tmp 31) _ rfl (w.heap.size + 1) 5 (.int .u8 0) 1 Tryd.underlying25 infoB8 rfl (.slice A1 D.length c1) D.length (uv D) rfl HM.out.o2 (.int .u8 (((b8 p i).toNat : Int) - 48)) rfl rfl (by omega) (by omega) HSZ.out ?_; intro ga ca wa hown hgr hat hlt' hcap; rw [← uv_snoc] at hown; have HMa := Lib.hid (H2.push2 HM.out hown hgr hat); have hrow := HM.out.row.grown hgr (fun e => HM.out.d2 _ e.symm rfl); have cz := hrow.cell 1; have fz := hrow.frozen 1; have HSa := Lib.hid HMa.out.size; have hzz := Lib.hid (show (Value.slice (some ⟨wa.heap.size, 0, none⟩) 1 1) = .slice (some ⟨(wa.setCell ⟨w.heap.size + 1, 1, none⟩ (.slice (some ⟨ga, 0, none⟩) (D.length + 1) ca)).heap.size, 0, none⟩) 1 1 by simp); have RRa := RR.out.below HMa.out.bel (Nat.lt_succ_self _); have q0 := RRa.cell 0; have q1 := RRa.cell 1; have p0 := RRa.frozen 0; have p1 := RRa.frozen 1; have y0 := HMa.out.row.cell 0; have y1 := HMa.out.row.cell 1; have v0 := HMa.out.row.frozen 0; have hstr := holds_string (c := c5) (OwnB.holds HMa.out.o1); clear hown hgr hat hlt' hcap hrow RRa) | (at_builtin; refine wpList_push (wa.setCell ⟨w.heap.size + 1, 1, none⟩ (.slice (some ⟨ga, 0, none⟩) (D.length + 1) ca)) rfl (.tmp 55) (.tmp 59) _ rfl (w.heap.size + 1) 5 (.int .u8 0) 1 Tryd.underlying25 infoB8 rfl (.slice (some ⟨g5, 0, none⟩) L.length c5) L.length (bvs L) rfl HMa.out.o1 (.int .u8 ((b8 p (i + 1)).toNat : Int)) hzz.out rfl (by omega) (by omega) HSa.out ?_; intro gb cb wb hown hgr hat hlt' hcap; rw [← bvs_snoc] at hown; have HMb := Lib.hid (H2.push1 HMa.out hown hgr hat); clear hown hgr hat hlt' hcap))
            have RRa := RR.out.below HMa.out.bel (Nat.lt_succ_self _)
            have hF := (RRa.set_ 0 (.string ⟨#[]⟩)).set_ 1 (.slice none 0 0)
            refine bodyPost_ret (results_cellH rfl _ _ w.heap.size 50 #[.string ⟨#[]⟩, .slice none 0 0] (0, 0) _ (.bool false) rfl rfl hF Tryd.underlying50 rfl (by kernel_rfl)) rfl ?_
            rw [HN.out]
            exact ⟨_, _, rfl, HyI.no HN.out, ⟨_, _, _, rfl⟩, ((BX.out.trans (HMa.out.bel.mono (by omega))).setCell (p := ⟨w.heap.size, 0, none⟩) (Nat.le_refl _) _).setCell (p := ⟨w.heap.size, 1, none⟩) (Nat.le_refl _) _⟩
      · have HJ : i + 1 = p.size := by omega
        have n4 : ((i : Int) + 1 == (p.size : Int)) = true := by simp; omega
        have hF := hyK_some (HB.out.fin HJ)
        have HF := Lib.hid hF
        by_cases k1 : 1 ≤ L.length
        · by_cases k2 : L.length ≤ 8
          · have HK : Hid (hyK p = true) := by show _ = _; rw [hF.1]; exact decide_eq_true ⟨k1, k2⟩
            have k1' : (1 : Int) ≤ (L.length : Int) := by omega
            have k2' : (L.length : Int) ≤ 8 := by omega
            clear hF
            go_wp2_with (first | (go_at_call 25; refine (iDigit_any _ _).mono ?_; rintro e w' ⟨rfl, hw⟩; subst hw) | (at_builtin; refine wpList_push wr rfl (.tmp 28) (.tmp 31) _ rfl (w.heap.size + 1) 5 (.int .u8 0) 1 Tryd.underlying25 infoB8 rfl (.slice A1 D.length c1) D.length (uv D) rfl HM.out.o2 (.int .u8 (((b8 p i).toNat : Int) - 48)) rfl rfl (by omega) (by omega) HSZ.out ?_; intro ga ca wa hown hgr hat hlt' hcap; rw [← uv_snoc] at hown; have HMa := Lib.hid (H2.push2 HM.out hown hgr hat); have hrow := HM.out.row.grown hgr (fun e => HM.out.d2 _ e.symm rfl); have cz := hrow.cell 1; have fz := hrow.frozen 1; have HSa := Lib.hid HMa.out.size; have hzz := Lib.hid (show (Value.slice (some ⟨wa.heap.size, 0, none⟩) 1 1) = .slice (some ⟨(wa.setCell ⟨w.heap.size + 1, 1, none⟩ (.slice (some ⟨ga, 0, none⟩) (D.length + 1) ca)).heap.size, 0, none⟩) 1 1 by simp); have RRa := RR.out.below HMa.out.bel (Nat.lt_succ_self _); have q0 := RRa.cell 0; have q1 := RRa.cell 1; have p0 := RRa.frozen 0; have p1 := RRa.frozen 1; have y0 := HMa.out.row.cell 0; have y1 := HMa.out.row.cell 1; have v0 := HMa.out.row.frozen 0; have hstr := holds_string (c := c5) (OwnB.holds HMa.out.o1); clear hown hgr hat hlt' hcap hrow RRa) | (at_builtin; refine wpList_push (wa.setCell ⟨w.heap.size + 1, 1, none⟩ (.slice (some ⟨ga, 0, none⟩) (D.length + 1) ca)) rfl (.tmp 55) (.tmp 59) _ rfl (w.heap.size + 1) 5 (.int .u8 0) 1 Tryd.underlying25 infoB8 rfl (.slice (some ⟨g5, 0, none⟩) L.length c5) L.length (bvs L) rfl HMa.out.o1 (.int .u8 ((b8 p (i)).toNat : Int)) hzz.out rfl (by omega) (by omega) HSa.out ?_; intro gb cb wb hown hgr hat hlt' hcap; rw [← bvs_snoc] at hown; have HMb := Lib.hid (H2.push1 HMa.out hown hgr hat); clear hown hgr hat hlt' hcap))
            have hwe : Row ((wa.setCell ⟨w.heap.size + 1, 1, none⟩ (.slice (some ⟨ga, 0, none⟩) (D.length + 1) ca)).setCell ⟨w.heap.size + 1, 0, none⟩ (.string ⟨L.toArray⟩)) w.heap.size 50 [.string ⟨#[]⟩, .slice none 0 0] := (RR.out.below HMa.out.bel (Nat.lt_succ_self _)).far (p := ⟨w.heap.size + 1, 0, none⟩) (by simp) _
            have hF2 := (hwe.set_ 0 (.string ⟨L.toArray⟩)).set_ 1 (.slice (some ⟨ga, 0, none⟩) (D.length + 1) ca)
            refine bodyPost_ret (results_cellH rfl _ _ w.heap.size 50 #[.string ⟨L.toArray⟩, (.slice (some ⟨ga, 0, none⟩) (D.length + 1) ca)] (0, 0) _ (.bool true) rfl (by simp <;> omega) hF2 Tryd.underlying50 rfl (by kernel_rfl)) rfl ?_
            rw [HK.out]
            refine ⟨_, _, rfl, ?_, ⟨_, _, _, rfl⟩, (((BX.out.trans (HMa.out.bel.mono (by omega))).setCell (p := ⟨w.heap.size + 1, 0, none⟩) (by simp) _).setCell (p := ⟨w.heap.size, 0, none⟩) (Nat.le_refl _) _).setCell (p := ⟨w.heap.size, 1, none⟩) (Nat.le_refl _) _⟩
            intro _
            refine ⟨by rw [HF.out.2.1], ?_⟩
            rw [HF.out.2.2]
            have h := HMa.out.o2
            have hb := fun k hk => HMa.out.d2 k hk
            rw [show (D ++ [dg (b8 p i)]).length = D.length + 1 by simp]
            refine own_moveH (own_monoH h (Nat.le_succ w.heap.size)) (fun k hk => ?_)
            have e1 : k ≠ w.heap.size + 1 := hb k hk
            have e2 : k ≠ w.heap.size := by have := (h.lt k hk).1; omega
            exact (Below.heap_setCell _ _ _ _ e2).trans ((Below.heap_setCell _ _ _ _ e2).trans (Below.heap_setCell _ _ _ _ e1))
          · have HK : Hid (hyK p = false) := by show _ = _; rw [hF.1]; exact decide_eq_false (fun h => k2 h.2)
            have k1' : (1 : Int) ≤ (L.length : Int) := by omega
            have k2' : 8 < (L.length : Int) := by omega
            clear hF k2
            go_wp2_with (first | (go_at_call 25; refine (iDigit_any _ _).mono ?_; rintro e w' ⟨rfl, hw⟩; subst hw) | (at_builtin; refine wpList_push wr rfl (.tmp 28) (.tmp 31) _ rfl (w.heap.size + 1) 5 (.int .u8 0) 1 Tryd.underlying25 infoB8 rfl (.slice A1 D.length c1) D.length (uv D) rfl HM.out.o2 (.int .u8 (((b8 p i).toNat : Int) - 48)) rfl rfl (by omega) (by omega) HSZ.out ?_; intro ga ca wa hown hgr hat hlt' hcap; rw [← uv_snoc] at hown; have HMa := Lib.hid (H2.push2 HM.out hown hgr hat); have hrow := HM.out.row.grown hgr (fun e => HM.out.d2 _ e.symm rfl); have cz := hrow.cell 1; have fz := hrow.frozen 1; have HSa := Lib.hid HMa.out.size; have hzz := Lib.hid (show (Value.slice (some ⟨wa.heap.size, 0, none⟩) 1 1) = .slice (some ⟨(wa.setCell ⟨w.heap.size + 1, 1, none⟩ (.slice (some ⟨ga, 0, none⟩) (D.length + 1) ca)).heap.size, 0, none⟩) 1 1 by simp); have RRa := RR.out.below HMa.out.bel (Nat.lt_succ_self _); have q0 := RRa.cell 0; have q1 := RRa.cell 1; have p0 := RRa.frozen 0; have p1 := RRa.frozen 1; have y0 := HMa.out.row.cell 0; have y1 := HMa.out.row.cell 1; have v0 := HMa.out.row.frozen 0; have hstr := holds_string (c := c5) (OwnB.holds HMa.out.o1); clear hown hgr hat hlt' hcap hrow RRa) | (at_builtin; refine wpList_push (wa.setCell ⟨w.heap.size + 1, 1, none⟩ (.slice (some ⟨ga, 0, none⟩) (D.length + 1) ca)) rfl (.tmp 55) (.tmp 59) _ rfl (w.heap.size + 1) 5 (.int .u8 0) 1 Tryd.underlying25 infoB8 rfl (.slice (some ⟨g5, 0, none⟩) L.length c5) L.length (bvs L) rfl HMa.out.o1 (.int .u8 ((b8 p (i)).toNat : Int)) hzz.out rfl (by omega) (by omega) HSa.out ?_; intro gb cb wb hown hgr hat hlt' hcap; rw [← bvs_snoc] at hown; have HMb := Lib.hid (H2.push1 HMa.out hown hgr hat); clear hown hgr hat hlt' hcap))
            have hwe : Row ((wa.setCell ⟨w.heap.size + 1, 1, none⟩ (.slice (some ⟨ga, 0, none⟩) (D.length + 1) ca)).setCell ⟨w.heap.size + 1, 0, none⟩ (.string ⟨L.toArray⟩)) w.heap.size 50 [.string ⟨#[]⟩, .slice none 0 0] := (RR.out.below HMa.out.bel (Nat.lt_succ_self _)).far (p := ⟨w.heap.size + 1, 0, none⟩) (by simp) _
            have hF2 := (hwe.set_ 0 (.string ⟨L.toArray⟩)).set_ 1 (.slice (some ⟨ga, 0, none⟩) (D.length + 1) ca)
            refine bodyPost_ret (results_cellH rfl _ _ w.heap.size 50 #[.string ⟨L.toArray⟩, (.slice (some ⟨ga, 0, none⟩) (D.length + 1) ca)] (0, 0) _ (.bool false) rfl (by simp <;> omega) hF2 Tryd.underlying50 rfl (by kernel_rfl)) rfl ?_
            rw [HK.out]
            refine ⟨_, _, rfl, HyI.no HK.out, ⟨_, _, _, rfl⟩, (((BX.out.trans (HMa.out.bel.mono (by omega))).setCell (p := ⟨w.heap.size + 1, 0, none⟩) (by simp) _).setCell (p := ⟨w.heap.size, 0, none⟩) (Nat.le_refl _) _).setCell (p := ⟨w.heap.size, 1, none⟩) (Nat.le_refl _) _⟩
        · have HK : Hid (hyK p = false) := by show _ = _; rw [hF.1]; exact decide_eq_false (fun h => k1 h.1)
          have k1' : (L.length : Int) < 1 := by omega
          clear hF k1
          go_wp2_with (first | (go_at_call 25; refine (iDigit_any _ _).mono ?_; rintro e w' ⟨rfl, hw⟩; subst hw) | (at_builtin; refine wpList_push wr rfl (.tmp 28) (.tmp 31) _ rfl (w.heap.size + 1) 5 (.int .u8 0) 1 Tryd.underlying25 infoB8 rfl (.slice A1 D.length c1) D.length (uv D) rfl HM.out.o2 (.int .u8 (((b8 p i).toNat : Int) - 48)) rfl rfl (by omega) (by omega) HSZ.out ?_; intro ga ca wa hown hgr hat hlt' hcap; rw [← uv_snoc] at hown; have HMa := Lib.hid (H2.push2 HM.out hown hgr hat); have hrow := HM.out.row.grown hgr (fun e => HM.out.d2 _ e.symm rfl); have cz := hrow.cell 1; have fz := hrow.frozen 1; have HSa := Lib.hid HMa.out.size; have hzz := Lib.hid (show (Value.slice (some ⟨wa.heap.size, 0, none⟩) 1 1) = .slice (some ⟨(wa.setCell ⟨w.heap.size + 1, 1, none⟩ (.slice (some ⟨ga, 0, none⟩) (D.length + 1) ca)).heap.size, 0, none⟩) 1 1 by simp); have RRa := RR.out.below HMa.out.bel (Nat.lt_succ_self _); have q0 := RRa.cell 0; have q1 := RRa.cell 1; have p0 := RRa.frozen 0; have p1 := RRa.frozen 1; have y0 := HMa.out.row.cell 0; have y1 := HMa.out.row.cell 1; have v0 := HMa.out.row.frozen 0; have hstr := holds_string (c := c5) (OwnB.holds HMa.out.o1); clear hown hgr hat hlt' hcap hrow RRa) | (at_builtin; refine wpList_push (wa.setCell ⟨w.heap.size + 1, 1, none⟩ (.slice (some ⟨ga, 0, none⟩) (D.length + 1) ca)) rfl (.tmp 55) (.tmp 59) _ rfl (w.heap.size + 1) 5 (.int .u8 0) 1 Tryd.underlying25 infoB8 rfl (.slice (some ⟨g5, 0, none⟩) L.length c5) L.length (bvs L) rfl HMa.out.o1 (.int .u8 ((b8 p (i)).toNat : Int)) hzz.out rfl (by omega) (by omega) HSa.out ?_; intro gb cb wb hown hgr hat hlt' hcap; rw [← bvs_snoc] at hown; have HMb := Lib.hid (H2.push1 HMa.out hown hgr hat); clear hown hgr hat hlt' hcap))
          have hwe : Row ((wa.setCell ⟨w.heap.size + 1, 1, none⟩ (.slice (some ⟨ga, 0, none⟩) (D.length + 1) ca)).setCell ⟨w.heap.size + 1, 0, none⟩ (.string ⟨L.toArray⟩)) w.heap.size 50 [.string ⟨#[]⟩, .slice none 0 0] := (RR.out.below HMa.out.bel (Nat.lt_succ_self _)).far (p := ⟨w.heap.size + 1, 0, none⟩) (by simp) _
          have hF2 := (hwe.set_ 0 (.string ⟨L.toArray⟩)).set_ 1 (.slice (some ⟨ga, 0, none⟩) (D.length + 1) ca)
          refine bodyPost_ret (results_cellH rfl _ _ w.heap.size 50 #[.string ⟨L.toArray⟩, (.slice (some ⟨ga, 0, none⟩) (D.length + 1) ca)] (0, 0) _ (.bool false) rfl (by simp <;> omega) hF2 Tryd.underlying50 rfl (by kernel_rfl)) rfl ?_
          rw [HK.out]
          refine ⟨_, _, rfl, HyI.no HK.out, ⟨_, _, _, rfl⟩, (((BX.out.trans (HMa.out.bel.mono (by omega))).setCell (p := ⟨w.heap.size + 1, 0, none⟩) (by simp) _).setCell (p := ⟨w.heap.size, 0, none⟩) (Nat.le_refl _) _).setCell (p := ⟨w.heap.size, 1, none⟩) (Nat.le_refl _) _⟩
    · by_cases hj : i < p.size
      · have hdg : isDig (b8 p i) = false := by
          cases h : isDig (b8 p i)
          · rfl
          · exact absurd ⟨hj, h⟩ hlt
        have l1 : (0 : Int) ≤ (i : Int) := by omega
        have n4 : ((i : Int) == (p.size : Int)) = false := by simp; omega
        clear hlt
        cases hl : hyLet (b8 p (i)) with
        | true =>
          have HA' := Lib.hid (HA.out.letr hj (isDig_no hl) hl)
          have hl2 := hl
          unfold hyLet at hl2
          rw [Bool.or_eq_true] at hl2
          by_cases hq : isLet (b8 p (i)) = true
          · have hb := isLet_bd hq
            have hb2 : (((b8 p (i)).toNat : Int) != 46) = true := u8_ne46 (fun e => by rw [e] at hb; simp at hb)
            clear hl hl2 hq
            go_wp2_with (first | (go_at_call 25; refine (iDigit_any _ _).mono ?_; rintro e w' ⟨rfl, hw⟩; subst hw) | (at_builtin; refine wpList_push wr rfl (.tmp 28) (.tmp 31) _ rfl (w.heap.size + 1) 5 (.int .u8 0) 1 Tryd.underlying25 infoB8 rfl (.slice A1 D.length c1) D.length (uv D) rfl HM.out.o2 (.int .u8 (0)) rfl rfl (by omega) (by omega) HSZ.out ?_; intro ga ca wa hown hgr hat hlt' hcap; rw [← uv_snoc] at hown; have HMa := Lib.hid (H2.push2 HM.out hown hgr hat); have hrow := HM.out.row.grown hgr (fun e => HM.out.d2 _ e.symm rfl); have cz := hrow.cell 1; have fz := hrow.frozen 1; have HSa := Lib.hid HMa.out.size; have hzz := Lib.hid (show (Value.slice (some ⟨wa.heap.size, 0, none⟩) 1 1) = .slice (some ⟨(wa.setCell ⟨w.heap.size + 1, 1, none⟩ (.slice (some ⟨ga, 0, none⟩) (D.length + 1) ca)).heap.size, 0, none⟩) 1 1 by simp); have RRa := RR.out.below HMa.out.bel (Nat.lt_succ_self _); have q0 := RRa.cell 0; have q1 := RRa.cell 1; have p0 := RRa.frozen 0; have p1 := RRa.frozen 1; have y0 := HMa.out.row.cell 0; have y1 := HMa.out.row.cell 1; have v0 := HMa.out.row.frozen 0; have hstr := holds_string (c := c5) (OwnB.holds HMa.out.o1); clear hown hgr hat hlt' hcap hrow RRa) | (at_builtin; refine wpList_push (wa.setCell ⟨w.heap.size + 1, 1, none⟩ (.slice (some ⟨ga, 0, none⟩) (D.length + 1) ca)) rfl (.tmp 55) (.tmp 59) _ rfl (w.heap.size + 1) 5 (.int .u8 0) 1 Tryd.underlying25 infoB8 rfl (.slice (some ⟨g5, 0, none⟩) L.length c5) L.length (bvs L) rfl HMa.out.o1 (.int .u8 ((b8 p (i)).toNat : Int)) hzz.out rfl (by omega) (by omega) HSa.out ?_; intro gb cb wb hown hgr hat hlt' hcap; rw [← bvs_snoc] at hown; have HMb := Lib.hid (H2.push1 HMa.out hown hgr hat); clear hown hgr hat hlt' hcap))
            go_roundg (gk - 1)
            case measure => omega
            case rel => exact ⟨i + 1, L ++ [b8 p (i)], D ++ [0], gb, cb, some ⟨ga, 0, none⟩, ca, by simp, by go_num, by omega, by omega, by simp; omega, by simp; omega, HA'.out, by have h := HMb.out; rw [show L.length + 1 = (L ++ [b8 p (i)]).length by simp, show D.length + 1 = (D ++ [0]).length by simp] at h; exact h⟩
          · have h46 : b8 p (i) = 46 := by
              rcases hl2 with h | h
              · exact absurd h hq
              · exact of_decide_eq_true h
            have hb : (((b8 p (i)).toNat : Int) != 46) = false := by rw [h46]; rfl
            clear hl hl2 hq h46
            go_wp2_with (first | (go_at_call 25; refine (iDigit_any _ _).mono ?_; rintro e w' ⟨rfl, hw⟩; subst hw) | (at_builtin; refine wpList_push wr rfl (.tmp 28) (.tmp 31) _ rfl (w.heap.size + 1) 5 (.int .u8 0) 1 Tryd.underlying25 infoB8 rfl (.slice A1 D.length c1) D.length (uv D) rfl HM.out.o2 (.int .u8 (0)) rfl rfl (by omega) (by omega) HSZ.out ?_; intro ga ca wa hown hgr hat hlt' hcap; rw [← uv_snoc] at hown; have HMa := Lib.hid (H2.push2 HM.out hown hgr hat); have hrow := HM.out.row.grown hgr (fun e => HM.out.d2 _ e.symm rfl); have cz := hrow.cell 1; have fz := hrow.frozen 1; have HSa := Lib.hid HMa.out.size; have hzz := Lib.hid (show (Value.slice (some ⟨wa.heap.size, 0, none⟩) 1 1) = .slice (some ⟨(wa.setCell ⟨w.heap.size + 1, 1, none⟩ (.slice (some ⟨ga, 0, none⟩) (D.length + 1) ca)).heap.size, 0, none⟩) 1 1 by simp); have RRa := RR.out.below HMa.out.bel (Nat.lt_succ_self _); have q0 := RRa.cell 0; have q1 := RRa.cell 1; have p0 := RRa.frozen 0; have p1 := RRa.frozen 1; have y0 := HMa.out.row.cell 0; have y1 := HMa.out.row.cell 1; have v0 := HMa.out.row.frozen 0; have hstr := holds_string (c := c5) (OwnB.holds HMa.out.o1); clear hown hgr hat hlt' hcap hrow RRa) | (at_builtin; refine wpList_push (wa.setCell ⟨w.heap.size + 1, 1, none⟩ (.slice (some ⟨ga, 0, none⟩) (D.length + 1) ca)) rfl (.tmp 55) (.tmp 59) _ rfl (w.heap.size + 1) 5 (.int .u8 0) 1 Tryd.underlying25 infoB8 rfl (.slice (some ⟨g5, 0, none⟩) L.length c5) L.length (bvs L) rfl HMa.out.o1 (.int .u8 ((b8 p (i)).toNat : Int)) hzz.out rfl (by omega) (by omega) HSa.out ?_; intro gb cb wb hown hgr hat hlt' hcap; rw [← bvs_snoc] at hown; have HMb := Lib.hid (H2.push1 HMa.out hown hgr hat); clear hown hgr hat hlt' hcap))
            go_roundg (gk - 1)
            case measure => omega
            case rel => exact ⟨i + 1, L ++ [b8 p (i)], D ++ [0], gb, cb, some ⟨ga, 0, none⟩, ca, by simp, by go_num, by omega, by omega, by simp; omega, by simp; omega, HA'.out, by have h := HMb.out; rw [show L.length + 1 = (L ++ [b8 p (i)]).length by simp, show D.length + 1 = (D ++ [0]).length by simp] at h; exact h⟩
        | false =>
          have HN := Lib.hid (hyK_none (HA.out.bad hj hdg hl))
          have hl2 := hl
          unfold hyLet at hl2
          rw [Bool.or_eq_false_iff] at hl2
          have hb : (((b8 p (i)).toNat : Int) != 46) = true := u8_ne46 (of_decide_eq_false hl2.2)
          have hl3 : ¬ (97 ≤ ((b8 p (i)).toNat : Int) ∧ ((b8 p (i)).toNat : Int) ≤ 122) := of_decide_eq_false hl2.1
          clear hl hl2
          by_cases k2 : ((b8 p (i)).toNat : Int) < 97
          · clear hl3
            go_wp2_with (first | (go_at_call 25; refine (iDigit_any _ _).mono ?_; rintro e w' ⟨rfl, hw⟩; subst hw) | (at_builtin; refine wpList_push wr rfl (.tmp 28) (.tmp 31) _ rfl (w.heap.size + 1) 5 (.int .u8 0) 1 Tryd.underlying25 infoB8 rfl (.slice A1 D.length c1) D.length (uv D) rfl HM.out.o2 (.int .u8 (0)) rfl rfl (by omega) (by omega) HSZ.out ?_; intro ga ca wa hown hgr hat hlt' hcap; rw [← uv_snoc] at hown; have HMa := Lib.hid (H2.push2 HM.out hown hgr hat); have hrow := HM.out.row.grown hgr (fun e => HM.out.d2 _ e.symm rfl); have cz := hrow.cell 1; have fz := hrow.frozen 1; have HSa := Lib.hid HMa.out.size; have hzz := Lib.hid (show (Value.slice (some ⟨wa.heap.size, 0, none⟩) 1 1) = .slice (some ⟨(wa.setCell ⟨w.heap.size + 1, 1, none⟩ (.slice (some ⟨ga, 0, none⟩) (D.length + 1) ca)).heap.size, 0, none⟩) 1 1 by simp); have RRa := RR.out.below HMa.out.bel (Nat.lt_succ_self _); have q0 := RRa.cell 0; have q1 := RRa.cell 1; have p0 := RRa.frozen 0; have p1 := RRa.frozen 1; have y0 := HMa.out.row.cell 0; have y1 := HMa.out.row.cell 1; have v0 := HMa.out.row.frozen 0; have hstr := holds_string (c := c5) (OwnB.holds HMa.out.o1); clear hown hgr hat hlt' hcap hrow RRa) | (at_builtin; refine wpList_push (wa.setCell ⟨w.heap.size + 1, 1, none⟩ (.slice (some ⟨ga, 0, none⟩) (D.length + 1) ca)) rfl (.tmp 55) (.tmp 59) _ rfl (w.heap.size + 1) 5 (.int .u8 0) 1 Tryd.underlying25 infoB8 rfl (.slice (some ⟨g5, 0, none⟩) L.length c5) L.length (bvs L) rfl HMa.out.o1 (.int .u8 ((b8 p (i)).toNat : Int)) hzz.out rfl (by omega) (by omega) HSa.out ?_; intro gb cb wb hown hgr hat hlt' hcap; rw [← bvs_snoc] at hown; have HMb := Lib.hid (H2.push1 HMa.out hown hgr hat); clear hown hgr hat hlt' hcap))
            have RRa := RR.out.below HMa.out.bel (Nat.lt_succ_self _)
            have hF := (RRa.set_ 0 (.string ⟨#[]⟩)).set_ 1 (.slice none 0 0)
            refine bodyPost_ret (results_cellH rfl _ _ w.heap.size 50 #[.string ⟨#[]⟩, .slice none 0 0] (0, 0) _ (.bool false) rfl rfl hF Tryd.underlying50 rfl (by kernel_rfl)) rfl ?_
            rw [HN.out]
            exact ⟨_, _, rfl, HyI.no HN.out, ⟨_, _, _, rfl⟩, ((BX.out.trans (HMa.out.bel.mono (by omega))).setCell (p := ⟨w.heap.size, 0, none⟩) (Nat.le_refl _) _).setCell (p := ⟨w.heap.size, 1, none⟩) (Nat.le_refl _) _⟩
          · have k3 : 97 ≤ ((b8 p (i)).toNat : Int) := by omega
            have k4 : 122 < ((b8 p (i)).toNat : Int) := by omega
            clear k2 hl3
            go_wp2_with (first | (go_at_call 25; refine (iDigit_any _ _).mono ?_; rintro e w' ⟨rfl, hw⟩; subst hw) | (at_builtin; refine wpList_push wr rfl (.tmp 28) (.tmp 31) _ rfl (w.heap.size + 1) 5 (.int .u8 0) 1 Tryd.underlying25 infoB8 rfl (.slice A1 D.length c1) D.length (uv D) rfl HM.out.o2 (.int .u8 (0)) rfl rfl (by omega) (by omega) HSZ.out ?_; intro ga ca wa hown hgr hat hlt' hcap; rw [← uv_snoc] at hown; have HMa := Lib.hid (H2.push2 HM.out hown hgr hat); have hrow := HM.out.row.grown hgr (fun e => HM.out.d2 _ e.symm rfl); have cz := hrow.cell 1; have fz := hrow.frozen 1; have HSa := Lib.hid HMa.out.size; have hzz := Lib.hid (show (Value.slice (some ⟨wa.heap.size, 0, none⟩) 1 1) = .slice (some ⟨(wa.setCell ⟨w.heap.size + 1, 1, none⟩ (.slice (some ⟨ga, 0, none⟩) (D.length + 1) ca)).heap.size, 0, none⟩) 1 1 by simp); have RRa := RR.out.below HMa.out.bel (Nat.lt_succ_self _); have q0 := RRa.cell 0; have q1 := RRa.cell 1; have p0 := RRa.frozen 0; have p1 := RRa.frozen 1; have y0 := HMa.out.row.cell 0; have y1 := HMa.out.row.cell 1; have v0 := HMa.out.row.frozen 0; have hstr := holds_string (c := c5) (OwnB.holds HMa.out.o1); clear hown hgr hat hlt' hcap hrow RRa) | (at_builtin; refine wpList_push (wa.setCell ⟨w.heap.size + 1, 1, none⟩ (.slice (some ⟨ga, 0, none⟩) (D.length + 1) ca)) rfl (.tmp 55) (.tmp 59) _ rfl (w.heap.size + 1) 5 (.int .u8 0) 1 Tryd.underlying25 infoB8 rfl (.slice (some ⟨g5, 0, none⟩) L.length c5) L.length (bvs L) rfl HMa.out.o1 (.int .u8 ((b8 p (i)).toNat : Int)) hzz.out rfl (by omega) (by omega) HSa.out ?_; intro gb cb wb hown hgr hat hlt' hcap; rw [← bvs_snoc] at hown; have HMb := Lib.hid (H2.push1 HMa.out hown hgr hat); clear hown hgr hat hlt' hcap))
            have RRa := RR.out.below HMa.out.bel (Nat.lt_succ_self _)
            have hF := (RRa.set_ 0 (.string ⟨#[]⟩)).set_ 1 (.slice none 0 0)
            refine bodyPost_ret (results_cellH rfl _ _ w.heap.size 50 #[.string ⟨#[]⟩, .slice none 0 0] (0, 0) _ (.bool false) rfl rfl hF Tryd.underlying50 rfl (by kernel_rfl)) rfl ?_
            rw [HN.out]
            exact ⟨_, _, rfl, HyI.no HN.out, ⟨_, _, _, rfl⟩, ((BX.out.trans (HMa.out.bel.mono (by omega))).setCell (p := ⟨w.heap.size, 0, none⟩) (Nat.le_refl _) _).setCell (p := ⟨w.heap.size, 1, none⟩) (Nat.le_refl _) _⟩
      · have HJ : i = p.size := by omega
        have n4 : ((i : Int) == (p.size : Int)) = true := by simp; omega
        have n5 : ¬ ((i : Int) < (p.size : Int)) := by omega
        clear hlt
        have hF := hyK_some (HA.out.fin HJ)
        have HF := Lib.hid hF
        by_cases k1 : 1 ≤ L.length
        · by_cases k2 : L.length ≤ 8
          · have HK : Hid (hyK p = true) := by show _ = _; rw [hF.1]; exact decide_eq_true ⟨k1, k2⟩
            have k1' : (1 : Int) ≤ (L.length : Int) := by omega
            have k2' : (L.length : Int) ≤ 8 := by omega
            clear hF
            go_wp2_with (first | (go_at_call 25; refine (iDigit_any _ _).mono ?_; rintro e w' ⟨rfl, hw⟩; subst hw) | (at_builtin; refine wpList_push wr rfl (.tmp 28) (.tmp 31) _ rfl (w.heap.size + 1) 5 (.int .u8 0) 1 Tryd.underlying25 infoB8 rfl (.slice A1 D.length c1) D.length (uv D) rfl HM.out.o2 (.int .u8 (0)) rfl rfl (by omega) (by omega) HSZ.out ?_; intro ga ca wa hown hgr hat hlt' hcap; rw [← uv_snoc] at hown; have HMa := Lib.hid (H2.push2 HM.out hown hgr hat); have hrow := HM.out.row.grown hgr (fun e => HM.out.d2 _ e.symm rfl); have cz := hrow.cell 1; have fz := hrow.frozen 1; have HSa := Lib.hid HMa.out.size; have hzz := Lib.hid (show (Value.slice (some ⟨wa.heap.size, 0, none⟩) 1 1) = .slice (some ⟨(wa.setCell ⟨w.heap.size + 1, 1, none⟩ (.slice (some ⟨ga, 0, none⟩) (D.length + 1) ca)).heap.size, 0, none⟩) 1 1 by simp); have RRa := RR.out.below HMa.out.bel (Nat.lt_succ_self _); have q0 := RRa.cell 0; have q1 := RRa.cell 1; have p0 := RRa.frozen 0; have p1 := RRa.frozen 1; have y0 := HMa.out.row.cell 0; have y1 := HMa.out.row.cell 1; have v0 := HMa.out.row.frozen 0; have hstr := holds_string (c := c5) (OwnB.holds HMa.out.o1); clear hown hgr hat hlt' hcap hrow RRa) | (at_builtin; refine wpList_push (wa.setCell ⟨w.heap.size + 1, 1, none⟩ (.slice (some ⟨ga, 0, none⟩) (D.length + 1) ca)) rfl (.tmp 55) (.tmp 59) _ rfl (w.heap.size + 1) 5 (.int .u8 0) 1 Tryd.underlying25 infoB8 rfl (.slice (some ⟨g5, 0, none⟩) L.length c5) L.length (bvs L) rfl HMa.out.o1 (.int .u8 ((b8 p (i)).toNat : Int)) hzz.out rfl (by omega) (by omega) HSa.out ?_; intro gb cb wb hown hgr hat hlt' hcap; rw [← bvs_snoc] at hown; have HMb := Lib.hid (H2.push1 HMa.out hown hgr hat); clear hown hgr hat hlt' hcap))
            have hwe : Row ((wa.setCell ⟨w.heap.size + 1, 1, none⟩ (.slice (some ⟨ga, 0, none⟩) (D.length + 1) ca)).setCell ⟨w.heap.size + 1, 0, none⟩ (.string ⟨L.toArray⟩)) w.heap.size 50 [.string ⟨#[]⟩, .slice none 0 0] := (RR.out.below HMa.out.bel (Nat.lt_succ_self _)).far (p := ⟨w.heap.size + 1, 0, none⟩) (by simp) _
            have hF2 := (hwe.set_ 0 (.string ⟨L.toArray⟩)).set_ 1 (.slice (some ⟨ga, 0, none⟩) (D.length + 1) ca)
            refine bodyPost_ret (results_cellH rfl _ _ w.heap.size 50 #[.string ⟨L.toArray⟩, (.slice (some ⟨ga, 0, none⟩) (D.length + 1) ca)] (0, 0) _ (.bool true) rfl (by simp <;> omega) hF2 Tryd.underlying50 rfl (by kernel_rfl)) rfl ?_
            rw [HK.out]
            refine ⟨_, _, rfl, ?_, ⟨_, _, _, rfl⟩, (((BX.out.trans (HMa.out.bel.mono (by omega))).setCell (p := ⟨w.heap.size + 1, 0, none⟩) (by simp) _).setCell (p := ⟨w.heap.size, 0, none⟩) (Nat.le_refl _) _).setCell (p := ⟨w.heap.size, 1, none⟩) (Nat.le_refl _) _⟩
            intro _
            refine ⟨by rw [HF.out.2.1], ?_⟩
            rw [HF.out.2.2]
            have h := HMa.out.o2
            have hb := fun k hk => HMa.out.d2 k hk
            rw [show (D ++ [(0 : Int)]).length = D.length + 1 by simp]
            refine own_moveH (own_monoH h (Nat.le_succ w.heap.size)) (fun k hk => ?_)
            have e1 : k ≠ w.heap.size + 1 := hb k hk
            have e2 : k ≠ w.heap.size := by have := (h.lt k hk).1; omega
            exact (Below.heap_setCell _ _ _ _ e2).trans ((Below.heap_setCell _ _ _ _ e2).trans (Below.heap_setCell _ _ _ _ e1))
          · have HK : Hid (hyK p = false) := by show _ = _; rw [hF.1]; exact decide_eq_false (fun h => k2 h.2)
            have k1' : (1 : Int) ≤ (L.length : Int) := by omega
            have k2' : 8 < (L.length : Int) := by omega
            clear hF k2
            go_wp2_with (first | (go_at_call 25; refine (iDigit_any _ _).mono ?_; rintro e w' ⟨rfl, hw⟩; subst hw) | (at_builtin; refine wpList_push wr rfl (.tmp 28) (.tmp 31) _ rfl (w.heap.size + 1) 5 (.int .u8 0) 1 Tryd.underlying25 infoB8 rfl (.slice A1 D.length c1) D.length (uv D) rfl HM.out.o2 (.int .u8 (0)) rfl rfl (by omega) (by omega) HSZ.out ?_; intro ga ca wa hown hgr hat hlt' hcap; rw [← uv_snoc] at hown; have HMa := Lib.hid (H2.push2 HM.out hown hgr hat); have hrow := HM.out.row.grown hgr (fun e => HM.out.d2 _ e.symm rfl); have cz := hrow.cell 1; have fz := hrow.frozen 1; have HSa := Lib.hid HMa.out.size; have hzz := Lib.hid (show (Value.slice (some ⟨wa.heap.size, 0, none⟩) 1 1) = .slice (some ⟨(wa.setCell ⟨w.heap.size + 1, 1, none⟩ (.slice (some ⟨ga, 0, none⟩) (D.length + 1) ca)).heap.size, 0, none⟩) 1 1 by simp); have RRa := RR.out.below HMa.out.bel (Nat.lt_succ_self _); have q0 := RRa.cell 0; have q1 := RRa.cell 1; have p0 := RRa.frozen 0; have p1 := RRa.frozen 1; have y0 := HMa.out.row.cell 0; have y1 := HMa.out.row.cell 1; have v0 := HMa.out.row.frozen 0; have hstr := holds_string (c := c5) (OwnB.holds HMa.out.o1); clear hown hgr hat hlt' hcap hrow RRa) | (at_builtin; refine wpList_push (wa.setCell ⟨w.heap.size + 1, 1, none⟩ (.slice (some ⟨ga, 0, none⟩) (D.length + 1) ca)) rfl (.tmp 55) (.tmp 59) _ rfl (w.heap.size + 1) 5 (.int .u8 0) 1 Tryd.underlying25 infoB8 rfl (.slice (some ⟨g5, 0, none⟩) L.length c5) L.length (bvs L) rfl HMa.out.o1 (.int .u8 ((b8 p (i)).toNat : Int)) hzz.out rfl (by omega) (by omega) HSa.out ?_; intro gb cb wb hown hgr hat hlt' hcap; rw [← bvs_snoc] at hown; have HMb := Lib.hid (H2.push1 HMa.out hown hgr hat); clear hown hgr hat hlt' hcap))
            have hwe : Row ((wa.setCell ⟨w.heap.size + 1, 1, none⟩ (.slice (some ⟨ga, 0, none⟩) (D.length + 1) ca)).setCell ⟨w.heap.size + 1, 0, none⟩ (.string ⟨L.toArray⟩)) w.heap.size 50 [.string ⟨#[]⟩, .slice none 0 0] := (RR.out.below HMa.out.bel (Nat.lt_succ_self _)).far (p := ⟨w.heap.size + 1, 0, none⟩) (by simp) _
            have hF2 := (hwe.set_ 0 (.string ⟨L.toArray⟩)).set_ 1 (.slice (some ⟨ga, 0, none⟩) (D.length + 1) ca)
            refine bodyPost_ret (results_cellH rfl _ _ w.heap.size 50 #[.string ⟨L.toArray⟩, (.slice (some ⟨ga, 0, none⟩) (D.length + 1) ca)] (0, 0) _ (.bool false) rfl (by simp <;> omega) hF2 Tryd.underlying50 rfl (by kernel_rfl)) rfl ?_
            rw [HK.out]
            refine ⟨_, _, rfl, HyI.no HK.out, ⟨_, _, _, rfl⟩, (((BX.out.trans (HMa.out.bel.mono (by omega))).setCell (p := ⟨w.heap.size + 1, 0, none⟩) (by simp) _).setCell (p := ⟨w.heap.size, 0, none⟩) (Nat.le_refl _) _).setCell (p := ⟨w.heap.size, 1, none⟩) (Nat.le_refl _) _⟩
        · have HK : Hid (hyK p = false) := by show _ = _; rw [hF.1]; exact decide_eq_false (fun h => k1 h.1)
          have k1' : (L.length : Int) < 1 := by omega
          clear hF k1
          go_wp2_with (first | (go_at_call 25; refine (iDigit_any _ _).mono ?_; rintro e w' ⟨rfl, hw⟩; subst hw) | (at_builtin; refine wpList_push wr rfl (.tmp 28) (.tmp 31) _ rfl (w.heap.size + 1) 5 (.int .u8 0) 1 Tryd.underlying25 infoB8 rfl (.slice A1 D.length c1) D.length (uv D) rfl HM.out.o2 (.int .u8 (0)) rfl rfl (by omega) (by omega) HSZ.out ?_; intro ga ca wa hown hgr hat hlt' hcap; rw [← uv_snoc] at hown; have HMa := Lib.hid (H2.push2 HM.out hown hgr hat); have hrow := HM.out.row.grown hgr (fun e => HM.out.d2 _ e.symm rfl); have cz := hrow.cell 1; have fz := hrow.frozen 1; have HSa := Lib.hid HMa.out.size; have hzz := Lib.hid (show (Value.slice (some ⟨wa.heap.size, 0, none⟩) 1 1) = .slice (some ⟨(wa.setCell ⟨w.heap.size + 1, 1, none⟩ (.slice (some ⟨ga, 0, none⟩) (D.length + 1) ca)).heap.size, 0, none⟩) 1 1 by simp); have RRa := RR.out.below HMa.out.bel (Nat.lt_succ_self _); have q0 := RRa.cell 0; have q1 := RRa.cell 1; have p0 := RRa.frozen 0; have p1 := RRa.frozen 1; have y0 := HMa.out.row.cell 0; have y1 := HMa.out.row.cell 1; have v0 := HMa.out.row.frozen 0; have hstr := holds_string (c := c5) (OwnB.holds HMa.out.o1); clear hown hgr hat hlt' hcap hrow RRa) | (at_builtin; refine wpList_push (wa.setCell ⟨w.heap.size + 1, 1, none⟩ (.slice (some ⟨ga, 0, none⟩) (D.length + 1) ca)) rfl (.tmp 55) (.tmp 59) _ rfl (w.heap.size + 1) 5 (.int .u8 0) 1 Tryd.underlying25 infoB8 rfl (.slice (some ⟨g5, 0, none⟩) L.length c5) L.length (bvs L) rfl HMa.out.o1 (.int .u8 ((b8 p (i)).toNat : Int)) hzz.out rfl (by omega) (by omega) HSa.out ?_; intro gb cb wb hown hgr hat hlt' hcap; rw [← bvs_snoc] at hown; have HMb := Lib.hid (H2.push1 HMa.out hown hgr hat); clear hown hgr hat hlt' hcap))
          have hwe : Row ((wa.setCell ⟨w.heap.size + 1, 1, none⟩ (.slice (some ⟨ga, 0, none⟩) (D.length + 1) ca)).setCell ⟨w.heap.size + 1, 0, none⟩ (.string ⟨L.toArray⟩)) w.heap.size 50 [.string ⟨#[]⟩, .slice none 0 0] := (RR.out.below HMa.out.bel (Nat.lt_succ_self _)).far (p := ⟨w.heap.size + 1, 0, none⟩) (by simp) _
          have hF2 := (hwe.set_ 0 (.string ⟨L.toArray⟩)).set_ 1 (.slice (some ⟨ga, 0, none⟩) (D.length + 1) ca)
          refine bodyPost_ret (results_cellH rfl _ _ w.heap.size 50 #[.string ⟨L.toArray⟩, (.slice (some ⟨ga, 0, none⟩) (D.length + 1) ca)] (0, 0) _ (.bool false) rfl (by simp <;> omega) hF2 Tryd.underlying50 rfl (by kernel_rfl)) rfl ?_
          rw [HK.out]
          refine ⟨_, _, rfl, HyI.no HK.out, ⟨_, _, _, rfl⟩, (((BX.out.trans (HMa.out.bel.mono (by omega))).setCell (p := ⟨w.heap.size + 1, 0, none⟩) (by simp) _).setCell (p := ⟨w.heap.size, 0, none⟩) (Nat.le_refl _) _).setCell (p := ⟨w.heap.size, 1, none⟩) (Nat.le_refl _) _⟩
end Go.Proofs.YtpmklldochpnlaaDoor
