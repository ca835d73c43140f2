/- BestWord of the reference: the least costs to the end by any way. -/
import Derived.Test.YtegponioggpkcaaBwS2

namespace Go.Proofs.Ytegponioggpkcaa
open Go.RowKit
set_option linter.unusedVariables false
set_option maxRecDepth 100000 in
set_option maxHeartbeats 8000000 in
theorem sToEnd_any (gm : Nat) (S T : Int) (L : List A4) (P E : List Int) (w : World) (h : Mp w gm S T L P E) (hS : S = (E.length : Int)) (hE : ∀ x ∈ E, x ≤ 1000) (hL : okM E.length L) (h0 : 0 < E.length) (hn : E.length ≤ 16) (hn2 : L.length ≤ 1000) :
    Calls Try.prog 56 #[.pointer (some ⟨gm, 0, none⟩)] w fun e w' => ∃ g c, e = .returned (.slice (some ⟨g, 0, none⟩) E.length c) ∧ RowI w' w.heap.size 2 (.slice (some ⟨g, 0, none⟩) E.length c) (edV 1000000000 L E) ∧ Below w.heap.size w w' := by
  obtain ⟨A2, c2, A3, c3, A4', c4, hr, h2, h3, h4⟩ := h
  subst hS
  have HR := Lib.hid hr; have H4 := Lib.hid h4; have H2 := Lib.hid h2
  have HLb : Hid (∀ a ∈ L.map bkE, 0 ≤ a.2.2.2) := hL.bkE.cost
  have HEF : Hid (∀ x ∈ E, x ≤ 1000000000) := fun x hx => by have := hE x hx; omega
  obtain ⟨n4, hn4⟩ : ∃ n, n = E.length := ⟨_, rfl⟩
  have HN4 := Lib.hid hn4
  clear hr h2 h3 h4
  rw [← hn4] at hL h0 hn HR H4 ⊢
  clear hn4
  go_enter Try.func56, Try.ntmps56
  go_wp2_with fail
  go_loopg [3, 4] n4 (fun q o i wr => ∃ (k : Nat) (A : Option Addr) (c : Nat), i = .int .i64 k ∧ k ≤ n4 ∧ n4 ≤ q + k ∧ o = .slice A k c ∧ Hid (RowI wr w.heap.size 2 (.slice A k c) (frL 1000000000 (E.take k))) ∧ Hid (Below w.heap.size w wr))
  case atStart => exact ⟨0, _, _, rfl, by omega, by omega, rfl, RowI.made _ _ _ (Nat.le_refl _), (Below.refl _ _).alloc (Nat.le_refl _) _⟩
  case round =>
    obtain ⟨k, A, c, rfl, hk, hm, rfl, HO, HB⟩ := hrel
    obtain ⟨wo, rfl⟩ : ∃ x : World, x = wr := ⟨_, rfl⟩
    have rr := HR.out.below HB.out HR.out.lt
    have r0 := rr.cell 0; have r4 := rr.cell 4
    clear rr
    by_cases hlt : k < n4
    · obtain ⟨b, off, x, rfl, _, hx, kx⟩ := (H4.out.below HB.out (Nat.le_refl _)).at_ hlt
      have q1 : (k : Int) < (n4 : Int) := by omega
      have hs := HB.out.size
      have hlen : Hid ((frL 1000000000 (E.take k)).length + 1 ≤ 4294967296) := by show _ ≤ _; rw [frL_len, List.length_take]; omega
      have HST := Lib.hid (frL_take (F := 1000000000) hx.out)
      have hlk : Hid ((frL 1000000000 (E.take k)).length = k) := by show _ = _; rw [frL_len, List.length_take, ← HN4.out]; omega
      by_cases hx0 : x < 0
      · go_wp2_with (first | (at_builtin; refine wpList_int_push _ rfl (.tmp 25) (.tmp 26) _ rfl w.heap.size 2 Try.underlying26 infoQ _ (frL 1000000000 (E.take k)) rfl HO.out _ rfl hlen.out hs ?_; intro g' cap w' hown hbl hat hgr; clear hat hgr; have HOW := Lib.hid hown; have HBL := Lib.hid hbl; clear hown hbl))
        go_roundg (gk - 1)
        case measure => omega
        case rel =>
          refine ⟨k + 1, some ⟨g', 0, none⟩, cap, by go_num, by omega, by omega, by rw [hlk.out], ?_, HB.out.trans HBL.out⟩
          show RowI _ _ _ _ _
          rw [HST.out, if_pos hx0]
          have := HOW.out
          rw [hlk.out] at this
          exact this
      · have q2 : (0 : Int) ≤ x := by omega
        have HX0 := Lib.hid hx0; clear hx0
        go_wp2_with (first | (at_builtin; refine wpList_int_push _ rfl (.tmp 28) (.tmp 36) _ rfl w.heap.size 2 Try.underlying26 infoQ _ (frL 1000000000 (E.take k)) rfl HO.out _ rfl hlen.out hs ?_; intro g' cap w' hown hbl hat hgr; clear hat hgr; have HOW := Lib.hid hown; have HBL := Lib.hid hbl; clear hown hbl))
        go_roundg (gk - 1)
        case measure => omega
        case rel =>
          refine ⟨k + 1, some ⟨g', 0, none⟩, cap, by go_num, by omega, by omega, by rw [hlk.out], ?_, HB.out.trans HBL.out⟩
          show RowI _ _ _ _ _
          rw [HST.out, if_neg (by have := HX0.out; omega)]
          have := HOW.out
          rw [hlk.out] at this
          exact this
    · have hkk : k = n4 := by omega
      have q1 : (n4 : Int) ≤ (k : Int) := by omega
      have hrk := HO.out
      have htk : E.take k = E := List.take_of_length_le (by rw [← HN4.out]; omega)
      rw [htk, hkk] at hrk
      have hvn : (frL 1000000000 E).length = n4 := by rw [frL_len]; exact HN4.out.symm
      obtain ⟨g, c', hv, _⟩ := hrk.form (by omega)
      rw [hvn] at hv
      injection hv with e1 e2 e3
      clear e2
      subst e1 e3
      have hlg := hrk.lt.1
      have HRA := Lib.hid hrk
      have HV : Hid (Bd 1000000000 (frL 1000000000 E)) := frL_bd (by omega) HEF.out
      have HVN := Lib.hid hvn
      have hlo0 : w.heap.size ≤ wo.heap.size := HB.out.size
      have RB := Lib.hid (HR.out.below HB.out HR.out.lt)
      have hgm : Hid (gm ≠ g) := by show _ ≠ _; have := HR.out.lt; omega
      have HB1 := Lib.hid HB.out
      have H2o := Lib.hid (H2.out.below HB.out (Nat.le_refl _))
      obtain ⟨v, hvv⟩ : ∃ v, v = frL 1000000000 E := ⟨_, rfl⟩
      rw [← hvv] at HRA HV HVN
      have HVE := Lib.hid hvv
      clear htk hrk hvn hvv HO HB hlt r4
      subst hkk
      go_wp2_with fail
      clear r0
      go_loopg [5, 6, 7] k (fun q i u6 u7 wr => ∃ r : Nat, i = .int .i64 r ∧ r ≤ k ∧ k ≤ q + r ∧ Hid (RowI wr w.heap.size 2 (.slice (some ⟨g, 0, none⟩) k c) (relN (L.map bkE) v r)) ∧ Hid (But g wo wr))
      case atStart => exact ⟨0, rfl, by omega, by omega, HRA.out, But.refl _ _⟩
      case round =>
        obtain ⟨r, rfl, hr, hm, HRr, HB⟩ := hrel
        obtain ⟨wi, rfl⟩ : ∃ x : World, x = wr := ⟨_, rfl⟩
        have r0 := (RB.out.but HB.out hgm.out).cell 0
        by_cases hlt : r < k
        · have q1 : (r : Int) < (k : Int) := by omega
          go_wp2_with fail
          clear r0
          obtain ⟨go, hgo⟩ : ∃ x : Nat, x = gk := ⟨_, rfl⟩
          go_loopg [6, 7] L.length (fun q i u7 wr => ∃ j : Nat, i = .int .i64 j ∧ j ≤ L.length ∧ L.length ≤ q + j ∧ Hid (RowI wr w.heap.size 2 (.slice (some ⟨g, 0, none⟩) k c) (rel ((L.map bkE).take j) (relN (L.map bkE) v r))) ∧ Hid (But g wo wr))
          case atStart => exact ⟨0, rfl, by omega, by omega, by rw [List.take_zero]; exact HRr.out, HB.out⟩
          case round =>
            clear HRr HB
            obtain ⟨j, rfl, hj, hm2, HRr, HB⟩ := hrel
            obtain ⟨wx, rfl⟩ : ∃ x : World, x = wr := ⟨_, rfl⟩
            have r2 := (RB.out.but HB.out hgm.out).cell 2
            by_cases hlt2 : j < L.length
            · obtain ⟨b, off, a0, a1, a2, a3, rfl, hbB, hx, c0, c1, c2', c3'⟩ := (H2o.out.but HB.out hlg hlo0).at_ hlt2
              have ha := hL _ (List.mem_of_getElem? hx.out)
              simp only at ha
              obtain ⟨⟨f0, f1⟩, ⟨t0, t1⟩, p0, p1⟩ := ha
              obtain ⟨f, rfl⟩ : ∃ x : Nat, a0 = (x : Int) := ⟨a0.toNat, by omega⟩
              obtain ⟨t, rfl⟩ : ∃ x : Nat, a1 = (x : Int) := ⟨a1.toNat, by omega⟩
              have HST := Lib.hid (rel_take (v := relN (L.map bkE) v r) (L := L.map bkE) (show (L.map bkE)[j]? = some (bkE ((f : Int), (t : Int), a2, a3)) by rw [List.getElem?_map, hx.out]; rfl))
              have l0 : (0 : Int) ≤ (j : Int) := by omega
              have l1 : (j : Int) < (L.length : Int) := by omega
              have RA := Row.new wx 62 [.int .i64 f, .int .i64 t, .int .i64 a2, .int .i64 a3]
              have d0 := RA.cell 0; have d1 := RA.cell 1; have d2 := RA.cell 2; have d3 := RA.cell 3
              have HR1 := Lib.hid (HRr.out.alloc (.cells ([.int .i64 f, .int .i64 t, .int .i64 a2, .int .i64 a3] : List Value).toArray 62))
              have HBx := Lib.hid (HB.out.alloc (.cells ([.int .i64 f, .int .i64 t, .int .i64 a2, .int .i64 a3] : List Value).toArray 62))
              clear RA
              have hlen : (rel ((L.map bkE).take j) (relN (L.map bkE) v r)).length = k := by rw [rel_len, relN_len]; exact HVN.out
              have hbd : Bd 1000000000 (rel ((L.map bkE).take j) (relN (L.map bkE) v r)) := Bd.relT (by omega) (Bd.relN (by omega) HV.out HLb.out r) (fun a ha => HLb.out a (List.mem_of_mem_take ha))
              obtain ⟨u, hu⟩ : ∃ u, u = rel ((L.map bkE).take j) (relN (L.map bkE) v r) := ⟨_, rfl⟩
              rw [← hu] at HR1 HST hlen hbd
              have HU := Lib.hid hu; clear hu HRr HB
              have hxf := g0_some (show t < u.length by omega)
              have hxt := g0_some (show f < u.length by omega)
              have bf := hbd.get hxf
              have bt := hbd.get hxt
              obtain ⟨x2, hx2⟩ : ∃ x, x = g0 u t := ⟨_, rfl⟩
              obtain ⟨x1, hx1⟩ : ∃ x, x = g0 u f := ⟨_, rfl⟩
              rw [← hx2] at hxf bf
              rw [← hx1] at hxt bt
              have k1 := HR1.out.cell hxf
              have k2 := HR1.out.cell hxt
              have kf := HR1.out.frozen f
              have HST2 : Hid (rel ((L.map bkE).take (j + 1)) (relN (L.map bkE) v r) = u.set f (min x1 (a3 + x2))) := by
                show _ = _
                rw [HST.out, rel1, if_pos (show (bkE ((f : Int), (t : Int), a2, a3)).2.2.1 < 0 by show (-1 : Int) < 0; omega)]
                show u.set (Int.toNat (f : Int)) (Min.min (g0 u (Int.toNat (f : Int))) (g0 u (Int.toNat (t : Int)) + a3)) = _
                rw [Int.toNat_natCast, Int.toNat_natCast, ← hx1, ← hx2]
                congr 1
                omega
              have e1 : IntKind.i64.wrap (a3 + x2) = a3 + x2 := IntWalk.i64_in _ (by omega)
              obtain ⟨bf0, bf1⟩ := bf; obtain ⟨bt0, bt1⟩ := bt
              clear hx1 hx2 HST hxf hxt
              go_wp2_with fail
              clear r2 p0 p1
              refine wp_tail 18 (by kernel_rfl) (by kernel_rfl) (fun y hy => ?_)
              have y0 : y.cell? ⟨wx.heap.size, 0, none⟩ = some (.int .i64 f) := by rw [hy]; exact d0
              have y1 : y.cell? ⟨wx.heap.size, 1, none⟩ = some (.int .i64 t) := by rw [hy]; exact d1
              have y3 : y.cell? ⟨wx.heap.size, 3, none⟩ = some (.int .i64 a3) := by rw [hy]; exact d3
              have y4 : y.cell? ⟨g, t, none⟩ = some (.int .i64 x2) := by rw [hy]; exact k1
              have y5 : y.cell? ⟨g, f, none⟩ = some (.int .i64 x1) := by rw [hy]; exact k2
              have y6 : y.frozen? ⟨g, f, none⟩ = false := by rw [hy]; exact kf
              have HRy : Hid (RowI y w.heap.size 2 (.slice (some ⟨g, 0, none⟩) k c) u) := by rw [hy]; exact HR1.out
              have HBy : Hid (But g wo y) := by rw [hy]; exact HBx.out
              clear hy k1 k2 kf d0 d1 d2 d3 HR1 HBx
              simp only [List.take_succ_cons, List.take_zero, List.drop_succ_cons, List.drop_zero]
              repeat (first | still_step | still_call (sMinH _ _ _))
              refine wpStill_nil ?_
              go_wp2_with fail
              go_roundg (gk - 1)
              case measure => omega
              case rel =>
                refine ⟨j + 1, by go_num, by omega, by omega, ?_, HBy.out.trans (But.set _ _ _)⟩
                show RowI _ _ _ _ _
                rw [HST2.out]; exact HRy.out.set f _
            · have hjj : j = L.length := by omega
              have l1 : (L.length : Int) ≤ (j : Int) := by omega
              have HE : Hid (rel ((L.map bkE).take j) (relN (L.map bkE) v r) = relN (L.map bkE) v (r + 1)) := by
                show _ = rel (L.map bkE) (relN (L.map bkE) v r)
                rw [hjj, show L.length = (L.map bkE).length by simp, List.take_length]
              have q4 : decide (j < L.length) = false := decide_eq_false hlt2
              clear hjj hlt2
              go_wp2_with fail
              go_roundg (go - 1)
              case measure => omega
              case rel =>
                refine ⟨r + 1, by go_num, by omega, by omega, ?_, HB.out⟩
                have e := HRr.out
                rw [HE.out] at e
                exact e
        · have hrr : r = k := by omega
          have q1 : (k : Int) ≤ (r : Int) := by omega
          have HE : Hid (relN (L.map bkE) v r = edV 1000000000 L E) := by
            show _ = _
            unfold edV
            rw [hrr, HVE.out, ← HN4.out]
          clear hrr hlt
          go_wp2_with fail
          go_ret
          refine ⟨g, c, rfl, ?_, HB1.out.trans (HB.out.below hlg hlo0)⟩
          rw [← HE.out]
          exact HRr.out
end Go.Proofs.Ytegponioggpkcaa
