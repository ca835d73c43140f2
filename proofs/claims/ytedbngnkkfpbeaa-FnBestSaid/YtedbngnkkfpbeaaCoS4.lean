/- The costs of a word, in the reference: the steps of a letter. -/
import Derived.Test.YtedbngnkkfpbeaaMgk

namespace Go.Proofs.Ytedbngnkkfpbeaa
open Go.RowKit
set_option linter.unusedVariables false
theorem sMinH (x y : Int) (w : World) : Calls Try.prog 69 #[.int .i64 x, .int .i64 y] w fun e w' => e = .returned (.int .i64 (min x y)) ∧ w' = w := (sMinC x y w).mono fun _ _ ⟨h, h'⟩ => ⟨h, h'.symm⟩
set_option maxRecDepth 100000 in
set_option maxHeartbeats 8000000 in
theorem sSteps_any (gm : Nat) (S T : Int) (L : List A4) (P E : List Int) (gt n ct : Nat) (C : List (List Int)) (l : Int) (w : World) (h : Mp w gm S T L P E) (hC : TabR w gt n C) (hS : S = (n : Int)) (hL : okM n L) (hCb : BdR 1000000000 C) (hn : n ≤ 1000000) (hLn : L.length ≤ 1000000) :
    Calls Try.prog 70 #[.pointer (some ⟨gm, 0, none⟩), .slice (some ⟨gt, 0, none⟩) n ct, .int .i64 l] w fun e w' => ∃ g' c', e = .returned (.slice (some ⟨g', 0, none⟩) n c') ∧ TabI w' w.heap.size 26 (.slice (some ⟨g', 0, none⟩) n c') (spV 1000000000 L l C) ∧ Below w.heap.size w w' := by
  obtain ⟨A2, c2, A3, c3, A4', c4, hr, h2, h3, h4⟩ := h
  subst hS
  have HM := Lib.hid hr; have H2 := Lib.hid h2; have HC := Lib.hid hC
  have HCL : Hid (C.length = n) := hC.1
  have HRL : Hid (∀ r ∈ C, r.length = n) := hC.2.1
  have HL := Lib.hid hL.cost
  have HCB := Lib.hid hCb
  clear hr h2 h3 h4 hC
  go_enter Try.func70, Try.ntmps70
  go_wp2_with fail
  go_loopg [7, 8, 9, 10, 11, 12] n (fun q o i u9 u10 u11 u12 wr => ∃ (k go co : Nat), i = .int .i64 k ∧ k ≤ n ∧ n ≤ q + k ∧ o = .slice (some ⟨go, 0, none⟩) k co ∧ Hid (TabI wr w.heap.size 26 (.slice (some ⟨go, 0, none⟩) k co) ((spV 1000000000 L l C).take k)) ∧ Hid (Below w.heap.size w wr))
  case atStart => exact ⟨0, _, _, rfl, by omega, by omega, rfl, TabI.made _ _ _ (Nat.le_refl _), (Below.refl _ _).alloc (Nat.le_refl _) _⟩
  case round =>
    obtain ⟨k, go, co, rfl, hk, hm, rfl, HO, HB⟩ := hrel
    obtain ⟨wo, rfl⟩ : ∃ x : World, x = wr := ⟨_, rfl⟩
    have rr := HM.out.below HB.out HM.out.lt
    have r0 := rr.cell 0
    clear rr
    by_cases hlt : k < n
    · have q1 : (k : Int) < (n : Int) := by omega
      obtain ⟨rk, hrk⟩ : ∃ r, C[k]? = some r := ⟨_, List.getElem?_eq_getElem (show k < C.length by rw [HCL.out]; exact hlt)⟩
      have HRK := Lib.hid hrk
      have HRN : Hid (rk.length = n) := HRL.out rk (List.mem_of_getElem? hrk)
      have HRB : Hid (Bd 1000000000 rk) := HCB.out rk (List.mem_of_getElem? hrk)
      have HG0 : Hid (∀ f, gg C k f = g0 rk f) := fun f => by unfold gg; rw [List.getD_eq_getElem?_getD, hrk]; rfl
      clear hrk
      go_wp2_with fail
      clear r0
      obtain ⟨gz, hgz⟩ : ∃ x : Nat, x = gk := ⟨_, rfl⟩
      have HGO : Hid (w.heap.size ≤ go ∧ go < wo.heap.size) := HO.out.block go rfl
      -- the row of far
      go_loopg [9, 10] n (fun q o i wr => ∃ (j : Nat) (A : Option Addr) (c : Nat), i = .int .i64 j ∧ j ≤ n ∧ n ≤ q + j ∧ o = .slice A j c ∧ Hid (RowI wr wo.heap.size 2 (.slice A j c) (List.replicate j 1000000000)) ∧ Hid (Below wo.heap.size wo wr))
      case atStart => exact ⟨0, _, _, rfl, by omega, by omega, rfl, RowI.made _ _ _ (Nat.le_refl _), (Below.refl _ _).alloc (Nat.le_refl _) _⟩
      case round =>
        obtain ⟨j, A, c, rfl, hj, hm2, rfl, HR, HB1⟩ := hrel
        obtain ⟨wi, rfl⟩ : ∃ x : World, x = wr := ⟨_, rfl⟩
        have hbi : Hid (Below w.heap.size w wi) := HB.out.trans (HB1.out.mono HB.out.size)
        have rr := HM.out.below hbi.out HM.out.lt
        have r0 := rr.cell 0; have r2 := rr.cell 2
        clear rr
        by_cases hlt2 : j < n
        · have q2 : (j : Int) < (n : Int) := by omega
          have hs := HB1.out.size
          have hlen : Hid ((List.replicate j (1000000000 : Int)).length + 1 ≤ 4294967296) := by show _ ≤ _; simp; omega
          go_wp2_with (first | (at_builtin; refine wpList_int_push _ rfl (.tmp 31) (.tmp 32) _ rfl wo.heap.size 2 Try.underlying26 infoQ _ (List.replicate j 1000000000) rfl HR.out _ rfl hlen.out hs ?_; intro g' cap w' hown hbl hat hgr; clear hat hgr; have HOW := Lib.hid hown; have HBL := Lib.hid hbl; clear hown hbl))
          go_roundg (gk - 1)
          case measure => omega
          case rel =>
            refine ⟨j + 1, some ⟨g', 0, none⟩, cap, by go_num, by omega, by omega, by simp, ?_, HB1.out.trans HBL.out⟩
            show RowI _ _ _ _ _
            rw [List.replicate_succ']
            have := HOW.out
            rw [List.length_replicate] at this
            exact this
        · have hjj : j = n := by omega
          have HJ := Lib.hid hjj
          have q2 : (n : Int) ≤ (j : Int) := by omega
          obtain ⟨g, cg, hv, hcg, hgl, hgs, _⟩ := HR.out.form (by rw [List.length_replicate]; omega)
          rw [List.length_replicate] at hv hcg
          injection hv with e1 _ e3
          subst e1; subst e3
          have hHRn : RowI wi wo.heap.size 2 (.slice (some ⟨g, 0, none⟩) n c) (stpT 1000000000 L l rk 0) := by
            have := HR.out
            rw [hjj] at this
            show RowI _ _ _ _ (List.replicate rk.length 1000000000)
            rw [HRN.out]; exact this
          have HR0 := Lib.hid hHRn
          have hjs : j = n := hjj
          clear hHRn hjj hlt2
          subst hjs
          clear HR
          have HGL : Hid (wo.heap.size ≤ g) := hgl
          clear hgs hgl hcg
          go_wp2_with fail
          clear r0
          go_loopg [11, 12] L.length (fun q i u12 wr => ∃ (m : Nat), i = .int .i64 m ∧ m ≤ L.length ∧ L.length ≤ q + m ∧ Hid (RowI wr wo.heap.size 2 (.slice (some ⟨g, 0, none⟩) j c) (stpT 1000000000 L l rk m)) ∧ Hid (Below wo.heap.size wo wr))
          case atStart => exact ⟨0, rfl, by omega, by omega, HR0.out, HB1.out⟩
          case round =>
            clear HR0 HB1 hbi r2
            obtain ⟨m, rfl, hmj, hm3, HR, HB1⟩ := hrel
            obtain ⟨wx, rfl⟩ : ∃ x : World, x = wr := ⟨_, rfl⟩
            have hbi : Hid (Below w.heap.size w wx) := HB.out.trans (HB1.out.mono HB.out.size)
            have rr := HM.out.below hbi.out HM.out.lt
            have r2 := rr.cell 2
            clear rr
            by_cases hlt3 : m < L.length
            · obtain ⟨b, off, a0, a1, a2, a3, rfl, hbB, hx, c0, c1, c2', c3'⟩ := (H2.out.below hbi.out (Nat.le_refl _)).at_ hlt3
              have ha := hL _ (List.mem_of_getElem? hx.out)
              simp only at ha
              obtain ⟨⟨f0, f1⟩, ⟨t0, t1⟩, p0, p1⟩ := ha
              obtain ⟨f, rfl⟩ : ∃ x : Nat, a0 = (x : Int) := ⟨a0.toNat, by omega⟩
              obtain ⟨t, rfl⟩ : ∃ x : Nat, a1 = (x : Int) := ⟨a1.toNat, by omega⟩
              have HST := Lib.hid (stpT_succ (far := 1000000000) (l := l) (v := rk) hx.out)
              have l1 : (m : Int) < (L.length : Int) := by omega
              have RA := Row.new wx 89 [.int .i64 f, .int .i64 t, .int .i64 a2, .int .i64 a3]
              have d0 := RA.cell 0; have d1 := RA.cell 1; have d2 := RA.cell 2; have d3 := RA.cell 3
              have HR1 := Lib.hid (HR.out.alloc (.cells ([.int .i64 f, .int .i64 t, .int .i64 a2, .int .i64 a3] : List Value).toArray 89))
              have HBx : Hid (Below wo.heap.size wo (wx.alloc (.cells ([.int .i64 f, .int .i64 t, .int .i64 a2, .int .i64 a3] : List Value).toArray 89))) := HB1.out.alloc HB1.out.size _
              clear RA
              have hlen : (stpT 1000000000 L l rk m).length = j := by rw [stpT_len]; exact HRN.out
              have hbd : Bd 1000000000 (stpT 1000000000 L l rk m) := Bd.stpT HRB.out (by omega) HL.out m
              obtain ⟨u, hu⟩ : ∃ u, u = stpT 1000000000 L l rk m := ⟨_, rfl⟩
              rw [← hu] at HR1 HST hlen hbd
              have HU := Lib.hid hu; clear hu HR HB1
              by_cases hneg : a2 = l
              · subst hneg
                obtain ⟨gC, cC, k1, k2⟩ := (HC.out.below (HB.out.trans (HBx.out.mono HB.out.size)) (Nat.le_refl _)).at_ hlt (show f < j by omega)
                rw [HG0.out f] at k2
                have bf := HRB.out.g0 (by omega) f
                have hxt := g0_some (show t < u.length by omega)
                have bt := hbd.get hxt
                obtain ⟨x1, hx1⟩ : ∃ x, x = g0 u t := ⟨_, rfl⟩
                rw [← hx1] at hxt bt
                obtain ⟨x2, hx2⟩ : ∃ x, x = g0 rk f := ⟨_, rfl⟩
                rw [← hx2] at k2 bf
                have k3 := HR1.out.cell hxt
                have kf := HR1.out.frozen t
                have HST2 : Hid (stpT 1000000000 L a2 rk (m + 1) = u.set t (min x1 (x2 + a3))) := by
                  show _ = _
                  rw [HST.out, stp1, if_pos rfl]
                  show u.set (Int.toNat (t : Int)) (Min.min (g0 u (Int.toNat (t : Int))) (g0 rk (Int.toNat (f : Int)) + a3)) = _
                  rw [Int.toNat_natCast, Int.toNat_natCast, ← hx1, ← hx2]
                have e1 : IntKind.i64.wrap (x2 + a3) = x2 + a3 := IntWalk.i64_in _ (by omega)
                obtain ⟨bf0, bf1⟩ := bf; obtain ⟨bt0, bt1⟩ := bt
                have hMC := sMinC x1 (x2 + a3)
                clear hx1 hx2 HST hxt
                go_wp2_with fail
                clear p0 p1
                refine wp_tail 21 (by kernel_rfl) (by kernel_rfl) (fun y hy => ?_)
                have y0 : y.cell? ⟨wx.heap.size, 0, none⟩ = some (.int .i64 f) := by rw [hy]; exact d0
                have y1 : y.cell? ⟨wx.heap.size, 1, none⟩ = some (.int .i64 t) := by rw [hy]; exact d1
                have y3 : y.cell? ⟨wx.heap.size, 3, none⟩ = some (.int .i64 a3) := by rw [hy]; exact d3
                have y4 : y.cell? ⟨gt, k, none⟩ = some (.slice (some ⟨gC, 0, none⟩) j cC) := by rw [hy]; exact k1
                have y7 : y.cell? ⟨gC, f, none⟩ = some (.int .i64 x2) := by rw [hy]; exact k2
                have y5 : y.cell? ⟨g, t, none⟩ = some (.int .i64 x1) := by rw [hy]; exact k3
                have y6 : y.frozen? ⟨g, t, none⟩ = false := by rw [hy]; exact kf
                have HRy : Hid (RowI y wo.heap.size 2 (.slice (some ⟨g, 0, none⟩) j c) u) := by rw [hy]; exact HR1.out
                have HBy : Hid (Below wo.heap.size wo y) := by rw [hy]; exact below_draws HBx.out 1
                clear hy k1 k2 k3 kf d0 d1 d2 d3 HR1 HBx
                simp only [List.take_succ_cons, List.take_zero, List.drop_succ_cons, List.drop_zero]
                repeat (first | still_step | still_call (sMinH _ _ _))
                refine wpStill_nil ?_
                go_wp2_with fail
                go_roundg (gk - 1)
                case measure => omega
                case rel =>
                  refine ⟨m + 1, by go_num, by omega, by omega, ?_, HBy.out.setCell (p := ⟨g, _, none⟩) HGL.out _⟩
                  show RowI _ _ _ _ _
                  rw [HST2.out]; exact HRy.out.set t _
              · have HST2 : Hid (stpT 1000000000 L l rk (m + 1) = u) := by
                  show _ = _
                  rw [HST.out, stp1, if_neg hneg]
                have q3 : (a2 == l) = false := by rw [beq_eq_false_iff_ne]; exact hneg
                clear HST d0 d1 d3 hneg
                go_wp2_with fail
                go_roundg (gk - 1)
                case measure => omega
                case rel =>
                  refine ⟨m + 1, by go_num, by omega, by omega, ?_, HBx.out⟩
                  show RowI _ _ _ _ _
                  rw [HST2.out]; exact HR1.out
            · have hmm : m = L.length := by omega
              have HMM := Lib.hid hmm
              have q3 : (L.length : Int) ≤ (m : Int) := by omega
              have hs : w.heap.size ≤ wx.heap.size := hbi.out.size
              have HOx : Hid (TabI wx w.heap.size 26 (.slice (some ⟨go, 0, none⟩) k co) ((spV 1000000000 L l C).take k)) := HO.out.keep HB1.out (Nat.le_refl _)
              have hlk : Hid (((spV 1000000000 L l C).take k).length = k) := by show _ = _; rw [List.length_take, spV_len, HCL.out]; omega
              have HCE : Hid (∀ (q : Nat) (x : Int), (stpT 1000000000 L l rk m)[q]? = some x → wx.cell? ⟨g, q, none⟩ = some (.int .i64 x)) := fun q x hq => HR.out.cell hq
              have HCC : Hid (j ≤ c) := by obtain ⟨vs, _, _, _, _, _, h, _⟩ := HR.out.open; exact h
              have hgx : w.heap.size ≤ g := by have := HGL.out; have := HB.out.size; omega
              have hgx2 : g < wx.heap.size := HR.out.lt.2
              have HNE : Hid ((Value.slice (some ⟨go, 0, none⟩) k co).ownBlock ≠ some g) := by
                intro e
                simp [Value.ownBlock] at e
                have := HGO.out.2; have := HGL.out; omega
              have HSL : Hid ((stpT 1000000000 L l rk m).length = j) := by show _ = _; rw [stpT_len]; exact HRN.out
              have HSP : Hid ((spV 1000000000 L l C).take (k + 1) = (spV 1000000000 L l C).take k ++ [stpT 1000000000 L l rk m]) := by show _ = _; rw [spV_at HRK.out, HMM.out]
              have hlen : Hid (((spV 1000000000 L l C).take k).length + 1 ≤ 4294967296) := by show _ ≤ _; rw [hlk.out]; omega
              clear hmm hlt3
              go_wp2_with (first | (at_builtin; refine wpList_tab_push wx rfl (.tmp 75) (.tmp 77) _ rfl w.heap.size 26 Try.underlying35 infoR (.slice (some ⟨go, 0, none⟩) k co) ((spV 1000000000 L l C).take k) rfl HOx.out g c j (stpT 1000000000 L l rk m) HSL.out rfl hgx hgx2 HNE.out HCC.out HCE.out hlen.out hs ?_; intro g' cap w' hown hgr hbl hat; clear hat hgr; have HOW := Lib.hid hown; have HBL := Lib.hid hbl; clear hown hbl))
              go_roundg (gz - 1)
              case measure => omega
              case rel =>
                refine ⟨k + 1, g', cap, by go_num, by omega, by omega, by first | rw [hlk.out] | (rw [spV_len, HCL.out, Nat.min_eq_left (by omega)]), ?_, hbi.out.trans HBL.out⟩
                show TabI _ _ _ _ _
                rw [HSP.out]
                have := HOW.out
                rw [hlk.out] at this
                exact this
    · have hkk : k = n := by omega
      have HK := Lib.hid hkk
      have q1 : (n : Int) ≤ (k : Int) := by omega
      clear hkk hlt
      go_wp2_with fail
      go_ret
      have e := HO.out
      rw [HK.out] at e
      have e2 : (spV 1000000000 L l C).take n = spV 1000000000 L l C := List.take_of_length_le (by rw [spV_len, HCL.out]; exact Nat.le_refl _)
      rw [e2] at e
      exact ⟨go, co, by rw [HK.out]; rfl, e, HB.out⟩
end Go.Proofs.Ytedbngnkkfpbeaa
