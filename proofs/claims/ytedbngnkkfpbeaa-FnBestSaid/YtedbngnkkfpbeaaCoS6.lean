/- The costs of a word, in the reference: the closure. -/
import Derived.Test.YtedbngnkkfpbeaaCoS5

namespace Go.Proofs.Ytedbngnkkfpbeaa
open Go.RowKit
set_option linter.unusedVariables false
theorem TabD.lt {w : World} {base : Nat} {v : Value} {gs : List Nat} {C : List (List Int)} (h : TabD w base v gs C) : ∀ g ∈ gs, base ≤ g ∧ g < w.heap.size := fun g hg => by
  obtain ⟨vs, hown, h1, h2, hr⟩ := h
  obtain ⟨j, hj, e⟩ := List.getElem_of_mem hg
  obtain ⟨c, _, _, e3⟩ := hr j g C[j] (by rw [← e]; exact List.getElem?_eq_getElem hj) (List.getElem?_eq_getElem (by omega))
  exact e3.lt
def Clo (w0 w : World) (base go n co : Nat) (gs : List Nat) (C : List (List Int)) : Prop := TabD w base (.slice (some ⟨go, 0, none⟩) n co) gs C ∧ Shp n C ∧ BdR 1000000000 C ∧ Below base w0 w
theorem Clo.at_ {w0 w : World} {base go n co : Nat} {gs : List Nat} {C : List (List Int)} (h : Clo w0 w base go n co gs C) {i : Nat} (hi : i < n) : ∃ g c r, gs[i]? = some g ∧ C[i]? = some r ∧ base ≤ g ∧ w.cell? ⟨go, i, none⟩ = some (.slice (some ⟨g, 0, none⟩) n c) ∧ (∀ k, k < n → w.cell? ⟨g, k, none⟩ = some (.int .i64 (gg C i k))) ∧ ∀ k, w.frozen? ⟨g, k, none⟩ = false := by
  obtain ⟨r, h1, h2, _⟩ := h.2.1.at_ hi hi
  obtain ⟨g, c, e1, e2, e3⟩ := h.1.row h1
  have := e3 go n co rfl
  rw [h2] at this
  refine ⟨g, c, r, e1, h1, e2.lt.1, this, fun k hk => ?_, fun k => e2.frozen k⟩
  obtain ⟨r', h1', _, h4⟩ := h.2.1.at_ hi hk
  obtain rfl : r = r' := Option.some.inj (h1.symm.trans h1')
  exact e2.cell h4
theorem Clo.drewN {w0 w : World} {base go n co : Nat} {gs : List Nat} {C : List (List Int)} (h : Clo w0 w base go n co gs C) (hb : base ≤ w.heap.size) (q : Nat) : Clo w0 (w.drewN q) base go n co gs C :=
  ⟨h.1.keep (B := w.heap.size) (below_draws (Below.refl _ _) q) (Nat.le_refl _), h.2.1, h.2.2.1, below_draws h.2.2.2 q⟩
theorem Clo.alloc {w0 w : World} {base go n co : Nat} {gs : List Nat} {C : List (List Int)} (h : Clo w0 w base go n co gs C) (hb : base ≤ w.heap.size) (o : Obj) : Clo w0 (w.alloc o) base go n co gs C :=
  ⟨h.1.keep ((Below.refl w.heap.size w).alloc (Nat.le_refl _) o) (Nat.le_refl _), h.2.1, h.2.2.1, h.2.2.2.alloc hb o⟩
theorem Clo.set {w0 w : World} {base go n co a b g : Nat} {gs : List Nat} {C : List (List Int)} {r : List Int} {x : Int} (h : Clo w0 w base go n co gs C) (hg : gs[a]? = some g) (hr : C[a]? = some r) (hb : base ≤ g) (hx : 0 ≤ x ∧ x ≤ 1000000000) : Clo w0 (w.setCell ⟨g, b, none⟩ (.int .i64 x)) base go n co gs (C.set a (r.set b x)) :=
  ⟨h.1.set hg hr b x, h.2.1.set hr x, h.2.2.1.set hr hx, h.2.2.2.setCell (p := ⟨g, b, none⟩) hb _⟩
theorem c0R_take {F : Int} {n i j : Nat} (h : j < n) : (c0R F n i).take (j + 1) = (c0R F n i).take j ++ [if i = j then 0 else F] := by unfold c0R; rw [map_range_take _ _ _ h]
theorem c0V_take {F : Int} {n i : Nat} (h : i < n) : (c0V F n).take (i + 1) = (c0V F n).take i ++ [c0R F n i] := by unfold c0V; rw [map_range_take _ _ _ h]
set_option maxRecDepth 100000 in
set_option maxHeartbeats 16000000 in
theorem sClosed_any (gm : Nat) (S T : Int) (L : List A4) (P E : List Int) (n : Nat) (w : World) (h : Mp w gm S T L P E) (hS : S = (n : Int)) (hL : okM n L) (h0 : 0 < n) (hn : n ≤ 1000000) (hLn : L.length ≤ 1000000) :
    Calls Try.prog 48 #[.pointer (some ⟨gm, 0, none⟩)] w fun e w' => ∃ go co C, e = .returned (.slice (some ⟨go, 0, none⟩) n co) ∧ TabI w' w.heap.size 26 (.slice (some ⟨go, 0, none⟩) n co) C ∧ ClsT 1000000000 n L C ∧ Below w.heap.size w w' := by
  obtain ⟨A2, c2, A3, c3, A4', c4, hr, h2, h3, h4⟩ := h
  subst hS
  have HM := Lib.hid hr; have H2 := Lib.hid h2
  clear hr h2 h3 h4
  go_enter Try.func48, Try.ntmps48
  go_wp2_with fail
  go_loopg [3, 4, 5, 6] n (fun q o i u5 u6 wr => ∃ (k go co : Nat) (gs : List Nat), i = .int .i64 k ∧ k ≤ n ∧ n ≤ q + k ∧ o = .slice (some ⟨go, 0, none⟩) k co ∧ Hid (TabD wr w.heap.size (.slice (some ⟨go, 0, none⟩) k co) gs ((c0V 1000000000 n).take k)) ∧ Hid (Below w.heap.size w wr))
  case atStart => exact ⟨0, _, _, [], rfl, by omega, by omega, rfl, TabD.made _ _ (Nat.le_refl _), (Below.refl _ _).alloc (Nat.le_refl _) _⟩
  case round =>
    obtain ⟨k, go, co, gs, rfl, hk, hm, rfl, HO, HB⟩ := hrel
    obtain ⟨wo, rfl⟩ : ∃ x : World, x = wr := ⟨_, rfl⟩
    have rr := HM.out.below HB.out HM.out.lt
    have r0 := rr.cell 0
    clear rr
    by_cases hlt : k < n
    · have q1 : (k : Int) < (n : Int) := by omega
      go_wp2_with fail
      clear r0
      obtain ⟨gz, hgz⟩ : ∃ x : Nat, x = gk := ⟨_, rfl⟩
      have HGO : Hid (w.heap.size ≤ go ∧ go < wo.heap.size) := HO.out.block go rfl
      have HGS : Hid (∀ g ∈ gs, g < wo.heap.size) := fun g hg => (HO.out.lt g hg).2
      go_loopg [5, 6] n (fun q o i wr => ∃ (j : Nat) (A : Option Addr) (c : Nat), i = .int .i64 j ∧ j ≤ n ∧ n ≤ q + j ∧ o = .slice A j c ∧ Hid (RowI wr wo.heap.size 2 (.slice A j c) ((c0R 1000000000 n k).take j)) ∧ Hid (Below wo.heap.size wo wr))
      case atStart => exact ⟨0, _, _, rfl, by omega, by omega, rfl, RowI.made _ _ _ (Nat.le_refl _), (Below.refl _ _).alloc (Nat.le_refl _) _⟩
      case round =>
        obtain ⟨j, A, c, rfl, hj, hm2, rfl, HR, HB1⟩ := hrel
        obtain ⟨wi, rfl⟩ : ∃ x : World, x = wr := ⟨_, rfl⟩
        have hbi : Hid (Below w.heap.size w wi) := HB.out.trans (HB1.out.mono HB.out.size)
        have rr := HM.out.below hbi.out HM.out.lt
        have r0 := rr.cell 0; have r2 := rr.cell 2
        clear rr
        have hlk : Hid (((c0R 1000000000 n k).take j).length = j) := by show _ = _; rw [List.length_take, c0R_len]; omega
        by_cases hlt2 : j < n
        · have q2 : (j : Int) < (n : Int) := by omega
          have hs := HB1.out.size
          have hlen : Hid (((c0R 1000000000 n k).take j).length + 1 ≤ 4294967296) := by show _ ≤ _; rw [hlk.out]; omega
          have HT := Lib.hid (c0R_take (F := 1000000000) (i := k) hlt2)
          by_cases hkj : k = j
          · have q3 : ((k : Int) == (j : Int)) = true := by rw [beq_iff_eq]; omega
            have HKJ := Lib.hid hkj; clear hkj
            go_wp2_with (first | (at_builtin; refine wpList_int_push _ rfl (.tmp 33) (.tmp 34) _ rfl wo.heap.size 2 Try.underlying26 infoQ _ ((c0R 1000000000 n k).take j) rfl HR.out _ rfl hlen.out hs ?_; intro g' cap w' hown hbl hat hgr; clear hat hgr; have HOW := Lib.hid hown; have HBL := Lib.hid hbl; clear hown hbl))
            go_roundg (gk - 1)
            case measure => omega
            case rel =>
              refine ⟨j + 1, some ⟨g', 0, none⟩, cap, by go_num, by omega, by omega, by first | rw [hlk.out] | (rw [c0R_len, Nat.min_eq_left (by omega)]), ?_, HB1.out.trans HBL.out⟩
              show RowI _ _ _ _ _
              rw [HT.out, if_pos HKJ.out]
              have := HOW.out
              rw [hlk.out] at this
              exact this
          · have q3 : ((k : Int) == (j : Int)) = false := by rw [beq_eq_false_iff_ne]; omega
            have HKJ := Lib.hid hkj; clear hkj
            go_wp2_with (first | (at_builtin; refine wpList_int_push _ rfl (.tmp 36) (.tmp 37) _ rfl wo.heap.size 2 Try.underlying26 infoQ _ ((c0R 1000000000 n k).take j) rfl HR.out _ rfl hlen.out hs ?_; intro g' cap w' hown hbl hat hgr; clear hat hgr; have HOW := Lib.hid hown; have HBL := Lib.hid hbl; clear hown hbl))
            go_roundg (gk - 1)
            case measure => omega
            case rel =>
              refine ⟨j + 1, some ⟨g', 0, none⟩, cap, by go_num, by omega, by omega, by first | rw [hlk.out] | (rw [c0R_len, Nat.min_eq_left (by omega)]), ?_, HB1.out.trans HBL.out⟩
              show RowI _ _ _ _ _
              rw [HT.out, if_neg HKJ.out]
              have := HOW.out
              rw [hlk.out] at this
              exact this
        · have hjj : j = n := by omega
          have q2 : (n : Int) ≤ (j : Int) := by omega
          obtain ⟨g, cg, hv, hcg, hgl, hgs, _⟩ := HR.out.form (by rw [hlk.out]; omega)
          rw [hlk.out] at hv hcg
          injection hv with e1 _ e3
          subst e1; subst e3
          have HRW : Hid (RowI wi w.heap.size 2 (.slice (some ⟨g, 0, none⟩) j c) (c0R 1000000000 n k)) := by
            have := HR.out
            rw [List.take_of_length_le (by rw [c0R_len]; omega)] at this
            exact World.ownsRow.mono this HB.out.size
          have HOi : Hid (TabD wi w.heap.size (.slice (some ⟨go, 0, none⟩) k co) gs ((c0V 1000000000 n).take k)) := HO.out.keep HB1.out (Nat.le_refl _)
          have HNE : Hid ((Value.slice (some ⟨go, 0, none⟩) k co).ownBlock ≠ some g) := by
            intro e
            simp [Value.ownBlock] at e
            have := HGO.out.2; omega
          have HNG : Hid (g ∉ gs) := fun e => by have := HGS.out g e; omega
          have hlk2 : Hid (((c0V 1000000000 n).take k).length = k) := by show _ = _; rw [List.length_take, c0V_len]; omega
          have hlen : Hid (((c0V 1000000000 n).take k).length + 1 ≤ 4294967296) := by show _ ≤ _; rw [hlk2.out]; omega
          have HSL : Hid ((c0R 1000000000 n k).length = j) := by show _ = _; rw [c0R_len]; omega
          have HVT := Lib.hid (c0V_take (F := 1000000000) hlt)
          have hs := hbi.out.size
          clear hgl hgs hcg hjj hlt2
          go_wp2_with (first | (at_builtin; refine wpList_tabd_push wi rfl (.tmp 39) (.tmp 41) _ rfl w.heap.size Try.underlying35 infoR (.slice (some ⟨go, 0, none⟩) k co) gs ((c0V 1000000000 n).take k) rfl HOi.out g c j (c0R 1000000000 n k) HSL.out rfl HRW.out HNE.out HNG.out hlen.out hs ?_; intro g' cap w' hown hbl; have HOW := Lib.hid hown; have HBL := Lib.hid hbl; clear hown hbl))
          go_roundg (gz - 1)
          case measure => omega
          case rel =>
            refine ⟨k + 1, g', cap, gs ++ [g], by go_num, by omega, by omega, by first | rw [hlk2.out] | (rw [c0V_len, Nat.min_eq_left (by omega)]), ?_, hbi.out.trans HBL.out⟩
            show TabD _ _ _ _ _
            rw [HVT.out]
            have := HOW.out
            rw [hlk2.out] at this
            exact this
    · have hkk : k = n := by omega
      have q1 : (n : Int) ≤ (k : Int) := by omega
      have HCL : Hid (Clo w wo w.heap.size go k co gs (c0V 1000000000 k)) := by
        have := HO.out
        rw [List.take_of_length_le (by rw [c0V_len]; omega), ← hkk] at this
        exact ⟨this, c0_shp _ _, c0_bd (by omega) _, HB.out⟩
      subst hkk
      have hgw : w.heap.size ≤ wo.heap.size := HB.out.size
      clear HO HB
      go_wp2_with fail
      clear r0
      go_loopg [7, 8] L.length (fun q i u8 wr => ∃ (m : Nat) (C : List (List Int)), i = .int .i64 m ∧ m ≤ L.length ∧ L.length ≤ q + m ∧ Hid (Clo w wr w.heap.size go k co gs C) ∧ Hid (Ar0 1000000000 k (L.take m) C))
      case atStart => exact ⟨0, _, rfl, by omega, by omega, HCL.out, by rw [List.take_zero]; exact Ar0.start (by omega) _⟩
      case round =>
        clear HCL hgw
        obtain ⟨m, C, rfl, hmj, hm3, HCL, HA⟩ := hrel
        obtain ⟨wx, rfl⟩ : ∃ x : World, x = wr := ⟨_, rfl⟩
        have hgw : w.heap.size ≤ wx.heap.size := HCL.out.2.2.2.size
        have rr := HM.out.below HCL.out.2.2.2 HM.out.lt
        have r0 := rr.cell 0; have r2 := rr.cell 2
        clear rr
        by_cases hlt3 : m < L.length
        · obtain ⟨b, off, a0, a1, a2, a3, rfl, hbB, hx, c0, c1, c2', c3'⟩ := (H2.out.below HCL.out.2.2.2 (Nat.le_refl _)).at_ hlt3
          have ha := hL _ (List.mem_of_getElem? hx.out)
          simp only at ha
          obtain ⟨⟨f0, f1⟩, ⟨t0, t1⟩, p0, p1⟩ := ha
          obtain ⟨f, rfl⟩ : ∃ x : Nat, a0 = (x : Int) := ⟨a0.toNat, by omega⟩
          obtain ⟨t, rfl⟩ : ∃ x : Nat, a1 = (x : Int) := ⟨a1.toNat, by omega⟩
          have l1 : (m : Int) < (L.length : Int) := by omega
          have RA := Row.new wx 89 [.int .i64 f, .int .i64 t, .int .i64 a2, .int .i64 a3]
          have d0 := RA.cell 0; have d1 := RA.cell 1; have d2 := RA.cell 2; have d3 := RA.cell 3
          have HC1 := Lib.hid (HCL.out.alloc hgw (.cells ([.int .i64 f, .int .i64 t, .int .i64 a2, .int .i64 a3] : List Value).toArray 89))
          clear RA
          by_cases hneg : a2 < 0
          · obtain ⟨g, cg, r, hgs, hrC, hgb, k1, k2, k3⟩ := HC1.out.at_ (show f < k by omega)
            have k2t := k2 t (by omega)
            have k3t := k3 t
            have bt := HC1.out.2.2.1.gg (by omega) f t
            obtain ⟨x1, hx1⟩ : ∃ x, x = gg C f t := ⟨_, rfl⟩
            rw [← hx1] at k2t bt
            obtain ⟨bt0, bt1⟩ := bt
            have HST : Hid (Ar0 1000000000 k (L.take (m + 1)) (C.set f (r.set t (min x1 a3)))) := by
              have := HA.out.arc HC1.out.2.1 hx.out hneg (by omega) (by omega) hrC (by omega)
              rw [← hx1] at this; exact this
            have HGS := Lib.hid hgs; have HRC := Lib.hid hrC
            clear hx1 k2 k3 hgs hrC
            go_wp2_with fail
            refine wp_tail 20 (by kernel_rfl) (by kernel_rfl) (fun y hy => ?_)
            have y0 : y.cell? ⟨wx.heap.size, 0, none⟩ = some (.int .i64 f) := by rw [hy]; exact d0
            have y1 : y.cell? ⟨wx.heap.size, 1, none⟩ = some (.int .i64 t) := by rw [hy]; exact d1
            have y3 : y.cell? ⟨wx.heap.size, 3, none⟩ = some (.int .i64 a3) := by rw [hy]; exact d3
            have y4 : y.cell? ⟨go, f, none⟩ = some (.slice (some ⟨g, 0, none⟩) k cg) := by rw [hy]; exact k1
            have y5 : y.cell? ⟨g, t, none⟩ = some (.int .i64 x1) := by rw [hy]; exact k2t
            have y6 : y.frozen? ⟨g, t, none⟩ = false := by rw [hy]; exact k3t
            have HCy : Hid (Clo w y w.heap.size go k co gs C) := by rw [hy]; exact HC1.out.drewN (by simp; omega) 1
            clear hy k1 k2t k3t d0 d1 d2 d3 HC1 HCL
            simp only [List.take_succ_cons, List.take_zero, List.drop_succ_cons, List.drop_zero]
            repeat (first | still_step | still_call (sMinH _ _ _))
            refine wpStill_nil ?_
            go_wp2_with fail
            go_roundg (gk - 1)
            case measure => omega
            case rel => exact ⟨m + 1, _, by go_num, by omega, by omega, HCy.out.set HGS.out HRC.out hgb (by omega), HST.out⟩
          · have HST := Lib.hid (HA.out.skip hx.out hneg)
            have q3 : (0 : Int) ≤ a2 := by omega
            clear d0 d1 d3 hneg
            go_wp2_with fail
            go_roundg (gk - 1)
            case measure => omega
            case rel => exact ⟨m + 1, C, by go_num, by omega, by omega, HC1.out, HST.out⟩
        · have hmm : m = L.length := by omega
          have q3 : (L.length : Int) ≤ (m : Int) := by omega
          have HMD : Hid (Mdn 1000000000 k (Em L) 0 (gg C)) := by
            have := HA.out
            rw [hmm, List.take_length] at this
            exact this.mdn
          have q4 : decide (m < L.length) = false := decide_eq_false hlt3
          clear hmm hlt3 HA
          go_wp2_with fail
          clear r0 r2
          go_loopg [9, 10, 11] k (fun q j u10 u11 wr => ∃ (z : Nat) (C : List (List Int)), j = .int .i64 z ∧ z ≤ k ∧ k ≤ q + z ∧ Hid (Clo w wr w.heap.size go k co gs C) ∧ Hid (Mdn 1000000000 k (Em L) z (gg C)))
          case atStart => exact ⟨0, _, rfl, by omega, by omega, HCL.out, HMD.out⟩
          case round =>
            clear HCL HMD hgw
            obtain ⟨z, C, rfl, hz, hm4, HCL, HMD⟩ := hrel
            obtain ⟨wj, rfl⟩ : ∃ x : World, x = wr := ⟨_, rfl⟩
            have rr := HM.out.below HCL.out.2.2.2 HM.out.lt
            have r0 := rr.cell 0
            clear rr
            by_cases hltz : z < k
            · have qz : (z : Int) < (k : Int) := by omega
              go_wp2_with fail
              clear r0
              obtain ⟨g1, hg1⟩ : ∃ x : Nat, x = gk := ⟨_, rfl⟩
              go_loopg [10, 11] k (fun q i u11 wr => ∃ (p : Nat) (C : List (List Int)), i = .int .i64 p ∧ p ≤ k ∧ k ≤ q + p ∧ Hid (Clo w wr w.heap.size go k co gs C) ∧ Hid (MdC 1000000000 k L z p 0 C))
              case atStart => exact ⟨0, _, rfl, by omega, by omega, HCL.out, HMD.out.start |> fun _ => MdC.start HMD.out⟩
              case round =>
                clear HCL HMD
                obtain ⟨p, C, rfl, hp, hm5, HCL, HMD⟩ := hrel
                obtain ⟨wk, rfl⟩ : ∃ x : World, x = wr := ⟨_, rfl⟩
                have rr := HM.out.below HCL.out.2.2.2 HM.out.lt
                have r0 := rr.cell 0
                clear rr
                by_cases hltp : p < k
                · have qp : (p : Int) < (k : Int) := by omega
                  go_wp2_with fail
                  clear r0
                  obtain ⟨g2, hg2⟩ : ∃ x : Nat, x = gk := ⟨_, rfl⟩
                  go_loopg [11] k (fun q i wr => ∃ (s : Nat) (C : List (List Int)), i = .int .i64 s ∧ s ≤ k ∧ k ≤ q + s ∧ Hid (Clo w wr w.heap.size go k co gs C) ∧ Hid (MdC 1000000000 k L z p s C))
                  case atStart => exact ⟨0, _, rfl, by omega, by omega, HCL.out, HMD.out⟩
                  case round =>
                    clear HCL HMD
                    obtain ⟨s, C, rfl, hs, hm6, HCL, HMD⟩ := hrel
                    obtain ⟨wl, rfl⟩ : ∃ x : World, x = wr := ⟨_, rfl⟩
                    have hgw : w.heap.size ≤ wl.heap.size := HCL.out.2.2.2.size
                    have rr := HM.out.below HCL.out.2.2.2 HM.out.lt
                    have r0 := rr.cell 0
                    clear rr
                    by_cases hlts : s < k
                    · have qs : (s : Int) < (k : Int) := by omega
                      obtain ⟨gi, ci, ri, hgi, hri, hgb, k1, k2, k3⟩ := HCL.out.at_ hltp
                      obtain ⟨gj, cj, rj, hgj, hrj, hgbj, k1', k2', k3'⟩ := HCL.out.at_ hltz
                      have u1 := k2 s hlts
                      have u2 := k2 z hltz
                      have u3 := k2' s hlts
                      have u4 := k3 s
                      obtain ⟨b10, b11⟩ := HCL.out.2.2.1.gg (by omega) p s
                      obtain ⟨b20, b21⟩ := HCL.out.2.2.1.gg (by omega) p z
                      obtain ⟨b30, b31⟩ := HCL.out.2.2.1.gg (by omega) z s
                      have hst := MdC.step (by omega) hL HMD.out HCL.out.2.1 hltz hltp hlts hri
                      obtain ⟨x1, hx1⟩ : ∃ x, x = gg C p s := ⟨_, rfl⟩
                      obtain ⟨x2, hx2⟩ : ∃ x, x = gg C p z := ⟨_, rfl⟩
                      obtain ⟨x3, hx3⟩ : ∃ x, x = gg C z s := ⟨_, rfl⟩
                      rw [← hx1, ← hx2, ← hx3] at hst
                      rw [← hx1] at u1 b10 b11
                      rw [← hx2] at u2 b20 b21
                      rw [← hx3] at u3 b30 b31
                      have HST := Lib.hid hst
                      have e1 : IntKind.i64.wrap (x2 + x3) = x2 + x3 := IntWalk.i64_in _ (by omega)
                      have HGI := Lib.hid hgi; have HRI := Lib.hid hri
                      clear hx1 hx2 hx3 k2 k3 k2' k3' hst hgi hri hgj hrj
                      go_wp2_with fail
                      clear r0
                      refine wp_tail 29 (by kernel_rfl) (by kernel_rfl) (fun y hy => ?_)
                      have y1 : y.cell? ⟨go, p, none⟩ = some (.slice (some ⟨gi, 0, none⟩) k ci) := by rw [hy]; exact k1
                      have y2 : y.cell? ⟨go, z, none⟩ = some (.slice (some ⟨gj, 0, none⟩) k cj) := by rw [hy]; exact k1'
                      have y3 : y.cell? ⟨gi, s, none⟩ = some (.int .i64 x1) := by rw [hy]; exact u1
                      have y4 : y.cell? ⟨gi, z, none⟩ = some (.int .i64 x2) := by rw [hy]; exact u2
                      have y5 : y.cell? ⟨gj, s, none⟩ = some (.int .i64 x3) := by rw [hy]; exact u3
                      have y6 : y.frozen? ⟨gi, s, none⟩ = false := by rw [hy]; exact u4
                      have HCy : Hid (Clo w y w.heap.size go k co gs C) := by rw [hy]; exact HCL.out.drewN hgw 1
                      clear hy k1 k1' u1 u2 u3 u4 HCL HMD
                      simp only [List.take_succ_cons, List.take_zero, List.drop_succ_cons, List.drop_zero]
                      repeat (first | still_step | still_call (sMinH _ _ _))
                      refine wpStill_nil ?_
                      go_wp2_with fail
                      go_roundg (gk - 1)
                      case measure => omega
                      case rel => exact ⟨s + 1, _, by go_num, by omega, by omega, HCy.out.set HGI.out HRI.out hgb (by omega), HST.out⟩
                    · have hss : s = k := by omega
                      have qs : (k : Int) ≤ (s : Int) := by omega
                      have HST : Hid (MdC 1000000000 k L z (p + 1) 0 C) := by have := HMD.out; rw [hss] at this; exact this.row
                      clear hss hlts
                      go_wp2_with fail
                      go_roundg (g2 - 1)
                      case measure => omega
                      case rel => exact ⟨p + 1, C, by go_num, by omega, by omega, HCL.out, HST.out⟩
                · have hpp : p = k := by omega
                  have qp : (k : Int) ≤ (p : Int) := by omega
                  have HST : Hid (Mdn 1000000000 k (Em L) (z + 1) (gg C)) := by have := HMD.out; rw [hpp] at this; exact this.done
                  clear hpp hltp
                  go_wp2_with fail
                  go_roundg (g1 - 1)
                  case measure => omega
                  case rel => exact ⟨z + 1, C, by go_num, by omega, by omega, HCL.out, HST.out⟩
            · have hzz : z = k := by omega
              have qz : (k : Int) ≤ (z : Int) := by omega
              have HST : Hid (∀ i q, i < k → q < k → Lst 1000000000 (gg C i q) (Wy (Em L) i q)) := by have := HMD.out; rw [hzz] at this; exact this.whole (fun i q c h => (hL.em h).2.1)
              clear hzz hltz
              go_wp2_with fail
              go_ret
              exact ⟨go, co, C, rfl, HCL.out.1.tab, ⟨HCL.out.2.1, HCL.out.2.2.1, HST.out⟩, HCL.out.2.2.2⟩
end Go.Proofs.Ytedbngnkkfpbeaa
