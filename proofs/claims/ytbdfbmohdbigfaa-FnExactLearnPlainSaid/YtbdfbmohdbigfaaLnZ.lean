/- LearnPlain of the reference. -/
import Derived.Test.YtbdfbmohdbigfaaLnH
import Derived.Deep.LoopGhost
import Derived.Deep.CutRange

namespace Go.Proofs.Ytbdfbmohdbigfaa
open Go.RowKit Go.Maps
set_option linter.unusedVariables false
theorem PlOk.vpb {w : World} {S T : Nat} {A2 : Option Addr} {n2 : Nat} {A3 : Option Addr} {n3 : Nat} {P : List Int} {E : List Bool} (h : PlOk w S T A2 n2 A3 n3 P E) : vpB (S : Int) (T : Int) n2 n3 P = true := by
  have hS := h.hS; have hT := h.hT
  unfold vpB inB
  rw [allIn_ofN h.hP, h.hn, h.hE]
  simp
  omega
theorem PlOk.validS {w : World} {g S T : Nat} {A2 : Option Addr} {n2 c2 : Nat} {A3 : Option Addr} {n3 c3 : Nat} {P : List Int} {E : List Bool} (h : PlOk w S T A2 n2 A3 n3 P E) (hr : Row w g 33 (BxP (S : Int) (T : Int) A2 n2 c2 A3 n3 c3)) :
    Calls Try.prog 78 #[.pointer (some ⟨g, 0, none⟩)] w fun e w' => e = .returned (.bool true) ∧ Below w.heap.size w w' := by
  have hS := h.hS; have hT := h.hT
  have hm : S * T ≤ 64 * 4 := Nat.mul_le_mul hS.2 hT.2
  have C := sPlain_any g (S : Int) (T : Int) A2 n2 c2 A3 n3 c3 P w hr h.h2 (by rw [h.hn]; omega)
  rw [h.vpb] at C
  exact C

set_option maxRecDepth 100000 in
set_option maxHeartbeats 16000000 in
theorem sLearn_yes (S T : Nat) (A2 : Option Addr) (n2 c2 : Nat) (A3 : Option Addr) (n3 c3 : Nat) (P : List Int) (E : List Bool) (r : List Int × List Bool × Nat) (w : World) (hte : TeO S T P E) (h2 : SlI w w.heap.size A2 n2 P) (h3 : SlB w w.heap.size A3 n3 E) (hr : lnAll T P E = some r) :
    Calls Try.prog 28 #[.agg #[.int .i64 (S : Int), .int .i64 (T : Int), .slice A2 n2 c2, .slice A3 n3 c3]] w fun e w' => ∃ v, e = .returned (.tuple #[v, .int .i64 (r.2.2 : Int), .bool true]) ∧ PlW w' w.heap.size v (r.2.1.length : Int) (T : Int) r.1 r.2.1 ∧ Below w.heap.size w w' := by
  have hok := hte.plok h2 h3
  have r1 := (Row.new w 33 (BxP (S : Int) (T : Int) A2 n2 c2 A3 n3 c3)).alloc (.cells ([.int .i64 0, .int .i64 0, .slice none 0 0, .slice none 0 0] : List Value).toArray 33)
  have r2 := Row.new (w.alloc (.cells (BxP (S : Int) (T : Int) A2 n2 c2 A3 n3 c3).toArray 33)) 33 [.int .i64 0, .int .i64 0, .slice none 0 0, .slice none 0 0]
  rw [show (w.alloc (.cells (BxP (S : Int) (T : Int) A2 n2 c2 A3 n3 c3).toArray 33)).heap.size = w.heap.size + 1 by simp] at r2
  have hb0 : Below w.heap.size w ((w.alloc (.cells (BxP (S : Int) (T : Int) A2 n2 c2 A3 n3 c3).toArray 33)).alloc (.cells ([.int .i64 0, .int .i64 0, .slice none 0 0, .slice none 0 0] : List Value).toArray 33)) := ((Below.refl _ _).alloc (Nat.le_refl _) _).alloc (by simp) _
  have hs0 : ((w.alloc (.cells (BxP (S : Int) (T : Int) A2 n2 c2 A3 n3 c3).toArray 33)).alloc (.cells ([.int .i64 0, .int .i64 0, .slice none 0 0, .slice none 0 0] : List Value).toArray 33)).heap.size = w.heap.size + 2 := by simp
  obtain ⟨x0, hx0⟩ : ∃ x, x = ((w.alloc (.cells (BxP (S : Int) (T : Int) A2 n2 c2 A3 n3 c3).toArray 33)).alloc (.cells ([.int .i64 0, .int .i64 0, .slice none 0 0, .slice none 0 0] : List Value).toArray 33)) := ⟨_, rfl⟩
  rw [← hx0] at r1 r2 hb0 hs0
  have HV := Lib.hid ((hok.below hb0 (Nat.le_refl _)).validS r1)
  have HTE := Lib.hid hte; have HOK := Lib.hid hok; have HR := Lib.hid hr; have R1 := Lib.hid r1; have R2 := Lib.hid r2; have HB0 := Lib.hid hb0; have HS0 := Lib.hid hs0
  have HT4 : Hid (1 ≤ T ∧ T ≤ 4) := hte.hT
  clear hok r1 r2 hb0 hs0 hte hr h2 h3
  go_enter Try.func28, Try.ntmps28
  go_wp2_with fail
  change Calls _ _ _ ((w.alloc (.cells (BxP (S : Int) (T : Int) A2 n2 c2 A3 n3 c3).toArray 33)).alloc (.cells ([.int .i64 0, .int .i64 0, .slice none 0 0, .slice none 0 0] : List Value).toArray 33)) _
  rw [← hx0]
  clear hx0
  refine HV.out.mono ?_
  rintro e w1 ⟨rfl, hb1⟩
  have HB1 := Lib.hid hb1
  clear hb1 HV
  go_wp2_with fail

  go_loopg [5, 6, 7] 65 (fun m v5 v6 v7 wr => ∃ (g1 c1 gq cq : Nat) (W : List (List Nat)) (ws : List Value) (Q : List (List Nat)) (qs : List Value) (c : Nat), v5 = .slice (some ⟨g1, 0, none⟩) W.length c1 ∧ v6 = .slice (some ⟨gq, 0, none⟩) Q.length cq ∧ v7 = .int .i64 (c : Int) ∧ Hid (c + m = 66) ∧ Hid (lnE T P E m Q W c = some r) ∧ Hid (Ln x0 wr (w.heap.size + 2) g1 c1 gq cq (fun _ => False) W ws Q qs) ∧ Hid (WdO T P E Q W) ∧ Hid ([] ∈ Q) ∧ Hid (∀ q ∈ Q, (∀ y ∈ q, y < T) ∧ q.length ≤ 12) ∧ Hid (Q.length + 12 * m ≤ 800) ∧ Hid (SmL ws) ∧ Hid (SmL qs))
  case atStart => exact ⟨_, _, _, _, [[]], _, [[]], _, 1, rfl, rfl, rfl, rfl, HR.out, Ln.start (HB1.out.mono (by rw [HS0.out]; exact Nat.le_refl _)) (by rw [HS0.out]; exact Nat.le_refl _), WdO.start T P E, List.mem_singleton.2 rfl, (fun q hq => by rw [List.mem_singleton.1 hq]; exact ⟨(fun y hy => by cases hy), Nat.zero_le _⟩), (show 1 + 12 * 65 ≤ 800 by omega), (fun u hu => ⟨_, _, _, _, List.mem_singleton.1 hu⟩), (fun u hu => ⟨_, _, _, _, List.mem_singleton.1 hu⟩)⟩
  case round =>
    obtain ⟨g1, c1, gq, cq, W, ws, Q, qs, c, rfl, rfl, rfl, HC, HE, HL, HWD, HNQ, HQL, HQC, HMW, HMQ⟩ := hrel
    obtain ⟨wo, rfl⟩ : ∃ x : World, x = wr := ⟨_, rfl⟩
    obtain ⟨f, hf⟩ : ∃ f, gk = f + 1 := by
      have h := HE.out
      rcases gk with _ | f
      · cases h
      · exact ⟨f, rfl⟩
    obtain ⟨go1, hgo1⟩ : ∃ q : Nat, q = gk := ⟨_, rfl⟩
    rw [← hgo1] at HC HQC hf
    have HF := Lib.hid hf
    have HE2 : Hid (lnE T P E (f + 1) Q W c = some r) := by have h := HE.out; rw [← hgo1, hf] at h; exact h
    have WC : IntKind.i64.wrap ((c : Int) + 1) = (c : Int) + 1 := IntWalk.i64_in _ (by have := HC.out; omega)
    clear HR HB1 HE hf
    have hlo := HL.out
    have hbw : Below w.heap.size w wo := HB0.out.trans (hlo.bel.mono (by omega))
    have HBW := Lib.hid hbw
    have hsz := hlo.size
    have HWO := Lib.hid hsz
    have hbox : Row wo w.heap.size 33 (BxP (S : Int) (T : Int) A2 n2 c2 A3 n3 c3) := R1.out.below hlo.bel (by omega)
    have CG : Hid (Calls Try.prog 79 #[.pointer (some ⟨w.heap.size, 0, none⟩), .slice (some ⟨g1, 0, none⟩) W.length c1, .slice (some ⟨gq, 0, none⟩) Q.length cq] wo (GvPost (fun b => b = gq ∨ (fun _ => False) b) S T P E Q W (w.heap.size + 2) g1 wo)) := by
      refine sGuess_any w.heap.size S T A2 n2 c2 A3 n3 c3 P E (w.heap.size + 2) g1 c1 W ws (some ⟨gq, 0, none⟩) Q.length cq Q wo HTE.out HWD.out (fun q hq => (HQL.out q hq).1) (fun q hq => by have := (HQL.out q hq).2; omega) (by have := HQC.out; omega) hlo.o1 (fun b => b = gq ∨ (fun _ => False) b) (fun b hb => hb.elim (fun hb => by have := hlo.ltq; omega) (fun hb => hb.elim)) hlo.e1 HMW.out hbox (by have := hlo.lt1; omega) (fun x hx => ?_) (fun x hx => ?_)
      · exact HOK.out.below (hbw.trans (hx.bel (by omega) (by have := hlo.lt1; omega))) (Nat.le_refl _)
      · refine tss_own hlo.oq hlo.eq HMQ.out hx.2.2.2.1 (fun b hb hn => hx.2.2.2.2 b hb (fun e => hn (.inr (.inl e)))) (hx.2.2.2.2 gq hlo.ltq.2 (fun e => hlo.ne e.symm))
    clear hlo hbw hsz hbox
    go_wp2_with fail
    refine CG.out.mono ?_
    rintro e w2 ⟨g', c', ws', v, rfl, ho2, he2, hm2, hg2, hv2, hl2⟩
    have HL2 := Lib.hid (HL.out.guess ho2 he2 hg2 hl2)
    have HM2 := Lib.hid hm2
    have hgs := gs_ok HTE.out HWD.out
    have HGS := Lib.hid hgs
    have hdl : (gsD T P E Q W).length = (gsW T P E Q W).length := by unfold gsD; simp
    have HDL := Lib.hid hdl
    obtain ⟨A4, c4, A5, c5, rfl, hp2⟩ := PlW.plok hgs hv2
    rw [hdl] at hp2 hv2
    have HV2 := Lib.hid hv2; have HP2 := Lib.hid hp2
    clear ho2 he2 hm2 hg2 hv2 hp2 hl2 CG hgs HL HMW
    rw [hdl]
    go_upto_region 8 with fail

    obtain ⟨w3, hw3⟩ : ∃ x, x = w2.alloc (.cells ([.int .i64 ((gsW T P E Q W).length : Int), .int .i64 (T : Int), .slice A4 (gsP T P E Q W).length c4, .slice A5 (gsW T P E Q W).length c5] : List Value).toArray 33) := ⟨_, rfl⟩
    have hb3 : Below w2.heap.size w2 w3 := by rw [hw3]; exact (Below.refl _ _).alloc (Nat.le_refl _) _
    have hr3 : Row w3 w2.heap.size 33 [.int .i64 ((gsW T P E Q W).length : Int), .int .i64 (T : Int), .slice A4 (gsP T P E Q W).length c4, .slice A5 (gsW T P E Q W).length c5] := by rw [hw3]; exact Row.new w2 33 _
    try rw [← hw3]
    have HL3 := Lib.hid (HL2.out.call hb3 (Nat.le_refl _))
    have HV3 := Lib.hid (HV2.out.keep hb3 (Nat.le_refl _))
    have HP3 := Lib.hid (HP2.out.below hb3 (Nat.le_refl _))
    have HR3 := Lib.hid hr3
    have CV := Lib.hid (HP3.out.validS (c2 := c4) (c3 := c5) hr3)
    have HSZ3 : Hid (w2.heap.size < w3.heap.size) := hr3.lt
    obtain ⟨gp, hgp⟩ : ∃ q, q = w2.heap.size := ⟨_, rfl⟩
    rw [← hgp] at HR3 CV HSZ3 ⊢
    have HGP : Hid (w.heap.size + 2 ≤ gp) := by show _ ≤ _; rw [hgp]; exact HL2.out.size
    clear hw3 hb3 hr3 hgp hdl HL2 HV2 HP2
    go_wp2_with fail
    refine CV.out.mono ?_
    rintro e w4 ⟨rfl, hb4⟩
    have hr4 := HR3.out.below hb4 HR3.out.lt
    have HR4 := Lib.hid hr4
    have HL4 := Lib.hid (HL3.out.call hb4 (Nat.le_refl _))
    have HV4 := Lib.hid (HV3.out.keep hb4 (Nat.le_refl _))
    have HP4 := Lib.hid (HP3.out.below hb4 (Nat.le_refl _))
    have hbox4 : Row w4 w.heap.size 33 (BxP (S : Int) (T : Int) A2 n2 c2 A3 n3 c3) := R1.out.below HL4.out.bel (by omega)
    have HT4' : Hid (PlOk w4 S T A2 n2 A3 n3 P E) := HOK.out.below (HB0.out.trans (HL4.out.bel.mono (by omega))) (Nat.le_refl _)
    have CF := Lib.hid (sApart_any w.heap.size gp S (gsW T P E Q W).length T A2 n2 c2 A3 n3 c3 P E A4 (gsP T P E Q W).length c4 A5 (gsW T P E Q W).length c5 (gsP T P E Q W) (gsD T P E Q W) w4 hbox4 hr4 HT4'.out HP4.out)
    have hcut := fuAll_cut (nx := plX T P (gsP T P E Q W)) (df := plD E (gsD T P E Q W)) (first := ((0, 0) : Nat × Nat)) (T := T)
    rw [show faAll (plX T P (gsP T P E Q W)) (plD E (gsD T P E Q W)) (0, 0) T = lnF T P E Q W from rfl] at hcut
    obtain ⟨fu, hfu⟩ : ∃ x, x = fuAll (plX T P (gsP T P E Q W)) (plD E (gsD T P E Q W)) ((0, 0) : Nat × Nat) T := ⟨_, rfl⟩
    rw [← hfu] at hcut CF
    clear hr4 hbox4 hb4 hfu CV HL3 HV3 HP3 HR3
    go_wp2_with fail
    cases hf : lnF T P E Q W with
    | none =>
      rw [hf] at hcut
      have hrr : r = ((gsP T P E Q W), (gsD T P E Q W), c) := by
        have h := HE2.out
        rw [lnE, hf] at h
        exact (Option.some.inj h).symm
      have HRR := Lib.hid hrr
      have CFN : Hid (Calls Try.prog 80 #[.pointer (some ⟨w.heap.size, 0, none⟩), .pointer (some ⟨gp, 0, none⟩)] w4 fun e y => ∃ A n cw, e = .returned (.tuple #[.slice A n cw, .bool false]) ∧ Below w4.heap.size w4 y) := by
        refine CF.out.mono ?_
        rintro e y ⟨hb, hm⟩
        cases fu with
        | none => exact ⟨_, _, _, hm, hb⟩
        | some wd =>
          obtain ⟨b, o, cw, rfl, -⟩ := hm
          have hlong : ¬ wd.length ≤ 12 := fun h => by
            rw [show (some wd).bind (fun wd => if wd.length ≤ 12 then some wd else none) = (if wd.length ≤ 12 then some wd else none) from rfl, if_pos h] at hcut
            cases hcut
          rw [decide_eq_false hlong]
          exact ⟨_, _, _, rfl, hb⟩
      clear hrr hf hcut CF
      refine CFN.out.mono ?_
      rintro e w5 ⟨Af, nf, cf, rfl, hb5⟩
      have hr5 := HR4.out.below hb5 HR4.out.lt
      have HL5 := Lib.hid (HL4.out.call hb5 (Nat.le_refl _))
      have HV5 := Lib.hid (HV4.out.keep hb5 (Nat.le_refl _))
      have hres := R2.out.below HL5.out.bel (by omega)
      have HRES := Lib.hid hres
      clear CFN hb5
      have p0 := hr5.cell 0; have p1 := hr5.cell 1; have p2 := hr5.cell 2; have p3 := hr5.cell 3
      have k0 := hres.cell 0; have k1 := hres.cell 1; have k2 := hres.cell 2; have k3 := hres.cell 3
      have f0 := hres.frozen 0; have f1 := hres.frozen 1; have f2 := hres.frozen 2; have f3 := hres.frozen 3
      have hgr : w.heap.size + 1 ≠ gp := by have := HGP.out; omega
      clear hr5 hres
      go_wp2_with fail
      clear p0 p1 p2 p3 k0 k1 k2 k3 f0 f1 f2 f3
      have hF := ((((HRES.out.set_ 0 (.int .i64 ((gsW T P E Q W).length : Int))).set_ 1 (.int .i64 (T : Int))).set_ 2 (.slice A4 (gsP T P E Q W).length c4)).set_ 3 (.slice A5 (gsW T P E Q W).length c5))
      refine bodyPost_ret (results_cell3 rfl _ _ (w.heap.size + 1) 33 #[.int .i64 ((gsW T P E Q W).length : Int), .int .i64 (T : Int), .slice A4 (gsP T P E Q W).length c4, .slice A5 (gsW T P E Q W).length c5] (0, 0) _ (.int .i64 (c : Int)) (.bool true) rfl rfl rfl hF Try.underlying33 rfl (by kernel_rfl)) rfl ?_
      clear hF
      obtain ⟨wF, hwF⟩ : ∃ x, x = ((((w5.setCell ⟨w.heap.size + 1, 0, none⟩ (.int .i64 ((gsW T P E Q W).length : Int))).setCell ⟨w.heap.size + 1, 1, none⟩ (.int .i64 (T : Int))).setCell ⟨w.heap.size + 1, 2, none⟩ (.slice A4 (gsP T P E Q W).length c4)).setCell ⟨w.heap.size + 1, 3, none⟩ (.slice A5 (gsW T P E Q W).length c5)) := ⟨_, rfl⟩
      rw [← hwF]
      have hs : wF.heap.size = w5.heap.size := by rw [hwF]; exact set4_size _ _ _ _ _ _
      have hk : ∀ b, b ≠ w.heap.size + 1 → wF.heap[b]? = w5.heap[b]? := fun b hb => by rw [hwF]; exact set4_heap _ _ _ _ _ _ _ hb
      have hot : wF.os = w5.os ∧ wF.tape = w5.tape ∧ wF.output = w5.output := by rw [hwF]; exact ⟨rfl, rfl, rfl⟩
      have hsl := HL5.out.size
      have hwb := HBW.out.size
      refine ⟨.agg #[.int .i64 ((gsW T P E Q W).length : Int), .int .i64 (T : Int), .slice A4 (gsP T P E Q W).length c4, .slice A5 (gsW T P E Q W).length c5], by rw [HRR.out], ?_, ?_⟩
      · rw [HRR.out]
        show PlW wF w.heap.size _ ((gsD T P E Q W).length : Int) (T : Int) (gsP T P E Q W) (gsD T P E Q W)
        have hwo : w.heap.size + 2 ≤ wo.heap.size := HWO.out
        have h9 := (HV5.out.kp (lo := w.heap.size + 1) (hi := w.heap.size + 2) (w' := wF) ⟨hot.1, hot.2.1, hot.2.2, by omega, fun k _ hn => hk k (by omega)⟩ hwo).lower (b := w.heap.size) (by omega)
        rw [HDL.out]
        exact h9
      · exact HB0.out.trans ((HL5.out.bel.mono (by omega)).trans ⟨hot.1, hot.2.1, hot.2.2, by omega, fun k hk' => hk k (by omega)⟩)

    | some wd =>
      have hlw := lnF_law HTE.out HWD.out
      rw [hf] at hlw
      obtain ⟨h12, xs, rfl, hxT, -⟩ := hlw
      rw [natW_len] at h12
      rw [hf] at hcut
      have CFS : Hid (Calls Try.prog 80 #[.pointer (some ⟨w.heap.size, 0, none⟩), .pointer (some ⟨gp, 0, none⟩)] w4 fun e y => ∃ b o cw, e = .returned (.tuple #[.slice (some ⟨b, o, none⟩) xs.length cw, .bool true]) ∧ xs.length ≤ cw ∧ w4.heap.size ≤ b ∧ SlI y y.heap.size (some ⟨b, o, none⟩) xs.length (natW xs) ∧ Below w4.heap.size w4 y) := by
        refine CF.out.mono ?_
        rintro e y ⟨hb, hm⟩
        cases fu with
        | none => cases hcut
        | some wd' =>
          rw [show (some wd').bind (fun wd => if wd.length ≤ 12 then some wd else none) = (if wd'.length ≤ 12 then some wd' else none) from rfl] at hcut
          split at hcut
          · rename_i h12'
            obtain rfl := Option.some.inj hcut
            obtain ⟨b, o, cw, rfl, h5, h7, h6⟩ := hm
            rw [decide_eq_true h12']
            rw [natW_len] at h5 h6 ⊢
            exact ⟨b, o, cw, rfl, h5, h7, h6, hb⟩
          · cases hcut
      have hlq : lnQ Q W (natW xs) = tsA xs Q xs.length := by unfold lnQ; rw [faAll_nat, natW_len]
      have HEN : Hid (lnE T P E f (tsA xs Q xs.length) (gsW T P E Q W) (c + 1) = some r) := by
        have h := HE2.out
        rw [lnE, hf] at h
        rw [← hlq]
        exact h
      have hgw := ln_grows HTE.out HWD.out HNQ.out hf
      rw [hlq] at hgw
      have HGW := Lib.hid hgw; have H12 := Lib.hid h12; have HXT := Lib.hid hxT
      clear hlq hgw h12 hxT CF hf hcut
      refine CFS.out.mono ?_
      rintro e w5 ⟨b, off, cw, rfl, hcw, hbl5, hsl5, hb5⟩
      have HL5 := Lib.hid (HL4.out.call hb5 (Nat.le_refl _))
      have HSL5 := Lib.hid hsl5; have HCW := Lib.hid hcw; have HBL5 := Lib.hid hbl5
      have HS5 : Hid (gq < w4.heap.size) := HL4.out.ltq.2
      clear hb5 hsl5 hcw hbl5 CFS
      go_wp2_with fail
      go_loopg [6, 12] xs.length (fun m v6 i wr => ∃ (gz cz k : Nat) (qz : List Value), v6 = .slice (some ⟨gz, 0, none⟩) (tsA xs Q k).length cz ∧ i = .int .i64 (k : Int) ∧ k ≤ xs.length ∧ xs.length ≤ m + k ∧ Hid (Ln x0 wr (w.heap.size + 2) g' c' gz cz (fun _ => False) (gsW T P E Q W) ws' (tsA xs Q k) qz) ∧ Hid (SlI wr wr.heap.size (some ⟨b, off, none⟩) xs.length (natW xs)) ∧ Hid (w5.heap.size ≤ wr.heap.size) ∧ Hid (gz = gq ∨ w5.heap.size ≤ gz) ∧ Hid ((tsA xs Q k).length ≤ Q.length + k) ∧ Hid (SmL qz))
      case atStart => exact ⟨gq, cq, 0, qs, rfl, rfl, by omega, by omega, HL5.out, HSL5.out, Nat.le_refl _, .inl rfl, Nat.le_refl _, HMQ.out⟩
      case round =>
        obtain ⟨gz, cz, k, qz, rfl, rfl, hk, hm, HLz, HSL, HSZ, HGZ, HTL, HMZ⟩ := hrel
        obtain ⟨wi, rfl⟩ : ∃ x : World, x = wr := ⟨_, rfl⟩
        have hqc := HQC.out
        have hh12 := H12.out
        have hq100 : (tsA xs Q k).length ≤ 100000 := by have := HTL.out; omega
        have HQ100 := Lib.hid hq100
        clear hqc hh12 hq100
        by_cases hlt : k < xs.length
        · obtain ⟨bb, oo, x, e, hbw5, -, -⟩ := HSL5.out.at_ hlt
          have hbb : bb = b := by
            simp only [Option.some.injEq, Addr.mk.injEq] at e
            exact e.1.symm
          rw [hbb] at hbw5
          clear e hbb
          have hcw := HCW.out
          have l0 : (0 : Int) ≤ (k : Int) := by omega
          have l1 : (k : Int) < (xs.length : Int) := by omega
          have l2 : (xs.length : Int) ≤ (cw : Int) := by omega
          have l3 : (k : Int) ≤ (xs.length : Int) := by omega
          have WK : IntKind.i64.wrap ((k : Int) + 1) = (k : Int) + 1 := IntWalk.i64_in _ (by have := H12.out; omega)
          have HBZ : Hid (b ≠ gz) := by show _ ≠ _; have := HS5.out; have := HGZ.out; have := HBL5.out; omega
          have HBW5 := Lib.hid hbw5
          have HDX : Hid ((xs.drop k).length = xs.length - k) := by show _ = _; exact List.length_drop ..
          have HDP : Hid (0 < xs.length - k) := by show _ < _; omega
          have hsub : SlI wi wi.heap.size (some ⟨b, off + k, none⟩) (xs.length - k) (natW (xs.drop k)) := by
            have h := HSL.out.subN (p := k) (k := xs.length - k) (by omega)
            rw [show ((natW xs).drop k).take (xs.length - k) = natW (xs.drop k) from by
              unfold natW
              rw [← List.map_drop, List.take_of_length_le (by simp)]] at h
            exact h
          have hb0 : Below wi.heap.size wi (wi.alloc (.cells #[] 2)) := (Below.refl _ _).alloc (Nat.le_refl _) _
          have HCC : Hid (∀ j u, (iv (natW (xs.drop k)))[j]? = some u → (wi.alloc (.cells #[] 2)).cell? ⟨b, off + k + j, none⟩ = some u) := slI_cells (hsub.below hb0 (Nat.le_refl _))
          have HO : Hid ((wi.alloc (.cells #[] 2)).ownsRow wi.heap.size 2 1 (.slice (some ⟨wi.heap.size, 0, none⟩) 0 0) 0 []) := World.ownsRow_made wi #[] 0 (Nat.le_refl _) (by unfold maxLen; omega) rfl
          have HLX : Hid ((iv (natW (xs.drop k))).length = (xs.length - k) * 1) := by show _ = _; rw [iv_length, natW_len, HDX.out]; omega
          have HNB : Hid (0 + (xs.length - k) ≤ 4294967296) := by show _ ≤ _; have := H12.out; omega
          have HB0' := Lib.hid hb0
          clear hcw hbw5 hsub hb0
          go_wp2_with (first
            | (at_builtin; refine wpList_cells_push rfl (.tmp 47) (.tmp 50) _ rfl wi.heap.size 2 (.int .i64 0) 1 8 Try.underlying26 infoIU rfl (by omega) (by omega) (.slice (some ⟨wi.heap.size, 0, none⟩) 0 0) 0 [] rfl HO.out b (off + k) (xs.length - k) (cw - k) (iv (natW (xs.drop k))) rfl HLX.out HCC.out (iv_one _) HNB.out HB0'.out.size ?_; intro v' w7 hown hgr hat; obtain ⟨A', c9, hv', q1, q2⟩ := own_form hown; subst hv'; have HG := Lib.hid (HB0'.out.trans (grown_below' HO.out hgr HB0'.out.size)); rw [Nat.zero_add, List.nil_append] at hown; rw [Nat.zero_add]; have HOW := Lib.hid hown; clear hgr hown hat q1 q2))
          obtain ⟨g8, hg8⟩ := own_someU HOW.out HDP.out
          subst hg8
          have HL7 := Lib.hid (HLz.out.call HG.out (Nat.le_refl _))
          have hs8 : SlI w7 w7.heap.size (some ⟨g8, 0, none⟩) (xs.length - k) (natW (xs.drop k)) := by
            have h : RowI w7 wi.heap.size 2 (.slice (some ⟨g8, 0, none⟩) (xs.length - k) c9) (natW (xs.drop k)) := by
              unfold RowI
              rw [natW_len, HDX.out]; exact HOW.out
            exact RowI.sl h (by rw [natW_len, HDX.out])
          have HS8 := Lib.hid hs8
          have HG8 : Hid (wi.heap.size ≤ g8) := (HOW.out.lt g8 rfl).1
          have HSL7 : Hid (SlI w7 w7.heap.size (some ⟨b, off, none⟩) xs.length (natW xs)) := (HSL.out.below HG.out (Nat.le_refl _)).more HG.out.size
          have CT : Hid (Calls Try.prog 81 #[.slice (some ⟨gz, 0, none⟩) (tsA xs Q k).length cz, .slice (some ⟨g8, 0, none⟩) (xs.length - k) c9] w7 fun e w' => e = .returned (.bool (decide (xs.drop k ∈ tsA xs Q k))) ∧ ∃ d, w' = w7.drewN d) := by
            have h := sKnown_any (some ⟨gz, 0, none⟩) (tsA xs Q k).length cz (tsA xs Q k) (some ⟨g8, 0, none⟩) c9 (xs.drop k) w7 (by rw [HDX.out]; exact hs8) (tso_own HL7.out.oq HL7.out.eq (Nat.le_refl _) (fun _ _ _ => rfl) rfl) (by rw [HDX.out]; have := H12.out; omega) (fun q hq => by
              rcases tsA_mem xs Q k q hq with h | ⟨i, h⟩
              · have := (HQL.out q h).2; omega
              · rw [h, List.length_drop]; have := H12.out; omega) HQ100.out
            rw [HDX.out] at h
            exact h
          have HSZ7 : Hid (w5.heap.size ≤ w7.heap.size) := Nat.le_trans HSZ.out HG.out.size
          have HWI : Hid (wi.heap.size ≤ w7.heap.size) := HG.out.size
          have LN : Hid ((tsA xs Q k).length + 1 ≤ 4294967296) := by show _ ≤ _; have := HQ100.out; omega
          clear hs8 HOW HG HSL HO HCC
          go_wp2_with fail
          refine CT.out.mono ?_
          rintro e wy ⟨rfl, d, hwy⟩
          have hby : Below w7.heap.size w7 wy := by rw [hwy]; exact below_draws (Below.refl _ _) _
          have HLy := Lib.hid (HL7.out.call hby (Nat.le_refl _))
          have HSLy : Hid (SlI wy wy.heap.size (some ⟨b, off, none⟩) xs.length (natW xs)) := (HSL7.out.below hby (Nat.le_refl _)).more hby.size
          have HS8y : Hid (SlI wy wy.heap.size (some ⟨g8, 0, none⟩) (xs.drop k).length (natW (xs.drop k))) := by rw [HDX.out]; exact (HS8.out.below hby (Nat.le_refl _)).more hby.size
          have HSZy : Hid (w5.heap.size ≤ wy.heap.size) := Nat.le_trans HSZ7.out hby.size
          clear hwy hby CT HL7 HSL7 HS8 HSZ7
          by_cases hin : xs.drop k ∈ tsA xs Q k
          · rw [decide_eq_true hin]
            have HTS : Hid (tsA xs Q (k + 1) = tsA xs Q k) := by show _ = _; rw [tsA, if_pos hin]
            clear hin
            go_wp2_with fail
            go_roundg (gk - 1)
            case measure => omega
            case rel =>
              refine ⟨gz, cz, k + 1, qz, by rw [HTS.out], by go_num, by omega, by omega, ?_⟩
              rw [HTS.out]
              exact ⟨HLy.out, HSLy.out, HSZy.out, HGZ.out, Nat.le_succ_of_le HTL.out, HMZ.out⟩
          · rw [decide_eq_false hin]
            have HTS : Hid (tsA xs Q (k + 1) = tsA xs Q k ++ [xs.drop k]) := by show _ = _; rw [tsA, if_neg hin]
            clear hin
            go_wp2_with (first
              | (at_builtin; (refine wpList_push wy rfl (.tmp 56) (.tmp 58) _ rfl (w.heap.size + 2) 26 (.slice none 0 0) 24 Try.underlying63 infoSL rfl (.slice (some ⟨gz, 0, none⟩) (tsA xs Q k).length cz) (tsA xs Q k).length qz rfl HLy.out.oq (.slice (some ⟨g8, 0, none⟩) (xs.length - k) c9) rfl rfl LN.out (by omega) HLy.out.size ?_; intro g9 c10 w9 hown hgr hat hlt9 hcap9; have HOW9 := Lib.hid hown; have HGR9 := Lib.hid hgr; have HAT9 := Lib.hid hat; clear hown hgr hat hlt9 hcap9)))
            have HL9 := Lib.hid (HLy.out.push (gq' := g9) (cq' := c10) (wd := xs.drop k) (A := some ⟨g8, 0, none⟩) (c := c9) (by rw [HDX.out]; exact HOW9.out) HGR9.out (HAT9.out.imp (fun e => (Option.some.inj e).symm) id) (.inr ⟨g8, 0, rfl⟩) HS8y.out (fun b' o' e _ q => by
              injection e with e
              injection e with e1 _ _
              have h1 := HG8.out
              have h2 := HLz.out.ltq.2
              have h3 := HLz.out.lt1.2
              rw [← e1] at q
              exact q.elim (fun q => by omega) (fun q => q.elim (fun q => by omega) id)))
            have HSL9 : Hid (SlI w9 w9.heap.size (some ⟨b, off, none⟩) xs.length (natW xs)) := slI_keep HSLy.out HGR9.out.size (fun b' o' e _ => HGR9.out.block b' (by
              injection e with e
              injection e with e1 _ _
              have := HBW5.out
              have := HSZy.out
              omega) (fun e2 => HBZ.out (by
              injection e with e
              injection e with e1 _ _
              have e3 : b' = gz := Option.some.inj e2
              omega)))
            have HSZ9 : Hid (w5.heap.size ≤ w9.heap.size) := Nat.le_trans HSZy.out HGR9.out.size
            have HG9 : Hid (g9 = gq ∨ w5.heap.size ≤ g9) := by
              show _ ∨ _
              have h1 := HGZ.out
              have h2 := HSZy.out
              rcases HAT9.out with h | h
              · have e3 : gz = g9 := Option.some.inj h
                omega
              · omega
            go_roundg (gk - 1)
            case measure => omega
            case rel =>
              refine ⟨g9, c10, k + 1, qz ++ [.slice (some ⟨g8, 0, none⟩) (xs.drop k).length c9], by rw [HTS.out]; simp, by go_num, by omega, by omega, ?_⟩
              rw [HTS.out]
              exact ⟨HL9.out, HSL9.out, HSZ9.out, HG9.out, by show _ ≤ _; rw [List.length_append]; have := HTL.out; simp; omega, HMZ.out.snoc _ _ _ _⟩
        · have hkn : k = xs.length := by omega
          subst hkn
          have dk : decide (xs.length < xs.length) = false := decide_eq_false (by omega)
          have l1 : (xs.length : Int) ≤ (xs.length : Int) := by omega
          clear hlt
          go_wp2_with fail
          go_roundg (go1 - 1)
          case measure => have := HF.out; omega
          case rel =>
            have hf := HF.out
            have hc := HC.out
            have hq := HQC.out
            have ht := HTL.out
            have h12 := H12.out
            refine ⟨g', c', gz, cz, (gsW T P E Q W), ws', tsA xs Q xs.length, qz, c + 1, rfl, rfl, by go_num, (show _ = _ by omega), ?_, HLz.out, HGW.out.2.1, HGW.out.2.2, fun q hq => ?_, (show _ ≤ _ by omega), HM2.out, HMZ.out⟩
            · rw [show go1 - 1 = f by omega]; exact HEN.out
            · rcases tsA_mem xs Q _ q hq with h | ⟨i, h⟩
              · exact HQL.out q h
              · rw [h]; exact ⟨fun y hy => HXT.out y (List.mem_of_mem_drop hy), by rw [List.length_drop]; omega⟩

set_option maxRecDepth 100000 in
set_option maxHeartbeats 4000000 in
theorem sLearn_no (S T : Int) (A2 : Option Addr) (n2 c2 : Nat) (A3 : Option Addr) (n3 c3 : Nat) (P : List Int) (w : World) (h2 : SlI w w.heap.size A2 n2 P) (hn : n2 ≤ 4294967296) (hv : vpB S T n2 n3 P = false) :
    Calls Try.prog 28 #[.agg #[.int .i64 S, .int .i64 T, .slice A2 n2 c2, .slice A3 n3 c3]] w fun e w' => e = .returned (.tuple #[.agg #[.int .i64 0, .int .i64 0, .slice none 0 0, .slice none 0 0], .int .i64 0, .bool false]) ∧ Below w.heap.size w w' := by
  have r1 := (Row.new w 33 (BxP S T A2 n2 c2 A3 n3 c3)).alloc (.cells ([.int .i64 0, .int .i64 0, .slice none 0 0, .slice none 0 0] : List Value).toArray 33)
  have r2 := Row.new (w.alloc (.cells (BxP S T A2 n2 c2 A3 n3 c3).toArray 33)) 33 [.int .i64 0, .int .i64 0, .slice none 0 0, .slice none 0 0]
  rw [show (w.alloc (.cells (BxP S T A2 n2 c2 A3 n3 c3).toArray 33)).heap.size = w.heap.size + 1 by simp] at r2
  have hb0 : Below w.heap.size w ((w.alloc (.cells (BxP S T A2 n2 c2 A3 n3 c3).toArray 33)).alloc (.cells ([.int .i64 0, .int .i64 0, .slice none 0 0, .slice none 0 0] : List Value).toArray 33)) := ((Below.refl _ _).alloc (Nat.le_refl _) _).alloc (by simp) _
  obtain ⟨x0, hx0⟩ : ∃ x, x = ((w.alloc (.cells (BxP S T A2 n2 c2 A3 n3 c3).toArray 33)).alloc (.cells ([.int .i64 0, .int .i64 0, .slice none 0 0, .slice none 0 0] : List Value).toArray 33)) := ⟨_, rfl⟩
  rw [← hx0] at r1 r2 hb0
  have hV := sPlain_any w.heap.size S T A2 n2 c2 A3 n3 c3 P x0 r1 ((h2.below hb0 (Nat.le_refl _)).more hb0.size) hn
  rw [hv] at hV
  have HV := Lib.hid hV; have R1 := Lib.hid r1; have R2 := Lib.hid r2; have HB0 := Lib.hid hb0
  clear hV r1 r2 hb0 h2 hv
  go_enter Try.func28, Try.ntmps28
  go_wp2_with fail
  change Calls _ _ _ ((w.alloc (.cells (BxP S T A2 n2 c2 A3 n3 c3).toArray 33)).alloc (.cells ([.int .i64 0, .int .i64 0, .slice none 0 0, .slice none 0 0] : List Value).toArray 33)) _
  rw [← hx0]
  clear hx0
  refine HV.out.mono ?_
  rintro e w1 ⟨rfl, hb1⟩
  have hres := R2.out.below hb1 R2.out.lt
  have HRES := Lib.hid hres; have HB1 := Lib.hid hb1
  have hszx : w.heap.size ≤ x0.heap.size := HB0.out.size
  have k0 := hres.cell 0; have k1 := hres.cell 1; have k2 := hres.cell 2; have k3 := hres.cell 3
  have f0 := hres.frozen 0; have f1 := hres.frozen 1; have f2 := hres.frozen 2; have f3 := hres.frozen 3
  clear hb1 hres HV
  go_wp2_with fail
  clear k0 k1 k2 k3 f0 f1 f2 f3
  have hF := ((((HRES.out.set_ 0 (.int .i64 0)).set_ 1 (.int .i64 0)).set_ 2 (.slice none 0 0)).set_ 3 (.slice none 0 0))
  refine bodyPost_ret (results_cell3 rfl _ _ (w.heap.size + 1) 33 #[.int .i64 0, .int .i64 0, .slice none 0 0, .slice none 0 0] (0, 0) _ (.int .i64 0) (.bool false) rfl rfl rfl hF Try.underlying33 rfl (by kernel_rfl)) rfl ?_
  exact ⟨rfl, set4_below (HB0.out.trans (HB1.out.mono hszx)) (by omega) _ _ _ _⟩
/-- LearnPlain of the reference. -/
theorem sLearn_any (S T : Int) (A2 : Option Addr) (n2 c2 : Nat) (A3 : Option Addr) (n3 c3 : Nat) (P : List Int) (E : List Bool) (w : World) (h2 : SlI w w.heap.size A2 n2 P) (h3 : SlB w w.heap.size A3 n3 E) (hn : n2 ≤ 4294967296) :
    Calls Try.prog 28 #[.agg #[.int .i64 S, .int .i64 T, .slice A2 n2 c2, .slice A3 n3 c3]] w fun e w' => ∃ v, e = .returned (.tuple #[v, .int .i64 (loC (lnO S T n2 n3 P E)), .bool (lnO S T n2 n3 P E).isSome]) ∧ PlW w' w.heap.size v (loN (lnO S T n2 n3 P E)) (loT T (lnO S T n2 n3 P E)) (loP (lnO S T n2 n3 P E)) (loE (lnO S T n2 n3 P E)) ∧ Below w.heap.size w w' := by
  cases hv : vpB S T n2 n3 P with
  | false =>
    have ho : lnO S T n2 n3 P E = none := by unfold lnO; rw [hv]; rfl
    rw [ho]
    refine (sLearn_no S T A2 n2 c2 A3 n3 c3 P w h2 hn hv).mono ?_
    rintro e w' ⟨rfl, hb⟩
    exact ⟨_, rfl, plw_zero _ _, hb⟩
  | true =>
    obtain ⟨s, t, rfl, rfl, hte, -, -⟩ := vp_teo hv h2.len h3.len
    obtain ⟨r, hr⟩ := lnE_is hte 65 [[]] [[]] 1 (WdO.start t P E) (List.mem_singleton.2 rfl) (by omega)
    have hr' : lnAll t P E = some r := hr
    have ho : lnO (s : Int) (t : Int) n2 n3 P E = some r := by unfold lnO; rw [hv, Int.toNat_natCast, hr']; rfl
    rw [ho]
    refine (sLearn_yes s t A2 n2 c2 A3 n3 c3 P E r w hte h2 h3 hr').mono ?_
    rintro e w' ⟨v, rfl, hp, hb⟩
    exact ⟨v, rfl, hp, hb⟩

end Go.Proofs.Ytbdfbmohdbigfaa