/- LearnPlain of the program. -/
import Derived.Test.YtbdfbmohdbigfaaLnO
import Derived.Test.YtbdfbmohdbigfaaMgz
import Derived.Deep.LoopGhost
import Derived.Deep.CutRange
import Derived.Deep.RegionHeld3
import Derived.Deep.RegionLaw
import Derived.Deep.DrawnRows

namespace Go.Proofs.Ytbdfbmohdbigfaa
open Go.RowKit Go.Maps
set_option linter.unusedVariables false

theorem allIn_ofN {P : List Int} {S : Nat} (h : ∀ x ∈ P, 0 ≤ x ∧ x < (S : Int)) : allIn P 0 ((S : Int) - 1) = true := by
  unfold allIn
  rw [List.all_eq_true]
  intro z hz
  have := h z hz
  exact decide_eq_true (by omega)
theorem PlOk.validN {w : World} {S T : Nat} {A2 : Option Addr} {n2 : Nat} (c2 : Nat) {A3 : Option Addr} {n3 : Nat} (c3 : Nat) {P : List Int} {E : List Bool} (h : PlOk w S T A2 n2 A3 n3 P E) :
    Calls Try.prog 46 #[.agg #[.int .i64 (S : Int), .int .i64 (T : Int), .slice A2 n2 c2, .slice A3 n3 c3]] w fun e w' => e = .returned (.bool true) ∧ Below w.heap.size w w' :=
  iValidPlain_yes S T A2 n2 c2 A3 n3 c3 P w h.h2 h.hS h.hT h.hn (allIn_ofN h.hP) h.hE

theorem tsA_mem (wd : List Nat) (Q : List (List Nat)) : ∀ (k : Nat) (q : List Nat), q ∈ tsA wd Q k → q ∈ Q ∨ ∃ i, q = wd.drop i
  | 0, q, h => .inl h
  | k + 1, q, h => by
    rw [tsA] at h
    split at h
    · exact tsA_mem wd Q k q h
    · rcases List.mem_append.1 h with h | h
      · exact tsA_mem wd Q k q h
      · exact .inr ⟨k, List.mem_singleton.1 h⟩

theorem PlW.lower {w : World} {b b' : Nat} {v : Value} {S T : Int} {P : List Int} {E : List Bool} (h : PlW w b' v S T P E) (hb : b ≤ b') : PlW w b v S T P E := by
  obtain ⟨v2, v3, e, h2, h3, d⟩ := h
  exact ⟨v2, v3, e, OwnV.of (own_raise h2.1 (fun k hk => by have := (h2.lt k hk).1; omega)), OwnV.of (own_raise h3.1 (fun k hk => by have := (h3.lt k hk).1; omega)), d⟩
theorem slI_zero {w : World} {B : Nat} (A : Option Addr) : SlI w B A 0 (natW []) := ⟨by unfold natW; rfl, fun h => absurd h (by omega)⟩
theorem Ln.start {x0 w : World} {base : Nat} (hb : Below base x0 w) (hx : base ≤ x0.heap.size) :
    Ln x0 ((((w.alloc (.cells #[] 2)).alloc (.cells #[.slice (some ⟨w.heap.size, 0, none⟩) 0 0] 26)).alloc (.cells #[] 2)).alloc (.cells #[.slice (some ⟨w.heap.size + 1 + 1, 0, none⟩) 0 0] 26)) base (w.heap.size + 1) 1 (w.heap.size + 1 + 1 + 1) 1 (fun _ => False)
      [[]] [.slice (some ⟨w.heap.size, 0, none⟩) 0 0] [[]] [.slice (some ⟨w.heap.size + 1 + 1, 0, none⟩) 0 0] := by
  have hs := hb.size
  have r1 := ((Row.new (w.alloc (.cells #[] 2)) 26 [.slice (some ⟨w.heap.size, 0, none⟩) 0 0]).alloc (.cells #[] 2)).alloc (.cells #[.slice (some ⟨w.heap.size + 1 + 1, 0, none⟩) 0 0] 26)
  have r2 := Row.new (((w.alloc (.cells #[] 2)).alloc (.cells #[.slice (some ⟨w.heap.size, 0, none⟩) 0 0] 26)).alloc (.cells #[] 2)) 26 [.slice (some ⟨w.heap.size + 1 + 1, 0, none⟩) 0 0]
  rw [show (w.alloc (.cells #[] 2)).heap.size = w.heap.size + 1 by simp] at r1
  rw [show (((w.alloc (.cells #[] 2)).alloc (.cells #[.slice (some ⟨w.heap.size, 0, none⟩) 0 0] 26)).alloc (.cells #[] 2)).heap.size = w.heap.size + 1 + 1 + 1 by simp] at r2
  have el : ∀ (x : World) (bad : Nat → Prop) (A : Option Addr), NilA A → El x [[]] [.slice A 0 0] bad := by
    intro x bad A hA i wd u hi hu
    have h0 : i = 0 := by have := (List.getElem?_eq_some_iff.1 hi).1; simp at this; exact this
    subst h0
    obtain rfl : [] = wd := by simpa using hi
    obtain rfl : Value.slice A 0 0 = u := by simpa using hu
    exact ⟨A, 0, rfl, hA, slI_zero A, fun b o _ h => absurd h (by simp)⟩
  refine ⟨hb.trans (((((Below.refl _ _).alloc (by omega) _).alloc (by simp; omega) _).alloc (by simp; omega) _).alloc (by simp; omega) _), hx, own_rowX r1 (by omega) rfl (by unfold maxLen; simp), own_rowX r2 (by omega) rfl (by unfold maxLen; simp), by omega, el _ _ _ (.inr ⟨_, _, rfl⟩), el _ _ _ (.inr ⟨_, _, rfl⟩)⟩

set_option maxRecDepth 100000 in
set_option maxHeartbeats 16000000 in
theorem iLearn_yes (S T : Nat) (A2 : Option Addr) (n2 c2 : Nat) (A3 : Option Addr) (n3 c3 : Nat) (P : List Int) (E : List Bool) (r : List Int × List Bool × Nat) (w : World) (hte : TeO S T P E) (h2 : SlI w w.heap.size A2 n2 P) (h3 : SlB w w.heap.size A3 n3 E) (hr : lnAll T P E = some r) :
    Calls Try.prog 30 #[.agg #[.int .i64 (S : Int), .int .i64 (T : Int), .slice A2 n2 c2, .slice A3 n3 c3]] w fun e w' => ∃ v, e = .returned (.tuple #[v, .int .i64 (r.2.2 : Int), .bool true]) ∧ PlW w' w.heap.size v (r.2.1.length : Int) (T : Int) r.1 r.2.1 ∧ Below w.heap.size w w' := by
  have hok := hte.plok h2 h3
  have r1 := (Row.new w 33 (BxP (S : Int) (T : Int) A2 n2 c2 A3 n3 c3)).alloc (.cells ([.int .i64 0, .int .i64 0, .slice none 0 0, .slice none 0 0] : List Value).toArray 33)
  have r2 := Row.new (w.alloc (.cells (BxP (S : Int) (T : Int) A2 n2 c2 A3 n3 c3).toArray 33)) 33 [.int .i64 0, .int .i64 0, .slice none 0 0, .slice none 0 0]
  rw [show (w.alloc (.cells (BxP (S : Int) (T : Int) A2 n2 c2 A3 n3 c3).toArray 33)).heap.size = w.heap.size + 1 by simp] at r2
  have hb0 : Below w.heap.size w ((w.alloc (.cells (BxP (S : Int) (T : Int) A2 n2 c2 A3 n3 c3).toArray 33)).alloc (.cells ([.int .i64 0, .int .i64 0, .slice none 0 0, .slice none 0 0] : List Value).toArray 33)) := ((Below.refl _ _).alloc (Nat.le_refl _) _).alloc (by simp) _
  have hs0 : ((w.alloc (.cells (BxP (S : Int) (T : Int) A2 n2 c2 A3 n3 c3).toArray 33)).alloc (.cells ([.int .i64 0, .int .i64 0, .slice none 0 0, .slice none 0 0] : List Value).toArray 33)).heap.size = w.heap.size + 2 := by simp
  obtain ⟨x0, hx0⟩ : ∃ x, x = ((w.alloc (.cells (BxP (S : Int) (T : Int) A2 n2 c2 A3 n3 c3).toArray 33)).alloc (.cells ([.int .i64 0, .int .i64 0, .slice none 0 0, .slice none 0 0] : List Value).toArray 33)) := ⟨_, rfl⟩
  rw [← hx0] at r1 r2 hb0 hs0
  have HV := Lib.hid ((hok.below hb0 (Nat.le_refl _)).validN c2 c3)
  have HTE := Lib.hid hte; have HOK := Lib.hid hok; have HR := Lib.hid hr; have R1 := Lib.hid r1; have R2 := Lib.hid r2; have HB0 := Lib.hid hb0; have HS0 := Lib.hid hs0
  have HT4 : Hid (1 ≤ T ∧ T ≤ 4) := hte.hT
  clear hok r1 r2 hb0 hs0 hte hr h2 h3
  go_enter Try.func30, Try.ntmps30
  go_wp2_with fail
  change Calls _ _ _ ((w.alloc (.cells (BxP (S : Int) (T : Int) A2 n2 c2 A3 n3 c3).toArray 33)).alloc (.cells ([.int .i64 0, .int .i64 0, .slice none 0 0, .slice none 0 0] : List Value).toArray 33)) _
  rw [← hx0]
  clear hx0
  refine HV.out.mono ?_
  rintro e w1 ⟨rfl, hb1⟩
  have HB1 := Lib.hid hb1
  clear hb1 HV
  go_wp2_with fail

  go_loopg [5, 6, 7] 65 (fun m v5 v6 v7 wr => ∃ (g1 c1 gq cq : Nat) (W : List (List Nat)) (ws : List Value) (Q : List (List Nat)) (qs : List Value) (c : Nat), v5 = .slice (some ⟨g1, 0, none⟩) W.length c1 ∧ v6 = .slice (some ⟨gq, 0, none⟩) Q.length cq ∧ v7 = .int .i64 (c : Int) ∧ Hid (c + m = 66) ∧ Hid (lnE T P E m Q W c = some r) ∧ Hid (Ln x0 wr (w.heap.size + 2) g1 c1 gq cq (fun _ => False) W ws Q qs) ∧ Hid (WdO T P E Q W) ∧ Hid ([] ∈ Q) ∧ Hid (∀ q ∈ Q, (∀ y ∈ q, y < T) ∧ q.length ≤ 12) ∧ Hid (Q.length + 12 * m ≤ 800))
  case atStart => exact ⟨_, _, _, _, [[]], _, [[]], _, 1, rfl, rfl, rfl, rfl, HR.out, Ln.start (HB1.out.mono (by rw [HS0.out]; exact Nat.le_refl _)) (by rw [HS0.out]; exact Nat.le_refl _), WdO.start T P E, List.mem_singleton.2 rfl, (fun q hq => by rw [List.mem_singleton.1 hq]; exact ⟨(fun y hy => by cases hy), Nat.zero_le _⟩), (show 1 + 12 * 65 ≤ 800 by omega)⟩
  case round =>
    obtain ⟨g1, c1, gq, cq, W, ws, Q, qs, c, rfl, rfl, rfl, HC, HE, HL, HWD, HNQ, HQL, HQC⟩ := hrel
    obtain ⟨wo, rfl⟩ : ∃ x : World, x = wr := ⟨_, rfl⟩
    obtain ⟨f, hf⟩ : ∃ f, gk = f + 1 := by
      have h := HE.out
      rcases gk with _ | f
      · cases h
      · exact ⟨f, rfl⟩
    obtain ⟨go1, hgo1⟩ : ∃ q : Nat, q = gk := ⟨_, rfl⟩
    rw [← hgo1] at HC HQC hf
    have HF := Lib.hid hf
    have HE2 : Hid (lnE T P E (f + 1) Q W c = some r) := by have h := HE.out; rw [← hgo1, hf] at h; exact h
    have WC : IntKind.i64.wrap ((c : Int) + 1) = (c : Int) + 1 := IntWalk.i64_in _ (by have := HC.out; omega)
    clear HR HB1 HE hf
    have hlo := HL.out
    have hbw : Below w.heap.size w wo := HB0.out.trans (hlo.bel.mono (by omega))
    have HBW := Lib.hid hbw
    have hsz := hlo.size
    obtain ⟨wA, hwA⟩ : ∃ x, x = wo.alloc (.cells ([.int .i64 0, .int .i64 0, .slice none 0 0, .slice none 0 0] : List Value).toArray 33) := ⟨_, rfl⟩
    obtain ⟨gp, hgp⟩ : ∃ q, q = wo.heap.size := ⟨_, rfl⟩
    have hbA : Below wo.heap.size wo wA := by rw [hwA]; exact (Below.refl _ _).alloc (Nat.le_refl _) _
    have hrA : Row wA gp 33 [.int .i64 0, .int .i64 0, .slice none 0 0, .slice none 0 0] := by rw [hwA, hgp]; exact Row.new wo 33 _
    have hlA : Ln x0 wA (w.heap.size + 2) g1 c1 gq cq (fun b => b = gp) W ws Q qs := (hlo.less (bx' := fun b => b = gp) (fun b hb e => by omega)).call hbA (Nat.le_refl _)
    have hbox : Row wA w.heap.size 33 (BxP (S : Int) (T : Int) A2 n2 c2 A3 n3 c3) := (R1.out.below (hlo.bel.trans (hbA.mono (by omega))) (by omega))
    have hszA : gp < wA.heap.size := hrA.lt
    have CG : Hid (Calls Try.prog 83 #[.agg #[.int .i64 (S : Int), .int .i64 (T : Int), .slice A2 n2 c2, .slice A3 n3 c3], .slice (some ⟨g1, 0, none⟩) W.length c1, .slice (some ⟨gq, 0, none⟩) Q.length cq] wA (GuPost (fun b => b = gq ∨ b = gp) S T P E Q W (w.heap.size + 2) g1 wA)) := by
      refine iGuess_any S T A2 n2 c2 A3 n3 c3 P E (w.heap.size + 2) g1 c1 W ws (some ⟨gq, 0, none⟩) Q.length cq Q wA HTE.out HWD.out (fun q hq => (HQL.out q hq).1) (fun q hq => by have := (HQL.out q hq).2; omega) (by have := HQC.out; omega) hlA.o1 (fun b => b = gq ∨ b = gp) (fun b hb => by have := hlA.ltq; omega) hlA.e1 (fun x hx => ?_) (fun x hx => ?_)
      · exact HOK.out.below (hbw.trans ((hbA.mono (by omega)).trans (hx.bel (by omega) (by have := hlA.lt1; omega)))) (Nat.le_refl _)
      · refine tso_own hlA.oq hlA.eq hx.2.2.2.1 (fun b hb hn => hx.2.2.2.2 b hb (fun e => hn (.inr (.inl e)))) (hx.2.2.2.2 gq hlA.ltq.2 (fun e => hlA.ne e.symm))
    have HLT : Hid (g1 < gp ∧ gq < gp ∧ w.heap.size + 2 ≤ gp) := ⟨by have := hlo.lt1; omega, by have := hlo.ltq; omega, by omega⟩
    have k0 := hbox.cell 0; have k1 := hbox.cell 1; have k2 := hbox.cell 2; have k3 := hbox.cell 3
    have HLA := Lib.hid hlA; have HRA := Lib.hid hrA; have HBA := Lib.hid hbA; have HGP := Lib.hid hgp; have HSA := Lib.hid hszA; have HWA := Lib.hid hwA
    clear hlo hbw hsz hbA hrA hlA hbox hszA hgp hwA HL
    go_upto_region 7 with fail
    try rw [← HWA.out]
    try rw [← HGP.out]
    clear HWA
    go_wp2_with fail
    refine CG.out.mono ?_
    rintro e w2 ⟨g', c', ws', v, rfl, ho2, he2, hg2, hv2, hl2⟩
    have HL2 := Lib.hid (HLA.out.guess ho2 he2 hg2 hl2)
    have hgs := gs_ok HTE.out HWD.out
    have HGS := Lib.hid hgs
    have hdl : (gsD T P E Q W).length = (gsW T P E Q W).length := by unfold gsD; simp
    obtain ⟨A4, c4, A5, c5, rfl, -⟩ := PlW.plok hgs hv2
    have hr2 : Row w2 gp 33 [.int .i64 0, .int .i64 0, .slice none 0 0, .slice none 0 0] := (hl2.2.2.2.2 gp HSA.out (by have := HLT.out.1; omega)).trans HRA.out
    have HG2 := Lib.hid hg2; have HV2 := Lib.hid hv2; have HR2 := Lib.hid hr2
    have b0 := hr2.cell 0; have b1 := hr2.cell 1; have b2 := hr2.cell 2; have b3 := hr2.cell 3
    have f0 := hr2.frozen 0; have f1 := hr2.frozen 1; have f2 := hr2.frozen 2; have f3 := hr2.frozen 3
    clear ho2 he2 hg2 hv2 hr2 CG k0 k1 k2 k3 hgs
    go_upto_region 8 with fail
    clear b0 b1 b2 b3 f0 f1 f2 f3
    obtain ⟨w3, hw3⟩ : ∃ x, x = ((((w2.setCell ⟨gp, 0, none⟩ (.int .i64 ((gsW T P E Q W).length : Int))).setCell ⟨gp, 1, none⟩ (.int .i64 (T : Int))).setCell ⟨gp, 2, none⟩ (.slice A4 (gsP T P E Q W).length c4)).setCell ⟨gp, 3, none⟩ (.slice A5 (gsW T P E Q W).length c5)) := ⟨_, rfl⟩
    rw [← hw3]
    have hs3 : w3.heap.size = w2.heap.size := by rw [hw3]; exact set4_size _ _ _ _ _ _
    have hk3 : ∀ b, b ≠ gp → w3.heap[b]? = w2.heap[b]? := fun b hb => by rw [hw3]; exact set4_heap _ _ _ _ _ _ _ hb
    have hot3 : w3.os = w2.os ∧ w3.tape = w2.tape ∧ w3.output = w2.output := by rw [hw3]; exact ⟨rfl, rfl, rfl⟩
    have hr3 : Row w3 gp 33 [.int .i64 ((gsW T P E Q W).length : Int), .int .i64 (T : Int), .slice A4 (gsP T P E Q W).length c4, .slice A5 (gsW T P E Q W).length c5] := by rw [hw3]; exact (((HR2.out.set_ 0 _).set_ 1 _).set_ 2 _).set_ 3 _
    have hL3 : Ln x0 w3 (w.heap.size + 2) g' c' gq cq (fun b => b = gp) (gsW T P E Q W) ws' Q qs := HL2.out.set (B := gp) HLT.out.2.2 hs3 hot3 hk3 (by have := HLT.out; have := HG2.out; have := HSA.out; omega) (by have := HLT.out; omega) rfl
    have hV3 := HV2.out.kp (lo := gp) (hi := gp + 1) (w' := w3) ⟨hot3.1, hot3.2.1, hot3.2.2, by omega, fun k hk hn => hk3 k (by omega)⟩ HSA.out
    have hp3 : PlOk w3 (gsW T P E Q W).length T A4 (gsP T P E Q W).length A5 (gsW T P E Q W).length (gsP T P E Q W) (gsD T P E Q W) := by
      obtain ⟨A4', c4', A5', c5', e, h4⟩ := PlW.plok HGS.out hV3
      simp only [Value.agg.injEq, Array.mk.injEq, List.cons.injEq, Value.slice.injEq] at e
      obtain ⟨-, -, ⟨rfl, -, rfl⟩, ⟨rfl, -, rfl⟩, -⟩ := e
      rw [hdl] at h4
      exact h4
    have hbox3 : Row w3 w.heap.size 33 (BxP (S : Int) (T : Int) A2 n2 c2 A3 n3 c3) := R1.out.below hL3.bel (by omega)
    have HL3 := Lib.hid hL3; have HV3 := Lib.hid hV3; have HP3 := Lib.hid hp3; have HR3 := Lib.hid hr3; have HBOX := Lib.hid hbox3
    have HDL := Lib.hid hdl
    have q0 := hr3.cell 0; have q1 := hr3.cell 1; have q2 := hr3.cell 2; have q3 := hr3.cell 3
    have CV := Lib.hid (hp3.validN c4 c5)
    clear hw3 hs3 hk3 hot3 hr3 hL3 hV3 hp3 hbox3 hdl HL2 HV2 HR2 HLA HRA HBA
    go_wp2_with fail
    refine CV.out.mono ?_
    rintro e w4 ⟨rfl, hb4⟩
    have HB4 := Lib.hid hb4
    have hr4 := HR3.out.below hb4 HR3.out.lt
    have hbox4 := HBOX.out.below hb4 HBOX.out.lt
    have HR4 := Lib.hid hr4
    have HL4 := Lib.hid (HL3.out.call hb4 (Nat.le_refl _))
    have HV4 := Lib.hid (HV3.out.keep hb4 (Nat.le_refl _))
    have HP4 := Lib.hid (HP3.out.below hb4 (Nat.le_refl _))
    have HT4' : Hid (PlOk w4 S T A2 n2 A3 n3 P E) := HOK.out.below (HB0.out.trans (HL4.out.bel.mono (by omega))) (Nat.le_refl _)
    have CF := Lib.hid (iFirstApart_any S (gsW T P E Q W).length T A2 n2 c2 A3 n3 c3 P E A4 (gsP T P E Q W).length c4 A5 (gsW T P E Q W).length c5 (gsP T P E Q W) (gsD T P E Q W) w4 HT4'.out HP4.out)
    have p0 := hr4.cell 0; have p1 := hr4.cell 1; have p2 := hr4.cell 2; have p3 := hr4.cell 3
    have k0 := hbox4.cell 0; have k1 := hbox4.cell 1; have k2 := hbox4.cell 2; have k3 := hbox4.cell 3
    clear q0 q1 q2 q3 hb4 hr4 hbox4 CV HL3 HV3 HP3 HR3 HBOX
    go_wp2_with fail
    rw [show faAll (plX T P (gsP T P E Q W)) (plD E (gsD T P E Q W)) (0, 0) T = lnF T P E Q W from rfl] at CF
    cases hf : lnF T P E Q W with
    | none =>
      rw [hf] at CF
      have hrr : r = ((gsP T P E Q W), (gsD T P E Q W), c) := by
        have h := HE2.out
        rw [lnE, hf] at h
        exact (Option.some.inj h).symm
      have HRR := Lib.hid hrr
      clear hrr hf
      refine CF.out.mono ?_
      rintro e w5 ⟨hb5, rfl⟩
      have hr5 := HR4.out.below hb5 HR4.out.lt
      have HL5 := Lib.hid (HL4.out.call hb5 (Nat.le_refl _))
      have HV5 := Lib.hid (HV4.out.keep hb5 (Nat.le_refl _))
      have hres := R2.out.below HL5.out.bel (by omega)
      have HRES := Lib.hid hres
      clear p0 p1 p2 p3 k0 k1 k2 k3 CF hb5
      have p0 := hr5.cell 0; have p1 := hr5.cell 1; have p2 := hr5.cell 2; have p3 := hr5.cell 3
      have k0 := hres.cell 0; have k1 := hres.cell 1; have k2 := hres.cell 2; have k3 := hres.cell 3
      have f0 := hres.frozen 0; have f1 := hres.frozen 1; have f2 := hres.frozen 2; have f3 := hres.frozen 3
      clear hr5 hres
      go_wp2_with fail
      clear p0 p1 p2 p3 k0 k1 k2 k3 f0 f1 f2 f3
      have hF := ((((HRES.out.set_ 0 (.int .i64 ((gsW T P E Q W).length : Int))).set_ 1 (.int .i64 (T : Int))).set_ 2 (.slice A4 (gsP T P E Q W).length c4)).set_ 3 (.slice A5 (gsW T P E Q W).length c5))
      refine bodyPost_ret (results_cell3 rfl _ _ (w.heap.size + 1) 33 #[.int .i64 ((gsW T P E Q W).length : Int), .int .i64 (T : Int), .slice A4 (gsP T P E Q W).length c4, .slice A5 (gsW T P E Q W).length c5] (0, 0) _ (.int .i64 (c : Int)) (.bool true) rfl rfl rfl hF Try.underlying33 rfl (by kernel_rfl)) rfl ?_
      clear hF
      obtain ⟨wF, hwF⟩ : ∃ x, x = ((((w5.setCell ⟨w.heap.size + 1, 0, none⟩ (.int .i64 ((gsW T P E Q W).length : Int))).setCell ⟨w.heap.size + 1, 1, none⟩ (.int .i64 (T : Int))).setCell ⟨w.heap.size + 1, 2, none⟩ (.slice A4 (gsP T P E Q W).length c4)).setCell ⟨w.heap.size + 1, 3, none⟩ (.slice A5 (gsW T P E Q W).length c5)) := ⟨_, rfl⟩
      rw [← hwF]
      have hs : wF.heap.size = w5.heap.size := by rw [hwF]; exact set4_size _ _ _ _ _ _
      have hk : ∀ b, b ≠ w.heap.size + 1 → wF.heap[b]? = w5.heap[b]? := fun b hb => by rw [hwF]; exact set4_heap _ _ _ _ _ _ _ hb
      have hot : wF.os = w5.os ∧ wF.tape = w5.tape ∧ wF.output = w5.output := by rw [hwF]; exact ⟨rfl, rfl, rfl⟩
      have hgp := HLT.out.2.2
      have hsa := HSA.out
      refine ⟨.agg #[.int .i64 ((gsW T P E Q W).length : Int), .int .i64 (T : Int), .slice A4 (gsP T P E Q W).length c4, .slice A5 (gsW T P E Q W).length c5], by rw [HRR.out], ?_, ?_⟩
      · rw [HRR.out]
        show PlW wF w.heap.size _ ((gsD T P E Q W).length : Int) (T : Int) (gsP T P E Q W) (gsD T P E Q W)
        have h9 := (HV5.out.kp (lo := w.heap.size + 1) (hi := w.heap.size + 2) (w' := wF) ⟨hot.1, hot.2.1, hot.2.2, by omega, fun k _ hn => hk k (by omega)⟩ (by omega)).lower (b := w.heap.size) (by omega)
        rw [HDL.out] at h9 ⊢
        exact h9
      · exact HB0.out.trans ((HL5.out.bel.mono (by omega)).trans ⟨hot.1, hot.2.1, hot.2.2, by omega, fun k hk' => hk k (by omega)⟩)
    | some wd =>
      have hlw := lnF_law HTE.out HWD.out
      rw [hf] at hlw
      obtain ⟨h12, xs, rfl, hxT, -⟩ := hlw
      rw [natW_len] at h12
      rw [hf] at CF
      have CFS : Hid (Calls Try.prog 55 #[.agg #[.int .i64 (S : Int), .int .i64 (T : Int), .slice A2 n2 c2, .slice A3 n3 c3], .agg #[.int .i64 ((gsW T P E Q W).length : Int), .int .i64 (T : Int), .slice A4 (gsP T P E Q W).length c4, .slice A5 (gsW T P E Q W).length c5]] w4 fun e y => ∃ A cw, e = .returned (.tuple #[.slice A xs.length cw, .bool true]) ∧ RowI y w4.heap.size 2 (.slice A xs.length cw) (natW xs) ∧ Below w4.heap.size w4 y) := by
        refine CF.out.mono ?_
        rintro e y ⟨hb, A, cw, rfl, hrow⟩
        rw [natW_len] at hrow ⊢
        exact ⟨A, cw, rfl, hrow, hb⟩
      have hlq : lnQ Q W (natW xs) = tsA xs Q xs.length := by unfold lnQ; rw [faAll_nat, natW_len]
      have HEN : Hid (lnE T P E f (tsA xs Q xs.length) (gsW T P E Q W) (c + 1) = some r) := by
        have h := HE2.out
        rw [lnE, hf] at h
        rw [← hlq]
        exact h
      have hgw := ln_grows HTE.out HWD.out HNQ.out hf
      rw [hlq] at hgw
      have HGW := Lib.hid hgw; have H12 := Lib.hid h12; have HXT := Lib.hid hxT
      clear hlq hgw h12 hxT CF hf
      refine CFS.out.mono ?_
      rintro e w5 ⟨A, cw, rfl, hrow, hb5⟩
      have HL5 := Lib.hid ((HL4.out.call hb5 (Nat.le_refl _)).less (bx' := fun _ => False) (fun b hb h => h.elim))
      have hsl5 : SlI w5 w5.heap.size A xs.length (natW xs) := RowI.sl hrow (natW_len xs)
      have ho : w5.ownsRow w4.heap.size 2 1 (.slice A xs.length cw) xs.length (iv (natW xs)) := by
        have h := hrow
        unfold RowI at h
        rw [natW_len] at h
        exact h
      have hnA : NilA A := ownA_nil ho
      obtain ⟨Ay, cy, hff, hcw, -⟩ := own_form ho
      simp only [Value.slice.injEq] at hff
      obtain ⟨-, -, e3⟩ := hff
      rw [← e3] at hcw
      clear e3
      have HLTW : Hid (∀ b o, A = some ⟨b, o, none⟩ → w4.heap.size ≤ b ∧ b < w5.heap.size) := fun b o hb => by
        have := World.ownsRow.lt hrow b (by rw [hb]; rfl)
        exact this
      have HSL5 := Lib.hid hsl5; have HNA := Lib.hid hnA; have HCW := Lib.hid hcw
      have HS5 : Hid (gq < w4.heap.size) := HL4.out.ltq.2
      have HG1 : Hid (g' < w4.heap.size) := HL4.out.lt1.2
      clear ho hrow hb5 hsl5 hnA hcw CFS p0 p1 p2 p3 k0 k1 k2 k3
      go_wp2_with fail
      go_loopg [6, 46] xs.length (fun m v6 i wr => ∃ (gz cz k : Nat) (qz : List Value), v6 = .slice (some ⟨gz, 0, none⟩) (tsA xs Q k).length cz ∧ i = .int .i64 (k : Int) ∧ k ≤ xs.length ∧ xs.length ≤ m + k ∧ Hid (Ln x0 wr (w.heap.size + 2) g' c' gz cz (fun _ => False) (gsW T P E Q W) ws' (tsA xs Q k) qz) ∧ Hid (SlI wr wr.heap.size A xs.length (natW xs)) ∧ Hid (w5.heap.size ≤ wr.heap.size) ∧ Hid (gz = gq ∨ w5.heap.size ≤ gz) ∧ Hid ((tsA xs Q k).length ≤ Q.length + k))
      case atStart => exact ⟨gq, cq, 0, qs, rfl, rfl, by omega, by omega, HL5.out, HSL5.out, Nat.le_refl _, .inl rfl, Nat.le_refl _⟩
      case round =>
        obtain ⟨gz, cz, k, qz, rfl, rfl, hk, hm, HLz, HSL, HSZ, HGZ, HTL⟩ := hrel
        obtain ⟨wi, rfl⟩ : ∃ x : World, x = wr := ⟨_, rfl⟩
        have hqc := HQC.out
        have hh12 := H12.out
        have hq100 : (tsA xs Q k).length ≤ 100000 := by have := HTL.out; omega
        have HQ100 := Lib.hid hq100
        clear hqc hh12 hq100
        by_cases hlt : k < xs.length
        · obtain ⟨b, off, x, rfl, -, -, -⟩ := HSL.out.at_ hlt
          have hcw := HCW.out
          have l0 : (0 : Int) ≤ (k : Int) := by omega
          have l1 : (k : Int) < (xs.length : Int) := by omega
          have l2 : (xs.length : Int) ≤ (cw : Int) := by omega
          have l3 : (k : Int) ≤ (xs.length : Int) := by omega
          have hAB := HLTW.out b off rfl
          have WK : IntKind.i64.wrap ((k : Int) + 1) = (k : Int) + 1 := IntWalk.i64_in _ (by have := H12.out; omega)
          have hbz : b ≠ gz := by have := HS5.out; have := HGZ.out; omega
          have hb1 : b ≠ g' := by have := HG1.out; omega
          have HBZ := Lib.hid hbz; have HB1' := Lib.hid hb1
          have HDX : Hid ((xs.drop k).length = xs.length - k) := by show _ = _; exact List.length_drop ..
          have hsub : SlI wi wi.heap.size (some ⟨b, off + k, none⟩) (xs.drop k).length (natW (xs.drop k)) := by
            have h := HSL.out.subN (p := k) (k := xs.length - k) (by omega)
            rw [List.length_drop]
            rw [show ((natW xs).drop k).take (xs.length - k) = natW (xs.drop k) from by
              unfold natW
              rw [← List.map_drop, List.take_of_length_le (by simp)]] at h
            exact h
          obtain ⟨wT, hwT⟩ : ∃ x, x = wi.alloc (.cells ([.slice (some ⟨b, off + k, none⟩) (xs.length - k) (cw - k)] : List Value).toArray 26) := ⟨_, rfl⟩
          have hbT : Below wi.heap.size wi wT := by rw [hwT]; exact (Below.refl _ _).alloc (Nat.le_refl _) _
          have hrT : Row wT wi.heap.size 26 [.slice (some ⟨b, off + k, none⟩) (xs.length - k) (cw - k)] := by rw [hwT]; exact Row.new wi 26 _
          have hLT := HLz.out.call hbT (Nat.le_refl _)
          have hdl : (xs.drop k).length ≤ 1000 := by rw [HDX.out]; have := H12.out; omega
          have hall : ∀ q ∈ tsA xs Q k, q.length ≤ 1000 := fun q hq => by
            rcases tsA_mem xs Q k q hq with h | ⟨i, h⟩
            · have := (HQL.out q h).2; omega
            · rw [h, List.length_drop]; have := H12.out; omega
          have CT := iHasW_any wi.heap.size (some ⟨b, off + k, none⟩) (cw - k) (xs.drop k) (some ⟨gz, 0, none⟩) (tsA xs Q k).length cz (tsA xs Q k) wT (by rw [HDX.out]; exact hrT.cell 0) ((hsub.below hbT (Nat.le_refl _)).more hbT.size) (tso_own hLT.oq hLT.eq (Nat.le_refl _) (fun _ _ _ => rfl) rfl) hdl hall HQ100.out
          have hslT := ((HSL.out.below hbT (Nat.le_refl _)).more hbT.size)
          have hsubT := ((hsub.below hbT (Nat.le_refl _)).more hbT.size)
          have HWT := Lib.hid hwT; have HRT := Lib.hid hrT; have HLT2 := Lib.hid hLT; have HSLT := Lib.hid hslT; have HSUBT := Lib.hid hsubT; have HCT := Lib.hid CT
          have HSZT : Hid (w5.heap.size ≤ wT.heap.size) := Nat.le_trans HSZ.out hbT.size
          clear hwT hbT hrT hLT hdl hall CT hslT hsubT hsub hAB hbz hb1
          go_wp2_with fail
          change Calls _ _ _ (wi.alloc (.cells ([.slice (some ⟨b, off + k, none⟩) (xs.length - k) (cw - k)] : List Value).toArray 26)) _
          rw [← HWT.out]
          clear HWT HSL HLz HSZ
          refine HCT.out.mono ?_
          rintro e wy ⟨rfl, d, hwy⟩
          have hby : Below wT.heap.size wT wy := by rw [hwy]; exact below_draws (Below.refl _ _) _
          have HLy := Lib.hid (HLT2.out.call hby (Nat.le_refl _))
          have HSLy : Hid (SlI wy wy.heap.size (some ⟨b, off, none⟩) xs.length (natW xs)) := (HSLT.out.below hby (Nat.le_refl _)).more hby.size
          have HSUBy : Hid (SlI wy wy.heap.size (some ⟨b, off + k, none⟩) (xs.drop k).length (natW (xs.drop k))) := (HSUBT.out.below hby (Nat.le_refl _)).more hby.size
          have HSZy : Hid (w5.heap.size ≤ wy.heap.size) := Nat.le_trans HSZT.out hby.size
          have hry := HRT.out.below hby HRT.out.lt
          have kt := hry.cell 0
          have LN : Hid ((tsA xs Q k).length + 1 ≤ 4294967296) := by show _ ≤ _; have := HQ100.out; omega
          clear hwy hby hry HCT HLT2 HSLT HSUBT HRT HSZT
          by_cases hin : xs.drop k ∈ tsA xs Q k
          · rw [decide_eq_true hin]
            have HTS : Hid (tsA xs Q (k + 1) = tsA xs Q k) := by show _ = _; rw [tsA, if_pos hin]
            clear hin
            go_wp2_with fail
            go_roundg (gk - 1)
            case measure => omega
            case rel =>
              refine ⟨gz, cz, k + 1, qz, by rw [HTS.out], by go_num, by omega, by omega, ?_⟩
              rw [HTS.out]
              exact ⟨HLy.out, HSLy.out, HSZy.out, HGZ.out, Nat.le_succ_of_le HTL.out⟩
          · rw [decide_eq_false hin]
            have HTS : Hid (tsA xs Q (k + 1) = tsA xs Q k ++ [xs.drop k]) := by show _ = _; rw [tsA, if_neg hin]
            clear hin
            go_wp2_with (first
              | (at_builtin; (refine wpList_push wy rfl (.tmp 56) (.tmp 58) _ rfl (w.heap.size + 2) 26 (.slice none 0 0) 24 Try.underlying63 infoSL rfl (.slice (some ⟨gz, 0, none⟩) (tsA xs Q k).length cz) (tsA xs Q k).length qz rfl HLy.out.oq (.slice (some ⟨b, off + k, none⟩) (xs.length - k) (cw - k)) rfl rfl LN.out (by omega) HLy.out.size ?_; intro g9 c9 w9 hown hgr hat hlt9 hcap9; have HOW9 := Lib.hid hown; have HGR9 := Lib.hid hgr; have HAT9 := Lib.hid hat; clear hown hgr hat hlt9 hcap9)))
            have HL9 := Lib.hid (HLy.out.push (gq' := g9) (cq' := c9) (wd := xs.drop k) (A := some ⟨b, off + k, none⟩) (c := cw - k) (by rw [HDX.out]; exact HOW9.out) HGR9.out (HAT9.out.imp (fun e => (Option.some.inj e).symm) id) (.inr ⟨b, off + k, rfl⟩) HSUBy.out (fun b' o' e _ q => by
              injection e with e
              injection e with e1 _ _
              have h1 := HBZ.out
              have h2 := HB1'.out
              rw [← e1] at q
              exact q.elim h1 (fun q => q.elim h2 id)))
            have HSL9 : Hid (SlI w9 w9.heap.size (some ⟨b, off, none⟩) xs.length (natW xs)) := slI_keep HSLy.out HGR9.out.size (fun b' o' e _ => HGR9.out.block b' (by
              injection e with e
              injection e with e1 _ _
              have := (HLTW.out b off rfl).2
              have := HSZy.out
              omega) (fun e2 => HBZ.out (by
              injection e with e
              injection e with e1 _ _
              have e3 : b' = gz := Option.some.inj e2
              omega)))
            have HSZ9 : Hid (w5.heap.size ≤ w9.heap.size) := Nat.le_trans HSZy.out HGR9.out.size
            have HG9 : Hid (g9 = gq ∨ w5.heap.size ≤ g9) := by
              show _ ∨ _
              have h1 := HGZ.out
              have h2 := HSZy.out
              rcases HAT9.out with h | h
              · have e3 : gz = g9 := Option.some.inj h
                omega
              · omega
            go_roundg (gk - 1)
            case measure => omega
            case rel =>
              refine ⟨g9, c9, k + 1, qz ++ [.slice (some ⟨b, off + k, none⟩) (xs.drop k).length (cw - k)], by rw [HTS.out]; simp, by go_num, by omega, by omega, ?_⟩
              rw [HTS.out]
              exact ⟨HL9.out, HSL9.out, HSZ9.out, HG9.out, by show _ ≤ _; rw [List.length_append]; have := HTL.out; simp; omega⟩
        · have hkn : k = xs.length := by omega
          subst hkn
          have dk : decide (xs.length < xs.length) = false := decide_eq_false (by omega)
          have l1 : (xs.length : Int) ≤ (xs.length : Int) := by omega
          clear hlt
          go_wp2_with fail
          go_roundg (go1 - 1)
          case measure => have := HF.out; omega
          case rel =>
            have hf := HF.out
            have hc := HC.out
            have hq := HQC.out
            have ht := HTL.out
            have h12 := H12.out
            refine ⟨g', c', gz, cz, (gsW T P E Q W), ws', tsA xs Q xs.length, qz, c + 1, rfl, rfl, by go_num, (show _ = _ by omega), ?_, HLz.out, HGW.out.2.1, HGW.out.2.2, fun q hq => ?_, (show _ ≤ _ by omega)⟩
            · rw [show go1 - 1 = f by omega]; exact HEN.out
            · rcases tsA_mem xs Q _ q hq with h | ⟨i, h⟩
              · exact HQL.out q h
              · rw [h]; exact ⟨fun y hy => HXT.out y (List.mem_of_mem_drop hy), by rw [List.length_drop]; omega⟩

set_option maxRecDepth 100000 in
set_option maxHeartbeats 4000000 in
theorem iLearn_no (S T : Int) (A2 : Option Addr) (n2 c2 : Nat) (A3 : Option Addr) (n3 c3 : Nat) (P : List Int) (w : World) (h2 : SlI w w.heap.size A2 n2 P) (hn : n2 ≤ 4294967296) (hv : vpB S T n2 n3 P = false) :
    Calls Try.prog 30 #[.agg #[.int .i64 S, .int .i64 T, .slice A2 n2 c2, .slice A3 n3 c3]] w fun e w' => e = .returned (.tuple #[.agg #[.int .i64 0, .int .i64 0, .slice none 0 0, .slice none 0 0], .int .i64 0, .bool false]) ∧ Below w.heap.size w w' := by
  have r1 := (Row.new w 33 (BxP S T A2 n2 c2 A3 n3 c3)).alloc (.cells ([.int .i64 0, .int .i64 0, .slice none 0 0, .slice none 0 0] : List Value).toArray 33)
  have r2 := Row.new (w.alloc (.cells (BxP S T A2 n2 c2 A3 n3 c3).toArray 33)) 33 [.int .i64 0, .int .i64 0, .slice none 0 0, .slice none 0 0]
  rw [show (w.alloc (.cells (BxP S T A2 n2 c2 A3 n3 c3).toArray 33)).heap.size = w.heap.size + 1 by simp] at r2
  have hb0 : Below w.heap.size w ((w.alloc (.cells (BxP S T A2 n2 c2 A3 n3 c3).toArray 33)).alloc (.cells ([.int .i64 0, .int .i64 0, .slice none 0 0, .slice none 0 0] : List Value).toArray 33)) := ((Below.refl _ _).alloc (Nat.le_refl _) _).alloc (by simp) _
  obtain ⟨x0, hx0⟩ : ∃ x, x = ((w.alloc (.cells (BxP S T A2 n2 c2 A3 n3 c3).toArray 33)).alloc (.cells ([.int .i64 0, .int .i64 0, .slice none 0 0, .slice none 0 0] : List Value).toArray 33)) := ⟨_, rfl⟩
  rw [← hx0] at r1 r2 hb0
  have hV := iValidPlain_any S T A2 n2 c2 A3 n3 c3 P x0 ((h2.below hb0 (Nat.le_refl _)).more hb0.size) hn
  rw [hv] at hV
  have HV := Lib.hid hV; have R1 := Lib.hid r1; have R2 := Lib.hid r2; have HB0 := Lib.hid hb0
  clear hV r1 r2 hb0 h2 hv
  go_enter Try.func30, Try.ntmps30
  go_wp2_with fail
  change Calls _ _ _ ((w.alloc (.cells (BxP S T A2 n2 c2 A3 n3 c3).toArray 33)).alloc (.cells ([.int .i64 0, .int .i64 0, .slice none 0 0, .slice none 0 0] : List Value).toArray 33)) _
  rw [← hx0]
  clear hx0
  refine HV.out.mono ?_
  rintro e w1 ⟨rfl, hb1⟩
  have hres := R2.out.below hb1 R2.out.lt
  have HRES := Lib.hid hres; have HB1 := Lib.hid hb1
  have hszx : w.heap.size ≤ x0.heap.size := HB0.out.size
  have k0 := hres.cell 0; have k1 := hres.cell 1; have k2 := hres.cell 2; have k3 := hres.cell 3
  have f0 := hres.frozen 0; have f1 := hres.frozen 1; have f2 := hres.frozen 2; have f3 := hres.frozen 3
  clear hb1 hres HV
  go_wp2_with fail
  clear k0 k1 k2 k3 f0 f1 f2 f3
  have hF := ((((HRES.out.set_ 0 (.int .i64 0)).set_ 1 (.int .i64 0)).set_ 2 (.slice none 0 0)).set_ 3 (.slice none 0 0))
  refine bodyPost_ret (results_cell3 rfl _ _ (w.heap.size + 1) 33 #[.int .i64 0, .int .i64 0, .slice none 0 0, .slice none 0 0] (0, 0) _ (.int .i64 0) (.bool false) rfl rfl rfl hF Try.underlying33 rfl (by kernel_rfl)) rfl ?_
  exact ⟨rfl, set4_below (HB0.out.trans (HB1.out.mono hszx)) (by omega) _ _ _ _⟩
/-- LearnPlain of the program. -/
theorem iLearn_any (S T : Int) (A2 : Option Addr) (n2 c2 : Nat) (A3 : Option Addr) (n3 c3 : Nat) (P : List Int) (E : List Bool) (w : World) (h2 : SlI w w.heap.size A2 n2 P) (h3 : SlB w w.heap.size A3 n3 E) (hn : n2 ≤ 4294967296) :
    Calls Try.prog 30 #[.agg #[.int .i64 S, .int .i64 T, .slice A2 n2 c2, .slice A3 n3 c3]] w fun e w' => ∃ v, e = .returned (.tuple #[v, .int .i64 (loC (lnO S T n2 n3 P E)), .bool (lnO S T n2 n3 P E).isSome]) ∧ PlW w' w.heap.size v (loN (lnO S T n2 n3 P E)) (loT T (lnO S T n2 n3 P E)) (loP (lnO S T n2 n3 P E)) (loE (lnO S T n2 n3 P E)) ∧ Below w.heap.size w w' := by
  cases hv : vpB S T n2 n3 P with
  | false =>
    have ho : lnO S T n2 n3 P E = none := by unfold lnO; rw [hv]; rfl
    rw [ho]
    refine (iLearn_no S T A2 n2 c2 A3 n3 c3 P w h2 hn hv).mono ?_
    rintro e w' ⟨rfl, hb⟩
    exact ⟨_, rfl, plw_zero _ _, hb⟩
  | true =>
    obtain ⟨s, t, rfl, rfl, hte, -, -⟩ := vp_teo hv h2.len h3.len
    obtain ⟨r, hr⟩ := lnE_is hte 65 [[]] [[]] 1 (WdO.start t P E) (List.mem_singleton.2 rfl) (by omega)
    have hr' : lnAll t P E = some r := hr
    have ho : lnO (s : Int) (t : Int) n2 n3 P E = some r := by unfold lnO; rw [hv, Int.toNat_natCast, hr']; rfl
    rw [ho]
    refine (iLearn_yes s t A2 n2 c2 A3 n3 c3 P E r w hte h2 h3 hr').mono ?_
    rintro e w' ⟨v, rfl, hp, hb⟩
    exact ⟨v, rfl, hp, hb⟩

end Go.Proofs.Ytbdfbmohdbigfaa