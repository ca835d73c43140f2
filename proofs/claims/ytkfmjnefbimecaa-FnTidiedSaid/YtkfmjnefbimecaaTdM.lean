/- MeetOf of the program: of two machines without empty arcs, few states, where what is made is valid. -/
import Derived.Test.YtkfmjnefbimecaaTdX
import Derived.Test.YtkfmjnefbimecaaMgl
import Derived.Test.YtkfmjnefbimecaaMgm
import Derived.Test.YtkfmjnefbimecaaCoI
import Derived.Deep.RegionHeld3


namespace Go.Proofs.Ytkfmjnefbimecaa
open Go.RowKit
set_option linter.unusedVariables false
theorem mtA_step {n : Int} {L L' : List A4} {k : Nat} {x : A4} (h : L[k]? = some x) : mtA n (L.take (k + 1)) L' = mtA n (L.take k) L' ++ mtR n L' x := by
  obtain ⟨hk, rfl⟩ := List.getElem?_eq_some_iff.1 h
  unfold mtA
  rw [List.take_succ_eq_append_getElem hk, List.flatMap_append]; simp
theorem mtR_step {n : Int} {L' : List A4} {j : Nat} {x y : A4} (h : L'[j]? = some y) : mtR n (L'.take (j + 1)) x = mtR n (L'.take j) x ++ mtC n x y := by
  obtain ⟨hj, rfl⟩ := List.getElem?_eq_some_iff.1 h
  unfold mtR
  rw [List.take_succ_eq_append_getElem hj, List.flatMap_append]; simp
theorem mtM_len (n : Int) (L L' : List A4) (k j : Nat) (x : A4) (h1 : L.length ≤ 128) (h2 : L'.length ≤ 128) : (mtA n (L.take k) L' ++ mtR n (L'.take j) x).length ≤ 16512 := by
  rw [List.length_append]
  have e1 := mtA_len n L' (L.take k)
  have e2 := mtR_len n x (L'.take j)
  rw [List.length_take] at e1 e2
  have e3 : min k L.length * L'.length ≤ 128 * 128 := Nat.mul_le_mul (by omega) h2
  omega
theorem ow_slA2 {w : World} {lo n c : Nat} {t : TypeId} {A : Option Addr} {M : List A4} (h : w.ownsRow lo t 4 (.slice A n c) n (fa M)) (hl : n = M.length) : SlA w w.heap.size A n M := by
  subst hl
  obtain ⟨A', c', e, hs⟩ := (OwnV.of h).slA
  injection e with e1 _ _
  subst e1
  exact hs
theorem row_keep2 {w w' : World} {g : Nat} {t : TypeId} {vs : List Value} {v : Value} (h : Row w g t vs) (hg : w.grownBy w' v.ownBlock) (h2 : v.ownBlock ≠ some g) : Row w' g t vs := (hg.block g h.lt (fun e => h2 e.symm)).trans h
set_option maxRecDepth 100000 in
set_option maxHeartbeats 16000000 in
theorem fMeet (S S' : Nat) (T : Int) (L : List A4) (P E : List Int) (p2 p3 p4 C2 C3 C4 : Nat) (L' : List A4) (P' E' : List Int) (q2 q3 q4 D2 D3 D4 : Nat) (w : World)
    (h2 : SlA w w.heap.size (some ⟨p2, 0, none⟩) L.length L) (h3 : SlI w w.heap.size (some ⟨p3, 0, none⟩) P.length P) (h4 : SlI w w.heap.size (some ⟨p4, 0, none⟩) E.length E)
    (k2 : SlA w w.heap.size (some ⟨q2, 0, none⟩) L'.length L') (k3 : SlI w w.heap.size (some ⟨q3, 0, none⟩) P'.length P') (k4 : SlI w w.heap.size (some ⟨q4, 0, none⟩) E'.length E')
    (v1 : vmB S T L P E = true) (v2 : vmB S' T L' P' E' = true) (e1 : ∀ a ∈ L, 0 ≤ a.2.2.1) (e2 : ∀ a ∈ L', 0 ≤ a.2.2.1) (hs : S * S' ≤ 16) (v3 : vmB ((S : Int) * (S' : Int)) T (mtA (S' : Int) L L') (psL P P') (psL E E') = true) :
    Calls Try.prog 17 #[.agg #[.int .i64 (S : Int), .int .i64 T, .slice (some ⟨p2, 0, none⟩) L.length C2, .slice (some ⟨p3, 0, none⟩) P.length C3, .slice (some ⟨p4, 0, none⟩) E.length C4], .agg #[.int .i64 (S' : Int), .int .i64 T, .slice (some ⟨q2, 0, none⟩) L'.length D2, .slice (some ⟨q3, 0, none⟩) P'.length D3, .slice (some ⟨q4, 0, none⟩) E'.length D4]] w fun e w' => ∃ A2 n2 c2 A3 n3 c3 A4 n4 c4, e = .returned (.tuple #[.agg #[.int .i64 ((S : Int) * (S' : Int)), .int .i64 T, .slice A2 n2 c2, .slice A3 n3 c3, .slice A4 n4 c4], .bool true]) ∧ SlA w' w'.heap.size A2 n2 (mtA (S' : Int) L L') ∧ SlI w' w'.heap.size A3 n3 (psL P P') ∧ SlI w' w'.heap.size A4 n4 (psL E E') ∧ Below w.heap.size w w' := by
  obtain ⟨qS, qT, qL, qA, qP, qE⟩ := vmB_true v1
  obtain ⟨qP1, qP2⟩ := mkB_true qP
  obtain ⟨qE1, qE2⟩ := mkB_true qE
  obtain ⟨rS, rT, rL, rA, rP, rE⟩ := vmB_true v2
  obtain ⟨rP1, rP2⟩ := mkB_true rP
  obtain ⟨rE1, rE2⟩ := mkB_true rE
  have QA : Hid (okM S L) := fun a ha => by have := okAm_true (qA a ha); omega
  have QA' : Hid (okM S' L') := fun a ha => by have := okAm_true (rA a ha); omega
  have QC : Hid (∀ a ∈ L, a.2.2.2 ≤ 1000) := fun a ha => by have := okAm_true (qA a ha); omega
  have QC' : Hid (∀ a ∈ L', a.2.2.2 ≤ 1000) := fun a ha => by have := okAm_true (rA a ha); omega
  have QPu : Hid (∀ x ∈ P, x ≤ 1000) := fun x hx => by have := qP2 x hx; omega
  have QEu : Hid (∀ x ∈ E, x ≤ 1000) := fun x hx => by have := qE2 x hx; omega
  have QPu' : Hid (∀ x ∈ P', x ≤ 1000) := fun x hx => by have := rP2 x hx; omega
  have QEu' : Hid (∀ x ∈ E', x ≤ 1000) := fun x hx => by have := rE2 x hx; omega
  have nP : P.length = S := by omega
  have nE : E.length = S := by omega
  have nP' : P'.length = S' := by omega
  have nE' : E'.length = S' := by omega
  have V1 := Lib.hid v1; have V2 := Lib.hid v2; have V3 := Lib.hid v3; have E1 := Lib.hid e1; have E2 := Lib.hid e2
  have NP := Lib.hid nP; have NE := Lib.hid nE; have NP' := Lib.hid nP'; have NE' := Lib.hid nE'
  have bS : S ≤ 16 := by omega
  have bS' : S' ≤ 16 := by omega
  have bP : P.length ≤ 16 := by omega
  have bE : E.length ≤ 16 := by omega
  have bP' : P'.length ≤ 16 := by omega
  have bE' : E'.length ≤ 16 := by omega
  clear qA qP qE qP1 qP2 qE1 qE2 rA rP rE rP1 rP2 rE1 rE2 v1 v2 v3 e1 e2 nP nE nP' nE'
  obtain ⟨m, hm⟩ : ∃ m : Nat, m = S * S' := ⟨_, rfl⟩
  have HM : Hid ((S : Int) * (S' : Int) = (m : Int)) := by show _ = _; rw [hm]; push_cast; rfl
  have hm16 : (m : Int) ≤ 16 := by omega
  have HWM : IntKind.i64.wrap ((S : Int) * (S' : Int)) = (m : Int) := by rw [HM.out, IntWalk.i64_in _ (by omega)]
  clear hm hs
  have ra := ((Row.new w 28 [.int .i64 (S : Int), .int .i64 T, .slice (some ⟨p2, 0, none⟩) L.length C2, .slice (some ⟨p3, 0, none⟩) P.length C3, .slice (some ⟨p4, 0, none⟩) E.length C4]).alloc (.cells ([.int .i64 (S' : Int), .int .i64 T, .slice (some ⟨q2, 0, none⟩) L'.length D2, .slice (some ⟨q3, 0, none⟩) P'.length D3, .slice (some ⟨q4, 0, none⟩) E'.length D4] : List Value).toArray 28)).alloc (.cells ([.int .i64 0, .int .i64 0, .slice none 0 0, .slice none 0 0, .slice none 0 0] : List Value).toArray 28)
  have rb := (Row.new (w.alloc (.cells ([.int .i64 (S : Int), .int .i64 T, .slice (some ⟨p2, 0, none⟩) L.length C2, .slice (some ⟨p3, 0, none⟩) P.length C3, .slice (some ⟨p4, 0, none⟩) E.length C4] : List Value).toArray 28)) 28 [.int .i64 (S' : Int), .int .i64 T, .slice (some ⟨q2, 0, none⟩) L'.length D2, .slice (some ⟨q3, 0, none⟩) P'.length D3, .slice (some ⟨q4, 0, none⟩) E'.length D4]).alloc (.cells ([.int .i64 0, .int .i64 0, .slice none 0 0, .slice none 0 0, .slice none 0 0] : List Value).toArray 28)
  have rr := Row.new ((w.alloc (.cells ([.int .i64 (S : Int), .int .i64 T, .slice (some ⟨p2, 0, none⟩) L.length C2, .slice (some ⟨p3, 0, none⟩) P.length C3, .slice (some ⟨p4, 0, none⟩) E.length C4] : List Value).toArray 28)).alloc (.cells ([.int .i64 (S' : Int), .int .i64 T, .slice (some ⟨q2, 0, none⟩) L'.length D2, .slice (some ⟨q3, 0, none⟩) P'.length D3, .slice (some ⟨q4, 0, none⟩) E'.length D4] : List Value).toArray 28)) 28 [.int .i64 0, .int .i64 0, .slice none 0 0, .slice none 0 0, .slice none 0 0]
  rw [show (w.alloc (.cells ([.int .i64 (S : Int), .int .i64 T, .slice (some ⟨p2, 0, none⟩) L.length C2, .slice (some ⟨p3, 0, none⟩) P.length C3, .slice (some ⟨p4, 0, none⟩) E.length C4] : List Value).toArray 28)).heap.size = w.heap.size + 1 by simp] at rb
  rw [show ((w.alloc (.cells ([.int .i64 (S : Int), .int .i64 T, .slice (some ⟨p2, 0, none⟩) L.length C2, .slice (some ⟨p3, 0, none⟩) P.length C3, .slice (some ⟨p4, 0, none⟩) E.length C4] : List Value).toArray 28)).alloc (.cells ([.int .i64 (S' : Int), .int .i64 T, .slice (some ⟨q2, 0, none⟩) L'.length D2, .slice (some ⟨q3, 0, none⟩) P'.length D3, .slice (some ⟨q4, 0, none⟩) E'.length D4] : List Value).toArray 28)).heap.size = w.heap.size + 1 + 1 by simp] at rr
  have bx : Below w.heap.size w (((w.alloc (.cells ([.int .i64 (S : Int), .int .i64 T, .slice (some ⟨p2, 0, none⟩) L.length C2, .slice (some ⟨p3, 0, none⟩) P.length C3, .slice (some ⟨p4, 0, none⟩) E.length C4] : List Value).toArray 28)).alloc (.cells ([.int .i64 (S' : Int), .int .i64 T, .slice (some ⟨q2, 0, none⟩) L'.length D2, .slice (some ⟨q3, 0, none⟩) P'.length D3, .slice (some ⟨q4, 0, none⟩) E'.length D4] : List Value).toArray 28)).alloc (.cells ([.int .i64 0, .int .i64 0, .slice none 0 0, .slice none 0 0, .slice none 0 0] : List Value).toArray 28)) := (((Below.refl _ _).alloc (Nat.le_refl _) _).alloc (by simp) _).alloc (by simp; omega) _
  have RA := Lib.hid ra; have RB := Lib.hid rb; have RR := Lib.hid rr; have BX := Lib.hid bx; clear ra rb rr bx
  have H2 := Lib.hid h2; have H3 := Lib.hid h3; have H4 := Lib.hid h4; have K2 := Lib.hid k2; have K3 := Lib.hid k3; have K4 := Lib.hid k4
  clear h2 h3 h4 k2 k3 k4
  have a0 := RA.out.cell 0; have a1 := RA.out.cell 1; have a2 := RA.out.cell 2; have a3 := RA.out.cell 3; have a4 := RA.out.cell 4
  go_enter Try.func17, Try.ntmps17
  go_wp2_with fail
  clear a0 a1 a2 a3 a4
  obtain ⟨x0, hx0⟩ : ∃ x, x = (((w.alloc (.cells ([.int .i64 (S : Int), .int .i64 T, .slice (some ⟨p2, 0, none⟩) L.length C2, .slice (some ⟨p3, 0, none⟩) P.length C3, .slice (some ⟨p4, 0, none⟩) E.length C4] : List Value).toArray 28)).alloc (.cells ([.int .i64 (S' : Int), .int .i64 T, .slice (some ⟨q2, 0, none⟩) L'.length D2, .slice (some ⟨q3, 0, none⟩) P'.length D3, .slice (some ⟨q4, 0, none⟩) E'.length D4] : List Value).toArray 28)).alloc (.cells ([.int .i64 0, .int .i64 0, .slice none 0 0, .slice none 0 0, .slice none 0 0] : List Value).toArray 28)) := ⟨_, rfl⟩
  rw [← hx0] at RA RB RR BX
  change Calls _ _ _ (((w.alloc (.cells ([.int .i64 (S : Int), .int .i64 T, .slice (some ⟨p2, 0, none⟩) L.length C2, .slice (some ⟨p3, 0, none⟩) P.length C3, .slice (some ⟨p4, 0, none⟩) E.length C4] : List Value).toArray 28)).alloc (.cells ([.int .i64 (S' : Int), .int .i64 T, .slice (some ⟨q2, 0, none⟩) L'.length D2, .slice (some ⟨q3, 0, none⟩) P'.length D3, .slice (some ⟨q4, 0, none⟩) E'.length D4] : List Value).toArray 28)).alloc (.cells ([.int .i64 0, .int .i64 0, .slice none 0 0, .slice none 0 0, .slice none 0 0] : List Value).toArray 28)) _
  rw [← hx0]
  clear hx0
  refine (iValidMachine_any _ (S : Int) T L P E x0 ⟨_, _, _, _, _, _, _, _, _, rfl, (H2.out.below BX.out (Nat.le_refl _)).more BX.out.size, (H3.out.below BX.out (Nat.le_refl _)).more BX.out.size, (H4.out.below BX.out (Nat.le_refl _)).more BX.out.size⟩ (by omega) (by omega) (by omega)).mono ?_
  rintro e w1 ⟨rfl, hb⟩
  have BX1 := Lib.hid (BX.out.trans (hb.mono BX.out.size))
  have RA1 := Lib.hid (RA.out.below hb RA.out.lt); have RB1 := Lib.hid (RB.out.below hb RB.out.lt); have RR1 := Lib.hid (RR.out.below hb RR.out.lt)
  clear hb

  rw [V1.out]
  have b0 := RB1.out.cell 0; have b1 := RB1.out.cell 1; have b2 := RB1.out.cell 2; have b3 := RB1.out.cell 3; have b4 := RB1.out.cell 4
  go_wp2_with fail
  clear b0 b1 b2 b3 b4
  refine (iValidMachine_any _ (S' : Int) T L' P' E' w1 ⟨_, _, _, _, _, _, _, _, _, rfl, (K2.out.below BX1.out (Nat.le_refl _)).more BX1.out.size, (K3.out.below BX1.out (Nat.le_refl _)).more BX1.out.size, (K4.out.below BX1.out (Nat.le_refl _)).more BX1.out.size⟩ (by omega) (by omega) (by omega)).mono ?_
  rintro e w2 ⟨rfl, hb⟩
  have BX2 := Lib.hid (BX1.out.trans (hb.mono BX1.out.size))
  have RA2 := Lib.hid (RA1.out.below hb RA1.out.lt); have RB2 := Lib.hid (RB1.out.below hb RB1.out.lt); have RR2 := Lib.hid (RR1.out.below hb RR1.out.lt)
  clear hb

  rw [V2.out]
  have c1 := RA2.out.cell 1; have d1 := RB2.out.cell 1
  have a0 := RA2.out.cell 0; have a2 := RA2.out.cell 2; have a3 := RA2.out.cell 3; have a4 := RA2.out.cell 4
  go_wp2_with fail
  clear c1 d1 a0 a2 a3 a4
  refine (iHas_any (S : Int) T L (some ⟨p2, 0, none⟩) L.length C2 (some ⟨p3, 0, none⟩) P.length C3 (some ⟨p4, 0, none⟩) E.length C4 w2 ((H2.out.below BX2.out (Nat.le_refl _)).more BX2.out.size) E1.out (by omega)).mono ?_
  rintro e w3 ⟨rfl, hb⟩
  have BX3 := Lib.hid (BX2.out.trans (hb.mono BX2.out.size))
  have RA3 := Lib.hid (RA2.out.below hb RA2.out.lt); have RB3 := Lib.hid (RB2.out.below hb RB2.out.lt); have RR3 := Lib.hid (RR2.out.below hb RR2.out.lt)
  clear hb

  have b0 := RB3.out.cell 0; have b1 := RB3.out.cell 1; have b2 := RB3.out.cell 2; have b3 := RB3.out.cell 3; have b4 := RB3.out.cell 4
  go_wp2_with fail
  clear b0 b1 b2 b3 b4
  refine (iHas_any (S' : Int) T L' (some ⟨q2, 0, none⟩) L'.length D2 (some ⟨q3, 0, none⟩) P'.length D3 (some ⟨q4, 0, none⟩) E'.length D4 w3 ((K2.out.below BX3.out (Nat.le_refl _)).more BX3.out.size) E2.out (by omega)).mono ?_
  rintro e w4 ⟨rfl, hb⟩
  have BX4 := Lib.hid (BX3.out.trans (hb.mono BX3.out.size))
  have RA4 := Lib.hid (RA3.out.below hb RA3.out.lt); have RB4 := Lib.hid (RB3.out.below hb RB3.out.lt); have RR4 := Lib.hid (RR3.out.below hb RR3.out.lt)
  clear hb

  have a0 := RA4.out.cell 0; have b0 := RB4.out.cell 0
  have bm : Below w4.heap.size w4 (w4.alloc (.cells #[] 39)) := (Below.refl _ _).alloc (Nat.le_refl _) _
  have RM : Hid ((w4.alloc (.cells #[] 39)).ownsRow w4.heap.size 39 4 (.slice (some ⟨w4.heap.size, 0, none⟩) 0 0) 0 []) := World.ownsRow_made w4 #[] 0 (Nat.le_refl _) (by unfold maxLen; omega) rfl
  have BM := Lib.hid bm
  have a2 := (RA4.out.below bm RA4.out.lt).cell 2
  clear bm
  go_wp2_with fail
  clear a0 b0 a2
  go_loopg [6, 8, 10, 47] L.length (fun q o u8 u10 i wr => ∃ (k n : Nat) (A : Option Addr) (c : Nat), i = .int .i64 k ∧ k ≤ L.length ∧ L.length ≤ q + k ∧ o = .slice A n c ∧ Hid (n = (mtA (S' : Int) (L.take k) L').length) ∧ Hid (wr.ownsRow w4.heap.size 39 4 (.slice A n c) n (fa (mtA (S' : Int) (L.take k) L'))) ∧ Hid (Below w4.heap.size w4 wr))
  case atStart => exact ⟨0, 0, _, _, rfl, by omega, by omega, rfl, rfl, RM.out, BM.out⟩
  case round =>
    obtain ⟨k, n, A, c, rfl, hk, hq, rfl, HN, HO, HB⟩ := hrel
    obtain ⟨wo, rfl⟩ : ∃ x : World, x = wr := ⟨_, rfl⟩
    obtain ⟨go, hgo⟩ : ∃ g : Nat, g = gk := ⟨_, rfl⟩
    have HBw := Lib.hid (BX4.out.trans (HB.out.mono BX4.out.size))
    by_cases hlt : k < L.length
    · obtain ⟨b, off, a0, a1, a2, a3, hsl, hbB, hx, k0, k1, k2, k3⟩ := (H2.out.below HBw.out (Nat.le_refl _)).at_ hlt
      injection hsl with hsl
      injection hsl with u1 u2 _
      subst u1 u2
      rw [Nat.zero_add] at k0 k1 k2 k3
      have ha := QA.out _ (List.mem_of_getElem? hx.out)
      have hc := QC.out _ (List.mem_of_getElem? hx.out)
      simp only at ha hc
      obtain ⟨⟨f0, f1⟩, ⟨t0, t1⟩, p0, p1⟩ := ha
      obtain ⟨f, rfl⟩ : ∃ x : Nat, a0 = (x : Int) := ⟨a0.toNat, by omega⟩
      obtain ⟨t, rfl⟩ : ∃ x : Nat, a1 = (x : Int) := ⟨a1.toNat, by omega⟩
      have HST := Lib.hid (mtA_step (n := (S' : Int)) (L' := L') hx.out)
      obtain ⟨xx, hxx⟩ : ∃ x : A4, x = ((f : Int), (t : Int), a2, a3) := ⟨_, rfl⟩
      rw [← hxx] at HST
      have HXX := Lib.hid hxx
      have l0 : (0 : Int) ≤ (k : Int) := by omega
      have l1 : (k : Int) < (L.length : Int) := by omega
      have RXn := Row.new wo 39 [.int .i64 (f : Int), .int .i64 (t : Int), .int .i64 a2, .int .i64 a3]
      have HOa := Lib.hid (World.ownsRow.alloc HO.out (.cells ([.int .i64 (f : Int), .int .i64 (t : Int), .int .i64 a2, .int .i64 a3] : List Value).toArray 39))
      have HBa : Hid (Below w4.heap.size w4 (wo.alloc (.cells ([.int .i64 (f : Int), .int .i64 (t : Int), .int .i64 a2, .int .i64 a3] : List Value).toArray 39))) := HB.out.alloc HB.out.size _
      have HNB : Hid ((Value.slice A n c).ownBlock ≠ some wo.heap.size) := fun e => by have := (World.ownsRow.lt HO.out _ e).2; omega
      have z2 := (RB4.out.below HBa.out RB4.out.lt).cell 2
      clear hx hxx
      go_upto_region 8 with fail
      clear k0 k1 k2 k3 z2
      obtain ⟨wi0, hwi⟩ : ∃ x, x = (wo.alloc (.cells ([.int .i64 (f : Int), .int .i64 (t : Int), .int .i64 a2, .int .i64 a3] : List Value).toArray 39)) := ⟨_, rfl⟩
      obtain ⟨gb, hgb⟩ : ∃ x, x = wo.heap.size := ⟨_, rfl⟩
      rw [← hwi, ← hgb] at RXn
      rw [← hwi] at HOa HBa
      rw [← hgb] at HNB
      change Code.wp _ _ _ _ (wo.alloc (.cells ([.int .i64 (f : Int), .int .i64 (t : Int), .int .i64 a2, .int .i64 a3] : List Value).toArray 39))
      rw [← hwi, ← hgb]
      have RX := Lib.hid RXn
      clear RXn hwi hgb HO HB HBw
      go_loopg [6, 10, 54] L'.length (fun q o u10 i wr => ∃ (j n : Nat) (A : Option Addr) (c : Nat), i = .int .i64 j ∧ j ≤ L'.length ∧ L'.length ≤ q + j ∧ o = .slice A n c ∧ Hid (n = (mtA (S' : Int) (L.take k) L' ++ mtR (S' : Int) (L'.take j) xx).length) ∧ Hid (wr.ownsRow w4.heap.size 39 4 (.slice A n c) n (fa (mtA (S' : Int) (L.take k) L' ++ mtR (S' : Int) (L'.take j) xx))) ∧ Hid (Below w4.heap.size w4 wr) ∧ Hid (Row wr gb 39 [.int .i64 (f : Int), .int .i64 (t : Int), .int .i64 a2, .int .i64 a3]) ∧ Hid ((Value.slice A n c).ownBlock ≠ some gb))
      case atStart => exact ⟨0, n, A, c, rfl, by omega, by omega, rfl, by show _ = _; rw [HN.out]; simp [mtR], by show World.ownsRow _ _ _ _ _ _ _; rw [show mtA (S' : Int) (L.take k) L' ++ mtR (S' : Int) (L'.take 0) xx = mtA (S' : Int) (L.take k) L' by simp [mtR]]; exact HOa.out, HBa.out, RX.out, HNB.out⟩
      case round =>
        clear HN HOa HBa RX HNB
        obtain ⟨j, n, A, c, rfl, hj, hq2, rfl, HN, HO, HB, RX, HNB⟩ := hrel
        obtain ⟨wi, rfl⟩ : ∃ x : World, x = wr := ⟨_, rfl⟩
        have HBw := Lib.hid (BX4.out.trans (HB.out.mono BX4.out.size))
        by_cases hlt2 : j < L'.length
        · obtain ⟨b, off, a0, a1, b2, b3, hsl, hbB', hy, k0, k1, k2, k3⟩ := (K2.out.below HBw.out (Nat.le_refl _)).at_ hlt2
          injection hsl with hsl
          injection hsl with u1 u2 _
          subst u1 u2
          rw [Nat.zero_add] at k0 k1 k2 k3
          have ha := QA'.out _ (List.mem_of_getElem? hy.out)
          have hc' := QC'.out _ (List.mem_of_getElem? hy.out)
          simp only at ha hc'
          obtain ⟨⟨f0', f1'⟩, ⟨t0', t1'⟩, p0', p1'⟩ := ha
          obtain ⟨f', rfl⟩ : ∃ x : Nat, a0 = (x : Int) := ⟨a0.toNat, by omega⟩
          obtain ⟨t', rfl⟩ : ∃ x : Nat, a1 = (x : Int) := ⟨a1.toNat, by omega⟩
          have HST2 := Lib.hid (mtR_step (n := (S' : Int)) (x := xx) hy.out)
          have HLE : Hid ((mtA (S' : Int) (L.take k) L' ++ mtR (S' : Int) (L'.take j) xx).length + 1 ≤ 4294967296) := by have := mtM_len (S' : Int) L L' k j xx qL rL; show _ ≤ _; omega
          obtain ⟨X, hX⟩ : ∃ X, X = (mtA (S' : Int) (L.take k) L' ++ mtR (S' : Int) (L'.take j) xx) := ⟨_, rfl⟩
          rw [← hX] at HN HO HLE
          have HNX : Hid (mtA (S' : Int) (L.take k) L' ++ mtR (S' : Int) (L'.take (j + 1)) xx = X ++ mtC (S' : Int) xx ((f' : Int), (t' : Int), b2, b3)) := by show _ = _; rw [HST2.out, ← List.append_assoc, hX]
          have hn := HN.out
          clear HN hX HST2 hy
          subst hn
          have m0 : (0 : Int) ≤ (j : Int) := by omega
          have m1 : (j : Int) < (L'.length : Int) := by omega
          have RYn := Row.new wi 39 [.int .i64 (f' : Int), .int .i64 (t' : Int), .int .i64 b2, .int .i64 b3]
          have RXa := Lib.hid (RX.out.alloc (.cells ([.int .i64 (f' : Int), .int .i64 (t' : Int), .int .i64 b2, .int .i64 b3] : List Value).toArray 39))
          have HOa := Lib.hid (World.ownsRow.alloc HO.out (.cells ([.int .i64 (f' : Int), .int .i64 (t' : Int), .int .i64 b2, .int .i64 b3] : List Value).toArray 39))
          have HBa : Hid (Below w4.heap.size w4 (wi.alloc (.cells ([.int .i64 (f' : Int), .int .i64 (t' : Int), .int .i64 b2, .int .i64 b3] : List Value).toArray 39))) := HB.out.alloc HB.out.size _
          have y0 := RYn.cell 0; have y1 := RYn.cell 1; have y2 := RYn.cell 2; have y3 := RYn.cell 3
          have x0 := RXa.out.cell 0; have x1 := RXa.out.cell 1; have x2 := RXa.out.cell 2; have x3 := RXa.out.cell 3
          clear RYn RX HO HB HBw
          by_cases heq : a2 = b2
          · subst heq
            have HMC : Hid (mtC (S' : Int) xx ((f' : Int), (t' : Int), a2, b3) = [((f : Int) * (S' : Int) + (f' : Int), (t : Int) * (S' : Int) + (t' : Int), a2, a3 + b3)]) := by show _ = _; rw [HXX.out]; unfold mtC mtB; rw [if_pos rfl]
            have g1 : 0 ≤ (f : Int) * (S' : Int) ∧ (f : Int) * (S' : Int) ≤ 16 * 16 := ⟨Int.mul_nonneg f0 (by omega), Int.mul_le_mul (by omega) (by omega) (by omega) (by omega)⟩
            have g2 : 0 ≤ (t : Int) * (S' : Int) ∧ (t : Int) * (S' : Int) ≤ 16 * 16 := ⟨Int.mul_nonneg t0 (by omega), Int.mul_le_mul (by omega) (by omega) (by omega) (by omega)⟩
            have e1 : IntKind.i64.wrap ((f : Int) * (S' : Int)) = (f : Int) * (S' : Int) := IntWalk.i64_in _ (by omega)
            have e2 : IntKind.i64.wrap ((t : Int) * (S' : Int)) = (t : Int) * (S' : Int) := IntWalk.i64_in _ (by omega)
            have e3 : IntKind.i64.wrap ((f : Int) * (S' : Int) + (f' : Int)) = (f : Int) * (S' : Int) + (f' : Int) := IntWalk.i64_in _ (by omega)
            have e4 : IntKind.i64.wrap ((t : Int) * (S' : Int) + (t' : Int)) = (t : Int) * (S' : Int) + (t' : Int) := IntWalk.i64_in _ (by omega)
            have e5 : IntKind.i64.wrap (a3 + b3) = a3 + b3 := IntWalk.i64_in _ (by omega)
            have z0 := (RB4.out.below HBa.out RB4.out.lt).cell 0
            clear g1 g2
            go_upto_region 11 with fail
            clear k0 k1 k2 k3
            obtain ⟨y, hy⟩ : ∃ y, y = (wi.alloc (.cells ([.int .i64 (f' : Int), .int .i64 (t' : Int), .int .i64 a2, .int .i64 b3] : List Value).toArray 39)) := ⟨_, rfl⟩
            obtain ⟨ga, hga⟩ : ∃ x, x = wi.heap.size := ⟨_, rfl⟩
            change Code.wp _ _ _ _ (wi.alloc (.cells ([.int .i64 (f' : Int), .int .i64 (t' : Int), .int .i64 a2, .int .i64 b3] : List Value).toArray 39))
            rw [← hy] at x0 x1 x2 x3 z0 RXa HOa HBa
            rw [← hy, ← hga] at y0 y1 y2 y3
            rw [← hy, ← hga]
            clear hy hga
            have HNA : Hid (∀ j' u, ([.int .i64 ((f : Int) * (S' : Int) + (f' : Int)), .int .i64 ((t : Int) * (S' : Int) + (t' : Int)), .int .i64 a2, .int .i64 (a3 + b3)] : List Value)[j']? = some u → (y.alloc (.cells ([.int .i64 ((f : Int) * (S' : Int) + (f' : Int)), .int .i64 ((t : Int) * (S' : Int) + (t' : Int)), .int .i64 a2, .int .i64 (a3 + b3)] : List Value).toArray 39)).cell? ⟨y.heap.size, 0 + j', none⟩ = some u) := fun j' u hu => by rw [Nat.zero_add]; exact ((Row.new y 39 [.int .i64 ((f : Int) * (S' : Int) + (f' : Int)), .int .i64 ((t : Int) * (S' : Int) + (t' : Int)), .int .i64 a2, .int .i64 (a3 + b3)]).cell j').trans hu
            have HOA := Lib.hid (World.ownsRow.alloc HOa.out (.cells ([.int .i64 ((f : Int) * (S' : Int) + (f' : Int)), .int .i64 ((t : Int) * (S' : Int) + (t' : Int)), .int .i64 a2, .int .i64 (a3 + b3)] : List Value).toArray 39))
            have RXA := Lib.hid (RXa.out.alloc (.cells ([.int .i64 ((f : Int) * (S' : Int) + (f' : Int)), .int .i64 ((t : Int) * (S' : Int) + (t' : Int)), .int .i64 a2, .int .i64 (a3 + b3)] : List Value).toArray 39))
            have HBA : Hid (Below w4.heap.size w4 (y.alloc (.cells ([.int .i64 ((f : Int) * (S' : Int) + (f' : Int)), .int .i64 ((t : Int) * (S' : Int) + (t' : Int)), .int .i64 a2, .int .i64 (a3 + b3)] : List Value).toArray 39))) := HBa.out.alloc HBa.out.size _
            have HSZ : Hid (w4.heap.size ≤ (y.alloc (.cells ([.int .i64 ((f : Int) * (S' : Int) + (f' : Int)), .int .i64 ((t : Int) * (S' : Int) + (t' : Int)), .int .i64 a2, .int .i64 (a3 + b3)] : List Value).toArray 39)).heap.size) := HBA.out.size
            have HNB1 : Hid ((Value.slice A X.length c).ownBlock ≠ some gb) := HNB.out
            go_wp2_with (first | (at_builtin; refine wpList_cells_push (w0 := (y.alloc (.cells ([.int .i64 ((f : Int) * (S' : Int) + (f' : Int)), .int .i64 ((t : Int) * (S' : Int) + (t' : Int)), .int .i64 a2, .int .i64 (a3 + b3)] : List Value).toArray 39))) rfl (.tmp 63) (.tmp 88) _ rfl w4.heap.size 39 (.agg #[.int .i64 0, .int .i64 0, .int .i64 0, .int .i64 0]) 4 32 Try.underlying25 infoAr rfl (by omega) (by omega) (.slice A X.length c) X.length (fa X) rfl HOA.out y.heap.size 0 1 1 [.int .i64 ((f : Int) * (S' : Int) + (f' : Int)), .int .i64 ((t : Int) * (S' : Int) + (t' : Int)), .int .i64 a2, .int .i64 (a3 + b3)] rfl rfl HNA.out (fa_one [((f : Int) * (S' : Int) + (f' : Int), (t : Int) * (S' : Int) + (t' : Int), a2, a3 + b3)]) HLE.out HSZ.out ?_; intro v' w' hown hgr hat; obtain ⟨A', c', hv', _, _⟩ := own_form hown; subst hv'; have HG := Lib.hid (HBA.out.trans (grown_below' HOA.out hgr HSZ.out)); have HOW := Lib.hid hown; have HRX := Lib.hid (row_keep2 RXA.out hgr HNB1.out); have HNB2 : Hid ((Value.slice A' (X.length + 1) c').ownBlock ≠ some gb) := (fun e => (by rcases hat with q | q; exact HNB1.out (by rw [← q]; exact e); rw [e] at q; have := Option.some.inj q; have := RXA.out.lt; omega)); clear hgr hown hat))
            go_roundg (gk - 1)
            case measure => omega
            case rel =>
              refine ⟨j + 1, X.length + 1, A', c', by go_num, by omega, by omega, rfl, ?_, ?_, HG.out, HRX.out, HNB2.out⟩
              · show _ = _; rw [HNX.out, HMC.out, List.length_append]; rfl
              · show World.ownsRow _ _ _ _ _ _ _; rw [HNX.out, HMC.out, fa_append]; exact HOW.out
          · have HMC : Hid (mtC (S' : Int) xx ((f' : Int), (t' : Int), b2, b3) = []) := by show _ = _; rw [HXX.out]; unfold mtC; rw [if_neg heq]
            have heq2 : (a2 == b2) = false := beq_false_of_ne heq
            go_wp2_with fail
            go_roundg (gk - 1)
            case measure => omega
            case rel =>
              refine ⟨j + 1, X.length, A, c, by go_num, by omega, by omega, rfl, ?_, ?_, HBa.out, RXa.out, HNB.out⟩
              · show _ = _; rw [HNX.out, HMC.out, List.append_nil]
              · show World.ownsRow _ _ _ _ _ _ _; rw [HNX.out, HMC.out, List.append_nil]; exact HOa.out
        · have hjn : j = L'.length := by omega
          have m1 : ¬ (j : Int) < (L'.length : Int) := by omega
          have HFU : Hid ((mtA (S' : Int) (L.take k) L' ++ mtR (S' : Int) (L'.take j) xx) = mtA (S' : Int) (L.take (k + 1)) L') := by show _ = _; rw [HST.out, hjn, List.take_length]
          rw [HFU.out] at HN HO
          clear hjn hlt2
          go_wp2_with fail
          go_roundg (go - 1)
          case measure => omega
          case rel => exact ⟨k + 1, n, A, c, by go_num, by omega, by omega, rfl, HN.out, HO.out, HB.out⟩
    · have hkn : k = L.length := by omega
      have m1 : ¬ (k : Int) < (L.length : Int) := by omega
      have HFU : Hid (mtA (S' : Int) (L.take k) L' = (mtA (S' : Int) L L')) := by show _ = _; rw [hkn, List.take_length]
      rw [HFU.out] at HN HO
      clear hkn hlt
      obtain ⟨wz, rfl⟩ : ∃ x : World, x = wo := ⟨_, rfl⟩
      have LT4 : Hid (w.heap.size + 1 + 1 < w4.heap.size) := RR4.out.lt
      have LTz : Hid (w.heap.size + 1 + 1 < wz.heap.size) := by have := LT4.out; have := HB.out.size; show _ < _; omega
      have RAz := Lib.hid (RA4.out.below HB.out RA4.out.lt); have RBz := Lib.hid (RB4.out.below HB.out RB4.out.lt); have RRz := Lib.hid (RR4.out.below HB.out RR4.out.lt)
      have Z2 : Hid (w4.heap.size ≤ wz.heap.size) := HB.out.size
      have HOZ : Hid (OwX wz w4.heap.size 39 4 (.slice A n c) n (fa (mtA (S' : Int) L L'))) := HO.out
      have hcells : Hid (∀ x : World, Lo wz.heap.size (w.heap.size + 1 + 1) wz x → (x.cell? ⟨w.heap.size, 0, none⟩ = some (.int .i64 (S : Int)) ∧ x.cell? ⟨w.heap.size, 1, none⟩ = some (.int .i64 T) ∧ x.cell? ⟨w.heap.size, 3, none⟩ = some (.slice (some ⟨p3, 0, none⟩) P.length C3) ∧ x.cell? ⟨w.heap.size, 4, none⟩ = some (.slice (some ⟨p4, 0, none⟩) E.length C4) ∧ x.cell? ⟨w.heap.size + 1, 0, none⟩ = some (.int .i64 (S' : Int)) ∧ x.cell? ⟨w.heap.size + 1, 3, none⟩ = some (.slice (some ⟨q3, 0, none⟩) P'.length D3) ∧ x.cell? ⟨w.heap.size + 1, 4, none⟩ = some (.slice (some ⟨q4, 0, none⟩) E'.length D4))) := by
        intro x hx
        have r := hx.row RAz.out (by have := LTz.out; omega) (by omega)
        have r' := hx.row RBz.out (by have := LTz.out; omega) (by omega)
        exact ⟨r.cell 0, r.cell 1, r.cell 3, r.cell 4, r'.cell 0, r'.cell 3, r'.cell 4⟩
      have hkeep : Hid (∀ x y : World, Lo wz.heap.size (w.heap.size + 1 + 1) wz x → Below wz.heap.size x y → (Lo wz.heap.size (w.heap.size + 1 + 1) wz y ∧ y.cell? ⟨w.heap.size, 0, none⟩ = some (.int .i64 (S : Int)) ∧ y.cell? ⟨w.heap.size, 1, none⟩ = some (.int .i64 T) ∧ y.cell? ⟨w.heap.size, 3, none⟩ = some (.slice (some ⟨p3, 0, none⟩) P.length C3) ∧ y.cell? ⟨w.heap.size, 4, none⟩ = some (.slice (some ⟨p4, 0, none⟩) E.length C4) ∧ y.cell? ⟨w.heap.size + 1, 0, none⟩ = some (.int .i64 (S' : Int)) ∧ y.cell? ⟨w.heap.size + 1, 3, none⟩ = some (.slice (some ⟨q3, 0, none⟩) P'.length D3) ∧ y.cell? ⟨w.heap.size + 1, 4, none⟩ = some (.slice (some ⟨q4, 0, none⟩) E'.length D4))) := by
        intro x y h1 h2
        have h3 := h1.trans (Lo.below h2 (Nat.le_refl _))
        exact ⟨h3, hcells.out y h3⟩
      have hkeepS : Hid (∀ (x : World) (u0 u1 u2 u3 u4 : Value), Lo wz.heap.size (w.heap.size + 1 + 1) wz x → (Lo wz.heap.size (w.heap.size + 1 + 1) wz (((((x.setCell ⟨w.heap.size + 1 + 1, 0, none⟩ u0).setCell ⟨w.heap.size + 1 + 1, 1, none⟩ u1).setCell ⟨w.heap.size + 1 + 1, 2, none⟩ u2).setCell ⟨w.heap.size + 1 + 1, 3, none⟩ u3).setCell ⟨w.heap.size + 1 + 1, 4, none⟩ u4) ∧ (((((x.setCell ⟨w.heap.size + 1 + 1, 0, none⟩ u0).setCell ⟨w.heap.size + 1 + 1, 1, none⟩ u1).setCell ⟨w.heap.size + 1 + 1, 2, none⟩ u2).setCell ⟨w.heap.size + 1 + 1, 3, none⟩ u3).setCell ⟨w.heap.size + 1 + 1, 4, none⟩ u4).cell? ⟨w.heap.size, 0, none⟩ = some (.int .i64 (S : Int)) ∧ (((((x.setCell ⟨w.heap.size + 1 + 1, 0, none⟩ u0).setCell ⟨w.heap.size + 1 + 1, 1, none⟩ u1).setCell ⟨w.heap.size + 1 + 1, 2, none⟩ u2).setCell ⟨w.heap.size + 1 + 1, 3, none⟩ u3).setCell ⟨w.heap.size + 1 + 1, 4, none⟩ u4).cell? ⟨w.heap.size, 1, none⟩ = some (.int .i64 T) ∧ (((((x.setCell ⟨w.heap.size + 1 + 1, 0, none⟩ u0).setCell ⟨w.heap.size + 1 + 1, 1, none⟩ u1).setCell ⟨w.heap.size + 1 + 1, 2, none⟩ u2).setCell ⟨w.heap.size + 1 + 1, 3, none⟩ u3).setCell ⟨w.heap.size + 1 + 1, 4, none⟩ u4).cell? ⟨w.heap.size, 3, none⟩ = some (.slice (some ⟨p3, 0, none⟩) P.length C3) ∧ (((((x.setCell ⟨w.heap.size + 1 + 1, 0, none⟩ u0).setCell ⟨w.heap.size + 1 + 1, 1, none⟩ u1).setCell ⟨w.heap.size + 1 + 1, 2, none⟩ u2).setCell ⟨w.heap.size + 1 + 1, 3, none⟩ u3).setCell ⟨w.heap.size + 1 + 1, 4, none⟩ u4).cell? ⟨w.heap.size, 4, none⟩ = some (.slice (some ⟨p4, 0, none⟩) E.length C4) ∧ (((((x.setCell ⟨w.heap.size + 1 + 1, 0, none⟩ u0).setCell ⟨w.heap.size + 1 + 1, 1, none⟩ u1).setCell ⟨w.heap.size + 1 + 1, 2, none⟩ u2).setCell ⟨w.heap.size + 1 + 1, 3, none⟩ u3).setCell ⟨w.heap.size + 1 + 1, 4, none⟩ u4).cell? ⟨w.heap.size + 1, 0, none⟩ = some (.int .i64 (S' : Int)) ∧ (((((x.setCell ⟨w.heap.size + 1 + 1, 0, none⟩ u0).setCell ⟨w.heap.size + 1 + 1, 1, none⟩ u1).setCell ⟨w.heap.size + 1 + 1, 2, none⟩ u2).setCell ⟨w.heap.size + 1 + 1, 3, none⟩ u3).setCell ⟨w.heap.size + 1 + 1, 4, none⟩ u4).cell? ⟨w.heap.size + 1, 3, none⟩ = some (.slice (some ⟨q3, 0, none⟩) P'.length D3) ∧ (((((x.setCell ⟨w.heap.size + 1 + 1, 0, none⟩ u0).setCell ⟨w.heap.size + 1 + 1, 1, none⟩ u1).setCell ⟨w.heap.size + 1 + 1, 2, none⟩ u2).setCell ⟨w.heap.size + 1 + 1, 3, none⟩ u3).setCell ⟨w.heap.size + 1 + 1, 4, none⟩ u4).cell? ⟨w.heap.size + 1, 4, none⟩ = some (.slice (some ⟨q4, 0, none⟩) E'.length D4))) := by
        intro x u0 u1 u2 u3 u4 h1
        have h3 := ((((h1.trans (Lo.set _ _ _ 0 u0)).trans (Lo.set _ _ _ 1 u1)).trans (Lo.set _ _ _ 2 u2)).trans (Lo.set _ _ _ 3 u3)).trans (Lo.set _ _ _ 4 u4)
        exact ⟨h3, hcells.out _ h3⟩
      have hsrc : Hid (∀ x : World, Lo wz.heap.size (w.heap.size + 1 + 1) wz x → SlI x x.heap.size (some ⟨p3, 0, none⟩) P.length P ∧ SlI x x.heap.size (some ⟨q3, 0, none⟩) P'.length P' ∧ SlI x x.heap.size (some ⟨p4, 0, none⟩) E.length E ∧ SlI x x.heap.size (some ⟨q4, 0, none⟩) E'.length E' ∧ OwX x w4.heap.size 39 4 (.slice A n c) n (fa (mtA (S' : Int) L L'))) := by
        intro x hx
        have hb : Below w.heap.size w x := HBw.out.trans (hx.bel (by have := LTz.out; omega) (by omega))
        refine ⟨(H3.out.below hb (Nat.le_refl _)).more hb.size, (K3.out.below hb (Nat.le_refl _)).more hb.size, (H4.out.below hb (Nat.le_refl _)).more hb.size, (K4.out.below hb (Nat.le_refl _)).more hb.size, own_move HOZ.out (fun g hg => hx.2.2.2.2 g (HOZ.out.lt g hg).2 ?_)⟩
        have := (HOZ.out.lt g hg).1; have := LT4.out; omega
      have HP1 : Hid (∀ x : World, Lo wz.heap.size (w.heap.size + 1 + 1) wz x → Calls Try.prog 61 #[.slice (some ⟨p3, 0, none⟩) P.length C3, .slice (some ⟨q3, 0, none⟩) P'.length D3] x fun e y => ∃ g d, e = .returned (.slice (some ⟨g, 0, none⟩) (psL P P').length d) ∧ OwX y w4.heap.size 2 1 (.slice (some ⟨g, 0, none⟩) (psL P P').length d) (psL P P').length (iv (psL P P')) ∧ Up x y ∧ Below wz.heap.size x y) := by
        intro x hx
        refine (iPair_any _ _ C3 P _ _ D3 P' x (hsrc.out x hx).1 (hsrc.out x hx).2.1 QPu.out QPu'.out (by omega) (by omega)).mono ?_
        rintro e y ⟨g, d, rfl, hr, hb⟩
        exact ⟨g, d, rfl, World.ownsRow.mono hr (by have := hx.2.2.2.1; have := Z2.out; omega), Up.of hb, hb.mono hx.2.2.2.1⟩
      have HP2 : Hid (∀ x : World, Lo wz.heap.size (w.heap.size + 1 + 1) wz x → Calls Try.prog 61 #[.slice (some ⟨p4, 0, none⟩) E.length C4, .slice (some ⟨q4, 0, none⟩) E'.length D4] x fun e y => ∃ g d, e = .returned (.slice (some ⟨g, 0, none⟩) (psL E E').length d) ∧ OwX y w4.heap.size 2 1 (.slice (some ⟨g, 0, none⟩) (psL E E').length d) (psL E E').length (iv (psL E E')) ∧ Up x y ∧ Below wz.heap.size x y) := by
        intro x hx
        refine (iPair_any _ _ C4 E _ _ D4 E' x (hsrc.out x hx).2.2.1 (hsrc.out x hx).2.2.2.1 QEu.out QEu'.out (by omega) (by omega)).mono ?_
        rintro e y ⟨g, d, rfl, hr, hb⟩
        exact ⟨g, d, rfl, World.ownsRow.mono hr (by have := hx.2.2.2.1; have := Z2.out; omega), Up.of hb, hb.mono hx.2.2.2.1⟩
      have HPL : Hid ((psL P P').length ≤ 256 ∧ (psL E E').length ≤ 256) := by
        have u1 : P.length * P'.length ≤ 16 * 16 := Nat.mul_le_mul bP bP'
        have u2 : E.length * E'.length ≤ 16 * 16 := Nat.mul_le_mul bE bE'
        exact ⟨by rw [psL_len]; omega, by rw [psL_len]; omega⟩
      have HNL : Hid (n ≤ 16384) := by
        have u1 := mtA_len (S' : Int) L' L
        have u2 : L.length * L'.length ≤ 128 * 128 := Nat.mul_le_mul qL rL
        have := HN.out
        show _ ≤ _
        omega
      have HK : Hid (∀ (x : World) (g3 d3 g4 d4 : Nat), Lo wz.heap.size (w.heap.size + 1 + 1) wz x → OwX x w4.heap.size 2 1 (.slice (some ⟨g3, 0, none⟩) (psL P P').length d3) (psL P P').length (iv (psL P P')) → OwX x w4.heap.size 2 1 (.slice (some ⟨g4, 0, none⟩) (psL E E').length d4) (psL E E').length (iv (psL E E')) → Calls Try.prog 60 #[.agg #[.int .i64 (m : Int), .int .i64 T, .slice A n c, .slice (some ⟨g3, 0, none⟩) (psL P P').length d3, .slice (some ⟨g4, 0, none⟩) (psL E E').length d4]] x fun e y => e = .returned (.tuple #[.agg #[.int .i64 (m : Int), .int .i64 T, .slice A n c, .slice (some ⟨g3, 0, none⟩) (psL P P').length d3, .slice (some ⟨g4, 0, none⟩) (psL E E').length d4], .bool true]) ∧ Below wz.heap.size x y ∧ OwX y w4.heap.size 2 1 (.slice (some ⟨g3, 0, none⟩) (psL P P').length d3) (psL P P').length (iv (psL P P')) ∧ OwX y w4.heap.size 2 1 (.slice (some ⟨g4, 0, none⟩) (psL E E').length d4) (psL E E').length (iv (psL E E'))) := by
        intro x g3 d3 g4 d4 hx o3 o4
        have hv := V3.out
        rw [HM.out] at hv
        have u1 := HPL.out
        have u2 := HNL.out
        refine (iCheckedG w4.heap.size (m : Int) T (mtA (S' : Int) L L') (psL P P') (psL E E') A n c _ _ d3 _ _ d4 x (hsrc.out x hx).2.2.2.2 o3 o4 HN.out.symm rfl rfl (by omega) (by omega) (by omega)).mono ?_
        rintro e y ⟨ok, h1, h2, h3⟩
        rw [hv] at h1
        subst h1
        exact ⟨h2, h3.mono hx.2.2.2.1, o3.upd (Up.of h3), o4.upd (Up.of h3)⟩
      have hdr : Lo wz.heap.size (w.heap.size + 1 + 1) wz wz.drew := Lo.refl _ _ _
      have HWR : Hid (Value.int .i64 (IntKind.i64.wrap ((S : Int) * (S' : Int))) = .int .i64 (m : Int)) := by show _ = _; rw [HWM]
      have hfrom : Lo wz.heap.size (w.heap.size + 1 + 1) wz wz.drew ∧ wz.drew.cell? ⟨w.heap.size, 0, none⟩ = some (.int .i64 (S : Int)) ∧ wz.drew.cell? ⟨w.heap.size, 1, none⟩ = some (.int .i64 T) ∧ wz.drew.cell? ⟨w.heap.size, 3, none⟩ = some (.slice (some ⟨p3, 0, none⟩) P.length C3) ∧ wz.drew.cell? ⟨w.heap.size, 4, none⟩ = some (.slice (some ⟨p4, 0, none⟩) E.length C4) ∧ wz.drew.cell? ⟨w.heap.size + 1, 0, none⟩ = some (.int .i64 (S' : Int)) ∧ wz.drew.cell? ⟨w.heap.size + 1, 3, none⟩ = some (.slice (some ⟨q3, 0, none⟩) P'.length D3) ∧ wz.drew.cell? ⟨w.heap.size + 1, 4, none⟩ = some (.slice (some ⟨q4, 0, none⟩) E'.length D4) := ⟨hdr, hcells.out _ hdr⟩
      go_wp2_with fail
      go_region_held3 (fun x => Lo wz.heap.size (w.heap.size + 1 + 1) wz x ∧ x.cell? ⟨w.heap.size, 0, none⟩ = some (.int .i64 (S : Int)) ∧ x.cell? ⟨w.heap.size, 1, none⟩ = some (.int .i64 T) ∧ x.cell? ⟨w.heap.size, 3, none⟩ = some (.slice (some ⟨p3, 0, none⟩) P.length C3) ∧ x.cell? ⟨w.heap.size, 4, none⟩ = some (.slice (some ⟨p4, 0, none⟩) E.length C4) ∧ x.cell? ⟨w.heap.size + 1, 0, none⟩ = some (.int .i64 (S' : Int)) ∧ x.cell? ⟨w.heap.size + 1, 3, none⟩ = some (.slice (some ⟨q3, 0, none⟩) P'.length D3) ∧ x.cell? ⟨w.heap.size + 1, 4, none⟩ = some (.slice (some ⟨q4, 0, none⟩) E'.length D4)) (first | (with_reducible assumption) | (with_reducible exact hkeepS.out _ _ _ _ _ _ (by first | (with_reducible assumption) | (with_reducible (apply And.left; assumption)))) | go_keep)
        (first
          | (go_at_call_of 61 (Value.slice (some ⟨p3, 0, none⟩) P.length C3); refine (HP1.out _ (by first | (with_reducible assumption) | (with_reducible (apply And.left; assumption)))).mono ?_; rintro e y1 ⟨g3, d3, rfl, o3, up3, b3⟩; have s1 := (fun h => hkeep.out _ _ h b3) (by first | (with_reducible assumption) | (with_reducible (apply And.left; assumption))))
          | (go_at_call_of 61 (Value.slice (some ⟨p4, 0, none⟩) E.length C4); refine (HP2.out _ (by first | (with_reducible assumption) | (with_reducible (apply And.left; assumption)))).mono ?_; rintro e y2 ⟨g4, d4, rfl, o4, up4, b4⟩; have s2 := (fun h => hkeep.out _ _ h b4) (by first | (with_reducible assumption) | (with_reducible (apply And.left; assumption))))
          | (go_at_call 60; (try rw [HWR.out]); refine (HK.out _ _ _ _ _ (by first | (with_reducible assumption) | (with_reducible (apply And.left; assumption))) (by repeat (first | (with_reducible assumption) | (with_reducible refine OwX.drew ?_) | (with_reducible refine OwX.alloc ?_ _) | (with_reducible refine OwX.up (by assumption) ?_))) (by repeat (first | (with_reducible assumption) | (with_reducible refine OwX.drew ?_) | (with_reducible refine OwX.alloc ?_ _) | (with_reducible refine OwX.up (by assumption) ?_)))).mono ?_; rintro e y5 ⟨rfl, hb5, o35, o45⟩; have s5 := (fun h => hkeep.out _ _ h hb5) (by first | (with_reducible assumption) | (with_reducible (apply And.left; assumption))); have rr5 : Row y5 (w.heap.size + 1 + 1) 28 [.int .i64 0, .int .i64 0, .slice none 0 0, .slice none 0 0, .slice none 0 0] := (by repeat (first | (with_reducible exact RRz.out) | (with_reducible refine Row.drew ?_) | (with_reducible refine Row.alloc ?_ _) | (with_reducible refine row_low (by assumption) LTz.out ?_))); have y50 := rr5.cell 0; have f50 := rr5.frozen 0; have y51 := rr5.cell 1; have f51 := rr5.frozen 1; have y52 := rr5.cell 2; have f52 := rr5.frozen 2; have y53 := rr5.cell 3; have f53 := rr5.frozen 3; have y54 := rr5.cell 4; have f54 := rr5.frozen 4; have RR5 := Lib.hid rr5; clear rr5))
      all_goals
        try go_wp2_with fail
        clear y50 f50 y51 f51 y52 f52 y53 f53 y54 f54
        have hLF := (hkeepS.out y5 (.int .i64 (m : Int)) (.int .i64 T) (.slice A n c) (.slice (some ⟨g3, 0, none⟩) (psL P P').length d3) (.slice (some ⟨g4, 0, none⟩) (psL E E').length d4) s5.1).1
        have hF := (((((RR5.out.set_ 0 (.int .i64 (m : Int))).set_ 1 (.int .i64 T)).set_ 2 (.slice A n c)).set_ 3 (.slice (some ⟨g3, 0, none⟩) (psL P P').length d3)).set_ 4 (.slice (some ⟨g4, 0, none⟩) (psL E E').length d4))
        have keepF : ∀ g, w4.heap.size ≤ g → (((((y5.setCell ⟨w.heap.size + 1 + 1, 0, none⟩ (.int .i64 (m : Int))).setCell ⟨w.heap.size + 1 + 1, 1, none⟩ (.int .i64 T)).setCell ⟨w.heap.size + 1 + 1, 2, none⟩ (.slice A n c)).setCell ⟨w.heap.size + 1 + 1, 3, none⟩ (.slice (some ⟨g3, 0, none⟩) (psL P P').length d3)).setCell ⟨w.heap.size + 1 + 1, 4, none⟩ (.slice (some ⟨g4, 0, none⟩) (psL E E').length d4)).heap[g]? = y5.heap[g]? := fun g h1 => heap_set5 _ _ _ _ _ (by have := LT4.out; omega)
        refine bodyPost_ret (results_cell2 rfl _ _ (w.heap.size + 1 + 1) 28 #[.int .i64 (m : Int), .int .i64 T, .slice A n c, .slice (some ⟨g3, 0, none⟩) (psL P P').length d3, .slice (some ⟨g4, 0, none⟩) (psL E E').length d4] (0, 0) _ (.bool true) rfl rfl hF Try.underlying28 rfl (by kernel_rfl)) rfl ?_
        obtain ⟨F, hFF⟩ : ∃ F, F = (((((y5.setCell ⟨w.heap.size + 1 + 1, 0, none⟩ (.int .i64 (m : Int))).setCell ⟨w.heap.size + 1 + 1, 1, none⟩ (.int .i64 T)).setCell ⟨w.heap.size + 1 + 1, 2, none⟩ (.slice A n c)).setCell ⟨w.heap.size + 1 + 1, 3, none⟩ (.slice (some ⟨g3, 0, none⟩) (psL P P').length d3)).setCell ⟨w.heap.size + 1 + 1, 4, none⟩ (.slice (some ⟨g4, 0, none⟩) (psL E E').length d4)) := ⟨_, rfl⟩
        rw [← hFF] at hLF keepF ⊢
        clear hF hFF
        have hBF : Below w.heap.size w F := HBw.out.trans (hLF.bel (by have := LTz.out; omega) (by omega))
        have oa := (hsrc.out F hLF).2.2.2.2
        have os := own_move o35 (fun g hg => keepF g (o35.lt g hg).1)
        have oe := own_move o45 (fun g hg => keepF g (o45.lt g hg).1)
        rw [HM.out]
        exact ⟨_, _, _, _, _, _, _, _, _, rfl, ow_slA2 oa HN.out, own_sl os, own_sl oe, hBF⟩
end Go.Proofs.Ytkfmjnefbimecaa
