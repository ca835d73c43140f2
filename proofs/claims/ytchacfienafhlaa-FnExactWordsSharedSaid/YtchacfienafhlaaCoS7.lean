/- The costs of a word, in the reference: CostOf. -/
import Derived.Test.YtchacfienafhlaaCoS6
namespace Go.Proofs.Ytchacfienafhlaa
open Go.RowKit
set_option linter.unusedVariables false
def rwV (F : Int) (L : List A4) (P : List Int) (C : List (List Int)) (xs : List Int) : Nat → List Int
  | 0 => frL F P
  | k + 1 => mvV F (rwV F L P C xs k) (spV F L (g0 xs k) C)
theorem rwV_len (F : Int) (L : List A4) (P : List Int) (C : List (List Int)) (xs : List Int) (k : Nat) : (rwV F L P C xs k).length = P.length := by
  induction k with
  | zero => exact frL_len F P
  | succ k ih => rw [rwV, mvV_len, ih]
theorem rwV_bd {F : Int} (hF : 0 ≤ F) {L : List A4} {P : List Int} {C : List (List Int)} (hP : ∀ x ∈ P, x ≤ F) (hL : ∀ a ∈ L, 0 ≤ a.2.2.2) (hC : BdR F C) (xs : List Int) (k : Nat) : Bd F (rwV F L P C xs k) := by
  induction k with
  | zero => exact frL_bd hF hP
  | succ k ih => exact mvV_bd hF ih (spV_bd hF hC hL)
def csR (F : Int) (L : List A4) (P E : List Int) (C : List (List Int)) (xs : List Int) : Int := tld F (lsm F (rwV F L P C xs xs.length) (enV F P.length E C) P.length)
set_option maxRecDepth 100000 in
set_option maxHeartbeats 4000000 in
theorem sCost0_any (gm : Nat) (S T : Int) (L : List A4) (P E : List Int) (A : Option Addr) (m c : Nat) (xs : List Int) (w : World) (h : Mp w gm S T L P E) (hx : SlI w w.heap.size A m xs) (hS : S = (P.length : Int)) (hP : ∀ x ∈ P, x ≤ 1000) (hE : ∀ x ∈ E, x ≤ 1000) (hL : okM P.length L) (h0 : 0 < P.length) (hPE : P.length = E.length) (hPn : P.length ≤ 1000000) (hLn : L.length ≤ 1000000) (hn : m ≤ 1000000) :
    Calls Try.prog 67 #[.pointer (some ⟨gm, 0, none⟩), .slice A m c] w fun e w' => ∃ C, ClsT 1000000000 P.length L C ∧ e = .returned (.int .i64 (csR 1000000000 L P E C xs)) ∧ Below w.heap.size w w' := by
  have ex := hx.len
  have HM := Lib.hid h; have HX := Lib.hid hx; have EX := Lib.hid ex; have HPE := Lib.hid hPE; have HS := Lib.hid hS
  have HPF : Hid (∀ x ∈ P, x ≤ 1000000000) := fun x hx => by have := hP x hx; omega
  clear h hx ex hPE hS
  go_enter Try.func67, Try.ntmps67
  go_wp2_with fail
  refine (sClosed_any gm S T L P E P.length w HM.out HS.out hL h0 hPn hLn).mono ?_
  rintro e w1 ⟨go, co, C, rfl, hT, hC, hb1⟩
  have HTR : Hid (TabR w1 go P.length C) := hT.r hC.1.1 hC.1.2
  have HC := Lib.hid hC; have HB1 := Lib.hid hb1
  clear hT hC hb1
  go_wp2_with fail
  refine (sFirst_any gm S T L P E w1 (HM.out.below HB1.out (Nat.le_refl _)) HS.out hPn).mono ?_
  rintro e w2 ⟨A1, c1, rfl, hr2, hb2⟩
  have HB2 : Hid (Below w.heap.size w w2) := HB1.out.trans (hb2.mono HB1.out.size)
  have HT2 := Lib.hid (HTR.out.below hb2 (Nat.le_refl _))
  have HR2 := Lib.hid (World.ownsRow.mono hr2 HB1.out.size)
  clear hr2 hb2 HB1 HTR
  go_wp2_with fail
  go_loopg [6, 7] m (fun q o i wr => ∃ (k : Nat) (A1 : Option Addr) (c1 : Nat), i = .int .i64 k ∧ k ≤ m ∧ m ≤ q + k ∧ o = .slice A1 P.length c1 ∧ Hid (RowI wr w.heap.size 2 (.slice A1 P.length c1) (rwV 1000000000 L P C xs k)) ∧ Hid (Below w.heap.size w wr) ∧ Hid (TabR wr go P.length C))
  case atStart => exact ⟨0, A1, c1, rfl, by omega, by omega, rfl, by have := HR2.out; rw [frL_len] at this; show World.ownsRow _ _ _ _ _ _ _; rw [rwV, frL_len]; exact this, HB2.out, HT2.out⟩
  case round =>
    clear HR2 HB2 HT2
    obtain ⟨k, A1, c1, rfl, hk, hm, rfl, HR, HB, HT⟩ := hrel
    obtain ⟨wo, rfl⟩ : ∃ x : World, x = wr := ⟨_, rfl⟩
    by_cases hlt : k < m
    · have q1 : (k : Int) < (m : Int) := by omega
      obtain ⟨b, off, x, rfl, _, hxk, kx⟩ := (HX.out.below HB.out (Nat.le_refl _)).at_ hlt
      have HST : Hid (rwV 1000000000 L P C xs (k + 1) = mvV 1000000000 (rwV 1000000000 L P C xs k) (spV 1000000000 L x C)) := by show _ = _; rw [rwV, g0_get hxk.out]
      clear hxk
      go_wp2_with fail
      refine (sSteps_any gm S T L P E go P.length co C x wo (HM.out.below HB.out (Nat.le_refl _)) HT.out HS.out hL HC.out.2.1 hPn hLn).mono ?_
      rintro e w3 ⟨gs, cs, rfl, ht3, hb3⟩
      have HT3 : Hid (TabR w3 gs P.length (spV 1000000000 L x C)) := ht3.r (by rw [spV_len]; exact HC.out.1.1) (spV_rows HC.out.1.2)
      have HB3 : Hid (Below w.heap.size w w3) := HB.out.trans (hb3.mono HB.out.size)
      have HTC := Lib.hid (HT.out.below hb3 (Nat.le_refl _))
      have HR3 := Lib.hid (RowI.keep HR.out hb3 (Nat.le_refl _))
      clear ht3 hb3 HR HB HT
      go_wp2_with fail
      refine (sMove_any A1 P.length c1 (rwV 1000000000 L P C xs k) gs cs (spV 1000000000 L x C) w3 (HR3.out.sl (rwV_len _ _ _ _ _ _)) HT3.out (rwV_bd (by omega) HPF.out hL.cost HC.out.2.1 xs k) (spV_bd (by omega) HC.out.2.1 hL.cost) hPn).mono ?_
      rintro e w4 ⟨A4, c4, rfl, hr4, hb4⟩
      have HR4 := Lib.hid (World.ownsRow.mono hr4 HB3.out.size)
      have HB4 : Hid (Below w.heap.size w w4) := HB3.out.trans (hb4.mono HB3.out.size)
      have HT4 := Lib.hid (HTC.out.below hb4 (Nat.le_refl _))
      clear hr4 hb4
      go_wp2_with fail
      go_roundg (gk - 1)
      case measure => omega
      case rel =>
        refine ⟨k + 1, A4, c4, by go_num, by omega, by omega, rfl, ?_, HB4.out, HT4.out⟩
        have e : (rwV 1000000000 L P C xs (k + 1)).length = (mvV 1000000000 (rwV 1000000000 L P C xs k) (spV 1000000000 L x C)).length := by rw [HST.out]
        show World.ownsRow _ _ _ _ _ _ _
        rw [HST.out]
        exact HR4.out
    · have hkk : k = m := by omega
      have HK := Lib.hid hkk
      have q1 : (m : Int) ≤ (k : Int) := by omega
      clear hkk hlt
      go_wp2_with fail
      refine (sEnds_any gm S T L P E go P.length co C wo (HM.out.below HB.out (Nat.le_refl _)) HT.out HS.out HPE.out.symm hE HC.out.2.1 hPn).mono ?_
      rintro e w3 ⟨A3, c3, rfl, hr3, hb3⟩
      have HR3 := Lib.hid hr3; have HB3 := Lib.hid hb3
      clear hr3 hb3
      go_wp2_with fail
      have hs1 : SlI w3 w3.heap.size A1 P.length (rwV 1000000000 L P C xs k) := (RowI.keep HR.out HB3.out (Nat.le_refl _)).sl (rwV_len _ _ _ _ _ _)
      have hs2 : SlI w3 w3.heap.size A3 P.length (enV 1000000000 P.length E C) := RowI.sl HR3.out (enV_len _ _ _ _)
      refine (sSum_any A1 P.length c1 (rwV 1000000000 L P C xs k) A3 c3 (enV 1000000000 P.length E C) w3 hs1 hs2 (rwV_bd (by omega) HPF.out hL.cost HC.out.2.1 xs k) (enV_bd (by omega) _ HC.out.2.1) hPn).mono ?_
      rintro e w4 ⟨rfl, hb4⟩
      have HB4 := Lib.hid hb4
      clear hb4 hs1 hs2
      go_wp2_with fail
      refine (sTold_any _ _).mono ?_; rintro e w' ⟨rfl, hw⟩; obtain rfl := hw
      go_wp2_with fail
      go_ret
      refine ⟨C, HC.out, ret_int ?_, HB.out.trans ((HB3.out.trans (HB4.out.mono HB3.out.size)).mono HB.out.size)⟩
      unfold csR
      rw [rwV_len, EX.out, HK.out]
end Go.Proofs.Ytchacfienafhlaa
