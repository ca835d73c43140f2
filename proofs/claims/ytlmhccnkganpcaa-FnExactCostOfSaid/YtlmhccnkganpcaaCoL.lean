/- CostOf of the reference, whole; both contracts as the law's walk wants them. -/
import Derived.Test.YtlmhccnkganpcaaCoE
namespace Go.Proofs.Ytlmhccnkganpcaa
open Go.RowKit
set_option linter.unusedVariables false
set_option maxRecDepth 100000 in
set_option maxHeartbeats 2000000 in
theorem sCostOf_any (v : Value) (S T : Int) (L : List A4) (P E : List Int) (A : Option Addr) (n c : Nat) (xs : List Int) (w : World) (h : Mc w w.heap.size v S T L P E) (hx : SlI w w.heap.size A n xs) (hL : L.length ≤ 1048576) (hP : P.length ≤ 1048576) (hE : E.length ≤ 1048576) (hn : n ≤ 4294967296) :
    Calls Try.prog 26 #[v, .slice A n c] w fun e w' => e = .returned (.tuple #[.int .i64 (coR 1099511627776 S T L P E xs), .bool (coB S T L P E xs)]) ∧ Below w.heap.size w w' := by
  obtain ⟨A2, n2, c2, A3, n3, c3, A4', n4, c4, rfl, h2, h3, h4⟩ := h
  have e2 := h2.len; have e3 := h3.len; have e4 := h4.len
  subst e2 e3 e4
  have rb := Row.new w 29 (BxM S T A2 L.length c2 A3 P.length c3 A4' E.length c4)
  have bx : Below w.heap.size w (w.alloc (.cells (BxM S T A2 L.length c2 A3 P.length c3 A4' E.length c4).toArray 29)) := (Below.refl _ _).alloc (Nat.le_refl _) _
  have HX := Lib.hid ((hx.below bx (Nat.le_refl _)).more bx.size)
  have HM : Hid (Mp (w.alloc (.cells (BxM S T A2 L.length c2 A3 P.length c3 A4' E.length c4).toArray 29)) w.heap.size S T L P E) := ⟨_, _, _, _, _, _, rb, (h2.below bx (Nat.le_refl _)).more bx.size, (h3.below bx (Nat.le_refl _)).more bx.size, (h4.below bx (Nat.le_refl _)).more bx.size⟩
  have H2 := Lib.hid ((h2.below bx (Nat.le_refl _)).more bx.size); have H3 := Lib.hid ((h3.below bx (Nat.le_refl _)).more bx.size); have H4 := Lib.hid ((h4.below bx (Nat.le_refl _)).more bx.size)
  have RB := Lib.hid rb; have BX := Lib.hid bx
  clear h2 h3 h4 rb bx hx
  go_enter Try.func26, Try.ntmps26
  go_wp2_with fail
  obtain ⟨w0, hw0⟩ : ∃ x, x = w.alloc (.cells (BxM S T A2 L.length c2 A3 P.length c3 A4' E.length c4).toArray 29) := ⟨_, rfl⟩
  rw [← hw0] at HX HM RB BX H2 H3 H4
  change Calls _ _ _ (w.alloc (.cells (BxM S T A2 L.length c2 A3 P.length c3 A4' E.length c4).toArray 29)) _
  rw [← hw0]
  clear hw0
  refine (sIs_any w.heap.size S T L P E A2 L.length c2 A3 P.length c3 A4' E.length c4 w0.heap.size w0 RB.out (Nat.le_refl _) H2.out H3.out H4.out (by omega) (by omega) (by omega)).mono ?_
  rintro e w1 ⟨rfl, hb1⟩
  have HM1 := Lib.hid (HM.out.below hb1 (Nat.le_refl _))
  have HX1 := Lib.hid ((HX.out.below hb1 (Nat.le_refl _)).more hb1.size)
  have RB1 := RB.out.below hb1 RB.out.lt
  have hdef : coB S T L P E xs = (vmB S T L P E && wordB xs T) := rfl
  have hdr : coR 1099511627776 S T L P E xs = if coB S T L P E xs then coV 1099511627776 L P E xs else 0 := rfl
  have HBE := Lib.hid (BX.out.trans (hb1.mono BX.out.size))
  clear hb1
  cases q1 : vmB S T L P E with
  | false =>
    rw [q1, Bool.false_and] at hdef
    rw [hdef, if_neg (by simp)] at hdr
    have HD := Lib.hid hdef; have HR := Lib.hid hdr
    clear hdef hdr RB1
    go_wp2_with fail
    go_ret2
    exact ⟨by rw [HD.out, HR.out]; rfl, HBE.out⟩
  | true =>
    obtain ⟨v1, v2, v3, v4, v5, v6, v7, v8, v9, v10⟩ := vm_okM q1
    have HV2 := Lib.hid v2; have HV3 := Lib.hid v3; have HV1 := Lib.hid v1; have HV5 := Lib.hid v5; have HV8 := Lib.hid v8
    rw [q1, Bool.true_and] at hdef
    clear v1 v2 v3 v8 v5 q1
    have k1 := RB1.cell 1
    have HRB := Lib.hid RB1; clear RB1
    have hI := sWord_any A n c xs T w1 HX1.out (by omega) ⟨v9, v10⟩
    cases q2 : wordB xs T with
    | false =>
      rw [q2] at hI
      rw [q2] at hdef
      rw [hdef, if_neg (by simp)] at hdr
      have HD := Lib.hid hdef; have HR := Lib.hid hdr
      clear hdef hdr q2
      go_wp2_with fail
      refine hI.mono ?_; rintro e w2 ⟨rfl, hb2⟩; clear hI
      go_wp2_with fail
      go_ret2
      exact ⟨by rw [HD.out, HR.out]; rfl, HBE.out.trans (hb2.mono HBE.out.size)⟩
    | true =>
      have hn12 := wordB_len q2
      have hxn := HX1.out.len
      rw [q2] at hI
      rw [q2] at hdef
      rw [hdef, if_pos rfl] at hdr
      have HD := Lib.hid hdef; have HR := Lib.hid hdr
      have HXN := Lib.hid hxn
      have hn13 : n ≤ 1000000 := by omega
      clear hdef hdr q2 hxn
      go_wp2_with fail
      refine hI.mono ?_; rintro e w2 ⟨rfl, hb2⟩; clear hI k1
      have HB2 := Lib.hid hb2; clear hb2
      go_wp2_with fail
      refine (sCost0_any w.heap.size S T L P E A n c xs w2 (HM1.out.below HB2.out (Nat.le_refl _)) ((HX1.out.below HB2.out (Nat.le_refl _)).more HB2.out.size) HV8.out HV2.out HV3.out HV1.out v4 HV5.out (by omega) (by omega) hn13).mono ?_
      rintro e w3 ⟨C, hC, rfl, hb3⟩
      have HS := Lib.hid (cost_same HV1.out HV2.out HV3.out HV5.out v6 hn12 hC)
      have HB3 := Lib.hid hb3; clear hb3 hC
      go_wp2_with fail
      go_ret2
      exact ⟨by rw [HD.out, HR.out, ← HS.out]; rfl, HBE.out.trans ((HB2.out.trans (HB3.out.mono HB2.out.size)).mono HBE.out.size)⟩
theorem iCostOfL_any (v : Value) (b off n c : Nat) (S T : Int) (L : List A4) (P E xs : List Int) (w : World) (h : Mc w w.heap.size v S T L P E) (hx : SlI w w.heap.size (some ⟨b, off, none⟩) n xs) (hL : L.length ≤ 1048576) (hP : P.length ≤ 1048576) (hE : E.length ≤ 1048576) (hn : n ≤ 1048576) :
    Calls Try.prog 28 #[v, .slice (some ⟨b, off, none⟩) n c] w fun e w' => e = .returned (.tuple #[.int .i64 (coR 1099511627776 S T L P E xs), .bool (coB S T L P E xs)]) ∧ Below w.heap.size w w' := iCostOf_any v S T L P E _ n c xs w h hx hL hP hE (by omega)
theorem sCostOfL_any (v : Value) (b off n c : Nat) (S T : Int) (L : List A4) (P E xs : List Int) (w : World) (h : Mc w w.heap.size v S T L P E) (hx : SlI w w.heap.size (some ⟨b, off, none⟩) n xs) (hL : L.length ≤ 1048576) (hP : P.length ≤ 1048576) (hE : E.length ≤ 1048576) (hn : n ≤ 1048576) :
    Calls Try.prog 26 #[v, .slice (some ⟨b, off, none⟩) n c] w fun e w' => e = .returned (.tuple #[.int .i64 (coR 1099511627776 S T L P E xs), .bool (coB S T L P E xs)]) ∧ Below w.heap.size w w' := sCostOf_any v S T L P E _ n c xs w h hx hL hP hE (by omega)
end Go.Proofs.Ytlmhccnkganpcaa
