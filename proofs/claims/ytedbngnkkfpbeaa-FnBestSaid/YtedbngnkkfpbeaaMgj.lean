/- Several texts in one: Words: IsWord of both programs. CostOf of the program: whole. The costs of a word, in the reference: words, sums, first costs, a move. -/
import Derived.Test.YtedbngnkkfpbeaaMge
import Derived.Deep.LoopGhost
import Derived.Test.YtedbngnkkfpbeaaCoW
import Derived.Deep.DeepCutAuto

namespace Go.Proofs.Ytedbngnkkfpbeaa
open Go.RowKit
set_option linter.unusedVariables false
theorem allIn_take_no {xs : List Int} {lo hi x : Int} {k : Nat} (hx : xs[k]? = some x) (h : inB x lo hi = false) : allIn xs lo hi = false := by
  unfold allIn
  rw [List.all_eq_false]
  exact ⟨x, List.mem_of_getElem? hx, by rw [h]; simp⟩
def wordB (xs : List Int) (T : Int) : Bool := inB T 1 4 && (decide (xs.length ≤ 12) && allIn xs 0 (T - 1))
set_option maxHeartbeats 1000000 in
theorem iIsWord_any (A : Option Addr) (n c : Nat) (xs : List Int) (T : Int) (w : World) (h : SlI w w.heap.size A n xs) (hn : n ≤ 4294967296) :
    Calls Try.prog 29 #[.slice A n c, .int .i64 T] w fun e w' => e = .returned (.bool (wordB xs T)) ∧ w = w' := by
  have hl := h.len
  have hdef : wordB xs T = (inB T 1 4 && (decide (n ≤ 12) && allIn xs 0 (T - 1))) := by unfold wordB; rw [hl]
  have W1 := iIn_any T 1 4
  have HD := Lib.hid hdef; have H := Lib.hid h
  clear hdef h hl
  cases q1 : inB T 1 4 with
  | false =>
    rw [q1] at W1 HD
    clear q1
    go_enter Try.func29, Try.ntmps29
    go_wp2_with fail
    refine (W1 _).mono ?_; rintro e w' ⟨rfl, hw⟩; obtain rfl := hw; clear W1
    go_wp2_with fail
    go_ret
    exact ⟨ret_bool HD.out.symm, rfl⟩
  | true =>
    have hT := inB_true q1
    rw [q1] at W1 HD
    clear q1
    have w1 : IntKind.i64.wrap (T - 1) = T - 1 := IntWalk.i64_in _ (by omega)
    by_cases q2 : n ≤ 12
    · rw [decide_eq_true q2] at HD
      have hA := iAllIn_any A n c xs 0 (T - 1) w.heap.size w H.out hn
      have q3 : (n : Int) ≤ 12 := by omega
      clear q2
      go_enter Try.func29, Try.ntmps29
      go_wp2_with fail
      refine (W1 _).mono ?_; rintro e w' ⟨rfl, hw⟩; obtain rfl := hw; clear W1
      go_wp2_with fail
      refine hA.mono ?_; rintro e w' ⟨rfl, hw⟩; obtain rfl := hw; clear hA
      go_wp2_with fail
      go_ret
      exact ⟨ret_bool HD.out.symm, rfl⟩
    · rw [decide_eq_false q2] at HD
      have q3 : (12 : Int) < (n : Int) := by omega
      have q4 : decide ((n : Int) ≤ 12) = false := decide_eq_false (by omega)
      clear q2
      go_enter Try.func29, Try.ntmps29
      go_wp2_with fail
      refine (W1 _).mono ?_; rintro e w' ⟨rfl, hw⟩; obtain rfl := hw; clear W1
      go_wp2_with fail
      go_ret
      exact ⟨ret_bool HD.out.symm, rfl⟩
theorem wordB_len {xs : List Int} {T : Int} (h : wordB xs T = true) : xs.length ≤ 12 := by
  unfold wordB at h
  rw [Bool.and_eq_true, Bool.and_eq_true] at h
  exact of_decide_eq_true h.2.1
end Go.Proofs.Ytedbngnkkfpbeaa


namespace Go.Proofs.Ytedbngnkkfpbeaa
open Go.RowKit
set_option linter.unusedVariables false
theorem vm_okM {S T : Int} {L : List A4} {P E : List Int} (h : vmB S T L P E = true) : okM P.length L ∧ (∀ x ∈ P, x ≤ 1000) ∧ (∀ x ∈ E, x ≤ 1000) ∧ 0 < P.length ∧ P.length = E.length ∧ P.length ≤ 16 ∧ L.length ≤ 128 ∧ S = (P.length : Int) ∧ 1 ≤ T ∧ T ≤ 4 := by
  obtain ⟨qS, qT, qL, qA, qP, qE⟩ := vmB_true h
  obtain ⟨qP1, qP2⟩ := mkB_true qP
  obtain ⟨qE1, qE2⟩ := mkB_true qE
  refine ⟨fun a ha => ?_, fun x hx => (qP2 x hx).2, fun x hx => (qE2 x hx).2, by omega, by omega, by omega, qL, by omega, qT.1, qT.2⟩
  have := okAm_true (qA a ha)
  omega
/-- Whether CostOf answers, and what. -/
def coB (S T : Int) (L : List A4) (P E xs : List Int) : Bool := vmB S T L P E && wordB xs T
def coR (F S T : Int) (L : List A4) (P E xs : List Int) : Int := if coB S T L P E xs then coV F L P E xs else 0
set_option maxRecDepth 100000 in
set_option maxHeartbeats 2000000 in
theorem iCostOf_any (v : Value) (S T : Int) (L : List A4) (P E : List Int) (A : Option Addr) (n c : Nat) (xs : List Int) (w : World) (h : Mc w w.heap.size v S T L P E) (hx : SlI w w.heap.size A n xs) (hL : L.length ≤ 1048576) (hP : P.length ≤ 1048576) (hE : E.length ≤ 1048576) (hn : n ≤ 4294967296) :
    Calls Try.prog 9 #[v, .slice A n c] w fun e w' => e = .returned (.tuple #[.int .i64 (coR 1099511627776 S T L P E xs), .bool (coB S T L P E xs)]) ∧ Below w.heap.size w w' := by
  obtain ⟨A2, n2, c2, A3, n3, c3, A4', n4, c4, rfl, h2, h3, h4⟩ := h
  have rb := Row.new w 28 (BxM S T A2 n2 c2 A3 n3 c3 A4' n4 c4)
  have bx : Below w.heap.size w (w.alloc (.cells (BxM S T A2 n2 c2 A3 n3 c3 A4' n4 c4).toArray 28)) := (Below.refl _ _).alloc (Nat.le_refl _) _
  have HX := Lib.hid ((hx.below bx (Nat.le_refl _)).more bx.size)
  have HM : Hid (Mc (w.alloc (.cells (BxM S T A2 n2 c2 A3 n3 c3 A4' n4 c4).toArray 28)) (w.alloc (.cells (BxM S T A2 n2 c2 A3 n3 c3 A4' n4 c4).toArray 28)).heap.size (.agg #[.int .i64 S, .int .i64 T, .slice A2 n2 c2, .slice A3 n3 c3, .slice A4' n4 c4]) S T L P E) := ⟨_, _, _, _, _, _, _, _, _, rfl, (h2.below bx (Nat.le_refl _)).more bx.size, (h3.below bx (Nat.le_refl _)).more bx.size, (h4.below bx (Nat.le_refl _)).more bx.size⟩
  have RB := Lib.hid rb; have BX := Lib.hid bx
  clear h2 h3 h4 rb bx hx
  have r0 := RB.out.cell 0; have r1 := RB.out.cell 1; have r2 := RB.out.cell 2; have r3 := RB.out.cell 3; have r4 := RB.out.cell 4
  go_enter Try.func9, Try.ntmps9
  go_wp2_with fail
  clear r0 r1 r2 r3 r4
  obtain ⟨w0, hw0⟩ : ∃ x, x = w.alloc (.cells (BxM S T A2 n2 c2 A3 n3 c3 A4' n4 c4).toArray 28) := ⟨_, rfl⟩
  rw [← hw0] at HX HM RB BX
  change Calls _ _ _ (w.alloc (.cells (BxM S T A2 n2 c2 A3 n3 c3 A4' n4 c4).toArray 28)) _
  rw [← hw0]
  clear hw0
  refine (iValidMachine_any _ S T L P E w0 HM.out (by omega) (by omega) (by omega)).mono ?_
  rintro e w1 ⟨rfl, hb1⟩
  have HB1 := Lib.hid hb1
  have HM1 := Lib.hid ((HM.out.below hb1 (Nat.le_refl _)).more hb1.size)
  have HX1 := Lib.hid ((HX.out.below hb1 (Nat.le_refl _)).more hb1.size)
  have RB1 := RB.out.below hb1 RB.out.lt
  have hdef : coB S T L P E xs = (vmB S T L P E && wordB xs T) := rfl
  have hdr : coR 1099511627776 S T L P E xs = if coB S T L P E xs then coV 1099511627776 L P E xs else 0 := rfl
  have HBE := Lib.hid (BX.out.trans (hb1.mono BX.out.size))
  clear hb1
  cases q1 : vmB S T L P E with
  | false =>
    rw [q1, Bool.false_and] at hdef
    rw [hdef, if_neg (by simp)] at hdr
    have HD := Lib.hid hdef; have HR := Lib.hid hdr
    clear hdef hdr RB1
    go_wp2_with fail
    go_ret2
    exact ⟨by rw [HD.out, HR.out]; rfl, HBE.out⟩
  | true =>
    obtain ⟨v1, v2, v3, v4, v5, v6, v7, v8, _, _⟩ := vm_okM q1
    have HV2 := Lib.hid v2; have HV3 := Lib.hid v3; have HV1 := Lib.hid v1; have HV5 := Lib.hid v5
    clear v1 v2 v3 v8 v5
    rw [q1, Bool.true_and] at hdef
    clear q1
    have k1 := RB1.cell 1
    have HRB := Lib.hid RB1; clear RB1
    have hI := iIsWord_any A n c xs T w1 HX1.out (by omega)
    cases q2 : wordB xs T with
    | false =>
      rw [q2] at hI
      rw [q2] at hdef
      rw [hdef, if_neg (by simp)] at hdr
      have HD := Lib.hid hdef; have HR := Lib.hid hdr
      clear hdef hdr q2
      go_wp2_with fail
      refine hI.mono ?_; rintro e w' ⟨rfl, hw⟩; obtain rfl := hw; clear hI
      go_wp2_with fail
      go_ret2
      exact ⟨by rw [HD.out, HR.out]; rfl, HBE.out⟩
    | true =>
      have hn12 : n ≤ 1000000 := by have := wordB_len q2; have := HX1.out.len; omega
      rw [q2] at hI
      rw [q2] at hdef
      rw [hdef, if_pos rfl] at hdr
      have HD := Lib.hid hdef; have HR := Lib.hid hdr
      clear hdef hdr q2
      go_wp2_with fail
      refine hI.mono ?_; rintro e w' ⟨rfl, hw⟩; obtain rfl := hw; clear hI k1
      have r0 := HRB.out.cell 0; have r1 := HRB.out.cell 1; have r2 := HRB.out.cell 2; have r3 := HRB.out.cell 3; have r4 := HRB.out.cell 4
      go_wp2_with fail
      clear r0 r1 r2 r3 r4
      refine (iCostOf0_any _ S T L P E A n c xs w1 HM1.out HX1.out HV2.out HV3.out HV1.out v4 HV5.out (by omega) (by omega) hn12).mono ?_
      rintro e w2 ⟨rfl, hb2⟩
      have HB2 := Lib.hid hb2; clear hb2
      go_wp2_with fail
      go_ret2
      exact ⟨by rw [HD.out, HR.out]; rfl, HBE.out.trans (HB2.out.mono HBE.out.size)⟩
end Go.Proofs.Ytedbngnkkfpbeaa


namespace Go.Proofs.Ytedbngnkkfpbeaa
open Go.RowKit
set_option linter.unusedVariables false
theorem sMinC (x y : Int) (w : World) :
    Calls Try.prog 69 #[.int .i64 x, .int .i64 y] w fun e w' => e = .returned (.int .i64 (min x y)) ∧ w = w' := by
  by_cases h : x < y
  · go_enter Try.func69, Try.ntmps69
    go_wp2
    go_ret
    exact ⟨ret_int (by omega), rfl⟩
  · have h' : y ≤ x := by omega
    clear h
    go_enter Try.func69, Try.ntmps69
    go_wp2
    go_ret
    exact ⟨ret_int (by omega), rfl⟩
theorem sTold_any (x : Int) (w : World) :
    Calls Try.prog 72 #[.int .i64 x] w fun e w' => e = .returned (.int .i64 (tld 1000000000 x)) ∧ w = w' := by
  by_cases h : 1000000000 ≤ x
  · have HV := Lib.hid (show tld 1000000000 x = -1 from if_pos h)
    go_enter Try.func72, Try.ntmps72
    go_wp2
    go_ret
    exact ⟨ret_int HV.out.symm, rfl⟩
  · have HV := Lib.hid (show tld 1000000000 x = x from if_neg h)
    have h' : x < 1000000000 := by omega
    clear h
    go_enter Try.func72, Try.ntmps72
    go_wp2
    go_ret
    exact ⟨ret_int HV.out.symm, rfl⟩
set_option maxHeartbeats 4000000 in
theorem sSum_any (A : Option Addr) (n c : Nat) (a : List Int) (A' : Option Addr) (c' : Nat) (b : List Int) (w : World) (h : SlI w w.heap.size A n a) (h' : SlI w w.heap.size A' n b) (ha : Bd 1000000000 a) (hb : Bd 1000000000 b) (hn : n ≤ 1000000) :
    Calls Try.prog 73 #[.slice A n c, .slice A' n c'] w fun e w' => e = .returned (.int .i64 (lsm 1000000000 a b a.length)) ∧ Below w.heap.size w w' := by
  have hla := h.len
  have hbd := lsm_bd (by omega) ha hb
  have H := Lib.hid h; have H' := Lib.hid h'; have HLA := Lib.hid hla
  have HBD := Lib.hid hbd
  clear h h' hla hbd
  go_enter Try.func73, Try.ntmps73
  go_wp2_with fail
  go_loopg [5, 6] n (fun m s i wr => ∃ k : Nat, i = .int .i64 k ∧ k ≤ n ∧ n ≤ m + k ∧ s = .int .i64 (lsm 1000000000 a b k) ∧ Hid (Below w.heap.size w wr))
  case atStart => exact ⟨0, rfl, by omega, by omega, rfl, Below.refl _ _⟩
  case round =>
    obtain ⟨k, rfl, hk, hm, rfl, HB⟩ := hrel
    obtain ⟨wo, rfl⟩ : ∃ x : World, x = wr := ⟨_, rfl⟩
    have hs := HBD.out k
    by_cases hlt : k < n
    · have q1 : (k : Int) < (n : Int) := by omega
      obtain ⟨b1, off1, x, rfl, _, hx, cx⟩ := (H.out.below HB.out (Nat.le_refl _)).at_ hlt
      obtain ⟨b2, off2, y, rfl, _, hy, cy⟩ := (H'.out.below HB.out (Nat.le_refl _)).at_ hlt
      obtain ⟨bx0, bx1⟩ := ha.get hx.out; obtain ⟨by0, by1⟩ := hb.get hy.out
      obtain ⟨s, hs0⟩ : ∃ s, s = lsm 1000000000 a b k := ⟨_, rfl⟩
      rw [← hs0] at hs ⊢
      obtain ⟨s0, s1⟩ := hs
      have HST : Hid (lsm 1000000000 a b (k + 1) = min s (x + y)) := by
        show _ = _
        rw [lsm_succ, ← hs0, g0_get hx.out, g0_get hy.out]
      have e1 : IntKind.i64.wrap (x + y) = x + y := IntWalk.i64_in _ (by omega)
      have hMC := sMinC s (x + y)
      clear hs0 hx hy
      go_wp2_with fail
      go_quiet ((go_at_call 69; first | exact quietL (hMC _) | (rw [e1]; exact quietL (hMC _))))
      go_wp2_with fail
      go_roundg (gk - 1)
      case measure => omega
      case rel => exact ⟨k + 1, by go_num, by omega, by omega, by rw [HST.out], below_draws HB.out _⟩
    · have hkk : k = n := by omega
      have HK := Lib.hid hkk
      have q1 : (n : Int) ≤ (k : Int) := by omega
      clear hkk hlt
      go_wp2_with fail
      go_ret
      exact ⟨ret_int (by rw [HLA.out, HK.out]), HB.out⟩
/-- A machine behind a pointer. -/
def Mp (w : World) (gm : Nat) (S T : Int) (L : List A4) (P E : List Int) : Prop :=
  ∃ A2 c2 A3 c3 A4' c4, Row w gm 28 (BxM S T A2 L.length c2 A3 P.length c3 A4' E.length c4) ∧ SlA w w.heap.size A2 L.length L ∧ SlI w w.heap.size A3 P.length P ∧ SlI w w.heap.size A4' E.length E
theorem Mp.below {w w' : World} {gm : Nat} {S T : Int} {L : List A4} {P E : List Int} {B : Nat} (h : Mp w gm S T L P E) (hb : Below B w w') (hB : w.heap.size ≤ B) : Mp w' gm S T L P E := by
  obtain ⟨A2, c2, A3, c3, A4', c4, hr, h2, h3, h4⟩ := h
  exact ⟨A2, c2, A3, c3, A4', c4, hr.below hb (Nat.lt_of_lt_of_le hr.lt hB), (h2.below hb hB).more hb.size, (h3.below hb hB).more hb.size, (h4.below hb hB).more hb.size⟩
theorem frL_take {F : Int} {P : List Int} {k : Nat} {x : Int} (h : P[k]? = some x) : frL F (P.take (k + 1)) = frL F (P.take k) ++ [if x < 0 then F else x] := by
  obtain ⟨hk, rfl⟩ := List.getElem?_eq_some_iff.1 h
  rw [List.take_succ_eq_append_getElem hk]
  show List.map _ (P.take k ++ [P[k]]) = _
  rw [List.map_append]; rfl
set_option maxRecDepth 100000 in
set_option maxHeartbeats 4000000 in
theorem sFirst_any (gm : Nat) (S T : Int) (L : List A4) (P E : List Int) (w : World) (h : Mp w gm S T L P E) (hS : S = (P.length : Int)) (hn : P.length ≤ 1000000) :
    Calls Try.prog 52 #[.pointer (some ⟨gm, 0, none⟩)] w fun e w' => ∃ A c, e = .returned (.slice A P.length c) ∧ RowI w' w.heap.size 2 (.slice A P.length c) (frL 1000000000 P) ∧ Below w.heap.size w w' := by
  obtain ⟨A2, c2, A3, c3, A4', c4, hr, h2, h3, h4⟩ := h
  subst hS
  have HR := Lib.hid hr; have H3 := Lib.hid h3
  clear hr h2 h3 h4
  go_enter Try.func52, Try.ntmps52
  go_wp2_with fail
  go_loopg [3, 4] P.length (fun q o i wr => ∃ (k : Nat) (A : Option Addr) (c : Nat), i = .int .i64 k ∧ k ≤ P.length ∧ P.length ≤ q + k ∧ o = .slice A k c ∧ Hid (RowI wr w.heap.size 2 (.slice A k c) (frL 1000000000 (P.take k))) ∧ Hid (Below w.heap.size w wr))
  case atStart => exact ⟨0, _, _, rfl, by omega, by omega, rfl, RowI.made _ _ _ (Nat.le_refl _), (Below.refl _ _).alloc (Nat.le_refl _) _⟩
  case round =>
    obtain ⟨k, A, c, rfl, hk, hm, rfl, HO, HB⟩ := hrel
    obtain ⟨wo, rfl⟩ : ∃ x : World, x = wr := ⟨_, rfl⟩
    have rr := HR.out.below HB.out HR.out.lt
    have r0 := rr.cell 0; have r3 := rr.cell 3
    clear rr
    by_cases hlt : k < P.length
    · obtain ⟨b, off, x, rfl, _, hx, kx⟩ := (H3.out.below HB.out (Nat.le_refl _)).at_ hlt
      have q1 : (k : Int) < (P.length : Int) := by omega
      have hs := HB.out.size
      have hlen : Hid ((frL 1000000000 (P.take k)).length + 1 ≤ 4294967296) := by show _ ≤ _; rw [frL_len, List.length_take]; omega
      have HST := Lib.hid (frL_take (F := 1000000000) hx.out)
      have hlk : Hid ((frL 1000000000 (P.take k)).length = k) := by show _ = _; rw [frL_len, List.length_take]; omega
      by_cases hx0 : x < 0
      · go_wp2_with (first | (at_builtin; refine wpList_int_push _ rfl (.tmp 22) (.tmp 23) _ rfl w.heap.size 2 Try.underlying26 infoQ _ (frL 1000000000 (P.take k)) rfl HO.out _ rfl hlen.out hs ?_; intro g' cap w' hown hbl hat hgr; clear hat hgr; have HOW := Lib.hid hown; have HBL := Lib.hid hbl; clear hown hbl))
        go_roundg (gk - 1)
        case measure => omega
        case rel =>
          refine ⟨k + 1, some ⟨g', 0, none⟩, cap, by go_num, by omega, by omega, by rw [hlk.out], ?_, HB.out.trans HBL.out⟩
          show RowI _ _ _ _ _
          rw [HST.out, if_pos hx0]
          have := HOW.out
          rw [hlk.out] at this
          exact this
      · have q2 : (0 : Int) ≤ x := by omega
        have HX0 := Lib.hid hx0; clear hx0
        go_wp2_with (first | (at_builtin; refine wpList_int_push _ rfl (.tmp 25) (.tmp 33) _ rfl w.heap.size 2 Try.underlying26 infoQ _ (frL 1000000000 (P.take k)) rfl HO.out _ rfl hlen.out hs ?_; intro g' cap w' hown hbl hat hgr; clear hat hgr; have HOW := Lib.hid hown; have HBL := Lib.hid hbl; clear hown hbl))
        go_roundg (gk - 1)
        case measure => omega
        case rel =>
          refine ⟨k + 1, some ⟨g', 0, none⟩, cap, by go_num, by omega, by omega, by rw [hlk.out], ?_, HB.out.trans HBL.out⟩
          show RowI _ _ _ _ _
          rw [HST.out, if_neg (by have := HX0.out; omega)]
          have := HOW.out
          rw [hlk.out] at this
          exact this
    · have hkk : k = P.length := by omega
      have HK := Lib.hid hkk
      have q1 : (P.length : Int) ≤ (k : Int) := by omega
      clear hkk hlt
      go_wp2_with fail
      go_ret
      have e := HO.out
      rw [HK.out, List.take_length] at e
      exact ⟨A, c, by rw [HK.out]; rfl, e, HB.out⟩
end Go.Proofs.Ytedbngnkkfpbeaa
