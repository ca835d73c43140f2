/- Several texts in one: Words: IsWord of both programs. CostOf of the program: whole. The costs of a word, in the reference: words, sums, first costs, a move. The costs of a word, in the reference: a move along steps. The costs of a word, in the reference: ends, steps. The costs of a word, in the reference: the steps of a letter. -/
import Derived.Test.YtkfmjnefbimecaaMge
import Derived.Deep.LoopGhost
import Derived.Test.YtkfmjnefbimecaaCoW
import Derived.Deep.DeepCutAuto


namespace Go.Proofs.Ytkfmjnefbimecaa
open Go.RowKit
set_option linter.unusedVariables false
theorem allIn_take_no {xs : List Int} {lo hi x : Int} {k : Nat} (hx : xs[k]? = some x) (h : inB x lo hi = false) : allIn xs lo hi = false := by
  unfold allIn
  rw [List.all_eq_false]
  exact ⟨x, List.mem_of_getElem? hx, by rw [h]; simp⟩
def wordB (xs : List Int) (T : Int) : Bool := inB T 1 4 && (decide (xs.length ≤ 12) && allIn xs 0 (T - 1))
set_option maxHeartbeats 1000000 in
theorem iIsWord_any (A : Option Addr) (n c : Nat) (xs : List Int) (T : Int) (w : World) (h : SlI w w.heap.size A n xs) (hn : n ≤ 4294967296) :
    Calls Try.prog 52 #[.slice A n c, .int .i64 T] w fun e w' => e = .returned (.bool (wordB xs T)) ∧ w = w' := by
  have hl := h.len
  have hdef : wordB xs T = (inB T 1 4 && (decide (n ≤ 12) && allIn xs 0 (T - 1))) := by unfold wordB; rw [hl]
  have W1 := iIn_any T 1 4
  have HD := Lib.hid hdef; have H := Lib.hid h
  clear hdef h hl
  cases q1 : inB T 1 4 with
  | false =>
    rw [q1] at W1 HD
    clear q1
    go_enter Try.func52, Try.ntmps52
    go_wp2_with fail
    refine (W1 _).mono ?_; rintro e w' ⟨rfl, hw⟩; obtain rfl := hw; clear W1
    go_wp2_with fail
    go_ret
    exact ⟨ret_bool HD.out.symm, rfl⟩
  | true =>
    have hT := inB_true q1
    rw [q1] at W1 HD
    clear q1
    have w1 : IntKind.i64.wrap (T - 1) = T - 1 := IntWalk.i64_in _ (by omega)
    by_cases q2 : n ≤ 12
    · rw [decide_eq_true q2] at HD
      have hA := iAllIn_any A n c xs 0 (T - 1) w.heap.size w H.out hn
      have q3 : (n : Int) ≤ 12 := by omega
      clear q2
      go_enter Try.func52, Try.ntmps52
      go_wp2_with fail
      refine (W1 _).mono ?_; rintro e w' ⟨rfl, hw⟩; obtain rfl := hw; clear W1
      go_wp2_with fail
      refine hA.mono ?_; rintro e w' ⟨rfl, hw⟩; obtain rfl := hw; clear hA
      go_wp2_with fail
      go_ret
      exact ⟨ret_bool HD.out.symm, rfl⟩
    · rw [decide_eq_false q2] at HD
      have q3 : (12 : Int) < (n : Int) := by omega
      have q4 : decide ((n : Int) ≤ 12) = false := decide_eq_false (by omega)
      clear q2
      go_enter Try.func52, Try.ntmps52
      go_wp2_with fail
      refine (W1 _).mono ?_; rintro e w' ⟨rfl, hw⟩; obtain rfl := hw; clear W1
      go_wp2_with fail
      go_ret
      exact ⟨ret_bool HD.out.symm, rfl⟩
theorem wordB_len {xs : List Int} {T : Int} (h : wordB xs T = true) : xs.length ≤ 12 := by
  unfold wordB at h
  rw [Bool.and_eq_true, Bool.and_eq_true] at h
  exact of_decide_eq_true h.2.1
set_option maxHeartbeats 1000000 in
theorem sWord_any (A : Option Addr) (n c : Nat) (xs : List Int) (T : Int) (w : World) (h : SlI w w.heap.size A n xs) (hn : n ≤ 4294967296) (hT : 1 ≤ T ∧ T ≤ 4) :
    Calls Try.prog 110 #[.slice A n c, .int .i64 T] w fun e w' => e = .returned (.bool (wordB xs T)) ∧ Below w.heap.size w w' := by
  have hl := h.len
  have hdef : wordB xs T = (inB T 1 4 && (decide (n ≤ 12) && allIn xs 0 (T - 1))) := by unfold wordB; rw [hl]
  rw [show inB T 1 4 = true from decide_eq_true hT, Bool.true_and] at hdef
  have HD := Lib.hid hdef; have H := Lib.hid h; have HLN := Lib.hid hl
  clear hdef h hl
  obtain ⟨t0, t1⟩ := hT
  go_enter Try.func110, Try.ntmps110
  go_wp2_with fail
  go_loopg [5] n (fun m i wr => ∃ k : Nat, i = .int .i64 k ∧ k ≤ n ∧ n ≤ m + k ∧ Hid (allIn (xs.take k) 0 (T - 1) = true) ∧ w = wr)
  case atStart => exact ⟨0, rfl, by omega, by omega, rfl, rfl⟩
  case round =>
    obtain ⟨k, rfl, hk, hm, HA, hw⟩ := hrel
    obtain rfl := hw
    by_cases hlt : k < n
    · obtain ⟨b, off, x, rfl, _, hx, kx⟩ := H.out.at_ hlt
      have q1 : (k : Int) < (n : Int) := by omega
      have w1 : IntKind.i64.wrap (T - 1) = T - 1 := IntWalk.i64_in _ (by omega)
      have hI := sIn_any x 0 (T - 1)
      cases hq : inB x 0 (T - 1) with
      | false =>
        rw [hq] at hI
        have HN : Hid (wordB xs T = false) := by show _ = _; rw [HD.out, allIn_take_no hx.out hq, Bool.and_false]
        clear hq
        go_wp2_with fail
        refine (hI _).mono ?_; rintro e w' ⟨rfl, hw⟩; obtain rfl := hw; clear hI
        go_wp2_with fail
        go_ret
        exact ⟨ret_bool HN.out.symm, Below.refl _ _⟩
      | true =>
        rw [hq] at hI
        have HN := Lib.hid (allIn_take HA.out hx.out hq)
        clear hq
        go_wp2_with fail
        refine (hI _).mono ?_; rintro e w' ⟨rfl, hw⟩; obtain rfl := hw; clear hI
        go_wp2_with fail
        go_roundg (gk - 1)
        case measure => omega
        case rel => exact ⟨k + 1, by go_num, by omega, by omega, HN.out, rfl⟩
    · have hkk : k = n := by omega
      have HK : Hid (allIn xs 0 (T - 1) = true) := by
        have := HA.out
        rw [hkk, ← HLN.out, List.take_length] at this; exact this
      have q1 : (n : Int) ≤ (k : Int) := by omega
      clear hkk hlt
      go_wp2_with fail
      go_ret
      exact ⟨ret_bool (by rw [HD.out, HK.out, Bool.and_true]; exact decide_eq_decide.2 (by omega)), Below.refl _ _⟩
end Go.Proofs.Ytkfmjnefbimecaa



namespace Go.Proofs.Ytkfmjnefbimecaa
open Go.RowKit
set_option linter.unusedVariables false
theorem vm_okM {S T : Int} {L : List A4} {P E : List Int} (h : vmB S T L P E = true) : okM P.length L ∧ (∀ x ∈ P, x ≤ 1000) ∧ (∀ x ∈ E, x ≤ 1000) ∧ 0 < P.length ∧ P.length = E.length ∧ P.length ≤ 16 ∧ L.length ≤ 128 ∧ S = (P.length : Int) ∧ 1 ≤ T ∧ T ≤ 4 := by
  obtain ⟨qS, qT, qL, qA, qP, qE⟩ := vmB_true h
  obtain ⟨qP1, qP2⟩ := mkB_true qP
  obtain ⟨qE1, qE2⟩ := mkB_true qE
  refine ⟨fun a ha => ?_, fun x hx => (qP2 x hx).2, fun x hx => (qE2 x hx).2, by omega, by omega, by omega, qL, by omega, qT.1, qT.2⟩
  have := okAm_true (qA a ha)
  omega
/-- Whether CostOf answers, and what. -/
def coB (S T : Int) (L : List A4) (P E xs : List Int) : Bool := vmB S T L P E && wordB xs T
def coR (F S T : Int) (L : List A4) (P E xs : List Int) : Int := if coB S T L P E xs then coV F L P E xs else 0
set_option maxRecDepth 100000 in
set_option maxHeartbeats 2000000 in
theorem iCostOf_any (v : Value) (S T : Int) (L : List A4) (P E : List Int) (A : Option Addr) (n c : Nat) (xs : List Int) (w : World) (h : Mc w w.heap.size v S T L P E) (hx : SlI w w.heap.size A n xs) (hL : L.length ≤ 1048576) (hP : P.length ≤ 1048576) (hE : E.length ≤ 1048576) (hn : n ≤ 4294967296) :
    Calls Try.prog 12 #[v, .slice A n c] w fun e w' => e = .returned (.tuple #[.int .i64 (coR 1099511627776 S T L P E xs), .bool (coB S T L P E xs)]) ∧ Below w.heap.size w w' := by
  obtain ⟨A2, n2, c2, A3, n3, c3, A4', n4, c4, rfl, h2, h3, h4⟩ := h
  have rb := Row.new w 28 (BxM S T A2 n2 c2 A3 n3 c3 A4' n4 c4)
  have bx : Below w.heap.size w (w.alloc (.cells (BxM S T A2 n2 c2 A3 n3 c3 A4' n4 c4).toArray 28)) := (Below.refl _ _).alloc (Nat.le_refl _) _
  have HX := Lib.hid ((hx.below bx (Nat.le_refl _)).more bx.size)
  have HM : Hid (Mc (w.alloc (.cells (BxM S T A2 n2 c2 A3 n3 c3 A4' n4 c4).toArray 28)) (w.alloc (.cells (BxM S T A2 n2 c2 A3 n3 c3 A4' n4 c4).toArray 28)).heap.size (.agg #[.int .i64 S, .int .i64 T, .slice A2 n2 c2, .slice A3 n3 c3, .slice A4' n4 c4]) S T L P E) := ⟨_, _, _, _, _, _, _, _, _, rfl, (h2.below bx (Nat.le_refl _)).more bx.size, (h3.below bx (Nat.le_refl _)).more bx.size, (h4.below bx (Nat.le_refl _)).more bx.size⟩
  have RB := Lib.hid rb; have BX := Lib.hid bx
  clear h2 h3 h4 rb bx hx
  have r0 := RB.out.cell 0; have r1 := RB.out.cell 1; have r2 := RB.out.cell 2; have r3 := RB.out.cell 3; have r4 := RB.out.cell 4
  go_enter Try.func12, Try.ntmps12
  go_wp2_with fail
  clear r0 r1 r2 r3 r4
  obtain ⟨w0, hw0⟩ : ∃ x, x = w.alloc (.cells (BxM S T A2 n2 c2 A3 n3 c3 A4' n4 c4).toArray 28) := ⟨_, rfl⟩
  rw [← hw0] at HX HM RB BX
  change Calls _ _ _ (w.alloc (.cells (BxM S T A2 n2 c2 A3 n3 c3 A4' n4 c4).toArray 28)) _
  rw [← hw0]
  clear hw0
  refine (iValidMachine_any _ S T L P E w0 HM.out (by omega) (by omega) (by omega)).mono ?_
  rintro e w1 ⟨rfl, hb1⟩
  have HB1 := Lib.hid hb1
  have HM1 := Lib.hid ((HM.out.below hb1 (Nat.le_refl _)).more hb1.size)
  have HX1 := Lib.hid ((HX.out.below hb1 (Nat.le_refl _)).more hb1.size)
  have RB1 := RB.out.below hb1 RB.out.lt
  have hdef : coB S T L P E xs = (vmB S T L P E && wordB xs T) := rfl
  have hdr : coR 1099511627776 S T L P E xs = if coB S T L P E xs then coV 1099511627776 L P E xs else 0 := rfl
  have HBE := Lib.hid (BX.out.trans (hb1.mono BX.out.size))
  clear hb1
  cases q1 : vmB S T L P E with
  | false =>
    rw [q1, Bool.false_and] at hdef
    rw [hdef, if_neg (by simp)] at hdr
    have HD := Lib.hid hdef; have HR := Lib.hid hdr
    clear hdef hdr RB1
    go_wp2_with fail
    go_ret2
    exact ⟨by rw [HD.out, HR.out]; rfl, HBE.out⟩
  | true =>
    obtain ⟨v1, v2, v3, v4, v5, v6, v7, v8, _, _⟩ := vm_okM q1
    have HV2 := Lib.hid v2; have HV3 := Lib.hid v3; have HV1 := Lib.hid v1; have HV5 := Lib.hid v5
    clear v1 v2 v3 v8 v5
    rw [q1, Bool.true_and] at hdef
    clear q1
    have k1 := RB1.cell 1
    have HRB := Lib.hid RB1; clear RB1
    have hI := iIsWord_any A n c xs T w1 HX1.out (by omega)
    cases q2 : wordB xs T with
    | false =>
      rw [q2] at hI
      rw [q2] at hdef
      rw [hdef, if_neg (by simp)] at hdr
      have HD := Lib.hid hdef; have HR := Lib.hid hdr
      clear hdef hdr q2
      go_wp2_with fail
      refine hI.mono ?_; rintro e w' ⟨rfl, hw⟩; obtain rfl := hw; clear hI
      go_wp2_with fail
      go_ret2
      exact ⟨by rw [HD.out, HR.out]; rfl, HBE.out⟩
    | true =>
      have hn12 : n ≤ 1000000 := by have := wordB_len q2; have := HX1.out.len; omega
      rw [q2] at hI
      rw [q2] at hdef
      rw [hdef, if_pos rfl] at hdr
      have HD := Lib.hid hdef; have HR := Lib.hid hdr
      clear hdef hdr q2
      go_wp2_with fail
      refine hI.mono ?_; rintro e w' ⟨rfl, hw⟩; obtain rfl := hw; clear hI k1
      have r0 := HRB.out.cell 0; have r1 := HRB.out.cell 1; have r2 := HRB.out.cell 2; have r3 := HRB.out.cell 3; have r4 := HRB.out.cell 4
      go_wp2_with fail
      clear r0 r1 r2 r3 r4
      refine (iCostOf0_any _ S T L P E A n c xs w1 HM1.out HX1.out HV2.out HV3.out HV1.out v4 HV5.out (by omega) (by omega) hn12).mono ?_
      rintro e w2 ⟨rfl, hb2⟩
      have HB2 := Lib.hid hb2; clear hb2
      go_wp2_with fail
      go_ret2
      exact ⟨by rw [HD.out, HR.out]; rfl, HBE.out.trans (HB2.out.mono HBE.out.size)⟩
end Go.Proofs.Ytkfmjnefbimecaa



namespace Go.Proofs.Ytkfmjnefbimecaa
open Go.RowKit
set_option linter.unusedVariables false
/-- A machine behind a pointer. -/
def Mp (w : World) (gm : Nat) (S T : Int) (L : List A4) (P E : List Int) : Prop :=
  ∃ A2 c2 A3 c3 A4' c4, Row w gm 28 (BxM S T A2 L.length c2 A3 P.length c3 A4' E.length c4) ∧ SlA w w.heap.size A2 L.length L ∧ SlI w w.heap.size A3 P.length P ∧ SlI w w.heap.size A4' E.length E
theorem Mp.below {w w' : World} {gm : Nat} {S T : Int} {L : List A4} {P E : List Int} {B : Nat} (h : Mp w gm S T L P E) (hb : Below B w w') (hB : w.heap.size ≤ B) : Mp w' gm S T L P E := by
  obtain ⟨A2, c2, A3, c3, A4', c4, hr, h2, h3, h4⟩ := h
  exact ⟨A2, c2, A3, c3, A4', c4, hr.below hb (Nat.lt_of_lt_of_le hr.lt hB), (h2.below hb hB).more hb.size, (h3.below hb hB).more hb.size, (h4.below hb hB).more hb.size⟩
theorem frL_take {F : Int} {P : List Int} {k : Nat} {x : Int} (h : P[k]? = some x) : frL F (P.take (k + 1)) = frL F (P.take k) ++ [if x < 0 then F else x] := by
  obtain ⟨hk, rfl⟩ := List.getElem?_eq_some_iff.1 h
  rw [List.take_succ_eq_append_getElem hk]
  show List.map _ (P.take k ++ [P[k]]) = _
  rw [List.map_append]; rfl
end Go.Proofs.Ytkfmjnefbimecaa



namespace Go.Proofs.Ytkfmjnefbimecaa
open Go.RowKit
set_option linter.unusedVariables false
/-- A table that is read: its header's block gt, n rows. -/
def TabR (w : World) (gt n : Nat) (R : List (List Int)) : Prop :=
  R.length = n ∧ (∀ r ∈ R, r.length = n) ∧ ∀ (j : Nat) (r : List Int), R[j]? = some r → ∃ (g c : Nat), w.cell? ⟨gt, j, none⟩ = some (.slice (some ⟨g, 0, none⟩) n c) ∧ gt < w.heap.size ∧ g < w.heap.size ∧ ∀ (k : Nat) (x : Int), r[k]? = some x → w.cell? ⟨g, k, none⟩ = some (.int .i64 x)
theorem TabR.below {w w' : World} {gt n B : Nat} {R : List (List Int)} (h : TabR w gt n R) (hb : Below B w w') (hB : w.heap.size ≤ B) : TabR w' gt n R := by
  refine ⟨h.1, h.2.1, fun j r hj => ?_⟩
  obtain ⟨g, c, e1, e2, e3, e4⟩ := h.2.2 j r hj
  exact ⟨g, c, (hb.cell (p := ⟨gt, j, none⟩) (show gt < B by omega)).trans e1, Nat.lt_of_lt_of_le e2 hb.size, Nat.lt_of_lt_of_le e3 hb.size, fun k x hx => (hb.cell (p := ⟨g, k, none⟩) (show g < B by omega)).trans (e4 k x hx)⟩
theorem TabI.r {w : World} {base gt n ct : Nat} {TT : TypeId} {R : List (List Int)} (h : TabI w base TT (.slice (some ⟨gt, 0, none⟩) n ct) R) (hn : R.length = n) (hr : ∀ r ∈ R, r.length = n) : TabR w gt n R := by
  refine ⟨hn, hr, fun j r hj => ?_⟩
  obtain ⟨gt', ct', g, c, e, _, _, h1, h2, _, _, h3, _, h4⟩ := h.at_ hj
  injection e with e1 _ _
  injection e1 with e1
  injection e1 with e1 _ _
  subst e1
  rw [hr r (List.mem_of_getElem? hj)] at h2
  exact ⟨g, c, h2, h1, h3, h4⟩
def gg (R : List (List Int)) (i k : Nat) : Int := g0 (R.getD i []) k
theorem gg_get {R : List (List Int)} {i k : Nat} {r : List Int} {x : Int} (h : R[i]? = some r) (hx : r[k]? = some x) : gg R i k = x := by
  unfold gg; rw [List.getD_eq_getElem?_getD, h]; exact g0_get hx
theorem TabR.at_ {w : World} {gt n : Nat} {R : List (List Int)} (h : TabR w gt n R) {i k : Nat} (hi : i < n) (hk : k < n) : ∃ (g c : Nat), w.cell? ⟨gt, i, none⟩ = some (.slice (some ⟨g, 0, none⟩) n c) ∧ w.cell? ⟨g, k, none⟩ = some (.int .i64 (gg R i k)) := by
  obtain ⟨r, h1⟩ : ∃ r, R[i]? = some r := ⟨_, List.getElem?_eq_getElem (show i < R.length by have := h.1; omega)⟩
  obtain ⟨g, c, e1, _, _, e4⟩ := h.2.2 i r h1
  have hl : r.length = n := h.2.1 r (List.mem_of_getElem? h1)
  obtain ⟨x, h2⟩ : ∃ x, r[k]? = some x := ⟨_, List.getElem?_eq_getElem (show k < r.length by omega)⟩
  exact ⟨g, c, e1, by rw [gg_get h1 h2]; exact e4 k x h2⟩
def BdR (F : Int) (R : List (List Int)) : Prop := ∀ r ∈ R, Bd F r
theorem BdR.gg {F : Int} {R : List (List Int)} (h : BdR F R) (hF : 0 ≤ F) (i k : Nat) : 0 ≤ gg R i k ∧ gg R i k ≤ F := by
  unfold Go.Proofs.Ytkfmjnefbimecaa.gg
  rw [List.getD_eq_getElem?_getD]
  cases hx : R[i]? with
  | none => unfold g0; simp; exact hF
  | some r => exact (h r (List.mem_of_getElem? hx)).g0 hF k
theorem mins_bd {F : Int} {f : Nat → Int} (hF : 0 ≤ F) (hf : ∀ i, 0 ≤ f i) : ∀ k, 0 ≤ mins F f k ∧ mins F f k ≤ F
  | 0 => ⟨hF, Int.le_refl _⟩
  | k + 1 => by
    have := mins_bd hF hf k; have := hf k
    show 0 ≤ Min.min (mins F f k) (f k) ∧ Min.min (mins F f k) (f k) ≤ F
    omega
/-- The costs behind a step. -/
def mvf (v : List Int) (R : List (List Int)) (k i : Nat) : Int := g0 v i + gg R i k
def mvV (F : Int) (v : List Int) (R : List (List Int)) : List Int := (List.range v.length).map fun k => mins F (mvf v R k) v.length
theorem mvV_len (F : Int) (v : List Int) (R : List (List Int)) : (mvV F v R).length = v.length := by simp [mvV]
theorem mvV_bd {F : Int} (hF : 0 ≤ F) {v : List Int} {R : List (List Int)} (hv : Bd F v) (hR : BdR F R) : Bd F (mvV F v R) := fun x hx => by
  simp only [mvV, List.mem_map] at hx
  obtain ⟨k, _, rfl⟩ := hx
  exact mins_bd hF (fun i => by unfold mvf; have := hv.g0 hF i; have := hR.gg hF i k; omega) _
theorem map_range_take {α : Type} (f : Nat → α) (n k : Nat) (h : k < n) : ((List.range n).map f).take (k + 1) = ((List.range n).map f).take k ++ [f k] := by
  rw [List.take_succ_eq_append_getElem (by simpa using h)]
  simp
end Go.Proofs.Ytkfmjnefbimecaa



namespace Go.Proofs.Ytkfmjnefbimecaa
open Go.RowKit
set_option linter.unusedVariables false
def enf (F : Int) (E : List Int) (C : List (List Int)) (i k : Nat) : Int := if 0 ≤ g0 E k then gg C i k + g0 E k else F
def enV (F : Int) (n : Nat) (E : List Int) (C : List (List Int)) : List Int := (List.range n).map fun i => mins F (enf F E C i) n
theorem enV_len (F : Int) (n : Nat) (E : List Int) (C : List (List Int)) : (enV F n E C).length = n := by simp [enV]
theorem enf_nn {F : Int} (hF : 0 ≤ F) {E : List Int} {C : List (List Int)} (hC : BdR F C) (i k : Nat) : 0 ≤ enf F E C i k := by
  unfold enf
  have := hC.gg hF i k
  split <;> omega
theorem enV_bd {F : Int} (hF : 0 ≤ F) (n : Nat) {E : List Int} {C : List (List Int)} (hC : BdR F C) : Bd F (enV F n E C) := fun x hx => by
  simp only [enV, List.mem_map] at hx
  obtain ⟨k, _, rfl⟩ := hx
  exact mins_bd hF (fun i => enf_nn hF hC k i) _
/-- The steps of a letter. -/
def spV (F : Int) (L : List A4) (l : Int) (C : List (List Int)) : List (List Int) := C.map fun r => stpT F L l r L.length
theorem spV_at {F : Int} {L : List A4} {l : Int} {C : List (List Int)} {i : Nat} {r : List Int} (h : C[i]? = some r) : (spV F L l C).take (i + 1) = (spV F L l C).take i ++ [stpT F L l r L.length] := by
  obtain ⟨hi, rfl⟩ := List.getElem?_eq_some_iff.1 h
  unfold spV
  rw [List.take_succ_eq_append_getElem (by simpa using hi)]
  simp
theorem spV_len (F : Int) (L : List A4) (l : Int) (C : List (List Int)) : (spV F L l C).length = C.length := by simp [spV]
theorem spV_rows {F : Int} {L : List A4} {l : Int} {C : List (List Int)} {n : Nat} (h : ∀ r ∈ C, r.length = n) : ∀ r ∈ spV F L l C, r.length = n := fun r hr => by
  simp only [spV, List.mem_map] at hr
  obtain ⟨x, hx, rfl⟩ := hr
  rw [stpT_len]; exact h x hx
theorem spV_bd {F : Int} (hF : 0 ≤ F) {L : List A4} {l : Int} {C : List (List Int)} (hC : BdR F C) (hL : ∀ a ∈ L, 0 ≤ a.2.2.2) : BdR F (spV F L l C) := fun r hr => by
  simp only [spV, List.mem_map] at hr
  obtain ⟨x, hx, rfl⟩ := hr
  exact Bd.stpT (hC x hx) hF hL _
theorem infoR : (Try.prog.info? 26).map (fun i => (i.zero, i.size, i.bytes)) = some (some (.slice none 0 0), 1, 24) := by kernel_rfl
end Go.Proofs.Ytkfmjnefbimecaa



namespace Go.Proofs.Ytkfmjnefbimecaa
open Go.RowKit
set_option linter.unusedVariables false
end Go.Proofs.Ytkfmjnefbimecaa
