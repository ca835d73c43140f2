/- ReadsPair of both programs, whole. -/
import Derived.Test.YtchacfienafhlaaRpK
import Derived.Test.YtchacfienafhlaaWrd
namespace Go.Proofs.Ytchacfienafhlaa
open Go.RowKit
set_option linter.unusedVariables false
/-- Whether ReadsPair answers, and what. -/
def rpB (S T : Int) (L : List A4) (E : List Bool) (xs ys : List Int) : Bool := vsB S T L E && (wordB xs T && wordB ys T)
def rpR (S T : Int) (L : List A4) (E : List Bool) (xs ys : List Int) : Bool := rpB S T L E xs ys && rpS S L E xs ys
set_option maxRecDepth 100000 in
set_option maxHeartbeats 2000000 in
theorem iReads_any (v : Value) (A : Option Addr) (n c : Nat) (A' : Option Addr) (n' c' : Nat) (S T : Int) (L : List A4) (E : List Bool) (xs ys : List Int) (w : World) (h : Sd w w.heap.size v S T L E) (hx : SlI w w.heap.size A n xs) (hy : SlI w w.heap.size A' n' ys) (hL : L.length ≤ 4294967296) (hE : E.length ≤ 4294967296) (hn : n ≤ 4294967296) (hn' : n' ≤ 4294967296) :
    Calls Try.prog 22 #[v, .slice A n c, .slice A' n' c'] w fun e w' => e = .returned (.tuple #[.bool (rpR S T L E xs ys), .bool (rpB S T L E xs ys)]) ∧ Below w.heap.size w w' := by
  obtain ⟨A2, n2, c2, A3, n3, c3, rfl, h2, h3⟩ := h
  have rb := Row.new w 46 [.int .i64 S, .int .i64 T, .slice A2 n2 c2, .slice A3 n3 c3]
  have bx : Below w.heap.size w (w.alloc (.cells ([.int .i64 S, .int .i64 T, .slice A2 n2 c2, .slice A3 n3 c3] : List Value).toArray 46)) := (Below.refl _ _).alloc (Nat.le_refl _) _
  have HX := Lib.hid ((hx.below bx (Nat.le_refl _)).more bx.size)
  have HY := Lib.hid ((hy.below bx (Nat.le_refl _)).more bx.size)
  have HM : Hid (Sd (w.alloc (.cells ([.int .i64 S, .int .i64 T, .slice A2 n2 c2, .slice A3 n3 c3] : List Value).toArray 46)) (w.alloc (.cells ([.int .i64 S, .int .i64 T, .slice A2 n2 c2, .slice A3 n3 c3] : List Value).toArray 46)).heap.size (.agg #[.int .i64 S, .int .i64 T, .slice A2 n2 c2, .slice A3 n3 c3]) S T L E) := ⟨_, _, _, _, _, _, rfl, (h2.below bx (Nat.le_refl _)).more bx.size, (h3.below bx (Nat.le_refl _)).more bx.size⟩
  have RB := Lib.hid rb; have BX := Lib.hid bx
  clear h2 h3 rb bx hx hy
  have r0 := RB.out.cell 0; have r1 := RB.out.cell 1; have r2 := RB.out.cell 2; have r3 := RB.out.cell 3
  go_enter Try.func22, Try.ntmps22
  go_wp2_with fail
  clear r0 r1 r2 r3
  obtain ⟨w0, hw0⟩ : ∃ x, x = w.alloc (.cells ([.int .i64 S, .int .i64 T, .slice A2 n2 c2, .slice A3 n3 c3] : List Value).toArray 46) := ⟨_, rfl⟩
  rw [← hw0] at HX HY HM RB BX
  change Calls _ _ _ (w.alloc (.cells ([.int .i64 S, .int .i64 T, .slice A2 n2 c2, .slice A3 n3 c3] : List Value).toArray 46)) _
  rw [← hw0]
  clear hw0
  refine (iValidSided_any _ S T L E w0 HM.out hL hE).mono ?_
  rintro e w1 ⟨rfl, hb1⟩
  have HM1 := Lib.hid ((HM.out.below hb1 (Nat.le_refl _)).more hb1.size)
  have HX1 := Lib.hid ((HX.out.below hb1 (Nat.le_refl _)).more hb1.size)
  have HY1 := Lib.hid ((HY.out.below hb1 (Nat.le_refl _)).more hb1.size)
  have RB1 := RB.out.below hb1 RB.out.lt
  have hdef : rpB S T L E xs ys = (vsB S T L E && (wordB xs T && wordB ys T)) := rfl
  have hdr : rpR S T L E xs ys = (rpB S T L E xs ys && rpS S L E xs ys) := rfl
  have HBE := Lib.hid (BX.out.trans (hb1.mono BX.out.size))
  clear hb1
  cases q1 : vsB S T L E with
  | false =>
    rw [q1, Bool.false_and] at hdef
    rw [hdef, Bool.false_and] at hdr
    have HD := Lib.hid hdef; have HR := Lib.hid hdr
    clear hdef hdr RB1
    go_wp2_with fail
    go_ret2
    exact ⟨by rw [HD.out, HR.out]; rfl, HBE.out⟩
  | true =>
    have HV := Lib.hid q1
    rw [q1, Bool.true_and] at hdef
    clear q1
    have k1 := RB1.cell 1
    have hI := iIsWord_any A n c xs T w1 HX1.out hn
    cases q2 : wordB xs T with
    | false =>
      rw [q2] at hI
      rw [q2, Bool.false_and] at hdef
      rw [hdef, Bool.false_and] at hdr
      have HD := Lib.hid hdef; have HR := Lib.hid hdr
      clear hdef hdr q2
      go_wp2_with fail
      refine hI.mono ?_; rintro e w2 ⟨rfl, hw⟩; obtain rfl := hw; clear hI
      go_wp2_with fail
      go_ret2
      exact ⟨by rw [HD.out, HR.out]; rfl, HBE.out⟩
    | true =>
    have hn12 := wordB_len q2
    have hxn := HX1.out.len
    rw [q2] at hI
    rw [q2, Bool.true_and] at hdef
    have hI2 := iIsWord_any A' n' c' ys T w1 HY1.out hn'
    have hnn : n ≤ 12 := by omega
    clear hxn hn12 q2
    cases q3 : wordB ys T with
    | false =>
      rw [q3] at hI2
      rw [q3] at hdef
      rw [hdef, Bool.false_and] at hdr
      have HD := Lib.hid hdef; have HR := Lib.hid hdr
      clear hdef hdr q3
      go_wp2_with fail
      refine hI.mono ?_; rintro e w2 ⟨rfl, hw⟩; obtain rfl := hw; clear hI
      go_wp2_with fail
      refine hI2.mono ?_; rintro e w2 ⟨rfl, hw⟩; obtain rfl := hw; clear hI2
      go_wp2_with fail
      go_ret2
      exact ⟨by rw [HD.out, HR.out]; rfl, HBE.out⟩
    | true =>
    have hn12 := wordB_len q3
    have hyn := HY1.out.len
    rw [q3] at hI2
    rw [q3] at hdef
    rw [hdef, Bool.true_and] at hdr
    have hnn' : n' ≤ 12 := by omega
    clear hyn hn12 q3
    have HD := Lib.hid hdef; have HR := Lib.hid hdr
    clear hdef hdr
    have k0 := RB1.cell 0; have k2 := RB1.cell 2; have k3 := RB1.cell 3
    go_wp2_with fail
    refine hI.mono ?_; rintro e w2 ⟨rfl, hw⟩; obtain rfl := hw; clear hI
    go_wp2_with fail
    refine hI2.mono ?_; rintro e w2 ⟨rfl, hw⟩; obtain rfl := hw; clear hI2
    go_wp2_with fail
    clear k0 k1 k2 k3 RB1
    refine (iReadsP_any _ S T L E A n c xs A' n' c' ys w1 HM1.out HX1.out HY1.out HV.out hnn hnn').mono ?_
    rintro e w2 ⟨rfl, hb2⟩
    have HB2 := Lib.hid hb2; clear hb2
    go_wp2_with fail
    go_ret2
    exact ⟨by rw [HD.out, HR.out]; rfl, HBE.out.trans (HB2.out.mono HBE.out.size)⟩
set_option maxRecDepth 100000 in
set_option maxHeartbeats 2000000 in
theorem sReads_any (v : Value) (A : Option Addr) (n c : Nat) (A' : Option Addr) (n' c' : Nat) (S T : Int) (L : List A4) (E : List Bool) (xs ys : List Int) (w : World) (h : Sd w w.heap.size v S T L E) (hx : SlI w w.heap.size A n xs) (hy : SlI w w.heap.size A' n' ys) (hL : L.length ≤ 4294967296) (hE : E.length ≤ 4294967296) (hn : n ≤ 4294967296) (hn' : n' ≤ 4294967296) :
    Calls Try.prog 19 #[v, .slice A n c, .slice A' n' c'] w fun e w' => e = .returned (.tuple #[.bool (rpR S T L E xs ys), .bool (rpB S T L E xs ys)]) ∧ Below w.heap.size w w' := by
  obtain ⟨A2, n2, c2, A3, n3, c3, rfl, h2, h3⟩ := h
  have e2 := h2.len; have e3 := h3.len
  have rb := Row.new w 46 [.int .i64 S, .int .i64 T, .slice A2 n2 c2, .slice A3 n3 c3]
  have bx : Below w.heap.size w (w.alloc (.cells ([.int .i64 S, .int .i64 T, .slice A2 n2 c2, .slice A3 n3 c3] : List Value).toArray 46)) := (Below.refl _ _).alloc (Nat.le_refl _) _
  have HX := Lib.hid ((hx.below bx (Nat.le_refl _)).more bx.size)
  have HY := Lib.hid ((hy.below bx (Nat.le_refl _)).more bx.size)
  have H2 := Lib.hid ((h2.below bx (Nat.le_refl _)).more bx.size); have H3 := Lib.hid ((h3.below bx (Nat.le_refl _)).more bx.size)
  have RB := Lib.hid rb; have BX := Lib.hid bx
  clear h2 h3 rb bx hx hy
  go_enter Try.func19, Try.ntmps19
  go_wp2_with fail
  obtain ⟨w0, hw0⟩ : ∃ x, x = w.alloc (.cells ([.int .i64 S, .int .i64 T, .slice A2 n2 c2, .slice A3 n3 c3] : List Value).toArray 46) := ⟨_, rfl⟩
  rw [← hw0] at HX HY H2 H3 RB BX
  change Calls _ _ _ (w.alloc (.cells ([.int .i64 S, .int .i64 T, .slice A2 n2 c2, .slice A3 n3 c3] : List Value).toArray 46)) _
  rw [← hw0]
  clear hw0
  refine (sSided_any w.heap.size S T L E A2 n2 c2 A3 n3 c3 w0.heap.size w0 RB.out H2.out e3 (by rw [← e2]; exact hL) (by rw [← e3]; exact hE)).mono ?_
  rintro e w1 ⟨rfl, qd, hq⟩
  have hb1 : Below w0.heap.size w0 w1 := by rw [hq]; exact below_draws (Below.refl _ _) _
  clear hq e2 e3
  have H21 := Lib.hid ((H2.out.below hb1 (Nat.le_refl _)).more hb1.size)
  have H31 := Lib.hid ((H3.out.below hb1 (Nat.le_refl _)).more hb1.size)
  have HX1 := Lib.hid ((HX.out.below hb1 (Nat.le_refl _)).more hb1.size)
  have HY1 := Lib.hid ((HY.out.below hb1 (Nat.le_refl _)).more hb1.size)
  have RB1 := RB.out.below hb1 RB.out.lt
  have hdef : rpB S T L E xs ys = (vsB S T L E && (wordB xs T && wordB ys T)) := rfl
  have hdr : rpR S T L E xs ys = (rpB S T L E xs ys && rpS S L E xs ys) := rfl
  have HBE := Lib.hid (BX.out.trans (hb1.mono BX.out.size))
  clear hb1
  cases q1 : vsB S T L E with
  | false =>
    rw [q1, Bool.false_and] at hdef
    rw [hdef, Bool.false_and] at hdr
    have HD := Lib.hid hdef; have HR := Lib.hid hdr
    clear hdef hdr RB1
    go_wp2_with fail
    go_ret2
    exact ⟨by rw [HD.out, HR.out]; rfl, HBE.out⟩
  | true =>
    have HV := Lib.hid q1
    have hT := (vsB_true q1).2.1
    rw [q1, Bool.true_and] at hdef
    clear q1
    have k1 := RB1.cell 1
    have HRB := Lib.hid RB1; clear RB1
    have hI := sWord_any A n c xs T w1 HX1.out hn hT
    cases q2 : wordB xs T with
    | false =>
      rw [q2] at hI
      rw [q2, Bool.false_and] at hdef
      rw [hdef, Bool.false_and] at hdr
      have HD := Lib.hid hdef; have HR := Lib.hid hdr
      clear hdef hdr q2
      go_wp2_with fail
      refine hI.mono ?_; rintro e w2 ⟨rfl, hb2⟩; clear hI
      have HB2 := Lib.hid hb2; clear hb2
      go_wp2_with fail
      go_ret2
      exact ⟨by rw [HD.out, HR.out]; rfl, HBE.out.trans (HB2.out.mono HBE.out.size)⟩
    | true =>
    have hn12 := wordB_len q2
    have hxn := HX1.out.len
    rw [q2] at hI
    rw [q2, Bool.true_and] at hdef
    have hnn : n ≤ 12 := by omega
    clear hxn hn12 q2
    go_wp2_with fail
    refine hI.mono ?_; rintro e w2 ⟨rfl, hb2⟩; clear hI k1
    have HX2 := Lib.hid ((HX1.out.below hb2 (Nat.le_refl _)).more hb2.size)
    have HY2 := Lib.hid ((HY1.out.below hb2 (Nat.le_refl _)).more hb2.size)
    have H22 := Lib.hid ((H21.out.below hb2 (Nat.le_refl _)).more hb2.size)
    have H32 := Lib.hid ((H31.out.below hb2 (Nat.le_refl _)).more hb2.size)
    have HRB2 := Lib.hid (HRB.out.below hb2 HRB.out.lt)
    have HBE2 := Lib.hid (HBE.out.trans (hb2.mono HBE.out.size))
    clear hb2
    have k1 := HRB2.out.cell 1
    have hI2 := sWord_any A' n' c' ys T w2 HY2.out hn' hT
    cases q3 : wordB ys T with
    | false =>
      rw [q3] at hI2
      rw [q3] at hdef
      rw [hdef, Bool.false_and] at hdr
      have HD := Lib.hid hdef; have HR := Lib.hid hdr
      clear hdef hdr q3
      go_wp2_with fail
      refine hI2.mono ?_; rintro e w3 ⟨rfl, hb3⟩; clear hI2
      have HB3 := Lib.hid hb3; clear hb3
      go_wp2_with fail
      go_ret2
      exact ⟨by rw [HD.out, HR.out]; rfl, HBE2.out.trans (HB3.out.mono HBE2.out.size)⟩
    | true =>
    have hn12 := wordB_len q3
    have hyn := HY2.out.len
    rw [q3] at hI2
    rw [q3] at hdef
    rw [hdef, Bool.true_and] at hdr
    have hnn' : n' ≤ 12 := by omega
    clear hyn hn12 q3
    have HD := Lib.hid hdef; have HR := Lib.hid hdr
    clear hdef hdr
    go_wp2_with fail
    refine hI2.mono ?_; rintro e w3 ⟨rfl, hb3⟩; clear hI2 k1
    have HX3 := Lib.hid ((HX2.out.below hb3 (Nat.le_refl _)).more hb3.size)
    have HY3 := Lib.hid ((HY2.out.below hb3 (Nat.le_refl _)).more hb3.size)
    have H23 := Lib.hid ((H22.out.below hb3 (Nat.le_refl _)).more hb3.size)
    have H33 := Lib.hid ((H32.out.below hb3 (Nat.le_refl _)).more hb3.size)
    have HRB3 := Lib.hid (HRB2.out.below hb3 HRB2.out.lt)
    have HBE3 := Lib.hid (HBE2.out.trans (hb3.mono HBE2.out.size))
    clear hb3
    go_wp2_with fail
    refine (sReadsP_any w.heap.size S T L E A2 n2 c2 A3 n3 c3 A n c xs A' n' c' ys w3 HRB3.out H23.out H33.out HX3.out HY3.out HV.out hnn hnn').mono ?_
    rintro e w4 ⟨rfl, hb4⟩
    have HB4 := Lib.hid hb4; clear hb4
    go_wp2_with fail
    go_ret2
    exact ⟨by rw [HD.out, HR.out]; rfl, HBE3.out.trans (HB4.out.mono HBE3.out.size)⟩
end Go.Proofs.Ytchacfienafhlaa
