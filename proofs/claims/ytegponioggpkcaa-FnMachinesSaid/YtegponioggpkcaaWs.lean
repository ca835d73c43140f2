/- WordsShared, both programs. -/
import Derived.Test.YtegponioggpkcaaMgn

namespace Go.Proofs.Ytegponioggpkcaa
open Go.RowKit
set_option linter.unusedVariables false
def wsB (S T : Int) (L : List A4) (P E : List Int) (ws : List (List Int)) (k : Int) : Bool := vmB S T L P E && (decide (ws.length ≤ 64) && (ws.all (fun xs => wordB xs T) && inB k 1 8))
def wsR (L : List A4) (P E : List Int) (ws : List (List Int)) : List Int := ws.map (coV 1099511627776 L P E)
def wsO (ok : Bool) (r : List Int) : List Int := if ok then r else []
theorem wsR_len {n : Nat} {ws : List (List Int)} (hn : n ≤ 1048576) (hl : ws.length = n) (S T : Int) (L : List A4) (P E : List Int) (k : Int) : (wsO (wsB S T L P E ws k) (wsR L P E ws)).length ≤ 1048576 := by
  unfold wsO
  split
  · rw [wsR, List.length_map]; omega
  · simp
theorem wsR_take {L : List A4} {P E : List Int} {ws : List (List Int)} {k : Nat} {x : List Int} (h : ws[k]? = some x) : (wsR L P E ws).take (k + 1) = (wsR L P E ws).take k ++ [coV 1099511627776 L P E x] := by
  obtain ⟨hk, rfl⟩ := List.getElem?_eq_some_iff.1 h
  rw [List.take_succ_eq_append_getElem (by simpa [wsR] using hk)]
  simp [wsR]
set_option maxRecDepth 100000 in
set_option maxHeartbeats 4000000 in
theorem iShared_any (v : Value) (g n c : Nat) (S T : Int) (L : List A4) (P E : List Int) (ws : List (List Int)) (k : Int) (w : World) (h : Mc w w.heap.size v S T L P E) (hx : SlL w w.heap.size (some ⟨g, 0, none⟩) n ws) (hL : L.length ≤ 1048576) (hP : P.length ≤ 1048576) (hE : E.length ≤ 1048576) (hn : n ≤ 1048576) (hsm : sumL ws ≤ 1048576) :
    Calls Try.prog 19 #[v, .slice (some ⟨g, 0, none⟩) n c, .int .i64 k] w fun e w' => ∃ v, e = .returned (.tuple #[v, .bool (wsB S T L P E ws k)]) ∧ RowI w' w.heap.size 2 v (wsO (wsB S T L P E ws k) (wsR L P E ws)) ∧ Below w.heap.size w w' := by
  obtain ⟨A2, n2, c2, A3, n3, c3, A4', n4, c4, rfl, h2, h3, h4⟩ := h
  have rb := Row.new w 28 (BxM S T A2 n2 c2 A3 n3 c3 A4' n4 c4)
  have bx : Below w.heap.size w (w.alloc (.cells (BxM S T A2 n2 c2 A3 n3 c3 A4' n4 c4).toArray 28)) := (Below.refl _ _).alloc (Nat.le_refl _) _
  have HX := Lib.hid ((hx.below bx (Nat.le_refl _)).more bx.size)
  have HM : Hid (Mc (w.alloc (.cells (BxM S T A2 n2 c2 A3 n3 c3 A4' n4 c4).toArray 28)) (w.alloc (.cells (BxM S T A2 n2 c2 A3 n3 c3 A4' n4 c4).toArray 28)).heap.size (.agg #[.int .i64 S, .int .i64 T, .slice A2 n2 c2, .slice A3 n3 c3, .slice A4' n4 c4]) S T L P E) := ⟨_, _, _, _, _, _, _, _, _, rfl, (h2.below bx (Nat.le_refl _)).more bx.size, (h3.below bx (Nat.le_refl _)).more bx.size, (h4.below bx (Nat.le_refl _)).more bx.size⟩
  have RB := Lib.hid rb; have BX := Lib.hid bx
  have HW : Hid (∀ r ∈ ws, r.length ≤ 4294967296) := fun r hr => by have := sumL_mem hr; omega
  clear h2 h3 h4 rb bx hx hsm
  have r0 := RB.out.cell 0; have r1 := RB.out.cell 1; have r2 := RB.out.cell 2; have r3 := RB.out.cell 3; have r4 := RB.out.cell 4
  go_enter Try.func19, Try.ntmps19
  go_wp2_with fail
  clear r0 r1 r2 r3 r4
  obtain ⟨w0, hw0⟩ : ∃ x, x = w.alloc (.cells (BxM S T A2 n2 c2 A3 n3 c3 A4' n4 c4).toArray 28) := ⟨_, rfl⟩
  rw [← hw0] at HX HM RB BX
  change Calls _ _ _ (w.alloc (.cells (BxM S T A2 n2 c2 A3 n3 c3 A4' n4 c4).toArray 28)) _
  rw [← hw0]
  clear hw0
  refine (iValidMachine_any _ S T L P E w0 HM.out (by omega) (by omega) (by omega)).mono ?_
  rintro e w1 ⟨rfl, hb1⟩
  have HM1 := Lib.hid ((HM.out.below hb1 (Nat.le_refl _)).more hb1.size)
  have HX1 := Lib.hid ((HX.out.below hb1 (Nat.le_refl _)).more hb1.size)
  have RB1 := RB.out.below hb1 RB.out.lt
  have hdef : wsB S T L P E ws k = (vmB S T L P E && (decide (n ≤ 64) && (ws.all (fun xs => wordB xs T) && inB k 1 8))) := by rw [wsB, HX.out.len]
  have HBE := Lib.hid (BX.out.trans (hb1.mono BX.out.size))
  have HRB := Lib.hid RB1
  clear hb1
  cases q1 : vmB S T L P E with
  | false =>
    rw [q1, Bool.false_and] at hdef
    have HD := Lib.hid hdef
    clear hdef RB1
    go_wp2_with fail
    go_ret2
    exact ⟨.slice none 0 0, by rw [HD.out]; rfl, by rw [HD.out]; exact RowI.nil _ _ _, HBE.out⟩
  | true =>
  obtain ⟨v1, v2, v3, v4, v5, v6, v7, v8, _, _⟩ := vm_okM q1
  have HV2 := Lib.hid v2; have HV3 := Lib.hid v3; have HV1 := Lib.hid v1; have HV5 := Lib.hid v5
  clear v1 v2 v3 v8 v5
  rw [q1, Bool.true_and] at hdef
  clear q1
  have k1 := RB1.cell 1
  clear RB1
  by_cases q2 : n ≤ 64
  case neg =>
    rw [decide_eq_false q2, Bool.false_and] at hdef
    have HD := Lib.hid hdef
    have q3 : (64 : Int) < (n : Int) := by omega
    clear hdef k1 q2
    go_wp2_with fail
    go_ret2
    exact ⟨.slice none 0 0, by rw [HD.out]; rfl, by rw [HD.out]; exact RowI.nil _ _ _, HBE.out⟩
  rw [decide_eq_true q2, Bool.true_and] at hdef
  have q3 : (n : Int) ≤ 64 := by omega
  have q6 : decide ((64 : Int) < (n : Int)) = false := decide_eq_false (by omega)
  have hA := iAreWords_any (some ⟨g, 0, none⟩) n c ws T w1 HX1.out (by omega) HW.out
  cases q4 : ws.all (fun xs => wordB xs T) with
  | false =>
    rw [q4] at hA
    rw [q4, Bool.false_and] at hdef
    have HD := Lib.hid hdef
    clear hdef q4
    go_wp2_with (first | (go_at_call 47; refine hA.mono ?_; rintro e w' ⟨rfl, hw⟩; obtain rfl := hw; clear hA))
    go_ret2
    exact ⟨.slice none 0 0, by rw [HD.out]; rfl, by rw [HD.out]; exact RowI.nil _ _ _, HBE.out⟩
  | true =>
  rw [q4] at hA
  rw [q4, Bool.true_and] at hdef
  have HQ4 := Lib.hid q4; clear q4
  have hI := iIn_any k 1 8 w1
  cases q5 : inB k 1 8 with
  | false =>
    rw [q5] at hI hdef
    have HD := Lib.hid hdef
    clear hdef q5
    go_wp2_with (first | (go_at_call 47; refine hA.mono ?_; rintro e w' ⟨rfl, hw⟩; obtain rfl := hw; clear hA) | (go_at_call 44; refine hI.mono ?_; rintro e w' ⟨rfl, hw⟩; obtain rfl := hw; clear hI))
    go_ret2
    exact ⟨.slice none 0 0, by rw [HD.out]; rfl, by rw [HD.out]; exact RowI.nil _ _ _, HBE.out⟩
  | true =>
  rw [q5] at hI hdef
  have HD := Lib.hid hdef
  clear hdef q5
  go_wp2_with (first | (go_at_call 47; refine hA.mono ?_; rintro e w' ⟨rfl, hw⟩; obtain rfl := hw; clear hA) | (go_at_call 44; refine hI.mono ?_; rintro e w' ⟨rfl, hw⟩; obtain rfl := hw; clear hI))
  clear k1
  have hl := Lib.hid HX1.out.len
  go_loopg [8, 34] n (fun m o i wr => ∃ (j : Nat) (A : Option Addr) (ca : Nat), i = .int .i64 j ∧ j ≤ n ∧ n ≤ m + j ∧ o = .slice A j ca ∧ Hid (RowI wr w1.heap.size 2 (.slice A j ca) ((wsR L P E ws).take j)) ∧ Hid (Below w1.heap.size w1 wr))
  case atStart => exact ⟨0, _, _, rfl, by omega, by omega, rfl, by rw [List.take_zero]; exact RowI.made _ _ _ (Nat.le_refl _), (Below.refl _ _).alloc (Nat.le_refl _) _⟩
  case round =>
    obtain ⟨j, A, ca, rfl, hk, hm, rfl, HO, HB⟩ := hrel
    obtain ⟨wo, rfl⟩ : ∃ x : World, x = wr := ⟨_, rfl⟩
    by_cases hlt : j < n
    · obtain ⟨b, off, A', c', x, e0, hbB, hx, hc, hxs, hxm⟩ := (HX1.out.below HB.out (Nat.le_refl _)).at_ hlt
      cases e0
      rw [Nat.zero_add] at hc
      have rr := HRB.out.below HB.out HRB.out.lt
      have r0 := rr.cell 0; have r1 := rr.cell 1; have r2 := rr.cell 2; have r3 := rr.cell 3; have r4 := rr.cell 4
      clear rr
      have l1 : (0 : Int) ≤ (j : Int) := by omega
      have hs := HB.out.size
      have hx12 : x.length ≤ 1000000 := by
        have h1 := List.all_eq_true.1 HQ4.out x (List.mem_of_getElem? hx.out)
        have := wordB_len h1; omega
      have hT := iCostOf0_any (.agg #[.int .i64 S, .int .i64 T, .slice A2 n2 c2, .slice A3 n3 c3, .slice A4' n4 c4]) S T L P E A' x.length c' x wo ((HM1.out.below HB.out (Nat.le_refl _)).more hs) (hxs.out.more hs) HV2.out HV3.out HV1.out v4 HV5.out (by omega) (by omega) hx12
      have hlk : Hid (((wsR L P E ws).take j).length = j) := by show _ = _; rw [List.length_take, wsR, List.length_map, hl.out]; omega
      have hlen : Hid (((wsR L P E ws).take j).length + 1 ≤ 4294967296) := by show _ ≤ _; rw [hlk.out]; omega
      have HST := Lib.hid (wsR_take (L := L) (P := P) (E := E) hx.out)
      go_wp2_with (first | (go_at_call 46; refine hT.mono ?_; rintro e w2 ⟨rfl, hb2⟩; clear hT; have HO2 := Lib.hid (HO.out.keep hb2 (Nat.le_refl _)); have hs2 := Nat.le_trans hs hb2.size; have HB2 := Lib.hid hb2; clear hb2) | (at_builtin; refine wpList_int_push _ rfl (.tmp 38) (.tmp 42) _ rfl w1.heap.size 2 Try.underlying26 infoQ _ ((wsR L P E ws).take j) rfl HO2.out _ rfl hlen.out hs2 ?_; intro g' cap w' hown hbl hat hgr; clear hat hgr; have HOW := Lib.hid hown; have HBL := Lib.hid hbl; clear hown hbl))
      go_roundg (gk - 1)
      case measure => omega
      case rel =>
        refine ⟨j + 1, some ⟨g', 0, none⟩, cap, by go_num, by omega, by omega, by have e := hlk.out; rw [List.length_take] at e; rw [e], ?_, (HB.out.trans (HB2.out.mono HB.out.size)).trans HBL.out⟩
        show RowI _ _ _ _ _
        rw [HST.out]
        have := HOW.out
        rw [hlk.out] at this
        exact this
    · have hkk : j = n := by omega
      have HK := Lib.hid hkk
      have q1 : (n : Int) ≤ (j : Int) := by omega
      clear hkk hlt
      go_wp2_with fail
      go_ret2
      have e := HO.out
      rw [HK.out, take_all (by rw [wsR, List.length_map, hl.out])] at e
      exact ⟨_, by rw [HD.out, HK.out]; rfl, by rw [HD.out]; exact World.ownsRow.mono e HBE.out.size, HBE.out.trans (HB.out.mono HBE.out.size)⟩
end Go.Proofs.Ytegponioggpkcaa
