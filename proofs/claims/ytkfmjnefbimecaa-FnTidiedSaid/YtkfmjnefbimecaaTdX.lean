/- pairSums and hasEmpty of the program. -/
import Derived.Test.YtkfmjnefbimecaaTdV
import Derived.Test.YtkfmjnefbimecaaMgh
import Derived.Test.YtkfmjnefbimecaaMgi
import Derived.Test.YtkfmjnefbimecaaMgg
import Derived.Test.YtkfmjnefbimecaaTab
import Derived.Deep.LoopGhost


namespace Go.Proofs.Ytkfmjnefbimecaa
open Go.RowKit
set_option linter.unusedVariables false
theorem psL_step {P P' : List Int} {k : Nat} {x : Int} (h : P[k]? = some x) : psL (P.take (k + 1)) P' = psL (P.take k) P' ++ psR P' x := by
  obtain ⟨hk, rfl⟩ := List.getElem?_eq_some_iff.1 h
  unfold psL
  rw [List.take_succ_eq_append_getElem hk, List.flatMap_append]; simp
theorem psR_step {P' : List Int} {j : Nat} {x y : Int} (h : P'[j]? = some y) : psR (P'.take (j + 1)) x = psR (P'.take j) x ++ [psV x y] := by
  obtain ⟨hj, rfl⟩ := List.getElem?_eq_some_iff.1 h
  unfold psR
  rw [List.take_succ_eq_append_getElem hj, List.map_append]; rfl
theorem psM_len (P P' : List Int) (k j : Nat) (x : Int) : (psL (P.take k) P' ++ psR (P'.take j) x).length ≤ P.length * P'.length + P'.length := by
  rw [List.length_append, psL_len, psR, List.length_map, List.length_take, List.length_take]
  have : min k P.length * P'.length ≤ P.length * P'.length := Nat.mul_le_mul (Nat.min_le_right _ _) (Nat.le_refl _)
  omega
set_option maxRecDepth 100000 in
set_option maxHeartbeats 4000000 in
theorem iPair_any (A : Option Addr) (n c : Nat) (P : List Int) (A' : Option Addr) (n' c' : Nat) (P' : List Int) (w : World) (h : SlI w w.heap.size A n P) (h' : SlI w w.heap.size A' n' P') (hP : ∀ x ∈ P, x ≤ 1000) (hP' : ∀ x ∈ P', x ≤ 1000) (hn : n ≤ 1000) (hn' : n' ≤ 1000) :
    Calls Try.prog 61 #[.slice A n c, .slice A' n' c'] w fun e w' => ∃ g d, e = .returned (.slice (some ⟨g, 0, none⟩) (psL P P').length d) ∧ RowI w' w.heap.size 2 (.slice (some ⟨g, 0, none⟩) (psL P P').length d) (psL P P') ∧ Below w.heap.size w w' := by
  have hl := h.len; have hl' := h'.len
  have H := Lib.hid h; have H' := Lib.hid h'; have HP := Lib.hid hP; have HP' := Lib.hid hP'; have HL := Lib.hid hl; have HL' := Lib.hid hl'
  have HLM : Hid (∀ k j x, (psL (P.take k) P' ++ psR (P'.take j) x).length ≤ 1001000) := fun k j x => by
    have h1 := psM_len P P' k j x
    have h2 : P.length * P'.length ≤ 1000 * 1000 := Nat.mul_le_mul (by omega) (by omega)
    omega
  clear h h' hP hP' hl hl'
  have HM := RowI.made w w.heap.size 2 (Nat.le_refl _)
  have hb0 : Below w.heap.size w (w.alloc (.cells #[] 2)) := (Below.refl _ _).alloc (Nat.le_refl _) _
  have HM0 := Lib.hid HM; have HB0 := Lib.hid hb0; clear HM hb0
  go_enter Try.func61, Try.ntmps61
  go_wp2_with fail
  go_loopg [5, 7, 9, 13] n (fun q o u7 u9 i wr => ∃ (k m g d : Nat), i = .int .i64 k ∧ k ≤ n ∧ n ≤ q + k ∧ o = .slice (some ⟨g, 0, none⟩) m d ∧ Hid (m = (psL (P.take k) P').length) ∧ Hid (RowI wr w.heap.size 2 (.slice (some ⟨g, 0, none⟩) m d) (psL (P.take k) P')) ∧ Hid (Below w.heap.size w wr))
  case atStart => exact ⟨0, 0, _, _, rfl, by omega, by omega, rfl, rfl, HM0.out, HB0.out⟩
  case round =>
    obtain ⟨k, m, g, d, rfl, hk, hq, rfl, HN, HR, HB⟩ := hrel
    obtain ⟨wo, rfl⟩ : ∃ x : World, x = wr := ⟨_, rfl⟩
    obtain ⟨go, hgo⟩ : ∃ x : Nat, x = gk := ⟨_, rfl⟩
    by_cases hlt : k < n
    · obtain ⟨b1, off1, x, rfl, _, hx, cx⟩ := (H.out.below HB.out (Nat.le_refl _)).at_ hlt
      have q1 : (k : Int) < (n : Int) := by omega
      have xr := HP.out x (List.mem_of_getElem? hx.out)
      have HST := Lib.hid (psL_step (P' := P') hx.out)
      go_wp2_with fail
      go_loopg [5, 9, 19] n' (fun q o u9 i wr => ∃ (j m g d : Nat), i = .int .i64 j ∧ j ≤ n' ∧ n' ≤ q + j ∧ o = .slice (some ⟨g, 0, none⟩) m d ∧ Hid (m = (psL (P.take k) P' ++ psR (P'.take j) x).length) ∧ Hid (RowI wr w.heap.size 2 (.slice (some ⟨g, 0, none⟩) m d) (psL (P.take k) P' ++ psR (P'.take j) x)) ∧ Hid (Below w.heap.size w wr))
      case atStart => exact ⟨0, m, _, _, rfl, by omega, by omega, rfl, by show _ = _; rw [HN.out]; simp [psR], by show RowI _ _ _ _ _; rw [show psL (P.take k) P' ++ psR (P'.take 0) x = psL (P.take k) P' by simp [psR]]; exact HR.out, HB.out⟩
      case round =>
        clear HN HR HB cx
        obtain ⟨j, m, g, d, rfl, hj, hq2, rfl, HN, HR, HB⟩ := hrel
        obtain ⟨wi, rfl⟩ : ∃ x : World, x = wr := ⟨_, rfl⟩
        by_cases hlt2 : j < n'
        · obtain ⟨b2, off2, y, rfl, _, hy, cy⟩ := (H'.out.below HB.out (Nat.le_refl _)).at_ hlt2
          have q2 : (j : Int) < (n' : Int) := by omega
          have yr := HP'.out y (List.mem_of_getElem? hy.out)
          have HST2 := Lib.hid (psR_step (x := x) hy.out)
          have HLE : Hid ((psL (P.take k) P' ++ psR (P'.take j) x).length + 1 ≤ 4294967296) := by have := HLM.out k j x; show _ ≤ _; omega
          have HBS : Hid (w.heap.size ≤ wi.heap.size) := HB.out.size
          have hfin : Hid (∀ (v : Int) (g' d' : Nat) (w' : World), psV x y = v → RowI w' w.heap.size 2 (.slice (some ⟨g', 0, none⟩) ((psL (P.take k) P' ++ psR (P'.take j) x).length + 1) d') ((psL (P.take k) P' ++ psR (P'.take j) x) ++ [v]) → Below w.heap.size wi w' → Hid (((psL (P.take k) P' ++ psR (P'.take j) x).length + 1 : Nat) = (psL (P.take k) P' ++ psR (P'.take (j + 1)) x).length) ∧ Hid (RowI w' w.heap.size 2 (.slice (some ⟨g', 0, none⟩) ((psL (P.take k) P' ++ psR (P'.take j) x).length + 1) d') (psL (P.take k) P' ++ psR (P'.take (j + 1)) x)) ∧ Hid (Below w.heap.size w w')) := by
            intro v g' d' w' hv hr hb
            refine ⟨?_, ?_, HB.out.trans (hb.mono (Nat.le_refl _))⟩
            · show _ = _
              rw [HST2.out, ← List.append_assoc, List.length_append (bs := [psV x y])]; rfl
            · show RowI _ _ _ _ _
              rw [HST2.out, hv, ← List.append_assoc]; exact hr
          obtain ⟨X, hX⟩ : ∃ X, X = psL (P.take k) P' ++ psR (P'.take j) x := ⟨_, rfl⟩
          rw [← hX] at HN HR HLE hfin
          have HX := Lib.hid hX; clear hX
          have hm := HN.out
          clear HN
          subst hm
          by_cases hx0 : x < 0
          · have HV : Hid (psV x y = -1) := by show _ = _; unfold psV; rw [if_pos (.inl hx0)]
            go_wp2_with (first | (at_builtin; refine wpList_int_push wi rfl (.tmp 29) (.tmp 30) _ rfl w.heap.size 2 Try.underlying26 infoQ (.slice (some ⟨g, 0, none⟩) X.length d) X rfl HR.out _ rfl HLE.out HBS.out ?_; intro g' cap w' hown hbl hat hgr; have HF := Lib.hid (hfin.out _ g' cap w' HV.out hown hbl); clear hown hbl hat hgr))
            go_roundg (gk - 1)
            case measure => omega
            case rel => exact ⟨j + 1, _, g', cap, by go_num, by omega, by omega, rfl, HF.out.1, HF.out.2.1, HF.out.2.2⟩
          · have hx1 : 0 ≤ x := by omega
            clear hx0
            by_cases hy0 : y < 0
            · have HV : Hid (psV x y = -1) := by show _ = _; unfold psV; rw [if_pos (.inr hy0)]
              go_wp2_with (first | (at_builtin; refine wpList_int_push wi rfl (.tmp 29) (.tmp 30) _ rfl w.heap.size 2 Try.underlying26 infoQ (.slice (some ⟨g, 0, none⟩) X.length d) X rfl HR.out _ rfl HLE.out HBS.out ?_; intro g' cap w' hown hbl hat hgr; have HF := Lib.hid (hfin.out _ g' cap w' HV.out hown hbl); clear hown hbl hat hgr))
              go_roundg (gk - 1)
              case measure => omega
              case rel => exact ⟨j + 1, _, g', cap, by go_num, by omega, by omega, rfl, HF.out.1, HF.out.2.1, HF.out.2.2⟩
            · have hy1 : 0 ≤ y := by omega
              clear hy0
              have HV : Hid (psV x y = x + y) := by show _ = _; unfold psV; rw [if_neg (by omega)]
              have e1 : IntKind.i64.wrap (x + y) = x + y := IntWalk.i64_in _ (by omega)
              go_wp2_with (first | (at_builtin; refine wpList_int_push wi rfl (.tmp 32) (.tmp 36) _ rfl w.heap.size 2 Try.underlying26 infoQ (.slice (some ⟨g, 0, none⟩) X.length d) X rfl HR.out _ rfl HLE.out HBS.out ?_; intro g' cap w' hown hbl hat hgr; have HF := Lib.hid (hfin.out _ g' cap w' HV.out hown hbl); clear hown hbl hat hgr))
              go_roundg (gk - 1)
              case measure => omega
              case rel => exact ⟨j + 1, _, g', cap, by go_num, by omega, by omega, rfl, HF.out.1, HF.out.2.1, HF.out.2.2⟩
        · have hjn : j = n' := by omega
          have hq3 : ¬ (j : Int) < (n' : Int) := by omega
          have HFU : Hid (psL (P.take k) P' ++ psR (P'.take j) x = psL (P.take (k + 1)) P') := by show _ = _; rw [HST.out, hjn, ← HL'.out, List.take_length]
          rw [HFU.out] at HN HR
          clear hjn hlt2
          go_wp2_with fail
          go_roundg (go - 1)
          case measure => omega
          case rel => exact ⟨k + 1, m, g, d, by go_num, by omega, by omega, rfl, HN.out, HR.out, HB.out⟩
    · have hkn : k = n := by omega
      have hq3 : ¬ (k : Int) < (n : Int) := by omega
      have HFU : Hid (P.take k = P) := by show _ = _; rw [hkn, ← HL.out, List.take_length]
      rw [HFU.out] at HN HR
      clear hkn hlt
      have hm := HN.out
      clear HN
      subst hm
      go_wp2_with fail
      go_ret
      exact ⟨g, d, rfl, HR.out, HB.out⟩
/-! Whether a machine has empty arcs. -/
set_option maxHeartbeats 1000000 in
theorem iNeg_any (f t l c : Int) (w : World) :
    Calls Try.prog 108 #[.agg #[.int .i64 f, .int .i64 t, .int .i64 l, .int .i64 c]] w fun e w' => e = .returned (.bool (decide (l < 0))) ∧ Below w.heap.size w w' := by
  have RA := Row.new w 39 [.int .i64 f, .int .i64 t, .int .i64 l, .int .i64 c]
  have d2 := RA.cell 2
  have hb : Below w.heap.size w (w.alloc (.cells ([.int .i64 f, .int .i64 t, .int .i64 l, .int .i64 c] : List Value).toArray 39)) := (Below.refl _ _).alloc (Nat.le_refl _) _
  have HB := Lib.hid hb; clear hb RA
  go_enter Try.func108, Try.ntmps108
  go_wp2_with fail
  go_ret
  exact ⟨ret_bool (by first | rfl | simp), HB.out⟩
set_option maxHeartbeats 4000000 in
theorem iIxNeg_any (A : Option Addr) (n c : Nat) (L : List A4) (w : World) (h : SlA w w.heap.size A n L) (h0 : ∀ a ∈ L, 0 ≤ a.2.2.1) (hn : n ≤ 1000000) :
    Calls Try.prog 129 #[.slice A n c, .func (.func 108) #[] #[]] w fun e w' => e = .returned (.int .i64 (-1)) ∧ Below w.heap.size w w' := by
  have H := Lib.hid h; have H0 := Lib.hid h0
  clear h h0
  go_enter Try.func129, Try.ntmps129
  go_wp2_with fail
  go_loopg [5, 8] n (fun q u5 i wr => ∃ k : Nat, i = .int .i64 k ∧ k ≤ n ∧ n ≤ q + k ∧ Hid (Below w.heap.size w wr))
  case atStart => exact ⟨0, rfl, by omega, by omega, Below.refl _ _⟩
  case round =>
    obtain ⟨k, rfl, hk, hq, HB⟩ := hrel
    obtain ⟨wo, rfl⟩ : ∃ x : World, x = wr := ⟨_, rfl⟩
    by_cases hlt : k < n
    · obtain ⟨b, off, a0, a1, a2, a3, rfl, hbB, hx, c0, c1, c2', c3'⟩ := (H.out.below HB.out (Nat.le_refl _)).at_ hlt
      have hge := H0.out _ (List.mem_of_getElem? hx.out)
      have hC := iNeg_any a0 a1 a2 a3 wo
      rw [decide_eq_false (show ¬ a2 < 0 by simp only at hge; omega)] at hC
      have l1 : (k : Int) < (n : Int) := by omega
      clear hge
      go_wp2_with fail
      refine hC.mono ?_
      rintro e w1 ⟨rfl, hb1⟩
      have HB1 := Lib.hid (HB.out.trans (hb1.mono HB.out.size))
      clear hC hb1
      go_wp2_with fail
      go_roundg (gk - 1)
      case measure => omega
      case rel => exact ⟨k + 1, by go_num, by omega, by omega, HB1.out⟩
    · have l1 : ¬ (k : Int) < (n : Int) := by omega
      go_wp2_with fail
      go_ret
      exact ⟨rfl, HB.out⟩
set_option maxHeartbeats 4000000 in
theorem iCtNeg_any (A : Option Addr) (n c : Nat) (L : List A4) (w : World) (h : SlA w w.heap.size A n L) (h0 : ∀ a ∈ L, 0 ≤ a.2.2.1) (hn : n ≤ 1000000) :
    Calls Try.prog 107 #[.slice A n c, .func (.func 108) #[] #[]] w fun e w' => e = .returned (.bool false) ∧ Below w.heap.size w w' := by
  have hC := iIxNeg_any A n c L w h h0 hn
  go_enter Try.func107, Try.ntmps107
  go_wp2_with fail
  refine hC.mono ?_
  rintro e w1 ⟨rfl, hb1⟩
  clear hC
  go_wp2_with fail
  go_ret
  exact ⟨rfl, hb1⟩
set_option maxHeartbeats 4000000 in
theorem iHas_any (S T : Int) (L : List A4) (A2 : Option Addr) (n2 c2 : Nat) (A3 : Option Addr) (n3 c3 : Nat) (A4 : Option Addr) (n4 c4 : Nat) (w : World) (h2 : SlA w w.heap.size A2 n2 L) (h0 : ∀ a ∈ L, 0 ≤ a.2.2.1) (hn : n2 ≤ 1000000) :
    Calls Try.prog 59 #[.agg #[.int .i64 S, .int .i64 T, .slice A2 n2 c2, .slice A3 n3 c3, .slice A4 n4 c4]] w fun e w' => e = .returned (.bool false) ∧ Below w.heap.size w w' := by
  have rb := Row.new w 28 [.int .i64 S, .int .i64 T, .slice A2 n2 c2, .slice A3 n3 c3, .slice A4 n4 c4]
  have k2 := rb.cell 2
  have bx : Below w.heap.size w (w.alloc (.cells ([.int .i64 S, .int .i64 T, .slice A2 n2 c2, .slice A3 n3 c3, .slice A4 n4 c4] : List Value).toArray 28)) := (Below.refl _ _).alloc (Nat.le_refl _) _
  have hC := iCtNeg_any A2 n2 c2 L _ ((h2.below bx (Nat.le_refl _)).more bx.size) h0 hn
  have BX := Lib.hid bx
  clear rb bx h2 h0
  go_enter Try.func59, Try.ntmps59
  go_wp2_with fail
  refine hC.mono ?_
  rintro e w1 ⟨rfl, hb1⟩
  clear hC
  go_wp2_with fail
  go_ret
  exact ⟨rfl, BX.out.trans (hb1.mono BX.out.size)⟩
end Go.Proofs.Ytkfmjnefbimecaa
