/- The costs of a word, in the reference: words, sums, first costs, a move. -/
import Derived.Test.YtbdfbmohdbigfaaMgh
import Derived.Deep.DeepCutAuto

namespace Go.Proofs.Ytbdfbmohdbigfaa
open Go.RowKit
set_option linter.unusedVariables false
theorem sMinC (x y : Int) (w : World) :
    Calls Try.prog 106 #[.int .i64 x, .int .i64 y] w fun e w' => e = .returned (.int .i64 (min x y)) ∧ w = w' := by
  by_cases h : x < y
  · go_enter Try.func106, Try.ntmps106
    go_wp2
    go_ret
    exact ⟨ret_int (by omega), rfl⟩
  · have h' : y ≤ x := by omega
    clear h
    go_enter Try.func106, Try.ntmps106
    go_wp2
    go_ret
    exact ⟨ret_int (by omega), rfl⟩
/-- A machine behind a pointer. -/
def Mp (w : World) (gm : Nat) (S T : Int) (L : List A4) (P E : List Int) : Prop :=
  ∃ A2 c2 A3 c3 A4' c4, Row w gm 28 (BxM S T A2 L.length c2 A3 P.length c3 A4' E.length c4) ∧ SlA w w.heap.size A2 L.length L ∧ SlI w w.heap.size A3 P.length P ∧ SlI w w.heap.size A4' E.length E
theorem Mp.below {w w' : World} {gm : Nat} {S T : Int} {L : List A4} {P E : List Int} {B : Nat} (h : Mp w gm S T L P E) (hb : Below B w w') (hB : w.heap.size ≤ B) : Mp w' gm S T L P E := by
  obtain ⟨A2, c2, A3, c3, A4', c4, hr, h2, h3, h4⟩ := h
  exact ⟨A2, c2, A3, c3, A4', c4, hr.below hb (Nat.lt_of_lt_of_le hr.lt hB), (h2.below hb hB).more hb.size, (h3.below hb hB).more hb.size, (h4.below hb hB).more hb.size⟩
theorem frL_take {F : Int} {P : List Int} {k : Nat} {x : Int} (h : P[k]? = some x) : frL F (P.take (k + 1)) = frL F (P.take k) ++ [if x < 0 then F else x] := by
  obtain ⟨hk, rfl⟩ := List.getElem?_eq_some_iff.1 h
  rw [List.take_succ_eq_append_getElem hk]
  show List.map _ (P.take k ++ [P[k]]) = _
  rw [List.map_append]; rfl
set_option maxRecDepth 100000 in
set_option maxHeartbeats 4000000 in
theorem sFirst_any (gm : Nat) (S T : Int) (L : List A4) (P E : List Int) (w : World) (h : Mp w gm S T L P E) (hS : S = (P.length : Int)) (hn : P.length ≤ 1000000) :
    Calls Try.prog 62 #[.pointer (some ⟨gm, 0, none⟩)] w fun e w' => ∃ A c, e = .returned (.slice A P.length c) ∧ RowI w' w.heap.size 2 (.slice A P.length c) (frL 1000000000 P) ∧ Below w.heap.size w w' := by
  obtain ⟨A2, c2, A3, c3, A4', c4, hr, h2, h3, h4⟩ := h
  subst hS
  have HR := Lib.hid hr; have H3 := Lib.hid h3
  clear hr h2 h3 h4
  go_enter Try.func62, Try.ntmps62
  go_wp2_with fail
  go_loopg [3, 4] P.length (fun q o i wr => ∃ (k : Nat) (A : Option Addr) (c : Nat), i = .int .i64 k ∧ k ≤ P.length ∧ P.length ≤ q + k ∧ o = .slice A k c ∧ Hid (RowI wr w.heap.size 2 (.slice A k c) (frL 1000000000 (P.take k))) ∧ Hid (Below w.heap.size w wr))
  case atStart => exact ⟨0, _, _, rfl, by omega, by omega, rfl, RowI.made _ _ _ (Nat.le_refl _), (Below.refl _ _).alloc (Nat.le_refl _) _⟩
  case round =>
    obtain ⟨k, A, c, rfl, hk, hm, rfl, HO, HB⟩ := hrel
    obtain ⟨wo, rfl⟩ : ∃ x : World, x = wr := ⟨_, rfl⟩
    have rr := HR.out.below HB.out HR.out.lt
    have r0 := rr.cell 0; have r3 := rr.cell 3
    clear rr
    by_cases hlt : k < P.length
    · obtain ⟨b, off, x, rfl, _, hx, kx⟩ := (H3.out.below HB.out (Nat.le_refl _)).at_ hlt
      have q1 : (k : Int) < (P.length : Int) := by omega
      have hs := HB.out.size
      have hlen : Hid ((frL 1000000000 (P.take k)).length + 1 ≤ 4294967296) := by show _ ≤ _; rw [frL_len, List.length_take]; omega
      have HST := Lib.hid (frL_take (F := 1000000000) hx.out)
      have hlk : Hid ((frL 1000000000 (P.take k)).length = k) := by show _ = _; rw [frL_len, List.length_take]; omega
      by_cases hx0 : x < 0
      · go_wp2_with (first | (at_builtin; refine wpList_int_push _ rfl (.tmp 22) (.tmp 23) _ rfl w.heap.size 2 Try.underlying26 infoQ _ (frL 1000000000 (P.take k)) rfl HO.out _ rfl hlen.out hs ?_; intro g' cap w' hown hbl hat hgr; clear hat hgr; have HOW := Lib.hid hown; have HBL := Lib.hid hbl; clear hown hbl))
        go_roundg (gk - 1)
        case measure => omega
        case rel =>
          refine ⟨k + 1, some ⟨g', 0, none⟩, cap, by go_num, by omega, by omega, by rw [hlk.out], ?_, HB.out.trans HBL.out⟩
          show RowI _ _ _ _ _
          rw [HST.out, if_pos hx0]
          have := HOW.out
          rw [hlk.out] at this
          exact this
      · have q2 : (0 : Int) ≤ x := by omega
        have HX0 := Lib.hid hx0; clear hx0
        go_wp2_with (first | (at_builtin; refine wpList_int_push _ rfl (.tmp 25) (.tmp 33) _ rfl w.heap.size 2 Try.underlying26 infoQ _ (frL 1000000000 (P.take k)) rfl HO.out _ rfl hlen.out hs ?_; intro g' cap w' hown hbl hat hgr; clear hat hgr; have HOW := Lib.hid hown; have HBL := Lib.hid hbl; clear hown hbl))
        go_roundg (gk - 1)
        case measure => omega
        case rel =>
          refine ⟨k + 1, some ⟨g', 0, none⟩, cap, by go_num, by omega, by omega, by rw [hlk.out], ?_, HB.out.trans HBL.out⟩
          show RowI _ _ _ _ _
          rw [HST.out, if_neg (by have := HX0.out; omega)]
          have := HOW.out
          rw [hlk.out] at this
          exact this
    · have hkk : k = P.length := by omega
      have HK := Lib.hid hkk
      have q1 : (P.length : Int) ≤ (k : Int) := by omega
      clear hkk hlt
      go_wp2_with fail
      go_ret
      have e := HO.out
      rw [HK.out, List.take_length] at e
      exact ⟨A, c, by rw [HK.out]; rfl, e, HB.out⟩
end Go.Proofs.Ytbdfbmohdbigfaa
