/- Several texts in one: The costs of a word, in the reference: a move along steps. The costs of a word, in the reference: ends, steps. -/
import Derived.Test.YtedbngnkkfpbeaaMgj

namespace Go.Proofs.Ytedbngnkkfpbeaa
open Go.RowKit
set_option linter.unusedVariables false
/-- A table that is read: its header's block gt, n rows. -/
def TabR (w : World) (gt n : Nat) (R : List (List Int)) : Prop :=
  R.length = n ∧ (∀ r ∈ R, r.length = n) ∧ ∀ (j : Nat) (r : List Int), R[j]? = some r → ∃ (g c : Nat), w.cell? ⟨gt, j, none⟩ = some (.slice (some ⟨g, 0, none⟩) n c) ∧ gt < w.heap.size ∧ g < w.heap.size ∧ ∀ (k : Nat) (x : Int), r[k]? = some x → w.cell? ⟨g, k, none⟩ = some (.int .i64 x)
theorem TabR.below {w w' : World} {gt n B : Nat} {R : List (List Int)} (h : TabR w gt n R) (hb : Below B w w') (hB : w.heap.size ≤ B) : TabR w' gt n R := by
  refine ⟨h.1, h.2.1, fun j r hj => ?_⟩
  obtain ⟨g, c, e1, e2, e3, e4⟩ := h.2.2 j r hj
  exact ⟨g, c, (hb.cell (p := ⟨gt, j, none⟩) (show gt < B by omega)).trans e1, Nat.lt_of_lt_of_le e2 hb.size, Nat.lt_of_lt_of_le e3 hb.size, fun k x hx => (hb.cell (p := ⟨g, k, none⟩) (show g < B by omega)).trans (e4 k x hx)⟩
theorem TabI.r {w : World} {base gt n ct : Nat} {TT : TypeId} {R : List (List Int)} (h : TabI w base TT (.slice (some ⟨gt, 0, none⟩) n ct) R) (hn : R.length = n) (hr : ∀ r ∈ R, r.length = n) : TabR w gt n R := by
  refine ⟨hn, hr, fun j r hj => ?_⟩
  obtain ⟨gt', ct', g, c, e, _, _, h1, h2, _, _, h3, _, h4⟩ := h.at_ hj
  injection e with e1 _ _
  injection e1 with e1
  injection e1 with e1 _ _
  subst e1
  rw [hr r (List.mem_of_getElem? hj)] at h2
  exact ⟨g, c, h2, h1, h3, h4⟩
def gg (R : List (List Int)) (i k : Nat) : Int := g0 (R.getD i []) k
theorem gg_get {R : List (List Int)} {i k : Nat} {r : List Int} {x : Int} (h : R[i]? = some r) (hx : r[k]? = some x) : gg R i k = x := by
  unfold gg; rw [List.getD_eq_getElem?_getD, h]; exact g0_get hx
theorem TabR.at_ {w : World} {gt n : Nat} {R : List (List Int)} (h : TabR w gt n R) {i k : Nat} (hi : i < n) (hk : k < n) : ∃ (g c : Nat), w.cell? ⟨gt, i, none⟩ = some (.slice (some ⟨g, 0, none⟩) n c) ∧ w.cell? ⟨g, k, none⟩ = some (.int .i64 (gg R i k)) := by
  obtain ⟨r, h1⟩ : ∃ r, R[i]? = some r := ⟨_, List.getElem?_eq_getElem (show i < R.length by have := h.1; omega)⟩
  obtain ⟨g, c, e1, _, _, e4⟩ := h.2.2 i r h1
  have hl : r.length = n := h.2.1 r (List.mem_of_getElem? h1)
  obtain ⟨x, h2⟩ : ∃ x, r[k]? = some x := ⟨_, List.getElem?_eq_getElem (show k < r.length by omega)⟩
  exact ⟨g, c, e1, by rw [gg_get h1 h2]; exact e4 k x h2⟩
def BdR (F : Int) (R : List (List Int)) : Prop := ∀ r ∈ R, Bd F r
theorem BdR.gg {F : Int} {R : List (List Int)} (h : BdR F R) (hF : 0 ≤ F) (i k : Nat) : 0 ≤ gg R i k ∧ gg R i k ≤ F := by
  unfold Go.Proofs.Ytedbngnkkfpbeaa.gg
  rw [List.getD_eq_getElem?_getD]
  cases hx : R[i]? with
  | none => unfold g0; simp; exact hF
  | some r => exact (h r (List.mem_of_getElem? hx)).g0 hF k
theorem mins_bd {F : Int} {f : Nat → Int} (hF : 0 ≤ F) (hf : ∀ i, 0 ≤ f i) : ∀ k, 0 ≤ mins F f k ∧ mins F f k ≤ F
  | 0 => ⟨hF, Int.le_refl _⟩
  | k + 1 => by
    have := mins_bd hF hf k; have := hf k
    show 0 ≤ Min.min (mins F f k) (f k) ∧ Min.min (mins F f k) (f k) ≤ F
    omega
/-- The costs behind a step. -/
def mvf (v : List Int) (R : List (List Int)) (k i : Nat) : Int := g0 v i + gg R i k
def mvV (F : Int) (v : List Int) (R : List (List Int)) : List Int := (List.range v.length).map fun k => mins F (mvf v R k) v.length
theorem mvV_len (F : Int) (v : List Int) (R : List (List Int)) : (mvV F v R).length = v.length := by simp [mvV]
theorem mvV_bd {F : Int} (hF : 0 ≤ F) {v : List Int} {R : List (List Int)} (hv : Bd F v) (hR : BdR F R) : Bd F (mvV F v R) := fun x hx => by
  simp only [mvV, List.mem_map] at hx
  obtain ⟨k, _, rfl⟩ := hx
  exact mins_bd hF (fun i => by unfold mvf; have := hv.g0 hF i; have := hR.gg hF i k; omega) _
theorem map_range_take {α : Type} (f : Nat → α) (n k : Nat) (h : k < n) : ((List.range n).map f).take (k + 1) = ((List.range n).map f).take k ++ [f k] := by
  rw [List.take_succ_eq_append_getElem (by simpa using h)]
  simp
set_option maxRecDepth 100000 in
set_option maxHeartbeats 4000000 in
theorem sMove_any (A : Option Addr) (n c : Nat) (v : List Int) (gt ct : Nat) (R : List (List Int)) (w : World) (h : SlI w w.heap.size A n v) (hR : TabR w gt n R) (hv : Bd 1000000000 v) (hRb : BdR 1000000000 R) (hn : n ≤ 1000000) :
    Calls Try.prog 71 #[.slice A n c, .slice (some ⟨gt, 0, none⟩) n ct] w fun e w' => ∃ A' c', e = .returned (.slice A' n c') ∧ RowI w' w.heap.size 2 (.slice A' n c') (mvV 1000000000 v R) ∧ Below w.heap.size w w' := by
  have hl := h.len
  have H := Lib.hid h; have HR := Lib.hid hR; have HLN := Lib.hid hl
  have HBV : Hid (∀ i, 0 ≤ g0 v i ∧ g0 v i ≤ 1000000000) := hv.g0 (by omega)
  have HBR : Hid (∀ i k, 0 ≤ gg R i k ∧ gg R i k ≤ 1000000000) := fun i k => hRb.gg (by omega) i k
  have HTL : Hid (∀ k, k < n → (mvV 1000000000 v R).take (k + 1) = (mvV 1000000000 v R).take k ++ [mins 1000000000 (mvf v R k) n]) := by
    intro k hk
    unfold mvV
    rw [map_range_take _ _ _ (by omega), hl]
  have HLM : Hid ((mvV 1000000000 v R).length = n) := by show _ = _; rw [mvV_len]; exact hl
  clear h hR hl
  go_enter Try.func71, Try.ntmps71
  go_wp2_with fail
  go_loopg [5, 6, 7, 8] n (fun q o i u7 u8 wr => ∃ (k : Nat) (A' : Option Addr) (c' : Nat), i = .int .i64 k ∧ k ≤ n ∧ n ≤ q + k ∧ o = .slice A' k c' ∧ Hid (RowI wr w.heap.size 2 (.slice A' k c') ((mvV 1000000000 v R).take k)) ∧ Hid (Below w.heap.size w wr))
  case atStart => exact ⟨0, _, _, rfl, by omega, by omega, rfl, RowI.made _ _ _ (Nat.le_refl _), (Below.refl _ _).alloc (Nat.le_refl _) _⟩
  case round =>
    obtain ⟨k, A', c', rfl, hk, hm, rfl, HO, HB⟩ := hrel
    obtain ⟨wo, rfl⟩ : ∃ x : World, x = wr := ⟨_, rfl⟩
    by_cases hlt : k < n
    · have q1 : (k : Int) < (n : Int) := by omega
      go_wp2_with fail
      obtain ⟨go, hgo⟩ : ∃ x : Nat, x = gk := ⟨_, rfl⟩
      go_loopg [7, 8] n (fun q s i wr => ∃ j : Nat, i = .int .i64 j ∧ j ≤ n ∧ n ≤ q + j ∧ s = .int .i64 (mins 1000000000 (mvf v R k) j) ∧ Hid (∃ d, wr = wo.drewN d))
      case atStart => exact ⟨0, rfl, by omega, by omega, rfl, ⟨0, rfl⟩⟩
      case round =>
        obtain ⟨j, rfl, hj, hm2, rfl, HD⟩ := hrel
        obtain ⟨wi, rfl⟩ : ∃ x : World, x = wr := ⟨_, rfl⟩
        have hbi : Hid (Below w.heap.size w wi) := by obtain ⟨d, hd⟩ := HD.out; show Below _ _ _; rw [hd]; exact below_draws HB.out d
        have hsb := mins_bd (F := 1000000000) (f := mvf v R k) (by omega) (fun i => by unfold mvf; have := HBV.out i; have := HBR.out i k; omega) j
        by_cases hlt2 : j < n
        · have q2 : (j : Int) < (n : Int) := by omega
          obtain ⟨b1, off1, x, rfl, _, hx, cx⟩ := (H.out.below hbi.out (Nat.le_refl _)).at_ hlt2
          obtain ⟨g, c2, k1, k2⟩ := (HR.out.below hbi.out (Nat.le_refl _)).at_ hlt2 hlt
          have bx := HBV.out j
          rw [g0_get hx.out] at bx
          have by' := HBR.out j k
          obtain ⟨y, hy⟩ : ∃ y, y = gg R j k := ⟨_, rfl⟩
          obtain ⟨s, hs0⟩ : ∃ s, s = mins 1000000000 (mvf v R k) j := ⟨_, rfl⟩
          have HST : Hid (mins 1000000000 (mvf v R k) (j + 1) = min s (x + y)) := by
            show Min.min (mins 1000000000 (mvf v R k) j) (mvf v R k j) = _
            rw [← hs0, mvf, g0_get hx.out, ← hy]
          rw [← hy] at k2 by'
          rw [← hs0] at hsb ⊢
          obtain ⟨bx0, bx1⟩ := bx; obtain ⟨by0, by1⟩ := by'; obtain ⟨s0, s1⟩ := hsb
          have e1 : IntKind.i64.wrap (x + y) = x + y := IntWalk.i64_in _ (by omega)
          have hMC := sMinC s (x + y)
          clear hs0 hx hy
          go_wp2_with fail
          go_quiet ((go_at_call 69; first | exact quietL (hMC _) | (rw [e1]; exact quietL (hMC _))))
          go_wp2_with fail
          go_roundg (gk - 1)
          case measure => omega
          case rel => exact ⟨j + 1, by go_num, by omega, by omega, by rw [HST.out], by obtain ⟨d, hd⟩ := HD.out; rw [hd]; exact ⟨_, World.drewN_drewN _ _ _⟩⟩
        · have hjj : j = n := by omega
          have HJ := Lib.hid hjj
          have q2 : (n : Int) ≤ (j : Int) := by omega
          have hs := hbi.out.size
          have HOi : Hid (RowI wi w.heap.size 2 (.slice A' k c') ((mvV 1000000000 v R).take k)) := by obtain ⟨d, hd⟩ := HD.out; show RowI _ _ _ _ _; rw [hd]; exact HO.out.drewN d
          have hlk : Hid (((mvV 1000000000 v R).take k).length = k) := by show _ = _; rw [List.length_take, HLM.out]; omega
          have hlen : Hid (((mvV 1000000000 v R).take k).length + 1 ≤ 4294967296) := by show _ ≤ _; rw [hlk.out]; omega
          obtain ⟨s, hs0⟩ : ∃ s, s = mins 1000000000 (mvf v R k) j := ⟨_, rfl⟩
          have HST : Hid ((mvV 1000000000 v R).take (k + 1) = (mvV 1000000000 v R).take k ++ [s]) := by show _ = _; rw [HTL.out k hlt, hs0, HJ.out]
          rw [← hs0] at hsb ⊢
          clear hs0 hjj hlt2
          go_wp2_with (first | (at_builtin; refine wpList_int_push _ rfl (.tmp 36) (.tmp 38) _ rfl w.heap.size 2 Try.underlying26 infoQ _ ((mvV 1000000000 v R).take k) rfl HOi.out _ rfl hlen.out hs ?_; intro g' cap w' hown hbl hat hgr; clear hat hgr; have HOW := Lib.hid hown; have HBL := Lib.hid hbl; clear hown hbl))
          go_roundg (go - 1)
          case measure => omega
          case rel =>
            refine ⟨k + 1, some ⟨g', 0, none⟩, cap, by go_num, by omega, by omega, by first | rw [hlk.out] | rw [HLM.out, Nat.min_eq_left (by omega)], ?_, hbi.out.trans HBL.out⟩
            show RowI _ _ _ _ _
            rw [HST.out]
            have := HOW.out
            rw [hlk.out] at this
            exact this
    · have hkk : k = n := by omega
      have HK := Lib.hid hkk
      have q1 : (n : Int) ≤ (k : Int) := by omega
      clear hkk hlt
      go_wp2_with fail
      go_ret
      have e := HO.out
      rw [HK.out, ← HLM.out, List.take_length] at e
      rw [HLM.out] at e
      exact ⟨A', c', by rw [HK.out]; rfl, e, HB.out⟩
end Go.Proofs.Ytedbngnkkfpbeaa


namespace Go.Proofs.Ytedbngnkkfpbeaa
open Go.RowKit
set_option linter.unusedVariables false
def enf (F : Int) (E : List Int) (C : List (List Int)) (i k : Nat) : Int := if 0 ≤ g0 E k then gg C i k + g0 E k else F
def enV (F : Int) (n : Nat) (E : List Int) (C : List (List Int)) : List Int := (List.range n).map fun i => mins F (enf F E C i) n
theorem enV_len (F : Int) (n : Nat) (E : List Int) (C : List (List Int)) : (enV F n E C).length = n := by simp [enV]
theorem enf_nn {F : Int} (hF : 0 ≤ F) {E : List Int} {C : List (List Int)} (hC : BdR F C) (i k : Nat) : 0 ≤ enf F E C i k := by
  unfold enf
  have := hC.gg hF i k
  split <;> omega
theorem enV_bd {F : Int} (hF : 0 ≤ F) (n : Nat) {E : List Int} {C : List (List Int)} (hC : BdR F C) : Bd F (enV F n E C) := fun x hx => by
  simp only [enV, List.mem_map] at hx
  obtain ⟨k, _, rfl⟩ := hx
  exact mins_bd hF (fun i => enf_nn hF hC k i) _
set_option maxRecDepth 100000 in
set_option maxHeartbeats 4000000 in
theorem sEnds_any (gm : Nat) (S T : Int) (L : List A4) (P E : List Int) (gt n ct : Nat) (C : List (List Int)) (w : World) (h : Mp w gm S T L P E) (hC : TabR w gt n C) (hS : S = (n : Int)) (hE : E.length = n) (hEb : ∀ x ∈ E, x ≤ 1000) (hCb : BdR 1000000000 C) (hn : n ≤ 1000000) :
    Calls Try.prog 50 #[.pointer (some ⟨gm, 0, none⟩), .slice (some ⟨gt, 0, none⟩) n ct] w fun e w' => ∃ A' c', e = .returned (.slice A' n c') ∧ RowI w' w.heap.size 2 (.slice A' n c') (enV 1000000000 n E C) ∧ Below w.heap.size w w' := by
  obtain ⟨A2, c2, A3, c3, A4', c4, hr, h2, h3, h4⟩ := h
  subst hS
  rw [hE] at h4 hr
  have HM := Lib.hid hr; have H4 := Lib.hid h4; have HC := Lib.hid hC
  have HBR : Hid (∀ i k, 0 ≤ gg C i k ∧ gg C i k ≤ 1000000000) := fun i k => hCb.gg (by omega) i k
  have HNN : Hid (∀ i k, 0 ≤ enf 1000000000 E C i k) := fun i k => enf_nn (by omega) hCb i k
  have HTL : Hid (∀ k, k < n → (enV 1000000000 n E C).take (k + 1) = (enV 1000000000 n E C).take k ++ [mins 1000000000 (enf 1000000000 E C k) n]) := by
    intro k hk
    unfold enV
    rw [map_range_take _ _ _ hk]
  have HLM : Hid ((enV 1000000000 n E C).length = n) := enV_len _ _ _ _
  clear hr h2 h3 h4 hC hE
  go_enter Try.func50, Try.ntmps50
  go_wp2_with fail
  go_loopg [5, 6, 7, 8] n (fun q o i u7 u8 wr => ∃ (k : Nat) (A' : Option Addr) (c' : Nat), i = .int .i64 k ∧ k ≤ n ∧ n ≤ q + k ∧ o = .slice A' k c' ∧ Hid (RowI wr w.heap.size 2 (.slice A' k c') ((enV 1000000000 n E C).take k)) ∧ Hid (Below w.heap.size w wr))
  case atStart => exact ⟨0, _, _, rfl, by omega, by omega, rfl, RowI.made _ _ _ (Nat.le_refl _), (Below.refl _ _).alloc (Nat.le_refl _) _⟩
  case round =>
    obtain ⟨k, A', c', rfl, hk, hm, rfl, HO, HB⟩ := hrel
    obtain ⟨wo, rfl⟩ : ∃ x : World, x = wr := ⟨_, rfl⟩
    have rr := HM.out.below HB.out HM.out.lt
    have r0 := rr.cell 0
    clear rr
    by_cases hlt : k < n
    · have q1 : (k : Int) < (n : Int) := by omega
      go_wp2_with fail
      clear r0
      obtain ⟨go, hgo⟩ : ∃ x : Nat, x = gk := ⟨_, rfl⟩
      go_loopg [7, 8] n (fun q s i wr => ∃ j : Nat, i = .int .i64 j ∧ j ≤ n ∧ n ≤ q + j ∧ s = .int .i64 (mins 1000000000 (enf 1000000000 E C k) j) ∧ Hid (∃ d, wr = wo.drewN d))
      case atStart => exact ⟨0, rfl, by omega, by omega, rfl, ⟨0, rfl⟩⟩
      case round =>
        obtain ⟨j, rfl, hj, hm2, rfl, HD⟩ := hrel
        obtain ⟨wi, rfl⟩ : ∃ x : World, x = wr := ⟨_, rfl⟩
        have hbi : Hid (Below w.heap.size w wi) := by obtain ⟨d, hd⟩ := HD.out; show Below _ _ _; rw [hd]; exact below_draws HB.out d
        have rr := HM.out.below hbi.out HM.out.lt
        have r0 := rr.cell 0; have r4 := rr.cell 4
        clear rr
        have hsb := mins_bd (F := 1000000000) (f := enf 1000000000 E C k) (by omega) (fun i => HNN.out k i) j
        by_cases hlt2 : j < n
        · have q2 : (j : Int) < (n : Int) := by omega
          obtain ⟨b1, off1, x, rfl, _, hx, cx⟩ := (H4.out.below hbi.out (Nat.le_refl _)).at_ hlt2
          obtain ⟨g, cc, k1, k2⟩ := (HC.out.below hbi.out (Nat.le_refl _)).at_ hlt hlt2
          have bx := hEb x (List.mem_of_getElem? hx.out)
          obtain ⟨by0, by1⟩ := HBR.out k j
          obtain ⟨y, hy⟩ : ∃ y, y = gg C k j := ⟨_, rfl⟩
          obtain ⟨s, hs0⟩ : ∃ s, s = mins 1000000000 (enf 1000000000 E C k) j := ⟨_, rfl⟩
          have HST : Hid (mins 1000000000 (enf 1000000000 E C k) (j + 1) = min s (if 0 ≤ x then y + x else 1000000000)) := by
            show Min.min (mins 1000000000 (enf 1000000000 E C k) j) (enf 1000000000 E C k j) = _
            rw [← hs0, enf, g0_get hx.out, ← hy]
          rw [← hy] at k2 by0 by1
          rw [← hs0] at hsb ⊢
          obtain ⟨s0, s1⟩ := hsb
          by_cases hx0 : 0 ≤ x
          · have e1 : IntKind.i64.wrap (y + x) = y + x := IntWalk.i64_in _ (by omega)
            have hMC := sMinC s (y + x)
            clear hs0 hx hy
            go_wp2_with fail
            go_quiet ((go_at_call 69; first | exact quietL (hMC _) | (rw [e1]; exact quietL (hMC _))))
            go_wp2_with fail
            go_roundg (gk - 1)
            case measure => omega
            case rel => exact ⟨j + 1, by go_num, by omega, by omega, by rw [HST.out, if_pos hx0], by obtain ⟨d, hd⟩ := HD.out; rw [hd]; exact ⟨_, World.drewN_drewN _ _ _⟩⟩
          · have q3 : x < 0 := by omega
            have HST2 : Hid (mins 1000000000 (enf 1000000000 E C k) (j + 1) = s) := by show _ = _; rw [HST.out, if_neg hx0]; omega
            clear hs0 hx hy hx0 HST
            go_wp2_with fail
            go_roundg (gk - 1)
            case measure => omega
            case rel => exact ⟨j + 1, by go_num, by omega, by omega, by rw [HST2.out], HD.out⟩
        · have hjj : j = n := by omega
          have HJ := Lib.hid hjj
          have q2 : (n : Int) ≤ (j : Int) := by omega
          have hs := hbi.out.size
          have HOi : Hid (RowI wi w.heap.size 2 (.slice A' k c') ((enV 1000000000 n E C).take k)) := by obtain ⟨d, hd⟩ := HD.out; show RowI _ _ _ _ _; rw [hd]; exact HO.out.drewN d
          have hlk : Hid (((enV 1000000000 n E C).take k).length = k) := by show _ = _; rw [List.length_take, HLM.out]; omega
          have hlen : Hid (((enV 1000000000 n E C).take k).length + 1 ≤ 4294967296) := by show _ ≤ _; rw [hlk.out]; omega
          obtain ⟨s, hs0⟩ : ∃ s, s = mins 1000000000 (enf 1000000000 E C k) j := ⟨_, rfl⟩
          have HST : Hid ((enV 1000000000 n E C).take (k + 1) = (enV 1000000000 n E C).take k ++ [s]) := by show _ = _; rw [HTL.out k hlt, hs0, HJ.out]
          rw [← hs0] at hsb ⊢
          clear hs0 hjj hlt2 r4
          go_wp2_with (first | (at_builtin; refine wpList_int_push _ rfl (.tmp 51) (.tmp 53) _ rfl w.heap.size 2 Try.underlying26 infoQ _ ((enV 1000000000 n E C).take k) rfl HOi.out _ rfl hlen.out hs ?_; intro g' cap w' hown hbl hat hgr; clear hat hgr; have HOW := Lib.hid hown; have HBL := Lib.hid hbl; clear hown hbl))
          go_roundg (go - 1)
          case measure => omega
          case rel =>
            refine ⟨k + 1, some ⟨g', 0, none⟩, cap, by go_num, by omega, by omega, by first | rw [hlk.out] | rw [HLM.out, Nat.min_eq_left (by omega)], ?_, hbi.out.trans HBL.out⟩
            show RowI _ _ _ _ _
            rw [HST.out]
            have := HOW.out
            rw [hlk.out] at this
            exact this
    · have hkk : k = n := by omega
      have HK := Lib.hid hkk
      have q1 : (n : Int) ≤ (k : Int) := by omega
      clear hkk hlt
      go_wp2_with fail
      go_ret
      have e := HO.out
      rw [HK.out] at e
      have e2 : (enV 1000000000 n E C).take n = enV 1000000000 n E C := List.take_of_length_le (by rw [HLM.out]; exact Nat.le_refl _)
      rw [e2] at e
      exact ⟨A', c', by rw [HK.out]; rfl, e, HB.out⟩
/-- The steps of a letter. -/
def spV (F : Int) (L : List A4) (l : Int) (C : List (List Int)) : List (List Int) := C.map fun r => stpT F L l r L.length
theorem spV_at {F : Int} {L : List A4} {l : Int} {C : List (List Int)} {i : Nat} {r : List Int} (h : C[i]? = some r) : (spV F L l C).take (i + 1) = (spV F L l C).take i ++ [stpT F L l r L.length] := by
  obtain ⟨hi, rfl⟩ := List.getElem?_eq_some_iff.1 h
  unfold spV
  rw [List.take_succ_eq_append_getElem (by simpa using hi)]
  simp
theorem spV_len (F : Int) (L : List A4) (l : Int) (C : List (List Int)) : (spV F L l C).length = C.length := by simp [spV]
theorem spV_rows {F : Int} {L : List A4} {l : Int} {C : List (List Int)} {n : Nat} (h : ∀ r ∈ C, r.length = n) : ∀ r ∈ spV F L l C, r.length = n := fun r hr => by
  simp only [spV, List.mem_map] at hr
  obtain ⟨x, hx, rfl⟩ := hr
  rw [stpT_len]; exact h x hx
theorem spV_bd {F : Int} (hF : 0 ≤ F) {L : List A4} {l : Int} {C : List (List Int)} (hC : BdR F C) (hL : ∀ a ∈ L, 0 ≤ a.2.2.2) : BdR F (spV F L l C) := fun r hr => by
  simp only [spV, List.mem_map] at hr
  obtain ⟨x, hx, rfl⟩ := hr
  exact Bd.stpT (hC x hx) hF hL _
theorem infoR : (Try.prog.info? 26).map (fun i => (i.zero, i.size, i.bytes)) = some (some (.slice none 0 0), 1, 24) := by kernel_rfl
end Go.Proofs.Ytedbngnkkfpbeaa
