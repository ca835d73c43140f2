/- PlacesOf of both programs. -/
import Derived.Test.YtcmnhnapnnpbdaaPlP
import Derived.Test.YtcmnhnapnnpbdaaWf
import Derived.Deep.Onto
namespace Go.Proofs.Ytcmnhnapnnpbdaa
open Go.RowKit
set_option linter.unusedVariables false
def plB (L F G R ws : List Int) (l : Int) : Bool := vcB L F G R l && longB ws l
def plK (L F R ws : List Int) (k : Nat) : List Nat := (List.range k).filter fun j => fitB L F R ws ((j : Nat) : Int)
def plL (L F R ws : List Int) : List Int := fx (plK L F R ws ws.length)
theorem plK_len (L F R ws : List Int) (k : Nat) : (plK L F R ws k).length ≤ k := by
  unfold plK
  have := List.length_filter_le (fun j => fitB L F R ws ((j : Nat) : Int)) (List.range k)
  simpa using this
theorem plL_len {L F R ws : List Int} (h : ws.length ≤ 1048576) : (plL L F R ws).length ≤ 1048576 := by
  rw [plL, fx_len]; exact Nat.le_trans (plK_len _ _ _ _ _) h
theorem plK_yes {L F R ws : List Int} {k : Nat} (h : fitB L F R ws (k : Int) = true) : fx (plK L F R ws (k + 1)) = fx (plK L F R ws k) ++ [(k : Int)] := by
  simp [plK, fx, List.range_succ, List.filter_append, h]
theorem plK_no {L F R ws : List Int} {k : Nat} (h : fitB L F R ws (k : Int) = false) : fx (plK L F R ws (k + 1)) = fx (plK L F R ws k) := by
  simp [plK, fx, List.range_succ, List.filter_append, h]
theorem vc_lens {L F G R : List Int} {l : Int} (h : vcB L F G R l = true) : L.length ≤ 4 ∧ 1 ≤ F.length ∧ F.length ≤ 4 ∧ G.length ≤ 4 ∧ R.length ≤ 4 := by
  unfold vcB at h
  simp only [Bool.and_eq_true, decide_eq_true_iff] at h
  exact ⟨h.1, h.2.1, h.2.2.1, h.2.2.2.1, h.2.2.2.2.1⟩
theorem long24 {ws : List Int} {l : Int} (h : longB ws l = true) : ws.length ≤ 24 := by
  unfold longB at h
  rw [Bool.and_eq_true, Bool.and_eq_true] at h
  exact of_decide_eq_true h.1.2
set_option maxHeartbeats 2000000 in
theorem sPlacesL_any (g b off n c : Nat) (L F G R ws : List Int) (w : World) (h : CgP w g L F G R) (hw : SlI w w.heap.size (some ⟨b, off, none⟩) n ws) (hL : L.length ≤ 4) (hF : F.length ≤ 4) (hR : R.length ≤ 4) (hn : n ≤ 24) (hnc : n ≤ c) :
    Calls Try.prog 86 #[.pointer (some ⟨g, 0, none⟩), .slice (some ⟨b, off, none⟩) n c] w fun e w' => ∃ v, e = .returned v ∧ RowI w' w.heap.size 2 v (plL L F R ws) ∧ Below w.heap.size w w' := by
  have hl := Lib.hid hw.len
  have H := Lib.hid h; have HW := Lib.hid hw; clear h hw
  go_enter Try.func86, Try.ntmps86
  go_wp2_with fail
  go_loopg [5, 10] n (fun m o i wr => ∃ k : Nat, i = .int .i64 k ∧ k ≤ n ∧ n ≤ m + k ∧ RowI wr w.heap.size 2 o (fx (plK L F R ws k)) ∧ Below w.heap.size w wr)
  case atStart => exact ⟨0, rfl, by omega, by omega, RowI.made _ _ _ (Nat.le_refl _), (Below.refl _ _).alloc (Nat.le_refl _) _⟩
  case round =>
    obtain ⟨k, rfl, hk, hm, hr, hb⟩ := hrel
    have HR := Lib.hid hr; clear hr
    have hs := hb.size
    by_cases hlt : k < n
    · have l1 : (0 : Int) ≤ (k : Int) := by omega
      have hC := sFits_any g b off n c L F G R ws k _ (H.out.below hb) ((HW.out.below hb (Nat.le_refl _)).more hb.size) hL hF hR hn hnc (by omega)
      have hlen : Hid ((fx (plK L F R ws k)).length ≤ 24) := by show _ ≤ 24; rw [fx_len]; have := plK_len L F R ws k; omega
      cases hf : fitB L F R ws (k : Int) with
      | true =>
        have HN := Lib.hid (plK_yes hf)
        rw [hf] at hC
        go_wp2_with (first | (go_at_call 92; refine hC.mono ?_; rintro e w2 ⟨rfl, hb2⟩; clear hC; have HR2 := Lib.hid (HR.out.keep hb2 (Nat.le_refl _)); have hs2 : w.heap.size ≤ w2.heap.size := Nat.le_trans hs hb2.size) | (at_builtin; refine wpList_int_push _ rfl (.tmp 17) (.tmp 19) _ rfl w.heap.size 2 Try.underlying22 infoF _ (fx (plK L F R ws k)) rfl HR2.out _ rfl (by have := hlen.out; omega) hs2 ?_; intro g' cap w' hown hbl hat hgr; clear hat hgr))
        go_roundg (gk - 1)
        case measure => omega
        case rel => exact ⟨k + 1, by go_num, by omega, by omega, by rw [HN.out]; exact hown, (hb.trans (hb2.mono hs)).trans hbl⟩
      | false =>
        have HN := Lib.hid (plK_no hf)
        rw [hf] at hC
        go_wp2_with (first | (go_at_call 92; refine hC.mono ?_; rintro e w2 ⟨rfl, hb2⟩; clear hC; have HR2 := Lib.hid (HR.out.keep hb2 (Nat.le_refl _))))
        go_roundg (gk - 1)
        case measure => omega
        case rel => exact ⟨k + 1, by go_num, by omega, by omega, by rw [HN.out]; exact HR2.out, hb.trans (hb2.mono hs)⟩
    · obtain rfl : n = k := by omega
      have HE : Hid (plL L F R ws = fx (plK L F R ws n)) := by show _ = _; rw [plL, hl.out]
      go_wp2_with fail
      go_ret
      exact ⟨_, rfl, by rw [HE.out]; exact HR.out, hb⟩
set_option maxHeartbeats 2000000 in
theorem sPlaces_any (v : Value) (b off n c : Nat) (L F G R ws : List Int) (l : Int) (w : World) (h : Cg w w.heap.size v L F G R) (hw : SlI w w.heap.size (some ⟨b, off, none⟩) n ws) (hL : L.length ≤ 4294967296) (hF : F.length ≤ 4294967296) (hG : G.length ≤ 4294967296) (hR : R.length ≤ 4294967296) (hn : n ≤ 4294967296) (hnc : n ≤ c) :
    Calls Try.prog 47 #[v, .slice (some ⟨b, off, none⟩) n c, .int .i64 l] w fun e w' => ∃ v, e = .returned (.tuple #[v, .bool (plB L F G R ws l)]) ∧ FOut w' w.heap.size v (plB L F G R ws l) (plL L F R ws) ∧ Below w.heap.size w w' := by
  have hP := h.boxed
  obtain ⟨A0, n0, c0, A1, n1, c1, A2, n2, c2, A3, n3, c3, rfl, h0, h1, h2, h3⟩ := h
  clear h0 h1 h2 h3
  obtain ⟨vs, hv, hP⟩ := hP
  injection hv with hv
  rw [← hv] at hP
  have hdef : plB L F G R ws l = (vcB L F G R l && longB ws l) := rfl
  have hl := Lib.hid hw.len
  have hbx : Below w.heap.size w (w.alloc (.cells #[.slice A0 n0 c0, .slice A1 n1 c1, .slice A2 n2 c2, .slice A3 n3 c3] 27)) := (Below.refl _ _).alloc (Nat.le_refl _) _
  have hC := sIs_any w.heap.size L F G R l _ hP hL hF hG hR
  have hwx := (hw.below hbx (Nat.le_refl _)).more hbx.size
  have hG2 := sLong_any (some ⟨b, off, none⟩) n c ws l _ _ hwx hn
  have HP := Lib.hid hP; have HWX := Lib.hid hwx; have HBX := Lib.hid hbx
  clear hP hv hw hwx hbx hL hF hG hR hn
  cases h1 : vcB L F G R l with
  | false =>
    rw [h1] at hC hdef
    have HD := Lib.hid hdef
    clear hdef
    go_enter Try.func47, Try.ntmps47
    go_wp2_with fail
    refine hC.mono ?_; rintro e w' ⟨rfl, hw⟩; subst hw
    go_wp2_with fail
    go_ret2
    exact ⟨_, by rw [HD.out]; rfl, by rw [FOut, HD.out]; rfl, HBX.out⟩
  | true =>
    have h4 := vc_lens h1
    rw [h1] at hC hdef
    cases h2 : longB ws l with
    | false =>
      rw [h2] at hG2 hdef
      have HD := Lib.hid hdef
      clear hdef
      go_enter Try.func47, Try.ntmps47
      go_wp2_with fail
      refine hC.mono ?_; rintro e w' ⟨rfl, hw⟩; subst hw
      go_wp2_with fail
      refine hG2.mono ?_; rintro e w' ⟨rfl, hw⟩; subst hw
      go_wp2_with fail
      go_ret2
      exact ⟨_, by rw [HD.out]; rfl, by rw [FOut, HD.out]; rfl, HBX.out⟩
    | true =>
      have h24 := long24 h2
      rw [hl.out] at h24
      rw [h2] at hG2 hdef
      have HD := Lib.hid hdef
      have hS := sPlacesL_any w.heap.size b off n c L F G R ws _ HP.out HWX.out h4.1 h4.2.2.1 h4.2.2.2.2 h24 hnc
      clear hdef h4
      go_enter Try.func47, Try.ntmps47
      go_wp2_with fail
      refine hC.mono ?_; rintro e w' ⟨rfl, hw⟩; subst hw
      go_wp2_with fail
      refine hG2.mono ?_; rintro e w' ⟨rfl, hw⟩; subst hw
      go_wp2_with fail
      refine hS.mono ?_; rintro e w2 ⟨v, rfl, hv, hb2⟩; clear hS
      go_wp2_with fail
      go_ret2
      exact ⟨v, by rw [HD.out]; rfl, by rw [FOut, HD.out]; exact World.ownsRow.mono hv HBX.out.size, HBX.out.trans (hb2.mono HBX.out.size)⟩
set_option maxHeartbeats 2000000 in
theorem iPlaces_any (v : Value) (b off n c : Nat) (L F G R ws : List Int) (l : Int) (w : World) (h : Cg w w.heap.size v L F G R) (hw : SlI w w.heap.size (some ⟨b, off, none⟩) n ws) (hL : L.length ≤ 4294967296) (hF : F.length ≤ 4294967296) (hG : G.length ≤ 4294967296) (hR : R.length ≤ 4294967296) (hn : n ≤ 4294967296) (hnc : n ≤ c) :
    Calls Try.prog 48 #[v, .slice (some ⟨b, off, none⟩) n c, .int .i64 l] w fun e w' => ∃ v, e = .returned (.tuple #[v, .bool (plB L F G R ws l)]) ∧ FOut w' w.heap.size v (plB L F G R ws l) (plL L F R ws) ∧ Below w.heap.size w w' := by
  have HC := Lib.hid h
  obtain ⟨A0, n0, c0, A1, n1, c1, A2, n2, c2, A3, n3, c3, rfl, h0, h1, h2, h3⟩ := h
  clear h0 h1 h2 h3
  have hdef : plB L F G R ws l = (vcB L F G R l && longB ws l) := rfl
  have hl := Lib.hid hw.len
  have hbx : Below w.heap.size w (w.alloc (.cells ([.slice A0 n0 c0, .slice A1 n1 c1, .slice A2 n2 c2, .slice A3 n3 c3] : List Value).toArray 27)) := (Below.refl _ _).alloc (Nat.le_refl _) _
  have rb := Row.new w 27 [.slice A0 n0 c0, .slice A1 n1 c1, .slice A2 n2 c2, .slice A3 n3 c3]
  have hC := iValid_any _ L F G R l _ ((HC.out.below hbx (Nat.le_refl _)).more hbx.size) hL hF hG hR
  have hG2 := fun (x : World) (hx : Below w.heap.size w x) => iIsLong_any (some ⟨b, off, none⟩) n c ws l w.heap.size x (hw.below hx (Nat.le_refl _)) hn
  have HW := Lib.hid hw; have HBX := Lib.hid hbx; have RB := Lib.hid rb
  clear hw hbx rb hL hF hG hR hn
  cases h1 : vcB L F G R l with
  | false =>
    rw [h1] at hC hdef
    have HD := Lib.hid hdef
    clear hdef
    go_enter Try.func48, Try.ntmps48
    go_wp2_with fail
    refine hC.mono ?_; rintro e w1 ⟨rfl, hb1⟩; clear hC
    go_wp2_with fail
    go_ret2
    exact ⟨_, by rw [HD.out]; rfl, by rw [FOut, HD.out]; rfl, HBX.out.trans (hb1.mono HBX.out.size)⟩
  | true =>
    have h4 := vc_lens h1
    rw [h1] at hC hdef
    cases h2 : longB ws l with
    | false =>
      rw [h2] at hG2 hdef
      have HD := Lib.hid hdef
      clear hdef
      go_enter Try.func48, Try.ntmps48
      go_wp2_with fail
      refine hC.mono ?_; rintro e w1 ⟨rfl, hb1⟩; clear hC
      have hx1 := HBX.out.trans (hb1.mono HBX.out.size)
      go_wp2_with fail
      refine (hG2 _ hx1).mono ?_; rintro e w' ⟨rfl, hw⟩; subst hw; clear hG2
      go_wp2_with fail
      go_ret2
      exact ⟨_, by rw [HD.out]; rfl, by rw [FOut, HD.out]; rfl, hx1⟩
    | true =>
      have h24 := long24 h2
      rw [hl.out] at h24
      rw [h2] at hG2 hdef
      have HD := Lib.hid hdef
      obtain ⟨g1, g2, g3, g4, g5⟩ := h4
      clear hdef
      go_enter Try.func48, Try.ntmps48
      go_wp2_with fail
      refine hC.mono ?_; rintro e w1 ⟨rfl, hb1⟩; clear hC
      have hx1 := HBX.out.trans (hb1.mono HBX.out.size)
      have RB1 := Lib.hid (RB.out.below hb1 RB.out.lt)
      go_wp2_with fail
      refine (hG2 _ hx1).mono ?_; rintro e w' ⟨rfl, hw⟩; subst hw; clear hG2
      have HX := Lib.hid hx1; clear hb1 hx1
      go_wp2_with fail
      go_loopg [8, 23] n (fun m o i wr => ∃ k : Nat, i = .int .i64 k ∧ k ≤ n ∧ n ≤ m + k ∧ RowI wr w1.heap.size 2 o (fx (plK L F R ws k)) ∧ Below w1.heap.size w1 wr)
      case atStart => exact ⟨0, rfl, by omega, by omega, RowI.made _ _ _ (Nat.le_refl _), (Below.refl _ _).alloc (Nat.le_refl _) _⟩
      case round =>
        obtain ⟨k, rfl, hk, hm, hr, hb⟩ := hrel
        have HR := Lib.hid hr; clear hr
        have hs := hb.size
        by_cases hlt : k < n
        · have l1 : (0 : Int) ≤ (k : Int) := by omega
          have hx := HX.out.trans (hb.mono HX.out.size)
          have hF := iFits_any _ b off n c L F G R ws k _ ((HC.out.below hx (Nat.le_refl _)).more hx.size) ((HW.out.below hx (Nat.le_refl _)).more hx.size) g1 g3 g5 h24 hnc (by omega)
          have rr := RB1.out.below hb RB1.out.lt
          have k0 := rr.cell 0
          have k1 := rr.cell 1
          have k2 := rr.cell 2
          have k3 := rr.cell 3
          have hlen : Hid ((fx (plK L F R ws k)).length ≤ 24) := by show _ ≤ 24; rw [fx_len]; have := plK_len L F R ws k; omega
          clear hx rr
          cases hf : fitB L F R ws (k : Int) with
          | true =>
            have HN := Lib.hid (plK_yes hf)
            rw [hf] at hF
            go_wp2_with (first | (go_at_call 87; refine hF.mono ?_; rintro e w2 ⟨rfl, hb2⟩; clear hF; have HR2 := Lib.hid (HR.out.keep hb2 (Nat.le_refl _)); have hs2 : w1.heap.size ≤ w2.heap.size := Nat.le_trans hs hb2.size) | (at_builtin; refine wpList_int_push _ rfl (.tmp 30) (.tmp 32) _ rfl w1.heap.size 2 Try.underlying22 infoF _ (fx (plK L F R ws k)) rfl HR2.out _ rfl (by have := hlen.out; omega) hs2 ?_; intro g' cap w' hown hbl hat hgr; clear hat hgr))
            go_roundg (gk - 1)
            case measure => omega
            case rel => exact ⟨k + 1, by go_num, by omega, by omega, by rw [HN.out]; exact hown, (hb.trans (hb2.mono hs)).trans hbl⟩
          | false =>
            have HN := Lib.hid (plK_no hf)
            rw [hf] at hF
            go_wp2_with (first | (go_at_call 87; refine hF.mono ?_; rintro e w2 ⟨rfl, hb2⟩; clear hF; have HR2 := Lib.hid (HR.out.keep hb2 (Nat.le_refl _))))
            go_roundg (gk - 1)
            case measure => omega
            case rel => exact ⟨k + 1, by go_num, by omega, by omega, by rw [HN.out]; exact HR2.out, hb.trans (hb2.mono hs)⟩
        · obtain rfl : n = k := by omega
          have HE : Hid (plL L F R ws = fx (plK L F R ws n)) := by show _ = _; rw [plL, hl.out]
          go_wp2_with fail
          go_ret2
          exact ⟨_, by rw [HD.out]; rfl, by rw [FOut, HD.out, HE.out]; exact World.ownsRow.mono HR.out HX.out.size, HX.out.trans (hb.mono HX.out.size)⟩
end Go.Proofs.Ytcmnhnapnnpbdaa
