/- l02Reached of the reference. -/
import Derived.Test.YtegponioggpkcaaTmB
namespace Go.Proofs.Ytegponioggpkcaa
open Go.RowKit
set_option linter.unusedVariables false
theorem bvo_at {o : List Bool} {k : Nat} (hk : k < o.length) : (bv o)[k]? = some (.bool (o.getD k false)) := by
  rw [bv, List.getElem?_map, List.getD_eq_getElem?_getD, List.getElem?_eq_getElem hk]; rfl
theorem bvo_set {o : List Bool} {k : Nat} {x : Bool} : bv (o.set k x) = (bv o).set k (.bool x) := by unfold bv; rw [List.map_set]
set_option maxRecDepth 100000 in
set_option maxHeartbeats 8000000 in
theorem sReached_any (gm S : Nat) (T : Int) (L : List A4) (P E : List Int) (A2 A3 A4 : Option Addr) (c2 c3 c4 : Nat) (AF : Option Addr) (nF cF : Nat) (F : List Int) (back : Bool) (w : World) (hnF : nF = S)
    (hr : Row w gm 28 [.int .i64 (S : Int), .int .i64 T, .slice A2 L.length c2, .slice A3 P.length c3, .slice A4 E.length c4]) (h2 : SlA w w.heap.size A2 L.length L) (hF : SlI w w.heap.size AF nF F) (hS1 : 1 ≤ S) (hS : S ≤ 16) (hL : L.length ≤ 128) (hA : ∀ a ∈ L, (0 ≤ a.1 ∧ a.1 < S) ∧ (0 ≤ a.2.1 ∧ a.2.1 < S)) :
    Calls Try.prog 74 #[.pointer (some ⟨gm, 0, none⟩), .slice AF nF cF, .bool back] w fun e w' => ∃ g c, e = .returned (.slice (some ⟨g, 0, none⟩) S c) ∧ World.ownsRow w' w.heap.size 4 1 (.slice (some ⟨g, 0, none⟩) S c) S (bv (rc back L F)) ∧ Below w.heap.size w w' := by
  rw [hnF] at hF ⊢
  have hfl := hF.len
  have ro : World.ownsRow (w.alloc (.cells #[] 4)) w.heap.size 4 1 (.slice (some ⟨w.heap.size, 0, none⟩) 0 0) 0 (bv []) := World.ownsRow_made w #[] 0 (Nat.le_refl _) (by unfold maxLen; omega) rfl
  have bx : Below w.heap.size w (w.alloc (.cells #[] 4)) := (Below.refl _ _).alloc (Nat.le_refl _) _
  have RM := Lib.hid hr; have RO := Lib.hid ro; have BX := Lib.hid bx; have H2 := Lib.hid h2; have HF := Lib.hid hF; have HA := Lib.hid hA; have HFL := Lib.hid hfl
  clear hr ro bx h2 hF hA hfl
  have hrc0 : (rc0 F).length = S := by unfold rc0; rw [List.length_map]; exact HFL.out
  have HRC := Lib.hid hrc0; clear hrc0
  go_enter Try.func74, Try.ntmps74
  go_wp2_with fail
  go_loopg [7, 8] S (fun q v i wr => ∃ (k : Nat) (A : Option Addr) (c : Nat), i = .int .i64 (k : Int) ∧ k ≤ S ∧ S ≤ q + k ∧ v = .slice A k c ∧ Hid (World.ownsRow wr w.heap.size 4 1 (.slice A k c) k (bv ((rc0 F).take k))) ∧ Hid (Below w.heap.size w wr))
  case atStart => exact ⟨0, _, _, by go_num, by omega, by omega, rfl, RO.out, BX.out⟩
  case round =>
    clear RO BX
    obtain ⟨k, A, c, rfl, hk, hm, rfl, RO, HB⟩ := hrel
    obtain ⟨wo, rfl⟩ : ∃ x : World, x = wr := ⟨_, rfl⟩
    by_cases hlt : k < S
    · obtain ⟨b, off, x, rfl, hbB, hx, hc⟩ := (HF.out.below HB.out (Nat.le_refl _)).at_ hlt
      have hxr : (rc0 F)[k]? = some (decide (0 ≤ x)) := by unfold rc0; rw [List.getElem?_map, hx.out]; rfl
      have HBT := Lib.hid (bv_take hxr)
      have l0 : (0 : Int) ≤ (k : Int) := by omega
      have l1 : (k : Int) < (S : Int) := by omega
      have hsz := HB.out.size
      clear hxr
      go_wp2_with (first | (at_builtin; refine wpList_push wo rfl (.tmp 21) (.tmp 27) _ rfl w.heap.size 4 (.bool false) 1 Try.underlying88 infoBool rfl (.slice A k c) k (bv ((rc0 F).take k)) rfl RO.out (.bool (decide (0 ≤ x))) rfl rfl (by omega) (by omega) hsz ?_; intro g' cap w' hown hgr hat hlt' hcap; have HGw := Lib.hid (grown_below' RO.out hgr hsz); have HOW := Lib.hid hown; clear hgr hown hat hlt' hcap))
      go_roundg (gk - 1)
      case measure => omega
      case rel => exact ⟨k + 1, _, _, by go_num, by omega, by omega, rfl, by show World.ownsRow _ _ _ _ _ _ _; rw [HBT.out]; exact HOW.out, HB.out.trans HGw.out⟩
    · have hkS : S = k := by omega
      subst hkS
      obtain ⟨g, c', hv, hgb, hgl⟩ := World.ownsRow.form RO.out (by omega)
      injection hv with e1 _ e3
      subst e1 e3
      have RO0 : Hid (World.ownsRow wo w.heap.size 4 1 (.slice (some ⟨g, 0, none⟩) S c) S (bv (rc0 F))) := by
        have := RO.out
        rw [take_all HRC.out] at this
        exact this
      have HB0 := HB
      have HGB := Lib.hid hgb
      clear RO HB hlt hk hm hgb hgl
      go_wp2_with fail
      go_loopg [9, 10, 11, 12, 13] S (fun q i u10 u11 u12 u13 wr => ∃ n : Nat, i = .int .i64 (n : Int) ∧ n ≤ S ∧ S ≤ q + n ∧ Hid (World.ownsRow wr w.heap.size 4 1 (.slice (some ⟨g, 0, none⟩) S c) S (bv (rcN back L (rc0 F) n))) ∧ Hid (Below w.heap.size w wr))
      case atStart => exact ⟨0, by go_num, by omega, by omega, RO0.out, HB0.out⟩
      case round =>
        clear RO0 HB0
        obtain ⟨n, rfl, hn, hm, RO, HB⟩ := hrel
        obtain ⟨wo, rfl⟩ : ∃ x : World, x = wr := ⟨_, rfl⟩
        obtain ⟨gz, hgz⟩ : ∃ x : Nat, x = gk := ⟨_, rfl⟩
        have b0 := (RM.out.below HB.out RM.out.lt).cell 0
        by_cases hlt : n < S
        · have l1 : (n : Int) < (S : Int) := by omega
          go_wp2_with fail
          clear b0
          go_loopg [10, 11, 12, 13] L.length (fun q i u11 u12 u13 wr => ∃ (j : Nat) (O : List Bool), i = .int .i64 (j : Int) ∧ j ≤ L.length ∧ L.length ≤ q + j ∧ Hid (O = rcL back L (rcN back L (rc0 F) n) j) ∧ Hid (World.ownsRow wr w.heap.size 4 1 (.slice (some ⟨g, 0, none⟩) S c) S (bv O)) ∧ Hid (Below w.heap.size w wr))
          case atStart => exact ⟨0, _, by go_num, by omega, by omega, rfl, RO.out, HB.out⟩
          case round =>
            clear RO HB
            obtain ⟨j, O, rfl, hj, hm2, HOE, RO, HB⟩ := hrel
            obtain ⟨wo, rfl⟩ : ∃ x : World, x = wr := ⟨_, rfl⟩
            have HOL : Hid (O.length = S) := by show _ = _; rw [HOE.out, rcL_len, rcN_len]; exact HRC.out
            have b2 := (RM.out.below HB.out RM.out.lt).cell 2
            by_cases hlt2 : j < L.length
            · obtain ⟨b, off, a0, a1, a2, a3, rfl, hbB, hx, k0, k1, k2, k3⟩ := (H2.out.below HB.out (Nat.le_refl _)).at_ hlt2
              have HX := hx
              have hrange := HA.out _ (List.mem_of_getElem? hx.out)
              simp only at hrange
              obtain ⟨⟨p1, p2⟩, p3, p4⟩ := hrange
              obtain ⟨fn, hfn⟩ : ∃ f : Nat, a0 = (f : Int) := ⟨a0.toNat, by omega⟩
              obtain ⟨tn, htn⟩ : ∃ f : Nat, a1 = (f : Int) := ⟨a1.toNat, by omega⟩
              subst hfn htn
              have q1 : (0 : Int) ≤ (fn : Int) := by omega
              have q2 : (fn : Int) < (S : Int) := by omega
              have q3 : (0 : Int) ≤ (tn : Int) := by omega
              have q4 : (tn : Int) < (S : Int) := by omega
              have l2 : (0 : Int) ≤ (j : Int) := by omega
              have l3 : (j : Int) < (L.length : Int) := by omega
              clear p1 p2 p3 p4
              cases back with
              | false =>
                obtain ⟨kt, kz⟩ := ow_cell RO.out (bvo_at (o := O) (k := tn) (by rw [HOL.out]; omega))
                obtain ⟨kf, -⟩ := ow_cell RO.out (bvo_at (o := O) (k := fn) (by rw [HOL.out]; omega))
                obtain ⟨x1, hx1⟩ : ∃ x, x = O.getD tn false := ⟨_, rfl⟩
                obtain ⟨x2, hx2⟩ : ∃ x, x = O.getD fn false := ⟨_, rfl⟩
                rw [← hx1] at kt
                rw [← hx2] at kf
                cases x1 with
                | false =>
                  have HST : Hid (rcA false O ((fn : Int), (tn : Int), a2, a3) = O.set tn x2) := by
                    show O.set (Int.toNat (tn : Int)) (O.getD (Int.toNat (tn : Int)) false || O.getD (Int.toNat (fn : Int)) false) = _
                    rw [Int.toNat_natCast, Int.toNat_natCast, ← hx1, ← hx2]; rfl
                  clear hx1 hx2
                  go_wp2_with fail
                  go_roundg (gk - 1)
                  case measure => omega
                  case rel =>
                    refine ⟨j + 1, O.set tn x2, by go_num, by omega, by omega, ?_, ?_, HB.out.setCell (p := ⟨g, tn, none⟩) HGB.out _⟩
                    · show _ = _
                      rw [rcL_step HX.out, ← HOE.out, HST.out]
                    · show World.ownsRow _ _ _ _ _ _ _
                      rw [bvo_set]; exact ow_set RO.out (by rw [bv_length, HOL.out]; omega)
                | true =>
                  have HST : Hid (rcA false O ((fn : Int), (tn : Int), a2, a3) = O.set tn true) := by
                    show O.set (Int.toNat (tn : Int)) (O.getD (Int.toNat (tn : Int)) false || O.getD (Int.toNat (fn : Int)) false) = _
                    rw [Int.toNat_natCast, Int.toNat_natCast, ← hx1, ← hx2]; rfl
                  clear hx1 hx2
                  go_wp2_with fail
                  go_roundg (gk - 1)
                  case measure => omega
                  case rel =>
                    refine ⟨j + 1, O.set tn true, by go_num, by omega, by omega, ?_, ?_, HB.out.setCell (p := ⟨g, tn, none⟩) HGB.out _⟩
                    · show _ = _
                      rw [rcL_step HX.out, ← HOE.out, HST.out]
                    · show World.ownsRow _ _ _ _ _ _ _
                      rw [bvo_set]; exact ow_set RO.out (by rw [bv_length, HOL.out]; omega)
              | true =>
                obtain ⟨kt, kz⟩ := ow_cell RO.out (bvo_at (o := O) (k := fn) (by rw [HOL.out]; omega))
                obtain ⟨kf, -⟩ := ow_cell RO.out (bvo_at (o := O) (k := tn) (by rw [HOL.out]; omega))
                obtain ⟨x1, hx1⟩ : ∃ x, x = O.getD fn false := ⟨_, rfl⟩
                obtain ⟨x2, hx2⟩ : ∃ x, x = O.getD tn false := ⟨_, rfl⟩
                rw [← hx1] at kt
                rw [← hx2] at kf
                cases x1 with
                | false =>
                  have HST : Hid (rcA true O ((fn : Int), (tn : Int), a2, a3) = O.set fn x2) := by
                    show O.set (Int.toNat (fn : Int)) (O.getD (Int.toNat (fn : Int)) false || O.getD (Int.toNat (tn : Int)) false) = _
                    rw [Int.toNat_natCast, Int.toNat_natCast, ← hx1, ← hx2]; rfl
                  clear hx1 hx2
                  go_wp2_with fail
                  go_roundg (gk - 1)
                  case measure => omega
                  case rel =>
                    refine ⟨j + 1, O.set fn x2, by go_num, by omega, by omega, ?_, ?_, HB.out.setCell (p := ⟨g, fn, none⟩) HGB.out _⟩
                    · show _ = _
                      rw [rcL_step HX.out, ← HOE.out, HST.out]
                    · show World.ownsRow _ _ _ _ _ _ _
                      rw [bvo_set]; exact ow_set RO.out (by rw [bv_length, HOL.out]; omega)
                | true =>
                  have HST : Hid (rcA true O ((fn : Int), (tn : Int), a2, a3) = O.set fn true) := by
                    show O.set (Int.toNat (fn : Int)) (O.getD (Int.toNat (fn : Int)) false || O.getD (Int.toNat (tn : Int)) false) = _
                    rw [Int.toNat_natCast, Int.toNat_natCast, ← hx1, ← hx2]; rfl
                  clear hx1 hx2
                  go_wp2_with fail
                  go_roundg (gk - 1)
                  case measure => omega
                  case rel =>
                    refine ⟨j + 1, O.set fn true, by go_num, by omega, by omega, ?_, ?_, HB.out.setCell (p := ⟨g, fn, none⟩) HGB.out _⟩
                    · show _ = _
                      rw [rcL_step HX.out, ← HOE.out, HST.out]
                    · show World.ownsRow _ _ _ _ _ _ _
                      rw [bvo_set]; exact ow_set RO.out (by rw [bv_length, HOL.out]; omega)
            · have hjL : j = L.length := by omega
              have n1 : ¬ (j : Int) < (L.length : Int) := by omega
              have HON : Hid (O = rcN back L (rc0 F) (n + 1)) := by show _ = _; rw [HOE.out, hjL]; rfl
              clear hlt2 hjL
              go_wp2_with fail
              go_roundg (gz - 1)
              case measure => omega
              case rel => exact ⟨n + 1, by go_num, by omega, by omega, by show World.ownsRow _ _ _ _ _ _ _; rw [← HON.out]; exact RO.out, HB.out⟩
        · have hnS : n = S := by omega
          have n1 : ¬ (n : Int) < (S : Int) := by omega
          have HON : Hid (rcN back L (rc0 F) n = rc back L F) := by show _ = rcN back L (rc0 F) F.length; rw [HFL.out, hnS]
          clear hlt hnS
          go_wp2_with fail
          go_ret
          exact ⟨_, _, rfl, by rw [← HON.out]; exact RO.out, HB.out⟩
end Go.Proofs.Ytegponioggpkcaa
