/- ReadWords of the reference. -/
import Derived.Test.YtpmklldochpnlaaRwB
import Derived.Test.YtpmklldochpnlaaApP
import Derived.Deep.QuietTactic
import Derived.BigQuiet
namespace Go.Proofs.Ytpmklldochpnlaa
open Go.RowKit
set_option linter.unusedVariables false
/-- What both answer. -/
def rwV (t : ByteArray) : Int × Bool := if Lib.index t.data.toList mk9 = -1 then ((go0 (sm t) : Int), (sm t).isSome) else rwS t (Lib.index t.data.toList mk9).toNat
theorem rwV_no {t : ByteArray} (h : Lib.index t.data.toList mk9 = -1) : rwV t = ((go0 (sm t) : Int), (sm t).isSome) := if_pos h
theorem rwV_at {t : ByteArray} {i : Nat} (h : Lib.index t.data.toList mk9 = (i : Int)) : rwV t = rwS t i := by
  rw [rwV, h, if_neg (by omega), Int.toNat_natCast]
theorem rwH_ext (t : ByteArray) (i : Nat) : rwH t i = t.extract 0 i := by
  apply ba_ext; unfold rwH; simp
theorem rwR_ext (t : ByteArray) (i : Nat) : rwR t i = (t.extract (i + 9) t.size).data.toList := (Lib.extract_to_end t (i + 9)).symm
theorem sm_lt (t : ByteArray) : go0 (sm t) < 1000 := by
  cases h : sm t with
  | none => simp [go0]
  | some m => exact (sm_some h).2
theorem list_cons {R : ByteArray} (h : 0 < R.size) : R.data.toList = b8 R 0 :: (R.extract 1 R.size).data.toList := by
  rw [Lib.extract_to_end]
  have h' : 0 < R.data.toList.length := by rw [Array.length_toList]; exact h
  cases hl : R.data.toList with
  | nil => rw [hl] at h'; simp at h'
  | cons c l =>
    have : R.data.toList[0]? = some (R[0]'h) := Lib.data_getElem? R 0 h
    rw [hl] at this
    have e : c = R[0]'h := by simpa using this
    rw [e, get_b8 R 0 h]; rfl
theorem list_nil {R : ByteArray} (h : R.size = 0) : R.data.toList = [] := by
  apply List.eq_nil_of_length_eq_zero; rw [Array.length_toList]; exact h
theorem bl_list (R : ByteArray) : bl R.data.toList = R := by apply ba_ext; simp [bl]
theorem rwS_nil {t : ByteArray} {i : Nat} (h : (t.extract (i + 9) t.size).size = 0) : rwS t i = ((go0 (sm (t.extract 0 i)) : Int) * 1000, (sm (t.extract 0 i)).isSome && decide (0 < go0 (sm (t.extract 0 i)))) := by
  unfold rwS
  rw [rwR_ext, list_nil h, rwH_ext]
theorem rwS_bad {t : ByteArray} {i : Nat} (h : 0 < (t.extract (i + 9) t.size).size) (hc : b8 (t.extract (i + 9) t.size) 0 ≠ 32) : rwS t i = (0, false) := by
  unfold rwS
  rw [rwR_ext, list_cons h]
  show (if _ then _ else _) = _
  rw [if_pos hc]
theorem rwS_two {t R : ByteArray} {i : Nat} (hR : R = t.extract (i + 9) t.size) (h : 0 < R.size) (hc : b8 R 0 = 32) :
    rwS t i = if (sm (t.extract 0 i)).isNone ∨ (sm (R.extract 1 R.size)).isNone ∨ go0 (sm (t.extract 0 i)) = 0 ∨ go0 (sm (R.extract 1 R.size)) = 0 then (0, false) else ((go0 (sm (t.extract 0 i)) : Int) * 1000 + go0 (sm (R.extract 1 R.size)), true) := by
  unfold rwS
  rw [rwR_ext, ← hR, list_cons h, rwH_ext]
  show (if _ then _ else _) = _
  rw [if_neg (fun e => e hc), bl_list]
theorem rwS_two' {t R : ByteArray} {i G G2 : Nat} {S S2 : Bool} (hR : R = t.extract (i + 9) t.size) (h : 0 < R.size) (hc : b8 R 0 = 32)
    (h1 : go0 (sm (t.extract 0 i)) = G) (h2 : (sm (t.extract 0 i)).isSome = S) (h3 : go0 (sm (R.extract 1 R.size)) = G2) (h4 : (sm (R.extract 1 R.size)).isSome = S2) :
    rwS t i = if (S && S2 && decide (0 < G) && decide (0 < G2)) = true then ((G : Int) * 1000 + (G2 : Int), true) else (0, false) := by
  rw [rwS_two hR h hc, h1, h3, ← Option.not_isSome, ← Option.not_isSome, h2, h4]
  cases S <;> cases S2 <;> rcases Nat.eq_zero_or_pos G with e | e <;> rcases Nat.eq_zero_or_pos G2 with e' | e' <;> simp [e, e', Nat.ne_of_gt, Nat.pos_iff_ne_zero.1]
  all_goals first | omega | (intro q; omega) | (rw [if_neg (by omega)]) | skip
theorem thL : thousand.toList = [32, 116, 104, 111, 117, 115, 97, 110, 100] := by rw [ByteArray.toList_eq]; rfl
theorem ret_two {x : Int} {a : Bool} {p : Int × Bool} (h : p = (x, a)) : Ending.returned (.tuple #[.int .i64 x, .bool a]) = Ending.returned (.tuple #[.int .i64 p.1, .bool p.2]) := by rw [h]
set_option maxRecDepth 100000 in
set_option maxHeartbeats 2000000 in
theorem sReadWords_any (t : ByteArray) (ht : t.size ≤ 1048576) (w : World) :
    Calls Try.prog 33 #[.string t] w fun e w' => e = .returned (.tuple #[.int .i64 (rwV t).1, .bool (rwV t).2]) ∧ Below w.heap.size w w' := by
  have htm : t.size ≤ maxLen := by unfold maxLen; omega
  have e9 : thousand.size = 9 := rfl
  obtain ⟨V, hV⟩ : ∃ V, V = rwV t := ⟨_, rfl⟩
  rw [← hV]
  have HV := Lib.hid hV; clear hV
  go_enter Try.func33, Try.ntmps33
  go_wp2_with fail
  go_loopg [5] t.size (fun m q wr => ∃ i : Nat, q = .int .i64 i ∧ i ≤ t.size ∧ t.size ≤ m + i ∧ Hid (Lib.NoOccB t thousand i) ∧ Below w.heap.size w wr)
  case atStart => exact ⟨0, rfl, by omega, by omega, Lib.NoOcc.zero _ _, Below.refl _ _⟩
  case round =>
    obtain ⟨i, rfl, hi, hm, hno, hb⟩ := hrel
    have hs1 := hb.size
    have w1 : IntKind.i64.wrap ((i : Int) + 9) = (i : Int) + 9 := IntWalk.i64_in _ (by omega)
    by_cases hr : i + 9 ≤ t.size
    · have l0 : (i : Int) + 9 ≤ (t.size : Int) := by omega
      have l1 : (0 : Int) ≤ (i : Int) := by omega
      have l2 : (0 : Int) ≤ (i : Int) + 9 := by omega
      have l3 : (i : Int) ≤ (i : Int) + 9 := by omega
      have l4 : (i : Int) ≤ (t.size : Int) := by omega
      cases hp : ((t.extract i (i + 9)).toList == thousand.toList) with
      | false =>
        have HN : Hid (Lib.NoOccB t thousand (i + 1)) := Lib.miss_piece t thousand i hno.out (by rw [e9]; exact hr) (by rw [e9]; exact hp)
        rw [thL] at hp
        go_wp2_with fail
        go_roundg (gk - 1)
        case measure => omega
        case rel => exact ⟨i + 1, by go_num, by omega, by omega, HN, hb⟩
      | true =>
        have HI : Hid (Lib.index t.data.toList mk9 = (i : Int)) := Lib.hit t thousand i hno.out (by rw [e9]; exact hr) (by rw [e9]; exact hp)
        rw [thL] at hp
        have HW : Hid (V = rwS t i) := by show _ = _; rw [HV.out, rwV_at HI.out]
        clear hno
        have hsz1 : (t.extract 0 i).size ≤ maxLen := by rw [ByteArray.size_extract]; omega
        have hB := sSmaller_any (t.extract 0 i) hsz1
        have hG := sm_lt (t.extract 0 i)
        obtain ⟨G, hGe⟩ : ∃ G, go0 (sm (t.extract 0 i)) = G := ⟨_, rfl⟩
        obtain ⟨S, hSe⟩ : ∃ S, (sm (t.extract 0 i)).isSome = S := ⟨_, rfl⟩
        rw [hGe] at hB hG
        rw [hSe] at hB
        obtain ⟨R, hR⟩ : ∃ R, R = t.extract (i + 9) t.size := ⟨_, rfl⟩
        have hRs : R.size = t.size - (i + 9) := by rw [hR, ByteArray.size_extract]; omega
        rcases Nat.eq_zero_or_pos R.size with h0 | h0
        · have HQ : Hid (V = ((G : Int) * 1000, S && decide (0 < G))) := by
            show _ = _
            rw [HW.out, rwS_nil (by rw [← hR]; exact h0), hGe, hSe]
          have he : (t.extract (i + 9) t.size).toList.isEmpty = true := by rw [← hR, ByteArray.toList_eq, list_nil h0]; rfl
          clear hGe hSe hR hRs
          cases S
          · go_wp2_with (first | (go_at_call 69; refine (hB _).mono ?_; rintro e w2 ⟨rfl, hb2⟩; clear hB))
            go_ret2
            exact ⟨ret_two HQ.out, hb.trans (hb2.mono hs1)⟩
          · go_wp2_with (first | (go_at_call 69; refine (hB _).mono ?_; rintro e w2 ⟨rfl, hb2⟩; clear hB))
            go_ret2
            exact ⟨ret_two HQ.out, hb.trans (hb2.mono hs1)⟩
        · have he : (t.extract (i + 9) t.size).toList.isEmpty = false := by rw [← hR, ByteArray.toList_eq, list_cons h0]; rfl
          have hgt : 0 < t.size - (i + 9) := by omega
          have hget : ∀ (n : Nat) (h : n < (t.extract (i + 9) t.size).size), (t.extract (i + 9) t.size)[n]'h = b8 R n := by intro n h; subst hR; exact get_b8 _ n h
          by_cases hc : b8 R 0 = 32
          · have q1 : (((b8 R 0).toNat : Int) != 32) = false := by rw [hc]; rfl
            have hsz2 : ((t.extract (i + 9) t.size).extract 1 (t.size - (i + 9))).size ≤ maxLen := by rw [ByteArray.size_extract, ByteArray.size_extract]; omega
            have hB2 := sSmaller_any ((t.extract (i + 9) t.size).extract 1 (t.size - (i + 9))) hsz2
            have hG2 := sm_lt ((t.extract (i + 9) t.size).extract 1 (t.size - (i + 9)))
            have HT := fun G2 S2 h3 h4 => rwS_two' (G2 := G2) (S2 := S2) hR h0 hc hGe hSe h3 h4
            rw [hRs, hR] at HT
            obtain ⟨G2, hG2e⟩ : ∃ G, go0 (sm ((t.extract (i + 9) t.size).extract 1 (t.size - (i + 9)))) = G := ⟨_, rfl⟩
            obtain ⟨S2, hS2e⟩ : ∃ S, (sm ((t.extract (i + 9) t.size).extract 1 (t.size - (i + 9)))).isSome = S := ⟨_, rfl⟩
            rw [hG2e] at hB2 hG2
            rw [hS2e] at hB2
            have HQ : Hid (V = if (S && S2 && decide (0 < G) && decide (0 < G2)) = true then ((G : Int) * 1000 + (G2 : Int), true) else (0, false)) := by
              show _ = _
              rw [HW.out]; exact HT G2 S2 hG2e hS2e
            have HC := Lib.hid hc
            clear HT hGe hSe hG2e hS2e hRs hc hsz2 hR
            go_wp2_with fail
            refine (hB _).mono ?_; rintro e w2 ⟨rfl, hb2⟩; clear hB
            go_wp2_with fail
            refine (hB2 _).mono ?_; rintro e w3 ⟨rfl, hb3⟩; clear hB2
            have hb4 := hb.trans ((hb2.trans (hb3.mono hb2.size)).mono hs1)
            cases S
            · go_wp2_with fail
              go_ret2
              exact ⟨ret_two HQ.out, hb4⟩
            · cases S2
              · go_wp2_with fail
                go_ret2
                exact ⟨ret_two HQ.out, hb4⟩
              · rcases Nat.eq_zero_or_pos G with rfl | hg0
                · go_wp2_with fail
                  go_ret2
                  exact ⟨ret_two HQ.out, hb4⟩
                · have n1 : (0 : Int) < (G : Int) := by omega
                  have n1' : ((G : Int) == 0) = false := by rw [beq_eq_false_iff_ne]; omega
                  rcases Nat.eq_zero_or_pos G2 with rfl | hg2
                  · go_wp2_with fail
                    go_ret2
                    have HQ2 : V = (0, false) := by rw [HQ.out, decide_eq_true hg0]; rfl
                    exact ⟨ret_two HQ2, hb4⟩
                  · have n2 : (0 : Int) < (G2 : Int) := by omega
                    have n2' : ((G2 : Int) == 0) = false := by rw [beq_eq_false_iff_ne]; omega
                    have n3 : IntKind.i64.wrap ((G : Int) * 1000) = (G : Int) * 1000 := IntWalk.i64_in _ (by omega)
                    have n4 : IntKind.i64.wrap ((G : Int) * 1000 + (G2 : Int)) = (G : Int) * 1000 + (G2 : Int) := IntWalk.i64_in _ (by omega)
                    go_wp2_with fail
                    go_ret2
                    have HQ2 : V = ((G : Int) * 1000 + (G2 : Int), true) := by rw [HQ.out, decide_eq_true hg0, decide_eq_true hg2]; rfl
                    exact ⟨ret_two HQ2, hb4⟩
          · have q1 : (((b8 R 0).toNat : Int) != 32) = true := by
              rw [bne_iff_ne]; intro e
              have e' : (b8 R 0).toNat = 32 := Int.ofNat.inj e
              exact hc (UInt8.toNat_inj.1 e')
            have HQ : Hid (V = (0, false)) := by
              show _ = _
              rw [HW.out, rwS_bad (by rw [← hR]; exact h0) (by rw [← hR]; exact hc)]
            clear hGe hSe hRs hc hR
            go_wp2_with (first | (go_at_call 69; refine (hB _).mono ?_; rintro e w2 ⟨rfl, hb2⟩; clear hB))
            go_ret2
            exact ⟨ret_two HQ.out, hb.trans (hb2.mono hs1)⟩
    · have HI : Hid (Lib.index t.data.toList mk9 = -1) := Lib.past t thousand i hno.out (by rw [e9]; omega) (by rw [e9]; omega)
      have HW : Hid (V = ((go0 (sm t) : Int), (sm t).isSome)) := by show _ = _; rw [HV.out, rwV_no HI.out]
      have l0 : (t.size : Int) < (i : Int) + 9 := by omega
      have hB := sSmaller_any t htm
      clear hno
      go_wp2_with (first | (go_at_call 69; refine (hB _).mono ?_; rintro e w2 ⟨rfl, hb2⟩; clear hB))
      go_ret2
      exact ⟨ret_two HW.out, hb.trans (hb2.mono hs1)⟩
end Go.Proofs.Ytpmklldochpnlaa
