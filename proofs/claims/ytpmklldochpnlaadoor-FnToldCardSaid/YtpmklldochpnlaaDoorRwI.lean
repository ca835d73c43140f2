/- ReadWords of the program. -/
import Derived.Test.YtpmklldochpnlaaDoorRwS
import Derived.Test.YtpmklldochpnlaaDoorShelfD
import Derived.Test.YtpmklldochpnlaaDoorGIntA

namespace Go.Proofs.YtpmklldochpnlaaDoor
open Go.RowKit
set_option linter.unusedVariables false
theorem rwV_some {t : ByteArray} (h : (sm t).isSome = true) : rwV t = ((go0 (sm t) : Int), true) := by
  by_cases hm : Lib.index t.data.toList mk9 = -1
  · rw [rwV_no hm, h]
  · rw [sm_none_of_mk hm] at h; cases h
theorem rwV_none {t : ByteArray} (h : (sm t).isSome = false) (hm : Lib.index t.data.toList mk9 = -1) : rwV t = (0, false) := by
  rw [rwV_no hm, h]
  cases hs : sm t with
  | none => rfl
  | some g => rw [hs] at h; cases h
/-- What the program answers, by what it finds. -/
theorem rwV_I {t : ByteArray} {i : Nat} (h : Lib.index t.data.toList mk9 = (i : Int)) : rwV t = rwI t i := by rw [rwV_at h, rw_same h]
theorem rwI_none {t : ByteArray} {i : Nat} (h : (sm (t.extract 0 i)).isSome = false) : rwI t i = (0, false) := by
  unfold rwI
  rw [rwH_ext, if_pos (.inl (by rw [← Option.not_isSome, h]; rfl))]
theorem rwI_zero {t : ByteArray} {i : Nat} (h : rwN t i = 0) : rwI t i = (0, false) := by
  unfold rwI
  rw [if_pos (.inr (.inl h))]
theorem rwI_other {t : ByteArray} {i : Nat} (h : wAll (rwN t i) ≠ t) : rwI t i = (0, false) := by
  unfold rwI
  rw [if_pos (.inr (.inr h))]
theorem rwI_yes {t : ByteArray} {i N : Nat} (hs : (sm (t.extract 0 i)).isSome = true) (hN : rwN t i = N) (h0 : 0 < N) (h : wAll N = t) : rwI t i = ((N : Int), true) := by
  unfold rwI
  rw [hN, rwH_ext, if_neg]
  rintro (e | e | e)
  · rw [← Option.not_isSome, hs] at e; cases e
  · omega
  · exact e h
theorem rwN_nil {t : ByteArray} {i : Nat} (h : (t.extract (i + 9) t.size).size = 0) : rwN t i = go0 (sm (t.extract 0 i)) * 1000 := by
  rw [rwN, rwR_ext, list_nil h, rwH_ext, rwM, Nat.add_zero]
theorem rwN_cons {t R : ByteArray} {i : Nat} (hR : R = t.extract (i + 9) t.size) (h : 0 < R.size) : rwN t i = go0 (sm (t.extract 0 i)) * 1000 + go0 (sm (R.extract 1 R.size)) := by
  rw [rwN, rwR_ext, ← hR, list_cons h, rwH_ext]
  show _ + go0 (sm (bl _)) = _
  rw [bl_list]
theorem wAll_small (n : Nat) : (wAll n).size ≤ 1000 := by
  have h1 := w1000_small n
  have h2 := w1000_small (n / 1000)
  have h3 := w1000_small (n % 1000)
  have e : (⟨#[32]⟩ : ByteArray).size = 1 := rfl
  have e2 : thousand.size = 9 := rfl
  unfold wAll
  split
  · omega
  · split
    · rw [ByteArray.size_append, e2]; omega
    · rw [ByteArray.size_append, ByteArray.size_append, ByteArray.size_append, e, e2]; omega
set_option maxRecDepth 100000 in
set_option maxHeartbeats 2000000 in
theorem iReadWords_any (t : ByteArray) (ht : t.size ≤ 1048576) (w : World) (hG : GInt w) :
    Calls Tryd.prog 13 #[.string t] w fun e w' => e = .returned (.tuple #[.int .i64 (rwV t).1, .bool (rwV t).2]) ∧ Below w.heap.size w w' := by
  have htm : t.size ≤ maxLen := by unfold maxLen; omega
  have e9 : thousand.size = 9 := rfl
  have hB := iBelow_any t htm
  cases hS : (sm t).isSome with
  | true =>
    have HQ := Lib.hid (rwV_some hS)
    rw [hS] at hB
    clear hS
    go_enter Tryd.func13, Tryd.ntmps13
    go_wp2_with (first | (go_at_call 28; refine (hB _).mono ?_; rintro e w2 ⟨rfl, hb2⟩; clear hB))
    go_ret2
    exact ⟨ret_two HQ.out, hb2⟩
  | false =>
    have HSF := Lib.hid hS
    rw [hS] at hB
    clear hS
    obtain ⟨V, hV⟩ : ∃ V, V = rwV t := ⟨_, rfl⟩
    rw [← hV]
    have HV := Lib.hid hV; clear hV
    go_enter Tryd.func13, Tryd.ntmps13
    go_wp2_with fail
    refine (hB _).mono ?_; rintro e w1 ⟨rfl, hb1⟩; clear hB
    obtain ⟨gm, hgm⟩ := hG.below hb1 (Nat.le_refl _)
    have hC := Tryd.strings_Cut t thousand gm w1 (by omega) hgm
    rcases Lib.indexB_cases t thousand with hix | ⟨i, hix, hroom⟩
    · have HQ := Lib.hid (HV.out.trans (rwV_none HSF.out hix))
      obtain ⟨c1, c2, c3⟩ := Lib.cutB_miss t thousand hix
      rw [c1, c2, c3] at hC
      have hB2 := iBelow_any t htm
      rw [HSF.out] at hB2
      clear c1 c2 c3 hix
      go_wp2_with fail
      refine hC.mono ?_; rintro e w2 ⟨rfl, nd, rfl⟩; clear hC
      go_wp2_with fail
      refine (hB2 _).mono ?_; rintro e w3 ⟨rfl, hb3⟩; clear hB2
      go_wp2_with fail
      go_ret2
      exact ⟨ret_two HQ.out, (below_draws hb1 _).trans (hb3.mono hb1.size)⟩
    · have HI : Hid (Lib.index t.data.toList mk9 = (i : Int)) := hix
      obtain ⟨c1, c2, c3⟩ := Lib.cutB_hit t thousand i hix
      rw [c1, c2, c3] at hC
      rw [e9] at hC hroom
      clear c1 c2 c3 hix
      have HW : Hid (V = rwI t i) := by show _ = _; rw [HV.out, rwV_I HI.out]
      have hsz1 : (t.extract 0 i).size ≤ maxLen := by rw [ByteArray.size_extract]; omega
      have hB1 := iBelow_any (t.extract 0 i) hsz1
      have hG1 := sm_lt (t.extract 0 i)
      obtain ⟨G, hGe⟩ : ∃ G, go0 (sm (t.extract 0 i)) = G := ⟨_, rfl⟩
      obtain ⟨S, hSe⟩ : ∃ S, (sm (t.extract 0 i)).isSome = S := ⟨_, rfl⟩
      rw [hGe] at hB1 hG1
      rw [hSe] at hB1
      go_wp2_with fail
      refine hC.mono ?_; rintro e w2 ⟨rfl, nd, rfl⟩; clear hC
      go_wp2_with fail
      refine (hB1 _).mono ?_; rintro e w3 ⟨rfl, hb3⟩; clear hB1
      have hb13 := (below_draws hb1 nd).trans (hb3.mono hb1.size)
      cases S
      · have HQ := Lib.hid (HW.out.trans (rwI_none hSe))
        clear hGe hSe
        go_wp2_with fail
        go_ret2
        exact ⟨ret_two HQ.out, hb13⟩
      · obtain ⟨R, hR⟩ : ∃ R, R = t.extract (i + 9) t.size := ⟨_, rfl⟩
        have hRs : R.size = t.size - (i + 9) := by rw [hR, ByteArray.size_extract]; omega
        have n3 : IntKind.i64.wrap ((G : Int) * 1000) = (G : Int) * 1000 := IntWalk.i64_in _ (by omega)
        rcases Nat.eq_zero_or_pos R.size with h0 | h0
        · have HN : Hid (rwN t i = G * 1000) := by show _ = _; rw [rwN_nil (by rw [← hR]; exact h0), hGe]
          have he : (t.extract (i + 9) t.size).toList = [] := by rw [← hR, ByteArray.toList_eq, list_nil h0]
          have he2 : (t.extract (i + 9) t.size).toList.isEmpty = true := by rw [he]; rfl
          have HSE := Lib.hid hSe
          clear hGe hSe hR hRs
          rcases Nat.eq_zero_or_pos G with rfl | hg0
          · have HQ := Lib.hid (HW.out.trans (rwI_zero (by rw [HN.out])))
            go_wp2_with fail
            go_ret2
            exact ⟨ret_two HQ.out, hb13⟩
          · have n1 : ((G : Int) * 1000 == 0) = false := by rw [beq_eq_false_iff_ne]; omega
            have hN := nwAll_any ((G : Int) * 1000) (by omega) (by omega)
            have e1 : ((G : Int) * 1000).toNat = G * 1000 := by omega
            rw [e1] at hN
            have hwl : (wAll (G * 1000)).size ≤ 1000 := wAll_small _
            by_cases hw : wAll (G * 1000) = t
            · have hq := str_eq hw
              have HQ := Lib.hid (HW.out.trans (rwI_yes HSE.out HN.out (by omega) hw))
              clear hw
              go_wp2_with (first | (go_at_call 27; refine (hN _).mono ?_; rintro e w4 ⟨rfl, hb4⟩; clear hN))
              go_ret2
              exact ⟨ret_two HQ.out, hb13.trans (hb4.mono hb13.size)⟩
            · have hq := str_ne hw
              have HQ := Lib.hid (HW.out.trans (rwI_other (by rw [HN.out]; exact hw)))
              clear hw
              go_wp2_with (first | (go_at_call 27; refine (hN _).mono ?_; rintro e w4 ⟨rfl, hb4⟩; clear hN))
              go_ret2
              exact ⟨ret_two HQ.out, hb13.trans (hb4.mono hb13.size)⟩
        · have he2 : (t.extract (i + 9) t.size).toList.isEmpty = false := by rw [← hR, ByteArray.toList_eq, list_cons h0]; rfl
          have hgt : 0 < t.size - (i + 9) := by omega
          have hsz2 : ((t.extract (i + 9) t.size).extract 1 (t.size - (i + 9))).size ≤ maxLen := by rw [ByteArray.size_extract, ByteArray.size_extract]; omega
          have hB2 := iBelow_any ((t.extract (i + 9) t.size).extract 1 (t.size - (i + 9))) hsz2
          have hG2 := sm_lt ((t.extract (i + 9) t.size).extract 1 (t.size - (i + 9)))
          have hN0 := rwN_cons hR h0
          rw [hRs, hR, hGe] at hN0
          obtain ⟨G2, hG2e⟩ : ∃ G, go0 (sm ((t.extract (i + 9) t.size).extract 1 (t.size - (i + 9)))) = G := ⟨_, rfl⟩
          rw [hG2e] at hB2 hG2 hN0
          have HN := Lib.hid hN0
          have HSE := Lib.hid hSe
          clear hGe hSe hG2e hRs hsz2 hR hN0
          have hg1 : (1 : Int) ≤ ((t.size - (i + 9) : Nat) : Int) := by omega
          have n4 : IntKind.i64.wrap ((G : Int) * 1000 + (G2 : Int)) = (G : Int) * 1000 + (G2 : Int) := IntWalk.i64_in _ (by omega)
          rcases Nat.eq_zero_or_pos (G * 1000 + G2) with hz | hg0
          · obtain ⟨rfl, rfl⟩ : G = 0 ∧ G2 = 0 := by omega
            have HQ := Lib.hid (HW.out.trans (rwI_zero (by rw [HN.out])))
            go_wp2_with (first | (go_at_call 28; refine (hB2 _).mono ?_; rintro e w4 ⟨rfl, hb4⟩; clear hB2))
            go_ret2
            exact ⟨ret_two HQ.out, hb13.trans (hb4.mono hb13.size)⟩
          · have n1 : ((G : Int) * 1000 + (G2 : Int) == 0) = false := by rw [beq_eq_false_iff_ne]; omega
            have hN := nwAll_any ((G : Int) * 1000 + (G2 : Int)) (by omega) (by omega)
            have e1 : ((G : Int) * 1000 + (G2 : Int)).toNat = G * 1000 + G2 := by omega
            rw [e1] at hN
            have hwl : (wAll (G * 1000 + G2)).size ≤ 1000 := wAll_small _
            have hcast : (((G * 1000 + G2 : Nat)) : Int) = (G : Int) * 1000 + (G2 : Int) := by omega
            have HC := Lib.hid hcast; clear hcast
            by_cases hw : wAll (G * 1000 + G2) = t
            · have hq := str_eq hw
              have HQ := Lib.hid (HW.out.trans (rwI_yes HSE.out HN.out hg0 hw))
              rw [HC.out] at HQ
              clear hw
              go_wp2_with (first | (go_at_call 28; refine (hB2 _).mono ?_; rintro e w4 ⟨rfl, hb4⟩; clear hB2) | (go_at_call 27; refine (hN _).mono ?_; rintro e w5 ⟨rfl, hb5⟩; clear hN))
              go_ret2
              exact ⟨ret_two HQ.out, hb13.trans ((hb4.trans (hb5.mono hb4.size)).mono hb13.size)⟩
            · have hq := str_ne hw
              have HQ := Lib.hid (HW.out.trans (rwI_other (by rw [HN.out]; exact hw)))
              clear hw
              go_wp2_with (first | (go_at_call 28; refine (hB2 _).mono ?_; rintro e w4 ⟨rfl, hb4⟩; clear hB2) | (go_at_call 27; refine (hN _).mono ?_; rintro e w5 ⟨rfl, hb5⟩; clear hN))
              go_ret2
              exact ⟨ret_two HQ.out, hb13.trans ((hb4.trans (hb5.mono hb4.size)).mono hb13.size)⟩
end Go.Proofs.YtpmklldochpnlaaDoor
