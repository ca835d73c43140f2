/- Packing: the reference's walk. -/
import Derived.Test.YtpmklldochpnlaaDoorPkS

namespace Go.Proofs.YtpmklldochpnlaaDoor
open Go.RowKit Go.PlainAid
set_option linter.unusedVariables false
theorem u8_eqT {x y : UInt8} (h : x = y) : ((x.toNat : Int) == (y.toNat : Int)) = true := by simp [h]
theorem u8_eqF {x y : UInt8} (h : x ≠ y) : ((x.toNat : Int) == (y.toNat : Int)) = false := by
  rw [beq_eq_false_iff_ne]; exact fun e => h (UInt8.toNat_inj.1 (by omega))
theorem arr_snoc (a b : List UInt8) : (⟨a.toArray⟩ : ByteArray) ++ ⟨b.toArray⟩ = ⟨(a ++ b).toArray⟩ := by
  apply ByteArray.ext
  simp
set_option maxRecDepth 100000 in
set_option maxHeartbeats 4000000 in
theorem sPacked_any (t : ByteArray) (ht : t.size ≤ 48) (w : World) :
    Calls Tryd.prog 21 #[.string t] w fun e w' => e = .returned (.string (pkV t)) ∧ Below w.heap.size w w' := by
  have hg := get_b8 t
  go_enter Tryd.func21, Tryd.ntmps21
  go_wp2_with fail
  go_loopg [3, 4, 5] t.size (fun m o i5 k5 wr => ∃ (i : Nat) (acc : List UInt8) (s : ByteArray), o = .string s ∧ i5 = .int .i64 i ∧ i ≤ t.size ∧ t.size ≤ m + i ∧ acc.length ≤ 3 * i ∧ s.size ≤ 3 * i ∧ Hid (s = ⟨acc.toArray⟩) ∧ Hid (pkG t i acc = pkG t 0 []) ∧ Hid (Below w.heap.size w wr))
  case atStart => exact ⟨0, [], _, rfl, rfl, by omega, by omega, by simp, by simp [ByteArray.size], rfl, rfl, Below.refl _ _⟩
  case round =>
    obtain ⟨i, acc, s, rfl, rfl, hi, hm, hacc, hs, HS, HG, HB⟩ := hrel
    obtain ⟨wo, rfl⟩ : ∃ x : World, x = wr := ⟨_, rfl⟩
    by_cases hlt : i < t.size
    · have l0 : (0 : Int) ≤ (i : Int) := by omega
      have hG2 := Lib.hid (pkG_step (acc := acc) hlt)
      have hE := Lib.hid (pkE_bd hlt)
      go_wp2_with fail
      obtain ⟨go, hgo⟩ : ∃ g : Nat, g = gk := ⟨_, rfl⟩
      go_loopg [5] t.size (fun m k5 wv => ∃ k : Nat, k5 = .int .i64 k ∧ i ≤ k ∧ k ≤ t.size ∧ t.size ≤ m + k ∧ Hid (PkAt t i k) ∧ Hid (Below w.heap.size w wv))
      case atStart => exact ⟨i, rfl, Nat.le_refl _, hi, by omega, PkAt.first hi, HB.out⟩
      case round =>
        obtain ⟨k, rfl, hik, hk, hmk, HA, HBv⟩ := hrel
        obtain ⟨wv, rfl⟩ : ∃ x : World, x = wr := ⟨_, rfl⟩
        have l1 : (0 : Int) ≤ (k : Int) := by omega
        by_cases hks : k < t.size
        · by_cases hq : b8 t k = b8 t i
          · have HA' := Lib.hid (HA.out.step hks hq)
            have q1 := u8_eqT hq
            clear hq
            go_wp2_with fail
            go_quiet (fail)
            go_wp2_with fail
            go_roundg (gk - 1)
            case measure => omega
            case rel => exact ⟨k + 1, by go_num, by omega, by omega, by omega, HA'.out, below_draws HBv.out _⟩
          · have HE := Lib.hid (HA.out.stop hks hq)
            have q1 := u8_eqF hq
            clear hq
            have HX : Hid (pkG t k (acc ++ pkPut t i) = pkG t 0 []) := by show _ = _; rw [← HG.out, hG2.out, HE.out]
            obtain ⟨u, hu⟩ : ∃ u, u = t.extract i (i + 1) := ⟨_, rfl⟩
            have HU : Hid (u = ⟨[b8 t i].toArray⟩) := by show _ = _; rw [hu, ext_oneP hlt]
            have hus : u.size ≤ 1 := by rw [HU.out]; exact Nat.le_refl _
            have l3 : (i : Int) + 1 ≤ (t.size : Int) := by omega
            have n1 : ((i : Int) + 1).toNat = i + 1 := by omega
            have hik1 : i + 1 ≤ k := by have := hE.out; rw [HE.out] at this; exact this.1
            by_cases h1 : 1 < k - i
            · have l4 : (1 : Int) < (k : Int) - (i : Int) := by omega
              have n2 : (k : Int) - (i : Int) = ((k - i : Nat) : Int) := by omega
              have C := sDec_any (k - i) (by omega)
              obtain ⟨z, hz⟩ : ∃ z, z = k - i := ⟨_, rfl⟩
              have HP : Hid (pkPut t i = dec2 z ++ [b8 t i]) := by show _ = _; rw [pkPut, HE.out, if_pos h1, hz]
              rw [← hz] at C n2
              have l5 : (1 : Int) < (z : Int) := by omega
              have w1 : IntKind.i64.wrap ((k : Int) - (i : Int)) = (z : Int) := by rw [n2]; exact IntWalk.i64_in _ (by omega)
              obtain ⟨dz, hdz⟩ : ∃ x : ByteArray, x = ⟨(dec2 z).toArray⟩ := ⟨_, rfl⟩
              have hds : dz.size ≤ 2 := by rw [hdz]; have := dec2_len z; simpa [ByteArray.size] using this
              rw [← hdz] at C
              have HDZ := Lib.hid hdz
              have HSX : Hid (s ++ dz ++ u = ⟨(acc ++ pkPut t i).toArray⟩) := by show _ = _; rw [HS.out, HDZ.out, HU.out, HP.out, arr_snoc, arr_snoc, List.append_assoc]
              have hsx : (s ++ dz).size ≤ 3 * i + 2 := by rw [ByteArray.size_append]; omega
              have hsx2 : (s ++ dz ++ u).size ≤ 3 * k := by rw [ByteArray.size_append, ByteArray.size_append]; omega
              have hpl := pkPut_len t i
              clear h1 hz hdz n2 l4
              go_wp2_with fail
              go_quiet (fail)
              go_wp2_with (first | (go_at_call 39; refine (C _).mono ?_; rintro e w2 ⟨rfl, hb2⟩; clear C))
              go_roundg (go - 1)
              case measure => omega
              case rel => exact ⟨k, acc ++ pkPut t i, s ++ dz ++ u, by rw [hu], rfl, hk, by omega, by rw [List.length_append]; omega, hsx2, HSX.out, HX.out, (below_draws HBv.out _).trans (hb2.mono (below_draws HBv.out _).size)⟩
            · have n2 : (k : Int) - (i : Int) = 1 := by omega
              have HP : Hid (pkPut t i = [b8 t i]) := by show _ = _; rw [pkPut, HE.out, if_neg h1]; rfl
              have w1 : IntKind.i64.wrap ((k : Int) - (i : Int)) = 1 := by rw [n2]; rfl
              have HSX : Hid (s ++ u = ⟨(acc ++ pkPut t i).toArray⟩) := by show _ = _; rw [HS.out, HU.out, HP.out, arr_snoc]
              have hsx2 : (s ++ u).size ≤ 3 * k := by rw [ByteArray.size_append]; omega
              have hpl := pkPut_len t i
              clear h1 n2
              go_wp2_with fail
              go_quiet (fail)
              go_wp2_with fail
              go_roundg (go - 1)
              case measure => omega
              case rel => exact ⟨k, acc ++ pkPut t i, s ++ u, by rw [hu], rfl, hk, by omega, by rw [List.length_append]; omega, hsx2, HSX.out, HX.out, below_draws HBv.out _⟩
        · obtain rfl : k = t.size := by omega
          have HE := Lib.hid (HA.out.fin rfl)
          have hd0 : decide (t.size < t.size) = false := decide_eq_false (by omega)
          have HX : Hid (pkG t t.size (acc ++ pkPut t i) = pkG t 0 []) := by show _ = _; rw [← HG.out, hG2.out, HE.out]
          obtain ⟨u, hu⟩ : ∃ u, u = t.extract i (i + 1) := ⟨_, rfl⟩
          have HU : Hid (u = ⟨[b8 t i].toArray⟩) := by show _ = _; rw [hu, ext_oneP hlt]
          have hus : u.size ≤ 1 := by rw [HU.out]; exact Nat.le_refl _
          have l3 : (i : Int) + 1 ≤ (t.size : Int) := by omega
          have n1 : ((i : Int) + 1).toNat = i + 1 := by omega
          have hik1 : i + 1 ≤ t.size := by have := hE.out; rw [HE.out] at this; exact this.1
          by_cases h1 : 1 < t.size - i
          · have l4 : (1 : Int) < (t.size : Int) - (i : Int) := by omega
            have n2 : (t.size : Int) - (i : Int) = ((t.size - i : Nat) : Int) := by omega
            have C := sDec_any (t.size - i) (by omega)
            obtain ⟨z, hz⟩ : ∃ z, z = t.size - i := ⟨_, rfl⟩
            have HP : Hid (pkPut t i = dec2 z ++ [b8 t i]) := by show _ = _; rw [pkPut, HE.out, if_pos h1, hz]
            rw [← hz] at C n2
            have l5 : (1 : Int) < (z : Int) := by omega
            have w1 : IntKind.i64.wrap ((t.size : Int) - (i : Int)) = (z : Int) := by rw [n2]; exact IntWalk.i64_in _ (by omega)
            obtain ⟨dz, hdz⟩ : ∃ x : ByteArray, x = ⟨(dec2 z).toArray⟩ := ⟨_, rfl⟩
            have hds : dz.size ≤ 2 := by rw [hdz]; have := dec2_len z; simpa [ByteArray.size] using this
            rw [← hdz] at C
            have HDZ := Lib.hid hdz
            have HSX : Hid (s ++ dz ++ u = ⟨(acc ++ pkPut t i).toArray⟩) := by show _ = _; rw [HS.out, HDZ.out, HU.out, HP.out, arr_snoc, arr_snoc, List.append_assoc]
            have hsx : (s ++ dz).size ≤ 3 * i + 2 := by rw [ByteArray.size_append]; omega
            have hsx2 : (s ++ dz ++ u).size ≤ 3 * t.size := by rw [ByteArray.size_append, ByteArray.size_append]; omega
            have hpl := pkPut_len t i
            clear h1 hz hdz n2 l4
            go_wp2_with fail
            go_quiet (fail)
            go_wp2_with (first | (go_at_call 39; refine (C _).mono ?_; rintro e w2 ⟨rfl, hb2⟩; clear C))
            go_roundg (go - 1)
            case measure => omega
            case rel => exact ⟨t.size, acc ++ pkPut t i, s ++ dz ++ u, by rw [hu], rfl, hk, by omega, by rw [List.length_append]; omega, hsx2, HSX.out, HX.out, (below_draws HBv.out _).trans (hb2.mono (below_draws HBv.out _).size)⟩
          · have n2 : (t.size : Int) - (i : Int) = 1 := by omega
            have HP : Hid (pkPut t i = [b8 t i]) := by show _ = _; rw [pkPut, HE.out, if_neg h1]; rfl
            have w1 : IntKind.i64.wrap ((t.size : Int) - (i : Int)) = 1 := by rw [n2]; rfl
            have HSX : Hid (s ++ u = ⟨(acc ++ pkPut t i).toArray⟩) := by show _ = _; rw [HS.out, HU.out, HP.out, arr_snoc]
            have hsx2 : (s ++ u).size ≤ 3 * t.size := by rw [ByteArray.size_append]; omega
            have hpl := pkPut_len t i
            clear h1 n2
            go_wp2_with fail
            go_quiet (fail)
            go_wp2_with fail
            go_roundg (go - 1)
            case measure => omega
            case rel => exact ⟨t.size, acc ++ pkPut t i, s ++ u, by rw [hu], rfl, hk, by omega, by rw [List.length_append]; omega, hsx2, HSX.out, HX.out, below_draws HBv.out _⟩
    · obtain rfl : i = t.size := by omega
      go_wp2_with fail
      go_ret
      exact ⟨by rw [HS.out]; unfold pkV; rw [← HG.out, pkG_end]; rfl, HB.out⟩
end Go.Proofs.YtpmklldochpnlaaDoor
