/- Unpacking: the reference. -/
import Derived.Test.YtpmklldochpnlaaDoorUpI
namespace Go.Proofs.YtpmklldochpnlaaDoor
open Go.RowKit Go.PlainAid
set_option linter.unusedVariables false
set_option maxRecDepth 100000 in
set_option maxHeartbeats 4000000 in
theorem sUnpack_any (t : ByteArray) (wt : t.size ≤ 1048576) (w : World) :
    Calls Tryd.prog 8 #[.string t] w fun e w' => e = .returned (.tuple #[.string (upV t), .bool (upOk t)]) ∧ Below w.heap.size w w' := by
  have hg := get_b8 t
  go_enter Tryd.func8, Tryd.ntmps8
  go_wp2_with fail
  go_loopg [4, 5, 6, 7] t.size (fun m o n5 i6 b7 wr => ∃ (i n : Nat) (out : List UInt8) (s : ByteArray), o = .string s ∧ n5 = .int .i64 n ∧ i6 = .int .i64 i ∧ i ≤ t.size ∧ i ≤ 97 ∧ t.size ≤ m + i ∧ n ≤ 48 ∧ out.length ≤ 48 ∧ s.size ≤ 48 ∧ Hid (s = ⟨out.toArray⟩) ∧ Hid (UpAt t i out n) ∧ Hid (Below w.heap.size w wr))
  case atStart => exact ⟨0, 0, [], _, rfl, rfl, rfl, by omega, by omega, by omega, by omega, by simp, by simp [ByteArray.size], rfl, UpAt.first t, Below.refl _ _⟩
  case round =>
    obtain ⟨i, n, out, s, rfl, rfl, rfl, hi, hi97, hm, hn, ho, hs, HS, HA, HB⟩ := hrel
    obtain ⟨wo, rfl⟩ : ∃ x : World, x = wr := ⟨_, rfl⟩
    by_cases hlt : i < t.size
    · have l0 : (0 : Int) ≤ (i : Int) := by omega
      by_cases h96 : i ≤ 96
      · cases hd : isDg (b8 t i) with
        | true =>
          have hbd := isDg_bd hd
          obtain ⟨z, hz⟩ : ∃ z, z = 10 * n + ((b8 t i).toNat - 48) := ⟨_, rfl⟩
          have hzi : 10 * (n : Int) + (((b8 t i).toNat : Int) - 48) = (z : Int) := by omega
          have w8 : IntKind.u8.wrap (((b8 t i).toNat : Int) - 48) = ((b8 t i).toNat : Int) - 48 := IntWalk.u8_in _ (by omega)
          have w7 : IntKind.i64.wrap (((b8 t i).toNat : Int) - 48) = ((b8 t i).toNat : Int) - 48 := IntWalk.i64_in _ (by omega)
          have w1 : IntKind.i64.wrap (10 * (n : Int)) = 10 * (n : Int) := IntWalk.i64_in _ (by omega)
          have w2 : IntKind.i64.wrap (10 * (n : Int) + (((b8 t i).toNat : Int) - 48)) = (z : Int) := by rw [hzi]; exact IntWalk.i64_in _ (by omega)
          by_cases hz48 : z ≤ 48
          · have HA' : Hid (UpAt t (i + 1) out z) := by have := HA.out.dig hlt hd (by omega); rw [← hz] at this; exact this
            clear hd hzi hz
            go_wp2_with fail
            go_roundg (gk - 1)
            case measure => omega
            case rel => exact ⟨i + 1, z, out, s, rfl, rfl, by go_num, by omega, by omega, by omega, hz48, ho, hs, HS.out, HA'.out, HB.out⟩
          · have HN := Lib.hid (upOk_none (HA.out.over hlt hd (by omega)))
            have HV := Lib.hid (upV_no HN.out)
            have hz49 : (48 : Int) < (z : Int) := by omega
            clear hd hzi hz hz48
            go_wp2_with fail
            go_ret2
            exact ⟨by rw [HV.out, HN.out]; rfl, HB.out⟩
        | false =>
          have hnd : ¬ (48 ≤ ((b8 t i).toNat : Int) ∧ ((b8 t i).toNat : Int) ≤ 57) := of_decide_eq_false hd
          have HA' := Lib.hid (HA.out.put hlt hd)
          obtain ⟨r, hr⟩ : ∃ r, r = max n 1 := ⟨_, rfl⟩
          rw [← hr] at HA'
          have hr1 : 1 ≤ r := by omega
          have hr48 : r ≤ 48 := by omega
          obtain ⟨u, hu⟩ : ∃ u, u = t.extract i (i + 1) := ⟨_, rfl⟩
          have HU : Hid (u = ⟨[b8 t i].toArray⟩) := by show _ = _; rw [hu, ext_oneP hlt]
          have hus : u.size ≤ 1 := by rw [HU.out]; exact Nat.le_refl _
          have n1 : ((i : Int) + 1).toNat = i + 1 := by omega
          have l3 : (i : Int) + 1 ≤ (t.size : Int) := by omega
          clear hd
          by_cases hlow : ((b8 t i).toNat : Int) < 48
          · clear hnd
            by_cases hn0 : n = 0
            · subst hn0
              obtain rfl : r = 1 := by omega
              clear hr
              go_wp2_with fail
              obtain ⟨go, hgo⟩ : ∃ g : Nat, g = gk := ⟨_, rfl⟩
              go_loopg [4, 5] 1 (fun m o n5 wv => ∃ (q j : Nat) (s' : ByteArray), o = .string s' ∧ n5 = .int .i64 q ∧ q + j = 1 ∧ q ≤ m ∧ s'.size ≤ 48 + j ∧ Hid (s' = ⟨(out ++ List.replicate j (b8 t i)).toArray⟩) ∧ Hid (Below w.heap.size w wv))
              case atStart => exact ⟨1, 0, s, rfl, by first | rfl | go_num, rfl, by omega, by omega, by show _ = _; simpa using HS.out, HB.out⟩
              case round =>
                obtain ⟨q, j, s', rfl, rfl, hqj, hmq, hs', HS', HBj⟩ := hrel
                by_cases hq0 : 0 < q
                · obtain ⟨q, rfl⟩ : ∃ x, q = x + 1 := ⟨q - 1, by omega⟩
                  have HSX : Hid (s' ++ u = ⟨(out ++ List.replicate (j + 1) (b8 t i)).toArray⟩) := by show _ = _; rw [HS'.out, HU.out, arr_snoc, List.replicate_succ', List.append_assoc]
                  have hsx : (s' ++ u).size ≤ 48 + (j + 1) := by rw [ByteArray.size_append]; omega
                  go_wp2_with fail
                  go_roundg (gk - 1)
                  case measure => omega
                  case rel => exact ⟨q, j + 1, s' ++ u, by rw [hu], by go_num, by omega, by omega, hsx, HSX.out, HBj.out⟩
                · obtain rfl : q = 0 := by omega
                  obtain rfl : j = 1 := by omega
                  have hsz : s'.size = out.length + 1 := by rw [HS'.out, size_arr, List.length_append, List.length_replicate]
                  by_cases h48 : s'.size ≤ 48
                  · have ho2 : out.length + 1 ≤ 48 := by omega
                    clear hsz
                    go_wp2_with fail
                    go_roundg (go - 1)
                    case measure => omega
                    case rel => exact ⟨i + 1, 0, out ++ List.replicate 1 (b8 t i), s', rfl, rfl, by go_num, by omega, by omega, by omega, by omega, by rw [List.length_append, List.length_replicate]; omega, h48, HS'.out, HA'.out, HBj.out⟩
                  · have h49 : (48 : Int) < (s'.size : Int) := by omega
                    have HN := Lib.hid (HA'.out.long (by rw [List.length_append, List.length_replicate]; omega))
                    have HV := Lib.hid (upV_no HN.out)
                    clear hsz h48
                    go_wp2_with fail
                    go_ret2
                    exact ⟨by rw [HV.out, HN.out]; rfl, HBj.out⟩
            · have hn1 : ((n : Int) == 0) = false := by simp; omega
              obtain rfl : r = n := by omega
              clear hr hn0
              go_wp2_with fail
              obtain ⟨go, hgo⟩ : ∃ g : Nat, g = gk := ⟨_, rfl⟩
              go_loopg [4, 5] r (fun m o n5 wv => ∃ (q j : Nat) (s' : ByteArray), o = .string s' ∧ n5 = .int .i64 q ∧ q + j = r ∧ q ≤ m ∧ s'.size ≤ 48 + j ∧ Hid (s' = ⟨(out ++ List.replicate j (b8 t i)).toArray⟩) ∧ Hid (Below w.heap.size w wv))
              case atStart => exact ⟨r, 0, s, rfl, by first | rfl | go_num, rfl, by omega, by omega, by show _ = _; simpa using HS.out, HB.out⟩
              case round =>
                obtain ⟨q, j, s', rfl, rfl, hqj, hmq, hs', HS', HBj⟩ := hrel
                by_cases hq0 : 0 < q
                · obtain ⟨q, rfl⟩ : ∃ x, q = x + 1 := ⟨q - 1, by omega⟩
                  have HSX : Hid (s' ++ u = ⟨(out ++ List.replicate (j + 1) (b8 t i)).toArray⟩) := by show _ = _; rw [HS'.out, HU.out, arr_snoc, List.replicate_succ', List.append_assoc]
                  have hsx : (s' ++ u).size ≤ 48 + (j + 1) := by rw [ByteArray.size_append]; omega
                  go_wp2_with fail
                  go_roundg (gk - 1)
                  case measure => omega
                  case rel => exact ⟨q, j + 1, s' ++ u, by rw [hu], by go_num, by omega, by omega, hsx, HSX.out, HBj.out⟩
                · obtain rfl : q = 0 := by omega
                  obtain rfl : r = j := by omega
                  have hsz : s'.size = out.length + r := by rw [HS'.out, size_arr, List.length_append, List.length_replicate]
                  by_cases h48 : s'.size ≤ 48
                  · have ho2 : out.length + r ≤ 48 := by omega
                    clear hsz
                    go_wp2_with fail
                    go_roundg (go - 1)
                    case measure => omega
                    case rel => exact ⟨i + 1, 0, out ++ List.replicate r (b8 t i), s', rfl, rfl, by go_num, by omega, by omega, by omega, by omega, by rw [List.length_append, List.length_replicate]; omega, h48, HS'.out, HA'.out, HBj.out⟩
                  · have h49 : (48 : Int) < (s'.size : Int) := by omega
                    have HN := Lib.hid (HA'.out.long (by rw [List.length_append, List.length_replicate]; omega))
                    have HV := Lib.hid (upV_no HN.out)
                    clear hsz h48
                    go_wp2_with fail
                    go_ret2
                    exact ⟨by rw [HV.out, HN.out]; rfl, HBj.out⟩
          · have hhi : 57 < ((b8 t i).toNat : Int) := by omega
            have hge : 48 ≤ ((b8 t i).toNat : Int) := by omega
            clear hnd hlow
            by_cases hn0 : n = 0
            · subst hn0
              obtain rfl : r = 1 := by omega
              clear hr
              go_wp2_with fail
              obtain ⟨go, hgo⟩ : ∃ g : Nat, g = gk := ⟨_, rfl⟩
              go_loopg [4, 5] 1 (fun m o n5 wv => ∃ (q j : Nat) (s' : ByteArray), o = .string s' ∧ n5 = .int .i64 q ∧ q + j = 1 ∧ q ≤ m ∧ s'.size ≤ 48 + j ∧ Hid (s' = ⟨(out ++ List.replicate j (b8 t i)).toArray⟩) ∧ Hid (Below w.heap.size w wv))
              case atStart => exact ⟨1, 0, s, rfl, by first | rfl | go_num, rfl, by omega, by omega, by show _ = _; simpa using HS.out, HB.out⟩
              case round =>
                obtain ⟨q, j, s', rfl, rfl, hqj, hmq, hs', HS', HBj⟩ := hrel
                by_cases hq0 : 0 < q
                · obtain ⟨q, rfl⟩ : ∃ x, q = x + 1 := ⟨q - 1, by omega⟩
                  have HSX : Hid (s' ++ u = ⟨(out ++ List.replicate (j + 1) (b8 t i)).toArray⟩) := by show _ = _; rw [HS'.out, HU.out, arr_snoc, List.replicate_succ', List.append_assoc]
                  have hsx : (s' ++ u).size ≤ 48 + (j + 1) := by rw [ByteArray.size_append]; omega
                  go_wp2_with fail
                  go_roundg (gk - 1)
                  case measure => omega
                  case rel => exact ⟨q, j + 1, s' ++ u, by rw [hu], by go_num, by omega, by omega, hsx, HSX.out, HBj.out⟩
                · obtain rfl : q = 0 := by omega
                  obtain rfl : j = 1 := by omega
                  have hsz : s'.size = out.length + 1 := by rw [HS'.out, size_arr, List.length_append, List.length_replicate]
                  by_cases h48 : s'.size ≤ 48
                  · have ho2 : out.length + 1 ≤ 48 := by omega
                    clear hsz
                    go_wp2_with fail
                    go_roundg (go - 1)
                    case measure => omega
                    case rel => exact ⟨i + 1, 0, out ++ List.replicate 1 (b8 t i), s', rfl, rfl, by go_num, by omega, by omega, by omega, by omega, by rw [List.length_append, List.length_replicate]; omega, h48, HS'.out, HA'.out, HBj.out⟩
                  · have h49 : (48 : Int) < (s'.size : Int) := by omega
                    have HN := Lib.hid (HA'.out.long (by rw [List.length_append, List.length_replicate]; omega))
                    have HV := Lib.hid (upV_no HN.out)
                    clear hsz h48
                    go_wp2_with fail
                    go_ret2
                    exact ⟨by rw [HV.out, HN.out]; rfl, HBj.out⟩
            · have hn1 : ((n : Int) == 0) = false := by simp; omega
              obtain rfl : r = n := by omega
              clear hr hn0
              go_wp2_with fail
              obtain ⟨go, hgo⟩ : ∃ g : Nat, g = gk := ⟨_, rfl⟩
              go_loopg [4, 5] r (fun m o n5 wv => ∃ (q j : Nat) (s' : ByteArray), o = .string s' ∧ n5 = .int .i64 q ∧ q + j = r ∧ q ≤ m ∧ s'.size ≤ 48 + j ∧ Hid (s' = ⟨(out ++ List.replicate j (b8 t i)).toArray⟩) ∧ Hid (Below w.heap.size w wv))
              case atStart => exact ⟨r, 0, s, rfl, by first | rfl | go_num, rfl, by omega, by omega, by show _ = _; simpa using HS.out, HB.out⟩
              case round =>
                obtain ⟨q, j, s', rfl, rfl, hqj, hmq, hs', HS', HBj⟩ := hrel
                by_cases hq0 : 0 < q
                · obtain ⟨q, rfl⟩ : ∃ x, q = x + 1 := ⟨q - 1, by omega⟩
                  have HSX : Hid (s' ++ u = ⟨(out ++ List.replicate (j + 1) (b8 t i)).toArray⟩) := by show _ = _; rw [HS'.out, HU.out, arr_snoc, List.replicate_succ', List.append_assoc]
                  have hsx : (s' ++ u).size ≤ 48 + (j + 1) := by rw [ByteArray.size_append]; omega
                  go_wp2_with fail
                  go_roundg (gk - 1)
                  case measure => omega
                  case rel => exact ⟨q, j + 1, s' ++ u, by rw [hu], by go_num, by omega, by omega, hsx, HSX.out, HBj.out⟩
                · obtain rfl : q = 0 := by omega
                  obtain rfl : r = j := by omega
                  have hsz : s'.size = out.length + r := by rw [HS'.out, size_arr, List.length_append, List.length_replicate]
                  by_cases h48 : s'.size ≤ 48
                  · have ho2 : out.length + r ≤ 48 := by omega
                    clear hsz
                    go_wp2_with fail
                    go_roundg (go - 1)
                    case measure => omega
                    case rel => exact ⟨i + 1, 0, out ++ List.replicate r (b8 t i), s', rfl, rfl, by go_num, by omega, by omega, by omega, by omega, by rw [List.length_append, List.length_replicate]; omega, h48, HS'.out, HA'.out, HBj.out⟩
                  · have h49 : (48 : Int) < (s'.size : Int) := by omega
                    have HN := Lib.hid (HA'.out.long (by rw [List.length_append, List.length_replicate]; omega))
                    have HV := Lib.hid (upV_no HN.out)
                    clear hsz h48
                    go_wp2_with fail
                    go_ret2
                    exact ⟨by rw [HV.out, HN.out]; rfl, HBj.out⟩
      · obtain rfl : i = 97 := by omega
        have HN := Lib.hid (upOk_long (t := t) (by omega))
        have HV := Lib.hid (upV_no HN.out)
        have CL := sLetters_txt s (by unfold maxLen; omega)
        have hd97 : decide ((97 : Int) ≤ 96) = false := by decide
        cases hlb : letB s with
        | false =>
          rw [hlb] at CL
          clear hlb
          go_wp2_with (first | (go_at_call 20; refine (CL _).mono ?_; rintro e w1 ⟨rfl, hb1⟩))
          go_ret2
          exact ⟨by rw [HV.out, HN.out]; rfl, HB.out.trans (hb1.mono HB.out.size)⟩
        | true =>
          have CP := sPacked_any s hs
          have q1 := str_ne (show pkV s ≠ t from fun e => by have := pkV_le s; rw [e] at this; omega)
          rw [hlb] at CL
          clear hlb
          go_wp2_with (first
            | (go_at_call 20; refine (CL _).mono ?_; rintro e w1 ⟨rfl, hb1⟩; have HB1 := Lib.hid (HB.out.trans (hb1.mono HB.out.size)))
            | (go_at_call 21; refine (CP _).mono ?_; rintro e w2 ⟨rfl, hb2⟩; have HB2 := Lib.hid (HB1.out.trans (hb2.mono HB1.out.size))))
          go_ret2
          exact ⟨by rw [HV.out, HN.out]; rfl, HB2.out⟩
    · obtain rfl : i = t.size := by omega
      have hU := HA.out.fin rfl
      have HU := Lib.hid hU
      have HK := Lib.hid (upOk_some hU)
      clear hU
      have CL := sLetters_txt s (by unfold maxLen; omega)
      cases hlb : letB s with
      | false =>
        have HN : Hid (upOk t = false) := by show _ = _; rw [HK.out, ← HS.out, hlb]; rfl
        have HV := Lib.hid (upV_no HN.out)
        rw [hlb] at CL
        clear hlb
        go_wp2_with (first | (go_at_call 20; refine (CL _).mono ?_; rintro e w1 ⟨rfl, hb1⟩))
        go_ret2
        exact ⟨by rw [HV.out, HN.out]; rfl, HB.out.trans (hb1.mono HB.out.size)⟩
      | true =>
        have CP := sPacked_any s hs
        by_cases hq : pkV s = t
        · have HN : Hid (upOk t = true) := by show _ = _; rw [HK.out, ← HS.out, hlb, decide_eq_true hq]; rfl
          have HV : Hid (upV t = s) := by show _ = _; rw [upV_some HU.out HN.out, HS.out]
          have q1 := str_eq hq
          rw [hlb] at CL
          clear hlb hq
          go_wp2_with (first
            | (go_at_call 20; refine (CL _).mono ?_; rintro e w1 ⟨rfl, hb1⟩; have HB1 := Lib.hid (HB.out.trans (hb1.mono HB.out.size)))
            | (go_at_call 21; refine (CP _).mono ?_; rintro e w2 ⟨rfl, hb2⟩; have HB2 := Lib.hid (HB1.out.trans (hb2.mono HB1.out.size))))
          go_ret2
          exact ⟨by rw [HV.out, HN.out]; rfl, HB2.out⟩
        · have HN : Hid (upOk t = false) := by show _ = _; rw [HK.out, ← HS.out, hlb, decide_eq_false hq]; rfl
          have HV := Lib.hid (upV_no HN.out)
          have q1 := str_ne hq
          rw [hlb] at CL
          clear hlb hq
          go_wp2_with (first
            | (go_at_call 20; refine (CL _).mono ?_; rintro e w1 ⟨rfl, hb1⟩; have HB1 := Lib.hid (HB.out.trans (hb1.mono HB.out.size)))
            | (go_at_call 21; refine (CP _).mono ?_; rintro e w2 ⟨rfl, hb2⟩; have HB2 := Lib.hid (HB1.out.trans (hb2.mono HB1.out.size))))
          go_ret2
          exact ⟨by rw [HV.out, HN.out]; rfl, HB2.out⟩
end Go.Proofs.YtpmklldochpnlaaDoor
