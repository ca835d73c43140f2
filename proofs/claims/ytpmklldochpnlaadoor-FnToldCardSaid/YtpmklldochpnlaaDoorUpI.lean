/- Unpacking: the program. -/
import Derived.Test.YtpmklldochpnlaaDoorUpP
import Derived.Test.YtpmklldochpnlaaDoorPkJ

namespace Go.Proofs.YtpmklldochpnlaaDoor
open Go.RowKit Go.PlainAid
set_option linter.unusedVariables false
theorem OwnB.belowU {w w' : World} {base g c B : Nat} {l : List UInt8} (h : OwnB w base g c l) (hb : Below B w w') (hB : w.heap.size ≤ B) : OwnB w' base g c l :=
  World.ownsRow.kept (row := none) h ⟨hb.os, hb.tape, hb.output, hb.size, fun k hk _ => hb.block k (by omega)⟩ (by cases (Value.slice (some ⟨g, 0, none⟩) l.length c).ownBlock <;> simp)
theorem iDg_any (c : UInt8) (w : World) : Calls Tryd.prog 25 #[.int .u8 (c.toNat : Int)] w fun e w' => e = .returned (.bool (isDg c)) ∧ w = w' := by
  by_cases h1 : 48 ≤ (c.toNat : Int)
  · by_cases h2 : (c.toNat : Int) ≤ 57
    · have H := Lib.hid (show isDg c = true from decide_eq_true ⟨h1, h2⟩)
      go_enter Tryd.func25, Tryd.ntmps25
      go_wp2_with fail
      go_ret
      exact ⟨ret_bool H.out.symm, rfl⟩
    · have H := Lib.hid (show isDg c = false from decide_eq_false (fun h => h2 h.2))
      have h3 : 57 < (c.toNat : Int) := by omega
      have h4 : decide ((c.toNat : Int) ≤ 57) = false := decide_eq_false h2
      clear h2
      go_enter Tryd.func25, Tryd.ntmps25
      go_wp2_with fail
      go_ret
      first | exact ⟨ret_bool H.out.symm, rfl⟩ | exact ⟨ret_bool (h4.trans H.out.symm), rfl⟩
  · have H := Lib.hid (show isDg c = false from decide_eq_false (fun h => h1 h.1))
    have h3 : (c.toNat : Int) < 48 := by omega
    clear h1
    go_enter Tryd.func25, Tryd.ntmps25
    go_wp2_with fail
    go_ret
    exact ⟨ret_bool H.out.symm, rfl⟩
set_option maxRecDepth 100000 in
set_option maxHeartbeats 4000000 in
theorem iUnpack_any (t : ByteArray) (wt : t.size ≤ maxLen) (w : World) :
    Calls Tryd.prog 9 #[.string t] w fun e w' => e = .returned (.tuple #[.string (upV t), .bool (upOk t)]) ∧ Below w.heap.size w w' := by
  cases htx : txtB t with
  | false =>
    have hlen : 48 < t.size := by have := of_decide_eq_false htx; omega
    have HN := Lib.hid (upOk_long hlen)
    have HV := Lib.hid (upV_no HN.out)
    go_enter Tryd.func9, Tryd.ntmps9
    go_wp2_with (first | (go_at_call 24; refine (iIsText_any _ wt _).mono ?_; rintro e w' ⟨rfl, hw⟩; obtain rfl := hw; rw [htx]))
    go_ret2
    exact ⟨by rw [HV.out, HN.out]; rfl, Below.refl _ _⟩
  | true =>
    have ht := txtB_true htx
    have hg := get_b8 t
    go_enter Tryd.func9, Tryd.ntmps9
    go_wp2_with (first | (go_at_call 24; refine (iIsText_any _ wt _).mono ?_; rintro e w' ⟨rfl, hw⟩; obtain rfl := hw; rw [htx]))
    go_loopg [4, 5, 13] t.size (fun m o n5 i13 wr => ∃ (i n g c : Nat) (out : List UInt8), o = .slice (some ⟨g, 0, none⟩) out.length c ∧ n5 = .int .i64 n ∧ i13 = .int .i64 i ∧ i ≤ t.size ∧ t.size ≤ m + i ∧ n ≤ 48 ∧ out.length ≤ 48 * i ∧ Hid (UpAt t i out n) ∧ Hid (OwnB wr w.heap.size g c out) ∧ Hid (Below w.heap.size w wr))
    case atStart => exact ⟨0, 0, _, 0, [], rfl, rfl, rfl, by omega, by omega, by omega, by simp, UpAt.first t, OwnB.made _ _ (Nat.le_refl _), (Below.refl _ _).alloc (Nat.le_refl _) _⟩
    case round =>
      obtain ⟨i, n, g, c, out, rfl, rfl, rfl, hi, hm, hn, ho, HA, HO, HB⟩ := hrel
      obtain ⟨wo, rfl⟩ : ∃ x : World, x = wr := ⟨_, rfl⟩
      by_cases hlt : i < t.size
      · have l0 : (0 : Int) ≤ (i : Int) := by omega
        have CD := iDg_any (b8 t i)
        cases hd : isDg (b8 t i) with
        | true =>
          have hbd := isDg_bd hd
          rw [hd] at CD
          obtain ⟨z, hz⟩ : ∃ z, z = 10 * n + ((b8 t i).toNat - 48) := ⟨_, rfl⟩
          have hzi : 10 * (n : Int) + (((b8 t i).toNat : Int) - 48) = (z : Int) := by omega
          have w8 : IntKind.u8.wrap (((b8 t i).toNat : Int) - 48) = ((b8 t i).toNat : Int) - 48 := IntWalk.u8_in _ (by omega)
          have w7 : IntKind.i64.wrap (((b8 t i).toNat : Int) - 48) = ((b8 t i).toNat : Int) - 48 := IntWalk.i64_in _ (by omega)
          have w1 : IntKind.i64.wrap (10 * (n : Int)) = 10 * (n : Int) := IntWalk.i64_in _ (by omega)
          have w2 : IntKind.i64.wrap (10 * (n : Int) + (((b8 t i).toNat : Int) - 48)) = (z : Int) := by rw [hzi]; exact IntWalk.i64_in _ (by omega)
          by_cases hz48 : z ≤ 48
          · have HA' : Hid (UpAt t (i + 1) out z) := by have := HA.out.dig hlt hd (by omega); rw [← hz] at this; exact this
            clear hd hzi hz
            go_wp2_with (first | (go_at_call 25; refine (CD _).mono ?_; rintro e w' ⟨rfl, hw⟩; subst hw))
            go_roundg (gk - 1)
            case measure => omega
            case rel => exact ⟨i + 1, z, g, c, out, rfl, rfl, by go_num, by omega, by omega, hz48, by omega, HA'.out, HO.out, HB.out⟩
          · have HN := Lib.hid (upOk_none (HA.out.over hlt hd (by omega)))
            have HV := Lib.hid (upV_no HN.out)
            have hz49 : (48 : Int) < (z : Int) := by omega
            clear hd hzi hz hz48
            go_wp2_with (first | (go_at_call 25; refine (CD _).mono ?_; rintro e w' ⟨rfl, hw⟩; subst hw))
            go_ret2
            exact ⟨by rw [HV.out, HN.out]; rfl, HB.out⟩
        | false =>
          rw [hd] at CD
          have HA' := Lib.hid (HA.out.put hlt hd)
          clear hd
          obtain ⟨r, hr⟩ : ∃ r, r = max n 1 := ⟨_, rfl⟩
          rw [← hr] at HA'
          have hr1 : 1 ≤ r := by omega
          have hr48 : r ≤ 48 := by omega
          by_cases hn0 : n < 1
          · obtain rfl : n = 0 := by omega
            obtain rfl : r = 1 := by omega
            clear hr
            go_wp2_with (first | (go_at_call 25; refine (CD _).mono ?_; rintro e w' ⟨rfl, hw⟩; subst hw))
            obtain ⟨go, hgo⟩ : ∃ g : Nat, g = gk := ⟨_, rfl⟩
            go_loopg [4, 32] 1 (fun m o j32 wv => ∃ (j g c : Nat), o = .slice (some ⟨g, 0, none⟩) (out ++ List.replicate j (b8 t i)).length c ∧ j32 = .int .i64 j ∧ j ≤ 1 ∧ 1 ≤ m + j ∧ Hid (OwnB wv w.heap.size g c (out ++ List.replicate j (b8 t i))) ∧ Hid (Below w.heap.size w wv))
            case atStart => exact ⟨0, g, c, by simp, rfl, by omega, by omega, by show OwnB _ _ _ _ _; have h := HO.out; simpa using h, HB.out⟩
            case round =>
              obtain ⟨j, g', c', rfl, rfl, hj, hmj, HOj, HBj⟩ := hrel
              obtain ⟨wv, rfl⟩ : ∃ x : World, x = wr := ⟨_, rfl⟩
              have HSj := Lib.hid HBj.out.size
              by_cases hjr : j < 1
              · have hal : (out ++ List.replicate j (b8 t i)).length + 1 ≤ 4294967296 := by rw [List.length_append, List.length_replicate]; omega
                have hsn : Hid (out ++ List.replicate (j + 1) (b8 t i) = (out ++ List.replicate j (b8 t i)) ++ [b8 t i]) := by show _ = _; rw [List.replicate_succ', List.append_assoc]
                go_wp2_with (first | (at_builtin; refine wpList_byte_push _ rfl (.tmp 34) (.tmp 38) rfl w.heap.size g' c' (out ++ List.replicate j (b8 t i)).length (out ++ List.replicate j (b8 t i)) rfl (by first | rfl | (rw [List.length_append, List.length_replicate]; rfl)) HOj.out (b8 t i) rfl hal HSj.out ?_; intro g3 c3 w3 hown hbl hgg))
                go_roundg (gk - 1)
                case measure => omega
                case rel => exact ⟨j + 1, g3, c3, by rw [hsn.out, List.length_append]; first | rfl | (simp; done), by go_num, by omega, by omega, by rw [hsn.out]; exact hown, HBj.out.trans hbl⟩
              · obtain rfl : j = 1 := by omega
                go_wp2_with fail
                go_roundg (go - 1)
                case measure => omega
                case rel => exact ⟨i + 1, 0, g', c', _, rfl, rfl, by go_num, by omega, by omega, by omega, by rw [List.length_append, List.length_replicate]; omega, HA'.out, HOj.out, HBj.out⟩
          · have hn1 : (1 : Int) ≤ (n : Int) := by omega
            obtain rfl : r = n := by omega
            clear hr hn0
            go_wp2_with (first | (go_at_call 25; refine (CD _).mono ?_; rintro e w' ⟨rfl, hw⟩; subst hw))
            obtain ⟨go, hgo⟩ : ∃ g : Nat, g = gk := ⟨_, rfl⟩
            go_loopg [4, 32] r (fun m o j32 wv => ∃ (j g c : Nat), o = .slice (some ⟨g, 0, none⟩) (out ++ List.replicate j (b8 t i)).length c ∧ j32 = .int .i64 j ∧ j ≤ r ∧ r ≤ m + j ∧ Hid (OwnB wv w.heap.size g c (out ++ List.replicate j (b8 t i))) ∧ Hid (Below w.heap.size w wv))
            case atStart => exact ⟨0, g, c, by simp, rfl, by omega, by omega, by show OwnB _ _ _ _ _; have h := HO.out; simpa using h, HB.out⟩
            case round =>
              obtain ⟨j, g', c', rfl, rfl, hj, hmj, HOj, HBj⟩ := hrel
              obtain ⟨wv, rfl⟩ : ∃ x : World, x = wr := ⟨_, rfl⟩
              have HSj := Lib.hid HBj.out.size
              by_cases hjr : j < r
              · have hal : (out ++ List.replicate j (b8 t i)).length + 1 ≤ 4294967296 := by rw [List.length_append, List.length_replicate]; omega
                have hsn : Hid (out ++ List.replicate (j + 1) (b8 t i) = (out ++ List.replicate j (b8 t i)) ++ [b8 t i]) := by show _ = _; rw [List.replicate_succ', List.append_assoc]
                go_wp2_with (first | (at_builtin; refine wpList_byte_push _ rfl (.tmp 34) (.tmp 38) rfl w.heap.size g' c' (out ++ List.replicate j (b8 t i)).length (out ++ List.replicate j (b8 t i)) rfl (by first | rfl | (rw [List.length_append, List.length_replicate]; rfl)) HOj.out (b8 t i) rfl hal HSj.out ?_; intro g3 c3 w3 hown hbl hgg))
                go_roundg (gk - 1)
                case measure => omega
                case rel => exact ⟨j + 1, g3, c3, by rw [hsn.out, List.length_append]; first | rfl | (simp; done), by go_num, by omega, by omega, by rw [hsn.out]; exact hown, HBj.out.trans hbl⟩
              · obtain rfl : r = j := by omega
                go_wp2_with fail
                go_roundg (go - 1)
                case measure => omega
                case rel => exact ⟨i + 1, 0, g', c', _, rfl, rfl, by go_num, by omega, by omega, by omega, by rw [List.length_append, List.length_replicate]; omega, HA'.out, HOj.out, HBj.out⟩
      · obtain rfl : i = t.size := by omega
        have hU := HA.out.fin rfl
        have HU := Lib.hid hU
        have HK := Lib.hid (upOk_some hU)
        clear hU
        obtain ⟨S, hS⟩ : ∃ S : ByteArray, S = ⟨out.toArray⟩ := ⟨_, rfl⟩
        have hSs : S.size = out.length := by rw [hS, size_arr]
        have hSm : S.size ≤ maxLen := by unfold maxLen; omega
        rw [← hS] at HK
        have hstr := holds_string (c := c) (OwnB.holds HO.out)
        rw [← hS] at hstr
        have HS := Lib.hid hS
        have CL := iLetters_any S hSm
        clear hS hSm hSs
        cases hlb : letB S with
        | false =>
          have HN : Hid (upOk t = false) := by show _ = _; rw [HK.out, hlb]; rfl
          have HV := Lib.hid (upV_no HN.out)
          rw [hlb] at CL
          clear hlb
          go_wp2_with (first | (go_at_call 22; refine (CL _).mono ?_; rintro e w1 ⟨rfl, hb1⟩))
          go_ret2
          exact ⟨by rw [HV.out, HN.out]; rfl, HB.out.trans (hb1.mono HB.out.size)⟩
        | true =>
          have CP := iPacked_any S (letB_le hlb)
          by_cases hq : pkV S = t
          · have HN : Hid (upOk t = true) := by show _ = _; rw [HK.out, hlb, decide_eq_true hq]; rfl
            have HV : Hid (upV t = S) := by show _ = _; rw [upV_some HU.out HN.out, HS.out]
            have q1 := str_eq hq
            rw [hlb] at CL
            clear hlb hq
            go_wp2_with (first
              | (go_at_call 22; refine (CL _).mono ?_; rintro e w1 ⟨rfl, hb1⟩; have HO1 := Lib.hid (OwnB.belowU HO.out hb1 (Nat.le_refl _)); have HB1 := Lib.hid (HB.out.trans (hb1.mono HB.out.size)); have hstr1 := holds_string (c := c) (OwnB.holds HO1.out); rw [← HS.out] at hstr1)
              | (go_at_call 23; refine (CP _).mono ?_; rintro e w2 ⟨rfl, hb2⟩; have HO2 := Lib.hid (OwnB.belowU HO1.out hb2 (Nat.le_refl _)); have HB2 := Lib.hid (HB1.out.trans (hb2.mono HB1.out.size)); have hstr2 := holds_string (c := c) (OwnB.holds HO2.out); rw [← HS.out] at hstr2))
            go_ret2
            exact ⟨by rw [HV.out, HN.out]; rfl, HB2.out⟩
          · have HN : Hid (upOk t = false) := by show _ = _; rw [HK.out, hlb, decide_eq_false hq]; rfl
            have HV := Lib.hid (upV_no HN.out)
            have q1 := str_ne hq
            rw [hlb] at CL
            clear hlb hq
            go_wp2_with (first
              | (go_at_call 22; refine (CL _).mono ?_; rintro e w1 ⟨rfl, hb1⟩; have HO1 := Lib.hid (OwnB.belowU HO.out hb1 (Nat.le_refl _)); have HB1 := Lib.hid (HB.out.trans (hb1.mono HB.out.size)); have hstr1 := holds_string (c := c) (OwnB.holds HO1.out); rw [← HS.out] at hstr1)
              | (go_at_call 23; refine (CP _).mono ?_; rintro e w2 ⟨rfl, hb2⟩; have HB2 := Lib.hid (HB1.out.trans (hb2.mono HB1.out.size))))
            go_ret2
            exact ⟨by rw [HV.out, HN.out]; rfl, HB2.out⟩
end Go.Proofs.YtpmklldochpnlaaDoor
