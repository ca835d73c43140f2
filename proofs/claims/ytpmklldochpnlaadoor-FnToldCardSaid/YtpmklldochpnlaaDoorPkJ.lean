/- Packing: the program's walk, PackText of both. -/
import Derived.Test.YtpmklldochpnlaaDoorPkI

namespace Go.Proofs.YtpmklldochpnlaaDoor
open Go.RowKit Go.PlainAid
set_option linter.unusedVariables false
set_option maxRecDepth 100000 in
set_option maxHeartbeats 4000000 in
theorem iPacked_any (t : ByteArray) (ht : t.size ≤ 48) (w : World) :
    Calls Tryd.prog 23 #[.string t] w fun e w' => e = .returned (.string (pkV t)) ∧ Below w.heap.size w w' := by
  have hg := get_b8 t
  go_enter Tryd.func23, Tryd.ntmps23
  go_wp2_with fail
  go_loopg [3, 4, 5] t.size (fun m o i5 k5 wr => ∃ (i g c : Nat) (acc : List UInt8), o = .slice (some ⟨g, 0, none⟩) acc.length c ∧ i5 = .int .i64 i ∧ i ≤ t.size ∧ t.size ≤ m + i ∧ acc.length ≤ 3 * i ∧ Hid (pkG t i acc = pkG t 0 []) ∧ Hid (OwnB wr w.heap.size g c acc) ∧ Hid (Below w.heap.size w wr))
  case atStart => exact ⟨0, _, 0, [], rfl, rfl, by omega, by omega, by simp, rfl, OwnB.made w w.heap.size (Nat.le_refl _), (Below.refl _ _).alloc (Nat.le_refl _) _⟩
  case round =>
    obtain ⟨i, g, c, acc, rfl, rfl, hi, hm, hacc, HG, HO, HB⟩ := hrel
    obtain ⟨wo, rfl⟩ : ∃ x : World, x = wr := ⟨_, rfl⟩
    by_cases hlt : i < t.size
    · have l0 : (0 : Int) ≤ (i : Int) := by omega
      have hG2 := Lib.hid (pkG_step (acc := acc) hlt)
      have hE := Lib.hid (pkE_bd hlt)
      go_wp2_with fail
      obtain ⟨go, hgo⟩ : ∃ g : Nat, g = gk := ⟨_, rfl⟩
      go_loopg [5] t.size (fun m k5 wv => ∃ k : Nat, k5 = .int .i64 k ∧ i ≤ k ∧ k ≤ t.size ∧ t.size ≤ m + k ∧ Hid (PkAt t i k) ∧ Hid (OwnB wv w.heap.size g c acc) ∧ Hid (Below w.heap.size w wv))
      case atStart => exact ⟨i, rfl, Nat.le_refl _, hi, by omega, PkAt.first hi, HO.out, HB.out⟩
      case round =>
        obtain ⟨k, rfl, hik, hk, hmk, HA, HOv, HBv⟩ := hrel
        obtain ⟨wv, rfl⟩ : ∃ x : World, x = wr := ⟨_, rfl⟩
        have l1 : (0 : Int) ≤ (k : Int) := by omega
        by_cases hks : k < t.size
        · by_cases hq : b8 t k = b8 t i
          · have HA' := Lib.hid (HA.out.step hks hq)
            have q1 := u8_eqT hq
            clear hq
            go_wp2_with fail
            go_quiet (fail)
            go_wp2_with fail
            go_roundg (gk - 1)
            case measure => omega
            case rel => exact ⟨k + 1, by go_num, by omega, by omega, by omega, HA'.out, HOv.out, below_draws HBv.out _⟩
          · have HE := Lib.hid (HA.out.stop hks hq)
            have q1 := u8_eqF hq
            clear hq
            have HX : Hid (pkG t k (acc ++ pkPut t i) = pkG t 0 []) := by show _ = _; rw [← HG.out, hG2.out, HE.out]
            have hik1 : i + 1 ≤ k := by have := hE.out; rw [HE.out] at this; exact this.1
            have HSV := Lib.hid HBv.out.size
            by_cases h1 : 1 < k - i
            · have l4 : (1 : Int) < (k : Int) - (i : Int) := by omega
              have n2 : (k : Int) - (i : Int) = ((k - i : Nat) : Int) := by omega
              obtain ⟨z, hz⟩ : ∃ z, z = k - i := ⟨_, rfl⟩
              have HP : Hid (acc ++ pkPut t i = (acc ++ dec2 z) ++ [b8 t i]) := by show _ = _; rw [pkPut, HE.out, if_pos h1, hz, List.append_assoc]
              have hzn : z < 100 := by omega
              have C := fun (q : Nat) => iAppI_any z hzn w.heap.size g c acc (wv.drewN q) (by omega) (HOv.out.drewN q) HSV.out
              rw [← hz] at n2
              have l5 : (1 : Int) < (z : Int) := by omega
              have w1 : IntKind.i64.wrap ((k : Int) - (i : Int)) = (z : Int) := by rw [n2]; exact IntWalk.i64_in _ (by omega)
              have hpl := pkPut_len t i
              have hdl := dec2_len z
              have hal : (acc ++ dec2 z).length + 1 ≤ 4294967296 := by rw [List.length_append]; omega
              clear h1 hz n2 l4
              go_wp2_with fail
              go_quiet (fail)
              go_wp2_with (first
                | (go_at_call 40; refine (C _).mono ?_; rintro e w2 ⟨g2, c2, rfl, hO2, hb2⟩; clear C; have HO2 := Lib.hid hO2; have HB2 := Lib.hid ((below_draws HBv.out _).trans hb2); have HS2 := Lib.hid HB2.out.size; clear hO2 hb2)
                | (at_builtin; refine wpList_byte_push _ rfl (.tmp 36) (.tmp 40) rfl w.heap.size g2 c2 (acc ++ dec2 z).length (acc ++ dec2 z) rfl (by first | rfl | (rw [List.length_append]; rfl)) HO2.out (b8 t i) rfl hal HS2.out ?_; intro g3 c3 w3 hown hbl hgg))
              go_roundg (go - 1)
              case measure => omega
              case rel => exact ⟨k, g3, c3, acc ++ pkPut t i, by rw [HP.out, List.length_append, List.length_append]; rfl, rfl, hk, by omega, by rw [List.length_append]; omega, HX.out, by rw [HP.out]; exact hown, HB2.out.trans hbl⟩
            · have n2 : (k : Int) - (i : Int) = 1 := by omega
              have HP : Hid (acc ++ pkPut t i = acc ++ [b8 t i]) := by show _ = _; rw [pkPut, HE.out, if_neg h1]; rfl
              have w1 : IntKind.i64.wrap ((k : Int) - (i : Int)) = 1 := by rw [n2]; rfl
              have hpl := pkPut_len t i
              have hal : acc.length + 1 ≤ 4294967296 := by omega
              clear h1 n2
              go_wp2_with fail
              go_quiet (fail)
              go_wp2_with (first | (at_builtin; refine wpList_byte_push _ rfl (.tmp 36) (.tmp 40) rfl w.heap.size g c acc.length acc rfl rfl (HOv.out.drewN _) (b8 t i) rfl hal HSV.out ?_; intro g3 c3 w3 hown hbl hgg))
              go_roundg (go - 1)
              case measure => omega
              case rel => exact ⟨k, g3, c3, acc ++ pkPut t i, by rw [HP.out, List.length_append]; rfl, rfl, hk, by omega, by rw [List.length_append]; omega, HX.out, by rw [HP.out]; exact hown, (below_draws HBv.out _).trans hbl⟩
        · obtain rfl : k = t.size := by omega
          have HE := Lib.hid (HA.out.fin rfl)
          have hd0 : decide (t.size < t.size) = false := decide_eq_false (by omega)
          have HX : Hid (pkG t t.size (acc ++ pkPut t i) = pkG t 0 []) := by show _ = _; rw [← HG.out, hG2.out, HE.out]
          have hik1 : i + 1 ≤ t.size := by have := hE.out; rw [HE.out] at this; exact this.1
          have HSV := Lib.hid HBv.out.size
          by_cases h1 : 1 < t.size - i
          · have l4 : (1 : Int) < (t.size : Int) - (i : Int) := by omega
            have n2 : (t.size : Int) - (i : Int) = ((t.size - i : Nat) : Int) := by omega
            obtain ⟨z, hz⟩ : ∃ z, z = t.size - i := ⟨_, rfl⟩
            have HP : Hid (acc ++ pkPut t i = (acc ++ dec2 z) ++ [b8 t i]) := by show _ = _; rw [pkPut, HE.out, if_pos h1, hz, List.append_assoc]
            have hzn : z < 100 := by omega
            have C := fun (q : Nat) => iAppI_any z hzn w.heap.size g c acc (wv.drewN q) (by omega) (HOv.out.drewN q) HSV.out
            rw [← hz] at n2
            have l5 : (1 : Int) < (z : Int) := by omega
            have w1 : IntKind.i64.wrap ((t.size : Int) - (i : Int)) = (z : Int) := by rw [n2]; exact IntWalk.i64_in _ (by omega)
            have hpl := pkPut_len t i
            have hdl := dec2_len z
            have hal : (acc ++ dec2 z).length + 1 ≤ 4294967296 := by rw [List.length_append]; omega
            clear h1 hz n2 l4
            go_wp2_with fail
            go_quiet (fail)
            go_wp2_with (first
              | (go_at_call 40; refine (C _).mono ?_; rintro e w2 ⟨g2, c2, rfl, hO2, hb2⟩; clear C; have HO2 := Lib.hid hO2; have HB2 := Lib.hid ((below_draws HBv.out _).trans hb2); have HS2 := Lib.hid HB2.out.size; clear hO2 hb2)
              | (at_builtin; refine wpList_byte_push _ rfl (.tmp 36) (.tmp 40) rfl w.heap.size g2 c2 (acc ++ dec2 z).length (acc ++ dec2 z) rfl (by first | rfl | (rw [List.length_append]; rfl)) HO2.out (b8 t i) rfl hal HS2.out ?_; intro g3 c3 w3 hown hbl hgg))
            go_roundg (go - 1)
            case measure => omega
            case rel => exact ⟨t.size, g3, c3, acc ++ pkPut t i, by rw [HP.out, List.length_append, List.length_append]; rfl, rfl, hk, by omega, by rw [List.length_append]; omega, HX.out, by rw [HP.out]; exact hown, HB2.out.trans hbl⟩
          · have n2 : (t.size : Int) - (i : Int) = 1 := by omega
            have HP : Hid (acc ++ pkPut t i = acc ++ [b8 t i]) := by show _ = _; rw [pkPut, HE.out, if_neg h1]; rfl
            have w1 : IntKind.i64.wrap ((t.size : Int) - (i : Int)) = 1 := by rw [n2]; rfl
            have hpl := pkPut_len t i
            have hal : acc.length + 1 ≤ 4294967296 := by omega
            clear h1 n2
            go_wp2_with fail
            go_quiet (fail)
            go_wp2_with (first | (at_builtin; refine wpList_byte_push _ rfl (.tmp 36) (.tmp 40) rfl w.heap.size g c acc.length acc rfl rfl (HOv.out.drewN _) (b8 t i) rfl hal HSV.out ?_; intro g3 c3 w3 hown hbl hgg))
            go_roundg (go - 1)
            case measure => omega
            case rel => exact ⟨t.size, g3, c3, acc ++ pkPut t i, by rw [HP.out, List.length_append]; rfl, rfl, hk, by omega, by rw [List.length_append]; omega, HX.out, by rw [HP.out]; exact hown, (below_draws HBv.out _).trans hbl⟩
    · obtain rfl : i = t.size := by omega
      have hstr := holds_string (c := c) (OwnB.holds HO.out)
      go_wp2_with fail
      go_ret
      exact ⟨by unfold pkV; rw [← HG.out, pkG_end]; rfl, HB.out⟩
def pkOk (t : ByteArray) : Bool := letB t
def pkR (t : ByteArray) : ByteArray := if letB t then pkV t else ⟨#[]⟩
theorem letB_48 {t : ByteArray} (h : letB t = true) : t.size ≤ 48 := by
  have h : (letsB t && txtB t) = true := h
  rw [Bool.and_eq_true] at h
  exact txtB_true h.2
theorem iPackText_any (t : ByteArray) (wt : t.size ≤ maxLen) (w : World) :
    Calls Tryd.prog 7 #[.string t] w fun e w' => e = .returned (.tuple #[.string (pkR t), .bool (letB t)]) ∧ Below w.heap.size w w' := by
  cases hl : letB t with
  | true =>
    have C := iPacked_any t (letB_48 hl)
    have HR : Hid (pkR t = pkV t) := if_pos hl
    go_enter Tryd.func7, Tryd.ntmps7
    go_wp2_with (first | (go_at_call 22; refine (iLetters_any _ wt _).mono ?_; rintro e w1 ⟨rfl, hb1⟩; rw [hl]) | (go_at_call 23; refine (C _).mono ?_; rintro e w2 ⟨rfl, hb2⟩; clear C))
    go_ret2
    exact ⟨by rw [HR.out]; rfl, hb1.trans (hb2.mono hb1.size)⟩
  | false =>
    have HR : Hid (pkR t = ⟨#[]⟩) := if_neg (by rw [hl]; simp)
    go_enter Tryd.func7, Tryd.ntmps7
    go_wp2_with (first | (go_at_call 22; refine (iLetters_any _ wt _).mono ?_; rintro e w1 ⟨rfl, hb1⟩; rw [hl]))
    go_ret2
    exact ⟨by rw [HR.out]; rfl, hb1⟩
theorem sPackText_any (t : ByteArray) (wt : t.size ≤ maxLen) (w : World) :
    Calls Tryd.prog 6 #[.string t] w fun e w' => e = .returned (.tuple #[.string (pkR t), .bool (letB t)]) ∧ Below w.heap.size w w' := by
  cases hl : letB t with
  | true =>
    have C := sPacked_any t (letB_48 hl)
    have HR : Hid (pkR t = pkV t) := if_pos hl
    go_enter Tryd.func6, Tryd.ntmps6
    go_wp2_with (first | (go_at_call 20; refine (sLetters_txt _ wt _).mono ?_; rintro e w1 ⟨rfl, hb1⟩; rw [hl]) | (go_at_call 21; refine (C _).mono ?_; rintro e w2 ⟨rfl, hb2⟩; clear C))
    go_ret2
    exact ⟨by rw [HR.out]; rfl, hb1.trans (hb2.mono hb1.size)⟩
  | false =>
    have HR : Hid (pkR t = ⟨#[]⟩) := if_neg (by rw [hl]; simp)
    go_enter Tryd.func6, Tryd.ntmps6
    go_wp2_with (first | (go_at_call 20; refine (sLetters_txt _ wt _).mono ?_; rintro e w1 ⟨rfl, hb1⟩; rw [hl]))
    go_ret2
    exact ⟨by rw [HR.out]; rfl, hb1⟩
end Go.Proofs.YtpmklldochpnlaaDoor
