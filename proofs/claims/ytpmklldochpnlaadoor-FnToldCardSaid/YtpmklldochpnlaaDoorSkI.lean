/- SoundKey of the program. Printed by wip/bin/mk_sk.py. -/
import Derived.Test.YtpmklldochpnlaaDoorSk
import Derived.Test.YtpmklldochpnlaaDoorRev
import Derived.Deep.QuietTactic
import Derived.BigQuiet

namespace Go.Proofs.YtpmklldochpnlaaDoor
open Go.RowKit Go.PlainAid
set_option linter.unusedVariables false
theorem u8_nefl {x y : UInt8} (h : x = y) : ((x.toNat : Int) != (y.toNat : Int)) = false := by simp [h]
theorem u8_netr {x y : UInt8} (h : x ≠ y) : ((x.toNat : Int) != (y.toNat : Int)) = true := by
  rw [bne_iff_ne]; exact fun e => h (UInt8.toNat_inj.1 (by omega))
set_option maxRecDepth 100000 in
set_option maxHeartbeats 4000000 in
theorem iSoundKey_any (t : ByteArray) (wt : t.size ≤ maxLen) (w : World) :
    Calls Tryd.prog 17 #[.string t] w fun e w' => e = .returned (.tuple #[.string (skV t), .bool (skB t)]) ∧ Below w.heap.size w w' := by
  by_cases h0 : t.size = 0
  · have ht : t = ⟨#[]⟩ := by
      apply ByteArray.ext
      exact Array.eq_empty_of_size_eq_zero h0
    have he : t.toList.isEmpty = true := by rw [ht, ByteArray.toList_eq]; rfl
    have he2 : t.toList = [] := by rw [ht, ByteArray.toList_eq]
    have hB := Lib.hid (show skB t = false by simp [skB, h0])
    have hV := Lib.hid (show skV t = ⟨#[]⟩ by simp [skV, skB, h0])
    clear ht h0
    go_enter Tryd.func17, Tryd.ntmps17
    go_wp2
    go_ret2
    exact ⟨by rw [hV.out, hB.out]; rfl, Below.refl _ _⟩
  · have he2 : ¬ t.toList = [] := fun e => h0 (by
      have := congrArg List.length e
      rw [ByteArray.toList_eq] at this
      rw [Array.length_toList] at this
      exact this)
    have he : t.toList.isEmpty = false := by
      cases h : t.toList with
      | nil => exact absurd h he2
      | cons _ _ => rfl
    have hpos : 0 < t.size := by omega
    clear h0
    by_cases hl : letB t = true
    · have hB := Lib.hid (show skB t = true by simp [skB, hl, hpos])
      have hV := Lib.hid (show skV t = skPad (skAll t) (4 - (skAll t).length) by simp [skV, skB, hl, hpos])
      have hlt0 : letsB t = true ∧ txtB t = true := by
        have h : (letsB t && txtB t) = true := hl
        rw [Bool.and_eq_true] at h
        exact h
      have hsz := txtB_true hlt0.2
      have HL := Lib.hid hlt0.1
      clear hlt0
      have hg := get_b8 t
      go_enter Tryd.func17, Tryd.ntmps17
      go_wp2_with (first | (go_at_call 22; refine (iLetters_any _ wt _).mono ?_; rintro e w1 ⟨rfl, hb1⟩))
      go_loopg [4, 5, 20] t.size (fun m o sl si wr => ∃ (g c i : Nat) (key : List UInt8) (last : UInt8), o = .slice (some ⟨g, 0, none⟩) key.length c ∧ sl = .int .u8 (last.toNat : Int) ∧ si = .int .i64 i ∧ i ≤ t.size ∧ 1 ≤ key.length ∧ key.length ≤ 4 ∧ t.size ≤ m + i ∧ OwnB wr w1.heap.size g c key ∧ SkAt t i key last ∧ Below w1.heap.size w1 wr)
      case atStart => exact ⟨_, _, 0, [b8 t 0], 48, rfl, rfl, rfl, by omega, by simp, by simp, by omega, Row.own (cap := 0) (Row.new w1 5 [.int .u8 ((b8 t 0).toNat : Int)]) (Nat.le_refl _) (by simp [maxLen, bvs]), .inl ⟨rfl, rfl, rfl⟩, (Below.refl _ _).alloc (Nat.le_refl _) _⟩
      case round =>
        obtain ⟨g, c, i, key, last, rfl, rfl, rfl, hi, hk1, hk4, hm, hown, hat, hbl⟩ := hrel
        have HO := Lib.hid hown; clear hown
        have HA := Lib.hid hat; clear hat
        have hs1 := hbl.size
        by_cases hlt : i < t.size
        · have l1 : (0 : Int) ≤ (i : Int) := by omega
          by_cases hc : b8 t i = 104
          · have HC := Lib.hid hc
            go_wp2
            go_roundg (gk - 1)
            case measure => omega
            case rel => exact ⟨g, c, i + 1, key, last, rfl, rfl, by go_num, by omega, hk1, hk4, by omega, HO.out, HA.out.skip hlt (.inl HC.out), hbl⟩
          · have n1 : (((b8 t i).toNat : Int) == 104) = false := u8ne (n := 104) (by decide) hc
            have H1 := Lib.hid hc; clear hc
            by_cases hc : b8 t i = 119
            · have HC := Lib.hid hc
              go_wp2
              go_roundg (gk - 1)
              case measure => omega
              case rel => exact ⟨g, c, i + 1, key, last, rfl, rfl, by go_num, by omega, hk1, hk4, by omega, HO.out, HA.out.skip hlt (.inr HC.out), hbl⟩
            · have n2 : (((b8 t i).toNat : Int) == 119) = false := u8ne (n := 119) (by decide) hc
              have H2 := Lib.hid (show ¬ (b8 t i = 104 ∨ b8 t i = 119) from fun h => by rcases h with h | h; exact H1.out h; exact hc h)
              clear hc
              have hsnd := iSound (b8 t i) (letsB_at HL.out hlt)
              obtain ⟨d, hd⟩ : ∃ d, d = snd (b8 t i) := ⟨_, rfl⟩
              rw [← hd] at hsnd
              have HD := Lib.hid hd; clear hd
              by_cases hi0 : i = 0
              · have HI := Lib.hid hi0
                have hz : ¬ (0 : Int) < (i : Int) := by omega
                have hz2 : (i : Int) ≤ 0 := by omega
                clear hz hi0
                go_wp2_with (first | (go_at_call 33; refine (hsnd _).mono ?_; rintro e w2 ⟨rfl, hb2⟩))
                go_roundg (gk - 1)
                case measure => omega
                case rel => exact ⟨g, c, i + 1, key, d, rfl, rfl, by go_num, by omega, hk1, hk4, by omega, World.ownsRow.kept (row := none) HO.out ⟨hb2.os, hb2.tape, hb2.output, hb2.size, fun k hk _ => hb2.block k hk⟩ (by cases (Value.slice (some ⟨g, 0, none⟩) key.length c).ownBlock <;> simp), by rw [HD.out]; exact HA.out.keep hlt H2.out (.inl HI.out), hbl.trans (hb2.mono hs1)⟩
              · have hip : (0 : Int) < (i : Int) := by omega
                clear hi0
                by_cases hd : d = 48
                · have q1 : ((d.toNat : Int) != 48) = false := by simp [hd]
                  have HE := Lib.hid hd; clear hd
                  go_wp2_with (first | (go_at_call 33; refine (hsnd _).mono ?_; rintro e w2 ⟨rfl, hb2⟩))
                  go_roundg (gk - 1)
                  case measure => omega
                  case rel => exact ⟨g, c, i + 1, key, d, rfl, rfl, by go_num, by omega, hk1, hk4, by omega, World.ownsRow.kept (row := none) HO.out ⟨hb2.os, hb2.tape, hb2.output, hb2.size, fun k hk _ => hb2.block k hk⟩ (by cases (Value.slice (some ⟨g, 0, none⟩) key.length c).ownBlock <;> simp), by rw [HD.out]; exact HA.out.keep hlt H2.out (.inr (.inl (by rw [← HD.out]; exact HE.out))), hbl.trans (hb2.mono hs1)⟩
                · have q1 : ((d.toNat : Int) != 48) = true := u8_netr (y := 48) hd
                  have HE := Lib.hid hd; clear hd
                  by_cases hd : d = last
                  · have q2 := u8_nefl hd
                    have HF := Lib.hid hd; clear hd
                    go_wp2_with (first | (go_at_call 33; refine (hsnd _).mono ?_; rintro e w2 ⟨rfl, hb2⟩))
                    go_roundg (gk - 1)
                    case measure => omega
                    case rel => exact ⟨g, c, i + 1, key, d, rfl, rfl, by go_num, by omega, hk1, hk4, by omega, World.ownsRow.kept (row := none) HO.out ⟨hb2.os, hb2.tape, hb2.output, hb2.size, fun k hk _ => hb2.block k hk⟩ (by cases (Value.slice (some ⟨g, 0, none⟩) key.length c).ownBlock <;> simp), by rw [HD.out]; exact HA.out.keep hlt H2.out (.inr (.inr (.inl (by rw [← HD.out]; exact HF.out)))), hbl.trans (hb2.mono hs1)⟩
                  · have q2 := u8_netr hd
                    have HF := Lib.hid hd; clear hd
                    by_cases h4 : key.length < 4
                    · have h4' : (key.length : Int) < 4 := by omega
                      go_wp2_with (first
                        | (go_at_call 33; refine (hsnd _).mono ?_; rintro e w2 ⟨rfl, hb2⟩
                           have HO2 : Hid (OwnB w2 w1.heap.size g c key) := World.ownsRow.kept (row := none) HO.out ⟨hb2.os, hb2.tape, hb2.output, hb2.size, fun k hk _ => hb2.block k hk⟩ (by cases (Value.slice (some ⟨g, 0, none⟩) key.length c).ownBlock <;> simp)
                           have hs2 : w1.heap.size ≤ w2.heap.size := Nat.le_trans hs1 hb2.size)
                        | (at_builtin; refine wpList_byte_push _ rfl (.tmp 53) (.tmp 55) rfl w1.heap.size g c key.length key rfl (by rfl) HO2.out d (by rfl) (by omega) hs2 ?_; intro g' c' w' hown hbl2 hgg))
                      go_roundg (gk - 1)
                      case measure => omega
                      case rel => exact ⟨g', c', i + 1, key ++ [d], d, by simp, rfl, by go_num, by omega, by simp, by simp; omega, by omega, hown, by rw [HD.out]; exact HA.out.put (by omega) hlt H2.out (by rw [← HD.out]; exact HE.out) (by rw [← HD.out]; exact HF.out) h4, (hbl.trans (hb2.mono hs1)).trans hbl2⟩
                    · have h4' : (4 : Int) ≤ (key.length : Int) := by omega
                      go_wp2_with (first | (go_at_call 33; refine (hsnd _).mono ?_; rintro e w2 ⟨rfl, hb2⟩))
                      go_roundg (gk - 1)
                      case measure => omega
                      case rel => exact ⟨g, c, i + 1, key, d, rfl, rfl, by go_num, by omega, hk1, hk4, by omega, World.ownsRow.kept (row := none) HO.out ⟨hb2.os, hb2.tape, hb2.output, hb2.size, fun k hk _ => hb2.block k hk⟩ (by cases (Value.slice (some ⟨g, 0, none⟩) key.length c).ownBlock <;> simp), by rw [HD.out]; exact HA.out.keep hlt H2.out (.inr (.inr (.inr (by omega)))), hbl.trans (hb2.mono hs1)⟩
        · obtain rfl : i = t.size := by omega
          have HK := Lib.hid (HA.out.fin rfl hpos)
          have hstr := holds_string (c := c) HO.out.holds
          have n3 : ((4 : Int) - (key.length : Int)).toNat = 4 - key.length := by omega
          have hz3 : (⟨#[48, 48, 48]⟩ : ByteArray).size = 3 := rfl
          have l4 : (0 : Int) ≤ 4 - (key.length : Int) := by omega
          have l5 : (4 : Int) - (key.length : Int) ≤ 3 := by omega
          have w4 : IntKind.i64.wrap (4 - (key.length : Int)) = 4 - (key.length : Int) := IntWalk.i64_in _ (by omega)
          have hcut := Lib.hid (skPad_cut key (m := 4 - key.length) (by omega))
          have hks : (⟨key.toArray⟩ : ByteArray).size ≤ 4 := by rw [key_size]; exact hk4
          have hxs : ((⟨#[48, 48, 48]⟩ : ByteArray).extract 0 (4 - key.length)).size ≤ 4 := by rw [ByteArray.size_extract, hz3]; omega
          obtain ⟨ks, hks2⟩ : ∃ ks : ByteArray, ks = ⟨key.toArray⟩ := ⟨_, rfl⟩
          rw [← hks2] at hstr hks hcut
          clear hks2
          have hstr2 : ∀ q, (convert 25 9 (.slice (some ⟨g, 0, none⟩) key.length c)).run Tryd.prog (wr.drewN q) = .ok (.string ks) (wr.drewN q) := fun q => by
            have := holds_string (c := c) (l := key) (w := wr.drewN q) (g := g) HO.out.holds
            rw [this]
            congr 2
            exact (by injection (Result.ok.inj (hstr.symm.trans (holds_string (c := c) HO.out.holds))).1 with e; exact e.symm)
          go_wp2
          go_quiet (fail)
          go_wp2
          go_ret2
          refine ⟨by rw [hV.out, hB.out, ← HK.out, ← hcut.out]; rfl, ?_⟩
          exact hb1.trans ((below_draws hbl _).mono hb1.size)
    · have hl' : letB t = false := by simpa using hl
      have hB := Lib.hid (show skB t = false by simp [skB, hl'])
      have hV := Lib.hid (show skV t = ⟨#[]⟩ by simp [skV, skB, hl'])
      go_enter Tryd.func17, Tryd.ntmps17
      go_wp2_with (first | (go_at_call 22; refine (iLetters_any _ wt _).mono ?_; rintro e w1 ⟨rfl, hb1⟩))
      go_ret2
      exact ⟨by rw [hV.out, hB.out]; rfl, hb1⟩
end Go.Proofs.YtpmklldochpnlaaDoor
