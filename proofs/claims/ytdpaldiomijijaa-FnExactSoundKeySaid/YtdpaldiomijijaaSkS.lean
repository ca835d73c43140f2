/- SoundKey of the reference. Printed by wip/bin/mk_sk.py. -/
import Derived.Test.YtdpaldiomijijaaSkI
namespace Go.Proofs.Ytdpaldiomijijaa
open Go.RowKit Go.PlainAid
set_option linter.unusedVariables false
set_option maxRecDepth 100000 in
set_option maxHeartbeats 4000000 in
theorem sSoundKey_any (t : ByteArray) (wt : t.size ≤ maxLen) (w : World) :
    Calls Try.prog 31 #[.string t] w fun e w' => e = .returned (.tuple #[.string (skV t), .bool (skB t)]) ∧ Below w.heap.size w w' := by
  by_cases hl : letB t = true
  · by_cases hpos : 0 < t.size
    · have hB := Lib.hid (show skB t = true by simp [skB, hl, hpos])
      have hV := Lib.hid (show skV t = skPad (skAll t) (4 - (skAll t).length) by simp [skV, skB, hl, hpos])
      have hlt0 : letsB t = true ∧ txtB t = true := by
        have h : (letsB t && txtB t) = true := hl
        rw [Bool.and_eq_true] at h
        exact h
      have hsz := txtB_true hlt0.2
      have HL := Lib.hid hlt0.1
      clear hlt0
      have hg := get_b8 t
      have h1s : 1 ≤ t.size := hpos
      obtain ⟨x0, hx0⟩ : ∃ x, x = t.extract 0 1 := ⟨_, rfl⟩
      have HX := Lib.hid (show x0 = ⟨[b8 t 0].toArray⟩ by rw [hx0, key_first hpos])
      have hsn0 := sSound (b8 t 0) (letsB_at HL.out hpos)
      go_enter Try.func31, Try.ntmps31
      go_wp2_with (first | (go_at_call 54; refine (sLetters_txt _ wt _).mono ?_; rintro e w1 ⟨rfl, hb1⟩) | (go_at_call 55; refine (hsn0 _).mono ?_; rintro e w2 ⟨rfl, rfl⟩))
      clear hsn0
      go_loopg [4, 5, 6] t.size (fun m o sl si wr => ∃ (i : Nat) (key : List UInt8) (last : UInt8) (s : ByteArray), o = .string s ∧ sl = .int .u8 (last.toNat : Int) ∧ si = .int .i64 i ∧ s = ⟨key.toArray⟩ ∧ 1 ≤ i ∧ i ≤ t.size ∧ key.length ≤ 4 ∧ t.size ≤ m + i ∧ SkAt t i key last ∧ Below w1.heap.size w1 wr)
      case atStart => exact ⟨1, [b8 t 0], snd (b8 t 0), _, rfl, rfl, rfl, by rw [← hx0]; exact HX.out, by omega, by omega, by simp, by omega, SkAt.first t, Below.refl _ _⟩
      case round =>
        obtain ⟨i, key, last, s, rfl, rfl, rfl, hsd, hi1, hi, hk4, hm, hat, hbl⟩ := hrel
        have HA := Lib.hid hat; clear hat hx0
        have hss : s.size = key.length := by rw [hsd, key_size]
        have HS := Lib.hid hsd; clear hsd
        by_cases hlt : i < t.size
        · by_cases h4 : key.length < 4
          · have l1 : (0 : Int) ≤ (i : Int) := by omega
            have l4 : (s.size : Int) < 4 := by omega
            by_cases hc : b8 t i = 104
            · have HC := Lib.hid hc
              go_wp2
              go_roundg (gk - 1)
              case measure => omega
              case rel => exact ⟨i + 1, key, last, s, rfl, rfl, by go_num, HS.out, by omega, by omega, hk4, by omega, HA.out.skip hlt (.inl HC.out), hbl⟩
            · have n1 : (((b8 t i).toNat : Int) == 104) = false := u8ne (n := 104) (by decide) hc
              have H1 := Lib.hid hc; clear hc
              by_cases hc : b8 t i = 119
              · have HC := Lib.hid hc
                go_wp2
                go_roundg (gk - 1)
                case measure => omega
                case rel => exact ⟨i + 1, key, last, s, rfl, rfl, by go_num, HS.out, by omega, by omega, hk4, by omega, HA.out.skip hlt (.inr HC.out), hbl⟩
              · have n2 : (((b8 t i).toNat : Int) == 119) = false := u8ne (n := 119) (by decide) hc
                have H2 := Lib.hid (show ¬ (b8 t i = 104 ∨ b8 t i = 119) from fun h => by rcases h with h | h; exact H1.out h; exact hc h)
                clear hc
                have hsnd := sSound (b8 t i) (letsB_at HL.out hlt)
                have hsb := snd_bd (letsB_at HL.out hlt)
                obtain ⟨d, hd⟩ : ∃ d, d = snd (b8 t i) := ⟨_, rfl⟩
                rw [← hd] at hsnd hsb
                have HD := Lib.hid hd; clear hd
                by_cases hd : d = 48
                · have q1 : ((d.toNat : Int) != 48) = false := by simp [hd]
                  have HE := Lib.hid hd; clear hd
                  go_wp2_with (first | (go_at_call 55; refine (hsnd _).mono ?_; rintro e w2 ⟨rfl, rfl⟩))
                  go_roundg (gk - 1)
                  case measure => omega
                  case rel => exact ⟨i + 1, key, d, s, rfl, rfl, by go_num, HS.out, by omega, by omega, hk4, by omega, by rw [HD.out]; exact HA.out.keep hlt H2.out (.inr (.inl (by rw [← HD.out]; exact HE.out))), hbl⟩
                · have q1 : ((d.toNat : Int) != 48) = true := u8_netr (y := 48) hd
                  have HE := Lib.hid hd; clear hd
                  by_cases hd : d = last
                  · have q2 := u8_nefl hd
                    have HF := Lib.hid hd; clear hd
                    go_wp2_with (first | (go_at_call 55; refine (hsnd _).mono ?_; rintro e w2 ⟨rfl, rfl⟩))
                    go_roundg (gk - 1)
                    case measure => omega
                    case rel => exact ⟨i + 1, key, d, s, rfl, rfl, by go_num, HS.out, by omega, by omega, hk4, by omega, by rw [HD.out]; exact HA.out.keep hlt H2.out (.inr (.inr (.inl (by rw [← HD.out]; exact HF.out)))), hbl⟩
                  · have q2 := u8_netr hd
                    have HF := Lib.hid hd; clear hd
                    obtain ⟨u, hu⟩ : ∃ u : ByteArray, u = ⟨#[d]⟩ := ⟨_, rfl⟩
                    have henc := enc_digit (d := d) (by omega)
                    rw [← hu] at henc
                    have hw1 : IntKind.i32.wrap (d.toNat : Int) = (d.toNat : Int) := IntWalk.i32_in _ (by omega)
                    have h1d : u.size = 1 := by rw [hu]; rfl
                    clear hss
                    have hss2 : s.size ≤ 3 := by rw [HS.out, key_size]; omega
                    have HSX : Hid (s ++ u = ⟨(key ++ [d]).toArray⟩) := by rw [HS.out, hu]; exact key_snoc key d
                    clear hu
                    go_wp2_with (first | (go_at_call 55; refine (hsnd _).mono ?_; rintro e w2 ⟨rfl, rfl⟩))
                    go_roundg (gk - 1)
                    case measure => omega
                    case rel => exact ⟨i + 1, key ++ [d], d, _, rfl, rfl, by go_num, HSX.out, by omega, by omega, by simp; omega, by omega, by rw [HD.out]; exact HA.out.put (by omega) hlt H2.out (by rw [← HD.out]; exact HE.out) (by rw [← HD.out]; exact HF.out) h4, hbl⟩
          · have h4' : 4 ≤ key.length := by omega
            have l4 : (4 : Int) ≤ (s.size : Int) := by omega
            have HK := Lib.hid (HA.out.full (by omega) h4')
            go_wp2
            go_loopg [4] 4 (fun n o wr => ∃ (m : Nat) (s : ByteArray), o = .string s ∧ s = skPad key m ∧ key.length + m ≤ 4 ∧ 4 ≤ n + key.length + m ∧ Below w1.heap.size w1 wr)
            case atStart => exact ⟨0, s, rfl, by rw [skPad_zero]; exact HS.out, by omega, by omega, hbl⟩
            case round =>
              obtain ⟨m, s', rfl, hsp, hm4, hn4, hbl'⟩ := hrel
              have hsz' : s'.size = key.length + m := by rw [hsp, skPad_size]
              have HS' := Lib.hid hsp; clear hsp
              by_cases h4'' : key.length + m < 4
              · omega
              · have l4 : (4 : Int) ≤ (s'.size : Int) := by omega
                have hmm : m = 4 - key.length := by omega
                have HM := Lib.hid hmm; clear hmm
                go_wp2
                go_ret2
                refine ⟨by rw [hV.out, hB.out, ← HK.out, ← HM.out, ← HS'.out]; rfl, ?_⟩
                exact hb1.trans (hbl'.mono hb1.size)
        · obtain rfl : i = t.size := by omega
          have HK := Lib.hid (HA.out.fin rfl hpos)
          go_wp2
          go_loopg [4] 4 (fun n o wr => ∃ (m : Nat) (s : ByteArray), o = .string s ∧ s = skPad key m ∧ key.length + m ≤ 4 ∧ 4 ≤ n + key.length + m ∧ Below w1.heap.size w1 wr)
          case atStart => exact ⟨0, s, rfl, by rw [skPad_zero]; exact HS.out, by omega, by omega, hbl⟩
          case round =>
            obtain ⟨m, s', rfl, hsp, hm4, hn4, hbl'⟩ := hrel
            have hsz' : s'.size = key.length + m := by rw [hsp, skPad_size]
            have HS' := Lib.hid hsp; clear hsp
            by_cases h4' : key.length + m < 4
            · have l4 : (s'.size : Int) < 4 := by omega
              have h1d : (⟨#[48]⟩ : ByteArray).size = 1 := rfl
              have HSX : Hid (s' ++ ⟨#[48]⟩ = skPad key (m + 1)) := by rw [HS'.out]; exact skPad_succ key m
              go_wp2
              go_roundg (gk - 1)
              case measure => omega
              case rel => exact ⟨m + 1, _, rfl, HSX.out, by omega, by omega, hbl'⟩
            · have l4 : (4 : Int) ≤ (s'.size : Int) := by omega
              have hmm : m = 4 - key.length := by omega
              have HM := Lib.hid hmm; clear hmm
              go_wp2
              go_ret2
              refine ⟨by rw [hV.out, hB.out, ← HK.out, ← HM.out, ← HS'.out]; rfl, ?_⟩
              exact hb1.trans (hbl'.mono hb1.size)
    · have hz : t.size = 0 := by omega
      have hB := Lib.hid (show skB t = false by simp [skB, hz])
      have hV := Lib.hid (show skV t = ⟨#[]⟩ by simp [skV, skB, hz])
      go_enter Try.func31, Try.ntmps31
      go_wp2_with (first | (go_at_call 54; refine (sLetters_txt _ wt _).mono ?_; rintro e w1 ⟨rfl, hb1⟩))
      go_ret2
      exact ⟨by rw [hV.out, hB.out]; rfl, hb1⟩
  · have hl' : letB t = false := by simpa using hl
    have hB := Lib.hid (show skB t = false by simp [skB, hl'])
    have hV := Lib.hid (show skV t = ⟨#[]⟩ by simp [skV, skB, hl'])
    go_enter Try.func31, Try.ntmps31
    go_wp2_with (first | (go_at_call 54; refine (sLetters_txt _ wt _).mono ?_; rintro e w1 ⟨rfl, hb1⟩))
    go_ret2
    exact ⟨by rw [hV.out, hB.out]; rfl, hb1⟩
end Go.Proofs.Ytdpaldiomijijaa
