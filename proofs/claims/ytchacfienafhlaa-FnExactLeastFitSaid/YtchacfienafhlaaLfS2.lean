/- LeastFit of the reference: l04Number, l04Samples, l04Machine. -/
import Derived.Test.YtchacfienafhlaaLfS1
namespace Go.Proofs.Ytchacfienafhlaa
open Go.RowKit
set_option linter.unusedVariables false
set_option maxHeartbeats 4000000 in
theorem sNumber_any (S T m : Nat) (hm : m = S * T) (hS : 1 ≤ S ∧ S ≤ 3) (hm6 : m ≤ 6) (hT : T ≤ 2) (w : World) :
    Calls Try.prog 44 #[.int .i64 (S : Int), .int .i64 (T : Int)] w fun e w' => e = .returned (.int .i64 ((S ^ m * 2 ^ S : Nat) : Int)) ∧ w = w' := by
  have hmi : (S : Int) * (T : Int) = (m : Int) := by rw [hm]; simp
  have HP : Hid (∀ k, k ≤ 6 → S ^ k ≤ 729 ∧ 0 < S ^ k) := fun k hk => ⟨pow_729 ⟨by omega, hS.2⟩ hk, Nat.pow_pos (by omega)⟩
  have HQ : Hid (∀ k, k ≤ 3 → S ^ m * 2 ^ k ≤ 729 * 8) := fun k hk => Nat.mul_le_mul (pow_729 ⟨by omega, hS.2⟩ hm6) (Nat.le_trans (Nat.pow_le_pow_right (by omega) hk) (by decide))
  clear hm
  obtain ⟨h1, h2⟩ := hS
  have wm : IntKind.i64.wrap (m : Int) = (m : Int) := IntWalk.i64_in _ (by omega)
  go_enter Try.func44, Try.ntmps44
  go_wp2_with fail
  go_loopg [5, 6] m (fun q n i wr => ∃ k : Nat, i = .int .i64 k ∧ k ≤ m ∧ m ≤ q + k ∧ n = .int .i64 ((S ^ k : Nat) : Int) ∧ w = wr)
  case atStart => exact ⟨0, rfl, by omega, by omega, rfl, rfl⟩
  case round =>
    obtain ⟨k, rfl, hk, hq, rfl, hw⟩ := hrel
    obtain rfl := hw
    obtain ⟨b1, b2⟩ := HP.out k (by omega)
    have hE := Nat.pow_succ S k
    obtain ⟨a, ha⟩ : ∃ a, a = S ^ k := ⟨_, rfl⟩
    rw [← ha] at b1 b2 hE ⊢
    by_cases hlt : k < m
    · have q1 : (k : Int) < (m : Int) := by omega
      obtain ⟨b3, b4⟩ := HP.out (k + 1) (by omega)
      obtain ⟨a2, ha2⟩ : ∃ a, a = S ^ (k + 1) := ⟨_, rfl⟩
      rw [← ha2] at b3 hE
      have HE : Hid ((a2 : Int) = ((S ^ (k + 1) : Nat) : Int)) := by show _ = _; rw [ha2]
      have hmul : (a : Int) * (S : Int) = (a2 : Int) := by rw [hE]; simp
      have w1 : IntKind.i64.wrap (a2 : Int) = (a2 : Int) := IntWalk.i64_in _ (by omega)
      clear hE ha ha2 b4
      go_wp2_with fail
      go_roundg (gk - 1)
      case measure => omega
      case rel => exact ⟨k + 1, by go_num, by omega, by omega, by rw [HE.out], rfl⟩
    · obtain rfl : k = m := by omega
      have q1 : (k : Int) ≤ (k : Int) := Int.le_refl _
      have HA := Lib.hid ha
      have q9 : decide (k < k) = false := decide_eq_false (by omega)
      clear hE ha b1 b2 hlt
      go_wp2_with fail
      go_loopg [5, 7] S (fun q n i wr => ∃ j : Nat, i = .int .i64 j ∧ j ≤ S ∧ S ≤ q + j ∧ n = .int .i64 ((a * 2 ^ j : Nat) : Int) ∧ w = wr)
      case atStart => exact ⟨0, rfl, by omega, by omega, by simp, rfl⟩
      case round =>
        obtain ⟨j, rfl, hj, hq2, rfl, hw⟩ := hrel
        obtain rfl := hw
        have b1 := HQ.out j (by omega)
        rw [← HA.out] at b1
        have hE : a * 2 ^ (j + 1) = 2 * (a * 2 ^ j) := by rw [Nat.pow_succ, ← Nat.mul_assoc, Nat.mul_comm]
        obtain ⟨v, hv⟩ : ∃ v, v = a * 2 ^ j := ⟨_, rfl⟩
        rw [← hv] at b1 hE ⊢
        by_cases hlt : j < S
        · have q1 : (j : Int) < (S : Int) := by omega
          have HE : Hid ((2 : Int) * (v : Int) = ((a * 2 ^ (j + 1) : Nat) : Int)) := by show _ = _; rw [hE]; simp
          clear hE hv
          go_wp2_with fail
          go_roundg (gk - 1)
          case measure => omega
          case rel => exact ⟨j + 1, by go_num, by omega, by omega, by rw [HE.out], rfl⟩
        · obtain rfl : j = S := by omega
          have q1 : (j : Int) ≤ (j : Int) := Int.le_refl _
          have HV := Lib.hid hv
          clear hE hv hlt
          go_wp2_with fail
          go_ret
          exact ⟨ret_int (by rw [HV.out, HA.out]), rfl⟩
set_option maxHeartbeats 4000000 in
theorem sSamples_any (A : Option Addr) (n c : Nat) (ws : List (List Int)) (T : Int) (w : World) (h : SlL w w.heap.size A n ws) (hn : n ≤ 4294967296) (hm : ∀ r ∈ ws, r.length ≤ 4294967296) (hT : 1 ≤ T ∧ T ≤ 4) :
    Calls Try.prog 43 #[.slice A n c, .int .i64 T] w fun e w' => e = .returned (.bool (decide (ws.length ≤ 24) && ws.all (fun xs => wordB xs T))) ∧ Below w.heap.size w w' := by
  have hl := h.len
  have H := Lib.hid h; have HM := Lib.hid hm; have HL := Lib.hid hl
  clear h hm
  rcases Nat.lt_or_ge 24 n with h24 | h24
  · have q1 : (24 : Int) < (n : Int) := by omega
    have q2 : decide ((n : Int) ≤ 24) = false := decide_eq_false (by omega)
    have q3 : (0 : Int) < (n : Int) := by omega
    have HN : Hid ((decide (ws.length ≤ 24) && ws.all (fun xs => wordB xs T)) = false) := by show _ = _; rw [decide_eq_false (by omega)]; rfl
    clear hl h24
    go_enter Try.func43, Try.ntmps43
    go_wp2_with fail
    go_loopg [5] n (fun m i wr => i = .int .i64 0 ∧ w = wr)
    case atStart => exact ⟨rfl, rfl⟩
    case round =>
      obtain ⟨rfl, hw⟩ := hrel
      obtain rfl := hw
      go_wp2_with fail
      go_ret
      exact ⟨ret_bool HN.out.symm, Below.refl _ _⟩
  · have q1 : (n : Int) ≤ 24 := by omega
    have q2 : decide ((n : Int) ≤ 24) = true := decide_eq_true (by omega)
    have HD : Hid ((decide (ws.length ≤ 24) && ws.all (fun xs => wordB xs T)) = ws.all (fun xs => wordB xs T)) := by show _ = _; rw [decide_eq_true (by omega)]; rfl
    clear hl
    go_enter Try.func43, Try.ntmps43
    go_wp2_with fail
    go_loopg [5] n (fun m i wr => ∃ k : Nat, i = .int .i64 k ∧ k ≤ n ∧ n ≤ m + k ∧ Hid ((ws.take k).all (fun xs => wordB xs T) = true) ∧ Hid (Below w.heap.size w wr))
    case atStart => exact ⟨0, rfl, by omega, by omega, rfl, Below.refl _ _⟩
    case round =>
      obtain ⟨k, rfl, hk, hm, HA, BX⟩ := hrel
      obtain ⟨wo, rfl⟩ : ∃ x : World, x = wr := ⟨_, rfl⟩
      by_cases hlt : k < n
      · have q3 : (k : Int) < (n : Int) := by omega
        have q0 : (0 : Int) ≤ (k : Int) := by omega
        obtain ⟨b, off, A0, c0, xs, rfl, _, hx, kx, hxs, _⟩ := (H.out.below BX.out (Nat.le_refl _)).at_ hlt
        have C := sWord_any A0 xs.length c0 xs T wo (hxs.out.more BX.out.size) (HM.out xs (List.mem_of_getElem? hx.out)) hT
        obtain ⟨ev, hev⟩ : ∃ v, v = wordB xs T := ⟨_, rfl⟩
        rw [← hev] at C
        have HEV := Lib.hid hev
        clear hev hxs
        cases ev
        · have HA2 := Lib.hid (allL_no (f := fun x => wordB x T) hx.out HEV.out.symm)
          go_wp2_with fail
          refine C.mono ?_; rintro e w1 ⟨rfl, hb1⟩
          have BX1 : Hid (Below w.heap.size w w1) := BX.out.trans (hb1.mono BX.out.size)
          clear C hb1
          go_wp2_with fail
          go_ret
          exact ⟨ret_bool (by rw [HD.out, HA2.out]), BX1.out⟩
        · have HA2 := Lib.hid (allL_take (f := fun x => wordB x T) hx.out HA.out HEV.out.symm)
          go_wp2_with fail
          refine C.mono ?_; rintro e w1 ⟨rfl, hb1⟩
          have BX1 : Hid (Below w.heap.size w w1) := BX.out.trans (hb1.mono BX.out.size)
          clear C hb1 kx
          go_wp2_with fail
          go_roundg (gk - 1)
          case measure => omega
          case rel => exact ⟨k + 1, by go_num, by omega, by omega, HA2.out, BX1.out⟩
      · have hkk : k = n := by omega
        have q3 : (n : Int) ≤ (k : Int) := by omega
        have HA0 : Hid (ws.all (fun xs => wordB xs T) = true) := by
          have := HA.out
          rw [List.take_of_length_le (by rw [HL.out]; omega)] at this
          exact this
        clear hkk hlt
        go_wp2_with fail
        go_ret
        exact ⟨ret_bool (by rw [HD.out, HA0.out]), BX.out⟩
end Go.Proofs.Ytchacfienafhlaa
