/- The common start of texts: the walks of both programs. -/
import Derived.Test.YtpmklldochpnlaaCsP
namespace Go.Proofs.Ytpmklldochpnlaa
open Go.RowKit Go.PlainAid
set_option linter.unusedVariables false
theorem iHas0 (t s : ByteArray) (ht : t.size ≤ maxLen) (hs : s.size ≤ maxLen) (w : World) :
    Calls Try.prog 85 #[.string t, .string s] w fun e w' => e = .returned (.bool (hpB t s)) ∧ w' = w := by
  unfold maxLen at ht hs
  by_cases h : s.size ≤ t.size
  · have h1 : (s.size : Int) ≤ (t.size : Int) := by omega
    have h0 : (0 : Int) ≤ (s.size : Int) := by omega
    by_cases he : t.extract 0 s.size = s
    · have hq := str_eq he
      have HB := Lib.hid (show hpB t s = true by simp [hpB, h, he])
      clear he
      go_enter Try.func85, Try.ntmps85
      go_wp2
      go_ret
      exact ⟨ret_bool HB.out.symm, rfl⟩
    · have hq := str_ne he
      have HB := Lib.hid (show hpB t s = false by simp [hpB, h, he])
      clear he
      go_enter Try.func85, Try.ntmps85
      go_wp2
      go_ret
      exact ⟨ret_bool HB.out.symm, rfl⟩
  · have h1 : (t.size : Int) < (s.size : Int) := by omega
    have HB := Lib.hid (show hpB t s = false by simp [hpB, h])
    clear h
    go_enter Try.func85, Try.ntmps85
    go_wp2
    go_ret
    exact ⟨ret_bool HB.out.symm, rfl⟩
theorem iHas_any (t s : ByteArray) (ht : t.size ≤ maxLen) (hs : s.size ≤ maxLen) (w : World) :
    Calls Try.prog 57 #[.string t, .string s] w fun e w' => e = .returned (.bool (hpB t s)) ∧ w' = w := by
  go_enter Try.func57, Try.ntmps57
  go_wp2_with (first | (go_at_call 85; refine (iHas0 _ _ ht hs _).mono ?_; rintro e w' ⟨rfl, rfl⟩))
  go_ret
  exact ⟨rfl, rfl⟩
set_option maxHeartbeats 1000000 in
theorem sAlike_any (a b : ByteArray) (ha : a.size ≤ 48) (hb : b.size ≤ 48) (w : World) :
    Calls Try.prog 46 #[.string a, .string b, .int .i64 0, .int .i64 0] w fun e w' => e = .returned (.int .i64 (alk a b : Nat)) ∧ Below w.heap.size w w' := by
  obtain ⟨N, hN⟩ : ∃ N, N = alk a b := ⟨_, rfl⟩
  rw [← hN]
  have HN := Lib.hid hN; clear hN
  go_enter Try.func46, Try.ntmps46
  go_wp2
  go_loopg [2, 3, 9] a.size (fun m i j s wr => ∃ k : Nat, i = .int .i64 k ∧ j = .int .i64 k ∧ s = .int .i64 k ∧ k ≤ a.size ∧ k ≤ b.size ∧ a.size ≤ m + k ∧ alkF a b (a.size - k) k = N ∧ Below w.heap.size w wr)
  case atStart => exact ⟨0, rfl, rfl, rfl, by omega, by omega, by omega, by rw [HN.out]; rfl, Below.refl _ _⟩
  case round =>
    obtain ⟨k, rfl, rfl, rfl, hka, hkb, hm, hr, hbl⟩ := hrel
    have HR := Lib.hid hr; clear hr
    by_cases h1 : k < a.size
    · by_cases h2 : k < b.size
      · have hg := get_b8 a
        have hg' := get_b8 b
        have l0 : (0 : Int) ≤ (k : Int) := by omega
        have l1 : (k : Int) < (a.size : Int) := by omega
        have l2 : (k : Int) < (b.size : Int) := by omega
        obtain ⟨f, hf⟩ : ∃ f, a.size - k = f + 1 := ⟨a.size - k - 1, by omega⟩
        have HF := Lib.hid hf; clear hf
        by_cases hq : b8 a k = b8 b k
        · have q1 : (((b8 a k).toNat : Int) == ((b8 b k).toNat : Int)) = true := by simp [hq]
          have HQ := Lib.hid (show alkF a b (a.size - (k + 1)) (k + 1) = N by rw [← HR.out, HF.out, alkF, if_pos ⟨h1, h2, hq⟩, show a.size - (k + 1) = f from by have := HF.out; omega])
          clear hq
          go_wp2
          go_quiet (fail)
          go_wp2
          go_roundg (gk - 1)
          case measure => omega
          case rel => exact ⟨k + 1, by go_num, by go_num, by go_num, by omega, by omega, by omega, HQ.out, below_draws hbl _⟩
        · have q1 : (((b8 a k).toNat : Int) == ((b8 b k).toNat : Int)) = false := by
            rw [beq_eq_false_iff_ne]; exact fun e => hq (UInt8.toNat_inj.1 (by omega))
          have HQ := Lib.hid (show (k : Int) = (N : Nat) by rw [← HR.out, HF.out, alkF, if_neg (fun h => hq h.2.2)])
          clear hq
          go_wp2
          go_quiet (fail)
          go_wp2
          go_ret
          exact ⟨ret_int HQ.out, below_draws hbl _⟩
      · have l1 : (k : Int) < (a.size : Int) := by omega
        have l2 : (b.size : Int) ≤ (k : Int) := by omega
        obtain ⟨f, hf⟩ : ∃ f, a.size - k = f + 1 := ⟨a.size - k - 1, by omega⟩
        have HQ := Lib.hid (show (k : Int) = (N : Nat) by rw [← HR.out, hf, alkF, if_neg (fun h => h2 h.2.1)])
        have hd1 : decide (k < b.size) = false := decide_eq_false h2
        have hd2 : decide ((k : Int) < (b.size : Int)) = false := decide_eq_false (by omega)
        clear hf
        go_wp2
        go_quiet (fail)
        go_wp2
        go_ret
        exact ⟨ret_int HQ.out, below_draws hbl _⟩
    · have l1 : (a.size : Int) ≤ (k : Int) := by omega
      have HQ := Lib.hid (show (k : Int) = (N : Nat) by rw [← HR.out, show a.size - k = 0 from by omega, alkF])
      have hd1 : decide (k < a.size) = false := decide_eq_false h1
      have hd2 : decide ((k : Int) < (a.size : Int)) = false := decide_eq_false (by omega)
      go_wp2
      go_quiet (fail)
      go_wp2
      go_ret
      exact ⟨ret_int HQ.out, below_draws hbl _⟩
end Go.Proofs.Ytpmklldochpnlaa
