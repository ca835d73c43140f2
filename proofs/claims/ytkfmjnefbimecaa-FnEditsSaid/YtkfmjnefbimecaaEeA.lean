/- What FnEdits' walk wants: the law's small helpers, and what is told of three texts of a, b and c (plainly). -/
import Derived.Test.YtkfmjnefbimecaaMgb
import Derived.Test.YtkfmjnefbimecaaEeU
import Derived.Test.YtkfmjnefbimecaaMgg
import Derived.Test.YtkfmjnefbimecaaEeT
import Derived.Test.YtkfmjnefbimecaaMgh
import Derived.Test.YtkfmjnefbimecaaMgi
import Derived.Test.YtkfmjnefbimecaaLg
import Derived.Deep.QuietTactic
import Derived.BigQuiet

namespace Go.Proofs.Ytkfmjnefbimecaa
open Go.RowKit Go.PlainAid
set_option linter.unusedVariables false
def r8v (z : List Int) (k : Nat) (m : Int) : Int := if z.length ≤ k then 0 else z.getD k 0 % m
theorem r8v_bd {z : List Int} {k : Nat} {m : Int} (h : 0 < m) : 0 ≤ r8v z k m ∧ r8v z k m < m := by
  unfold r8v
  split
  · omega
  · exact ⟨Int.emod_nonneg _ (by omega), Int.emod_lt_of_pos _ h⟩
set_option maxHeartbeats 1000000 in
theorem r8At_any (a : Option Addr) (n c : Nat) (z : List Int) (lo : Nat) (w : World) (hz : SlY w lo a n z) (k : Nat) (m : Int) (h1 : 1 < m) (h2 : m ≤ 100000) (hk : k ≤ 100000) (hn : n ≤ maxLen) :
    Calls Try.prog 7 #[.slice a n c, .int .i64 k, .int .i64 m] w fun e w' => e = .returned (.int .i64 (r8v z k m)) ∧ w = w' := by
  unfold maxLen at hn
  have hl := hz.len
  by_cases hlt : k < n
  · obtain ⟨b, off, x, rfl, hb, x0, x1, hx, hc⟩ := hz.at_ hlt
    have HV : Hid (r8v z k m = x % m) := by
      show _ = _
      unfold r8v
      rw [if_neg (by omega), List.getD_eq_getElem?_getD, hx.out]; rfl
    clear hz hx hl
    go_enter Try.func7, Try.ntmps7
    go_wp2
    go_ret
    exact ⟨ret_int HV.out.symm, rfl⟩
  · have HV : Hid (r8v z k m = 0) := by
      show _ = _
      unfold r8v
      rw [if_pos (by omega)]
    have l1 : (n : Int) ≤ (k : Int) := by omega
    clear hz hl hlt
    go_enter Try.func7, Try.ntmps7
    go_wp2
    go_ret
    exact ⟨ret_int HV.out.symm, rfl⟩
theorem r8Long_no (a : Option Addr) (n c : Nat) (a' : Option Addr) (n' c' : Nat) (w : World) (h : n ≤ 48) (h' : n' ≤ 48) :
    Calls Try.prog 6 #[.slice a n c, .slice a' n' c'] w fun e w' => e = .returned (.bool false) ∧ w = w' := by
  go_enter Try.func6, Try.ntmps6
  go_wp2
  all_goals go_ret
  all_goals exact ⟨ret_bool (by first | rfl | (simp; omega)), rfl⟩
theorem r8Long_yes (a : Option Addr) (n c : Nat) (a' : Option Addr) (n' c' : Nat) (w : World) (hn : n ≤ maxLen) (hn' : n' ≤ maxLen) (h : 48 < n ∨ 48 < n') :
    Calls Try.prog 6 #[.slice a n c, .slice a' n' c'] w fun e w' => e = .returned (.bool true) ∧ w = w' := by
  go_enter Try.func6, Try.ntmps6
  go_wp2
  all_goals go_ret
  all_goals exact ⟨ret_bool (by first | rfl | (simp; omega)), rfl⟩

set_option maxHeartbeats 1000000 in
theorem r8Within_any (p s : ByteArray) (hp : p.size ≤ 100) (hs : s.size ≤ 100) (h : Lies p s 0 0) (w : World) :
    Calls Try.prog 35 #[.string p, .string s] w fun e w' => e = .returned (.bool true) ∧ Below w.heap.size w w' := by
  have H := Lib.hid h; clear h
  have hg := get_b8 p
  have hg' := get_b8 s
  go_enter Try.func35, Try.ntmps35
  go_wp2
  go_loopg [5, 6] s.size (fun m q i wr => ∃ Q I : Nat, q = .int .i64 Q ∧ i = .int .i64 I ∧ I ≤ s.size ∧ s.size ≤ m + I ∧ Q ≤ p.size ∧ Hid (Lies p s Q I) ∧ Below w.heap.size w wr)
  case atStart => exact ⟨0, 0, rfl, rfl, by omega, by omega, by omega, H, Below.refl _ _⟩
  case round =>
    obtain ⟨Q, I, rfl, rfl, hI, hm, hQ, hl, hbl⟩ := hrel
    by_cases hi : I < s.size
    · have l0 : (0 : Int) ≤ (I : Int) := by omega
      have l1 : (I : Int) < (s.size : Int) := by omega
      have k0 : (0 : Int) ≤ (Q : Int) := by omega
      by_cases hq : Q < p.size
      · have k1 : (Q : Int) < (p.size : Int) := by omega
        by_cases he : b8 p Q = b8 s I
        · have q1 : (((b8 p Q).toNat : Int) == ((b8 s I).toNat : Int)) = true := by simp [he]
          have HL := Lib.hid (hl.out.hit hq hi he)
          clear he hl
          go_wp2
          go_quiet (fail)
          go_wp2
          go_roundg (gk - 1)
          case measure => omega
          case rel => exact ⟨Q + 1, I + 1, by go_num, by go_num, by omega, by omega, by omega, HL, below_draws hbl _⟩
        · have q1 : (((b8 p Q).toNat : Int) == ((b8 s I).toNat : Int)) = false := by
            rw [beq_eq_false_iff_ne]; exact fun e => he (UInt8.toNat_inj.1 (by omega))
          have HL := Lib.hid (hl.out.miss hq hi he)
          clear he hl
          go_wp2
          go_quiet (fail)
          go_wp2
          go_roundg (gk - 1)
          case measure => omega
          case rel => exact ⟨Q, I + 1, rfl, by go_num, by omega, by omega, by omega, HL, below_draws hbl _⟩
      · have k1 : (p.size : Int) ≤ (Q : Int) := by omega
        have hd1 : decide (Q < p.size) = false := decide_eq_false hq
        have hd2 : decide ((Q : Int) < (p.size : Int)) = false := decide_eq_false (by omega)
        have HL : Hid (Lies p s Q (I + 1)) := Lies.full (by omega)
        clear hl
        go_wp2
        go_quiet (fail)
        go_wp2
        go_roundg (gk - 1)
        case measure => omega
        case rel => exact ⟨Q, I + 1, rfl, by go_num, by omega, by omega, by omega, HL, below_draws hbl _⟩
    · have l1 : (s.size : Int) ≤ (I : Int) := by omega
      have he := hl.out.end_ (by omega)
      obtain rfl : Q = p.size := by omega
      clear he hl
      go_wp2
      go_ret
      exact ⟨ret_bool (by simp), hbl⟩
end Go.Proofs.Ytkfmjnefbimecaa
