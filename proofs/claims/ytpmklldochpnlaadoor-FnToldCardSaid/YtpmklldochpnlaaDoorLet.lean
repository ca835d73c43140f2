/- Letters: what the predicates of both programs return. -/
import Derived.Test.YtpmklldochpnlaaDoorMgb
import Derived.Test.YtpmklldochpnlaaDoorMga

namespace Go.Proofs.YtpmklldochpnlaaDoor
open Go.RowKit Go.PlainAid
set_option linter.unusedVariables false
def isLet (c : UInt8) : Bool := decide (97 ≤ (c.toNat : Int) ∧ (c.toNat : Int) ≤ 122)
/-- The first n bytes are letters. -/
def letTo (s : ByteArray) (n : Nat) : Prop := ∀ j, j < n → isLet (b8 s j) = true
def letsB (s : ByteArray) : Bool := (List.range s.size).all fun j => isLet (b8 s j)
def letB (s : ByteArray) : Bool := letsB s && txtB s
theorem letsB_of {s : ByteArray} (h : letTo s s.size) : letsB s = true := by
  unfold letsB; rw [List.all_eq_true]; exact fun j hj => h j (List.mem_range.1 hj)
theorem letsB_at {s : ByteArray} (h : letsB s = true) {j : Nat} (hj : j < s.size) : isLet (b8 s j) = true := by
  unfold letsB at h; rw [List.all_eq_true] at h; exact h j (List.mem_range.2 hj)
theorem letsB_no {s : ByteArray} {j : Nat} (hj : j < s.size) (h : ¬ isLet (b8 s j) = true) : letsB s = false := by
  rcases Bool.eq_false_or_eq_true (letsB s) with h' | h'
  · exact absurd (letsB_at h' hj) h
  · exact h'
theorem letTo_succ {s : ByteArray} {n : Nat} (h : letTo s n) (hn : isLet (b8 s n) = true) : letTo s (n + 1) := by
  intro j hj
  rcases Nat.lt_or_ge j n with h1 | h1
  · exact h j h1
  · rw [show j = n from by omega]; exact hn
theorem isLet_bd {c : UInt8} (h : isLet c = true) : 97 ≤ (c.toNat : Int) ∧ (c.toNat : Int) ≤ 122 := of_decide_eq_true h

set_option maxHeartbeats 1000000 in
theorem iLetters_any (s : ByteArray) (hs : s.size ≤ maxLen) (w : World) :
    Calls Tryd.prog 22 #[.string s] w fun e w' => e = .returned (.bool (letB s)) ∧ Below w.heap.size w w' := by
  have hs' := hs
  unfold maxLen at hs'
  go_enter Tryd.func22, Tryd.ntmps22
  go_wp2
  go_loopw [6] (fun i wr => ∃ k : Nat, k ≤ s.size ∧ i = .int .i64 k ∧ letTo s k ∧ ∃ q, wr = w.drewN q) (fun i wr => s.size - (intOf i).toNat)
  case atStart => exact ⟨0, by omega, rfl, fun j hj => absurd hj (by omega), 0, rfl⟩
  case round =>
    obtain ⟨k, hk, rfl, hl, q, rfl⟩ := hrel
    have HL := Lib.hid hl; clear hl
    by_cases hlt : k < s.size
    · have hg := get_b8 s
      have l1 : (0 : Int) ≤ (k : Int) := by omega
      by_cases ha : ((b8 s k).toNat : Int) < 97
      · have HN := Lib.hid (letsB_no hlt (fun h => by have := isLet_bd h; omega))
        go_wp2
        all_goals (go_ret; exact ⟨ret_bool (by simp [letB, HN.out]), below_draws (Below.refl _ _) _⟩)
      · have ha' : 97 ≤ ((b8 s k).toNat : Int) := by omega
        clear ha
        by_cases hb : 122 < ((b8 s k).toNat : Int)
        · have HN := Lib.hid (letsB_no hlt (fun h => by have := isLet_bd h; omega))
          go_wp2
          all_goals (go_ret; exact ⟨ret_bool (by simp [letB, HN.out]), below_draws (Below.refl _ _) _⟩)
        · have hb' : ((b8 s k).toNat : Int) ≤ 122 := by omega
          clear hb
          have HY : Hid (isLet (b8 s k) = true) := decide_eq_true ⟨ha', hb'⟩
          go_wp2
          first
            | exact ⟨⟨k + 1, by omega, by go_num, letTo_succ HL.out HY.out, _, rfl⟩, by simp [intOf]; omega⟩
            | (refine ⟨?_, by simp [intOf]; omega⟩; (repeat apply Exists.intro); exact ⟨⟨k + 1, by omega, by go_num, letTo_succ HL.out HY.out, _, rfl⟩, rfl⟩)
    · obtain rfl : k = s.size := by omega
      have HA := Lib.hid (letsB_of HL.out)
      go_wp2_with (go_at_call 24; refine (iIsText_any _ hs _).mono ?_; rintro e w' ⟨rfl, rfl⟩)
      go_ret
      exact ⟨ret_bool (by simp [letB, HA.out]), below_draws (Below.refl _ _) _⟩

set_option maxHeartbeats 1000000 in
theorem sLetters_txt (s : ByteArray) (hs : s.size ≤ maxLen) (w : World) :
    Calls Tryd.prog 20 #[.string s] w fun e w' => e = .returned (.bool (letB s)) ∧ Below w.heap.size w w' := by
  have hs' := hs
  unfold maxLen at hs'
  go_enter Tryd.func20, Tryd.ntmps20
  go_wp2
  go_loopw [3] (fun i wr => ∃ k : Nat, k ≤ s.size ∧ i = .int .i64 k ∧ letTo s k ∧ ∃ q, wr = w.drewN q) (fun i wr => s.size - (intOf i).toNat)
  case atStart => exact ⟨0, by omega, rfl, fun j hj => absurd hj (by omega), 0, rfl⟩
  case round =>
    obtain ⟨k, hk, rfl, hl, q, rfl⟩ := hrel
    have HL := Lib.hid hl; clear hl
    by_cases hlt : k < s.size
    · have hg := get_b8 s
      have l1 : (0 : Int) ≤ (k : Int) := by omega
      by_cases ha : ((b8 s k).toNat : Int) < 97
      · have HN := Lib.hid (letsB_no hlt (fun h => by have := isLet_bd h; omega))
        go_wp2
        all_goals (go_ret; exact ⟨ret_bool (by simp [letB, HN.out]), below_draws (Below.refl _ _) _⟩)
      · have ha' : 97 ≤ ((b8 s k).toNat : Int) := by omega
        clear ha
        by_cases hb : 122 < ((b8 s k).toNat : Int)
        · have HN := Lib.hid (letsB_no hlt (fun h => by have := isLet_bd h; omega))
          go_wp2
          all_goals (go_ret; exact ⟨ret_bool (by simp [letB, HN.out]), below_draws (Below.refl _ _) _⟩)
        · have hb' : ((b8 s k).toNat : Int) ≤ 122 := by omega
          clear hb
          have HY : Hid (isLet (b8 s k) = true) := decide_eq_true ⟨ha', hb'⟩
          go_wp2
          first
            | exact ⟨⟨k + 1, by omega, by go_num, letTo_succ HL.out HY.out, _, rfl⟩, by simp [intOf]; omega⟩
            | (refine ⟨?_, by simp [intOf]; omega⟩; (repeat apply Exists.intro); exact ⟨⟨k + 1, by omega, by go_num, letTo_succ HL.out HY.out, _, rfl⟩, rfl⟩)
    · obtain rfl : k = s.size := by omega
      have HA := Lib.hid (letsB_of HL.out)
      go_wp2_with (go_at_call 38; refine (sText_any _ hs _).mono ?_; rintro e w' ⟨rfl, rfl⟩)
      go_ret
      exact ⟨ret_bool (by simp [letB, HA.out]), below_draws (Below.refl _ _) _⟩
end Go.Proofs.YtpmklldochpnlaaDoor
