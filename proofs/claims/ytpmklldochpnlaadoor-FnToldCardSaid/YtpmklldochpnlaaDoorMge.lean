/- Several texts in one: The common start of texts: the walks of both programs. NearShared of both programs. -/
import Derived.Test.YtpmklldochpnlaaDoorCsP
import Derived.Test.YtpmklldochpnlaaDoorMgc

namespace Go.Proofs.YtpmklldochpnlaaDoor
open Go.RowKit Go.PlainAid
set_option linter.unusedVariables false
theorem iHas0 (t s : ByteArray) (ht : t.size ≤ maxLen) (hs : s.size ≤ maxLen) (w : World) :
    Calls Tryd.prog 49 #[.string t, .string s] w fun e w' => e = .returned (.bool (hpB t s)) ∧ w' = w := by
  unfold maxLen at ht hs
  by_cases h : s.size ≤ t.size
  · have h1 : (s.size : Int) ≤ (t.size : Int) := by omega
    have h0 : (0 : Int) ≤ (s.size : Int) := by omega
    by_cases he : t.extract 0 s.size = s
    · have hq := str_eq he
      have HB := Lib.hid (show hpB t s = true by simp [hpB, h, he])
      clear he
      go_enter Tryd.func49, Tryd.ntmps49
      go_wp2
      go_ret
      exact ⟨ret_bool HB.out.symm, rfl⟩
    · have hq := str_ne he
      have HB := Lib.hid (show hpB t s = false by simp [hpB, h, he])
      clear he
      go_enter Tryd.func49, Tryd.ntmps49
      go_wp2
      go_ret
      exact ⟨ret_bool HB.out.symm, rfl⟩
  · have h1 : (t.size : Int) < (s.size : Int) := by omega
    have HB := Lib.hid (show hpB t s = false by simp [hpB, h])
    clear h
    go_enter Tryd.func49, Tryd.ntmps49
    go_wp2
    go_ret
    exact ⟨ret_bool HB.out.symm, rfl⟩
theorem iHas_any (t s : ByteArray) (ht : t.size ≤ maxLen) (hs : s.size ≤ maxLen) (w : World) :
    Calls Tryd.prog 37 #[.string t, .string s] w fun e w' => e = .returned (.bool (hpB t s)) ∧ w' = w := by
  go_enter Tryd.func37, Tryd.ntmps37
  go_wp2_with (first | (go_at_call 49; refine (iHas0 _ _ ht hs _).mono ?_; rintro e w' ⟨rfl, rfl⟩))
  go_ret
  exact ⟨rfl, rfl⟩
end Go.Proofs.YtpmklldochpnlaaDoor


namespace Go.Proofs.YtpmklldochpnlaaDoor
open Go.RowKit Go.PlainAid
set_option linter.unusedVariables false
def nshB (ss : List ByteArray) (t : ByteArray) (k : Int) : Bool := nsB ss t && inB k 1 8
theorem lt_parts {ss : List ByteArray} (h : ltB ss = true) : ss.length ≤ 32 ∧ ss.all txtB = true := by
  have h' : (decide (ss.length ≤ 32) && ss.all txtB) = true := h
  rw [Bool.and_eq_true] at h'
  exact ⟨of_decide_eq_true h'.1, h'.2⟩
end Go.Proofs.YtpmklldochpnlaaDoor
