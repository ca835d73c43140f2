/- Several texts in one: SwapCost of both programs. The common start of texts: the walks of both programs. SharedText of the reference. -/
import Derived.Test.YtkfmjnefbimecaaMga
import Derived.Test.YtkfmjnefbimecaaSw
import Derived.Test.YtkfmjnefbimecaaMge
import Derived.Test.YtkfmjnefbimecaaCsP
import Derived.Test.YtkfmjnefbimecaaShP

namespace Go.Proofs.Ytkfmjnefbimecaa
open Go.RowKit Go.PlainAid
set_option linter.unusedVariables false
def scB (a b : ByteArray) : Bool := txtB a && txtB b
def scV (a b : ByteArray) : Int := if scB a b then sw a b a.size b.size else 0

set_option maxHeartbeats 1000000 in
theorem iSwapCost_any (a b : ByteArray) (wa : a.size ≤ maxLen) (wb : b.size ≤ maxLen) (w : World) :
    Calls Try.prog 33 #[.string a, .string b] w fun e w' => e = .returned (.tuple #[.int .i64 (scV a b), .bool (scB a b)]) ∧ Below w.heap.size w w' := by
  by_cases h1 : txtB a = true
  · by_cases h2 : txtB b = true
    · have hB := Lib.hid (show scB a b = true by simp [scB, h1, h2])
      have hV := Lib.hid (show scV a b = sw a b a.size b.size by simp [scV, scB, h1, h2])
      have ha := txtB_true h1
      have hb := txtB_true h2
      go_enter Try.func33, Try.ntmps33
      go_wp2_with (first | (go_at_call 79; refine (iIsText_any _ (by assumption) _).mono ?_; rintro e w' ⟨rfl, rfl⟩) | (go_at_call 84; refine (iSwap_any _ _ ha hb _).mono ?_; rintro e w1 ⟨rfl, hb1⟩))
      go_ret2
      exact ⟨by rw [hV.out, hB.out]; rfl, hb1⟩
    · have h2' : txtB b = false := by simpa using h2
      have hB := Lib.hid (show scB a b = false by simp [scB, h2'])
      have hV := Lib.hid (show scV a b = 0 by simp [scV, scB, h2'])
      go_enter Try.func33, Try.ntmps33
      go_wp2_with (first | (go_at_call 79; refine (iIsText_any _ (by assumption) _).mono ?_; rintro e w' ⟨rfl, rfl⟩))
      go_ret2
      exact ⟨by rw [hV.out, hB.out]; rfl, Below.refl _ _⟩
  · have h1' : txtB a = false := by simpa using h1
    have hB := Lib.hid (show scB a b = false by simp [scB, h1'])
    have hV := Lib.hid (show scV a b = 0 by simp [scV, scB, h1'])
    go_enter Try.func33, Try.ntmps33
    go_wp2_with (first | (go_at_call 79; refine (iIsText_any _ (by assumption) _).mono ?_; rintro e w' ⟨rfl, rfl⟩))
    go_ret2
    exact ⟨by rw [hV.out, hB.out]; rfl, Below.refl _ _⟩

end Go.Proofs.Ytkfmjnefbimecaa


namespace Go.Proofs.Ytkfmjnefbimecaa
open Go.RowKit Go.PlainAid
set_option linter.unusedVariables false
theorem iHas0 (t s : ByteArray) (ht : t.size ≤ maxLen) (hs : s.size ≤ maxLen) (w : World) :
    Calls Try.prog 123 #[.string t, .string s] w fun e w' => e = .returned (.bool (hpB t s)) ∧ w' = w := by
  unfold maxLen at ht hs
  by_cases h : s.size ≤ t.size
  · have h1 : (s.size : Int) ≤ (t.size : Int) := by omega
    have h0 : (0 : Int) ≤ (s.size : Int) := by omega
    by_cases he : t.extract 0 s.size = s
    · have hq := str_eq he
      have HB := Lib.hid (show hpB t s = true by simp [hpB, h, he])
      clear he
      go_enter Try.func123, Try.ntmps123
      go_wp2
      go_ret
      exact ⟨ret_bool HB.out.symm, rfl⟩
    · have hq := str_ne he
      have HB := Lib.hid (show hpB t s = false by simp [hpB, h, he])
      clear he
      go_enter Try.func123, Try.ntmps123
      go_wp2
      go_ret
      exact ⟨ret_bool HB.out.symm, rfl⟩
  · have h1 : (t.size : Int) < (s.size : Int) := by omega
    have HB := Lib.hid (show hpB t s = false by simp [hpB, h])
    clear h
    go_enter Try.func123, Try.ntmps123
    go_wp2
    go_ret
    exact ⟨ret_bool HB.out.symm, rfl⟩
theorem iHas_any (t s : ByteArray) (ht : t.size ≤ maxLen) (hs : s.size ≤ maxLen) (w : World) :
    Calls Try.prog 93 #[.string t, .string s] w fun e w' => e = .returned (.bool (hpB t s)) ∧ w' = w := by
  go_enter Try.func93, Try.ntmps93
  go_wp2_with (first | (go_at_call 123; refine (iHas0 _ _ ht hs _).mono ?_; rintro e w' ⟨rfl, rfl⟩))
  go_ret
  exact ⟨rfl, rfl⟩
end Go.Proofs.Ytkfmjnefbimecaa


namespace Go.Proofs.Ytkfmjnefbimecaa
open Go.RowKit Go.PlainAid
set_option linter.unusedVariables false
theorem results_tmp4 {fn : Func} {t u v x : Tmp} (h : fn.results = #[.tmp t, .tmp u, .tmp v, .tmp x]) (tmps : Array Value) (P : Program) (w : World) :
    (results fn tmps).run P w = .ok (.tuple #[tmps.getD t undef, tmps.getD u undef, tmps.getD v undef, tmps.getD x undef]) w := by
  simp [results, h]
def shB (a b : ByteArray) : Bool := txtB a && txtB b
/-- What both answer. -/
def ShOut (a b : ByteArray) (X Y L : Nat) : Prop := if shB a b then ShTo a b a.size 0 X Y L else X = 0 ∧ Y = 0 ∧ L = 0
theorem ShOut.uniq {a b : ByteArray} {x y l x' y' l' : Nat} (h : ShOut a b x y l) (h' : ShOut a b x' y' l') : x = x' ∧ y = y' ∧ l = l' := by
  unfold ShOut at h h'
  split at h
  · rename_i hc
    rw [if_pos hc] at h'
    exact h.uniq h'
  · rename_i hc
    rw [if_neg hc] at h'
    omega
end Go.Proofs.Ytkfmjnefbimecaa
