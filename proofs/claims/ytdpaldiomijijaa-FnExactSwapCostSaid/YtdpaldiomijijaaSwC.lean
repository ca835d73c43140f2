/- SwapCost of both programs. -/
import Derived.Test.YtdpaldiomijijaaTxtB
import Derived.Test.YtdpaldiomijijaaSw
import Derived.Test.YtdpaldiomijijaaSw2
namespace Go.Proofs.Ytdpaldiomijijaa
open Go.RowKit Go.PlainAid
set_option linter.unusedVariables false
def scB (a b : ByteArray) : Bool := txtB a && txtB b
def scV (a b : ByteArray) : Int := if scB a b then sw a b a.size b.size else 0

set_option maxHeartbeats 1000000 in
theorem iSwapCost_any (a b : ByteArray) (wa : a.size ≤ maxLen) (wb : b.size ≤ maxLen) (w : World) :
    Calls Try.prog 30 #[.string a, .string b] w fun e w' => e = .returned (.tuple #[.int .i64 (scV a b), .bool (scB a b)]) ∧ Below w.heap.size w w' := by
  by_cases h1 : txtB a = true
  · by_cases h2 : txtB b = true
    · have hB := Lib.hid (show scB a b = true by simp [scB, h1, h2])
      have hV := Lib.hid (show scV a b = sw a b a.size b.size by simp [scV, scB, h1, h2])
      have ha := txtB_true h1
      have hb := txtB_true h2
      go_enter Try.func30, Try.ntmps30
      go_wp2_with (first | (go_at_call 16; refine (iIsText_any _ (by assumption) _).mono ?_; rintro e w' ⟨rfl, rfl⟩) | (go_at_call 53; refine (iSwap_any _ _ ha hb _).mono ?_; rintro e w1 ⟨rfl, hb1⟩))
      go_ret2
      exact ⟨by rw [hV.out, hB.out]; rfl, hb1⟩
    · have h2' : txtB b = false := by simpa using h2
      have hB := Lib.hid (show scB a b = false by simp [scB, h2'])
      have hV := Lib.hid (show scV a b = 0 by simp [scV, scB, h2'])
      go_enter Try.func30, Try.ntmps30
      go_wp2_with (first | (go_at_call 16; refine (iIsText_any _ (by assumption) _).mono ?_; rintro e w' ⟨rfl, rfl⟩))
      go_ret2
      exact ⟨by rw [hV.out, hB.out]; rfl, Below.refl _ _⟩
  · have h1' : txtB a = false := by simpa using h1
    have hB := Lib.hid (show scB a b = false by simp [scB, h1'])
    have hV := Lib.hid (show scV a b = 0 by simp [scV, scB, h1'])
    go_enter Try.func30, Try.ntmps30
    go_wp2_with (first | (go_at_call 16; refine (iIsText_any _ (by assumption) _).mono ?_; rintro e w' ⟨rfl, rfl⟩))
    go_ret2
    exact ⟨by rw [hV.out, hB.out]; rfl, Below.refl _ _⟩

set_option maxHeartbeats 1000000 in
theorem sSwapCost_any (a b : ByteArray) (wa : a.size ≤ maxLen) (wb : b.size ≤ maxLen) (w : World) :
    Calls Try.prog 29 #[.string a, .string b] w fun e w' => e = .returned (.tuple #[.int .i64 (scV a b), .bool (scB a b)]) ∧ Below w.heap.size w w' := by
  by_cases h1 : txtB a = true
  · by_cases h2 : txtB b = true
    · have hB := Lib.hid (show scB a b = true by simp [scB, h1, h2])
      have hV := Lib.hid (show scV a b = sw a b a.size b.size by simp [scV, scB, h1, h2])
      have ha := txtB_true h1
      have hb := txtB_true h2
      go_enter Try.func29, Try.ntmps29
      go_wp2_with (first | (go_at_call 48; refine (sTwo_any _ _ (by assumption) (by assumption) _).mono ?_; rintro e w' ⟨rfl, rfl⟩) | (go_at_call 52; refine (sSwap_any _ _ ha hb _).mono ?_; rintro e w1 ⟨rfl, hb1⟩))
      go_ret2
      exact ⟨by rw [hV.out, hB.out]; rfl, hb1⟩
    · have h2' : txtB b = false := by simpa using h2
      have hB := Lib.hid (show scB a b = false by simp [scB, h2'])
      have hV := Lib.hid (show scV a b = 0 by simp [scV, scB, h2'])
      go_enter Try.func29, Try.ntmps29
      go_wp2_with (first | (go_at_call 48; refine (sTwo_any _ _ (by assumption) (by assumption) _).mono ?_; rintro e w' ⟨rfl, rfl⟩))
      go_ret2
      exact ⟨by rw [hV.out, hB.out]; rfl, Below.refl _ _⟩
  · have h1' : txtB a = false := by simpa using h1
    have hB := Lib.hid (show scB a b = false by simp [scB, h1'])
    have hV := Lib.hid (show scV a b = 0 by simp [scV, scB, h1'])
    go_enter Try.func29, Try.ntmps29
    go_wp2_with (first | (go_at_call 48; refine (sTwo_any _ _ (by assumption) (by assumption) _).mono ?_; rintro e w' ⟨rfl, rfl⟩))
    go_ret2
    exact ⟨by rw [hV.out, hB.out]; rfl, Below.refl _ _⟩
end Go.Proofs.Ytdpaldiomijijaa
