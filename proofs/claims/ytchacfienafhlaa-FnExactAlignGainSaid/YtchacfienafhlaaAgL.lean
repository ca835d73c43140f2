/- Alignments: both programs, whole. -/
import Derived.Test.YtchacfienafhlaaAgT
namespace Go.Proofs.Ytchacfienafhlaa
open Go.RowKit Go.PlainAid
set_option linter.unusedVariables false
def agV1 (a b : ByteArray) (s d o m : Int) : Int := if agOk a b s d o m then agB (ag a b s d o m 1099511627776 a.size b.size) else 0
theorem agV_same (a b : ByteArray) (s d o m : Int) (h : agOk a b s d o m = true) : agB (ag a b s d o m 1000000000 a.size b.size) = agV1 a b s d o m := by
  unfold agV1
  rw [if_pos h]
  unfold agOk at h
  rw [Bool.and_eq_true, Bool.and_eq_true] at h
  have ha := txtB_true h.1.1
  have hb := txtB_true h.1.2
  obtain ⟨hs, hd, ho, hm⟩ := agc4 h.2
  exact ag_best a b (by omega) (by omega) hs hd ho hm (by omega)
set_option maxRecDepth 100000 in
set_option maxHeartbeats 2000000 in
theorem iAlign_any (a b : ByteArray) (s d o m : Int) (wa : a.size ≤ maxLen) (wb : b.size ≤ maxLen) (w : World) :
    Calls Try.prog 8 #[.string a, .string b, .int .i64 s, .int .i64 d, .int .i64 o, .int .i64 m] w fun e w' => e = .returned (.tuple #[.int .i64 (agV1 a b s d o m), .bool (agOk a b s d o m)]) ∧ Below w.heap.size w w' := by
  by_cases h1 : txtB a = true
  · by_cases h2 : txtB b = true
    · by_cases h3 : allIn [s, d, o, m] 0 1000 = true
      · have hB : agOk a b s d o m = true := by simp [agOk, h1, h2, h3]
        have hV : agV1 a b s d o m = agB (ag a b s d o m 1099511627776 a.size b.size) := if_pos hB
        rw [hV, hB]
        exact iAlign_yes a b s d o m wa wb h1 h2 h3 w
      · have h3' : allIn [s, d, o, m] 0 1000 = false := by simpa using h3
        have hB := Lib.hid (show agOk a b s d o m = false by simp [agOk, h3'])
        have hV := Lib.hid (show agV1 a b s d o m = 0 by simp [agV1, agOk, h3'])
        go_enter Try.func8, Try.ntmps8
        go_wp2_with (first | (go_at_call 36; refine (iIsText_any _ (by assumption) _).mono ?_; rintro e w' ⟨rfl, rfl⟩) | (go_at_call 37; refine (iCosts_any (some ⟨w.heap.size, 0, none⟩) 4 4 [s, d, o, m] (w.heap.size + 1) _ (by have := (Row.new w 2 (iv [s, d, o, m])).sl; simp at this; exact this) (by omega)).mono ?_; rintro e w' ⟨rfl, rfl⟩))
        go_ret2
        exact ⟨by rw [hV.out, hB.out]; rfl, (Below.refl _ _).alloc (Nat.le_refl _) _⟩
    · have h2' : txtB b = false := by simpa using h2
      have hB := Lib.hid (show agOk a b s d o m = false by simp [agOk, h2'])
      have hV := Lib.hid (show agV1 a b s d o m = 0 by simp [agV1, agOk, h2'])
      go_enter Try.func8, Try.ntmps8
      go_wp2_with (first | (go_at_call 36; refine (iIsText_any _ (by assumption) _).mono ?_; rintro e w' ⟨rfl, rfl⟩))
      go_ret2
      exact ⟨by rw [hV.out, hB.out]; rfl, Below.refl _ _⟩
  · have h1' : txtB a = false := by simpa using h1
    have hB := Lib.hid (show agOk a b s d o m = false by simp [agOk, h1'])
    have hV := Lib.hid (show agV1 a b s d o m = 0 by simp [agV1, agOk, h1'])
    go_enter Try.func8, Try.ntmps8
    go_wp2_with (first | (go_at_call 36; refine (iIsText_any _ (by assumption) _).mono ?_; rintro e w' ⟨rfl, rfl⟩))
    go_ret2
    exact ⟨by rw [hV.out, hB.out]; rfl, Below.refl _ _⟩
set_option maxRecDepth 100000 in
set_option maxHeartbeats 2000000 in
theorem sAlign_any (a b : ByteArray) (s d o m : Int) (wa : a.size ≤ maxLen) (wb : b.size ≤ maxLen) (w : World) :
    Calls Try.prog 7 #[.string a, .string b, .int .i64 s, .int .i64 d, .int .i64 o, .int .i64 m] w fun e w' => e = .returned (.tuple #[.int .i64 (agV1 a b s d o m), .bool (agOk a b s d o m)]) ∧ Below w.heap.size w w' := by
  by_cases h1 : txtB a = true
  · by_cases h2 : txtB b = true
    · by_cases h3 : allIn [s, d, o, m] 0 1000 = true
      · have hB : agOk a b s d o m = true := by simp [agOk, h1, h2, h3]
        rw [← agV_same a b s d o m hB, hB]
        exact sAlign_yes a b s d o m wa wb (by simp [h1, h2]) h3 w
      · have h3' : allIn [s, d, o, m] 0 1000 = false := by simpa using h3
        have hB := Lib.hid (show agOk a b s d o m = false by simp [agOk, h3'])
        have hV := Lib.hid (show agV1 a b s d o m = 0 by simp [agV1, agOk, h3'])
        go_enter Try.func7, Try.ntmps7
        go_wp2_with (first | (go_at_call 33; refine (sTwo_any _ _ (by assumption) (by assumption) _).mono ?_; rintro e w' ⟨rfl, rfl⟩) | (go_at_call 34; refine (sCosts_any (some ⟨w.heap.size, 0, none⟩) 4 4 [s, d, o, m] (w.heap.size + 1) _ (by have := (Row.new w 2 (iv [s, d, o, m])).sl; simp at this; exact this) (by omega)).mono ?_; rintro e w' ⟨rfl, rfl⟩))
        go_ret2
        exact ⟨by rw [hV.out, hB.out]; rfl, (Below.refl _ _).alloc (Nat.le_refl _) _⟩
    · have h2' : txtB b = false := by simpa using h2
      have hB := Lib.hid (show agOk a b s d o m = false by simp [agOk, h2'])
      have hV := Lib.hid (show agV1 a b s d o m = 0 by simp [agV1, agOk, h2'])
      go_enter Try.func7, Try.ntmps7
      go_wp2_with (first | (go_at_call 33; refine (sTwo_any _ _ (by assumption) (by assumption) _).mono ?_; rintro e w' ⟨rfl, rfl⟩))
      go_ret2
      exact ⟨by rw [hV.out, hB.out]; rfl, Below.refl _ _⟩
  · have h1' : txtB a = false := by simpa using h1
    have hB := Lib.hid (show agOk a b s d o m = false by simp [agOk, h1'])
    have hV := Lib.hid (show agV1 a b s d o m = 0 by simp [agV1, agOk, h1'])
    go_enter Try.func7, Try.ntmps7
    go_wp2_with (first | (go_at_call 33; refine (sTwo_any _ _ (by assumption) (by assumption) _).mono ?_; rintro e w' ⟨rfl, rfl⟩))
    go_ret2
    exact ⟨by rw [hV.out, hB.out]; rfl, Below.refl _ _⟩
end Go.Proofs.Ytchacfienafhlaa
