/- Several texts in one: Least edits: the table of the reference. EditCost of both programs: the last number of the table. -/
import Derived.Test.YtkfmjnefbimecaaMga
import Derived.Test.YtkfmjnefbimecaaTab
import Derived.Test.YtkfmjnefbimecaaEdP
import Derived.Deep.QuietTactic
import Derived.BigQuiet
import Derived.Test.YtkfmjnefbimecaaEd

namespace Go.Proofs.Ytkfmjnefbimecaa
open Go.RowKit Go.PlainAid
set_option linter.unusedVariables false
theorem infoI2 : (Try.prog.info? 2).map (fun i => (i.zero, i.size, i.bytes)) = some (some (.int .i64 0), 1, 8) := by kernel_rfl
theorem infoS2 : (Try.prog.info? 26).map (fun i => (i.zero, i.size, i.bytes)) = some (some (.slice none 0 0), 1, 24) := by kernel_rfl
end Go.Proofs.Ytkfmjnefbimecaa


namespace Go.Proofs.Ytkfmjnefbimecaa
open Go.RowKit Go.PlainAid
set_option linter.unusedVariables false
def ecB (a b : ByteArray) (p o c : Int) : Bool := txtB a && txtB b && allIn [p, o, c] 0 1000
def ecV (a b : ByteArray) (p o c : Int) : Int := if ecB a b p o c then ed a b p o c a.size b.size else 0
theorem costs3 {p o c : Int} (h : allIn [p, o, c] 0 1000 = true) : (0 ≤ p ∧ p ≤ 1000) ∧ (0 ≤ o ∧ o ≤ 1000) ∧ (0 ≤ c ∧ c ≤ 1000) := by
  simp only [allIn, List.all_cons, List.all_nil, Bool.and_true, Bool.and_eq_true] at h
  exact ⟨inB_true h.1, inB_true h.2.1, inB_true h.2.2⟩

set_option maxHeartbeats 1000000 in
theorem iEditCost_any (a b : ByteArray) (p o c : Int) (wa : a.size ≤ maxLen) (wb : b.size ≤ maxLen) (w : World) :
    Calls Try.prog 30 #[.string a, .string b, .int .i64 p, .int .i64 o, .int .i64 c] w fun e w' => e = .returned (.tuple #[.int .i64 (ecV a b p o c), .bool (ecB a b p o c)]) ∧ Below w.heap.size w w' := by
  by_cases h1 : txtB a = true
  · by_cases h2 : txtB b = true
    · by_cases h3 : allIn [p, o, c] 0 1000 = true
      · have hB := Lib.hid (show ecB a b p o c = true by simp [ecB, h1, h2, h3])
        have hV := Lib.hid (show ecV a b p o c = ed a b p o c a.size b.size by simp [ecV, ecB, h1, h2, h3])
        have ha := txtB_true h1
        have hb := txtB_true h2
        obtain ⟨hp, ho, hc⟩ := costs3 h3
        go_enter Try.func30, Try.ntmps30
        go_wp2_with (first | (go_at_call 79; refine (iIsText_any _ (by assumption) _).mono ?_; rintro e w' ⟨rfl, rfl⟩) | (go_at_call 80; refine (iCosts_any (some ⟨w.heap.size, 0, none⟩) 3 3 [p, o, c] (w.heap.size + 1) _ (by have := (Row.new w 2 (iv [p, o, c])).sl; simp at this; exact this) (by omega)).mono ?_; rintro e w' ⟨rfl, rfl⟩))
        refine (iEditTable_any _ _ _ _ _ ha hb hp ho hc _).mono ?_
        rintro e w1 ⟨v, rfl, htab, hb1⟩
        obtain ⟨gt, ct, g, cc, hv, hct, hgt, hgtl, hch, hcc, hg, hgl, hne, hcs⟩ := htab.at_ (rowsOf_get (ed a b p o c) (j := a.size) (n := b.size + 1) (Nat.lt_succ_self _))
        rw [rowOf_length] at hch hcc
        rw [rowsOf_length] at hct hv
        subst hv
        have hx1 := hcs b.size _ (rowOf_get _ (Nat.lt_succ_self _))
        clear hcs htab
        generalize ed a b p o c a.size b.size = x at *
        go_wp2
        go_ret2
        refine ⟨by rw [hV.out, hB.out]; rfl, ?_⟩
        exact ((Below.refl _ _).alloc (Nat.le_refl _) _).trans (hb1.mono (by simp))
      · have h3' : allIn [p, o, c] 0 1000 = false := by simpa using h3
        have hB := Lib.hid (show ecB a b p o c = false by simp [ecB, h3'])
        have hV := Lib.hid (show ecV a b p o c = 0 by simp [ecV, ecB, h3'])
        go_enter Try.func30, Try.ntmps30
        go_wp2_with (first | (go_at_call 79; refine (iIsText_any _ (by assumption) _).mono ?_; rintro e w' ⟨rfl, rfl⟩) | (go_at_call 80; refine (iCosts_any (some ⟨w.heap.size, 0, none⟩) 3 3 [p, o, c] (w.heap.size + 1) _ (by have := (Row.new w 2 (iv [p, o, c])).sl; simp at this; exact this) (by omega)).mono ?_; rintro e w' ⟨rfl, rfl⟩))
        go_ret2
        exact ⟨by rw [hV.out, hB.out]; rfl, (Below.refl _ _).alloc (Nat.le_refl _) _⟩
    · have h2' : txtB b = false := by simpa using h2
      have hB := Lib.hid (show ecB a b p o c = false by simp [ecB, h2'])
      have hV := Lib.hid (show ecV a b p o c = 0 by simp [ecV, ecB, h2'])
      go_enter Try.func30, Try.ntmps30
      go_wp2_with (first | (go_at_call 79; refine (iIsText_any _ (by assumption) _).mono ?_; rintro e w' ⟨rfl, rfl⟩))
      go_ret2
      exact ⟨by rw [hV.out, hB.out]; rfl, Below.refl _ _⟩
  · have h1' : txtB a = false := by simpa using h1
    have hB := Lib.hid (show ecB a b p o c = false by simp [ecB, h1'])
    have hV := Lib.hid (show ecV a b p o c = 0 by simp [ecV, ecB, h1'])
    go_enter Try.func30, Try.ntmps30
    go_wp2_with (first | (go_at_call 79; refine (iIsText_any _ (by assumption) _).mono ?_; rintro e w' ⟨rfl, rfl⟩))
    go_ret2
    exact ⟨by rw [hV.out, hB.out]; rfl, Below.refl _ _⟩

end Go.Proofs.Ytkfmjnefbimecaa
