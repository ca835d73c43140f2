/- Several texts in one: Lists of lists of numbers: their copies, equality, size and marks, as the laws make them. Words: IsWord of both programs. areWords of the program. FitLetters of the program: its tests, and the empty counts. -/
import Derived.Test.YtomofghiafcefaaMk
import Derived.Test.YtomofghiafcefaaMgb
import Derived.Deep.QuietTactic
import Derived.BigQuiet
import Derived.Deep.LoopGhost
import Derived.Deep.RegionHeld3
import Derived.Deep.RegionWith
import Derived.Test.YtomofghiafcefaaTxtB
import Derived.Test.YtomofghiafcefaaFiP
import Derived.Test.YtomofghiafcefaaVd
import Derived.Test.YtomofghiafcefaaStO
import Derived.BigRegion

namespace Go.Proofs.Ytomofghiafcefaa
open Go.RowKit
set_option linter.unusedVariables false
/-- The slice value '.slice A n c' reads as the lists R; all lies in blocks below B. -/
def SlL (w : World) (B : Nat) (A : Option Addr) (n : Nat) (R : List (List Int)) : Prop :=
  ∃ hs : List Value, SlV w B A n hs ∧ hs.length = R.length ∧ ∀ (j : Nat) (r : List Int), R[j]? = some r → ∃ (A' : Option Addr) (c : Nat), hs[j]? = some (.slice A' r.length c) ∧ SlI w B A' r.length r ∧ r.length ≤ maxLen
section
variable {w w' : World} {B B' n : Nat} {A : Option Addr} {R : List (List Int)}
theorem SlL.len (h : SlL w B A n R) : R.length = n := by
  obtain ⟨hs, h1, h2, _⟩ := h
  have := h1.len; omega
theorem SlL.at_ {k : Nat} (h : SlL w B A n R) (hk : k < n) :
    ∃ b off A' c r, A = some ⟨b, off, none⟩ ∧ b < B ∧ Hid (R[k]? = some r) ∧ w.cell? ⟨b, off + k, none⟩ = some (.slice A' r.length c) ∧ Hid (SlI w B A' r.length r) ∧ r.length ≤ maxLen := by
  have hl := h.len
  obtain ⟨hs, h1, h2, h3⟩ := h
  obtain ⟨b, off, u, e, hb, hu, hc⟩ := h1.at_ hk
  obtain ⟨r, hr⟩ : ∃ r, R[k]? = some r := ⟨R[k], List.getElem?_eq_getElem (by omega)⟩
  obtain ⟨A', c, e1, e2, e3⟩ := h3 k r hr
  rw [hu] at e1
  cases e1
  exact ⟨b, off, A', c, r, e, hb, hr, hc, e2, e3⟩
theorem SlL.below (h : SlL w B A n R) (hb : Below B' w w') (hB : B ≤ B') : SlL w' B A n R := by
  obtain ⟨hs, h1, h2, h3⟩ := h
  refine ⟨hs, h1.below hb hB, h2, fun j r hr => ?_⟩
  obtain ⟨A', c, e1, e2, e3⟩ := h3 j r hr
  exact ⟨A', c, e1, e2.below hb hB, e3⟩
theorem SlL.more (h : SlL w B A n R) (hB : B ≤ B') : SlL w B' A n R := by
  obtain ⟨hs, h1, h2, h3⟩ := h
  refine ⟨hs, h1.more hB, h2, fun j r hr => ?_⟩
  obtain ⟨A', c, e1, e2, e3⟩ := h3 j r hr
  exact ⟨A', c, e1, e2.more hB, e3⟩
end
/-- How many numbers there are. -/
def sumL (R : List (List Int)) : Nat := (R.map List.length).sum
theorem sumL_nil : sumL [] = 0 := rfl
theorem sumL_append (R S : List (List Int)) : sumL (R ++ S) = sumL R + sumL S := by simp [sumL]
theorem sumL_take {R : List (List Int)} {k : Nat} {r : List Int} (h : R[k]? = some r) : sumL (R.take (k + 1)) = sumL (R.take k) + r.length := by
  obtain ⟨hk, rfl⟩ := List.getElem?_eq_some_iff.1 h
  rw [List.take_succ_eq_append_getElem hk, sumL_append]; simp [sumL]
theorem sumL_mem {R : List (List Int)} {r : List Int} (h : r ∈ R) : r.length ≤ sumL R := by
  induction R with
  | nil => cases h
  | cons a R ih =>
    simp only [sumL, List.map_cons, List.sum_cons] at ih ⊢
    rcases List.mem_cons.1 h with rfl | h
    · omega
    · have := ih h; omega
end Go.Proofs.Ytomofghiafcefaa


namespace Go.Proofs.Ytomofghiafcefaa
open Go.RowKit
set_option linter.unusedVariables false
theorem allIn_take_no {xs : List Int} {lo hi x : Int} {k : Nat} (hx : xs[k]? = some x) (h : inB x lo hi = false) : allIn xs lo hi = false := by
  unfold allIn
  rw [List.all_eq_false]
  exact ⟨x, List.mem_of_getElem? hx, by rw [h]; simp⟩
def wordB (xs : List Int) (T : Int) : Bool := inB T 1 4 && (decide (xs.length ≤ 12) && allIn xs 0 (T - 1))
theorem wordB_len {xs : List Int} {T : Int} (h : wordB xs T = true) : xs.length ≤ 12 := by
  unfold wordB at h
  rw [Bool.and_eq_true, Bool.and_eq_true] at h
  exact of_decide_eq_true h.2.1
end Go.Proofs.Ytomofghiafcefaa


namespace Go.Proofs.Ytomofghiafcefaa
open Go.RowKit
set_option linter.unusedVariables false
theorem allW_take {α : Type} {f : α → Bool} {ws : List α} {k : Nat} {x : α} (h : ws[k]? = some x) (h1 : (ws.take k).all f = true) (h2 : f x = true) : (ws.take (k + 1)).all f = true := by
  obtain ⟨hk, rfl⟩ := List.getElem?_eq_some_iff.1 h
  rw [List.take_succ_eq_append_getElem hk, List.all_append, h1]
  simp [h2]
theorem allW_no {α : Type} {f : α → Bool} {ws : List α} {k : Nat} {x : α} (h : ws[k]? = some x) (h2 : f x = false) : ws.all f = false := by
  rw [List.all_eq_false]
  exact ⟨x, List.mem_of_getElem? h, by simp [h2]⟩
end Go.Proofs.Ytomofghiafcefaa


namespace Go.Proofs.Ytomofghiafcefaa
open Go.RowKit
set_option linter.unusedVariables false
/-- Whether a model is valid and has 1 to 16 words. -/
def hwB (S T : Int) (P Q R : List F32) (ws : List (List Int)) : Bool := vdM S T P Q R && decide (1 ≤ ws.length) && decide (ws.length ≤ 16) && ws.all (fun xs => wordB xs T)
def hidA (S : Int) (word way : List Int) : Bool := decide (way.length = word.length + 1) && allIn way 0 (S - 1)
end Go.Proofs.Ytomofghiafcefaa
