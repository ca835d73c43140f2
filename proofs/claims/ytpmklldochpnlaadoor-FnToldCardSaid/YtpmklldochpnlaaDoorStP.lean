/- Stems, plainly. -/
import Derived.Test.YtpmklldochpnlaaDoorCsP

namespace Go.Proofs.YtpmklldochpnlaaDoor
open Go.PlainAid
set_option linter.unusedVariables false
/-- Whether t ends with s. -/
def hsB (t s : ByteArray) : Bool := decide (s.size ≤ t.size) && decide (t.extract (t.size - s.size) t.size = s)
def okAt (t : ByteArray) (least : Int) (e : ByteArray) : Bool := hsB t e && decide (least ≤ (t.size : Int) - (e.size : Int))
def emp : ByteArray := ⟨#[]⟩
/-- The place of the longest end of the first k; -1 for none. -/
def stb (es : List ByteArray) (t : ByteArray) (least : Int) : Nat → Int
  | 0 => -1
  | k + 1 => if okAt t least (es.getD k emp) && (decide (stb es t least k < 0) || decide ((es.getD (stb es t least k).toNat emp).size < (es.getD k emp).size)) then (k : Int) else stb es t least k
theorem stb_bd (es : List ByteArray) (t : ByteArray) (least : Int) : ∀ k, stb es t least k = -1 ∨ ∃ j : Nat, j < k ∧ stb es t least k = (j : Int) := by
  intro k
  induction k with
  | zero => exact .inl rfl
  | succ k ih =>
    rw [stb]
    split
    · exact .inr ⟨k, by omega, rfl⟩
    · rcases ih with h | ⟨j, hj, h⟩
      · exact .inl h
      · exact .inr ⟨j, by omega, h⟩
theorem getD_of {es : List ByteArray} {k : Nat} {x : ByteArray} (h : es[k]? = some x) : es.getD k emp = x := by rw [List.getD_eq_getElem?_getD, h]; rfl
theorem stb_no {es : List ByteArray} {t : ByteArray} {least : Int} {k : Nat} {x : ByteArray} (hx : es[k]? = some x) (h : okAt t least x = false) : stb es t least (k + 1) = stb es t least k := by
  rw [stb, getD_of hx, h]; rfl
theorem stb_new {es : List ByteArray} {t : ByteArray} {least : Int} {k : Nat} {x : ByteArray} (hx : es[k]? = some x) (h : okAt t least x = true) (h1 : stb es t least k < 0) : stb es t least (k + 1) = (k : Int) := by
  rw [stb, getD_of hx, h, decide_eq_true h1]; rfl
theorem stb_more {es : List ByteArray} {t : ByteArray} {least : Int} {k j : Nat} {x y : ByteArray} (hx : es[k]? = some x) (h : okAt t least x = true) (h1 : stb es t least k = (j : Int)) (hy : es[j]? = some y) (hl : y.size < x.size) : stb es t least (k + 1) = (k : Int) := by
  rw [stb, getD_of hx, h, h1]
  have : es.getD (Int.toNat (j : Int)) emp = y := by rw [Int.toNat_natCast]; exact getD_of hy
  rw [this, decide_eq_true hl]; simp
theorem stb_less {es : List ByteArray} {t : ByteArray} {least : Int} {k j : Nat} {x y : ByteArray} (hx : es[k]? = some x) (h1 : stb es t least k = (j : Int)) (hy : es[j]? = some y) (hl : x.size ≤ y.size) : stb es t least (k + 1) = stb es t least k := by
  rw [stb, getD_of hx, h1]
  have : es.getD (Int.toNat (j : Int)) emp = y := by rw [Int.toNat_natCast]; exact getD_of hy
  rw [this, decide_eq_false (show ¬ ((j : Int) < 0) by omega), decide_eq_false (show ¬ (y.size < x.size) by omega)]; simp
def stB (es is : List ByteArray) (t : ByteArray) (least : Int) : Bool := txtB t && ltB es && ltB is && decide (es.length = is.length) && inB least 0 48
def stE (es is : List ByteArray) (t : ByteArray) (b : Int) : ByteArray := t.extract 0 (t.size - (es.getD b.toNat emp).size) ++ is.getD b.toNat emp
def stF (es is : List ByteArray) (t : ByteArray) (b : Int) : ByteArray × Bool := if b < 0 then (t, true) else if txtB (stE es is t b) then (stE es is t b, true) else (emp, false)
/-- What both answer. -/
def stV (es is : List ByteArray) (t : ByteArray) (least : Int) : ByteArray × Bool := if stB es is t least then stF es is t (stb es t least es.length) else (emp, false)
theorem stb_fit {es : List ByteArray} {t : ByteArray} {least : Int} : ∀ {k j : Nat}, stb es t least k = (j : Int) → ∀ {y : ByteArray}, es[j]? = some y → y.size ≤ t.size := by
  intro k
  induction k with
  | zero => intro j h; exact absurd h (by rw [stb]; omega)
  | succ k ih =>
    intro j h y hy
    rw [stb] at h
    split at h
    · rename_i hc
      obtain rfl : k = j := by omega
      rw [getD_of hy, Bool.and_eq_true] at hc
      have h1 := hc.1
      unfold okAt hsB at h1
      rw [Bool.and_eq_true, Bool.and_eq_true] at h1
      exact of_decide_eq_true h1.1.1
    · exact ih h hy
end Go.Proofs.YtpmklldochpnlaaDoor
