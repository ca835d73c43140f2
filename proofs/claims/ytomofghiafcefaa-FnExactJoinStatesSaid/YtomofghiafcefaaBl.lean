/- Lists of truth values, as the laws' helpers copy and compare them. -/
import Derived.Test.YtomofghiafcefaaMem
import Derived.Test.YtomofghiafcefaaMga
import Derived.Test.YtomofghiafcefaaMk
import Derived.Deep.QuietTactic
import Derived.BigQuiet

namespace Go.Proofs.Ytomofghiafcefaa
open Go.RowKit
set_option linter.unusedVariables false
def bv (xs : List Bool) : List Value := xs.map .bool
def SlB (w : World) (B : Nat) (A : Option Addr) (n : Nat) (xs : List Bool) : Prop := SlV w B A n (bv xs)
theorem bv_length (xs : List Bool) : (bv xs).length = xs.length := by simp [bv]
theorem bv_append (xs ys : List Bool) : bv (xs ++ ys) = bv xs ++ bv ys := by simp [bv]
theorem bv_get {xs : List Bool} {k : Nat} {u : Value} (h : (bv xs)[k]? = some u) : ∃ x, xs[k]? = some x ∧ u = .bool x := by
  simp only [bv, List.getElem?_map, Option.map_eq_some_iff] at h
  obtain ⟨x, hx, rfl⟩ := h
  exact ⟨x, hx, rfl⟩
theorem bv_take {xs : List Bool} {k : Nat} {x : Bool} (hx : xs[k]? = some x) : bv (xs.take (k + 1)) = bv (xs.take k) ++ [.bool x] := by
  obtain ⟨hk, rfl⟩ := List.getElem?_eq_some_iff.1 hx
  rw [List.take_succ_eq_append_getElem hk, bv_append]; rfl
section
variable {w w' : World} {B B' n : Nat} {A : Option Addr} {xs : List Bool}
theorem SlB.len (h : SlB w B A n xs) : xs.length = n := by have := SlV.len h; simpa [bv] using this
theorem SlB.at_ {k : Nat} (h : SlB w B A n xs) (hk : k < n) :
    ∃ b off x, A = some ⟨b, off, none⟩ ∧ b < B ∧ Hid (xs[k]? = some x) ∧ w.cell? ⟨b, off + k, none⟩ = some (.bool x) := by
  obtain ⟨b, off, u, e, hb, hu, hc⟩ := SlV.at_ h hk
  obtain ⟨x, hx, rfl⟩ := bv_get hu
  exact ⟨b, off, x, e, hb, hx, hc⟩
theorem SlB.below (h : SlB w B A n xs) (hb : Below B' w w') (hB : B ≤ B') : SlB w' B A n xs := SlV.below h hb hB
theorem SlB.more (h : SlB w B A n xs) (hB : B ≤ B') : SlB w B' A n xs := SlV.more h hB
theorem Row.slB {g : Nat} {t : TypeId} (h : Row w g t (bv xs)) : SlB w w.heap.size (some ⟨g, 0, none⟩) xs.length xs := by
  have := h.sl; rw [bv_length] at this; exact this
end
theorem infoBool : (Try.prog.info? 4).map (fun i => (i.zero, i.size, i.bytes)) = some (some (.bool false), 1, 1) := by kernel_rfl
end Go.Proofs.Ytomofghiafcefaa
