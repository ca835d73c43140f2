/- Several texts in one: Rows that a call handed out: equality, and what marks leave of them. Blocks of an interval alone may turn. -/
import Derived.Test.YtomofghiafcefaaMk

namespace Go.Proofs.Ytomofghiafcefaa
open Go.RowKit
set_option linter.unusedVariables false
theorem RowI.nil (w : World) (base : Nat) (t : TypeId) : RowI w base t (.slice none 0 0) [] := ⟨by simp [iv], .inl ⟨rfl, rfl⟩⟩
theorem RowI.but {w w' : World} {base g : Nat} {t : TypeId} {v : Value} {r : List Int} (h : RowI w base t v r) (hb : But g w w') (hg : g < base) : RowI w' base t v r := by
  refine World.ownsRow.kept (row := some g) h ⟨hb.1, hb.2.1, hb.2.2.1, hb.2.2.2.1, fun k hk hne => hb.2.2.2.2 k hk (fun e => hne (by rw [e]))⟩ ?_
  cases hv : v.ownBlock with
  | none => simp
  | some k =>
    have := (World.ownsRow.lt h k hv).1
    simp; omega
theorem But.below' {g B : Nat} {a b : World} (h : But g a b) (hB : B ≤ g) (hs : g < a.heap.size) : Below B a b := h.below hB (by omega)
end Go.Proofs.Ytomofghiafcefaa


namespace Go.Proofs.Ytomofghiafcefaa
open Go.RowKit
set_option linter.unusedVariables false
/-- Blocks from lo to hi alone may have turned; new ones may stand behind. -/
def Kp (lo hi : Nat) (w w' : World) : Prop := w'.os = w.os ∧ w'.tape = w.tape ∧ w'.output = w.output ∧ w.heap.size ≤ w'.heap.size ∧ ∀ k, k < w.heap.size → (k < lo ∨ hi ≤ k) → w'.heap[k]? = w.heap[k]?
theorem But.kp {lo hi g : Nat} {w w' : World} (h : But g w w') (h1 : lo ≤ g) (h2 : g < hi) : Kp lo hi w w' := ⟨h.1, h.2.1, h.2.2.1, h.2.2.2.1, fun k hk hn => h.2.2.2.2 k hk (by omega)⟩
theorem Kp.trans {lo hi : Nat} {a b c : World} (h : Kp lo hi a b) (h' : Kp lo hi b c) : Kp lo hi a c :=
  ⟨h'.1.trans h.1, h'.2.1.trans h.2.1, h'.2.2.1.trans h.2.2.1, Nat.le_trans h.2.2.2.1 h'.2.2.2.1, fun k hk hn => (h'.2.2.2.2 k (Nat.lt_of_lt_of_le hk h.2.2.2.1) hn).trans (h.2.2.2.2 k hk hn)⟩
theorem Kp.refl (lo hi : Nat) (w : World) : Kp lo hi w w := ⟨rfl, rfl, rfl, Nat.le_refl _, fun _ _ _ => rfl⟩
theorem Kp.below {lo hi : Nat} {w w' : World} (h : Kp lo hi w w') (hs : lo ≤ w.heap.size) : Below lo w w' :=
  ⟨h.1, h.2.1, h.2.2.1, h.2.2.2.1, fun k hk => h.2.2.2.2 k (by omega) (.inl hk)⟩
theorem RowN.kp {w w' : World} {lo hi g n : Nat} {t : TypeId} (h : RowN w g t n) (hk : Kp lo hi w w') (hg : g < lo ∨ hi ≤ g) : RowN w' g t n := by
  obtain ⟨vs, hl, hr⟩ := h
  exact ⟨vs, hl, (hk.2.2.2.2 g hr.lt hg).trans hr⟩
theorem RowI.kp {w w' : World} {base lo hi : Nat} {t : TypeId} {v : Value} {r : List Int} (h : RowI w base t v r) (hb : Kp lo hi w w') (hg : hi ≤ base) : RowI w' base t v r := by
  obtain ⟨h1, h2⟩ := h
  refine ⟨h1, ?_⟩
  rcases h2 with h2 | ⟨g', cap, cur, e, hb', hg', rest⟩
  · exact .inl h2
  · exact .inr ⟨g', cap, cur, e, hb', (hb.2.2.2.2 g' (Array.getElem?_eq_some_iff.1 hg').1 (.inr (by omega))).trans hg', rest⟩
end Go.Proofs.Ytomofghiafcefaa
