/- Rows that a call handed out, of any kind of element: what they read, and what marks leave of them. -/
import Derived.Test.YtomofghiafcefaaMgb
import Derived.Test.YtomofghiafcefaaArc
import Derived.Test.YtomofghiafcefaaBl

namespace Go.Proofs.Ytomofghiafcefaa
open Go.RowKit
set_option linter.unusedVariables false
/-- v is nil, or the head of a row of the call's own in a block from lo on and below hi; it reads as the cells xs. -/
def OwnV (w : World) (lo hi : Nat) (t : TypeId) (sz : Nat) (v : Value) (n : Nat) (xs : List Value) : Prop := w.ownsRow lo t sz v n xs ∧ ∀ k, v.ownBlock = some k → k < hi
theorem But.grown {g : Nat} {w w' : World} (h : But g w w') : w.grownBy w' (some g) := ⟨h.1, h.2.1, h.2.2.1, h.2.2.2.1, fun k hk hne => h.2.2.2.2 k hk (fun e => hne (by rw [e]))⟩
theorem grown_kp {w w' : World} {row : Option Nat} {lo hi : Nat} (h : w.grownBy w' row) (hr : ∀ k, row = some k → lo ≤ k ∧ k < hi) : Kp lo hi w w' :=
  ⟨h.os, h.tape, h.output, h.size, fun k hk hn => h.block k hk (fun e => by have := hr k e.symm; omega)⟩
theorem Row.kp {w w' : World} {lo hi g : Nat} {t : TypeId} {vs : List Value} (h : Row w g t vs) (hk : Kp lo hi w w') (hg : g < lo ∨ hi ≤ g) : Row w' g t vs := (hk.2.2.2.2 g h.lt hg).trans h
theorem grown_refl (w : World) (row : Option Nat) : w.grownBy w row := ⟨rfl, rfl, rfl, Nat.le_refl _, fun _ _ _ => rfl⟩
section
variable {w w' : World} {lo hi sz n B : Nat} {t : TypeId} {v : Value} {xs : List Value}
theorem OwnV.of (h : w.ownsRow lo t sz v n xs) : OwnV w lo w.heap.size t sz v n xs := ⟨h, fun k hk => (h.lt k hk).2⟩
theorem OwnV.nil (w : World) (lo hi : Nat) (t : TypeId) (sz : Nat) : OwnV w lo hi t sz (.slice none 0 0) 0 [] := ⟨World.ownsRow_nil w lo t sz, fun k hk => by simp [Value.ownBlock] at hk⟩
theorem OwnV.lt (h : OwnV w lo hi t sz v n xs) : ∀ k, v.ownBlock = some k → lo ≤ k ∧ k < hi := fun k hk => ⟨(h.1.lt k hk).1, h.2 k hk⟩
theorem OwnV.move (h : OwnV w lo hi t sz v n xs) (hb : ∀ g, v.ownBlock = some g → w'.heap[g]? = w.heap[g]?) : OwnV w' lo hi t sz v n xs := by
  obtain ⟨⟨h1, h2⟩, h3⟩ := h
  refine ⟨⟨h1, ?_⟩, h3⟩
  rcases h2 with h2 | ⟨g, cap, cur, rfl, hg, hh, rest⟩
  · exact .inl h2
  · exact .inr ⟨g, cap, cur, rfl, hg, (hb g rfl).trans hh, rest⟩
theorem OwnV.below (h : OwnV w lo hi t sz v n xs) (hb : Below B w w') (hB : hi ≤ B) : OwnV w' lo hi t sz v n xs :=
  h.move fun g hg => hb.block g (by have := h.2 g hg; omega)
theorem OwnV.kp {lo' hi' : Nat} (h : OwnV w lo hi t sz v n xs) (hk : Kp lo' hi' w w') (hd : hi' ≤ lo ∨ hi ≤ lo') : OwnV w' lo hi t sz v n xs :=
  h.move fun g hg => hk.2.2.2.2 g (h.1.lt g hg).2 (by have := h.lt g hg; omega)
theorem OwnV.grown {row : Option Nat} (h : OwnV w lo hi t sz v n xs) (hg : w.grownBy w' row) (hne : ∀ k, v.ownBlock = some k → row ≠ some k) : OwnV w' lo hi t sz v n xs :=
  h.move fun g hv => hg.block g (h.1.lt g hv).2 (fun e => hne g hv e.symm)
theorem OwnV.more {hi' : Nat} (h : OwnV w lo hi t sz v n xs) (hh : hi ≤ hi') : OwnV w lo hi' t sz v n xs := ⟨h.1, fun k hk => Nat.lt_of_lt_of_le (h.2 k hk) hh⟩
theorem OwnV.form (h : OwnV w lo hi t sz v n xs) : ∃ A c, v = .slice A n c ∧ n ≤ c ∧ c ≤ maxLen := own_form h.1
theorem OwnV.rowN (h : OwnV w lo hi t sz v n xs) : (v = .slice none 0 0 ∧ n = 0) ∨ ∃ g cap, v = .slice (some ⟨g, 0, none⟩) n cap ∧ lo ≤ g ∧ g < hi ∧ RowN w g t (cap * sz) ∧ n ≤ cap := by
  obtain ⟨⟨h1, h2⟩, h3⟩ := h
  rcases h2 with h2 | ⟨g, cap, cur, rfl, hb, hg, hnc, hm, hs, ht⟩
  · exact .inl h2
  · refine .inr ⟨g, cap, rfl, hb, h3 g rfl, ⟨cur.toList, by simpa using hs, ?_⟩, hnc⟩
    show w.heap[g]? = some (.cells cur.toList.toArray t (0, 0))
    rw [Array.toArray_toList]; exact hg
theorem OwnV.slV (h : OwnV w lo hi t 1 v n xs) : ∃ A c, v = .slice A n c ∧ SlV w w.heap.size A n xs := by
  obtain ⟨A, c, rfl, _, _⟩ := h.form
  exact ⟨A, c, rfl, own_sl h.1⟩
theorem OwnV.slA {L : List A4} (h : OwnV w lo hi t 4 v L.length (fa L)) : ∃ A c, v = .slice A L.length c ∧ SlA w w.heap.size A L.length L := by
  obtain ⟨h1, h2⟩ := h.1
  rcases h2 with ⟨rfl, hn⟩ | ⟨g, cap, cur, rfl, hb, hg, hnc, hm, hs, ht⟩
  · exact ⟨none, 0, by rw [hn], by rw [List.length_eq_zero_iff.1 hn]; exact SlA.nil _ _ _⟩
  · refine ⟨_, cap, rfl, rfl, fun h0 => ⟨g, 0, rfl, (Array.getElem?_eq_some_iff.1 hg).1, fun j a ha => ?_⟩⟩
    have hj := (List.getElem?_eq_some_iff.1 ha).1
    have hget : ∀ q, q < L.length * 4 → w.cell? ⟨g, q, none⟩ = (fa L)[q]? := by
      intro q hq
      rw [cell_of_row w g q cur t (0, 0) hg, ← ht, List.getElem?_take_of_lt hq]; simp
    obtain ⟨c0, c1, c2, c3⟩ := fa_get ha
    simp only [Nat.zero_add]
    rw [hget _ (by omega), hget _ (by omega), hget _ (by omega), hget _ (by omega)]
    exact ⟨c0, c1, c2, c3⟩
end
/-- The n elements of v (sz cells each) bear the marks of k, k + 1, .. -/
def Mkd (f : Int → Value) (w : World) (sz : Nat) (v : Value) (n : Nat) (k : Int) : Prop := (v = .slice none 0 0 ∧ n = 0) ∨ ∃ g c, v = .slice (some ⟨g, 0, none⟩) n c ∧ g < w.heap.size ∧ ∀ q : Nat, q < n * sz → w.cell? ⟨g, q, none⟩ = some (f (k + q))
theorem Mkd.move {f : Int → Value} {w w' : World} {sz n : Nat} {v : Value} {k : Int} (h : Mkd f w sz v n k) (hs : w.heap.size ≤ w'.heap.size) (hb : ∀ g, v.ownBlock = some g → w'.heap[g]? = w.heap[g]?) : Mkd f w' sz v n k := by
  rcases h with h | ⟨g, c, rfl, hg, hq⟩
  · exact .inl h
  · exact .inr ⟨g, c, rfl, Nat.lt_of_lt_of_le hg hs, fun q hlt => (World.cell?_of_block (a := ⟨g, q, none⟩) (hb g rfl)).trans (hq q hlt)⟩
theorem Mkd.below {f : Int → Value} {w w' : World} {sz n B : Nat} {v : Value} {k : Int} (h : Mkd f w sz v n k) (hb : Below B w w') (hB : w.heap.size ≤ B) : Mkd f w' sz v n k := by
  refine h.move hb.size fun g hg => hb.block g ?_
  rcases h with ⟨rfl, _⟩ | ⟨g', c, rfl, hg', _⟩
  · simp [Value.ownBlock] at hg
  · simp [Value.ownBlock] at hg; omega
theorem Mkd.grown {f : Int → Value} {w w' : World} {sz n : Nat} {v : Value} {k : Int} {row : Option Nat} (h : Mkd f w sz v n k) (hg : w.grownBy w' row) (hne : ∀ k, v.ownBlock = some k → row ≠ some k) : Mkd f w' sz v n k := by
  refine h.move hg.size fun g hv => hg.block g ?_ (fun e => hne g hv e.symm)
  rcases h with ⟨rfl, _⟩ | ⟨g', c, rfl, hg', _⟩
  · simp [Value.ownBlock] at hv
  · simp [Value.ownBlock] at hv; omega
theorem Mkd.form {f : Int → Value} {w : World} {sz n : Nat} {v : Value} {k : Int} (h : Mkd f w sz v n k) : ∃ A c, v = .slice A n c := by
  rcases h with ⟨rfl, rfl⟩ | ⟨g, c, rfl, _⟩
  · exact ⟨_, _, rfl⟩
  · exact ⟨_, _, rfl⟩
theorem Kp.of_below {lo hi : Nat} {w w' : World} (h : Below w.heap.size w w') : Kp lo hi w w' := ⟨h.os, h.tape, h.output, h.size, fun k hk _ => h.block k hk⟩
theorem ret_val {a b : Value} (h : a = b) : Ending.returned a = Ending.returned b := by rw [h]
theorem set4_get {vs : List Value} {p q : Nat} {u0 u1 u2 u3 : Value} (hl : p + 3 < vs.length) :
    ((((vs.set p u0).set (p + 1) u1).set (p + 2) u2).set (p + 3) u3)[q]? = if q = p then some u0 else if q = p + 1 then some u1 else if q = p + 2 then some u2 else if q = p + 3 then some u3 else vs[q]? := by
  simp only [List.getElem?_set, List.length_set]
  by_cases h0 : q = p
  · subst h0; simp; omega
  by_cases h1 : q = p + 1
  · subst h1; simp; omega
  by_cases h2 : q = p + 2
  · subst h2; simp; omega
  by_cases h3 : q = p + 3
  · subst h3; simp; omega
  rw [if_neg (fun h => h3 h.symm), if_neg (fun h => h2 h.symm), if_neg (fun h => h1 h.symm), if_neg (fun h => h0 h.symm), if_neg h0, if_neg h1, if_neg h2, if_neg h3]
end Go.Proofs.Ytomofghiafcefaa
