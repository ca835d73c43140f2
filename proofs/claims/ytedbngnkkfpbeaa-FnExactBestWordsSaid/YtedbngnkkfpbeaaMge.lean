/- Several texts in one: Sorting with equals in their order: the whole (SortStableFunc). slices.Grow of nil and slices.Concat, for lists of numbers. Clones of lists of numbers that may be nil. Two lists that are handed out are marked and held, one after the other. -/
import Derived.Test.YtedbngnkkfpbeaaStK
import Derived.Test.YtedbngnkkfpbeaaMgd
import Derived.Lib.AppendZeros
import Derived.Deep.LoopGhost
import Derived.Lib.SliceRun
import Derived.Test.YtedbngnkkfpbeaaTab
import Derived.Test.YtedbngnkkfpbeaaStO
import Derived.Test.YtedbngnkkfpbeaaMgb

namespace Go.Proofs.Ytedbngnkkfpbeaa
open Go.RowKit
set_option linter.unusedVariables false
theorem sortS_any (X : List Ce) (base g cap N : Nat) (w : World) (hN : X.length = N) (hw : Dw w base g cap X) (hcap : N ≤ 100000) :
    Calls Try.prog 41 #[.slice (some ⟨g, 0, none⟩) N cap, cmpV] w fun e w' => e = .returned (.tuple #[]) ∧ ∃ M, Dw w' base g cap M ∧ Lo w.heap.size g w w' ∧ Srt M ∧ Stb X M := by
  have SR := stable_any X base g cap N w hN hw hcap
  unfold cmpV at SR ⊢
  have SR := Lib.hid SR
  clear hw hN hcap
  go_enter Try.func41, Try.ntmps41
  go_wp2_with (go_at_call 66; refine SR.out.mono ?_; rintro e w3 ⟨rfl, hq⟩; have HQ := Lib.hid hq; clear hq)
  go_end0
  exact ⟨rfl, HQ.out⟩
end Go.Proofs.Ytedbngnkkfpbeaa


namespace Go.Proofs.Ytedbngnkkfpbeaa
open Go.RowKit
set_option linter.unusedVariables false
/-- A part of a concatenation: where it lies, and what it reads. -/
structure Part where
  b : Nat
  off : Nat
  n : Nat
  c : Nat
  xs : List Int
def Part.val (p : Part) : Value := .slice (some ⟨p.b, p.off, none⟩) p.n p.c
def catL (ps : List Part) : List Int := ps.flatMap Part.xs
theorem catL_succ {ps : List Part} {k : Nat} {p : Part} (h : ps[k]? = some p) : catL (ps.take (k + 1)) = catL (ps.take k) ++ p.xs := by
  obtain ⟨hk, rfl⟩ := List.getElem?_eq_some_iff.1 h
  unfold catL
  rw [List.take_succ_eq_append_getElem hk, List.flatMap_append]; simp
theorem catL_le {ps : List Part} (k : Nat) : (catL (ps.take k)).length ≤ (catL ps).length := by
  have : catL ps = catL (ps.take k) ++ catL (ps.drop k) := by unfold catL; rw [← List.flatMap_append, List.take_append_drop]
  rw [this, List.length_append]; omega
theorem zeros_own (w : World) (t : TypeId) (n cap : Nat) (hm : n + cap ≤ maxLen) : (w.alloc (.cells (Builtin.zeroCells (Value.int .i64 0).cells n ++ Builtin.zeroCells (Value.int .i64 0).cells cap) t)).ownsRow w.heap.size t 1 (.slice (some ⟨w.heap.size, 0, none⟩) 0 (n + cap)) 0 [] :=
  World.ownsRow_made w _ (n + cap) (Nat.le_refl _) hm (by simp [Builtin.zeroCells, Value.cells])
theorem SlV.cells0 {w : World} {B n b : Nat} {xs : List Value} (h : SlV w B (some ⟨b, 0, none⟩) n xs) : ∀ j u, xs[j]? = some u → w.cell? ⟨b, j, none⟩ = some u := by
  intro j u hu
  have hj := (List.getElem?_eq_some_iff.1 hu).1
  have hl := h.len
  obtain ⟨b', off', e, _, hc⟩ := h.2 (by omega)
  have e2 := Option.some.inj e
  injection e2 with e3 e4 _
  subst e3 e4
  have := hc j u hu
  rw [Nat.zero_add] at this; exact this
set_option maxRecDepth 100000 in
set_option maxHeartbeats 1000000 in
theorem iCloneI_any (b off n c : Nat) (xs : List Int) (w : World) (h : SlI w w.heap.size (some ⟨b, off, none⟩) n xs) (hn : n ≤ 4294967296) :
    Calls Try.prog 61 #[.slice (some ⟨b, off, none⟩) n c] w fun e w' => ∃ A' c', e = .returned (.slice A' xs.length c') ∧ RowI w' w.heap.size 2 (.slice A' xs.length c') xs ∧ Below w.heap.size w w' := by
  have hl := Lib.hid h.len
  have H := Lib.hid h; clear h
  have hR0 := RowI.made w w.heap.size 2 (Nat.le_refl _)
  have HS := Lib.hid (SlV.alloc H.out (Nat.le_refl _) (.cells #[] 2))
  have hb0 : Below w.heap.size w (w.alloc (.cells #[] 2)) := (Below.refl _ _).alloc (Nat.le_refl _) _
  have HR0 := Lib.hid hR0; have HB0 := Lib.hid hb0; clear hR0 hb0
  have hnil := fun w => Lib.run_eql_slice_nil (P := Try.prog) w 26 2 (some ⟨b, off, none⟩) n c 0 0 Try.underlying26
  go_enter Try.func61, Try.ntmps61
  go_wp2_with (first | (at_builtin; refine wpList_ints_push rfl (.tmp 5) (.tmp 6) _ rfl w.heap.size 2 Try.underlying26 infoQ _ [] rfl HR0.out b off n c w.heap.size xs rfl HS.out (by show 0 + n ≤ _; omega) HB0.out.size ?_; intro v' w' hown hbl))
  go_ret
  obtain ⟨A', c', rfl, _, _⟩ := own_form hown
  exact ⟨A', c', rfl, hown, HB0.out.trans hbl⟩
end Go.Proofs.Ytedbngnkkfpbeaa


namespace Go.Proofs.Ytedbngnkkfpbeaa
open Go.RowKit
set_option linter.unusedVariables false
/-- A plain head of a slice: nil, or a place of its own. -/
def NilA (A : Option Addr) : Prop := A = none ∨ ∃ b o, A = some ⟨b, o, none⟩
theorem ownA_nil {w : World} {lo n c sz : Nat} {t : TypeId} {A : Option Addr} {xs : List Value} (h : w.ownsRow lo t sz (.slice A n c) n xs) : NilA A := by
  obtain ⟨_, h2⟩ := h
  rcases h2 with ⟨e, -⟩ | ⟨g', cap, cur, e, hb, hg, hnc, hm, hs, ht⟩
  · injection e with e1 _ _; exact .inl e1
  · injection e with e1 _ _; exact .inr ⟨g', 0, e1⟩
set_option maxHeartbeats 1000000 in
theorem iClo0 (c : Nat) (w : World) :
    Calls Try.prog 61 #[.slice none 0 c] w fun e w' => e = .returned (.slice none 0 0) ∧ w = w' := by
  have hnil := fun w => Lib.run_eql_slice_nil (P := Try.prog) w 26 2 none 0 c 0 0 Try.underlying26
  go_enter Try.func61, Try.ntmps61
  go_wp2_with fail
  go_ret
  exact ⟨rfl, rfl⟩
theorem iClo_any (A : Option Addr) (n c : Nat) (xs : List Int) (w : World) (hp : NilA A) (h : SlI w w.heap.size A n xs) (hn : n ≤ 4294967296) :
    Calls Try.prog 61 #[.slice A n c] w fun e w' => ∃ A' c', e = .returned (.slice A' xs.length c') ∧ RowI w' w.heap.size 2 (.slice A' xs.length c') xs ∧ Below w.heap.size w w' := by
  rcases hp with rfl | ⟨b, o, rfl⟩
  · have h0 : n = 0 := by
      rcases Nat.eq_zero_or_pos n with h0 | h0
      · exact h0
      · obtain ⟨_, _, e, _⟩ := h.2 h0; cases e
    subst h0
    have hl : xs = [] := List.length_eq_zero_iff.1 h.len
    subst hl
    refine (iClo0 c w).mono ?_
    rintro e w' ⟨rfl, rfl⟩
    exact ⟨none, 0, rfl, World.ownsRow_nil w _ _ 1, Below.refl _ _⟩
  · exact iCloneI_any b o n c xs w h hn
end Go.Proofs.Ytedbngnkkfpbeaa


namespace Go.Proofs.Ytedbngnkkfpbeaa
open Go.RowKit
theorem markOwn2 (base : Nat) (v : Value) (r : List Int) (k : Int) (w : World) (h : RowI w base 2 v r) (hb : base ≤ w.heap.size) (hn : r.length ≤ 4294967296) (hk0 : 0 ≤ k) (hk1 : k ≤ 4294967296) :
    Calls Try.prog 22 #[v, .int .i64 k] w fun e w' => e = .returned (.int .i64 (k + r.length)) ∧ MarkedI w' v k r.length ∧ Below base w w' ∧ ∀ j, j < w.heap.size → v.ownBlock ≠ some j → w'.heap[j]? = w.heap[j]? := by
  rcases h.rowN with ⟨rfl, h0⟩ | ⟨g, cap, rfl, hbg, hr, hc⟩
  · refine (markInt64S_nil k w).mono ?_
    rintro e w' ⟨rfl, rfl⟩
    exact ⟨ret_int (by omega), .inl ⟨rfl, h0⟩, Below.refl _ _, fun _ _ _ => rfl⟩
  · refine (markInt64S_any g r.length cap cap k w hr hc hn hk0 hk1).mono ?_
    rintro e w' ⟨rfl, hq, hbut⟩
    exact ⟨rfl, .inr ⟨g, cap, rfl, Nat.lt_of_lt_of_le hr.lt hbut.2.2.2.1, hq⟩, hbut.below hbg hb, fun j hj hne => hbut.2.2.2.2 j hj (fun e => hne (by subst e; rfl))⟩
theorem MarkedI.move {w w' : World} {v u : Value} {k : Int} {n : Nat} (h : MarkedI w v k n) (hs : w.heap.size ≤ w'.heap.size) (ho : ∀ j, j < w.heap.size → u.ownBlock ≠ some j → w'.heap[j]? = w.heap[j]?) (hd : ∀ j, v.ownBlock = some j → u.ownBlock ≠ some j) : MarkedI w' v k n := by
  rcases h with h | ⟨g, c, rfl, hg, hc⟩
  · exact .inl h
  · refine .inr ⟨g, c, rfl, by omega, fun q hq => ?_⟩
    have e := ho g hg (hd g rfl)
    have := hc q hq
    unfold World.cell? at this ⊢
    rw [show (⟨g, q, none⟩ : Addr).block = g from rfl] at *
    rw [e]; exact this
theorem RowI.moveO {w w' : World} {base : Nat} {t : TypeId} {v u : Value} {r : List Int} (h : RowI w base t v r) (ho : ∀ j, j < w.heap.size → u.ownBlock ≠ some j → w'.heap[j]? = w.heap[j]?) (hd : ∀ j, v.ownBlock = some j → u.ownBlock ≠ some j) : RowI w' base t v r := own_move h (fun j hj => ho j (h.lt j hj).2 (hd j hj))
end Go.Proofs.Ytedbngnkkfpbeaa
