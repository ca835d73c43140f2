/- slices.Grow of nil and slices.Concat, for lists of numbers. -/
import Derived.Test.YtchacfienafhlaaBas
import Derived.Test.YtchacfienafhlaaRowS
import Derived.Test.YtchacfienafhlaaOwn
import Derived.Lib.AppendZeros
import Derived.Deep.LoopGhost
import Derived.Lib.SliceRun
namespace Go.Proofs.Ytchacfienafhlaa
open Go.RowKit
set_option linter.unusedVariables false
/-- A part of a concatenation: where it lies, and what it reads. -/
structure Part where
  b : Nat
  off : Nat
  n : Nat
  c : Nat
  xs : List Int
def Part.val (p : Part) : Value := .slice (some ⟨p.b, p.off, none⟩) p.n p.c
def catL (ps : List Part) : List Int := ps.flatMap Part.xs
theorem catL_succ {ps : List Part} {k : Nat} {p : Part} (h : ps[k]? = some p) : catL (ps.take (k + 1)) = catL (ps.take k) ++ p.xs := by
  obtain ⟨hk, rfl⟩ := List.getElem?_eq_some_iff.1 h
  unfold catL
  rw [List.take_succ_eq_append_getElem hk, List.flatMap_append]; simp
theorem catL_le {ps : List Part} (k : Nat) : (catL (ps.take k)).length ≤ (catL ps).length := by
  have : catL ps = catL (ps.take k) ++ catL (ps.drop k) := by unfold catL; rw [← List.flatMap_append, List.take_append_drop]
  rw [this, List.length_append]; omega
theorem zeros_own (w : World) (t : TypeId) (n cap : Nat) (hm : n + cap ≤ maxLen) : (w.alloc (.cells (Builtin.zeroCells (Value.int .i64 0).cells n ++ Builtin.zeroCells (Value.int .i64 0).cells cap) t)).ownsRow w.heap.size t 1 (.slice (some ⟨w.heap.size, 0, none⟩) 0 (n + cap)) 0 [] :=
  World.ownsRow_made w _ (n + cap) (Nat.le_refl _) hm (by simp [Builtin.zeroCells, Value.cells])
theorem SlV.cells0 {w : World} {B n b : Nat} {xs : List Value} (h : SlV w B (some ⟨b, 0, none⟩) n xs) : ∀ j u, xs[j]? = some u → w.cell? ⟨b, j, none⟩ = some u := by
  intro j u hu
  have hj := (List.getElem?_eq_some_iff.1 hu).1
  have hl := h.len
  obtain ⟨b', off', e, _, hc⟩ := h.2 (by omega)
  have e2 := Option.some.inj e
  injection e2 with e3 e4 _
  subst e3 e4
  have := hc j u hu
  rw [Nat.zero_add] at this; exact this
set_option maxRecDepth 100000 in
set_option maxHeartbeats 1000000 in
theorem iCloneI_any (b off n c : Nat) (xs : List Int) (w : World) (h : SlI w w.heap.size (some ⟨b, off, none⟩) n xs) (hn : n ≤ 4294967296) :
    Calls Try.prog 104 #[.slice (some ⟨b, off, none⟩) n c] w fun e w' => ∃ A' c', e = .returned (.slice A' xs.length c') ∧ RowI w' w.heap.size 2 (.slice A' xs.length c') xs ∧ Below w.heap.size w w' := by
  have hl := Lib.hid h.len
  have H := Lib.hid h; clear h
  have hR0 := RowI.made w w.heap.size 2 (Nat.le_refl _)
  have HS := Lib.hid (SlV.alloc H.out (Nat.le_refl _) (.cells #[] 2))
  have hb0 : Below w.heap.size w (w.alloc (.cells #[] 2)) := (Below.refl _ _).alloc (Nat.le_refl _) _
  have HR0 := Lib.hid hR0; have HB0 := Lib.hid hb0; clear hR0 hb0
  have hnil := fun w => Lib.run_eql_slice_nil (P := Try.prog) w 27 2 (some ⟨b, off, none⟩) n c 0 0 Try.underlying27
  go_enter Try.func104, Try.ntmps104
  go_wp2_with (first | (at_builtin; refine wpList_ints_push rfl (.tmp 5) (.tmp 6) _ rfl w.heap.size 2 Try.underlying27 infoQ _ [] rfl HR0.out b off n c w.heap.size xs rfl HS.out (by show 0 + n ≤ _; omega) HB0.out.size ?_; intro v' w' hown hbl))
  go_ret
  obtain ⟨A', c', rfl, _, _⟩ := own_form hown
  exact ⟨A', c', rfl, hown, HB0.out.trans hbl⟩
end Go.Proofs.Ytchacfienafhlaa
