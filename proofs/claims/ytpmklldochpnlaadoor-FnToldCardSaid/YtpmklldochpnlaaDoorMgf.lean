/- Several texts in one: The reading of a pattern: the reference. Hyphens: the reference. -/
import Derived.Test.YtpmklldochpnlaaDoorHyP
import Derived.Test.YtpmklldochpnlaaDoorMgd
import Derived.Deep.LoopGhost
import Derived.Test.YtpmklldochpnlaaDoorHyM
import Derived.Test.YtpmklldochpnlaaDoorLet
import Derived.StillTailTactics
import Derived.Deep.QuietTactic
import Derived.BigQuiet

namespace Go.Proofs.YtpmklldochpnlaaDoor
open Go.RowKit Go.PlainAid
set_option linter.unusedVariables false
end Go.Proofs.YtpmklldochpnlaaDoor


namespace Go.Proofs.YtpmklldochpnlaaDoor
open Go.RowKit Go.PlainAid
set_option linter.unusedVariables false
theorem own_monoS {w : World} {lo lo' sz n : Nat} {t : TypeId} {v : Value} {xs : List Value} (h : w.ownsRow lo t sz v n xs) (hl : lo' ≤ lo) : w.ownsRow lo' t sz v n xs := by
  obtain ⟨h1, h2⟩ := h
  refine ⟨h1, ?_⟩
  rcases h2 with h2 | ⟨g, cap, cur, e, hb', rest⟩
  · exact .inl h2
  · exact .inr ⟨g, cap, cur, e, Nat.le_trans hl hb', rest⟩
theorem own_made0 (w : World) : RowI (w.alloc (.cells #[] 2)) w.heap.size 2 (.slice (some ⟨w.heap.size, 0, none⟩) 0 0) [] :=
  World.ownsRow_made w #[] 0 (Nat.le_refl _) (by unfold maxLen; omega) rfl
theorem hyDs_9 (p : ByteArray) : Dg9 (hyDs p) := by
  unfold hyDs
  cases hp : hyP p with
  | none => intro x hx; cases hx
  | some a => exact (hyF_len p _ _ _ _ _ _ _ _ hp rfl (fun x hx => by cases hx) (by omega)).2
theorem hyN_9 (s : ByteArray) (ps : List ByteArray) (n : Nat) : Dg9 (hyN s ps n) := by
  induction n with
  | zero => exact Dg9.zeros _
  | succ n ih => exact hyV_9 ih (hyDs_9 _) _
theorem infoI6 : (Tryd.prog.info? 2).map (fun i => (i.zero, i.size, i.bytes)) = some (some (.int .i64 0), 1, 8) := by kernel_rfl
theorem getD_some {α : Type} {xs : List α} {k : Nat} {x d : α} (h : xs[k]? = some x) : xs.getD k d = x := by rw [List.getD_eq_getElem?_getD, h]; rfl
theorem get_getD {xs : List Int} {k : Nat} (h : k < xs.length) : xs[k]? = some (xs.getD k 0) := by rw [List.getD_eq_getElem?_getD, List.getElem?_eq_getElem h]; rfl
theorem iv_set (xs : List Int) (k : Nat) (x : Int) : (iv xs).set k (.int .i64 x) = iv (xs.set k x) := by simp [iv, List.map_set]
theorem hyB_let {t : ByteArray} {ps : List ByteArray} (h : letB t = false) : hyB t ps = false := by rw [hyB, h]; rfl
theorem hyB_len {t : ByteArray} {ps : List ByteArray} (h : 32 < ps.length) : hyB t ps = false := by rw [hyB, decide_eq_false (by omega)]; simp
theorem hyB_bad {t x : ByteArray} {ps : List ByteArray} {k : Nat} (hx : ps[k]? = some x) (h : hyK x = false) : hyB t ps = false := by
  have : ps.all hyK = false := allN hx h
  rw [hyB, this]; simp
end Go.Proofs.YtpmklldochpnlaaDoor
