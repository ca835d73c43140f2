/- Features, plainly. -/
import Derived.Test.YtchacfienafhlaaTxtB
namespace Go.Proofs.Ytchacfienafhlaa
open Go.RowKit
set_option linter.unusedVariables false
theorem SlI.take {w : World} {B : Nat} {A : Option Addr} {n m : Nat} {xs : List Int} (h : SlI w B A n xs) (hm : m ≤ n) : SlI w B A m (xs.take m) := by
  have := SlV.take (xs := iv xs) h hm
  unfold SlI
  rwa [iv, List.map_take]
theorem take_snoc {α : Type} {xs : List α} {k : Nat} {x : α} (hx : xs[k]? = some x) : xs.take (k + 1) = xs.take k ++ [x] := by
  obtain ⟨hk, rfl⟩ := List.getElem?_eq_some_iff.1 hx
  exact List.take_succ_eq_append_getElem hk
theorem nodup_succ {fs : List Int} {k : Nat} {x : Int} (h : (fs.take k).Nodup) (hx : fs[k]? = some x) (hn : x ∉ fs.take k) : (fs.take (k + 1)).Nodup := by
  rw [take_snoc hx, List.nodup_append]
  refine ⟨h, by simp, fun a ha b hb => ?_⟩
  simp at hb
  subst hb
  exact fun e => hn (e ▸ ha)
theorem nodup_no {fs : List Int} {k : Nat} {x : Int} (hx : fs[k]? = some x) (hn : x ∈ fs.take k) : ¬ fs.Nodup := by
  intro h
  have h2 : (fs.take (k + 1)).Nodup := List.Nodup.sublist (List.take_sublist _ _) h
  rw [take_snoc hx, List.nodup_append] at h2
  exact h2.2.2 x hn x (by simp) rfl
theorem mem_take_succ {xs : List Int} {k : Nat} {x v : Int} (hx : xs[k]? = some x) (h : v ∉ xs.take k) (hv : x ≠ v) : v ∉ xs.take (k + 1) := by
  rw [take_snoc hx, List.mem_append]
  rintro (h' | h')
  · exact h h'
  · simp at h'; exact hv h'.symm
def feB (fs : List Int) : Bool := decide fs.Nodup && allIn fs 0 255 && decide (1 ≤ fs.length ∧ fs.length ≤ 4)
theorem feB_dup {fs : List Int} (h : ¬ fs.Nodup) : feB fs = false := by rw [feB, decide_eq_false h, Bool.false_and, Bool.false_and]
theorem feB_in {fs : List Int} (h : allIn fs 0 255 = false) : feB fs = false := by rw [feB, h, Bool.and_false, Bool.false_and]
theorem feB_len {fs : List Int} (h : ¬ (1 ≤ fs.length ∧ fs.length ≤ 4)) : feB fs = false := by rw [feB, decide_eq_false h, Bool.and_false]
theorem feB_nodup {fs : List Int} (h : fs.Nodup) (h1 : 1 ≤ fs.length ∧ fs.length ≤ 4) : feB fs = allIn fs 0 255 := by
  rw [feB, decide_eq_true h, decide_eq_true h1, Bool.and_true, Bool.true_and]
theorem feB_true {fs : List Int} (h : feB fs = true) : fs.Nodup ∧ allIn fs 0 255 = true ∧ 1 ≤ fs.length ∧ fs.length ≤ 4 := by
  unfold feB at h
  rw [Bool.and_eq_true, Bool.and_eq_true] at h
  exact ⟨of_decide_eq_true h.1.1, h.1.2, of_decide_eq_true h.2⟩
theorem allIn_at {xs : List Int} {lo hi x : Int} {k : Nat} (h : allIn xs lo hi = true) (hx : xs[k]? = some x) : lo ≤ x ∧ x ≤ hi :=
  inB_true (List.all_eq_true.1 h x (List.mem_of_getElem? hx))
def fx (l : List Nat) : List Int := l.map fun (j : Nat) => (j : Int)
theorem fx_len (l : List Nat) : (fx l).length = l.length := by simp [fx]
/-- Whether features hold what is needed and nothing that is banned. -/
def wfO (need ban f : Int) : Bool := (bits .and .i64 f need == need) && (bits .and .i64 f ban == 0)
def wfL (fs : List Int) (need ban : Int) (k : Nat) : List Nat := (List.range k).filter fun j => wfO need ban (fs.getD j 0)
theorem wfL_len (fs : List Int) (need ban : Int) (k : Nat) : (wfL fs need ban k).length ≤ k := by
  unfold wfL
  have := List.length_filter_le (fun j => wfO need ban (fs.getD j 0)) (List.range k)
  simpa using this
theorem wfL_yes {fs : List Int} {need ban x : Int} {k : Nat} (hx : fs[k]? = some x) (h : wfO need ban x = true) : fx (wfL fs need ban (k + 1)) = fx (wfL fs need ban k) ++ [(k : Int)] := by
  have : wfO need ban (fs[k]?.getD 0) = true := by rw [hx]; exact h
  simp [wfL, fx, List.range_succ, List.filter_append, this]
theorem wfL_no {fs : List Int} {need ban x : Int} {k : Nat} (hx : fs[k]? = some x) (h : wfO need ban x = false) : fx (wfL fs need ban (k + 1)) = fx (wfL fs need ban k) := by
  have : wfO need ban (fs[k]?.getD 0) = false := by rw [hx]; exact h
  simp [wfL, fx, List.range_succ, List.filter_append, this]
def wfB (fs : List Int) (need ban : Int) : Bool := feB fs && (inB need 0 255 && inB ban 0 255)
/-- What a letter with features becomes. -/
def sfV (fs : List Int) (need set clear x : Int) : Int :=
  if bits .and .i64 (fs.getD x.toNat 0) need = need then
    (if bits .andNot .i64 (bits .or .i64 (fs.getD x.toNat 0) set) clear ∈ fs then (fs.idxOf (bits .andNot .i64 (bits .or .i64 (fs.getD x.toNat 0) set) clear) : Int) else x)
  else x
def sfB (fs word : List Int) (need set clear : Int) : Bool := feB fs && allIn word 0 ((fs.length : Int) - 1) && decide (word.length ≤ 24) && (inB need 0 255 && inB set 0 255 && inB clear 0 255)
end Go.Proofs.Ytchacfienafhlaa
