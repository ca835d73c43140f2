/- Several texts in one: Least edits with swaps: the table of the program. Least edits with swaps: the table of the reference. Costs with swaps of a list of texts, and NearShared, in both programs. -/
import Derived.Test.YtpmklldochpnlaaDoorTxt
import Derived.Test.YtpmklldochpnlaaDoorTab
import Derived.Test.YtpmklldochpnlaaDoorSwP
import Derived.Deep.QuietTactic
import Derived.BigQuiet
import Derived.Deep.Cut
import Derived.Test.YtpmklldochpnlaaDoorCsT
import Derived.Deep.LoopGhost

namespace Go.Proofs.YtpmklldochpnlaaDoor
open Go.RowKit Go.PlainAid
set_option linter.unusedVariables false
theorem infoI3 : (Tryd.prog.info? 2).map (fun i => (i.zero, i.size, i.bytes)) = some (some (.int .i64 0), 1, 8) := by kernel_rfl
theorem infoS3 : (Tryd.prog.info? 34).map (fun i => (i.zero, i.size, i.bytes)) = some (some (.slice none 0 0), 1, 24) := by kernel_rfl
theorem bx {x y : Int} (h : x = y) : (x == y) = true := by simp [h]
theorem by_ {x y : Int} (h : x ≠ y) : (x == y) = false := by simp [h]

/-- At any place of a walk the world may be forgotten but for what is said of it. -/
theorem wp_gen' {P : Program} {c : Code} {Q : Exit → Act → World → Prop} {a : Act} {w : World} (I : World → Prop) (h : I w) (k : ∀ w', I w' → Code.wp P c Q a w') : Code.wp P c Q a w := k w h

end Go.Proofs.YtpmklldochpnlaaDoor


namespace Go.Proofs.YtpmklldochpnlaaDoor
open Go.RowKit Go.PlainAid
set_option linter.unusedVariables false
theorem infoI4 : (Tryd.prog.info? 2).map (fun i => (i.zero, i.size, i.bytes)) = some (some (.int .i64 0), 1, 8) := by kernel_rfl
theorem infoS4 : (Tryd.prog.info? 34).map (fun i => (i.zero, i.size, i.bytes)) = some (some (.slice none 0 0), 1, 24) := by kernel_rfl
theorem bx2 {x y : Int} (h : x = y) : (x == y) = true := by simp [h]
theorem by2 {x y : Int} (h : x ≠ y) : (x == y) = false := by simp [h]
theorem push_val {w : World} {b : Nat} {t : TypeId} {v : Value} {r : List Int} {x y : Int} (h : RowI w b t v (r ++ [x])) (e : y = x) : RowI w b t v (r ++ [y]) := e ▸ h
theorem wp_gen2 {P : Program} {c : Code} {Q : Exit → Act → World → Prop} {a : Act} {w : World} (I : World → Prop) (h : I w) (k : ∀ w', I w' → Code.wp P c Q a w') : Code.wp P c Q a w := k w h

end Go.Proofs.YtpmklldochpnlaaDoor


namespace Go.Proofs.YtpmklldochpnlaaDoor
open Go.RowKit Go.PlainAid
set_option linter.unusedVariables false
def nrs (ss : List ByteArray) (t : ByteArray) : List Int := ss.map fun s => sw s t s.size t.size
theorem nrs_take {ss : List ByteArray} {t : ByteArray} {k : Nat} {x : ByteArray} (h : ss[k]? = some x) : nrs (ss.take (k + 1)) t = nrs (ss.take k) t ++ [sw x t x.size t.size] := by
  obtain ⟨hk, rfl⟩ := List.getElem?_eq_some_iff.1 h
  rw [List.take_succ_eq_append_getElem hk, nrs, List.map_append]; rfl
theorem nrs_length (ss : List ByteArray) (t : ByteArray) : (nrs ss t).length = ss.length := by simp [nrs]
theorem infoI7 : (Tryd.prog.info? 2).map (fun i => (i.zero, i.size, i.bytes)) = some (some (.int .i64 0), 1, 8) := by kernel_rfl
theorem txt_all {ss : List ByteArray} {k : Nat} {x : ByteArray} (h : ss.all txtB = true) (hx : ss[k]? = some x) : x.size ≤ 48 :=
  txtB_true (List.all_eq_true.1 h x (List.mem_of_getElem? hx))
def nsB (ss : List ByteArray) (t : ByteArray) : Bool := ltB ss && txtB t
/-- What both hand out: a row of the call's own that reads as the costs, or nil. -/
def NsOut (w : World) (base : Nat) (v : Value) (ok : Bool) (r : List Int) : Prop := if ok then RowI w base 2 v r else v = .slice none 0 0
end Go.Proofs.YtpmklldochpnlaaDoor
