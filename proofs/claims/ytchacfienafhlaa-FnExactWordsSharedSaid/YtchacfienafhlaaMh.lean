/- Machines: what is given back if it is valid; arcs with later states; lists of -1. -/
import Derived.Test.YtchacfienafhlaaVm
import Derived.Test.YtchacfienafhlaaMachineOw
import Derived.Test.YtchacfienafhlaaStO
import Derived.Test.YtchacfienafhlaaRpt
import Derived.Test.YtchacfienafhlaaTab
namespace Go.Proofs.Ytchacfienafhlaa
open Go.RowKit
set_option linter.unusedVariables false
def ckV (ok : Bool) (v : Value) : Value := if ok then v else .agg #[.int .i64 0, .int .i64 0, .slice none 0 0, .slice none 0 0, .slice none 0 0]
def ckI (ok : Bool) (x : Int) : Int := if ok then x else 0
def ckL {α : Type} (ok : Bool) (xs : List α) : List α := if ok then xs else []
theorem ckL_len {α : Type} {ok : Bool} {xs : List α} {n : Nat} (h : ok = true → xs.length ≤ n) : (ckL ok xs).length ≤ n := by
  cases ok
  · exact Nat.zero_le _
  · exact h rfl
/-- What is handed out of a machine that has been looked at. -/
theorem ckO {w : World} {lo hi : Nat} {v : Value} {S T : Int} {L : List A4} {P E : List Int} (ok : Bool) (h : McO w lo hi v S T L P E) : McO w lo hi (ckV ok v) (ckI ok S) (ckI ok T) (ckL ok L) (ckL ok P) (ckL ok E) := by
  cases ok
  · exact ⟨_, _, _, rfl, OwnV.nil _ _ _ _ _, OwnV.nil _ _ _ _ _, OwnV.nil _ _ _ _ _, fun k hk => by simp [Value.ownBlock] at hk, fun k hk => by simp [Value.ownBlock] at hk, fun k hk => by simp [Value.ownBlock] at hk⟩
  · exact h
/-- Arcs with later states. -/
def mvA (by' : Int) (a : A4) : A4 := (a.1 + by', a.2.1 + by', a.2.2.1, a.2.2.2)
theorem mv_succ {L : List A4} {k : Nat} {a : A4} {d : Int} (h : L[k]? = some a) : fa ((L.take (k + 1)).map (mvA d)) = fa ((L.take k).map (mvA d)) ++ [.int .i64 (a.1 + d), .int .i64 (a.2.1 + d), .int .i64 a.2.2.1, .int .i64 a.2.2.2] := by
  obtain ⟨hk, rfl⟩ := List.getElem?_eq_some_iff.1 h
  rw [List.take_succ_eq_append_getElem hk, List.map_append, fa_append]; rfl
end Go.Proofs.Ytchacfienafhlaa
