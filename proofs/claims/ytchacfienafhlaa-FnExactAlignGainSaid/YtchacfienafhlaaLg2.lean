/- Best parts: the reference. -/
import Derived.Test.YtchacfienafhlaaLg
namespace Go.Proofs.Ytchacfienafhlaa
open Go.RowKit Go.PlainAid
set_option linter.unusedVariables false
theorem sMaxW (x y : Int) (w : World) :
    Calls Try.prog 35 #[.int .i64 x, .int .i64 y] w fun e w' => e = .returned (.int .i64 (max x y)) ∧ w = w' := by
  by_cases h : y < x
  · go_enter Try.func35, Try.ntmps35
    go_wp2
    go_ret
    exact ⟨ret_int (by omega), rfl⟩
  · have h' : x ≤ y := by omega
    clear h
    go_enter Try.func35, Try.ntmps35
    go_wp2
    go_ret
    exact ⟨ret_int (by omega), rfl⟩
theorem sMaxQ (x y : Int) (w : World) :
    Calls Try.prog 35 #[.int .i64 x, .int .i64 y] w fun e w' => e = .returned (.int .i64 (max x y)) ∧ w' = w := (sMaxW x y w).mono fun _ _ h => ⟨h.1, h.2.symm⟩
theorem quiet_more {P : Program} {f : FuncId} {args : Array Value} {w : World} {a n : Nat} {v : Value}
    (h : Calls P f args (w.drewN (a + n)) fun e w' => e = .returned v ∧ w' = w.drewN (a + n)) : Calls P f args (w.drewN (a + n)) fun e w'' => e = .returned v ∧ ∃ m, w'' = w.drewN (a + m) :=
  h.mono fun _ _ ⟨he, hm⟩ => ⟨he, n, hm⟩
/-- The first n cells of block g read as f. -/
def RowC (w : World) (g : Nat) (f : Nat → Int) (n : Nat) : Prop := ∀ j, j < n → w.cell? ⟨g, j, none⟩ = some (.int .i64 (f j))
theorem RowC.below {w w' : World} {g B : Nat} {f : Nat → Int} {n : Nat} (h : RowC w g f n) (hb : Below B w w') (hg : g < B) : RowC w' g f n := fun j hj => (hb.cell (p := ⟨g, j, none⟩) hg).trans (h j hj)

end Go.Proofs.Ytchacfienafhlaa
