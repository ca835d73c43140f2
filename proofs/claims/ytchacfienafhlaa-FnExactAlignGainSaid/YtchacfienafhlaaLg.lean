/- Best parts: the program. -/
import Derived.Test.YtchacfienafhlaaTxtB
import Derived.Test.YtchacfienafhlaaTab
import Derived.Test.YtchacfienafhlaaLgP
import Derived.Deep.QuietTactic
import Derived.BigQuiet
namespace Go.Proofs.Ytchacfienafhlaa
open Go.RowKit Go.PlainAid
set_option linter.unusedVariables false
theorem infoI5 : (Try.prog.info? 2).map (fun i => (i.zero, i.size, i.bytes)) = some (some (.int .i64 0), 1, 8) := by kernel_rfl
theorem iPair_any (x y s d : Int) (hd : 0 ≤ d ∧ d ≤ 1000) (w : World) :
    Calls Try.prog 40 #[.int .u8 x, .int .u8 y, .int .i64 s, .int .i64 d] w fun e w' => e = .returned (.int .i64 (pg x y s d)) ∧ w' = w := by
  by_cases h : x = y
  · have h1 : (x == y) = true := by simp [h]
    have H := Lib.hid h; clear h
    go_enter Try.func40, Try.ntmps40
    go_wp2
    go_ret
    exact ⟨ret_int (if_pos H.out).symm, rfl⟩
  · have h1 : (x == y) = false := by simp [h]
    have H := Lib.hid h; clear h
    go_enter Try.func40, Try.ntmps40
    go_wp2
    go_ret
    exact ⟨ret_int (if_neg H.out).symm, rfl⟩
theorem run_max4 {P : Program} (w : World) (ats : Array TypeId) (ty : TypeId) (k : IntKind) (a b c d : Int) :
    (Builtin.max_ ats ty #[.int k a, .int k b, .int k c, .int k d]).run P w = .ok (.int k (max (max (max a b) c) d)) w := by
  have h : ∀ x y : Int, (if x < y then y else x) = max x y := fun x y => by split <;> omega
  simp [Builtin.max_, Builtin.max2, h]
attribute [local go_sem] run_max4
def lgOk (a b : ByteArray) (s d g : Int) : Bool := txtB a && txtB b && allIn [s, d, g] 0 1000
def lgV (a b : ByteArray) (s d g : Int) : Int := if lgOk a b s d g then lgB a b s d g b.size a.size else 0
theorem lgc3 {p o c : Int} (h : allIn [p, o, c] 0 1000 = true) : (0 ≤ p ∧ p ≤ 1000) ∧ (0 ≤ o ∧ o ≤ 1000) ∧ (0 ≤ c ∧ c ≤ 1000) := by
  simp only [allIn, List.all_cons, List.all_nil, Bool.and_true, Bool.and_eq_true] at h
  exact ⟨inB_true h.1, inB_true h.2.1, inB_true h.2.2⟩

end Go.Proofs.Ytchacfienafhlaa
