/- RestOfModel of both programs, as the law wants it. -/
import Derived.Test.YtomofghiafcefaaRsS
import Derived.Test.YtomofghiafcefaaRfO
namespace Go.Proofs.Ytomofghiafcefaa
open Go.RowKit
set_option linter.unusedVariables false
theorem rsF_len {Q : List F32} {s : Nat} {near : F32} : ∀ (m : Nat) (row : List F32) (n : Nat), (roL (rsF Q s near m row n)).length ≤ s
  | 0, row, n => Nat.zero_le _
  | m + 1, row, n => by
    rw [rsF]
    split
    · show (nxL Q s row).length ≤ s
      rw [nxL_len]; exact Nat.le_refl _
    · exact rsF_len m _ _
theorem roL_len (S T : Int) (P Q R : List F32) (near : F32) (m : Int) : (roL (rsR S T P Q R near m)).length ≤ 1048576 := by
  unfold rsR
  split
  · rename_i h
    obtain ⟨s, t, rfl, rfl, q1, q2, -⟩ := vdM_tb (Bool.and_eq_true_iff.1 h).1
    have := rsF_len (Q := Q) (s := s) (near := near) m.toNat (evR s s) 0
    rw [Int.toNat_natCast]; omega
  · exact Nat.zero_le _
theorem iRestL_any (v : Value) (S T : Int) (P Q R : List F32) (near : F32) (m : Int) (w : World) (h : Md w w.heap.size v S T P Q R) (hcap : capOk v) :
    Calls Try.prog 8 #[v, .float .f32 near.b, .int .i64 m] w fun e w' => ∃ v, e = .returned (.tuple #[v, .int .i64 (roK (rsR S T P Q R near m)), .bool (roB (rsR S T P Q R near m))]) ∧ RowF w' w.heap.size v (roL (rsR S T P Q R near m)) ∧ Below w.heap.size w w' :=
  (iRest_any v S T P Q R near m w h hcap).mono fun e w' ⟨v, h1, h2, h3⟩ => ⟨v, h1, h2.1, h3⟩
theorem sRestL_any (v : Value) (S T : Int) (P Q R : List F32) (near : F32) (m : Int) (w : World) (h : Md w w.heap.size v S T P Q R) (hcap : capOk v) :
    Calls Try.prog 6 #[v, .float .f32 near.b, .int .i64 m] w fun e w' => ∃ v, e = .returned (.tuple #[v, .int .i64 (roK (rsR S T P Q R near m)), .bool (roB (rsR S T P Q R near m))]) ∧ RowF w' w.heap.size v (roL (rsR S T P Q R near m)) ∧ Below w.heap.size w w' :=
  (sRest_any v S T P Q R near m w h hcap).mono fun e w' ⟨v, h1, h2, h3⟩ => ⟨v, h1, h2.1, h3⟩
end Go.Proofs.Ytomofghiafcefaa
