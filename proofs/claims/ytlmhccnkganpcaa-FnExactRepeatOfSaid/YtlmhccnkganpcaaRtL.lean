/- RepeatOf of both programs, as the law takes it. -/
import Derived.Test.YtlmhccnkganpcaaSRt
namespace Go.Proofs.Ytlmhccnkganpcaa
open Go.RowKit
set_option linter.unusedVariables false
def rpS2 (n : Nat) : List Int := rpS n
theorem rpOk_in {S T : Int} {L : List A4} {P E : List Int} (h : rpOk S T L P E = true) : vmB S T L P E = true := by
  unfold rpOk at h; simp only [Bool.and_eq_true] at h; exact h.1
theorem rpA_ck {S T : Int} {L : List A4} {P E : List Int} : (ckL (rpOk S T L P E) (rpA L P E)).length ≤ 1048576 := ckL_len fun h => by
  obtain ⟨qS, qT, qL, qA, qP, qE⟩ := vmB_true (rpOk_in h)
  obtain ⟨qP1, -⟩ := mkB_true qP
  obtain ⟨qE1, -⟩ := mkB_true qE
  have := rpA_len (L := L) (P := P) (E := E)
  omega
theorem rpS_ck {S T : Int} {L : List A4} {P E : List Int} : (ckL (rpOk S T L P E) (rpS S.toNat)).length ≤ 1048576 := ckL_len fun h => by
  obtain ⟨qS, qT, qL, qA, qP, qE⟩ := vmB_true (rpOk_in h)
  rw [rpS_len]; omega
theorem rpS2_ck {S T : Int} {L : List A4} {P E : List Int} : (ckL (rpOk S T L P E) (rpS2 S.toNat)).length ≤ 1048576 := rpS_ck
theorem sRepeatL_any (v : Value) (S T : Int) (L : List A4) (P E : List Int) (w : World) (h : Mc w w.heap.size v S T L P E) (hL : L.length ≤ 1048576) (hP : P.length ≤ 1048576) (hE : E.length ≤ 1048576) :
    Calls Try.prog 22 #[v] w fun e w' => ∃ v', e = .returned (.tuple #[v', .bool (rpOk S T L P E)]) ∧ McW w' w.heap.size v' (ckI (rpOk S T L P E) (S + 1)) (ckI (rpOk S T L P E) T) (ckL (rpOk S T L P E) (rpA L P E)) (ckL (rpOk S T L P E) (rpS S.toNat)) (ckL (rpOk S T L P E) (rpS2 S.toNat)) ∧ Below w.heap.size w w' :=
  (sRepeat_any v S T L P E w h hL hP hE).mono fun _ _ ⟨v', hi, he, hh, ho, hb⟩ => ⟨v', he, McO.more ho hh, hb⟩
theorem iRepeatL_any (v : Value) (S T : Int) (L : List A4) (P E : List Int) (w : World) (h : Mc w w.heap.size v S T L P E) (hL : L.length ≤ 1048576) (hP : P.length ≤ 1048576) (hE : E.length ≤ 1048576) :
    Calls Try.prog 23 #[v] w fun e w' => ∃ v', e = .returned (.tuple #[v', .bool (rpOk S T L P E)]) ∧ McW w' w.heap.size v' (ckI (rpOk S T L P E) (S + 1)) (ckI (rpOk S T L P E) T) (ckL (rpOk S T L P E) (rpA L P E)) (ckL (rpOk S T L P E) (rpS S.toNat)) (ckL (rpOk S T L P E) (rpS2 S.toNat)) ∧ Below w.heap.size w w' :=
  (iRepeat_any v S T L P E w h hL hP hE).mono fun _ _ ⟨v', hi, he, hh, ho, hb⟩ => ⟨v', he, McO.more ho hh, hb⟩
end Go.Proofs.Ytlmhccnkganpcaa
