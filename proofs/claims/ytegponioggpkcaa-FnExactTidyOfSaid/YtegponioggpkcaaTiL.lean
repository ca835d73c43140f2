/- TidyOf of both programs, as the law takes it. -/
import Derived.Test.YtegponioggpkcaaSTi
import Derived.Test.YtegponioggpkcaaTiI
namespace Go.Proofs.Ytegponioggpkcaa
open Go.RowKit
set_option linter.unusedVariables false
theorem mc_part1 {w : World} {p2 p3 p4 C2 C3 C4 n2 n3 n4 : Nat} {S T : Int} {L : List A4} {P E : List Int} (h : Mc w w.heap.size (.agg #[.int .i64 S, .int .i64 T, .slice (some ⟨p2, 0, none⟩) n2 C2, .slice (some ⟨p3, 0, none⟩) n3 C3, .slice (some ⟨p4, 0, none⟩) n4 C4]) S T L P E) :
    SlA w w.heap.size (some ⟨p2, 0, none⟩) n2 L ∧ SlI w w.heap.size (some ⟨p3, 0, none⟩) n3 P ∧ SlI w w.heap.size (some ⟨p4, 0, none⟩) n4 E := by
  obtain ⟨A2, m2, c2, A3, m3, c3, A4', m4, c4, e, h2, h3, h4⟩ := h
  simp only [Value.agg.injEq, Array.mk.injEq, List.cons.injEq, Value.slice.injEq, true_and, and_true] at e
  obtain ⟨⟨e1, e2, -⟩, ⟨e3, e4, -⟩, ⟨e5, e6, -⟩⟩ := e
  subst e1 e2 e3 e4 e5 e6
  exact ⟨h2, h3, h4⟩
theorem sTidyL_any (p2 p3 p4 C2 C3 C4 : Nat) (S T : Int) (L : List A4) (P E : List Int) (w : World)
    (h : Mc w w.heap.size (.agg #[.int .i64 S, .int .i64 T, .slice (some ⟨p2, 0, none⟩) L.length C2, .slice (some ⟨p3, 0, none⟩) P.length C3, .slice (some ⟨p4, 0, none⟩) E.length C4]) S T L P E)
    (hL : L.length ≤ 1048576) (hP : P.length ≤ 1048576) (hE : E.length ≤ 1048576) :
    Calls Try.prog 29 #[.agg #[.int .i64 S, .int .i64 T, .slice (some ⟨p2, 0, none⟩) L.length C2, .slice (some ⟨p3, 0, none⟩) P.length C3, .slice (some ⟨p4, 0, none⟩) E.length C4]] w fun e w' => ∃ v', e = .returned (.tuple #[v', .bool (vmB S T L P E)]) ∧ McW w' w.heap.size v' (ckI (vmB S T L P E) S) (ckI (vmB S T L P E) T) (ckL (vmB S T L P E) (tdy L)) (ckL (vmB S T L P E) P) (ckL (vmB S T L P E) E) ∧ Below w.heap.size w w' := by
  obtain ⟨a2, a3, a4⟩ := mc_part1 h
  exact sTidyOf_any S T L P E p2 p3 p4 C2 C3 C4 w a2 a3 a4 hL hP hE
theorem iTidyL_any (p2 p3 p4 C2 C3 C4 : Nat) (S T : Int) (L : List A4) (P E : List Int) (w : World)
    (h : Mc w w.heap.size (.agg #[.int .i64 S, .int .i64 T, .slice (some ⟨p2, 0, none⟩) L.length C2, .slice (some ⟨p3, 0, none⟩) P.length C3, .slice (some ⟨p4, 0, none⟩) E.length C4]) S T L P E)
    (hL : L.length ≤ 1048576) (hP : P.length ≤ 1048576) (hE : E.length ≤ 1048576) :
    Calls Try.prog 30 #[.agg #[.int .i64 S, .int .i64 T, .slice (some ⟨p2, 0, none⟩) L.length C2, .slice (some ⟨p3, 0, none⟩) P.length C3, .slice (some ⟨p4, 0, none⟩) E.length C4]] w fun e w' => ∃ v', e = .returned (.tuple #[v', .bool (vmB S T L P E)]) ∧ McW w' w.heap.size v' (ckI (vmB S T L P E) S) (ckI (vmB S T L P E) T) (ckL (vmB S T L P E) (tdy L)) (ckL (vmB S T L P E) P) (ckL (vmB S T L P E) E) ∧ Below w.heap.size w w' := by
  obtain ⟨a2, a3, a4⟩ := mc_part1 h
  exact iTidyOf_any S T L P E (some ⟨p2, 0, none⟩) (some ⟨p3, 0, none⟩) (some ⟨p4, 0, none⟩) C2 C3 C4 w (.inr ⟨_, _, rfl⟩) (.inr ⟨_, _, rfl⟩) (.inr ⟨_, _, rfl⟩) a2 a3 a4 hL hP hE
theorem tyA_ck {S T : Int} {L : List A4} {P E : List Int} : (ckL (vmB S T L P E) (tdy L)).length ≤ 1048576 := ckL_len fun h => by
  obtain ⟨qS, qT, qL, -⟩ := vmB_true h
  have := tdy_len L; omega
theorem tyP_ck {S T : Int} {L : List A4} {P E : List Int} : (ckL (vmB S T L P E) P).length ≤ 1048576 := ckL_len fun h => by
  obtain ⟨qS, qT, qL, qA, qP, qE⟩ := vmB_true h
  obtain ⟨q1, -⟩ := mkB_true qP; omega
theorem tyE_ck {S T : Int} {L : List A4} {P E : List Int} : (ckL (vmB S T L P E) E).length ≤ 1048576 := ckL_len fun h => by
  obtain ⟨qS, qT, qL, qA, qP, qE⟩ := vmB_true h
  obtain ⟨q1, -⟩ := mkB_true qE; omega
end Go.Proofs.Ytegponioggpkcaa
