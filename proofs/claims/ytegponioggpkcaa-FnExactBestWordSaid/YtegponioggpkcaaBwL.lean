/- BestWord: both contracts as the law's walk wants them. -/
import Derived.Test.YtegponioggpkcaaBwS4

namespace Go.Proofs.Ytegponioggpkcaa
open Go.RowKit
set_option linter.unusedVariables false
theorem bw_parts {w : World} {B p2 p3 p4 C2 C3 C4 : Nat} {S T : Int} {L : List A4} {P E : List Int} (h : Mc w B (.agg #[.int .i64 S, .int .i64 T, .slice (some ⟨p2, 0, none⟩) L.length C2, .slice (some ⟨p3, 0, none⟩) P.length C3, .slice (some ⟨p4, 0, none⟩) E.length C4]) S T L P E) : SlA w B (some ⟨p2, 0, none⟩) L.length L ∧ SlI w B (some ⟨p3, 0, none⟩) P.length P ∧ SlI w B (some ⟨p4, 0, none⟩) E.length E := by
  obtain ⟨A2, n2, c2, A3, n3, c3, A4, n4, c4, e, h2, h3, h4⟩ := h
  have e' := (Value.agg.inj e)
  simp only [Array.mk.injEq, List.cons.injEq, Value.slice.injEq, and_true, true_and] at e'
  obtain ⟨⟨rfl, rfl, rfl⟩, ⟨rfl, rfl, rfl⟩, rfl, rfl, rfl⟩ := e'
  exact ⟨h2, h3, h4⟩
theorem iBestL_any (p2 p3 p4 C2 C3 C4 : Nat) (S T : Int) (L : List A4) (P E : List Int) (w : World)
    (h : Mc w w.heap.size (.agg #[.int .i64 S, .int .i64 T, .slice (some ⟨p2, 0, none⟩) L.length C2, .slice (some ⟨p3, 0, none⟩) P.length C3, .slice (some ⟨p4, 0, none⟩) E.length C4]) S T L P E) (hL : L.length ≤ 1048576) (hP : P.length ≤ 1048576) (hE : E.length ≤ 1048576) :
    Calls Try.prog 23 #[.agg #[.int .i64 S, .int .i64 T, .slice (some ⟨p2, 0, none⟩) L.length C2, .slice (some ⟨p3, 0, none⟩) P.length C3, .slice (some ⟨p4, 0, none⟩) E.length C4]] w fun e w' => ∃ v, e = .returned (.tuple #[v, .int .i64 (bwC 1099511627776 S T L P E), .bool (bwB 1099511627776 S T L P E)]) ∧ RowI w' w.heap.size 2 v (bwW 1099511627776 S T L P E) ∧ Below w.heap.size w w' := by
  obtain ⟨a2, a3, a4⟩ := bw_parts h
  refine (iBest_any S T L P E p2 0 p3 0 P.length p4 0 E.length C2 C3 C4 w a2 a3 a4 hL hP hE).mono ?_
  rintro e w' ⟨A, c, rfl, h1, h2⟩
  exact ⟨_, rfl, h1, h2⟩
theorem sBestL_any (p2 p3 p4 C2 C3 C4 : Nat) (S T : Int) (L : List A4) (P E : List Int) (w : World)
    (h : Mc w w.heap.size (.agg #[.int .i64 S, .int .i64 T, .slice (some ⟨p2, 0, none⟩) L.length C2, .slice (some ⟨p3, 0, none⟩) P.length C3, .slice (some ⟨p4, 0, none⟩) E.length C4]) S T L P E) (hL : L.length ≤ 1048576) (hP : P.length ≤ 1048576) (hE : E.length ≤ 1048576) :
    Calls Try.prog 21 #[.agg #[.int .i64 S, .int .i64 T, .slice (some ⟨p2, 0, none⟩) L.length C2, .slice (some ⟨p3, 0, none⟩) P.length C3, .slice (some ⟨p4, 0, none⟩) E.length C4]] w fun e w' => ∃ v, e = .returned (.tuple #[v, .int .i64 (bwC 1099511627776 S T L P E), .bool (bwB 1099511627776 S T L P E)]) ∧ RowI w' w.heap.size 2 v (bwW 1099511627776 S T L P E) ∧ Below w.heap.size w w' := by
  obtain ⟨a2, a3, a4⟩ := bw_parts h
  refine (sBest_any S T L P E (some ⟨p2, 0, none⟩) C2 (some ⟨p3, 0, none⟩) C3 (some ⟨p4, 0, none⟩) C4 w a2 a3 a4 hL hP hE).mono ?_
  rintro e w' ⟨A, c, rfl, h1, h2⟩
  exact ⟨_, rfl, h1, h2⟩
theorem bwW_ck {F S T : Int} {L : List A4} {P E : List Int} : (bwW F S T L P E).length ≤ 1048576 := Nat.le_trans (bwW_len F S T L P E) (by decide)
end Go.Proofs.Ytegponioggpkcaa
