/- PlainOf of both programs, as the law takes it. -/
import Derived.Test.YtbdfbmohdbigfaaPxJ

namespace Go.Proofs.Ytbdfbmohdbigfaa
open Go.RowKit
set_option linter.unusedVariables false
theorem mc_partP {w : World} {p2 p3 p4 C2 C3 C4 n2 n3 n4 : Nat} {S T : Int} {L : List A4} {P E : List Int} (h : Mc w w.heap.size (.agg #[.int .i64 S, .int .i64 T, .slice (some ⟨p2, 0, none⟩) n2 C2, .slice (some ⟨p3, 0, none⟩) n3 C3, .slice (some ⟨p4, 0, none⟩) n4 C4]) S T L P E) :
    SlA w w.heap.size (some ⟨p2, 0, none⟩) n2 L ∧ SlI w w.heap.size (some ⟨p3, 0, none⟩) n3 P ∧ SlI w w.heap.size (some ⟨p4, 0, none⟩) n4 E := by
  obtain ⟨A2, m2, c2, A3, m3, c3, A4', m4, c4, e, h2, h3, h4⟩ := h
  simp only [Value.agg.injEq, Array.mk.injEq, List.cons.injEq, Value.slice.injEq, true_and, and_true] at e
  obtain ⟨⟨e1, e2, -⟩, ⟨e3, e4, -⟩, ⟨e5, e6, -⟩⟩ := e
  subst e1 e2 e3 e4 e5 e6
  exact ⟨h2, h3, h4⟩
theorem sPlainL_any (p2 p3 p4 C2 C3 C4 : Nat) (S T : Int) (L : List A4) (P E : List Int) (w : World)
    (h : Mc w w.heap.size (.agg #[.int .i64 S, .int .i64 T, .slice (some ⟨p2, 0, none⟩) L.length C2, .slice (some ⟨p3, 0, none⟩) P.length C3, .slice (some ⟨p4, 0, none⟩) E.length C4]) S T L P E)
    (hL : L.length ≤ 1048576) (hP : P.length ≤ 1048576) (hE : E.length ≤ 1048576) :
    Calls Try.prog 20 #[.agg #[.int .i64 S, .int .i64 T, .slice (some ⟨p2, 0, none⟩) L.length C2, .slice (some ⟨p3, 0, none⟩) P.length C3, .slice (some ⟨p4, 0, none⟩) E.length C4]] w fun e w' => ∃ v', e = .returned (.tuple #[v', .bool (poR S T L P E).isSome]) ∧ PlW w' w.heap.size v' (poN S T L P E) (poT S T L P E) (poP S T L P E) (poD S T L P E) ∧ Below w.heap.size w w' := by
  obtain ⟨a2, a3, a4⟩ := mc_partP h
  exact sPlainOf_any S T L P E (some ⟨p2, 0, none⟩) C2 (some ⟨p3, 0, none⟩) C3 (some ⟨p4, 0, none⟩) C4 w a2 a3 a4 (by omega) (by omega) (by omega)
theorem iPlainL_any (p2 p3 p4 C2 C3 C4 : Nat) (S T : Int) (L : List A4) (P E : List Int) (w : World)
    (h : Mc w w.heap.size (.agg #[.int .i64 S, .int .i64 T, .slice (some ⟨p2, 0, none⟩) L.length C2, .slice (some ⟨p3, 0, none⟩) P.length C3, .slice (some ⟨p4, 0, none⟩) E.length C4]) S T L P E)
    (hL : L.length ≤ 1048576) (hP : P.length ≤ 1048576) (hE : E.length ≤ 1048576) :
    Calls Try.prog 11 #[.agg #[.int .i64 S, .int .i64 T, .slice (some ⟨p2, 0, none⟩) L.length C2, .slice (some ⟨p3, 0, none⟩) P.length C3, .slice (some ⟨p4, 0, none⟩) E.length C4]] w fun e w' => ∃ v', e = .returned (.tuple #[v', .bool (poR S T L P E).isSome]) ∧ PlW w' w.heap.size v' (poN S T L P E) (poT S T L P E) (poP S T L P E) (poD S T L P E) ∧ Below w.heap.size w w' := by
  obtain ⟨a2, a3, a4⟩ := mc_partP h
  exact iPlainOf_any S T L P E (some ⟨p2, 0, none⟩) L.length C2 (some ⟨p3, 0, none⟩) P.length C3 (some ⟨p4, 0, none⟩) E.length C4 w a2 a3 a4 (by omega) (by omega) (by omega)
theorem poP_len (S T : Int) (L : List A4) (P E : List Int) : (poP S T L P E).length ≤ 1048576 := by
  unfold poP
  split
  · rename_i h
    obtain ⟨-, -, -, -, -, -, -, -, t1, t4⟩ := vm_okM h
    unfold exP
    split
    · exact Nat.zero_le _
    · rename_i M hM
      obtain ⟨q1, q2, q3, q4, q5, q6, -⟩ := ex_whole hM
      rw [q6]
      exact Nat.le_trans (Nat.mul_le_mul q3 (show T.toNat ≤ 4 by omega)) (by omega)
  · exact Nat.zero_le _
theorem poD_len (S T : Int) (L : List A4) (P E : List Int) : (poD S T L P E).length ≤ 1048576 := by
  unfold poD
  split
  · unfold exD
    split
    · exact Nat.zero_le _
    · rename_i M hM
      obtain ⟨q1, q2, q3, -⟩ := ex_whole hM
      rw [List.length_map, q1]; omega
  · exact Nat.zero_le _
end Go.Proofs.Ytbdfbmohdbigfaa
