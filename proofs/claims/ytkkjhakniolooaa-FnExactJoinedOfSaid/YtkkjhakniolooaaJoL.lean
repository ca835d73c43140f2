/- JoinedOf of both programs, as the law takes it. -/
import Derived.Test.YtkkjhakniolooaaSJo
import Derived.Test.YtkkjhakniolooaaJo
namespace Go.Proofs.Ytkkjhakniolooaa
open Go.RowKit
set_option linter.unusedVariables false
theorem mc_partsJ {w : World} {p2 p3 p4 C2 C3 C4 n2 n3 n4 : Nat} {S T : Int} {L : List A4} {P E : List Int} (h : Mc w w.heap.size (.agg #[.int .i64 S, .int .i64 T, .slice (some ⟨p2, 0, none⟩) n2 C2, .slice (some ⟨p3, 0, none⟩) n3 C3, .slice (some ⟨p4, 0, none⟩) n4 C4]) S T L P E) :
    SlA w w.heap.size (some ⟨p2, 0, none⟩) n2 L ∧ SlI w w.heap.size (some ⟨p3, 0, none⟩) n3 P ∧ SlI w w.heap.size (some ⟨p4, 0, none⟩) n4 E := by
  obtain ⟨A2, m2, c2, A3, m3, c3, A4', m4, c4, e, h2, h3, h4⟩ := h
  simp only [Value.agg.injEq, Array.mk.injEq, List.cons.injEq, Value.slice.injEq, true_and, and_true] at e
  obtain ⟨⟨e1, e2, -⟩, ⟨e3, e4, -⟩, ⟨e5, e6, -⟩⟩ := e
  subst e1 e2 e3 e4 e5 e6
  exact ⟨h2, h3, h4⟩
theorem sJoinedL_any (p2 p3 p4 C2 C3 C4 q2 q3 q4 D2 D3 D4 : Nat) (S T : Int) (L : List A4) (P E : List Int) (S' T' : Int) (L' : List A4) (P' E' : List Int) (w : World)
    (h : Mc w w.heap.size (.agg #[.int .i64 S, .int .i64 T, .slice (some ⟨p2, 0, none⟩) L.length C2, .slice (some ⟨p3, 0, none⟩) P.length C3, .slice (some ⟨p4, 0, none⟩) E.length C4]) S T L P E)
    (h' : Mc w w.heap.size (.agg #[.int .i64 S', .int .i64 T', .slice (some ⟨q2, 0, none⟩) L'.length D2, .slice (some ⟨q3, 0, none⟩) P'.length D3, .slice (some ⟨q4, 0, none⟩) E'.length D4]) S' T' L' P' E')
    (hL : L.length ≤ 1048576) (hP : P.length ≤ 1048576) (hE : E.length ≤ 1048576) (kL : L'.length ≤ 1048576) (kP : P'.length ≤ 1048576) (kE : E'.length ≤ 1048576) :
    Calls Try.prog 12 #[.agg #[.int .i64 S, .int .i64 T, .slice (some ⟨p2, 0, none⟩) L.length C2, .slice (some ⟨p3, 0, none⟩) P.length C3, .slice (some ⟨p4, 0, none⟩) E.length C4], .agg #[.int .i64 S', .int .i64 T', .slice (some ⟨q2, 0, none⟩) L'.length D2, .slice (some ⟨q3, 0, none⟩) P'.length D3, .slice (some ⟨q4, 0, none⟩) E'.length D4]] w fun e w' => ∃ v', e = .returned (.tuple #[v', .bool (joOk S T L P E S' T' L' P' E')]) ∧ McW w' w.heap.size v' (ckI (joOk S T L P E S' T' L' P' E') (S + S')) (ckI (joOk S T L P E S' T' L' P' E') T) (ckL (joOk S T L P E S' T' L' P' E') (joA S L L' P' E)) (ckL (joOk S T L P E S' T' L' P' E') (joS P P')) (ckL (joOk S T L P E S' T' L' P' E') (joE P E')) ∧ Below w.heap.size w w' := by
  obtain ⟨a2, a3, a4⟩ := mc_partsJ h
  obtain ⟨b2, b3, b4⟩ := mc_partsJ h'
  exact (sJoined_any S T L P E p2 p3 p4 C2 C3 C4 S' T' L' P' E' q2 q3 q4 D2 D3 D4 w a2 a3 a4 b2 b3 b4 hL hP hE kL kP kE).mono fun _ _ ⟨v', hi, he, hh, ho, hb⟩ => ⟨v', he, McO.more ho hh, hb⟩
theorem iJoinedL_any (p2 p3 p4 C2 C3 C4 q2 q3 q4 D2 D3 D4 : Nat) (S T : Int) (L : List A4) (P E : List Int) (S' T' : Int) (L' : List A4) (P' E' : List Int) (w : World)
    (h : Mc w w.heap.size (.agg #[.int .i64 S, .int .i64 T, .slice (some ⟨p2, 0, none⟩) L.length C2, .slice (some ⟨p3, 0, none⟩) P.length C3, .slice (some ⟨p4, 0, none⟩) E.length C4]) S T L P E)
    (h' : Mc w w.heap.size (.agg #[.int .i64 S', .int .i64 T', .slice (some ⟨q2, 0, none⟩) L'.length D2, .slice (some ⟨q3, 0, none⟩) P'.length D3, .slice (some ⟨q4, 0, none⟩) E'.length D4]) S' T' L' P' E')
    (hL : L.length ≤ 1048576) (hP : P.length ≤ 1048576) (hE : E.length ≤ 1048576) (kL : L'.length ≤ 1048576) (kP : P'.length ≤ 1048576) (kE : E'.length ≤ 1048576) :
    Calls Try.prog 13 #[.agg #[.int .i64 S, .int .i64 T, .slice (some ⟨p2, 0, none⟩) L.length C2, .slice (some ⟨p3, 0, none⟩) P.length C3, .slice (some ⟨p4, 0, none⟩) E.length C4], .agg #[.int .i64 S', .int .i64 T', .slice (some ⟨q2, 0, none⟩) L'.length D2, .slice (some ⟨q3, 0, none⟩) P'.length D3, .slice (some ⟨q4, 0, none⟩) E'.length D4]] w fun e w' => ∃ v', e = .returned (.tuple #[v', .bool (joOk S T L P E S' T' L' P' E')]) ∧ McW w' w.heap.size v' (ckI (joOk S T L P E S' T' L' P' E') (S + S')) (ckI (joOk S T L P E S' T' L' P' E') T) (ckL (joOk S T L P E S' T' L' P' E') (joA S L L' P' E)) (ckL (joOk S T L P E S' T' L' P' E') (joS P P')) (ckL (joOk S T L P E S' T' L' P' E') (joE P E')) ∧ Below w.heap.size w w' := by
  obtain ⟨a2, a3, a4⟩ := mc_partsJ h
  obtain ⟨b2, b3, b4⟩ := mc_partsJ h'
  exact (iJoined_any S T L P E p2 p3 p4 C2 C3 C4 S' T' L' P' E' q2 q3 q4 D2 D3 D4 w a2 a3 a4 b2 b3 b4 hL hP hE kL kP kE).mono fun _ _ ⟨v', hi, he, hh, ho, hb⟩ => ⟨v', he, McO.more ho hh, hb⟩
theorem joOk_in {S T : Int} {L : List A4} {P E : List Int} {S' T' : Int} {L' : List A4} {P' E' : List Int} (h : joOk S T L P E S' T' L' P' E' = true) : vmB (S + S') T (joA S L L' P' E) (joS P P') (joE P E') = true := by
  unfold joOk at h; simp only [Bool.and_eq_true] at h; exact h.2
theorem joA_ck {S T : Int} {L : List A4} {P E : List Int} {S' T' : Int} {L' : List A4} {P' E' : List Int} : (ckL (joOk S T L P E S' T' L' P' E') (joA S L L' P' E)).length ≤ 1048576 := ckL_len fun h => by
  obtain ⟨qS, qT, qL, -⟩ := vmB_true (joOk_in h); omega
theorem joS_ck {S T : Int} {L : List A4} {P E : List Int} {S' T' : Int} {L' : List A4} {P' E' : List Int} : (ckL (joOk S T L P E S' T' L' P' E') (joS P P')).length ≤ 1048576 := ckL_len fun h => by
  obtain ⟨qS, qT, qL, qA, qP, qE⟩ := vmB_true (joOk_in h)
  obtain ⟨q1, -⟩ := mkB_true qP; omega
theorem joE_ck {S T : Int} {L : List A4} {P E : List Int} {S' T' : Int} {L' : List A4} {P' E' : List Int} : (ckL (joOk S T L P E S' T' L' P' E') (joE P E')).length ≤ 1048576 := ckL_len fun h => by
  obtain ⟨qS, qT, qL, qA, qP, qE⟩ := vmB_true (joOk_in h)
  obtain ⟨q1, -⟩ := mkB_true qE; omega
end Go.Proofs.Ytkkjhakniolooaa
