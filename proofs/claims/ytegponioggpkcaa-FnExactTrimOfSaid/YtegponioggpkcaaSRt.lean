/- RepeatOf of the reference. -/
import Derived.Test.YtegponioggpkcaaRt
import Derived.Deep.RegionLaw
import Derived.Deep.DrawnRows
namespace Go.Proofs.Ytegponioggpkcaa
open Go.RowKit
set_option linter.unusedVariables false
attribute [local go_sem ↓] Go.wp_at_zero Go.wp_at_succ
def rq1 := rp1
def rq2 := rp2
theorem rq1_len {L : List A4} {P : List Int} (k : Nat) : (rq1 L P k).length ≤ L.length + P.length := rp1_len L P k
theorem rq2_len {L : List A4} {P : List Int} {E : List Int} (k : Nat) : (rq2 L P E k).length ≤ L.length + P.length + E.length := rp2_len L P E k
theorem rq1_zero (L : List A4) (P : List Int) : rq1 L P 0 = L.map (mvA 1) := rp1_zero L P
theorem rq2_zero (L : List A4) (P E : List Int) : rq2 L P E 0 = rq1 L P P.length := rp2_zero L P E
theorem rq1_step {L : List A4} {P : List Int} {k : Nat} {x : Int} (h : P[k]? = some x) : rq1 L P (k + 1) = rq1 L P k ++ sAr k x := rp1_step h
theorem rq2_step {L : List A4} {P E : List Int} {k : Nat} {x : Int} (h : E[k]? = some x) : rq2 L P E (k + 1) = rq2 L P E k ++ eAr k x := rp2_step h
theorem rq1_pos {L : List A4} {P : List Int} {k : Nat} {x : Int} (h : rq1 L P (k + 1) = rq1 L P k ++ sAr k x) (hp : 0 ≤ x) : rq1 L P (k + 1) = rq1 L P k ++ [(0, (k : Int) + 1, -1, x)] := by rw [h, sAr_pos hp]
theorem rq1_neg {L : List A4} {P : List Int} {k : Nat} {x : Int} (h : rq1 L P (k + 1) = rq1 L P k ++ sAr k x) (hp : ¬ 0 ≤ x) : rq1 L P (k + 1) = rq1 L P k := by rw [h, sAr_neg hp, List.append_nil]
theorem rq2_pos {L : List A4} {P E : List Int} {k : Nat} {x : Int} (h : rq2 L P E (k + 1) = rq2 L P E k ++ eAr k x) (hp : 0 ≤ x) : rq2 L P E (k + 1) = rq2 L P E k ++ [((k : Int) + 1, 0, -1, x)] := by rw [h, eAr_pos hp]
theorem rq2_neg {L : List A4} {P E : List Int} {k : Nat} {x : Int} (h : rq2 L P E (k + 1) = rq2 L P E k ++ eAr k x) (hp : ¬ 0 ≤ x) : rq2 L P E (k + 1) = rq2 L P E k := by rw [h, eAr_neg hp, List.append_nil]
theorem sGiveG (lo : Nat) (S T : Int) (L : List A4) (P E : List Int) (A2 : Option Addr) (n2 c2 : Nat) (A3 : Option Addr) (n3 c3 : Nat) (A4 : Option Addr) (n4 c4 : Nat) (w : World) (h2 : w.ownsRow lo 62 4 (.slice A2 n2 c2) n2 (fa L)) (h3 : w.ownsRow lo 2 1 (.slice A3 n3 c3) n3 (iv P)) (h4 : w.ownsRow lo 2 1 (.slice A4 n4 c4) n4 (iv E)) (e2 : L.length = n2) (e3 : P.length = n3) (e4 : E.length = n4) (hL : n2 ≤ 4294967296) (hP : n3 ≤ 4294967296) (hE : n4 ≤ 4294967296) :
    Calls Try.prog 76 #[.agg #[.int .i64 S, .int .i64 T, .slice A2 n2 c2, .slice A3 n3 c3, .slice A4 n4 c4]] w fun e w' => ∃ ok, ok = vmB S T L P E ∧ e = .returned (.tuple #[.agg #[.int .i64 (ckI ok S), .int .i64 (ckI ok T), .slice (ckA ok A2) (ckN ok n2) (ckN ok c2), .slice (ckA ok A3) (ckN ok n3) (ckN ok c3), .slice (ckA ok A4) (ckN ok n4) (ckN ok c4)], .bool ok]) ∧ Below w.heap.size w w' := by
  subst e2 e3 e4
  refine (sGive_any S T L P E A2 _ c2 A3 _ c3 A4 _ c4 w ?_ (RowI.sl (r := P) h3 rfl) (RowI.sl (r := E) h4 rfl) hL hP hE).mono ?_
  · obtain ⟨A, c, hv, hs⟩ := (OwnV.of h2).slA
    injection hv with e1 _ _
    rw [e1]; exact hs
  · rintro e w' ⟨rfl, hb⟩
    exact ⟨_, rfl, by rw [ckV_agg], hb⟩
end Go.Proofs.Ytegponioggpkcaa
