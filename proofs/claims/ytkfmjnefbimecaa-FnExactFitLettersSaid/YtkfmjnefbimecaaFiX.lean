/- FitLetters of both programs, as the law takes it. -/
import Derived.Test.YtkfmjnefbimecaaFiM
namespace Go.Proofs.Ytkfmjnefbimecaa
open Go.RowKit
set_option linter.unusedVariables false
theorem md_partsF {w : World} {B p2 p3 p4 n2 n3 n4 C2 C3 C4 : Nat} {S T : Int} {P Q R : List F32} (h : Md w B (.agg #[.int .i64 S, .int .i64 T, .slice (some ⟨p2, 0, none⟩) n2 C2, .slice (some ⟨p3, 0, none⟩) n3 C3, .slice (some ⟨p4, 0, none⟩) n4 C4]) S T P Q R) :
    SlF w B (some ⟨p2, 0, none⟩) n2 P ∧ SlF w B (some ⟨p3, 0, none⟩) n3 Q ∧ SlF w B (some ⟨p4, 0, none⟩) n4 R := by
  obtain ⟨A2, m2, c2, A3, m3, c3, A4, m4, c4, e, h2, h3, h4⟩ := h
  simp only [Value.agg.injEq, Array.mk.injEq, List.cons.injEq, Value.slice.injEq, and_true, true_and] at e
  obtain ⟨⟨e1, e2, -⟩, ⟨e4, e5, -⟩, e7, e8, -⟩ := e
  subst e1 e2 e4 e5 e7 e8
  exact ⟨h2, h3, h4⟩
theorem fit_len {S T : Int} {P Q R : List F32} {ws hs : List (List Int)} (h : fitOk S T P Q R ws hs = true) : (fitP S T P ws hs).length ≤ 1048576 ∧ (fitQ S T Q ws hs).length ≤ 1048576 ∧ (fitR S T R ws hs).length ≤ 1048576 := by
  simp only [fitOk, Bool.and_eq_true] at h
  have h := h.2
  simp only [vdM, arB, Bool.and_eq_true, decide_eq_true_eq] at h
  obtain ⟨h1, h2, ⟨h3, _⟩, ⟨h4, _⟩, h5, _⟩ := h
  have b1 := inB_true h1; have b2 := inB_true h2
  have m1 : S.toNat * S.toNat ≤ 5 * 5 := Nat.mul_le_mul (by omega) (by omega)
  have m2 : S.toNat * T.toNat ≤ 5 * 5 := Nat.mul_le_mul (by omega) (by omega)
  exact ⟨by omega, by omega, by omega⟩
theorem fitP_ck {S T : Int} {P Q R : List F32} {ws hs : List (List Int)} : (ckL (fitOk S T P Q R ws hs) (fitP S T P ws hs)).length ≤ 1048576 := ckL_len fun h => (fit_len h).1
theorem fitQ_ck {S T : Int} {P Q R : List F32} {ws hs : List (List Int)} : (ckL (fitOk S T P Q R ws hs) (fitQ S T Q ws hs)).length ≤ 1048576 := ckL_len fun h => (fit_len h).2.1
theorem fitR_ck {S T : Int} {P Q R : List F32} {ws hs : List (List Int)} : (ckL (fitOk S T P Q R ws hs) (fitR S T R ws hs)).length ≤ 1048576 := ckL_len fun h => (fit_len h).2.2
theorem iFitL_any (p2 p3 p4 C2 C3 C4 : Nat) (S T : Int) (P Q R : List F32) (A : Option Addr) (n c : Nat) (ws : List (List Int)) (A' : Option Addr) (n' c' : Nat) (hs : List (List Int)) (w : World)
    (h : Md w w.heap.size (.agg #[.int .i64 S, .int .i64 T, .slice (some ⟨p2, 0, none⟩) P.length C2, .slice (some ⟨p3, 0, none⟩) Q.length C3, .slice (some ⟨p4, 0, none⟩) R.length C4]) S T P Q R)
    (hcap : capOk (.agg #[.int .i64 S, .int .i64 T, .slice (some ⟨p2, 0, none⟩) P.length C2, .slice (some ⟨p3, 0, none⟩) Q.length C3, .slice (some ⟨p4, 0, none⟩) R.length C4]))
    (hw : SlL w w.heap.size A n ws) (hh : SlL w w.heap.size A' n' hs) (hn : n ≤ 1048576) (hn' : n' ≤ 1048576) (hm : sumL ws ≤ 1048576) (hm' : sumL hs ≤ 1048576) :
    Calls Try.prog 23 #[.agg #[.int .i64 S, .int .i64 T, .slice (some ⟨p2, 0, none⟩) P.length C2, .slice (some ⟨p3, 0, none⟩) Q.length C3, .slice (some ⟨p4, 0, none⟩) R.length C4], .slice A n c, .slice A' n' c'] w fun e w' => ∃ v', e = .returned (.tuple #[v', .bool (fitOk S T P Q R ws hs)]) ∧ MdW w' w.heap.size v' (ckI (fitOk S T P Q R ws hs) S) (ckI (fitOk S T P Q R ws hs) T) (ckL (fitOk S T P Q R ws hs) (fitP S T P ws hs)) (ckL (fitOk S T P Q R ws hs) (fitQ S T Q ws hs)) (ckL (fitOk S T P Q R ws hs) (fitR S T R ws hs)) ∧ Below w.heap.size w w' := by
  obtain ⟨h2, h3, h4⟩ := md_partsF h
  exact iFit_any S T P Q R p2 p3 p4 C2 C3 C4 A n c ws A' n' c' hs w h2 h3 h4 hcap hw hh hn hn' (fun r hr => by have := sumL_mem hr; omega) (fun r hr => by have := sumL_mem hr; omega)
theorem sFitL_any (p2 p3 p4 C2 C3 C4 : Nat) (S T : Int) (P Q R : List F32) (A : Option Addr) (n c : Nat) (ws : List (List Int)) (A' : Option Addr) (n' c' : Nat) (hs : List (List Int)) (w : World)
    (h : Md w w.heap.size (.agg #[.int .i64 S, .int .i64 T, .slice (some ⟨p2, 0, none⟩) P.length C2, .slice (some ⟨p3, 0, none⟩) Q.length C3, .slice (some ⟨p4, 0, none⟩) R.length C4]) S T P Q R)
    (hcap : capOk (.agg #[.int .i64 S, .int .i64 T, .slice (some ⟨p2, 0, none⟩) P.length C2, .slice (some ⟨p3, 0, none⟩) Q.length C3, .slice (some ⟨p4, 0, none⟩) R.length C4]))
    (hw : SlL w w.heap.size A n ws) (hh : SlL w w.heap.size A' n' hs) (hn : n ≤ 1048576) (hn' : n' ≤ 1048576) (hm : sumL ws ≤ 1048576) (hm' : sumL hs ≤ 1048576) :
    Calls Try.prog 20 #[.agg #[.int .i64 S, .int .i64 T, .slice (some ⟨p2, 0, none⟩) P.length C2, .slice (some ⟨p3, 0, none⟩) Q.length C3, .slice (some ⟨p4, 0, none⟩) R.length C4], .slice A n c, .slice A' n' c'] w fun e w' => ∃ v', e = .returned (.tuple #[v', .bool (fitOk S T P Q R ws hs)]) ∧ MdW w' w.heap.size v' (ckI (fitOk S T P Q R ws hs) S) (ckI (fitOk S T P Q R ws hs) T) (ckL (fitOk S T P Q R ws hs) (fitP S T P ws hs)) (ckL (fitOk S T P Q R ws hs) (fitQ S T Q ws hs)) (ckL (fitOk S T P Q R ws hs) (fitR S T R ws hs)) ∧ Below w.heap.size w w' := by
  obtain ⟨h2, h3, h4⟩ := md_partsF h
  exact sFit_any S T P Q R p2 p3 p4 C2 C3 C4 A n c ws A' n' c' hs w h2 h3 h4 hcap hw hh hn hn' (fun r hr => by have := sumL_mem hr; omega) (fun r hr => by have := sumL_mem hr; omega)
end Go.Proofs.Ytkfmjnefbimecaa
