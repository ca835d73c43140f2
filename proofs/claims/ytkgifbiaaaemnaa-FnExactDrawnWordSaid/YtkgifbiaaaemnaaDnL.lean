/- DrawnWord: the contracts as the law's walk takes them. -/
import Derived.Test.YtkgifbiaaaemnaaDns
import Derived.Test.YtkgifbiaaaemnaaMk2
namespace Go.Proofs.Ytkgifbiaaaemnaa
open Go.RowKit
theorem ckDw {b : Bool} {w : World} {base : Nat} {v1 v2 : Value} {W H : List Int} (h : DwO w base v1 v2 (ckL b W) (ckL b H)) : RowI w base 2 v1 (ckL b W) ∧ RowI w base 2 v2 (ckL b H) ∧ ∀ k, v1.ownBlock = some k → v2.ownBlock ≠ some k := h
def dwN (S T : Int) (P Q R : List F32) (z n : Int) : Nat := n.toNat
theorem dwOk_n {S T : Int} {P Q R : List F32} {z n : Int} (h : dwOk S T P Q R z n = true) : n ≤ 12 := by
  simp only [dwOk, Bool.and_eq_true] at h
  have := inB_true h.2.2; omega
theorem dwA_len (S T : Int) (P Q R : List F32) (z n : Int) : (ckL (dwOk S T P Q R z n) (dwW P Q R S.toNat T.toNat z.toNat n.toNat)).length ≤ 1048576 := by
  cases h : dwOk S T P Q R z n
  · simp [ckL]
  · have := dwOk_n h; simp only [ckL, if_true, dwW_len]; omega
theorem dwB_len (S T : Int) (P Q R : List F32) (z n : Int) : (ckL (dwOk S T P Q R z n) (dwH P Q S.toNat z.toNat (n.toNat + 1))).length ≤ 1048576 := by
  cases h : dwOk S T P Q R z n
  · simp [ckL]
  · have := dwOk_n h; simp only [ckL, if_true, dwH_len]; omega
theorem iDrawnL_any (v : Value) (S T : Int) (P Q R : List F32) (z n : Int) (w : World) (h : Md w w.heap.size v S T P Q R) (hcap : capOk v) :
    Calls Try.prog 28 #[v, .int .i64 z, .int .i64 n] w fun e w' => ∃ v1 v2, e = .returned (.tuple #[v1, v2, .int .i64 (ckZ (dwOk S T P Q R z n) ((dwSt P Q S.toNat z.toNat n.toNat).2 : Int)), .bool (dwOk S T P Q R z n)]) ∧ RowI w' w.heap.size 2 v1 (ckL (dwOk S T P Q R z n) (dwW P Q R S.toNat T.toNat z.toNat n.toNat)) ∧ RowI w' w.heap.size 2 v2 (ckL (dwOk S T P Q R z n) (dwH P Q S.toNat z.toNat (n.toNat + 1))) ∧ (∀ k, v1.ownBlock = some k → v2.ownBlock ≠ some k) ∧ Below w.heap.size w w' := by
  refine (iDrawn_any v S T P Q R z n w h hcap).mono ?_
  rintro e w' ⟨v1, v2, rfl, ⟨h1, h2, h3⟩, hb⟩
  exact ⟨v1, v2, rfl, h1, h2, h3, hb⟩
theorem sDrawnL_any (v : Value) (S T : Int) (P Q R : List F32) (z n : Int) (w : World) (h : Md w w.heap.size v S T P Q R) (hcap : capOk v) :
    Calls Try.prog 27 #[v, .int .i64 z, .int .i64 n] w fun e w' => ∃ v1 v2, e = .returned (.tuple #[v1, v2, .int .i64 (ckZ (dwOk S T P Q R z n) ((dwSt P Q S.toNat z.toNat n.toNat).2 : Int)), .bool (dwOk S T P Q R z n)]) ∧ RowI w' w.heap.size 2 v1 (ckL (dwOk S T P Q R z n) (dwW P Q R S.toNat T.toNat z.toNat n.toNat)) ∧ RowI w' w.heap.size 2 v2 (ckL (dwOk S T P Q R z n) (dwH P Q S.toNat z.toNat (n.toNat + 1))) ∧ (∀ k, v1.ownBlock = some k → v2.ownBlock ≠ some k) ∧ Below w.heap.size w w' := by
  refine (sDrawn_any v S T P Q R z n w h hcap).mono ?_
  rintro e w' ⟨v1, v2, rfl, ⟨h1, h2, h3⟩, hb⟩
  exact ⟨v1, v2, rfl, h1, h2, h3, hb⟩
end Go.Proofs.Ytkgifbiaaaemnaa
