/- LeastFit of both programs, as the law takes it. -/
import Derived.Test.YtchacfienafhlaaLfS4
namespace Go.Proofs.Ytchacfienafhlaa
open Go.RowKit
set_option linter.unusedVariables false
theorem lfRes_bd {T : Int} {good bad : List (List Int)} {q : Nat × Nat} (h : lfRes T good bad = some q) : q.1 ≤ 3 ∧ q.1 * T.toNat ≤ 6 := by
  unfold lfRes at h
  split at h
  · rename_i hp
    obtain ⟨hT, -⟩ := lfPre_true hp
    have h3 : q.1 ≤ 3 := by
      unfold lfFind at h
      split at h
      · cases h; show _ ≤ 3; omega
      · split at h
        · cases h; show _ ≤ 3; omega
        · split at h
          · cases h; show _ ≤ 3; omega
          · cases h
    exact ⟨h3, Nat.mul_le_mul h3 (show T.toNat ≤ 2 by omega)⟩
  · cases h
theorem lfP_len (T : Int) (good bad : List (List Int)) : (lfP T (lfRes T good bad)).length ≤ 1048576 := by
  cases h : lfRes T good bad with
  | none => exact Nat.zero_le _
  | some q =>
    have := lfRes_bd h
    show (tb q.1 (q.1 * T.toNat) q.2).length ≤ _
    rw [tb_len]; omega
theorem lfE_len (T : Int) (good bad : List (List Int)) : (lfE T good (lfRes T good bad)).length ≤ 1048576 := by
  cases h : lfRes T good bad with
  | none => exact Nat.zero_le _
  | some q =>
    have := lfRes_bd h
    show (frcW _ q.1 good).length ≤ _
    rw [frcW_len]; omega
theorem iLeastL_any (T : Int) (A : Option Addr) (n c : Nat) (good : List (List Int)) (A' : Option Addr) (n' c' : Nat) (bad : List (List Int)) (w : World) (hg : SlL w w.heap.size A n good) (hb : SlL w w.heap.size A' n' bad) (hn : n ≤ 1048576) (hn' : n' ≤ 1048576) (hm : sumL good ≤ 1048576) (hm' : sumL bad ≤ 1048576) :
    Calls Try.prog 12 #[.int .i64 T, .slice A n c, .slice A' n' c'] w fun e w' => ∃ v', e = .returned (.tuple #[v', .bool (lfRes T good bad).isSome]) ∧ PlW w' w.heap.size v' (lfS (lfRes T good bad)) (lfT T (lfRes T good bad)) (lfP T (lfRes T good bad)) (lfE T good (lfRes T good bad)) ∧ Below w.heap.size w w' :=
  iLeast_any T A n c good A' n' c' bad w hg hb hn hn' (fun r hr => by have := sumL_mem hr; omega) (fun r hr => by have := sumL_mem hr; omega)
theorem sLeastL_any (T : Int) (A : Option Addr) (n c : Nat) (good : List (List Int)) (A' : Option Addr) (n' c' : Nat) (bad : List (List Int)) (w : World) (hg : SlL w w.heap.size A n good) (hb : SlL w w.heap.size A' n' bad) (hn : n ≤ 1048576) (hn' : n' ≤ 1048576) (hm : sumL good ≤ 1048576) (hm' : sumL bad ≤ 1048576) :
    Calls Try.prog 10 #[.int .i64 T, .slice A n c, .slice A' n' c'] w fun e w' => ∃ v', e = .returned (.tuple #[v', .bool (lfRes T good bad).isSome]) ∧ PlW w' w.heap.size v' (lfS (lfRes T good bad)) (lfT T (lfRes T good bad)) (lfP T (lfRes T good bad)) (lfE T good (lfRes T good bad)) ∧ Below w.heap.size w w' :=
  sLeast_any T A n c good A' n' c' bad w hg hb hn hn' (fun r hr => by have := sumL_mem hr; omega) (fun r hr => by have := sumL_mem hr; omega)
end Go.Proofs.Ytchacfienafhlaa
