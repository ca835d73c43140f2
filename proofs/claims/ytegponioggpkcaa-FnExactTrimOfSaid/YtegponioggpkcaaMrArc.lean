/- ArcS: marks and what is held against them. -/
import Derived.Test.YtegponioggpkcaaOwn
namespace Go.Proofs.Ytegponioggpkcaa
open Go.RowKit
set_option linter.unusedVariables false
set_option maxHeartbeats 1000000 in
theorem markGArcS (g n m c : Nat) (k : Int) (w : World) (h : RowN w g 62 (m * 4)) (hnm : n ≤ m) (hn : n ≤ 1048576) (hk0 : 0 ≤ k) (hk1 : k ≤ 1000000000) :
    Calls Try.prog 69 #[.slice (some ⟨g, 0, none⟩) n c, .int .i64 k] w fun e w' => e = .returned (.int .i64 (k + 4 * (n : Int))) ∧ (∀ q : Nat, q < (n * 4) → w'.cell? ⟨g, q, none⟩ = some ((Value.int .i64) (k + q))) ∧ But g w w' := by
  go_enter Try.func69, Try.ntmps69
  go_wp2_with fail
  go_loopg [1, 5] n (fun p z i wr => ∃ j : Nat, z = .int .i64 (k + 4 * (j : Int)) ∧ i = .int .i64 j ∧ j ≤ n ∧ n ≤ p + j ∧ Hid (RowN wr g 62 (m * 4)) ∧ Hid (∀ q : Nat, q < j * 4 → wr.cell? ⟨g, q, none⟩ = some ((Value.int .i64) (k + q))) ∧ But g w wr)
  case atStart => exact ⟨0, by simp, rfl, by omega, by omega, h, fun q hq => by omega, But.refl _ _⟩
  case round =>
    obtain ⟨j, rfl, rfl, hj, hm, HR, HQ, hb⟩ := hrel
    by_cases hlt : j < n
    · have l1 : (0 : Int) ≤ (j : Int) := by omega
      obtain ⟨u0, hc0, hf0⟩ := HR.out.cell (k := j * 4 + 0) (show j * 4 + 0 < m * 4 by omega)
      obtain ⟨u1, hc1, hf1⟩ := HR.out.cell (k := j * 4 + 1) (show j * 4 + 1 < m * 4 by omega)
      obtain ⟨u2, hc2, hf2⟩ := HR.out.cell (k := j * 4 + 2) (show j * 4 + 2 < m * 4 by omega)
      obtain ⟨u3, hc3, hf3⟩ := HR.out.cell (k := j * 4 + 3) (show j * 4 + 3 < m * 4 by omega)
      rw [Nat.add_zero] at hc0 hf0
      go_wp2_with fail
      go_roundg (gk - 1)
      case measure => omega
      case rel =>
        refine ⟨j + 1, by simp; omega, by go_num, by omega, by omega, (((HR.out.set _ _).set _ _).set _ _).set _ _, fun q hq => ?_, (((hb.trans (But.set _ _ _)).trans (But.set _ _ _)).trans (But.set _ _ _)).trans (But.set _ _ _)⟩
        obtain ⟨vs, hn', hrow⟩ := HR.out
        have hcell : ∀ q, wr.cell? ⟨g, q, none⟩ = vs[q]? := hrow.cell
        rw [((((hrow.set_ (j * 4) _).set_ (j * 4 + 1) _).set_ (j * 4 + 2) _).set_ (j * 4 + 3) _).cell, set4_get (by omega)]
        by_cases h0 : q = j * 4
        · subst h0; rw [if_pos rfl]; congr 2; push_cast; omega
        by_cases h1 : q = j * 4 + 1
        · subst h1; rw [if_neg (by omega), if_pos rfl]; congr 2; push_cast; omega
        by_cases h2 : q = j * 4 + 2
        · subst h2; rw [if_neg (by omega), if_neg (by omega), if_pos rfl]; congr 2; push_cast; omega
        by_cases h3 : q = j * 4 + 3
        · subst h3; rw [if_neg (by omega), if_neg (by omega), if_neg (by omega), if_pos rfl]; congr 2; push_cast; omega
        rw [if_neg h0, if_neg h1, if_neg h2, if_neg h3, ← hcell]
        exact HQ.out q (by omega)
    · obtain rfl : n = j := by omega
      go_wp2_with fail
      go_ret
      exact ⟨rfl, HQ.out, hb⟩
theorem markNArcS (k : Int) (w : World) :
    Calls Try.prog 69 #[.slice none 0 0, .int .i64 k] w fun e w' => e = .returned (.int .i64 k) ∧ w = w' := by
  go_enter Try.func69, Try.ntmps69
  go_wp2_with fail
  go_loopg [1, 5] 0 (fun p z i wr => z = .int .i64 k ∧ i = .int .i64 0 ∧ wr = w)
  case atStart => exact ⟨rfl, rfl, rfl⟩
  case round =>
    obtain ⟨rfl, rfl, rfl⟩ := hrel
    go_wp2_with fail
    go_ret
    exact ⟨rfl, rfl⟩
set_option maxHeartbeats 1000000 in
theorem heldGArcS (g n c : Nat) (k : Int) (w : World) (h : ∀ q : Nat, q < (n * 4) → w.cell? ⟨g, q, none⟩ = some ((Value.int .i64) (k + q))) (hn : n ≤ 1048576) (hk0 : 0 ≤ k) (hk1 : k ≤ 1000000000) :
    Calls Try.prog 73 #[.slice (some ⟨g, 0, none⟩) n c, .int .i64 k] w fun e w' => e = .returned (.int .i64 (k + 4 * (n : Int))) ∧ w = w' := by
  have HC := Lib.hid h
  clear h
  go_enter Try.func73, Try.ntmps73
  go_wp2_with fail
  go_loopg [1, 5] n (fun m z i wr => ∃ j : Nat, z = .int .i64 (k + 4 * (j : Int)) ∧ i = .int .i64 j ∧ j ≤ n ∧ n ≤ m + j ∧ wr = w)
  case atStart => exact ⟨0, by simp, rfl, by omega, by omega, rfl⟩
  case round =>
    obtain ⟨j, rfl, rfl, hj, hm, rfl⟩ := hrel
    by_cases hlt : j < n
    · have l1 : (0 : Int) ≤ (j : Int) := by omega
      have hc0 := HC.out (j * 4 + 0) (by omega)
      have hc1 := HC.out (j * 4 + 1) (by omega)
      have hc2 := HC.out (j * 4 + 2) (by omega)
      have hc3 := HC.out (j * 4 + 3) (by omega)
      rw [Nat.add_zero] at hc0
      have hc0 : wr.cell? ⟨g, j * 4, none⟩ = some (.int .i64 (k + 4 * (j : Int))) := by rw [hc0]; congr 2; push_cast; omega
      have hc1 : wr.cell? ⟨g, j * 4 + 1, none⟩ = some (.int .i64 (k + 4 * (j : Int) + 1)) := by rw [hc1]; congr 2; push_cast; omega
      have hc2 : wr.cell? ⟨g, j * 4 + 2, none⟩ = some (.int .i64 (k + 4 * (j : Int) + 1 + 1)) := by rw [hc2]; congr 2; push_cast; omega
      have hc3 : wr.cell? ⟨g, j * 4 + 3, none⟩ = some (.int .i64 (k + 4 * (j : Int) + 1 + 1 + 1)) := by rw [hc3]; congr 2; push_cast; omega
      go_wp2_with fail
      go_roundg (gk - 1)
      case measure => omega
      case rel => exact ⟨j + 1, by simp; omega, by go_num, by omega, by omega, rfl⟩
    · obtain rfl : n = j := by omega
      go_wp2_with fail
      go_ret
      exact ⟨rfl, rfl⟩
theorem heldNArcS (k : Int) (w : World) :
    Calls Try.prog 73 #[.slice none 0 0, .int .i64 k] w fun e w' => e = .returned (.int .i64 k) ∧ w = w' := by
  go_enter Try.func73, Try.ntmps73
  go_wp2_with fail
  go_loopg [1, 5] 0 (fun p z i wr => z = .int .i64 k ∧ i = .int .i64 0 ∧ wr = w)
  case atStart => exact ⟨rfl, rfl, rfl⟩
  case round =>
    obtain ⟨rfl, rfl, rfl⟩ := hrel
    go_wp2_with fail
    go_ret
    exact ⟨rfl, rfl⟩
theorem markVArcS (lo hi : Nat) (v : Value) (n : Nat) (xs : List Value) (k : Int) (w : World) (h : OwnV w lo hi 62 4 v n xs) (hn : n ≤ 1048576) (hk0 : 0 ≤ k) (hk1 : k ≤ 1000000000) :
    Calls Try.prog 69 #[v, .int .i64 k] w fun e w' => e = .returned (.int .i64 (k + 4 * (n : Int))) ∧ Mkd (Value.int .i64) w' 4 v n k ∧ w.grownBy w' v.ownBlock := by
  rcases h.rowN with ⟨rfl, rfl⟩ | ⟨g, cap, rfl, hbg, hgh, hr, hc⟩
  · refine (markNArcS k w).mono ?_
    rintro e w' ⟨rfl, rfl⟩
    exact ⟨ret_int (by omega), .inl ⟨rfl, rfl⟩, grown_refl _ _⟩
  · refine (markGArcS g n cap cap k w (by simpa using hr) hc hn hk0 hk1).mono ?_
    rintro e w' ⟨rfl, hq, hbut⟩
    exact ⟨rfl, .inr ⟨g, cap, rfl, Nat.lt_of_lt_of_le hr.lt hbut.2.2.2.1, by simpa using hq⟩, hbut.grown⟩
theorem heldVArcS (v : Value) (n : Nat) (k : Int) (w : World) (h : Mkd (Value.int .i64) w 4 v n k) (hn : n ≤ 1048576) (hk0 : 0 ≤ k) (hk1 : k ≤ 1000000000) :
    Calls Try.prog 73 #[v, .int .i64 k] w fun e w' => e = .returned (.int .i64 (k + 4 * (n : Int))) ∧ w = w' := by
  rcases h with ⟨rfl, rfl⟩ | ⟨g, c, rfl, hg, hq⟩
  · refine (heldNArcS k w).mono ?_
    rintro e w' ⟨rfl, rfl⟩
    exact ⟨ret_int (by omega), rfl⟩
  · exact heldGArcS g n c k w (by simpa using hq) hn hk0 hk1
end Go.Proofs.Ytegponioggpkcaa
