/- BoolS: marks and what is held against them. -/
import Derived.Test.YtbdfbmohdbigfaaMge

namespace Go.Proofs.Ytbdfbmohdbigfaa
open Go.RowKit
set_option linter.unusedVariables false
def mkb (z : Int) : Value := .bool (z % 3 == 0)
set_option maxHeartbeats 1000000 in
theorem markGBoolS (g n m c : Nat) (k : Int) (w : World) (h : RowN w g 4 m) (hnm : n ≤ m) (hn : n ≤ 1048576) (hk0 : 0 ≤ k) (hk1 : k ≤ 1000000000) :
    Calls Try.prog 74 #[.slice (some ⟨g, 0, none⟩) n c, .int .i64 k] w fun e w' => e = .returned (.int .i64 (k + (n : Int))) ∧ (∀ q : Nat, q < n → w'.cell? ⟨g, q, none⟩ = some (mkb (k + q))) ∧ But g w w' := by
  go_enter Try.func74, Try.ntmps74
  go_wp2_with fail
  go_loopg [1, 5] n (fun p z i wr => ∃ j : Nat, z = .int .i64 (k + (j : Int)) ∧ i = .int .i64 j ∧ j ≤ n ∧ n ≤ p + j ∧ Hid (RowN wr g 4 m) ∧ Hid (∀ q : Nat, q < j → wr.cell? ⟨g, q, none⟩ = some (mkb (k + q))) ∧ But g w wr)
  case atStart => exact ⟨0, by simp, rfl, by omega, by omega, h, fun q hq => by omega, But.refl _ _⟩
  case round =>
    obtain ⟨j, rfl, rfl, hj, hm, HR, HQ, hb⟩ := hrel
    by_cases hlt : j < n
    · have l1 : (0 : Int) ≤ (j : Int) := by omega
      obtain ⟨u, hc, hf⟩ := HR.out.cell (show j < m by omega)
      have hmod : (k + (j : Int)).tmod 3 = (k + (j : Int)) % 3 := IntWalk.rem_in _ _ (by omega)
      go_wp2_with fail
      go_roundg (gk - 1)
      case measure => omega
      case rel =>
        refine ⟨j + 1, by simp; omega, by go_num, by omega, by omega, HR.out.set _ _, fun q hq => ?_, hb.trans (But.set _ _ _)⟩
        rcases Nat.lt_or_ge q j with h' | h'
        · rw [World.cell?_setCell_other _ _ _ _ (fun e => by injection e with _ e2 _; omega)]
          exact HQ.out q h'
        · obtain rfl : q = j := by omega
          obtain ⟨vs, hn', hrow⟩ := HR.out
          rw [(hrow.set_ q _).cell, List.getElem?_set_self (by omega)]
          simp [mkb]
    · obtain rfl : n = j := by omega
      go_wp2_with fail
      go_ret
      exact ⟨rfl, HQ.out, hb⟩
theorem markNBoolS (k : Int) (w : World) :
    Calls Try.prog 74 #[.slice none 0 0, .int .i64 k] w fun e w' => e = .returned (.int .i64 k) ∧ w = w' := by
  go_enter Try.func74, Try.ntmps74
  go_wp2_with fail
  go_loopg [1, 5] 0 (fun p z i wr => z = .int .i64 k ∧ i = .int .i64 0 ∧ wr = w)
  case atStart => exact ⟨rfl, rfl, rfl⟩
  case round =>
    obtain ⟨rfl, rfl, rfl⟩ := hrel
    go_wp2_with fail
    go_ret
    exact ⟨rfl, rfl⟩
set_option maxHeartbeats 1000000 in
theorem heldGBoolS (g n c : Nat) (k : Int) (w : World) (h : ∀ q : Nat, q < n → w.cell? ⟨g, q, none⟩ = some (mkb (k + q))) (hn : n ≤ 1048576) (hk0 : 0 ≤ k) (hk1 : k ≤ 1000000000) :
    Calls Try.prog 76 #[.slice (some ⟨g, 0, none⟩) n c, .int .i64 k] w fun e w' => e = .returned (.int .i64 (k + (n : Int))) ∧ w = w' := by
  have HC := Lib.hid h
  clear h
  go_enter Try.func76, Try.ntmps76
  go_wp2_with fail
  go_loopg [1, 5] n (fun m z i wr => ∃ j : Nat, z = .int .i64 (k + (j : Int)) ∧ i = .int .i64 j ∧ j ≤ n ∧ n ≤ m + j ∧ wr = w)
  case atStart => exact ⟨0, by simp, rfl, by omega, by omega, rfl⟩
  case round =>
    obtain ⟨j, rfl, rfl, hj, hm, rfl⟩ := hrel
    by_cases hlt : j < n
    · have l1 : (0 : Int) ≤ (j : Int) := by omega
      have hmod : (k + (j : Int)).tmod 3 = (k + (j : Int)) % 3 := IntWalk.rem_in _ _ (by omega)
      obtain ⟨bb, hbb⟩ : ∃ bb, ((k + (j : Int)) % 3 == 0) = bb := ⟨_, rfl⟩
      have hc : wr.cell? ⟨g, j, none⟩ = some (.bool bb) := by rw [← hbb]; exact HC.out j hlt
      have hb2 : (bb != bb) = false := by simp
      go_wp2_with fail
      go_roundg (gk - 1)
      case measure => omega
      case rel => exact ⟨j + 1, by simp; omega, by go_num, by omega, by omega, rfl⟩
    · obtain rfl : n = j := by omega
      go_wp2_with fail
      go_ret
      exact ⟨rfl, rfl⟩
theorem heldNBoolS (k : Int) (w : World) :
    Calls Try.prog 76 #[.slice none 0 0, .int .i64 k] w fun e w' => e = .returned (.int .i64 k) ∧ w = w' := by
  go_enter Try.func76, Try.ntmps76
  go_wp2_with fail
  go_loopg [1, 5] 0 (fun p z i wr => z = .int .i64 k ∧ i = .int .i64 0 ∧ wr = w)
  case atStart => exact ⟨rfl, rfl, rfl⟩
  case round =>
    obtain ⟨rfl, rfl, rfl⟩ := hrel
    go_wp2_with fail
    go_ret
    exact ⟨rfl, rfl⟩
theorem markVBoolS (lo hi : Nat) (v : Value) (n : Nat) (xs : List Value) (k : Int) (w : World) (h : OwnV w lo hi 4 1 v n xs) (hn : n ≤ 1048576) (hk0 : 0 ≤ k) (hk1 : k ≤ 1000000000) :
    Calls Try.prog 74 #[v, .int .i64 k] w fun e w' => e = .returned (.int .i64 (k + (n : Int))) ∧ Mkd mkb w' 1 v n k ∧ w.grownBy w' v.ownBlock := by
  rcases h.rowN with ⟨rfl, rfl⟩ | ⟨g, cap, rfl, hbg, hgh, hr, hc⟩
  · refine (markNBoolS k w).mono ?_
    rintro e w' ⟨rfl, rfl⟩
    exact ⟨ret_int (by omega), .inl ⟨rfl, rfl⟩, grown_refl _ _⟩
  · refine (markGBoolS g n cap cap k w (by simpa using hr) hc hn hk0 hk1).mono ?_
    rintro e w' ⟨rfl, hq, hbut⟩
    exact ⟨rfl, .inr ⟨g, cap, rfl, Nat.lt_of_lt_of_le hr.lt hbut.2.2.2.1, by simpa using hq⟩, hbut.grown⟩
theorem heldVBoolS (v : Value) (n : Nat) (k : Int) (w : World) (h : Mkd mkb w 1 v n k) (hn : n ≤ 1048576) (hk0 : 0 ≤ k) (hk1 : k ≤ 1000000000) :
    Calls Try.prog 76 #[v, .int .i64 k] w fun e w' => e = .returned (.int .i64 (k + (n : Int))) ∧ w = w' := by
  rcases h with ⟨rfl, rfl⟩ | ⟨g, c, rfl, hg, hq⟩
  · refine (heldNBoolS k w).mono ?_
    rintro e w' ⟨rfl, rfl⟩
    exact ⟨ret_int (by omega), rfl⟩
  · exact heldGBoolS g n c k w (by simpa using hq) hn hk0 hk1
end Go.Proofs.Ytbdfbmohdbigfaa
