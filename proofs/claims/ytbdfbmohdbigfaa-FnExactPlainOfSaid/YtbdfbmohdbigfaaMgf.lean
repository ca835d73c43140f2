/- Several texts in one: slices.Grow of nil and slices.Concat, for lists of numbers. ArcS: marks and what is held against them. Int64S: marks and what is held against them. -/
import Derived.Test.YtbdfbmohdbigfaaMgc
import Derived.Test.YtbdfbmohdbigfaaMgd
import Derived.Test.YtbdfbmohdbigfaaMge
import Derived.Lib.AppendZeros
import Derived.Deep.LoopGhost
import Derived.Lib.SliceRun

namespace Go.Proofs.Ytbdfbmohdbigfaa
open Go.RowKit
set_option linter.unusedVariables false
/-- A part of a concatenation: where it lies, and what it reads. -/
structure Part where
  b : Nat
  off : Nat
  n : Nat
  c : Nat
  xs : List Int
def Part.val (p : Part) : Value := .slice (some ⟨p.b, p.off, none⟩) p.n p.c
def catL (ps : List Part) : List Int := ps.flatMap Part.xs
theorem catL_succ {ps : List Part} {k : Nat} {p : Part} (h : ps[k]? = some p) : catL (ps.take (k + 1)) = catL (ps.take k) ++ p.xs := by
  obtain ⟨hk, rfl⟩ := List.getElem?_eq_some_iff.1 h
  unfold catL
  rw [List.take_succ_eq_append_getElem hk, List.flatMap_append]; simp
theorem catL_le {ps : List Part} (k : Nat) : (catL (ps.take k)).length ≤ (catL ps).length := by
  have : catL ps = catL (ps.take k) ++ catL (ps.drop k) := by unfold catL; rw [← List.flatMap_append, List.take_append_drop]
  rw [this, List.length_append]; omega
theorem zeros_own (w : World) (t : TypeId) (n cap : Nat) (hm : n + cap ≤ maxLen) : (w.alloc (.cells (Builtin.zeroCells (Value.int .i64 0).cells n ++ Builtin.zeroCells (Value.int .i64 0).cells cap) t)).ownsRow w.heap.size t 1 (.slice (some ⟨w.heap.size, 0, none⟩) 0 (n + cap)) 0 [] :=
  World.ownsRow_made w _ (n + cap) (Nat.le_refl _) hm (by simp [Builtin.zeroCells, Value.cells])
theorem SlV.cells0 {w : World} {B n b : Nat} {xs : List Value} (h : SlV w B (some ⟨b, 0, none⟩) n xs) : ∀ j u, xs[j]? = some u → w.cell? ⟨b, j, none⟩ = some u := by
  intro j u hu
  have hj := (List.getElem?_eq_some_iff.1 hu).1
  have hl := h.len
  obtain ⟨b', off', e, _, hc⟩ := h.2 (by omega)
  have e2 := Option.some.inj e
  injection e2 with e3 e4 _
  subst e3 e4
  have := hc j u hu
  rw [Nat.zero_add] at this; exact this
set_option maxRecDepth 100000 in
set_option maxHeartbeats 1000000 in
theorem iCloneI_any (b off n c : Nat) (xs : List Int) (w : World) (h : SlI w w.heap.size (some ⟨b, off, none⟩) n xs) (hn : n ≤ 4294967296) :
    Calls Try.prog 48 #[.slice (some ⟨b, off, none⟩) n c] w fun e w' => ∃ A' c', e = .returned (.slice A' xs.length c') ∧ RowI w' w.heap.size 2 (.slice A' xs.length c') xs ∧ Below w.heap.size w w' := by
  have hl := Lib.hid h.len
  have H := Lib.hid h; clear h
  have hR0 := RowI.made w w.heap.size 2 (Nat.le_refl _)
  have HS := Lib.hid (SlV.alloc H.out (Nat.le_refl _) (.cells #[] 2))
  have hb0 : Below w.heap.size w (w.alloc (.cells #[] 2)) := (Below.refl _ _).alloc (Nat.le_refl _) _
  have HR0 := Lib.hid hR0; have HB0 := Lib.hid hb0; clear hR0 hb0
  have hnil := fun w => Lib.run_eql_slice_nil (P := Try.prog) w 26 2 (some ⟨b, off, none⟩) n c 0 0 Try.underlying26
  go_enter Try.func48, Try.ntmps48
  go_wp2_with (first | (at_builtin; refine wpList_ints_push rfl (.tmp 5) (.tmp 6) _ rfl w.heap.size 2 Try.underlying26 infoQ _ [] rfl HR0.out b off n c w.heap.size xs rfl HS.out (by show 0 + n ≤ _; omega) HB0.out.size ?_; intro v' w' hown hbl))
  go_ret
  obtain ⟨A', c', rfl, _, _⟩ := own_form hown
  exact ⟨A', c', rfl, hown, HB0.out.trans hbl⟩
end Go.Proofs.Ytbdfbmohdbigfaa


namespace Go.Proofs.Ytbdfbmohdbigfaa
open Go.RowKit
set_option linter.unusedVariables false
set_option maxHeartbeats 1000000 in
theorem markGArcS (g n m c : Nat) (k : Int) (w : World) (h : RowN w g 73 (m * 4)) (hnm : n ≤ m) (hn : n ≤ 1048576) (hk0 : 0 ≤ k) (hk1 : k ≤ 1000000000) :
    Calls Try.prog 72 #[.slice (some ⟨g, 0, none⟩) n c, .int .i64 k] w fun e w' => e = .returned (.int .i64 (k + 4 * (n : Int))) ∧ (∀ q : Nat, q < (n * 4) → w'.cell? ⟨g, q, none⟩ = some ((Value.int .i64) (k + q))) ∧ But g w w' := by
  go_enter Try.func72, Try.ntmps72
  go_wp2_with fail
  go_loopg [1, 5] n (fun p z i wr => ∃ j : Nat, z = .int .i64 (k + 4 * (j : Int)) ∧ i = .int .i64 j ∧ j ≤ n ∧ n ≤ p + j ∧ Hid (RowN wr g 73 (m * 4)) ∧ Hid (∀ q : Nat, q < j * 4 → wr.cell? ⟨g, q, none⟩ = some ((Value.int .i64) (k + q))) ∧ But g w wr)
  case atStart => exact ⟨0, by simp, rfl, by omega, by omega, h, fun q hq => by omega, But.refl _ _⟩
  case round =>
    obtain ⟨j, rfl, rfl, hj, hm, HR, HQ, hb⟩ := hrel
    by_cases hlt : j < n
    · have l1 : (0 : Int) ≤ (j : Int) := by omega
      obtain ⟨u0, hc0, hf0⟩ := HR.out.cell (k := j * 4 + 0) (show j * 4 + 0 < m * 4 by omega)
      obtain ⟨u1, hc1, hf1⟩ := HR.out.cell (k := j * 4 + 1) (show j * 4 + 1 < m * 4 by omega)
      obtain ⟨u2, hc2, hf2⟩ := HR.out.cell (k := j * 4 + 2) (show j * 4 + 2 < m * 4 by omega)
      obtain ⟨u3, hc3, hf3⟩ := HR.out.cell (k := j * 4 + 3) (show j * 4 + 3 < m * 4 by omega)
      rw [Nat.add_zero] at hc0 hf0
      go_wp2_with fail
      go_roundg (gk - 1)
      case measure => omega
      case rel =>
        refine ⟨j + 1, by simp; omega, by go_num, by omega, by omega, (((HR.out.set _ _).set _ _).set _ _).set _ _, fun q hq => ?_, (((hb.trans (But.set _ _ _)).trans (But.set _ _ _)).trans (But.set _ _ _)).trans (But.set _ _ _)⟩
        obtain ⟨vs, hn', hrow⟩ := HR.out
        have hcell : ∀ q, wr.cell? ⟨g, q, none⟩ = vs[q]? := hrow.cell
        rw [((((hrow.set_ (j * 4) _).set_ (j * 4 + 1) _).set_ (j * 4 + 2) _).set_ (j * 4 + 3) _).cell, set4_get (by omega)]
        by_cases h0 : q = j * 4
        · subst h0; rw [if_pos rfl]; congr 2; push_cast; omega
        by_cases h1 : q = j * 4 + 1
        · subst h1; rw [if_neg (by omega), if_pos rfl]; congr 2; push_cast; omega
        by_cases h2 : q = j * 4 + 2
        · subst h2; rw [if_neg (by omega), if_neg (by omega), if_pos rfl]; congr 2; push_cast; omega
        by_cases h3 : q = j * 4 + 3
        · subst h3; rw [if_neg (by omega), if_neg (by omega), if_neg (by omega), if_pos rfl]; congr 2; push_cast; omega
        rw [if_neg h0, if_neg h1, if_neg h2, if_neg h3, ← hcell]
        exact HQ.out q (by omega)
    · obtain rfl : n = j := by omega
      go_wp2_with fail
      go_ret
      exact ⟨rfl, HQ.out, hb⟩
theorem markNArcS (k : Int) (w : World) :
    Calls Try.prog 72 #[.slice none 0 0, .int .i64 k] w fun e w' => e = .returned (.int .i64 k) ∧ w = w' := by
  go_enter Try.func72, Try.ntmps72
  go_wp2_with fail
  go_loopg [1, 5] 0 (fun p z i wr => z = .int .i64 k ∧ i = .int .i64 0 ∧ wr = w)
  case atStart => exact ⟨rfl, rfl, rfl⟩
  case round =>
    obtain ⟨rfl, rfl, rfl⟩ := hrel
    go_wp2_with fail
    go_ret
    exact ⟨rfl, rfl⟩
theorem markVArcS (lo hi : Nat) (v : Value) (n : Nat) (xs : List Value) (k : Int) (w : World) (h : OwnV w lo hi 73 4 v n xs) (hn : n ≤ 1048576) (hk0 : 0 ≤ k) (hk1 : k ≤ 1000000000) :
    Calls Try.prog 72 #[v, .int .i64 k] w fun e w' => e = .returned (.int .i64 (k + 4 * (n : Int))) ∧ Mkd (Value.int .i64) w' 4 v n k ∧ w.grownBy w' v.ownBlock := by
  rcases h.rowN with ⟨rfl, rfl⟩ | ⟨g, cap, rfl, hbg, hgh, hr, hc⟩
  · refine (markNArcS k w).mono ?_
    rintro e w' ⟨rfl, rfl⟩
    exact ⟨ret_int (by omega), .inl ⟨rfl, rfl⟩, grown_refl _ _⟩
  · refine (markGArcS g n cap cap k w (by simpa using hr) hc hn hk0 hk1).mono ?_
    rintro e w' ⟨rfl, hq, hbut⟩
    exact ⟨rfl, .inr ⟨g, cap, rfl, Nat.lt_of_lt_of_le hr.lt hbut.2.2.2.1, by simpa using hq⟩, hbut.grown⟩
end Go.Proofs.Ytbdfbmohdbigfaa


namespace Go.Proofs.Ytbdfbmohdbigfaa
open Go.RowKit
set_option linter.unusedVariables false
set_option maxHeartbeats 1000000 in
theorem markGInt64S (g n m c : Nat) (k : Int) (w : World) (h : RowN w g 2 m) (hnm : n ≤ m) (hn : n ≤ 1048576) (hk0 : 0 ≤ k) (hk1 : k ≤ 1000000000) :
    Calls Try.prog 73 #[.slice (some ⟨g, 0, none⟩) n c, .int .i64 k] w fun e w' => e = .returned (.int .i64 (k + (n : Int))) ∧ (∀ q : Nat, q < n → w'.cell? ⟨g, q, none⟩ = some ((Value.int .i64) (k + q))) ∧ But g w w' := by
  go_enter Try.func73, Try.ntmps73
  go_wp2_with fail
  go_loopg [1, 5] n (fun p z i wr => ∃ j : Nat, z = .int .i64 (k + (j : Int)) ∧ i = .int .i64 j ∧ j ≤ n ∧ n ≤ p + j ∧ Hid (RowN wr g 2 m) ∧ Hid (∀ q : Nat, q < j → wr.cell? ⟨g, q, none⟩ = some ((Value.int .i64) (k + q))) ∧ But g w wr)
  case atStart => exact ⟨0, by simp, rfl, by omega, by omega, h, fun q hq => by omega, But.refl _ _⟩
  case round =>
    obtain ⟨j, rfl, rfl, hj, hm, HR, HQ, hb⟩ := hrel
    by_cases hlt : j < n
    · have l1 : (0 : Int) ≤ (j : Int) := by omega
      obtain ⟨u, hc, hf⟩ := HR.out.cell (show j < m by omega)
      go_wp2_with fail
      go_roundg (gk - 1)
      case measure => omega
      case rel =>
        refine ⟨j + 1, by simp; omega, by go_num, by omega, by omega, HR.out.set _ _, fun q hq => ?_, hb.trans (But.set _ _ _)⟩
        rcases Nat.lt_or_ge q j with h' | h'
        · rw [World.cell?_setCell_other _ _ _ _ (fun e => by injection e with _ e2 _; omega)]
          exact HQ.out q h'
        · obtain rfl : q = j := by omega
          obtain ⟨vs, hn', hrow⟩ := HR.out
          rw [(hrow.set_ q _).cell, List.getElem?_set_self (by omega)]
    · obtain rfl : n = j := by omega
      go_wp2_with fail
      go_ret
      exact ⟨rfl, HQ.out, hb⟩
theorem markNInt64S (k : Int) (w : World) :
    Calls Try.prog 73 #[.slice none 0 0, .int .i64 k] w fun e w' => e = .returned (.int .i64 k) ∧ w = w' := by
  go_enter Try.func73, Try.ntmps73
  go_wp2_with fail
  go_loopg [1, 5] 0 (fun p z i wr => z = .int .i64 k ∧ i = .int .i64 0 ∧ wr = w)
  case atStart => exact ⟨rfl, rfl, rfl⟩
  case round =>
    obtain ⟨rfl, rfl, rfl⟩ := hrel
    go_wp2_with fail
    go_ret
    exact ⟨rfl, rfl⟩
set_option maxHeartbeats 1000000 in
theorem heldGInt64S (g n c : Nat) (k : Int) (w : World) (h : ∀ q : Nat, q < n → w.cell? ⟨g, q, none⟩ = some ((Value.int .i64) (k + q))) (hn : n ≤ 1048576) (hk0 : 0 ≤ k) (hk1 : k ≤ 1000000000) :
    Calls Try.prog 75 #[.slice (some ⟨g, 0, none⟩) n c, .int .i64 k] w fun e w' => e = .returned (.int .i64 (k + (n : Int))) ∧ w = w' := by
  have HC := Lib.hid h
  clear h
  go_enter Try.func75, Try.ntmps75
  go_wp2_with fail
  go_loopg [1, 5] n (fun m z i wr => ∃ j : Nat, z = .int .i64 (k + (j : Int)) ∧ i = .int .i64 j ∧ j ≤ n ∧ n ≤ m + j ∧ wr = w)
  case atStart => exact ⟨0, by simp, rfl, by omega, by omega, rfl⟩
  case round =>
    obtain ⟨j, rfl, rfl, hj, hm, rfl⟩ := hrel
    by_cases hlt : j < n
    · have l1 : (0 : Int) ≤ (j : Int) := by omega
      have hc := HC.out j hlt
      go_wp2_with fail
      go_roundg (gk - 1)
      case measure => omega
      case rel => exact ⟨j + 1, by simp; omega, by go_num, by omega, by omega, rfl⟩
    · obtain rfl : n = j := by omega
      go_wp2_with fail
      go_ret
      exact ⟨rfl, rfl⟩
theorem heldNInt64S (k : Int) (w : World) :
    Calls Try.prog 75 #[.slice none 0 0, .int .i64 k] w fun e w' => e = .returned (.int .i64 k) ∧ w = w' := by
  go_enter Try.func75, Try.ntmps75
  go_wp2_with fail
  go_loopg [1, 5] 0 (fun p z i wr => z = .int .i64 k ∧ i = .int .i64 0 ∧ wr = w)
  case atStart => exact ⟨rfl, rfl, rfl⟩
  case round =>
    obtain ⟨rfl, rfl, rfl⟩ := hrel
    go_wp2_with fail
    go_ret
    exact ⟨rfl, rfl⟩
theorem markVInt64S (lo hi : Nat) (v : Value) (n : Nat) (xs : List Value) (k : Int) (w : World) (h : OwnV w lo hi 2 1 v n xs) (hn : n ≤ 1048576) (hk0 : 0 ≤ k) (hk1 : k ≤ 1000000000) :
    Calls Try.prog 73 #[v, .int .i64 k] w fun e w' => e = .returned (.int .i64 (k + (n : Int))) ∧ Mkd (Value.int .i64) w' 1 v n k ∧ w.grownBy w' v.ownBlock := by
  rcases h.rowN with ⟨rfl, rfl⟩ | ⟨g, cap, rfl, hbg, hgh, hr, hc⟩
  · refine (markNInt64S k w).mono ?_
    rintro e w' ⟨rfl, rfl⟩
    exact ⟨ret_int (by omega), .inl ⟨rfl, rfl⟩, grown_refl _ _⟩
  · refine (markGInt64S g n cap cap k w (by simpa using hr) hc hn hk0 hk1).mono ?_
    rintro e w' ⟨rfl, hq, hbut⟩
    exact ⟨rfl, .inr ⟨g, cap, rfl, Nat.lt_of_lt_of_le hr.lt hbut.2.2.2.1, by simpa using hq⟩, hbut.grown⟩
theorem heldVInt64S (v : Value) (n : Nat) (k : Int) (w : World) (h : Mkd (Value.int .i64) w 1 v n k) (hn : n ≤ 1048576) (hk0 : 0 ≤ k) (hk1 : k ≤ 1000000000) :
    Calls Try.prog 75 #[v, .int .i64 k] w fun e w' => e = .returned (.int .i64 (k + (n : Int))) ∧ w = w' := by
  rcases h with ⟨rfl, rfl⟩ | ⟨g, c, rfl, hg, hq⟩
  · refine (heldNInt64S k w).mono ?_
    rintro e w' ⟨rfl, rfl⟩
    exact ⟨ret_int (by omega), rfl⟩
  · exact heldGInt64S g n c k w (by simpa using hq) hn hk0 hk1
end Go.Proofs.Ytbdfbmohdbigfaa
