/- Several texts in one: slices.Grow of nil and slices.Concat, for lists of numbers. ArcS: marks and what is held against them. Int64S: marks and what is held against them. A Machine that a call handed out, or that a law copied: equal to another one, marked, held. -/
import Derived.Test.YtedbngnkkfpbeaaMge
import Derived.Test.YtedbngnkkfpbeaaMgf
import Derived.Lib.AppendZeros
import Derived.Deep.LoopGhost
import Derived.Lib.SliceRun
import Derived.Test.YtedbngnkkfpbeaaMachineSt

namespace Go.Proofs.Ytedbngnkkfpbeaa
open Go.RowKit
set_option linter.unusedVariables false
/-- A part of a concatenation: where it lies, and what it reads. -/
structure Part where
  b : Nat
  off : Nat
  n : Nat
  c : Nat
  xs : List Int
def Part.val (p : Part) : Value := .slice (some ⟨p.b, p.off, none⟩) p.n p.c
def catL (ps : List Part) : List Int := ps.flatMap Part.xs
theorem catL_succ {ps : List Part} {k : Nat} {p : Part} (h : ps[k]? = some p) : catL (ps.take (k + 1)) = catL (ps.take k) ++ p.xs := by
  obtain ⟨hk, rfl⟩ := List.getElem?_eq_some_iff.1 h
  unfold catL
  rw [List.take_succ_eq_append_getElem hk, List.flatMap_append]; simp
theorem catL_le {ps : List Part} (k : Nat) : (catL (ps.take k)).length ≤ (catL ps).length := by
  have : catL ps = catL (ps.take k) ++ catL (ps.drop k) := by unfold catL; rw [← List.flatMap_append, List.take_append_drop]
  rw [this, List.length_append]; omega
theorem zeros_own (w : World) (t : TypeId) (n cap : Nat) (hm : n + cap ≤ maxLen) : (w.alloc (.cells (Builtin.zeroCells (Value.int .i64 0).cells n ++ Builtin.zeroCells (Value.int .i64 0).cells cap) t)).ownsRow w.heap.size t 1 (.slice (some ⟨w.heap.size, 0, none⟩) 0 (n + cap)) 0 [] :=
  World.ownsRow_made w _ (n + cap) (Nat.le_refl _) hm (by simp [Builtin.zeroCells, Value.cells])
theorem SlV.cells0 {w : World} {B n b : Nat} {xs : List Value} (h : SlV w B (some ⟨b, 0, none⟩) n xs) : ∀ j u, xs[j]? = some u → w.cell? ⟨b, j, none⟩ = some u := by
  intro j u hu
  have hj := (List.getElem?_eq_some_iff.1 hu).1
  have hl := h.len
  obtain ⟨b', off', e, _, hc⟩ := h.2 (by omega)
  have e2 := Option.some.inj e
  injection e2 with e3 e4 _
  subst e3 e4
  have := hc j u hu
  rw [Nat.zero_add] at this; exact this
set_option maxRecDepth 100000 in
set_option maxHeartbeats 1000000 in
theorem iCloneI_any (b off n c : Nat) (xs : List Int) (w : World) (h : SlI w w.heap.size (some ⟨b, off, none⟩) n xs) (hn : n ≤ 4294967296) :
    Calls Try.prog 61 #[.slice (some ⟨b, off, none⟩) n c] w fun e w' => ∃ A' c', e = .returned (.slice A' xs.length c') ∧ RowI w' w.heap.size 2 (.slice A' xs.length c') xs ∧ Below w.heap.size w w' := by
  have hl := Lib.hid h.len
  have H := Lib.hid h; clear h
  have hR0 := RowI.made w w.heap.size 2 (Nat.le_refl _)
  have HS := Lib.hid (SlV.alloc H.out (Nat.le_refl _) (.cells #[] 2))
  have hb0 : Below w.heap.size w (w.alloc (.cells #[] 2)) := (Below.refl _ _).alloc (Nat.le_refl _) _
  have HR0 := Lib.hid hR0; have HB0 := Lib.hid hb0; clear hR0 hb0
  have hnil := fun w => Lib.run_eql_slice_nil (P := Try.prog) w 26 2 (some ⟨b, off, none⟩) n c 0 0 Try.underlying26
  go_enter Try.func61, Try.ntmps61
  go_wp2_with (first | (at_builtin; refine wpList_ints_push rfl (.tmp 5) (.tmp 6) _ rfl w.heap.size 2 Try.underlying26 infoQ _ [] rfl HR0.out b off n c w.heap.size xs rfl HS.out (by show 0 + n ≤ _; omega) HB0.out.size ?_; intro v' w' hown hbl))
  go_ret
  obtain ⟨A', c', rfl, _, _⟩ := own_form hown
  exact ⟨A', c', rfl, hown, HB0.out.trans hbl⟩
end Go.Proofs.Ytedbngnkkfpbeaa


namespace Go.Proofs.Ytedbngnkkfpbeaa
open Go.RowKit
set_option linter.unusedVariables false
set_option maxHeartbeats 1000000 in
theorem markGArcS (g n m c : Nat) (k : Int) (w : World) (h : RowN w g 89 (m * 4)) (hnm : n ≤ m) (hn : n ≤ 1048576) (hk0 : 0 ≤ k) (hk1 : k ≤ 1000000000) :
    Calls Try.prog 57 #[.slice (some ⟨g, 0, none⟩) n c, .int .i64 k] w fun e w' => e = .returned (.int .i64 (k + 4 * (n : Int))) ∧ (∀ q : Nat, q < (n * 4) → w'.cell? ⟨g, q, none⟩ = some ((Value.int .i64) (k + q))) ∧ But g w w' := by
  go_enter Try.func57, Try.ntmps57
  go_wp2_with fail
  go_loopg [1, 5] n (fun p z i wr => ∃ j : Nat, z = .int .i64 (k + 4 * (j : Int)) ∧ i = .int .i64 j ∧ j ≤ n ∧ n ≤ p + j ∧ Hid (RowN wr g 89 (m * 4)) ∧ Hid (∀ q : Nat, q < j * 4 → wr.cell? ⟨g, q, none⟩ = some ((Value.int .i64) (k + q))) ∧ But g w wr)
  case atStart => exact ⟨0, by simp, rfl, by omega, by omega, h, fun q hq => by omega, But.refl _ _⟩
  case round =>
    obtain ⟨j, rfl, rfl, hj, hm, HR, HQ, hb⟩ := hrel
    by_cases hlt : j < n
    · have l1 : (0 : Int) ≤ (j : Int) := by omega
      obtain ⟨u0, hc0, hf0⟩ := HR.out.cell (k := j * 4 + 0) (show j * 4 + 0 < m * 4 by omega)
      obtain ⟨u1, hc1, hf1⟩ := HR.out.cell (k := j * 4 + 1) (show j * 4 + 1 < m * 4 by omega)
      obtain ⟨u2, hc2, hf2⟩ := HR.out.cell (k := j * 4 + 2) (show j * 4 + 2 < m * 4 by omega)
      obtain ⟨u3, hc3, hf3⟩ := HR.out.cell (k := j * 4 + 3) (show j * 4 + 3 < m * 4 by omega)
      rw [Nat.add_zero] at hc0 hf0
      go_wp2_with fail
      go_roundg (gk - 1)
      case measure => omega
      case rel =>
        refine ⟨j + 1, by simp; omega, by go_num, by omega, by omega, (((HR.out.set _ _).set _ _).set _ _).set _ _, fun q hq => ?_, (((hb.trans (But.set _ _ _)).trans (But.set _ _ _)).trans (But.set _ _ _)).trans (But.set _ _ _)⟩
        obtain ⟨vs, hn', hrow⟩ := HR.out
        have hcell : ∀ q, wr.cell? ⟨g, q, none⟩ = vs[q]? := hrow.cell
        rw [((((hrow.set_ (j * 4) _).set_ (j * 4 + 1) _).set_ (j * 4 + 2) _).set_ (j * 4 + 3) _).cell, set4_get (by omega)]
        by_cases h0 : q = j * 4
        · subst h0; rw [if_pos rfl]; congr 2; push_cast; omega
        by_cases h1 : q = j * 4 + 1
        · subst h1; rw [if_neg (by omega), if_pos rfl]; congr 2; push_cast; omega
        by_cases h2 : q = j * 4 + 2
        · subst h2; rw [if_neg (by omega), if_neg (by omega), if_pos rfl]; congr 2; push_cast; omega
        by_cases h3 : q = j * 4 + 3
        · subst h3; rw [if_neg (by omega), if_neg (by omega), if_neg (by omega), if_pos rfl]; congr 2; push_cast; omega
        rw [if_neg h0, if_neg h1, if_neg h2, if_neg h3, ← hcell]
        exact HQ.out q (by omega)
    · obtain rfl : n = j := by omega
      go_wp2_with fail
      go_ret
      exact ⟨rfl, HQ.out, hb⟩
theorem markNArcS (k : Int) (w : World) :
    Calls Try.prog 57 #[.slice none 0 0, .int .i64 k] w fun e w' => e = .returned (.int .i64 k) ∧ w = w' := by
  go_enter Try.func57, Try.ntmps57
  go_wp2_with fail
  go_loopg [1, 5] 0 (fun p z i wr => z = .int .i64 k ∧ i = .int .i64 0 ∧ wr = w)
  case atStart => exact ⟨rfl, rfl, rfl⟩
  case round =>
    obtain ⟨rfl, rfl, rfl⟩ := hrel
    go_wp2_with fail
    go_ret
    exact ⟨rfl, rfl⟩
theorem markVArcS (lo hi : Nat) (v : Value) (n : Nat) (xs : List Value) (k : Int) (w : World) (h : OwnV w lo hi 89 4 v n xs) (hn : n ≤ 1048576) (hk0 : 0 ≤ k) (hk1 : k ≤ 1000000000) :
    Calls Try.prog 57 #[v, .int .i64 k] w fun e w' => e = .returned (.int .i64 (k + 4 * (n : Int))) ∧ Mkd (Value.int .i64) w' 4 v n k ∧ w.grownBy w' v.ownBlock := by
  rcases h.rowN with ⟨rfl, rfl⟩ | ⟨g, cap, rfl, hbg, hgh, hr, hc⟩
  · refine (markNArcS k w).mono ?_
    rintro e w' ⟨rfl, rfl⟩
    exact ⟨ret_int (by omega), .inl ⟨rfl, rfl⟩, grown_refl _ _⟩
  · refine (markGArcS g n cap cap k w (by simpa using hr) hc hn hk0 hk1).mono ?_
    rintro e w' ⟨rfl, hq, hbut⟩
    exact ⟨rfl, .inr ⟨g, cap, rfl, Nat.lt_of_lt_of_le hr.lt hbut.2.2.2.1, by simpa using hq⟩, hbut.grown⟩
end Go.Proofs.Ytedbngnkkfpbeaa


namespace Go.Proofs.Ytedbngnkkfpbeaa
open Go.RowKit
set_option linter.unusedVariables false
set_option maxHeartbeats 1000000 in
theorem markGInt64S (g n m c : Nat) (k : Int) (w : World) (h : RowN w g 2 m) (hnm : n ≤ m) (hn : n ≤ 1048576) (hk0 : 0 ≤ k) (hk1 : k ≤ 1000000000) :
    Calls Try.prog 22 #[.slice (some ⟨g, 0, none⟩) n c, .int .i64 k] w fun e w' => e = .returned (.int .i64 (k + (n : Int))) ∧ (∀ q : Nat, q < n → w'.cell? ⟨g, q, none⟩ = some ((Value.int .i64) (k + q))) ∧ But g w w' := by
  go_enter Try.func22, Try.ntmps22
  go_wp2_with fail
  go_loopg [1, 5] n (fun p z i wr => ∃ j : Nat, z = .int .i64 (k + (j : Int)) ∧ i = .int .i64 j ∧ j ≤ n ∧ n ≤ p + j ∧ Hid (RowN wr g 2 m) ∧ Hid (∀ q : Nat, q < j → wr.cell? ⟨g, q, none⟩ = some ((Value.int .i64) (k + q))) ∧ But g w wr)
  case atStart => exact ⟨0, by simp, rfl, by omega, by omega, h, fun q hq => by omega, But.refl _ _⟩
  case round =>
    obtain ⟨j, rfl, rfl, hj, hm, HR, HQ, hb⟩ := hrel
    by_cases hlt : j < n
    · have l1 : (0 : Int) ≤ (j : Int) := by omega
      obtain ⟨u, hc, hf⟩ := HR.out.cell (show j < m by omega)
      go_wp2_with fail
      go_roundg (gk - 1)
      case measure => omega
      case rel =>
        refine ⟨j + 1, by simp; omega, by go_num, by omega, by omega, HR.out.set _ _, fun q hq => ?_, hb.trans (But.set _ _ _)⟩
        rcases Nat.lt_or_ge q j with h' | h'
        · rw [World.cell?_setCell_other _ _ _ _ (fun e => by injection e with _ e2 _; omega)]
          exact HQ.out q h'
        · obtain rfl : q = j := by omega
          obtain ⟨vs, hn', hrow⟩ := HR.out
          rw [(hrow.set_ q _).cell, List.getElem?_set_self (by omega)]
    · obtain rfl : n = j := by omega
      go_wp2_with fail
      go_ret
      exact ⟨rfl, HQ.out, hb⟩
theorem markNInt64S (k : Int) (w : World) :
    Calls Try.prog 22 #[.slice none 0 0, .int .i64 k] w fun e w' => e = .returned (.int .i64 k) ∧ w = w' := by
  go_enter Try.func22, Try.ntmps22
  go_wp2_with fail
  go_loopg [1, 5] 0 (fun p z i wr => z = .int .i64 k ∧ i = .int .i64 0 ∧ wr = w)
  case atStart => exact ⟨rfl, rfl, rfl⟩
  case round =>
    obtain ⟨rfl, rfl, rfl⟩ := hrel
    go_wp2_with fail
    go_ret
    exact ⟨rfl, rfl⟩
set_option maxHeartbeats 1000000 in
theorem heldGInt64S (g n c : Nat) (k : Int) (w : World) (h : ∀ q : Nat, q < n → w.cell? ⟨g, q, none⟩ = some ((Value.int .i64) (k + q))) (hn : n ≤ 1048576) (hk0 : 0 ≤ k) (hk1 : k ≤ 1000000000) :
    Calls Try.prog 24 #[.slice (some ⟨g, 0, none⟩) n c, .int .i64 k] w fun e w' => e = .returned (.int .i64 (k + (n : Int))) ∧ w = w' := by
  have HC := Lib.hid h
  clear h
  go_enter Try.func24, Try.ntmps24
  go_wp2_with fail
  go_loopg [1, 5] n (fun m z i wr => ∃ j : Nat, z = .int .i64 (k + (j : Int)) ∧ i = .int .i64 j ∧ j ≤ n ∧ n ≤ m + j ∧ wr = w)
  case atStart => exact ⟨0, by simp, rfl, by omega, by omega, rfl⟩
  case round =>
    obtain ⟨j, rfl, rfl, hj, hm, rfl⟩ := hrel
    by_cases hlt : j < n
    · have l1 : (0 : Int) ≤ (j : Int) := by omega
      have hc := HC.out j hlt
      go_wp2_with fail
      go_roundg (gk - 1)
      case measure => omega
      case rel => exact ⟨j + 1, by simp; omega, by go_num, by omega, by omega, rfl⟩
    · obtain rfl : n = j := by omega
      go_wp2_with fail
      go_ret
      exact ⟨rfl, rfl⟩
theorem heldNInt64S (k : Int) (w : World) :
    Calls Try.prog 24 #[.slice none 0 0, .int .i64 k] w fun e w' => e = .returned (.int .i64 k) ∧ w = w' := by
  go_enter Try.func24, Try.ntmps24
  go_wp2_with fail
  go_loopg [1, 5] 0 (fun p z i wr => z = .int .i64 k ∧ i = .int .i64 0 ∧ wr = w)
  case atStart => exact ⟨rfl, rfl, rfl⟩
  case round =>
    obtain ⟨rfl, rfl, rfl⟩ := hrel
    go_wp2_with fail
    go_ret
    exact ⟨rfl, rfl⟩
theorem markVInt64S (lo hi : Nat) (v : Value) (n : Nat) (xs : List Value) (k : Int) (w : World) (h : OwnV w lo hi 2 1 v n xs) (hn : n ≤ 1048576) (hk0 : 0 ≤ k) (hk1 : k ≤ 1000000000) :
    Calls Try.prog 22 #[v, .int .i64 k] w fun e w' => e = .returned (.int .i64 (k + (n : Int))) ∧ Mkd (Value.int .i64) w' 1 v n k ∧ w.grownBy w' v.ownBlock := by
  rcases h.rowN with ⟨rfl, rfl⟩ | ⟨g, cap, rfl, hbg, hgh, hr, hc⟩
  · refine (markNInt64S k w).mono ?_
    rintro e w' ⟨rfl, rfl⟩
    exact ⟨ret_int (by omega), .inl ⟨rfl, rfl⟩, grown_refl _ _⟩
  · refine (markGInt64S g n cap cap k w (by simpa using hr) hc hn hk0 hk1).mono ?_
    rintro e w' ⟨rfl, hq, hbut⟩
    exact ⟨rfl, .inr ⟨g, cap, rfl, Nat.lt_of_lt_of_le hr.lt hbut.2.2.2.1, by simpa using hq⟩, hbut.grown⟩
theorem heldVInt64S (v : Value) (n : Nat) (k : Int) (w : World) (h : Mkd (Value.int .i64) w 1 v n k) (hn : n ≤ 1048576) (hk0 : 0 ≤ k) (hk1 : k ≤ 1000000000) :
    Calls Try.prog 24 #[v, .int .i64 k] w fun e w' => e = .returned (.int .i64 (k + (n : Int))) ∧ w = w' := by
  rcases h with ⟨rfl, rfl⟩ | ⟨g, c, rfl, hg, hq⟩
  · refine (heldNInt64S k w).mono ?_
    rintro e w' ⟨rfl, rfl⟩
    exact ⟨ret_int (by omega), rfl⟩
  · exact heldGInt64S g n c k w (by simpa using hq) hn hk0 hk1
end Go.Proofs.Ytedbngnkkfpbeaa


namespace Go.Proofs.Ytedbngnkkfpbeaa
open Go.RowKit
set_option linter.unusedVariables false
def McO (w : World) (lo hi : Nat) (v : Value) (S : Int) (T : Int) (L : List A4) (P : List Int) (E : List Int) : Prop :=
  ∃ v2 v3 v4, v = .agg #[.int .i64 S, .int .i64 T, v2, v3, v4] ∧ OwnV w lo hi 89 4 v2 L.length (fa L) ∧ OwnV w lo hi 2 1 v3 P.length (iv P) ∧ OwnV w lo hi 2 1 v4 E.length (iv E) ∧ (∀ k, v2.ownBlock = some k → v3.ownBlock ≠ some k) ∧ (∀ k, v2.ownBlock = some k → v4.ownBlock ≠ some k) ∧ (∀ k, v3.ownBlock = some k → v4.ownBlock ≠ some k)
section
variable {w w' : World} {lo hi B : Nat} {v : Value} {S T : Int} {L : List A4} {P : List Int} {E : List Int}
theorem McO.below (h : McO w lo hi v S T L P E) (hb : Below B w w') (hB : hi ≤ B) : McO w' lo hi v S T L P E := by
  obtain ⟨v2, v3, v4, e, h2, h3, h4, d23, d24, d34⟩ := h
  exact ⟨v2, v3, v4, e, h2.below hb hB, h3.below hb hB, h4.below hb hB, d23, d24, d34⟩
theorem McO.more {hi' : Nat} (h : McO w lo hi v S T L P E) (hB : hi ≤ hi') : McO w lo hi' v S T L P E := by
  obtain ⟨v2, v3, v4, e, h2, h3, h4, d23, d24, d34⟩ := h
  exact ⟨v2, v3, v4, e, h2.more hB, h3.more hB, h4.more hB, d23, d24, d34⟩
theorem McO.kp {lo' hi' : Nat} (h : McO w lo hi v S T L P E) (hk : Kp lo' hi' w w') (hd : hi' ≤ lo ∨ hi ≤ lo') : McO w' lo hi v S T L P E := by
  obtain ⟨v2, v3, v4, e, h2, h3, h4, d23, d24, d34⟩ := h
  exact ⟨v2, v3, v4, e, h2.kp hk hd, h3.kp hk hd, h4.kp hk hd, d23, d24, d34⟩
theorem McO.cg (h : McO w lo hi v S T L P E) : Mc w w.heap.size v S T L P E := by
  obtain ⟨v2, v3, v4, rfl, h2, h3, h4, -, -, -⟩ := h
  obtain ⟨A2, c2, rfl, g2⟩ := h2.slA
  obtain ⟨A3, c3, rfl, g3⟩ := h3.slV
  obtain ⟨A4, c4, rfl, g4⟩ := h4.slV
  exact ⟨_, _, _, _, _, _, _, _, _, rfl, g2, g3, g4⟩
end
def McW (w : World) (base : Nat) (v : Value) (S : Int) (T : Int) (L : List A4) (P : List Int) (E : List Int) : Prop := McO w base w.heap.size v S T L P E
theorem McW.keep {w w' : World} {base B : Nat} {v : Value} {S T : Int} {L : List A4} {P : List Int} {E : List Int} (h : McW w base v S T L P E) (hb : Below B w w') (hB : w.heap.size ≤ B) : McW w' base v S T L P E := (McO.below h hb hB).more hb.size
theorem McW.kp {w w' : World} {base lo hi : Nat} {v : Value} {S T : Int} {L : List A4} {P : List Int} {E : List Int} (h : McW w base v S T L P E) (hk : Kp lo hi w w') (hd : hi ≤ base) : McW w' base v S T L P E := (McO.kp h hk (.inl hd)).more hk.2.2.2.1
theorem McO.shape {w : World} {base hi : Nat} {v : Value} {S T : Int} {L : List A4} {P : List Int} {E : List Int} (h : McO w base hi v S T L P E) : ∃ A2 c2 A3 c3 A4 c4, v = .agg #[.int .i64 S, .int .i64 T, .slice A2 L.length c2, .slice A3 P.length c3, .slice A4 E.length c4] := by
  obtain ⟨v2, v3, v4, rfl, h2, h3, h4, -, -, -⟩ := h
  obtain ⟨A2, c2, rfl, _, _⟩ := h2.form
  obtain ⟨A3, c3, rfl, _, _⟩ := h3.form
  obtain ⟨A4, c4, rfl, _, _⟩ := h4.form
  exact ⟨A2, c2, A3, c3, A4, c4, rfl⟩
theorem McR.cgm {w : World} {base : Nat} {v : Value} {S T : Int} {L : List A4} {P : List Int} {E : List Int} (h : McR w base v S T L P E) (b2 : L.length ≤ 4294967296) (b3 : P.length ≤ 4294967296) (b4 : E.length ≤ 4294967296) : McO w base w.heap.size v S T L P E := by
  obtain ⟨g2, g3, g4, rfl, q0, q1, q2, h2, h3, h4⟩ := h
  refine ⟨_, _, _, rfl, ?_, ?_, ?_, ?_, ?_, ?_⟩
  · refine OwnV.of ⟨by rw [fa_length]; omega, .inr ⟨g2, L.length, (fa L).toArray, rfl, by omega, h2, Nat.le_refl _, by unfold maxLen; omega, by simp [fa_length, Nat.mul_comm], ?_⟩⟩
    rw [List.toList_toArray]; exact List.take_of_length_le (by rw [fa_length]; omega)
  · refine OwnV.of ⟨by simp [iv], .inr ⟨g3, P.length, (iv P).toArray, rfl, by omega, h3, Nat.le_refl _, by unfold maxLen; omega, by simp [iv], ?_⟩⟩
    rw [List.toList_toArray]; exact List.take_of_length_le (by simp [iv])
  · refine OwnV.of ⟨by simp [iv], .inr ⟨g4, E.length, (iv E).toArray, rfl, by omega, h4, Nat.le_refl _, by unfold maxLen; omega, by simp [iv], ?_⟩⟩
    rw [List.toList_toArray]; exact List.take_of_length_le (by simp [iv])
  · intro k hk; simp [Value.ownBlock] at hk ⊢; omega
  · intro k hk; simp [Value.ownBlock] at hk ⊢; omega
  · intro k hk; simp [Value.ownBlock] at hk ⊢; omega
theorem eqOwnMachine (v v' : Value) (S : Int) (T : Int) (L : List A4) (P : List Int) (E : List Int) (lo hi lo' hi' : Nat) (w : World) (h : McO w lo hi v S T L P E) (h' : McO w lo' hi' v' S T L P E) (b2 : L.length ≤ 4294967296) (b3 : P.length ≤ 4294967296) (b4 : E.length ≤ 4294967296) :
    Calls Try.prog 19 #[v, v'] w fun e w' => e = .returned (.bool true) ∧ Below w.heap.size w w' :=
  eqMachine_same v v' S T L P E w h.cg h'.cg b2 b3 b4
def MkdMc (w : World) (v : Value) (L : List A4) (P : List Int) (E : List Int) (k : Int) : Prop :=
  ∃ S T v2 v3 v4, v = .agg #[.int .i64 S, .int .i64 T, v2, v3, v4] ∧ Mkd (Value.int .i64) w 4 v2 L.length (k) ∧ Mkd (Value.int .i64) w 1 v3 P.length (k + 4 * (L.length : Int)) ∧ Mkd (Value.int .i64) w 1 v4 E.length (k + 4 * (L.length : Int) + (P.length : Int))
theorem MkdMc.below {w w' : World} {B : Nat} {v : Value} {L : List A4} {P : List Int} {E : List Int} {k : Int} (h : MkdMc w v L P E k) (hb : Below B w w') (hB : w.heap.size ≤ B) : MkdMc w' v L P E k := by
  obtain ⟨S, T, v2, v3, v4, e, h2, h3, h4⟩ := h
  exact ⟨S, T, v2, v3, v4, e, h2.below hb hB, h3.below hb hB, h4.below hb hB⟩
set_option maxHeartbeats 2000000 in
theorem markMachine_any (v : Value) (S : Int) (T : Int) (L : List A4) (P : List Int) (E : List Int) (lo hi : Nat) (k : Int) (w : World) (h : McO w lo hi v S T L P E) (b2 : L.length ≤ 1048576) (b3 : P.length ≤ 1048576) (b4 : E.length ≤ 1048576) (hk0 : 0 ≤ k) (hk1 : k ≤ 900000000) (hhi : hi ≤ w.heap.size) :
    Calls Try.prog 20 #[v, .int .i64 k] w fun e w' => e = .returned (.int .i64 (k + 4 * (L.length : Int) + (P.length : Int) + (E.length : Int))) ∧ MkdMc w' v L P E k ∧ Kp lo hi w w' := by
  obtain ⟨v2, v3, v4, rfl, h2, h3, h4, d23, d24, d34⟩ := h
  obtain ⟨A2, c2, rfl, _, _⟩ := h2.form
  obtain ⟨A3, c3, rfl, _, _⟩ := h3.form
  obtain ⟨A4, c4, rfl, _, _⟩ := h4.form
  have H := Lib.hid (And.intro h2 (And.intro h3  (And.intro h4 True.intro)))
  have D := Lib.hid (And.intro d23 (And.intro d24  (And.intro d34 True.intro)))
  clear h2 h3 h4 d23 d24 d34
  have rb := Row.new w 28 [.int .i64 S, .int .i64 T, .slice A2 L.length c2, .slice A3 P.length c3, .slice A4 E.length c4]
  have bx : Below w.heap.size w (w.alloc (.cells ([.int .i64 S, .int .i64 T, .slice A2 L.length c2, .slice A3 P.length c3, .slice A4 E.length c4] : List Value).toArray 28)) := (Below.refl _ _).alloc (Nat.le_refl _) _
  have RB := Lib.hid rb; have BX := Lib.hid bx; clear rb bx
  have HHI := Lib.hid hhi; clear hhi
  go_enter Try.func20, Try.ntmps20
  go_wp2_with fail
  obtain ⟨x0, hx0⟩ : ∃ x, x = w.alloc (.cells ([.int .i64 S, .int .i64 T, .slice A2 L.length c2, .slice A3 P.length c3, .slice A4 E.length c4] : List Value).toArray 28) := ⟨_, rfl⟩
  rw [← hx0] at RB BX
  change Calls _ _ _ (w.alloc (.cells ([.int .i64 S, .int .i64 T, .slice A2 L.length c2, .slice A3 P.length c3, .slice A4 E.length c4] : List Value).toArray 28)) _
  rw [← hx0]
  clear hx0
  have O2_0 := Lib.hid ((H.out.1).below BX.out HHI.out)
  have O3_0 := Lib.hid ((H.out.2.1).below BX.out HHI.out)
  have O4_0 := Lib.hid ((H.out.2.2.1).below BX.out HHI.out)
  refine (markVArcS lo hi _ L.length _ (k) x0 O2_0.out b2 (by omega) (by omega)).mono ?_
  rintro e w1 ⟨rfl, hm2, hg2⟩
  have G2 := Lib.hid hg2; have M2_1 := Lib.hid hm2; clear hg2 hm2
  have RB := Lib.hid (RB.out.grown G2.out (fun e => by have := (O2_0.out.lt _ e.symm).2; have := HHI.out; omega))
  have O3_1 := Lib.hid (O3_0.out.grown G2.out (fun k hk e => D.out.1 k e hk))
  have O4_1 := Lib.hid (O4_0.out.grown G2.out (fun k hk e => D.out.2.1 k e hk))
  have cb := RB.out.cell 3
  go_wp2_with fail
  clear cb
  refine (markVInt64S lo hi _ P.length _ (k + 4 * (L.length : Int)) w1 O3_1.out b3 (by omega) (by omega)).mono ?_
  rintro e w2 ⟨rfl, hm3, hg3⟩
  have G3 := Lib.hid hg3; have M3_2 := Lib.hid hm3; clear hg3 hm3
  have RB := Lib.hid (RB.out.grown G3.out (fun e => by have := (O3_1.out.lt _ e.symm).2; have := HHI.out; omega))
  have M2_2 := Lib.hid (M2_1.out.grown G3.out (fun k hk => fun e => D.out.1 k hk e))
  have O4_2 := Lib.hid (O4_1.out.grown G3.out (fun k hk e => D.out.2.2.1 k e hk))
  have cb := RB.out.cell 4
  go_wp2_with fail
  clear cb
  refine (markVInt64S lo hi _ E.length _ (k + 4 * (L.length : Int) + (P.length : Int)) w2 O4_2.out b4 (by omega) (by omega)).mono ?_
  rintro e w3 ⟨rfl, hm4, hg4⟩
  have G4 := Lib.hid hg4; have M4_3 := Lib.hid hm4; clear hg4 hm4
  have RB := Lib.hid (RB.out.grown G4.out (fun e => by have := (O4_2.out.lt _ e.symm).2; have := HHI.out; omega))
  have M2_3 := Lib.hid (M2_2.out.grown G4.out (fun k hk => fun e => D.out.2.1 k hk e))
  have M3_3 := Lib.hid (M3_2.out.grown G4.out (fun k hk => fun e => D.out.2.2.1 k hk e))
  go_wp2_with fail
  go_ret
  exact ⟨rfl, ⟨_, _, _, _, _, rfl, M2_3.out, M3_3.out, M4_3.out⟩, ((((Kp.of_below BX.out).trans (grown_kp G2.out (fun k hk => O2_0.out.lt k hk))).trans (grown_kp G3.out (fun k hk => O3_1.out.lt k hk))).trans (grown_kp G4.out (fun k hk => O4_2.out.lt k hk)))⟩
theorem markWMachine (base : Nat) (v : Value) (S : Int) (T : Int) (L : List A4) (P : List Int) (E : List Int) (k : Int) (w : World) (h : McW w base v S T L P E) (hb : base ≤ w.heap.size) (b2 : L.length ≤ 1048576) (b3 : P.length ≤ 1048576) (b4 : E.length ≤ 1048576) (hk0 : 0 ≤ k) (hk1 : k ≤ 900000000) :
    Calls Try.prog 20 #[v, .int .i64 k] w fun e w' => e = .returned (.int .i64 (k + 4 * (L.length : Int) + (P.length : Int) + (E.length : Int))) ∧ MkdMc w' v L P E k ∧ Below base w w' :=
  (markMachine_any v S T L P E base w.heap.size k w h b2 b3 b4 hk0 hk1 (Nat.le_refl _)).mono fun _ _ ⟨h1, h2, h3⟩ => ⟨h1, h2, h3.below hb⟩
end Go.Proofs.Ytedbngnkkfpbeaa
