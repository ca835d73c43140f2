/- Several texts in one: Rows that a call handed out, of any kind of element: what they read, and what marks leave of them. slices.Grow of nil and slices.Concat, for lists of numbers. ArcS: marks and what is held against them. Int64S: marks and what is held against them. A Machine that a call handed out, or that a law copied: equal to another one, marked, held. -/
import Derived.Test.YtkfmjnefbimecaaMgd
import Derived.Test.YtkfmjnefbimecaaMgb
import Derived.Test.YtkfmjnefbimecaaMgf
import Derived.Test.YtkfmjnefbimecaaMge
import Derived.Lib.AppendZeros
import Derived.Deep.LoopGhost
import Derived.Lib.SliceRun


namespace Go.Proofs.Ytkfmjnefbimecaa
open Go.RowKit
set_option linter.unusedVariables false
/-- v is nil, or the head of a row of the call's own in a block from lo on and below hi; it reads as the cells xs. -/
def OwnV (w : World) (lo hi : Nat) (t : TypeId) (sz : Nat) (v : Value) (n : Nat) (xs : List Value) : Prop := w.ownsRow lo t sz v n xs ∧ ∀ k, v.ownBlock = some k → k < hi
theorem But.grown {g : Nat} {w w' : World} (h : But g w w') : w.grownBy w' (some g) := ⟨h.1, h.2.1, h.2.2.1, h.2.2.2.1, fun k hk hne => h.2.2.2.2 k hk (fun e => hne (by rw [e]))⟩
theorem grown_kp {w w' : World} {row : Option Nat} {lo hi : Nat} (h : w.grownBy w' row) (hr : ∀ k, row = some k → lo ≤ k ∧ k < hi) : Kp lo hi w w' :=
  ⟨h.os, h.tape, h.output, h.size, fun k hk hn => h.block k hk (fun e => by have := hr k e.symm; omega)⟩
theorem Row.kp {w w' : World} {lo hi g : Nat} {t : TypeId} {vs : List Value} (h : Row w g t vs) (hk : Kp lo hi w w') (hg : g < lo ∨ hi ≤ g) : Row w' g t vs := (hk.2.2.2.2 g h.lt hg).trans h
theorem grown_refl (w : World) (row : Option Nat) : w.grownBy w row := ⟨rfl, rfl, rfl, Nat.le_refl _, fun _ _ _ => rfl⟩
section
variable {w w' : World} {lo hi sz n B : Nat} {t : TypeId} {v : Value} {xs : List Value}
theorem OwnV.of (h : w.ownsRow lo t sz v n xs) : OwnV w lo w.heap.size t sz v n xs := ⟨h, fun k hk => (h.lt k hk).2⟩
theorem OwnV.nil (w : World) (lo hi : Nat) (t : TypeId) (sz : Nat) : OwnV w lo hi t sz (.slice none 0 0) 0 [] := ⟨World.ownsRow_nil w lo t sz, fun k hk => by simp [Value.ownBlock] at hk⟩
theorem OwnV.lt (h : OwnV w lo hi t sz v n xs) : ∀ k, v.ownBlock = some k → lo ≤ k ∧ k < hi := fun k hk => ⟨(h.1.lt k hk).1, h.2 k hk⟩
theorem OwnV.move (h : OwnV w lo hi t sz v n xs) (hb : ∀ g, v.ownBlock = some g → w'.heap[g]? = w.heap[g]?) : OwnV w' lo hi t sz v n xs := by
  obtain ⟨⟨h1, h2⟩, h3⟩ := h
  refine ⟨⟨h1, ?_⟩, h3⟩
  rcases h2 with h2 | ⟨g, cap, cur, rfl, hg, hh, rest⟩
  · exact .inl h2
  · exact .inr ⟨g, cap, cur, rfl, hg, (hb g rfl).trans hh, rest⟩
theorem OwnV.below (h : OwnV w lo hi t sz v n xs) (hb : Below B w w') (hB : hi ≤ B) : OwnV w' lo hi t sz v n xs :=
  h.move fun g hg => hb.block g (by have := h.2 g hg; omega)
theorem OwnV.kp {lo' hi' : Nat} (h : OwnV w lo hi t sz v n xs) (hk : Kp lo' hi' w w') (hd : hi' ≤ lo ∨ hi ≤ lo') : OwnV w' lo hi t sz v n xs :=
  h.move fun g hg => hk.2.2.2.2 g (h.1.lt g hg).2 (by have := h.lt g hg; omega)
theorem OwnV.grown {row : Option Nat} (h : OwnV w lo hi t sz v n xs) (hg : w.grownBy w' row) (hne : ∀ k, v.ownBlock = some k → row ≠ some k) : OwnV w' lo hi t sz v n xs :=
  h.move fun g hv => hg.block g (h.1.lt g hv).2 (fun e => hne g hv e.symm)
theorem OwnV.more {hi' : Nat} (h : OwnV w lo hi t sz v n xs) (hh : hi ≤ hi') : OwnV w lo hi' t sz v n xs := ⟨h.1, fun k hk => Nat.lt_of_lt_of_le (h.2 k hk) hh⟩
theorem OwnV.form (h : OwnV w lo hi t sz v n xs) : ∃ A c, v = .slice A n c ∧ n ≤ c ∧ c ≤ maxLen := own_form h.1
theorem OwnV.rowN (h : OwnV w lo hi t sz v n xs) : (v = .slice none 0 0 ∧ n = 0) ∨ ∃ g cap, v = .slice (some ⟨g, 0, none⟩) n cap ∧ lo ≤ g ∧ g < hi ∧ RowN w g t (cap * sz) ∧ n ≤ cap := by
  obtain ⟨⟨h1, h2⟩, h3⟩ := h
  rcases h2 with h2 | ⟨g, cap, cur, rfl, hb, hg, hnc, hm, hs, ht⟩
  · exact .inl h2
  · refine .inr ⟨g, cap, rfl, hb, h3 g rfl, ⟨cur.toList, by simpa using hs, ?_⟩, hnc⟩
    show w.heap[g]? = some (.cells cur.toList.toArray t (0, 0))
    rw [Array.toArray_toList]; exact hg
theorem OwnV.slV (h : OwnV w lo hi t 1 v n xs) : ∃ A c, v = .slice A n c ∧ SlV w w.heap.size A n xs := by
  obtain ⟨A, c, rfl, _, _⟩ := h.form
  exact ⟨A, c, rfl, own_sl h.1⟩
theorem OwnV.slA {L : List A4} (h : OwnV w lo hi t 4 v L.length (fa L)) : ∃ A c, v = .slice A L.length c ∧ SlA w w.heap.size A L.length L := by
  obtain ⟨h1, h2⟩ := h.1
  rcases h2 with ⟨rfl, hn⟩ | ⟨g, cap, cur, rfl, hb, hg, hnc, hm, hs, ht⟩
  · exact ⟨none, 0, by rw [hn], by rw [List.length_eq_zero_iff.1 hn]; exact SlA.nil _ _ _⟩
  · refine ⟨_, cap, rfl, rfl, fun h0 => ⟨g, 0, rfl, (Array.getElem?_eq_some_iff.1 hg).1, fun j a ha => ?_⟩⟩
    have hj := (List.getElem?_eq_some_iff.1 ha).1
    have hget : ∀ q, q < L.length * 4 → w.cell? ⟨g, q, none⟩ = (fa L)[q]? := by
      intro q hq
      rw [cell_of_row w g q cur t (0, 0) hg, ← ht, List.getElem?_take_of_lt hq]; simp
    obtain ⟨c0, c1, c2, c3⟩ := fa_get ha
    simp only [Nat.zero_add]
    rw [hget _ (by omega), hget _ (by omega), hget _ (by omega), hget _ (by omega)]
    exact ⟨c0, c1, c2, c3⟩
end
/-- The n elements of v (sz cells each) bear the marks of k, k + 1, .. -/
def Mkd (f : Int → Value) (w : World) (sz : Nat) (v : Value) (n : Nat) (k : Int) : Prop := (v = .slice none 0 0 ∧ n = 0) ∨ ∃ g c, v = .slice (some ⟨g, 0, none⟩) n c ∧ g < w.heap.size ∧ ∀ q : Nat, q < n * sz → w.cell? ⟨g, q, none⟩ = some (f (k + q))
theorem Mkd.move {f : Int → Value} {w w' : World} {sz n : Nat} {v : Value} {k : Int} (h : Mkd f w sz v n k) (hs : w.heap.size ≤ w'.heap.size) (hb : ∀ g, v.ownBlock = some g → w'.heap[g]? = w.heap[g]?) : Mkd f w' sz v n k := by
  rcases h with h | ⟨g, c, rfl, hg, hq⟩
  · exact .inl h
  · exact .inr ⟨g, c, rfl, Nat.lt_of_lt_of_le hg hs, fun q hlt => (World.cell?_of_block (a := ⟨g, q, none⟩) (hb g rfl)).trans (hq q hlt)⟩
theorem Mkd.below {f : Int → Value} {w w' : World} {sz n B : Nat} {v : Value} {k : Int} (h : Mkd f w sz v n k) (hb : Below B w w') (hB : w.heap.size ≤ B) : Mkd f w' sz v n k := by
  refine h.move hb.size fun g hg => hb.block g ?_
  rcases h with ⟨rfl, _⟩ | ⟨g', c, rfl, hg', _⟩
  · simp [Value.ownBlock] at hg
  · simp [Value.ownBlock] at hg; omega
theorem Mkd.grown {f : Int → Value} {w w' : World} {sz n : Nat} {v : Value} {k : Int} {row : Option Nat} (h : Mkd f w sz v n k) (hg : w.grownBy w' row) (hne : ∀ k, v.ownBlock = some k → row ≠ some k) : Mkd f w' sz v n k := by
  refine h.move hg.size fun g hv => hg.block g ?_ (fun e => hne g hv e.symm)
  rcases h with ⟨rfl, _⟩ | ⟨g', c, rfl, hg', _⟩
  · simp [Value.ownBlock] at hv
  · simp [Value.ownBlock] at hv; omega
theorem Mkd.form {f : Int → Value} {w : World} {sz n : Nat} {v : Value} {k : Int} (h : Mkd f w sz v n k) : ∃ A c, v = .slice A n c := by
  rcases h with ⟨rfl, rfl⟩ | ⟨g, c, rfl, _⟩
  · exact ⟨_, _, rfl⟩
  · exact ⟨_, _, rfl⟩
theorem Kp.of_below {lo hi : Nat} {w w' : World} (h : Below w.heap.size w w') : Kp lo hi w w' := ⟨h.os, h.tape, h.output, h.size, fun k hk _ => h.block k hk⟩
theorem ret_val {a b : Value} (h : a = b) : Ending.returned a = Ending.returned b := by rw [h]
theorem set4_get {vs : List Value} {p q : Nat} {u0 u1 u2 u3 : Value} (hl : p + 3 < vs.length) :
    ((((vs.set p u0).set (p + 1) u1).set (p + 2) u2).set (p + 3) u3)[q]? = if q = p then some u0 else if q = p + 1 then some u1 else if q = p + 2 then some u2 else if q = p + 3 then some u3 else vs[q]? := by
  simp only [List.getElem?_set, List.length_set]
  by_cases h0 : q = p
  · subst h0; simp; omega
  by_cases h1 : q = p + 1
  · subst h1; simp; omega
  by_cases h2 : q = p + 2
  · subst h2; simp; omega
  by_cases h3 : q = p + 3
  · subst h3; simp; omega
  rw [if_neg (fun h => h3 h.symm), if_neg (fun h => h2 h.symm), if_neg (fun h => h1 h.symm), if_neg (fun h => h0 h.symm), if_neg h0, if_neg h1, if_neg h2, if_neg h3]
end Go.Proofs.Ytkfmjnefbimecaa



namespace Go.Proofs.Ytkfmjnefbimecaa
open Go.RowKit
set_option linter.unusedVariables false
/-- A part of a concatenation: where it lies, and what it reads. -/
structure Part where
  b : Nat
  off : Nat
  n : Nat
  c : Nat
  xs : List Int
def Part.val (p : Part) : Value := .slice (some ⟨p.b, p.off, none⟩) p.n p.c
def catL (ps : List Part) : List Int := ps.flatMap Part.xs
theorem catL_succ {ps : List Part} {k : Nat} {p : Part} (h : ps[k]? = some p) : catL (ps.take (k + 1)) = catL (ps.take k) ++ p.xs := by
  obtain ⟨hk, rfl⟩ := List.getElem?_eq_some_iff.1 h
  unfold catL
  rw [List.take_succ_eq_append_getElem hk, List.flatMap_append]; simp
theorem catL_le {ps : List Part} (k : Nat) : (catL (ps.take k)).length ≤ (catL ps).length := by
  have : catL ps = catL (ps.take k) ++ catL (ps.drop k) := by unfold catL; rw [← List.flatMap_append, List.take_append_drop]
  rw [this, List.length_append]; omega
theorem zeros_own (w : World) (t : TypeId) (n cap : Nat) (hm : n + cap ≤ maxLen) : (w.alloc (.cells (Builtin.zeroCells (Value.int .i64 0).cells n ++ Builtin.zeroCells (Value.int .i64 0).cells cap) t)).ownsRow w.heap.size t 1 (.slice (some ⟨w.heap.size, 0, none⟩) 0 (n + cap)) 0 [] :=
  World.ownsRow_made w _ (n + cap) (Nat.le_refl _) hm (by simp [Builtin.zeroCells, Value.cells])
theorem SlV.cells0 {w : World} {B n b : Nat} {xs : List Value} (h : SlV w B (some ⟨b, 0, none⟩) n xs) : ∀ j u, xs[j]? = some u → w.cell? ⟨b, j, none⟩ = some u := by
  intro j u hu
  have hj := (List.getElem?_eq_some_iff.1 hu).1
  have hl := h.len
  obtain ⟨b', off', e, _, hc⟩ := h.2 (by omega)
  have e2 := Option.some.inj e
  injection e2 with e3 e4 _
  subst e3 e4
  have := hc j u hu
  rw [Nat.zero_add] at this; exact this
set_option maxRecDepth 100000 in
set_option maxHeartbeats 1000000 in
theorem iCloneI_any (b off n c : Nat) (xs : List Int) (w : World) (h : SlI w w.heap.size (some ⟨b, off, none⟩) n xs) (hn : n ≤ 4294967296) :
    Calls Try.prog 47 #[.slice (some ⟨b, off, none⟩) n c] w fun e w' => ∃ A' c', e = .returned (.slice A' xs.length c') ∧ RowI w' w.heap.size 2 (.slice A' xs.length c') xs ∧ Below w.heap.size w w' := by
  have hl := Lib.hid h.len
  have H := Lib.hid h; clear h
  have hR0 := RowI.made w w.heap.size 2 (Nat.le_refl _)
  have HS := Lib.hid (SlV.alloc H.out (Nat.le_refl _) (.cells #[] 2))
  have hb0 : Below w.heap.size w (w.alloc (.cells #[] 2)) := (Below.refl _ _).alloc (Nat.le_refl _) _
  have HR0 := Lib.hid hR0; have HB0 := Lib.hid hb0; clear hR0 hb0
  have hnil := fun w => Lib.run_eql_slice_nil (P := Try.prog) w 26 2 (some ⟨b, off, none⟩) n c 0 0 Try.underlying26
  go_enter Try.func47, Try.ntmps47
  go_wp2_with (first | (at_builtin; refine wpList_ints_push rfl (.tmp 5) (.tmp 6) _ rfl w.heap.size 2 Try.underlying26 infoQ _ [] rfl HR0.out b off n c w.heap.size xs rfl HS.out (by show 0 + n ≤ _; omega) HB0.out.size ?_; intro v' w' hown hbl))
  go_ret
  obtain ⟨A', c', rfl, _, _⟩ := own_form hown
  exact ⟨A', c', rfl, hown, HB0.out.trans hbl⟩
end Go.Proofs.Ytkfmjnefbimecaa



namespace Go.Proofs.Ytkfmjnefbimecaa
open Go.RowKit
set_option linter.unusedVariables false
end Go.Proofs.Ytkfmjnefbimecaa



namespace Go.Proofs.Ytkfmjnefbimecaa
open Go.RowKit
set_option linter.unusedVariables false
set_option maxHeartbeats 1000000 in
theorem markGInt64S (g n m c : Nat) (k : Int) (w : World) (h : RowN w g 2 m) (hnm : n ≤ m) (hn : n ≤ 1048576) (hk0 : 0 ≤ k) (hk1 : k ≤ 1000000000) :
    Calls Try.prog 76 #[.slice (some ⟨g, 0, none⟩) n c, .int .i64 k] w fun e w' => e = .returned (.int .i64 (k + (n : Int))) ∧ (∀ q : Nat, q < n → w'.cell? ⟨g, q, none⟩ = some ((Value.int .i64) (k + q))) ∧ But g w w' := by
  go_enter Try.func76, Try.ntmps76
  go_wp2_with fail
  go_loopg [1, 5] n (fun p z i wr => ∃ j : Nat, z = .int .i64 (k + (j : Int)) ∧ i = .int .i64 j ∧ j ≤ n ∧ n ≤ p + j ∧ Hid (RowN wr g 2 m) ∧ Hid (∀ q : Nat, q < j → wr.cell? ⟨g, q, none⟩ = some ((Value.int .i64) (k + q))) ∧ But g w wr)
  case atStart => exact ⟨0, by simp, rfl, by omega, by omega, h, fun q hq => by omega, But.refl _ _⟩
  case round =>
    obtain ⟨j, rfl, rfl, hj, hm, HR, HQ, hb⟩ := hrel
    by_cases hlt : j < n
    · have l1 : (0 : Int) ≤ (j : Int) := by omega
      obtain ⟨u, hc, hf⟩ := HR.out.cell (show j < m by omega)
      go_wp2_with fail
      go_roundg (gk - 1)
      case measure => omega
      case rel =>
        refine ⟨j + 1, by simp; omega, by go_num, by omega, by omega, HR.out.set _ _, fun q hq => ?_, hb.trans (But.set _ _ _)⟩
        rcases Nat.lt_or_ge q j with h' | h'
        · rw [World.cell?_setCell_other _ _ _ _ (fun e => by injection e with _ e2 _; omega)]
          exact HQ.out q h'
        · obtain rfl : q = j := by omega
          obtain ⟨vs, hn', hrow⟩ := HR.out
          rw [(hrow.set_ q _).cell, List.getElem?_set_self (by omega)]
    · obtain rfl : n = j := by omega
      go_wp2_with fail
      go_ret
      exact ⟨rfl, HQ.out, hb⟩
theorem markNInt64S (k : Int) (w : World) :
    Calls Try.prog 76 #[.slice none 0 0, .int .i64 k] w fun e w' => e = .returned (.int .i64 k) ∧ w = w' := by
  go_enter Try.func76, Try.ntmps76
  go_wp2_with fail
  go_loopg [1, 5] 0 (fun p z i wr => z = .int .i64 k ∧ i = .int .i64 0 ∧ wr = w)
  case atStart => exact ⟨rfl, rfl, rfl⟩
  case round =>
    obtain ⟨rfl, rfl, rfl⟩ := hrel
    go_wp2_with fail
    go_ret
    exact ⟨rfl, rfl⟩
theorem markVInt64S (lo hi : Nat) (v : Value) (n : Nat) (xs : List Value) (k : Int) (w : World) (h : OwnV w lo hi 2 1 v n xs) (hn : n ≤ 1048576) (hk0 : 0 ≤ k) (hk1 : k ≤ 1000000000) :
    Calls Try.prog 76 #[v, .int .i64 k] w fun e w' => e = .returned (.int .i64 (k + (n : Int))) ∧ Mkd (Value.int .i64) w' 1 v n k ∧ w.grownBy w' v.ownBlock := by
  rcases h.rowN with ⟨rfl, rfl⟩ | ⟨g, cap, rfl, hbg, hgh, hr, hc⟩
  · refine (markNInt64S k w).mono ?_
    rintro e w' ⟨rfl, rfl⟩
    exact ⟨ret_int (by omega), .inl ⟨rfl, rfl⟩, grown_refl _ _⟩
  · refine (markGInt64S g n cap cap k w (by simpa using hr) hc hn hk0 hk1).mono ?_
    rintro e w' ⟨rfl, hq, hbut⟩
    exact ⟨rfl, .inr ⟨g, cap, rfl, Nat.lt_of_lt_of_le hr.lt hbut.2.2.2.1, by simpa using hq⟩, hbut.grown⟩
end Go.Proofs.Ytkfmjnefbimecaa



namespace Go.Proofs.Ytkfmjnefbimecaa
open Go.RowKit
set_option linter.unusedVariables false
def McO (w : World) (lo hi : Nat) (v : Value) (S : Int) (T : Int) (L : List A4) (P : List Int) (E : List Int) : Prop :=
  ∃ v2 v3 v4, v = .agg #[.int .i64 S, .int .i64 T, v2, v3, v4] ∧ OwnV w lo hi 39 4 v2 L.length (fa L) ∧ OwnV w lo hi 2 1 v3 P.length (iv P) ∧ OwnV w lo hi 2 1 v4 E.length (iv E) ∧ (∀ k, v2.ownBlock = some k → v3.ownBlock ≠ some k) ∧ (∀ k, v2.ownBlock = some k → v4.ownBlock ≠ some k) ∧ (∀ k, v3.ownBlock = some k → v4.ownBlock ≠ some k)
section
variable {w w' : World} {lo hi B : Nat} {v : Value} {S T : Int} {L : List A4} {P : List Int} {E : List Int}
theorem McO.below (h : McO w lo hi v S T L P E) (hb : Below B w w') (hB : hi ≤ B) : McO w' lo hi v S T L P E := by
  obtain ⟨v2, v3, v4, e, h2, h3, h4, d23, d24, d34⟩ := h
  exact ⟨v2, v3, v4, e, h2.below hb hB, h3.below hb hB, h4.below hb hB, d23, d24, d34⟩
theorem McO.more {hi' : Nat} (h : McO w lo hi v S T L P E) (hB : hi ≤ hi') : McO w lo hi' v S T L P E := by
  obtain ⟨v2, v3, v4, e, h2, h3, h4, d23, d24, d34⟩ := h
  exact ⟨v2, v3, v4, e, h2.more hB, h3.more hB, h4.more hB, d23, d24, d34⟩
theorem McO.kp {lo' hi' : Nat} (h : McO w lo hi v S T L P E) (hk : Kp lo' hi' w w') (hd : hi' ≤ lo ∨ hi ≤ lo') : McO w' lo hi v S T L P E := by
  obtain ⟨v2, v3, v4, e, h2, h3, h4, d23, d24, d34⟩ := h
  exact ⟨v2, v3, v4, e, h2.kp hk hd, h3.kp hk hd, h4.kp hk hd, d23, d24, d34⟩
theorem McO.cg (h : McO w lo hi v S T L P E) : Mc w w.heap.size v S T L P E := by
  obtain ⟨v2, v3, v4, rfl, h2, h3, h4, -, -, -⟩ := h
  obtain ⟨A2, c2, rfl, g2⟩ := h2.slA
  obtain ⟨A3, c3, rfl, g3⟩ := h3.slV
  obtain ⟨A4, c4, rfl, g4⟩ := h4.slV
  exact ⟨_, _, _, _, _, _, _, _, _, rfl, g2, g3, g4⟩
end
def McW (w : World) (base : Nat) (v : Value) (S : Int) (T : Int) (L : List A4) (P : List Int) (E : List Int) : Prop := McO w base w.heap.size v S T L P E
theorem McW.keep {w w' : World} {base B : Nat} {v : Value} {S T : Int} {L : List A4} {P : List Int} {E : List Int} (h : McW w base v S T L P E) (hb : Below B w w') (hB : w.heap.size ≤ B) : McW w' base v S T L P E := (McO.below h hb hB).more hb.size
theorem McW.kp {w w' : World} {base lo hi : Nat} {v : Value} {S T : Int} {L : List A4} {P : List Int} {E : List Int} (h : McW w base v S T L P E) (hk : Kp lo hi w w') (hd : hi ≤ base) : McW w' base v S T L P E := (McO.kp h hk (.inl hd)).more hk.2.2.2.1
theorem McO.shape {w : World} {base hi : Nat} {v : Value} {S T : Int} {L : List A4} {P : List Int} {E : List Int} (h : McO w base hi v S T L P E) : ∃ A2 c2 A3 c3 A4 c4, v = .agg #[.int .i64 S, .int .i64 T, .slice A2 L.length c2, .slice A3 P.length c3, .slice A4 E.length c4] := by
  obtain ⟨v2, v3, v4, rfl, h2, h3, h4, -, -, -⟩ := h
  obtain ⟨A2, c2, rfl, _, _⟩ := h2.form
  obtain ⟨A3, c3, rfl, _, _⟩ := h3.form
  obtain ⟨A4, c4, rfl, _, _⟩ := h4.form
  exact ⟨A2, c2, A3, c3, A4, c4, rfl⟩
theorem McR.cgm {w : World} {base : Nat} {v : Value} {S T : Int} {L : List A4} {P : List Int} {E : List Int} (h : McR w base v S T L P E) (b2 : L.length ≤ 4294967296) (b3 : P.length ≤ 4294967296) (b4 : E.length ≤ 4294967296) : McO w base w.heap.size v S T L P E := by
  obtain ⟨g2, g3, g4, rfl, q0, q1, q2, h2, h3, h4⟩ := h
  refine ⟨_, _, _, rfl, ?_, ?_, ?_, ?_, ?_, ?_⟩
  · refine OwnV.of ⟨by rw [fa_length]; omega, .inr ⟨g2, L.length, (fa L).toArray, rfl, by omega, h2, Nat.le_refl _, by unfold maxLen; omega, by simp [fa_length, Nat.mul_comm], ?_⟩⟩
    rw [List.toList_toArray]; exact List.take_of_length_le (by rw [fa_length]; omega)
  · refine OwnV.of ⟨by simp [iv], .inr ⟨g3, P.length, (iv P).toArray, rfl, by omega, h3, Nat.le_refl _, by unfold maxLen; omega, by simp [iv], ?_⟩⟩
    rw [List.toList_toArray]; exact List.take_of_length_le (by simp [iv])
  · refine OwnV.of ⟨by simp [iv], .inr ⟨g4, E.length, (iv E).toArray, rfl, by omega, h4, Nat.le_refl _, by unfold maxLen; omega, by simp [iv], ?_⟩⟩
    rw [List.toList_toArray]; exact List.take_of_length_le (by simp [iv])
  · intro k hk; simp [Value.ownBlock] at hk ⊢; omega
  · intro k hk; simp [Value.ownBlock] at hk ⊢; omega
  · intro k hk; simp [Value.ownBlock] at hk ⊢; omega
end Go.Proofs.Ytkfmjnefbimecaa
