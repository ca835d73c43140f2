/- Several texts in one: What the laws do with what a call handed out: cells are marked, then held against the marks. Rows that a call handed out: equality, and what marks leave of them. Blocks of an interval alone may turn. -/
import Derived.Test.YtedbngnkkfpbeaaMga
import Derived.Test.YtedbngnkkfpbeaaTab
import Derived.Laws.IdiomStrings
import Derived.Deep.LoopGhost

namespace Go.Proofs.Ytedbngnkkfpbeaa
open Go.RowKit
set_option linter.unusedVariables false
/-- All blocks but g are as they were. -/
def But (g : Nat) (w w' : World) : Prop := w'.os = w.os ∧ w'.tape = w.tape ∧ w'.output = w.output ∧ w.heap.size ≤ w'.heap.size ∧ ∀ k, k < w.heap.size → k ≠ g → w'.heap[k]? = w.heap[k]?
theorem But.refl (g : Nat) (w : World) : But g w w := ⟨rfl, rfl, rfl, Nat.le_refl _, fun _ _ _ => rfl⟩
theorem But.trans {g : Nat} {a b c : World} (h : But g a b) (h' : But g b c) : But g a c :=
  ⟨h'.1.trans h.1, h'.2.1.trans h.2.1, h'.2.2.1.trans h.2.2.1, Nat.le_trans h.2.2.2.1 h'.2.2.2.1, fun k hk hg => (h'.2.2.2.2 k (Nat.lt_of_lt_of_le hk h.2.2.2.1) hg).trans (h.2.2.2.2 k hk hg)⟩
theorem But.of_below {g B : Nat} {a b : World} (h : Below B a b) (hB : a.heap.size ≤ B) : But g a b :=
  ⟨h.os, h.tape, h.output, h.size, fun k hk _ => h.block k (by omega)⟩
theorem But.below {g B : Nat} {a b : World} (h : But g a b) (hB : B ≤ g) (hs : B ≤ a.heap.size) : Below B a b :=
  ⟨h.1, h.2.1, h.2.2.1, h.2.2.2.1, fun k hk => h.2.2.2.2 k (by omega) (by omega)⟩
theorem But.set {g : Nat} (w : World) (o : Nat) (u : Value) : But g w (w.setCell ⟨g, o, none⟩ u) :=
  ⟨rfl, rfl, rfl, by simp [World.setCell], fun k hk hg => Below.heap_setCell w ⟨g, o, none⟩ u k hg⟩
/-- Block g is a row of n cells of the call's own. -/
def RowN (w : World) (g : Nat) (t : TypeId) (n : Nat) : Prop := ∃ vs, vs.length = n ∧ Row w g t vs
theorem RowN.cell {w : World} {g : Nat} {t : TypeId} {n k : Nat} (h : RowN w g t n) (hk : k < n) : ∃ u, w.cell? ⟨g, k, none⟩ = some u ∧ w.frozen? ⟨g, k, none⟩ = false := by
  obtain ⟨vs, hn, hr⟩ := h
  exact ⟨vs[k], by rw [hr.cell]; exact List.getElem?_eq_getElem _, hr.frozen k⟩
theorem RowN.set {w : World} {g : Nat} {t : TypeId} {n : Nat} (h : RowN w g t n) (k : Nat) (u : Value) : RowN (w.setCell ⟨g, k, none⟩ u) g t n := by
  obtain ⟨vs, hn, hr⟩ := h
  exact ⟨vs.set k u, by simpa using hn, hr.set_ k u⟩
theorem RowN.below {w w' : World} {g B : Nat} {t : TypeId} {n : Nat} (h : RowN w g t n) (hb : Below B w w') (hg : g < B) : RowN w' g t n := by
  obtain ⟨vs, hn, hr⟩ := h
  exact ⟨vs, hn, hr.below hb hg⟩
theorem RowN.lt {w : World} {g : Nat} {t : TypeId} {n : Nat} (h : RowN w g t n) : g < w.heap.size := by
  obtain ⟨vs, hn, hr⟩ := h
  exact hr.lt
/-- k, k + 1, .. *n* numbers -/
def marks (k : Int) (n : Nat) : List Int := (List.range n).map fun (j : Nat) => k + (j : Int)
theorem marks_length (k : Int) (n : Nat) : (marks k n).length = n := by simp [marks]
theorem marks_get {k : Int} {n q : Nat} (h : q < n) : (marks k n)[q]? = some (k + (q : Int)) := by simp [marks, h]
theorem iv_marks_get {k : Int} {n q : Nat} (h : q < n) : (iv (marks k n))[q]? = some (.int .i64 (k + (q : Int))) := by simp [iv, marks_get h]
set_option maxHeartbeats 400000 in
theorem markInt64S_any (g n m c : Nat) (k : Int) (w : World) (h : RowN w g 2 m) (hnm : n ≤ m) (hn : n ≤ 4294967296) (hk0 : 0 ≤ k) (hk1 : k ≤ 4294967296) :
    Calls Try.prog 22 #[.slice (some ⟨g, 0, none⟩) n c, .int .i64 k] w fun e w' => e = .returned (.int .i64 (k + n)) ∧ (∀ q : Nat, q < n → w'.cell? ⟨g, q, none⟩ = some (.int .i64 (k + q))) ∧ But g w w' := by
  go_enter Try.func22, Try.ntmps22
  go_wp2
  go_loopg [1, 5] n (fun p z i wr => ∃ j : Nat, z = .int .i64 (k + j) ∧ i = .int .i64 j ∧ j ≤ n ∧ n ≤ p + j ∧ RowN wr g 2 m ∧ (∀ q : Nat, q < j → wr.cell? ⟨g, q, none⟩ = some (.int .i64 (k + q))) ∧ But g w wr)
  case atStart => exact ⟨0, by simp, rfl, by omega, by omega, h, fun q hq => by omega, But.refl _ _⟩
  case round =>
    obtain ⟨j, rfl, rfl, hj, hm, hr, hq, hb⟩ := hrel
    have HR := Lib.hid hr; clear hr
    have HQ := Lib.hid hq; clear hq
    by_cases hlt : j < n
    · obtain ⟨u, hc, hf⟩ := HR.out.cell (show j < m by omega)
      have l1 : (0 : Int) ≤ (j : Int) := by omega
      go_wp2
      go_roundg (gk - 1)
      case measure => omega
      case rel =>
        refine ⟨j + 1, by simp; omega, by go_num, by omega, by omega, HR.out.set _ _, fun q hq => ?_, hb.trans (But.set _ _ _)⟩
        rcases Nat.lt_or_ge q j with h' | h'
        · rw [World.cell?_setCell_other _ _ _ _ (fun e => by injection e with _ e2 _; omega)]
          exact HQ.out q h'
        · obtain rfl : q = j := by omega
          obtain ⟨vs, hn', hrow⟩ := HR.out
          rw [(hrow.set_ q (.int .i64 (k + q))).cell, List.getElem?_set_self (by omega)]
    · obtain rfl : n = j := by omega
      go_wp2
      go_ret
      exact ⟨rfl, HQ.out, hb⟩
theorem markInt64S_nil (k : Int) (w : World) :
    Calls Try.prog 22 #[.slice none 0 0, .int .i64 k] w fun e w' => e = .returned (.int .i64 k) ∧ w = w' := by
  go_enter Try.func22, Try.ntmps22
  go_wp2
  go_loopg [1, 5] 0 (fun p z i wr => z = .int .i64 k ∧ i = .int .i64 0 ∧ wr = w)
  case atStart => exact ⟨rfl, rfl, rfl⟩
  case round =>
    obtain ⟨rfl, rfl, rfl⟩ := hrel
    go_wp2
    go_ret
    exact ⟨rfl, rfl⟩
set_option maxHeartbeats 400000 in
theorem heldInt64S_any (g n c : Nat) (k : Int) (w : World) (h : ∀ q : Nat, q < n → w.cell? ⟨g, q, none⟩ = some (.int .i64 (k + q))) (hn : n ≤ 4294967296) (hk0 : 0 ≤ k) (hk1 : k ≤ 4294967296) :
    Calls Try.prog 24 #[.slice (some ⟨g, 0, none⟩) n c, .int .i64 k] w fun e w' => e = .returned (.int .i64 (k + n)) ∧ w = w' := by
  have HC := Lib.hid h
  clear h
  go_enter Try.func24, Try.ntmps24
  go_wp2
  go_loopg [1, 5] n (fun m z i wr => ∃ j : Nat, z = .int .i64 (k + j) ∧ i = .int .i64 j ∧ j ≤ n ∧ n ≤ m + j ∧ wr = w)
  case atStart => exact ⟨0, by simp, rfl, by omega, by omega, rfl⟩
  case round =>
    obtain ⟨j, rfl, rfl, hj, hm, rfl⟩ := hrel
    by_cases hlt : j < n
    · have hc := HC.out j hlt
      have l1 : (0 : Int) ≤ (j : Int) := by omega
      go_wp2
      go_roundg (gk - 1)
      case measure => omega
      case rel => exact ⟨j + 1, by simp; omega, by go_num, by omega, by omega, rfl⟩
    · obtain rfl : n = j := by omega
      go_wp2
      go_ret
      exact ⟨rfl, rfl⟩
theorem heldInt64S_nil (k : Int) (w : World) :
    Calls Try.prog 24 #[.slice none 0 0, .int .i64 k] w fun e w' => e = .returned (.int .i64 k) ∧ w = w' := by
  go_enter Try.func24, Try.ntmps24
  go_wp2
  go_loopg [1, 5] 0 (fun p z i wr => z = .int .i64 k ∧ i = .int .i64 0 ∧ wr = w)
  case atStart => exact ⟨rfl, rfl, rfl⟩
  case round =>
    obtain ⟨rfl, rfl, rfl⟩ := hrel
    go_wp2
    go_ret
    exact ⟨rfl, rfl⟩
/-- Marked, held: for a row of the call's own, or nil. 'MarkedI w v k n': the n cells of v bear k, k + 1, .. -/
def MarkedI (w : World) (v : Value) (k : Int) (n : Nat) : Prop := (v = .slice none 0 0 ∧ n = 0) ∨ ∃ g c, v = .slice (some ⟨g, 0, none⟩) n c ∧ g < w.heap.size ∧ ∀ q : Nat, q < n → w.cell? ⟨g, q, none⟩ = some (.int .i64 (k + q))
theorem MarkedI.below {w w' : World} {v : Value} {k : Int} {n B : Nat} (h : MarkedI w v k n) (hb : Below B w w') (hB : w.heap.size ≤ B) : MarkedI w' v k n := by
  rcases h with h | ⟨g, c, rfl, hg, hc⟩
  · exact .inl h
  · exact .inr ⟨g, c, rfl, Nat.lt_of_lt_of_le hg hb.size, fun q hq => (hb.cell (p := ⟨g, q, none⟩) (show g < B by omega)).trans (hc q hq)⟩
theorem RowI.rowN {w : World} {base : Nat} {t : TypeId} {v : Value} {r : List Int} (h : RowI w base t v r) : (v = .slice none 0 0 ∧ r.length = 0) ∨ ∃ g cap, v = .slice (some ⟨g, 0, none⟩) r.length cap ∧ base ≤ g ∧ RowN w g t cap ∧ r.length ≤ cap := by
  rcases h.2 with h | ⟨g, cap, cur, rfl, hb, hg, hnc, hm, hs, ht⟩
  · exact .inl h
  · refine .inr ⟨g, cap, rfl, hb, ⟨cur.toList, by simpa using hs, ?_⟩, hnc⟩
    show w.heap[g]? = some (.cells cur.toList.toArray t (0, 0))
    rw [Array.toArray_toList]; exact hg
theorem markOwn (base : Nat) (v : Value) (r : List Int) (k : Int) (w : World) (h : RowI w base 2 v r) (hb : base ≤ w.heap.size) (hn : r.length ≤ 4294967296) (hk0 : 0 ≤ k) (hk1 : k ≤ 4294967296) :
    Calls Try.prog 22 #[v, .int .i64 k] w fun e w' => e = .returned (.int .i64 (k + r.length)) ∧ MarkedI w' v k r.length ∧ Below base w w' := by
  rcases h.rowN with ⟨rfl, h0⟩ | ⟨g, cap, rfl, hbg, hr, hc⟩
  · refine (markInt64S_nil k w).mono ?_
    rintro e w' ⟨rfl, rfl⟩
    exact ⟨ret_int (by omega), .inl ⟨rfl, h0⟩, Below.refl _ _⟩
  · refine (markInt64S_any g r.length cap cap k w hr hc hn hk0 hk1).mono ?_
    rintro e w' ⟨rfl, hq, hbut⟩
    exact ⟨rfl, .inr ⟨g, cap, rfl, Nat.lt_of_lt_of_le hr.lt hbut.2.2.2.1, hq⟩, hbut.below hbg hb⟩
theorem heldOwn (v : Value) (n : Nat) (k : Int) (w : World) (h : MarkedI w v k n) (hn : n ≤ 4294967296) (hk0 : 0 ≤ k) (hk1 : k ≤ 4294967296) :
    Calls Try.prog 24 #[v, .int .i64 k] w fun e w' => e = .returned (.int .i64 (k + n)) ∧ w = w' := by
  rcases h with ⟨rfl, rfl⟩ | ⟨g, c, rfl, hg, hq⟩
  · refine (heldInt64S_nil k w).mono ?_
    rintro e w' ⟨rfl, rfl⟩
    exact ⟨ret_int (by omega), rfl⟩
  · exact heldInt64S_any g n c k w hq hn hk0 hk1
end Go.Proofs.Ytedbngnkkfpbeaa


namespace Go.Proofs.Ytedbngnkkfpbeaa
open Go.RowKit
set_option linter.unusedVariables false
theorem RowI.nil (w : World) (base : Nat) (t : TypeId) : RowI w base t (.slice none 0 0) [] := ⟨by simp [iv], .inl ⟨rfl, rfl⟩⟩
theorem RowI.but {w w' : World} {base g : Nat} {t : TypeId} {v : Value} {r : List Int} (h : RowI w base t v r) (hb : But g w w') (hg : g < base) : RowI w' base t v r := by
  refine World.ownsRow.kept (row := some g) h ⟨hb.1, hb.2.1, hb.2.2.1, hb.2.2.2.1, fun k hk hne => hb.2.2.2.2 k hk (fun e => hne (by rw [e]))⟩ ?_
  cases hv : v.ownBlock with
  | none => simp
  | some k =>
    have := (World.ownsRow.lt h k hv).1
    simp; omega
theorem eqOwn (v v' : Value) (r : List Int) (b b' : Nat) (w : World) (h : RowI w b 2 v r) (h' : RowI w b' 2 v' r) (hn : r.length ≤ 4294967296) :
    Calls Try.prog 18 #[v, v'] w fun e w' => e = .returned (.bool true) ∧ Below w.heap.size w w' := by
  obtain ⟨A, c, rfl, _, _⟩ := own_form h
  obtain ⟨A', c', rfl, _, _⟩ := own_form h'
  refine (eqInt64S_any A r.length c r A' r.length c' r w w.heap.size w.heap.size (h.sl rfl) (h'.sl rfl) hn hn).mono ?_
  rintro e w' ⟨rfl, hb⟩
  exact ⟨ret_bool (decide_eq_true rfl), hb⟩
theorem But.below' {g B : Nat} {a b : World} (h : But g a b) (hB : B ≤ g) (hs : g < a.heap.size) : Below B a b := h.below hB (by omega)
end Go.Proofs.Ytedbngnkkfpbeaa


namespace Go.Proofs.Ytedbngnkkfpbeaa
open Go.RowKit
set_option linter.unusedVariables false
/-- Blocks from lo to hi alone may have turned; new ones may stand behind. -/
def Kp (lo hi : Nat) (w w' : World) : Prop := w'.os = w.os ∧ w'.tape = w.tape ∧ w'.output = w.output ∧ w.heap.size ≤ w'.heap.size ∧ ∀ k, k < w.heap.size → (k < lo ∨ hi ≤ k) → w'.heap[k]? = w.heap[k]?
theorem But.kp {lo hi g : Nat} {w w' : World} (h : But g w w') (h1 : lo ≤ g) (h2 : g < hi) : Kp lo hi w w' := ⟨h.1, h.2.1, h.2.2.1, h.2.2.2.1, fun k hk hn => h.2.2.2.2 k hk (by omega)⟩
theorem Kp.trans {lo hi : Nat} {a b c : World} (h : Kp lo hi a b) (h' : Kp lo hi b c) : Kp lo hi a c :=
  ⟨h'.1.trans h.1, h'.2.1.trans h.2.1, h'.2.2.1.trans h.2.2.1, Nat.le_trans h.2.2.2.1 h'.2.2.2.1, fun k hk hn => (h'.2.2.2.2 k (Nat.lt_of_lt_of_le hk h.2.2.2.1) hn).trans (h.2.2.2.2 k hk hn)⟩
theorem Kp.refl (lo hi : Nat) (w : World) : Kp lo hi w w := ⟨rfl, rfl, rfl, Nat.le_refl _, fun _ _ _ => rfl⟩
theorem Kp.below {lo hi : Nat} {w w' : World} (h : Kp lo hi w w') (hs : lo ≤ w.heap.size) : Below lo w w' :=
  ⟨h.1, h.2.1, h.2.2.1, h.2.2.2.1, fun k hk => h.2.2.2.2 k (by omega) (.inl hk)⟩
theorem RowN.kp {w w' : World} {lo hi g n : Nat} {t : TypeId} (h : RowN w g t n) (hk : Kp lo hi w w') (hg : g < lo ∨ hi ≤ g) : RowN w' g t n := by
  obtain ⟨vs, hl, hr⟩ := h
  exact ⟨vs, hl, (hk.2.2.2.2 g hr.lt hg).trans hr⟩
theorem RowI.kp {w w' : World} {base lo hi : Nat} {t : TypeId} {v : Value} {r : List Int} (h : RowI w base t v r) (hb : Kp lo hi w w') (hg : hi ≤ base) : RowI w' base t v r := by
  obtain ⟨h1, h2⟩ := h
  refine ⟨h1, ?_⟩
  rcases h2 with h2 | ⟨g', cap, cur, e, hb', hg', rest⟩
  · exact .inl h2
  · exact .inr ⟨g', cap, cur, e, hb', (hb.2.2.2.2 g' (Array.getElem?_eq_some_iff.1 hg').1 (.inr (by omega))).trans hg', rest⟩
end Go.Proofs.Ytedbngnkkfpbeaa
