/- Several texts in one: What the laws do with what a call handed out: cells are marked, then held against the marks. Lists of structs of four numbers (arcs): reading, copying, comparing. -/
import Derived.Test.YtedbngnkkfpbeaaMga
import Derived.Test.YtedbngnkkfpbeaaTab
import Derived.Laws.IdiomStrings
import Derived.Deep.LoopGhost
import Derived.Deep.RegionHeld3
import Derived.Deep.RegionWith

namespace Go.Proofs.Ytedbngnkkfpbeaa
open Go.RowKit
set_option linter.unusedVariables false
/-- All blocks but g are as they were. -/
def But (g : Nat) (w w' : World) : Prop := w'.os = w.os ∧ w'.tape = w.tape ∧ w'.output = w.output ∧ w.heap.size ≤ w'.heap.size ∧ ∀ k, k < w.heap.size → k ≠ g → w'.heap[k]? = w.heap[k]?
theorem But.refl (g : Nat) (w : World) : But g w w := ⟨rfl, rfl, rfl, Nat.le_refl _, fun _ _ _ => rfl⟩
theorem But.trans {g : Nat} {a b c : World} (h : But g a b) (h' : But g b c) : But g a c :=
  ⟨h'.1.trans h.1, h'.2.1.trans h.2.1, h'.2.2.1.trans h.2.2.1, Nat.le_trans h.2.2.2.1 h'.2.2.2.1, fun k hk hg => (h'.2.2.2.2 k (Nat.lt_of_lt_of_le hk h.2.2.2.1) hg).trans (h.2.2.2.2 k hk hg)⟩
theorem But.of_below {g B : Nat} {a b : World} (h : Below B a b) (hB : a.heap.size ≤ B) : But g a b :=
  ⟨h.os, h.tape, h.output, h.size, fun k hk _ => h.block k (by omega)⟩
theorem But.below {g B : Nat} {a b : World} (h : But g a b) (hB : B ≤ g) (hs : B ≤ a.heap.size) : Below B a b :=
  ⟨h.1, h.2.1, h.2.2.1, h.2.2.2.1, fun k hk => h.2.2.2.2 k (by omega) (by omega)⟩
theorem But.set {g : Nat} (w : World) (o : Nat) (u : Value) : But g w (w.setCell ⟨g, o, none⟩ u) :=
  ⟨rfl, rfl, rfl, by simp [World.setCell], fun k hk hg => Below.heap_setCell w ⟨g, o, none⟩ u k hg⟩
/-- Block g is a row of n cells of the call's own. -/
def RowN (w : World) (g : Nat) (t : TypeId) (n : Nat) : Prop := ∃ vs, vs.length = n ∧ Row w g t vs
theorem RowN.cell {w : World} {g : Nat} {t : TypeId} {n k : Nat} (h : RowN w g t n) (hk : k < n) : ∃ u, w.cell? ⟨g, k, none⟩ = some u ∧ w.frozen? ⟨g, k, none⟩ = false := by
  obtain ⟨vs, hn, hr⟩ := h
  exact ⟨vs[k], by rw [hr.cell]; exact List.getElem?_eq_getElem _, hr.frozen k⟩
theorem RowN.set {w : World} {g : Nat} {t : TypeId} {n : Nat} (h : RowN w g t n) (k : Nat) (u : Value) : RowN (w.setCell ⟨g, k, none⟩ u) g t n := by
  obtain ⟨vs, hn, hr⟩ := h
  exact ⟨vs.set k u, by simpa using hn, hr.set_ k u⟩
theorem RowN.below {w w' : World} {g B : Nat} {t : TypeId} {n : Nat} (h : RowN w g t n) (hb : Below B w w') (hg : g < B) : RowN w' g t n := by
  obtain ⟨vs, hn, hr⟩ := h
  exact ⟨vs, hn, hr.below hb hg⟩
theorem RowN.lt {w : World} {g : Nat} {t : TypeId} {n : Nat} (h : RowN w g t n) : g < w.heap.size := by
  obtain ⟨vs, hn, hr⟩ := h
  exact hr.lt
/-- k, k + 1, .. *n* numbers -/
def marks (k : Int) (n : Nat) : List Int := (List.range n).map fun (j : Nat) => k + (j : Int)
theorem marks_length (k : Int) (n : Nat) : (marks k n).length = n := by simp [marks]
theorem marks_get {k : Int} {n q : Nat} (h : q < n) : (marks k n)[q]? = some (k + (q : Int)) := by simp [marks, h]
theorem iv_marks_get {k : Int} {n q : Nat} (h : q < n) : (iv (marks k n))[q]? = some (.int .i64 (k + (q : Int))) := by simp [iv, marks_get h]
set_option maxHeartbeats 400000 in
theorem markInt64S_any (g n m c : Nat) (k : Int) (w : World) (h : RowN w g 2 m) (hnm : n ≤ m) (hn : n ≤ 4294967296) (hk0 : 0 ≤ k) (hk1 : k ≤ 4294967296) :
    Calls Try.prog 22 #[.slice (some ⟨g, 0, none⟩) n c, .int .i64 k] w fun e w' => e = .returned (.int .i64 (k + n)) ∧ (∀ q : Nat, q < n → w'.cell? ⟨g, q, none⟩ = some (.int .i64 (k + q))) ∧ But g w w' := by
  go_enter Try.func22, Try.ntmps22
  go_wp2
  go_loopg [1, 5] n (fun p z i wr => ∃ j : Nat, z = .int .i64 (k + j) ∧ i = .int .i64 j ∧ j ≤ n ∧ n ≤ p + j ∧ RowN wr g 2 m ∧ (∀ q : Nat, q < j → wr.cell? ⟨g, q, none⟩ = some (.int .i64 (k + q))) ∧ But g w wr)
  case atStart => exact ⟨0, by simp, rfl, by omega, by omega, h, fun q hq => by omega, But.refl _ _⟩
  case round =>
    obtain ⟨j, rfl, rfl, hj, hm, hr, hq, hb⟩ := hrel
    have HR := Lib.hid hr; clear hr
    have HQ := Lib.hid hq; clear hq
    by_cases hlt : j < n
    · obtain ⟨u, hc, hf⟩ := HR.out.cell (show j < m by omega)
      have l1 : (0 : Int) ≤ (j : Int) := by omega
      go_wp2
      go_roundg (gk - 1)
      case measure => omega
      case rel =>
        refine ⟨j + 1, by simp; omega, by go_num, by omega, by omega, HR.out.set _ _, fun q hq => ?_, hb.trans (But.set _ _ _)⟩
        rcases Nat.lt_or_ge q j with h' | h'
        · rw [World.cell?_setCell_other _ _ _ _ (fun e => by injection e with _ e2 _; omega)]
          exact HQ.out q h'
        · obtain rfl : q = j := by omega
          obtain ⟨vs, hn', hrow⟩ := HR.out
          rw [(hrow.set_ q (.int .i64 (k + q))).cell, List.getElem?_set_self (by omega)]
    · obtain rfl : n = j := by omega
      go_wp2
      go_ret
      exact ⟨rfl, HQ.out, hb⟩
theorem markInt64S_nil (k : Int) (w : World) :
    Calls Try.prog 22 #[.slice none 0 0, .int .i64 k] w fun e w' => e = .returned (.int .i64 k) ∧ w = w' := by
  go_enter Try.func22, Try.ntmps22
  go_wp2
  go_loopg [1, 5] 0 (fun p z i wr => z = .int .i64 k ∧ i = .int .i64 0 ∧ wr = w)
  case atStart => exact ⟨rfl, rfl, rfl⟩
  case round =>
    obtain ⟨rfl, rfl, rfl⟩ := hrel
    go_wp2
    go_ret
    exact ⟨rfl, rfl⟩
set_option maxHeartbeats 400000 in
theorem heldInt64S_any (g n c : Nat) (k : Int) (w : World) (h : ∀ q : Nat, q < n → w.cell? ⟨g, q, none⟩ = some (.int .i64 (k + q))) (hn : n ≤ 4294967296) (hk0 : 0 ≤ k) (hk1 : k ≤ 4294967296) :
    Calls Try.prog 24 #[.slice (some ⟨g, 0, none⟩) n c, .int .i64 k] w fun e w' => e = .returned (.int .i64 (k + n)) ∧ w = w' := by
  have HC := Lib.hid h
  clear h
  go_enter Try.func24, Try.ntmps24
  go_wp2
  go_loopg [1, 5] n (fun m z i wr => ∃ j : Nat, z = .int .i64 (k + j) ∧ i = .int .i64 j ∧ j ≤ n ∧ n ≤ m + j ∧ wr = w)
  case atStart => exact ⟨0, by simp, rfl, by omega, by omega, rfl⟩
  case round =>
    obtain ⟨j, rfl, rfl, hj, hm, rfl⟩ := hrel
    by_cases hlt : j < n
    · have hc := HC.out j hlt
      have l1 : (0 : Int) ≤ (j : Int) := by omega
      go_wp2
      go_roundg (gk - 1)
      case measure => omega
      case rel => exact ⟨j + 1, by simp; omega, by go_num, by omega, by omega, rfl⟩
    · obtain rfl : n = j := by omega
      go_wp2
      go_ret
      exact ⟨rfl, rfl⟩
theorem heldInt64S_nil (k : Int) (w : World) :
    Calls Try.prog 24 #[.slice none 0 0, .int .i64 k] w fun e w' => e = .returned (.int .i64 k) ∧ w = w' := by
  go_enter Try.func24, Try.ntmps24
  go_wp2
  go_loopg [1, 5] 0 (fun p z i wr => z = .int .i64 k ∧ i = .int .i64 0 ∧ wr = w)
  case atStart => exact ⟨rfl, rfl, rfl⟩
  case round =>
    obtain ⟨rfl, rfl, rfl⟩ := hrel
    go_wp2
    go_ret
    exact ⟨rfl, rfl⟩
/-- Marked, held: for a row of the call's own, or nil. 'MarkedI w v k n': the n cells of v bear k, k + 1, .. -/
def MarkedI (w : World) (v : Value) (k : Int) (n : Nat) : Prop := (v = .slice none 0 0 ∧ n = 0) ∨ ∃ g c, v = .slice (some ⟨g, 0, none⟩) n c ∧ g < w.heap.size ∧ ∀ q : Nat, q < n → w.cell? ⟨g, q, none⟩ = some (.int .i64 (k + q))
theorem MarkedI.below {w w' : World} {v : Value} {k : Int} {n B : Nat} (h : MarkedI w v k n) (hb : Below B w w') (hB : w.heap.size ≤ B) : MarkedI w' v k n := by
  rcases h with h | ⟨g, c, rfl, hg, hc⟩
  · exact .inl h
  · exact .inr ⟨g, c, rfl, Nat.lt_of_lt_of_le hg hb.size, fun q hq => (hb.cell (p := ⟨g, q, none⟩) (show g < B by omega)).trans (hc q hq)⟩
theorem RowI.rowN {w : World} {base : Nat} {t : TypeId} {v : Value} {r : List Int} (h : RowI w base t v r) : (v = .slice none 0 0 ∧ r.length = 0) ∨ ∃ g cap, v = .slice (some ⟨g, 0, none⟩) r.length cap ∧ base ≤ g ∧ RowN w g t cap ∧ r.length ≤ cap := by
  rcases h.2 with h | ⟨g, cap, cur, rfl, hb, hg, hnc, hm, hs, ht⟩
  · exact .inl h
  · refine .inr ⟨g, cap, rfl, hb, ⟨cur.toList, by simpa using hs, ?_⟩, hnc⟩
    show w.heap[g]? = some (.cells cur.toList.toArray t (0, 0))
    rw [Array.toArray_toList]; exact hg
theorem markOwn (base : Nat) (v : Value) (r : List Int) (k : Int) (w : World) (h : RowI w base 2 v r) (hb : base ≤ w.heap.size) (hn : r.length ≤ 4294967296) (hk0 : 0 ≤ k) (hk1 : k ≤ 4294967296) :
    Calls Try.prog 22 #[v, .int .i64 k] w fun e w' => e = .returned (.int .i64 (k + r.length)) ∧ MarkedI w' v k r.length ∧ Below base w w' := by
  rcases h.rowN with ⟨rfl, h0⟩ | ⟨g, cap, rfl, hbg, hr, hc⟩
  · refine (markInt64S_nil k w).mono ?_
    rintro e w' ⟨rfl, rfl⟩
    exact ⟨ret_int (by omega), .inl ⟨rfl, h0⟩, Below.refl _ _⟩
  · refine (markInt64S_any g r.length cap cap k w hr hc hn hk0 hk1).mono ?_
    rintro e w' ⟨rfl, hq, hbut⟩
    exact ⟨rfl, .inr ⟨g, cap, rfl, Nat.lt_of_lt_of_le hr.lt hbut.2.2.2.1, hq⟩, hbut.below hbg hb⟩
theorem heldOwn (v : Value) (n : Nat) (k : Int) (w : World) (h : MarkedI w v k n) (hn : n ≤ 4294967296) (hk0 : 0 ≤ k) (hk1 : k ≤ 4294967296) :
    Calls Try.prog 24 #[v, .int .i64 k] w fun e w' => e = .returned (.int .i64 (k + n)) ∧ w = w' := by
  rcases h with ⟨rfl, rfl⟩ | ⟨g, c, rfl, hg, hq⟩
  · refine (heldInt64S_nil k w).mono ?_
    rintro e w' ⟨rfl, rfl⟩
    exact ⟨ret_int (by omega), rfl⟩
  · exact heldInt64S_any g n c k w hq hn hk0 hk1
end Go.Proofs.Ytedbngnkkfpbeaa


namespace Go.Proofs.Ytedbngnkkfpbeaa
open Go.RowKit
set_option linter.unusedVariables false
abbrev A4 := Int × Int × Int × Int
/-- The cells of a list of arcs. -/
def fa : List A4 → List Value
  | [] => []
  | a :: l => .int .i64 a.1 :: .int .i64 a.2.1 :: .int .i64 a.2.2.1 :: .int .i64 a.2.2.2 :: fa l
theorem fa_length (l : List A4) : (fa l).length = 4 * l.length := by
  induction l with
  | nil => rfl
  | cons a l ih => simp [fa, ih]; omega
theorem fa_append (l m : List A4) : fa (l ++ m) = fa l ++ fa m := by
  induction l with
  | nil => rfl
  | cons a l ih => simp [fa, ih]
theorem fa_get {l : List A4} {j : Nat} {a : A4} (h : l[j]? = some a) :
    (fa l)[j * 4]? = some (.int .i64 a.1) ∧ (fa l)[j * 4 + 1]? = some (.int .i64 a.2.1) ∧ (fa l)[j * 4 + 2]? = some (.int .i64 a.2.2.1) ∧ (fa l)[j * 4 + 3]? = some (.int .i64 a.2.2.2) := by
  induction l generalizing j with
  | nil => simp at h
  | cons b l ih =>
    cases j with
    | zero => simp at h; subst h; simp [fa]
    | succ j =>
      simp at h
      have := ih h
      rw [show (j + 1) * 4 = j * 4 + 1 + 1 + 1 + 1 from by omega]
      simpa [fa] using this
/-- The slice value '.slice A n c' reads, in w, as the arcs L; its cells lie in a block below B. -/
def SlA (w : World) (B : Nat) (A : Option Addr) (n : Nat) (L : List A4) : Prop :=
  L.length = n ∧ (0 < n → ∃ b off, A = some ⟨b, off, none⟩ ∧ b < B ∧ ∀ j a, L[j]? = some a → w.cell? ⟨b, off + j * 4, none⟩ = some (.int .i64 a.1) ∧ w.cell? ⟨b, off + j * 4 + 1, none⟩ = some (.int .i64 a.2.1) ∧ w.cell? ⟨b, off + j * 4 + 2, none⟩ = some (.int .i64 a.2.2.1) ∧ w.cell? ⟨b, off + j * 4 + 3, none⟩ = some (.int .i64 a.2.2.2))
section
variable {w w' : World} {B B' n : Nat} {A : Option Addr} {L : List A4}
theorem SlA.len (h : SlA w B A n L) : L.length = n := h.1
theorem SlA.nil (w : World) (B : Nat) (A : Option Addr) : SlA w B A 0 [] := ⟨rfl, fun h => absurd h (by omega)⟩
theorem SlA.keep (h : SlA w B A n L) (hk : ∀ b o, b < B → w'.cell? ⟨b, o, none⟩ = w.cell? ⟨b, o, none⟩) : SlA w' B A n L :=
  ⟨h.1, fun hn => by
    obtain ⟨b, off, e, hb, hc⟩ := h.2 hn
    refine ⟨b, off, e, hb, fun j a ha => ?_⟩
    rw [hk _ _ hb, hk _ _ hb, hk _ _ hb, hk _ _ hb]
    exact hc j a ha⟩
theorem SlA.more (h : SlA w B A n L) (hB : B ≤ B') : SlA w B' A n L :=
  ⟨h.1, fun hn => by
    obtain ⟨b, off, e, hb, hc⟩ := h.2 hn
    exact ⟨b, off, e, by omega, hc⟩⟩
theorem SlA.below (h : SlA w B A n L) (hb : Below B' w w') (hB : B ≤ B') : SlA w' B A n L :=
  h.keep fun b o hlt => hb.cell (p := ⟨b, o, none⟩) (show b < B' by omega)
theorem SlA.at_ {k : Nat} (h : SlA w B A n L) (hk : k < n) :
    ∃ b off a0 a1 a2 a3, A = some ⟨b, off, none⟩ ∧ b < B ∧ Hid (L[k]? = some (a0, a1, a2, a3)) ∧ w.cell? ⟨b, off + k * 4, none⟩ = some (.int .i64 a0) ∧ w.cell? ⟨b, off + k * 4 + 1, none⟩ = some (.int .i64 a1) ∧ w.cell? ⟨b, off + k * 4 + 2, none⟩ = some (.int .i64 a2) ∧ w.cell? ⟨b, off + k * 4 + 3, none⟩ = some (.int .i64 a3) := by
  obtain ⟨hl, h2⟩ := h
  obtain ⟨b, off, e, hb, hc⟩ := h2 (by omega)
  obtain ⟨a, ha⟩ : ∃ a, L[k]? = some a := ⟨L[k], List.getElem?_eq_getElem (by omega)⟩
  obtain ⟨c0, c1, c2, c3⟩ := hc k a ha
  exact ⟨b, off, a.1, a.2.1, a.2.2.1, a.2.2.2, e, hb, ha, c0, c1, c2, c3⟩
end
theorem Row.slA {w : World} {g : Nat} {t : TypeId} {L : List A4} (h : Row w g t (fa L)) : SlA w w.heap.size (some ⟨g, 0, none⟩) L.length L :=
  ⟨rfl, fun _ => ⟨g, 0, rfl, h.lt, fun j a ha => by
    obtain ⟨c0, c1, c2, c3⟩ := fa_get ha
    rw [Nat.zero_add, h.cell, h.cell, h.cell, h.cell]
    exact ⟨c0, c1, c2, c3⟩⟩⟩
theorem Row.newAt (w : World) (t : TypeId) (vs : List Value) {g : Nat} (hg : w.heap.size = g) : Row (w.alloc (.cells vs.toArray t)) g t vs := by subst hg; exact Row.new w t vs
def zA : A4 := (0, 0, 0, 0)
theorem fa_zero (n : Nat) : fa (List.replicate n zA) = List.replicate (n * 4) (.int .i64 0) := by
  induction n with
  | zero => rfl
  | succ n ih => rw [List.replicate_succ, show (n + 1) * 4 = n * 4 + 1 + 1 + 1 + 1 from by omega, List.replicate_succ, List.replicate_succ, List.replicate_succ, List.replicate_succ, ← ih]; rfl
theorem made4 (n : Nat) : madeCells (Value.agg #[.int .i64 0, .int .i64 0, .int .i64 0, .int .i64 0]).cells (n * 4) = (fa (List.replicate n zA)).toArray := by
  rw [fa_zero]
  apply Array.ext
  · simp [size_madeCells]
  · intro i h1 h2
    have h3 : i % 4 < 4 := Nat.mod_lt _ (by omega)
    have h4 : i % 4 = 0 ∨ i % 4 = 1 ∨ i % 4 = 2 ∨ i % 4 = 3 := by omega
    rcases h4 with h4 | h4 | h4 | h4 <;> simp [madeCells, Value.cells, h4]
theorem run_make4 {P : Program} (t e : TypeId) (ht : P.underlying t = some (.slice e)) (hinfo : (P.info? e).map (fun i => (i.zero, i.size, i.bytes)) = some (some (.agg #[.int .i64 0, .int .i64 0, .int .i64 0, .int .i64 0]), 4, 32))
    (n : Nat) (hn : n ≤ 4294967296) (w : World) :
    (Instr.makeSlice t (.int .i64 (n : Int)) (.int .i64 (n : Int))).run P w = .ok (.slice (some ⟨w.heap.size, 0, none⟩) n n) (w.alloc (.cells (fa (List.replicate n zA)).toArray e)) := by
  obtain ⟨i, hi, hzz⟩ := Option.map_eq_some_iff.1 hinfo
  simp only [Prod.mk.injEq] at hzz
  obtain ⟨hz, hs, hb⟩ := hzz
  have hr := run_make (P := P) w t e i _ ht hi hz .i64 .i64 n n (by omega) (Int.le_refl _) (by rw [hb]; omega) (by omega)
  simp only [Int.toNat_natCast, hs, made4] at hr
  exact hr
theorem fa_set {l : List A4} {j : Nat} (h : j < l.length) (a b c d : Int) :
    ((((fa l).set (j * 4) (.int .i64 a)).set (j * 4 + 1) (.int .i64 b)).set (j * 4 + 2) (.int .i64 c)).set (j * 4 + 3) (.int .i64 d) = fa (l.set j (a, b, c, d)) := by
  induction l generalizing j with
  | nil => simp at h
  | cons x l ih =>
    cases j with
    | zero => simp [fa]
    | succ j =>
      simp at h
      rw [show (j + 1) * 4 = j * 4 + 1 + 1 + 1 + 1 from by omega, show j * 4 + 1 + 1 + 1 + 1 + 1 = (j * 4 + 1) + 1 + 1 + 1 + 1 from by omega]
      simpa [fa] using ih h
/-- The first k of L, then zero arcs up to n. -/
def fillA (L : List A4) (k n : Nat) : List A4 := L.take k ++ List.replicate (n - k) zA
theorem fillA_zero (L : List A4) (n : Nat) : fillA L 0 n = List.replicate n zA := by simp [fillA]
theorem fillA_all {L : List A4} {n : Nat} (h : L.length = n) : fillA L n n = L := by simp [fillA, List.take_of_length_le (Nat.le_of_eq h)]
theorem fillA_length {L : List A4} {k n : Nat} (h : L.length = n) (hk : k ≤ n) : (fillA L k n).length = n := by simp [fillA]; omega
theorem fillA_get {L : List A4} {k n : Nat} (h : L.length = n) (hk : k < n) : (fillA L k n)[k]? = some zA := by
  unfold fillA
  rw [List.getElem?_append_right (by simp; omega), List.getElem?_replicate, List.length_take]
  simp; omega
theorem fillA_set {L : List A4} {k n : Nat} {a : A4} (h : L.length = n) (hk : k < n) (ha : L[k]? = some a) : (fillA L k n).set k a = fillA L (k + 1) n := by
  unfold fillA
  obtain ⟨hk', rfl⟩ := List.getElem?_eq_some_iff.1 ha
  have hl : (L.take k).length = k := by simp; omega
  rw [List.set_append_right _ _ (by omega), hl, Nat.sub_self, List.take_succ_eq_append_getElem hk', List.append_assoc]
  obtain ⟨m, hm⟩ : ∃ m, n - k = m + 1 := ⟨n - k - 1, by omega⟩
  rw [hm, List.replicate_succ, List.set_cons_zero, show n - (k + 1) = m from by omega]
  rfl
end Go.Proofs.Ytedbngnkkfpbeaa
