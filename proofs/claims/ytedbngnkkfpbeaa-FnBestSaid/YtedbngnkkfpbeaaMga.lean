/- Several texts in one: Words for memory, over any program: a slice that reads as a list ('SlV', 'SlI'), a block known whole ('Row'), rows of the call's own. Small contracts: texts and ranges: what the predicates of the words return. Copies and equality of lists of numbers, as the laws make them. -/
import Derived.WalkKit
import Derived.WalkSpells
import Derived.WalkLawsBesides
import Derived.Lib.Hide
import Derived.Handy
import Derived.PlainAid
import Derived.Maps.AppendAt
import Derived.Deep.AppendLies
import Derived.Deep.OwnRows
import Derived.Deep.Draws
import Derived.Test.YtedbngnkkfpbeaaRows
import Derived.Deep.QuietTactic
import Derived.BigQuiet

namespace Go.Proofs.Ytedbngnkkfpbeaa
open Go.RowKit
set_option linter.unusedVariables false

theorem ret_bool {a b : Bool} (h : a = b) : Ending.returned (.bool a) = Ending.returned (.bool b) := by rw [h]
theorem ret_int {k : IntKind} {a b : Int} (h : a = b) : Ending.returned (.int k a) = Ending.returned (.int k b) := by rw [h]
theorem ret_str {a b : ByteArray} (h : a = b) : Ending.returned (.string a) = Ending.returned (.string b) := by rw [h]

theorem str_inj {a b : ByteArray} (h : a.toList = b.toList) : a = b := by
  rw [ByteArray.toList_eq, ByteArray.toList_eq] at h
  exact ByteArray.ext (Array.toList_inj.1 h)
theorem str_eq {a b : ByteArray} (h : a = b) : (a.toList == b.toList) = true := by rw [h]; simp
theorem str_ne {a b : ByteArray} (h : a ≠ b) : (a.toList == b.toList) = false := by
  rw [beq_eq_false_iff_ne]; exact fun e => h (str_inj e)

/-- The slice value '.slice A n c' reads, in w, as the one-cell values xs; its cells lie in blocks below B. -/
def SlV (w : World) (B : Nat) (A : Option Addr) (n : Nat) (xs : List Value) : Prop :=
  xs.length = n ∧ (0 < n → ∃ b off, A = some ⟨b, off, none⟩ ∧ b < B ∧ ∀ j u, xs[j]? = some u → w.cell? ⟨b, off + j, none⟩ = some u)
def iv (xs : List Int) : List Value := xs.map (.int .i64)
def SlI (w : World) (B : Nat) (A : Option Addr) (n : Nat) (xs : List Int) : Prop := SlV w B A n (iv xs)
theorem iv_length (xs : List Int) : (iv xs).length = xs.length := by simp [iv]
theorem iv_get {xs : List Int} {k : Nat} {u : Value} (h : (iv xs)[k]? = some u) : ∃ x, xs[k]? = some x ∧ u = .int .i64 x := by
  simp only [iv, List.getElem?_map, Option.map_eq_some_iff] at h
  obtain ⟨x, hx, rfl⟩ := h
  exact ⟨x, hx, rfl⟩
theorem iv_append (xs ys : List Int) : iv (xs ++ ys) = iv xs ++ iv ys := by simp [iv]
theorem iv_one (xs : List Int) : ∀ u ∈ iv xs, u.oneCell' = true := by
  intro u hu
  simp only [iv, List.mem_map] at hu
  obtain ⟨x, _, rfl⟩ := hu
  rfl

section
variable {w w' : World} {B B' n : Nat} {A : Option Addr} {xs : List Value}
theorem SlV.len (h : SlV w B A n xs) : xs.length = n := h.1
theorem SlV.nil (w : World) (B : Nat) (A : Option Addr) : SlV w B A 0 [] := ⟨rfl, fun h => absurd h (by omega)⟩
theorem SlV.at_ {k : Nat} (h : SlV w B A n xs) (hk : k < n) :
    ∃ b off u, A = some ⟨b, off, none⟩ ∧ b < B ∧ xs[k]? = some u ∧ w.cell? ⟨b, off + k, none⟩ = some u := by
  obtain ⟨hl, h2⟩ := h
  obtain ⟨b, off, e, hb, hc⟩ := h2 (by omega)
  exact ⟨b, off, xs[k], e, hb, List.getElem?_eq_getElem (by omega), hc k _ (List.getElem?_eq_getElem (by omega))⟩
theorem SlV.keep (h : SlV w B A n xs) (hk : ∀ b o, b < B → w'.cell? ⟨b, o, none⟩ = w.cell? ⟨b, o, none⟩) : SlV w' B A n xs :=
  ⟨h.1, fun hn => by
    obtain ⟨b, off, e, hb, hc⟩ := h.2 hn
    exact ⟨b, off, e, hb, fun j u hu => (hk _ _ hb).trans (hc j u hu)⟩⟩
theorem SlV.more (h : SlV w B A n xs) (hB : B ≤ B') : SlV w B' A n xs :=
  ⟨h.1, fun hn => by
    obtain ⟨b, off, e, hb, hc⟩ := h.2 hn
    exact ⟨b, off, e, by omega, hc⟩⟩
theorem SlV.below (h : SlV w B A n xs) (hb : Below B' w w') (hB : B ≤ B') : SlV w' B A n xs :=
  h.keep fun b o hlt => hb.cell (p := ⟨b, o, none⟩) (show b < B' by omega)
theorem SlV.drew (h : SlV w B A n xs) : SlV w.drew B A n xs := h
theorem SlV.drewN (h : SlV w B A n xs) (k : Nat) : SlV (w.drewN k) B A n xs := h
theorem SlV.alloc (h : SlV w B A n xs) (hB : B ≤ w.heap.size) (o : Obj) : SlV (w.alloc o) B A n xs :=
  h.keep fun b off hlt => World.cell?_alloc_lt w o ⟨b, off, none⟩ (show b < w.heap.size by omega)
theorem SlV.setCell (h : SlV w B A n xs) {p : Addr} (hB : B ≤ p.block) (u : Value) : SlV (w.setCell p u) B A n xs :=
  h.keep fun b off hlt => World.cell?_setCell_other w p ⟨b, off, none⟩ u (fun e => by subst e; simp at hB; omega)
theorem SlV.take (h : SlV w B A n xs) {m : Nat} (hm : m ≤ n) : SlV w B A m (xs.take m) := by
  refine ⟨by rw [List.length_take, h.1]; omega, fun h0 => ?_⟩
  obtain ⟨b, off, e, hb, hc⟩ := h.2 (by omega)
  refine ⟨b, off, e, hb, fun j u hu => hc j u ?_⟩
  rw [List.getElem?_take] at hu
  split at hu
  · exact hu
  · cases hu
theorem SlI.len {xs : List Int} (h : SlI w B A n xs) : xs.length = n := by have := SlV.len h; simpa [iv] using this
theorem SlI.at_ {xs : List Int} {k : Nat} (h : SlI w B A n xs) (hk : k < n) :
    ∃ b off x, A = some ⟨b, off, none⟩ ∧ b < B ∧ Hid (xs[k]? = some x) ∧ w.cell? ⟨b, off + k, none⟩ = some (.int .i64 x) := by
  obtain ⟨b, off, u, e, hb, hu, hc⟩ := SlV.at_ h hk
  obtain ⟨x, hx, rfl⟩ := iv_get hu
  exact ⟨b, off, x, e, hb, hx, hc⟩
theorem SlI.below {xs : List Int} (h : SlI w B A n xs) (hb : Below B' w w') (hB : B ≤ B') : SlI w' B A n xs := SlV.below h hb hB
theorem SlI.more {xs : List Int} (h : SlI w B A n xs) (hB : B ≤ B') : SlI w B' A n xs := SlV.more h hB
theorem SlI.alloc {xs : List Int} (h : SlI w B A n xs) (hB : B ≤ w.heap.size) (o : Obj) : SlI (w.alloc o) B A n xs := SlV.alloc h hB o
theorem SlI.setCell {xs : List Int} (h : SlI w B A n xs) {p : Addr} (hB : B ≤ p.block) (u : Value) : SlI (w.setCell p u) B A n xs := SlV.setCell h hB u
end

/-- What came in as a row of integers (the frame's word). -/
def IsRow (k : IntKind) (w : World) (a : Option Addr) (len cap : Nat) (zs : List Int) : Prop :=
  (a = none ∧ len = 0 ∧ cap = 0 ∧ zs = []) ∨
  ∃ x, a = some x ∧ len ≤ cap ∧ cap ≤ maxLen ∧ zs.length = cap ∧ (∀ i, i < zs.length → w.cell? (x.add i) = some (.int k (zs.getD i 0))) ∧ ∀ n ∈ zs, (Lit.int k n).wf = true
theorem IsRow.sl {w : World} {a : Option Addr} {len cap : Nat} {zs : List Int} (h : IsRow .i64 w a len cap zs) : SlI w w.heap.size a len (zs.take len) := by
  rcases h with ⟨rfl, rfl, rfl, rfl⟩ | ⟨x, rfl, hl, hm, hz, hc, hw⟩
  · exact SlV.nil _ _ _
  · refine ⟨by simp [iv]; omega, fun h0 => ?_⟩
    obtain ⟨b, off, spot⟩ := x
    have h00 := hc 0 (by omega)
    have hspot : spot = none := by simpa [Addr.add] using World.cell?_spot h00
    subst hspot
    refine ⟨b, off, rfl, World.block_lt_of_cell? _ _ (by simpa [Addr.add] using h00), fun j u hu => ?_⟩
    obtain ⟨y, hy, rfl⟩ := iv_get hu
    rw [List.getElem?_take] at hy
    split at hy
    · have hj : j < zs.length := by omega
      have := hc j hj
      rw [List.getD_eq_getElem?_getD, hy] at this
      have e : (⟨b, off, none⟩ : Addr).add j = ⟨b, off + j, none⟩ := by
        unfold Addr.add; by_cases h : j = 0 <;> simp [h]
      rw [e] at this
      simpa using this
    · cases hy
theorem IsRow.lens {k : IntKind} {w : World} {a : Option Addr} {len cap : Nat} {zs : List Int} (h : IsRow k w a len cap zs) : len ≤ cap ∧ cap ≤ maxLen ∧ zs.length = cap := by
  rcases h with ⟨rfl, rfl, rfl, rfl⟩ | ⟨x, rfl, hl, hm, hz, hc, hw⟩
  · simp
  · exact ⟨hl, hm, hz⟩

/-- Block g is just the cells vs of element type t, none frozen. -/
def Row (w : World) (g : Nat) (t : TypeId) (vs : List Value) : Prop := w.heap[g]? = some (.cells vs.toArray t (0, 0))
section
variable {w w' : World} {g B : Nat} {t : TypeId} {vs : List Value}
theorem Row.lt (h : Row w g t vs) : g < w.heap.size := by
  rcases Nat.lt_or_ge g w.heap.size with hlt | hge
  · exact hlt
  · unfold Row at h; rw [Array.getElem?_eq_none hge] at h; cases h
theorem Row.cell (h : Row w g t vs) (i : Nat) : w.cell? ⟨g, i, none⟩ = vs[i]? := by
  rw [cell_of_row w g i vs.toArray t (0, 0) h]; simp
theorem Row.frozen (h : Row w g t vs) (i : Nat) : w.frozen? ⟨g, i, none⟩ = false := by
  unfold Row at h; simp [World.frozen?, h]
theorem Row.new (w : World) (t : TypeId) (vs : List Value) : Row (w.alloc (.cells vs.toArray t)) w.heap.size t vs := heap_alloc_new w _
theorem Row.drew (h : Row w g t vs) : Row w.drew g t vs := h
theorem Row.drewN (h : Row w g t vs) (n : Nat) : Row (w.drewN n) g t vs := h
theorem Row.alloc (h : Row w g t vs) (o : Obj) : Row (w.alloc o) g t vs := (Below.heap_alloc w o g h.lt).trans h
theorem Row.set_ (h : Row w g t vs) (i : Nat) (u : Value) : Row (w.setCell ⟨g, i, none⟩ u) g t (vs.set i u) := by
  unfold Row at h ⊢
  simp [World.setCell, Array.getElem?_modify, h]
theorem Row.far (h : Row w g t vs) {p : Addr} (hp : g ≠ p.block) (u : Value) : Row (w.setCell p u) g t vs := (Below.heap_setCell w p u g hp).trans h
theorem Row.below (h : Row w g t vs) (hb : Below B w w') (hg : g < B) : Row w' g t vs := (hb.block g hg).trans h
theorem Row.grown {row : Option Nat} (h : Row w g t vs) (hb : w.grownBy w' row) (hg : some g ≠ row) : Row w' g t vs := (hb.block g h.lt hg).trans h
theorem Row.sl (h : Row w g t vs) : SlV w w.heap.size (some ⟨g, 0, none⟩) vs.length vs :=
  ⟨rfl, fun _ => ⟨g, 0, rfl, h.lt, fun j u hu => by rw [Nat.zero_add, h.cell]; exact hu⟩⟩
theorem Row.own {base cap : Nat} (h : Row w g t vs) (hb : base ≤ g) (hm : vs.length ≤ maxLen) : w.ownsRow base t 1 (.slice (some ⟨g, 0, none⟩) vs.length vs.length) vs.length vs :=
  ⟨by simp, .inr ⟨g, vs.length, vs.toArray, rfl, hb, h, Nat.le_refl _, hm, by simp, by simp⟩⟩
theorem Row.made (w : World) (z : Value) (n : Nat) (t : TypeId) : Row (w.alloc (.cells (madeCells #[z] n) t)) w.heap.size t (List.replicate n z) := by
  have h : (madeCells #[z] n) = (List.replicate n z).toArray := by
    apply Array.ext
    · simp [size_madeCells]
    · intro i h1 h2
      simp [madeCells, Nat.mod_one]
  rw [h]
  exact Row.new _ _ _
end

/-- A row that is being filled: vs, and z up to n. -/
def fill (vs : List Value) (n : Nat) (z : Value) : List Value := vs ++ List.replicate (n - vs.length) z
theorem fill_nil (n : Nat) (z : Value) : fill [] n z = List.replicate n z := by simp [fill]
theorem fill_length {vs : List Value} {n : Nat} {z : Value} (h : vs.length ≤ n) : (fill vs n z).length = n := by simp [fill]; omega
theorem fill_at {vs : List Value} {n k : Nat} {z : Value} (hk : vs.length = k) (h : k < n) : (fill vs n z)[k]? = some z := by
  subst hk
  simp only [fill]
  rw [List.getElem?_append_right (Nat.le_refl _), Nat.sub_self, List.getElem?_replicate]
  simp; omega
theorem fill_old {vs : List Value} {n k : Nat} {z : Value} (h : k < vs.length) : (fill vs n z)[k]? = vs[k]? := by
  simp only [fill]; rw [List.getElem?_append_left h]
theorem fill_set {vs : List Value} {n k : Nat} {z u : Value} (hk : vs.length = k) (h : k < n) : (fill vs n z).set k u = fill (vs ++ [u]) n z := by
  subst hk
  simp only [fill]
  rw [List.set_append_right _ _ (Nat.le_refl _), Nat.sub_self, List.length_append, List.append_assoc]
  obtain ⟨m, hm⟩ : ∃ m, n - vs.length = m + 1 := ⟨n - vs.length - 1, by omega⟩
  rw [hm, List.replicate_succ, List.set_cons_zero, show n - (vs.length + [u].length) = m from by simp; omega]
  rfl
theorem fill_full {vs : List Value} {n : Nat} {z : Value} (h : vs.length = n) : fill vs n z = vs := by simp [fill, h]
theorem iv_take {xs : List Int} {k : Nat} {x : Int} (hx : xs[k]? = some x) : iv (xs.take (k + 1)) = iv (xs.take k) ++ [.int .i64 x] := by
  obtain ⟨hk, rfl⟩ := List.getElem?_eq_some_iff.1 hx
  rw [List.take_succ_eq_append_getElem hk, iv_append]; rfl
theorem below_draws {B : Nat} {a w : World} (h : Below B a w) (n : Nat) : Below B a (w.drewN n) := ⟨h.os, h.tape, h.output, h.size, h.block⟩
theorem take_all {α : Type} {xs : List α} {n : Nat} (h : xs.length = n) : xs.take n = xs := List.take_of_length_le (by omega)
theorem take_eq_succ {α : Type} {xs ys : List α} {k : Nat} {x : α} (h : xs.take k = ys.take k) (hx : xs[k]? = some x) (hy : ys[k]? = some x) : xs.take (k + 1) = ys.take (k + 1) := by
  obtain ⟨h1, rfl⟩ := List.getElem?_eq_some_iff.1 hx
  obtain ⟨h2, e⟩ := List.getElem?_eq_some_iff.1 hy
  rw [List.take_succ_eq_append_getElem h1, List.take_succ_eq_append_getElem h2, h, e]

/-- A row of the call's own reads as its list. -/
theorem own_sl {w : World} {base c n : Nat} {e : TypeId} {A : Option Addr} {xs : List Value} (h : w.ownsRow base e 1 (.slice A n c) n xs) : SlV w w.heap.size A n xs := by
  obtain ⟨hl, h2⟩ := h
  refine ⟨by omega, fun h0 => ?_⟩
  rcases h2 with ⟨hv, hn⟩ | ⟨g, cap, cur, hv, hb, hg, hnc, hm, hs, ht⟩
  · omega
  · injection hv with hA hn hc
    refine ⟨g, 0, hA, (Array.getElem?_eq_some_iff.1 hg).1, fun j u hu => ?_⟩
    rw [Nat.zero_add, cell_of_row w g j cur e (0, 0) hg]
    rw [← ht, List.getElem?_take] at hu
    split at hu
    · simpa using hu
    · cases hu
theorem own_form {w : World} {base n : Nat} {e : TypeId} {size : Nat} {v : Value} {xs : List Value} (h : w.ownsRow base e size v n xs) : ∃ A c, v = .slice A n c ∧ n ≤ c ∧ c ≤ maxLen := by
  rcases h.2 with ⟨rfl, rfl⟩ | ⟨g, cap, cur, rfl, hb, hg, hnc, hm, hs, ht⟩
  · exact ⟨none, 0, rfl, Nat.le_refl _, Nat.zero_le _⟩
  · exact ⟨_, cap, rfl, hnc, hm⟩
end Go.Proofs.Ytedbngnkkfpbeaa


namespace Go.Proofs.Ytedbngnkkfpbeaa
open Go.RowKit
set_option linter.unusedVariables false

def txtB (s : ByteArray) : Bool := decide (s.size ≤ 48)
def inB (n lo hi : Int) : Bool := decide (lo ≤ n ∧ n ≤ hi)
theorem inB_true {n lo hi : Int} (h : inB n lo hi = true) : lo ≤ n ∧ n ≤ hi := of_decide_eq_true h
theorem txtB_true {s : ByteArray} (h : txtB s = true) : s.size ≤ 48 := of_decide_eq_true h
theorem txtB_cast (s : ByteArray) : decide ((s.size : Int) ≤ 48) = txtB s := by unfold txtB; exact decide_eq_decide.2 (by omega)
theorem inB_yes {n lo hi : Int} (h : lo ≤ n) : decide (n ≤ hi) = inB n lo hi := by unfold inB; exact decide_eq_decide.2 (by omega)
theorem inB_no {n lo hi : Int} (h : n < lo) : false = inB n lo hi := by unfold inB; exact (decide_eq_false (by omega)).symm

theorem sIn_any (n lo hi : Int) (w : World) :
    Calls Try.prog 47 #[.int .i64 n, .int .i64 lo, .int .i64 hi] w fun e w' => e = .returned (.bool (inB n lo hi)) ∧ w = w' := by
  go_enter Try.func47, Try.ntmps47
  go_wp2
  all_goals go_ret
  · exact ⟨ret_bool (inB_yes (by assumption)), rfl⟩
  · exact ⟨ret_bool (inB_no (by assumption)), rfl⟩
theorem iIn_any (n lo hi : Int) (w : World) :
    Calls Try.prog 39 #[.int .i64 n, .int .i64 lo, .int .i64 hi] w fun e w' => e = .returned (.bool (inB n lo hi)) ∧ w = w' := by
  go_enter Try.func39, Try.ntmps39
  go_wp2
  all_goals go_ret
  · exact ⟨ret_bool (inB_yes (by assumption)), rfl⟩
  · exact ⟨ret_bool (inB_no (by assumption)), rfl⟩
end Go.Proofs.Ytedbngnkkfpbeaa


namespace Go.Proofs.Ytedbngnkkfpbeaa
open Go.RowKit
set_option linter.unusedVariables false

theorem infoInt : (Try.prog.info? 2).map (fun i => (i.zero, i.size, i.bytes)) = some (some (.int .i64 0), 1, 8) := by kernel_rfl

set_option maxHeartbeats 400000 in
theorem toInt64S_any (A : Option Addr) (n c : Nat) (xs : List Int) (w : World) (h : SlI w w.heap.size A n xs) (hn : n ≤ 4294967296) :
    Calls Try.prog 55 #[.slice A n c] w fun e w' => ∃ g, e = .returned (.slice (some ⟨g, 0, none⟩) n n) ∧ w.heap.size ≤ g ∧ Row w' g 2 (iv xs) ∧ Below w.heap.size w w' := by
  have hl := Lib.hid h.len
  have H := Lib.hid h; clear h
  have hmk := run_make_row' (P := Try.prog) 26 2 (.int .i64 0) 8 Try.underlying26 infoInt rfl .i64 .i64 n (by omega) (by omega)
  go_enter Try.func55, Try.ntmps55
  go_wp2
  clear hmk
  go_loopw [4] (fun i wr => ∃ k : Nat, k ≤ n ∧ i = .int .i64 k ∧ Row wr w.heap.size 2 (fill (iv (xs.take k)) n (.int .i64 0)) ∧ Below w.heap.size w wr) (fun i wr => n - (intOf i).toNat)
  case atStart => exact ⟨0, by omega, rfl, by rw [List.take_zero, show iv [] = [] from rfl, fill_nil]; exact Row.made _ _ _ _, (Below.refl _ _).alloc (Nat.le_refl _) _⟩
  case round =>
    obtain ⟨k, hk, rfl, hr, hb⟩ := hrel
    have HR := Lib.hid hr; clear hr
    by_cases hlt : k < n
    · obtain ⟨b, off, x, rfl, hbB, hx, hc⟩ := (H.out.below hb (Nat.le_refl _)).at_ hlt
      have hlen : Hid ((iv (xs.take k)).length = k) := by show _ = k; rw [iv_length, List.length_take, hl.out]; omega
      have hc2 : wr.cell? ⟨w.heap.size, k, none⟩ = some (.int .i64 0) := by rw [HR.out.cell, fill_at hlen.out hlt]
      have hf2 := HR.out.frozen k
      go_wp2
      go_roundw
      case rel => exact ⟨k + 1, by omega, by go_num, by rw [iv_take hx.out, ← fill_set hlen.out hlt]; exact HR.out.set_ _ _, hb.setCell (Nat.le_refl _) _⟩
      case measure => simp [intOf]; omega
    · obtain rfl : n = k := by omega
      go_wp2
      go_ret
      refine ⟨_, rfl, Nat.le_refl _, ?_, hb⟩
      have := HR.out
      rw [take_all hl.out, fill_full (by rw [iv_length, hl.out])] at this
      exact this

set_option maxHeartbeats 400000 in
theorem eqInt64S_any (A : Option Addr) (n c : Nat) (xs : List Int) (A' : Option Addr) (n' c' : Nat) (ys : List Int) (w : World) (B B' : Nat) (h : SlI w B A n xs) (h' : SlI w B' A' n' ys) (hn : n ≤ 4294967296) (hn' : n' ≤ 4294967296) :
    Calls Try.prog 18 #[.slice A n c, .slice A' n' c'] w fun e w' => e = .returned (.bool (decide (xs = ys))) ∧ Below w.heap.size w w' := by
  have hl := Lib.hid h.len
  have hl' := Lib.hid h'.len
  have H := Lib.hid h; clear h
  have H' := Lib.hid h'; clear h'
  by_cases hnn : n = n'
  · subst hnn
    go_enter Try.func18, Try.ntmps18
    go_wp2
    go_loopw [5] (fun i wr => ∃ k : Nat, k ≤ n ∧ i = .int .i64 k ∧ xs.take k = ys.take k ∧ ∃ q, wr = w.drewN q) (fun i wr => n - (intOf i).toNat)
    case atStart => exact ⟨0, by omega, rfl, rfl, 0, rfl⟩
    case round =>
      obtain ⟨k, hk, rfl, he, q, rfl⟩ := hrel
      have HE := Lib.hid he; clear he
      by_cases hlt : k < n
      · obtain ⟨b, off, x, rfl, hbB, hx, hc⟩ := H.out.at_ hlt
        obtain ⟨b', off', y, rfl, hbB', hy, hc'⟩ := H'.out.at_ hlt
        have hi0 : (0 : Int) ≤ (k : Int) := by omega
        have hi1 : (k : Int) < (n : Int) := by omega
        by_cases hxy : x = y
        · subst hxy
          go_wp2
          go_quiet (fail)
          go_wp2
          exact ⟨⟨k + 1, by omega, by go_num, take_eq_succ HE.out hx.out hy.out, _, rfl⟩, by simp [intOf]; omega⟩
        · have h1 : (x == y) = false := by simp [hxy]
          have h2 : (x != y) = true := by simp [hxy]
          have HXY := Lib.hid hxy; clear hxy
          go_wp2
          go_quiet (fail)
          go_wp2
          go_ret
          refine ⟨ret_bool (decide_eq_false (fun e => ?_)).symm, below_draws (below_draws (Below.refl _ _) _) _⟩
          have hx' := hx.out
          rw [e, hy.out] at hx'
          exact HXY.out (Option.some.inj hx').symm
      · obtain rfl : n = k := by omega
        go_wp2
        go_ret
        refine ⟨ret_bool ?_, below_draws (Below.refl _ _) _⟩
        have := HE.out
        rw [take_all hl.out, take_all hl'.out] at this
        exact (decide_eq_true this).symm
  · have h1 : ((n : Int) == n') = false := by simp; omega
    have h2 : ((n : Int) != n') = true := by simp; omega
    have HN := Lib.hid hnn; clear hnn
    go_enter Try.func18, Try.ntmps18
    go_wp2
    go_ret
    exact ⟨ret_bool (decide_eq_false (fun e => HN.out (by rw [← hl.out, ← hl'.out, e]))).symm, Below.refl _ _⟩
end Go.Proofs.Ytedbngnkkfpbeaa
