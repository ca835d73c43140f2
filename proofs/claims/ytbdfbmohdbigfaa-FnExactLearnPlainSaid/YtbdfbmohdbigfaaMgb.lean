/- Several texts in one: Small contracts: texts and ranges: what the predicates of the words return. Copies and equality of lists of numbers, as the laws make them. Tables: a slice of the call's own to which one value at a time is appended; a slice of rows of numbers. -/
import Derived.Test.YtbdfbmohdbigfaaRows
import Derived.Test.YtbdfbmohdbigfaaMga
import Derived.Deep.QuietTactic
import Derived.BigQuiet
import Derived.StillTailTactics

namespace Go.Proofs.Ytbdfbmohdbigfaa
open Go.RowKit
set_option linter.unusedVariables false

def txtB (s : ByteArray) : Bool := decide (s.size ≤ 48)
def inB (n lo hi : Int) : Bool := decide (lo ≤ n ∧ n ≤ hi)
theorem inB_true {n lo hi : Int} (h : inB n lo hi = true) : lo ≤ n ∧ n ≤ hi := of_decide_eq_true h
theorem txtB_true {s : ByteArray} (h : txtB s = true) : s.size ≤ 48 := of_decide_eq_true h
theorem txtB_cast (s : ByteArray) : decide ((s.size : Int) ≤ 48) = txtB s := by unfold txtB; exact decide_eq_decide.2 (by omega)
theorem inB_yes {n lo hi : Int} (h : lo ≤ n) : decide (n ≤ hi) = inB n lo hi := by unfold inB; exact decide_eq_decide.2 (by omega)
theorem inB_no {n lo hi : Int} (h : n < lo) : false = inB n lo hi := by unfold inB; exact (decide_eq_false (by omega)).symm

theorem sIn_any (n lo hi : Int) (w : World) :
    Calls Try.prog 104 #[.int .i64 n, .int .i64 lo, .int .i64 hi] w fun e w' => e = .returned (.bool (inB n lo hi)) ∧ w = w' := by
  go_enter Try.func104, Try.ntmps104
  go_wp2
  all_goals go_ret
  · exact ⟨ret_bool (inB_yes (by assumption)), rfl⟩
  · exact ⟨ret_bool (inB_no (by assumption)), rfl⟩
theorem iIn_any (n lo hi : Int) (w : World) :
    Calls Try.prog 54 #[.int .i64 n, .int .i64 lo, .int .i64 hi] w fun e w' => e = .returned (.bool (inB n lo hi)) ∧ w = w' := by
  go_enter Try.func54, Try.ntmps54
  go_wp2
  all_goals go_ret
  · exact ⟨ret_bool (inB_yes (by assumption)), rfl⟩
  · exact ⟨ret_bool (inB_no (by assumption)), rfl⟩
end Go.Proofs.Ytbdfbmohdbigfaa


namespace Go.Proofs.Ytbdfbmohdbigfaa
open Go.RowKit
set_option linter.unusedVariables false

theorem infoInt : (Try.prog.info? 2).map (fun i => (i.zero, i.size, i.bytes)) = some (some (.int .i64 0), 1, 8) := by kernel_rfl

set_option maxHeartbeats 400000 in
theorem toInt64S_any (A : Option Addr) (n c : Nat) (xs : List Int) (w : World) (h : SlI w w.heap.size A n xs) (hn : n ≤ 4294967296) :
    Calls Try.prog 68 #[.slice A n c] w fun e w' => ∃ g, e = .returned (.slice (some ⟨g, 0, none⟩) n n) ∧ w.heap.size ≤ g ∧ Row w' g 2 (iv xs) ∧ Below w.heap.size w w' := by
  have hl := Lib.hid h.len
  have H := Lib.hid h; clear h
  have hmk := run_make_row' (P := Try.prog) 26 2 (.int .i64 0) 8 Try.underlying26 infoInt rfl .i64 .i64 n (by omega) (by omega)
  go_enter Try.func68, Try.ntmps68
  go_wp2
  clear hmk
  go_loopw [4] (fun i wr => ∃ k : Nat, k ≤ n ∧ i = .int .i64 k ∧ Row wr w.heap.size 2 (fill (iv (xs.take k)) n (.int .i64 0)) ∧ Below w.heap.size w wr) (fun i wr => n - (intOf i).toNat)
  case atStart => exact ⟨0, by omega, rfl, by rw [List.take_zero, show iv [] = [] from rfl, fill_nil]; exact Row.made _ _ _ _, (Below.refl _ _).alloc (Nat.le_refl _) _⟩
  case round =>
    obtain ⟨k, hk, rfl, hr, hb⟩ := hrel
    have HR := Lib.hid hr; clear hr
    by_cases hlt : k < n
    · obtain ⟨b, off, x, rfl, hbB, hx, hc⟩ := (H.out.below hb (Nat.le_refl _)).at_ hlt
      have hlen : Hid ((iv (xs.take k)).length = k) := by show _ = k; rw [iv_length, List.length_take, hl.out]; omega
      have hc2 : wr.cell? ⟨w.heap.size, k, none⟩ = some (.int .i64 0) := by rw [HR.out.cell, fill_at hlen.out hlt]
      have hf2 := HR.out.frozen k
      go_wp2
      go_roundw
      case rel => exact ⟨k + 1, by omega, by go_num, by rw [iv_take hx.out, ← fill_set hlen.out hlt]; exact HR.out.set_ _ _, hb.setCell (Nat.le_refl _) _⟩
      case measure => simp [intOf]; omega
    · obtain rfl : n = k := by omega
      go_wp2
      go_ret
      refine ⟨_, rfl, Nat.le_refl _, ?_, hb⟩
      have := HR.out
      rw [take_all hl.out, fill_full (by rw [iv_length, hl.out])] at this
      exact this

set_option maxHeartbeats 400000 in
theorem eqInt64S_any (A : Option Addr) (n c : Nat) (xs : List Int) (A' : Option Addr) (n' c' : Nat) (ys : List Int) (w : World) (B B' : Nat) (h : SlI w B A n xs) (h' : SlI w B' A' n' ys) (hn : n ≤ 4294967296) (hn' : n' ≤ 4294967296) :
    Calls Try.prog 69 #[.slice A n c, .slice A' n' c'] w fun e w' => e = .returned (.bool (decide (xs = ys))) ∧ Below w.heap.size w w' := by
  have hl := Lib.hid h.len
  have hl' := Lib.hid h'.len
  have H := Lib.hid h; clear h
  have H' := Lib.hid h'; clear h'
  by_cases hnn : n = n'
  · subst hnn
    go_enter Try.func69, Try.ntmps69
    go_wp2
    go_loopw [5] (fun i wr => ∃ k : Nat, k ≤ n ∧ i = .int .i64 k ∧ xs.take k = ys.take k ∧ ∃ q, wr = w.drewN q) (fun i wr => n - (intOf i).toNat)
    case atStart => exact ⟨0, by omega, rfl, rfl, 0, rfl⟩
    case round =>
      obtain ⟨k, hk, rfl, he, q, rfl⟩ := hrel
      have HE := Lib.hid he; clear he
      by_cases hlt : k < n
      · obtain ⟨b, off, x, rfl, hbB, hx, hc⟩ := H.out.at_ hlt
        obtain ⟨b', off', y, rfl, hbB', hy, hc'⟩ := H'.out.at_ hlt
        have hi0 : (0 : Int) ≤ (k : Int) := by omega
        have hi1 : (k : Int) < (n : Int) := by omega
        by_cases hxy : x = y
        · subst hxy
          go_wp2
          go_quiet (fail)
          go_wp2
          exact ⟨⟨k + 1, by omega, by go_num, take_eq_succ HE.out hx.out hy.out, _, rfl⟩, by simp [intOf]; omega⟩
        · have h1 : (x == y) = false := by simp [hxy]
          have h2 : (x != y) = true := by simp [hxy]
          have HXY := Lib.hid hxy; clear hxy
          go_wp2
          go_quiet (fail)
          go_wp2
          go_ret
          refine ⟨ret_bool (decide_eq_false (fun e => ?_)).symm, below_draws (below_draws (Below.refl _ _) _) _⟩
          have hx' := hx.out
          rw [e, hy.out] at hx'
          exact HXY.out (Option.some.inj hx').symm
      · obtain rfl : n = k := by omega
        go_wp2
        go_ret
        refine ⟨ret_bool ?_, below_draws (Below.refl _ _) _⟩
        have := HE.out
        rw [take_all hl.out, take_all hl'.out] at this
        exact (decide_eq_true this).symm
  · have h1 : ((n : Int) == n') = false := by simp; omega
    have h2 : ((n : Int) != n') = true := by simp; omega
    have HN := Lib.hid hnn; clear hnn
    go_enter Try.func69, Try.ntmps69
    go_wp2
    go_ret
    exact ⟨ret_bool (decide_eq_false (fun e => HN.out (by rw [← hl.out, ← hl'.out, e]))).symm, Below.refl _ _⟩
end Go.Proofs.Ytbdfbmohdbigfaa


namespace Go.Proofs.Ytbdfbmohdbigfaa
open Go.RowKit
set_option linter.unusedVariables false

/-- A region that draws its order, reads, and ends in a store: the world of its reads and of its tail under one name. -/
theorem wp_tail {P : Program} {id : Nat} {Q : Exit → Act → World → Prop} {a : Act} {w : World} {l : List Oper} (n : Nat) (hm : P.follows .mixedOrders = true) (hB : Region.lexTailB .any l.toArray n = true)
    (h : ∀ w2 : World, w2 = w.drewN 1 → wpStill P l.toArray w2 (fun a' => wpList P l.toArray Q (l.drop n) a' w2) (l.take n) a) : (Code.region id l.toArray true).wp P Q a w :=
  wp_region_still_tail n hm hB (h _ rfl)

/-- 'v = append(v, u)': v a row of the call's own, u one cell. -/
theorem wpList_push {P : Program} (w0 : World) {ops : Array Oper} {rest : List Oper} {o : Oper} {a : Act} {Q : Exit → Act → World → Prop} (hgd : o.guard = none) (s x : Operand) (t : TypeId)
    (ho : o.op = .call { callee := .builtin .append, args := #[s, x], argTypes := #[t, t] })
    (base : Nat) (e : TypeId) (z : Value) (bytes : Nat) (ht : P.underlying t = some (.slice e)) (hinfo : (P.info? e).map (fun i => (i.zero, i.size, i.bytes)) = some (some z, 1, bytes)) (hz1 : z.cells.size = 1)
    (v : Value) (n : Nat) (xs : List Value) (hs : a.eval s = v) (hown : w0.ownsRow base e 1 v n xs)
    (u : Value) (hx : a.eval x = .slice (some ⟨w0.heap.size, 0, none⟩) 1 1) (h1 : u.oneCell' = true)
    (hn : n + 1 ≤ 4294967296) (hby : bytes ≤ 24) (hbase : base ≤ w0.heap.size)
    (h : ∀ g cap w', w'.ownsRow base e 1 (.slice (some ⟨g, 0, none⟩) (n + 1) cap) (n + 1) (xs ++ [u]) → w0.grownBy w' v.ownBlock → (v.ownBlock = some g ∨ w0.heap.size ≤ g) → g < w'.heap.size → n + 1 ≤ cap →
      wpList P ops Q rest (a.put o.dst (.slice (some ⟨g, 0, none⟩) (n + 1) cap)) w') :
    wpList P ops Q (o :: rest) a (w0.alloc (.cells #[u] e)) := by
  obtain ⟨i, hi, hz, hsz, hb⟩ := info_parts hinfo
  have hb2 : (n + 1) * bytes ≤ 140737488355328 := by
    have := Nat.mul_le_mul hn hby
    omega
  refine wpList_append_lies _ hgd s x t ho base e i z 1 bytes ht hi hz hsz hb hz1 (by omega) v n xs hs (hown.alloc _) ⟨w0.heap.size, 0, none⟩ 1 1 [u] hx rfl ?_ ?_ (by omega) (by unfold maxLen; omega) hb2 (by simp; omega) (w0.heap.size + 1) (by simp) ?_
  · intro j y hj
    have : j = 0 := by
      rcases Nat.eq_zero_or_pos j with h | h
      · exact h
      · rw [List.getElem?_eq_none (by simp; omega)] at hj; cases hj
    subst this
    simp at hj
    subst hj
    have := (Row.new w0 e [u]).cell 0
    simp [Addr.add]
  · intro y hy
    simp at hy
    subst hy
    exact h1
  · intro g cap w' hown' hg hat hlt
    refine h g cap w' hown' ⟨hg.os, hg.tape, hg.output, ?_, ?_⟩ ?_ hlt ?_
    · have := hg.size; simp at this; omega
    · intro k hk hne
      exact (hg.block k (by simp; omega) hne).trans (Below.heap_alloc w0 _ k hk)
    · rcases hat with h | h
      · exact .inl h
      · exact .inr (by omega)
    · obtain ⟨A, c, hv, h1, _⟩ := own_form hown'
      injection hv with _ _ hc
      omega

theorem grown_below {w w' : World} {v : Value} {base : Nat} {e : TypeId} {size n : Nat} {xs : List Value} (h : w.ownsRow base e size v n xs) (hg : w.grownBy w' v.ownBlock) (hb : base ≤ w.heap.size) : Below base w w' :=
  (Below.refl _ _).grown hg hb (fun k hk => (h.lt k hk).1)

/-- v is a row of the call's own (from block 'base' on) that reads as the numbers r. -/
def RowI (w : World) (base : Nat) (t : TypeId) (v : Value) (r : List Int) : Prop := w.ownsRow base t 1 v r.length (iv r)
theorem RowI.made (w : World) (base : Nat) (t : TypeId) (hb : base ≤ w.heap.size) : RowI (w.alloc (.cells #[] t)) base t (.slice (some ⟨w.heap.size, 0, none⟩) 0 0) [] :=
  World.ownsRow_made w #[] 0 hb (by unfold maxLen; omega) rfl
section
variable {w w' : World} {base B : Nat} {t : TypeId} {v : Value} {r : List Int}
theorem RowI.drewN (h : RowI w base t v r) (q : Nat) : RowI (w.drewN q) base t v r := h
theorem RowI.keep (h : RowI w base t v r) (hb : Below B w w') (hB : w.heap.size ≤ B) : RowI w' base t v r :=
  World.ownsRow.kept (row := none) h ⟨hb.os, hb.tape, hb.output, hb.size, fun k hk _ => hb.block k (by omega)⟩ (by cases v.ownBlock <;> simp)
theorem RowI.form (h : RowI w base t v r) (h0 : 0 < r.length) : ∃ g c, v = .slice (some ⟨g, 0, none⟩) r.length c ∧ r.length ≤ c ∧ base ≤ g ∧ g < w.heap.size ∧ ∀ (k : Nat) (x : Int), r[k]? = some x → w.cell? ⟨g, k, none⟩ = some (.int .i64 x) := by
  obtain ⟨g, c, rfl, hb, hlt⟩ := World.ownsRow.form h h0
  obtain ⟨A, c', hv, hc, _⟩ := own_form h
  injection hv with _ _ hcc
  refine ⟨g, c, rfl, by omega, hb, hlt, fun k x hx => ?_⟩
  have := h.cells (g := g) rfl k (.int .i64 x) (by simp [iv, hx])
  have ea : (⟨g, 0, none⟩ : Addr).add k = ⟨g, k, none⟩ := by unfold Addr.add; by_cases h : k = 0 <;> simp [h]
  rw [ea] at this
  exact this
theorem RowI.sl {A : Option Addr} {n c : Nat} (h : RowI w base t (.slice A n c) r) (hn : r.length = n) : SlI w w.heap.size A n r := by
  subst hn; exact own_sl h
end
/-- 'row = append(row, x)'. -/
theorem wpList_int_push {P : Program} (w0 : World) {ops : Array Oper} {rest : List Oper} {o : Oper} {a : Act} {Q : Exit → Act → World → Prop} (hgd : o.guard = none) (s x : Operand) (t : TypeId)
    (ho : o.op = .call { callee := .builtin .append, args := #[s, x], argTypes := #[t, t] })
    (base : Nat) (e : TypeId) (ht : P.underlying t = some (.slice e)) (hinfo : (P.info? e).map (fun i => (i.zero, i.size, i.bytes)) = some (some (.int .i64 0), 1, 8))
    (v : Value) (r : List Int) (hs : a.eval s = v) (hown : RowI w0 base e v r)
    (y : Int) (hx : a.eval x = .slice (some ⟨w0.heap.size, 0, none⟩) 1 1) (hn : r.length + 1 ≤ 4294967296) (hbase : base ≤ w0.heap.size)
    (h : ∀ g cap w', RowI w' base e (.slice (some ⟨g, 0, none⟩) (r.length + 1) cap) (r ++ [y]) → Below base w0 w' → (v.ownBlock = some g ∨ w0.heap.size ≤ g) → w0.grownBy w' v.ownBlock →
      wpList P ops Q rest (a.put o.dst (.slice (some ⟨g, 0, none⟩) (r.length + 1) cap)) w') :
    wpList P ops Q (o :: rest) a (w0.alloc (.cells #[.int .i64 y] e)) := by
  refine wpList_push w0 hgd s x t ho base e (.int .i64 0) 8 ht hinfo rfl v r.length (iv r) hs hown _ hx rfl hn (by omega) hbase ?_
  intro g cap w' hown' hgr hat hlt hcap
  refine h g cap w' ?_ (grown_below hown hgr hbase) hat hgr
  show w'.ownsRow base e 1 _ (r ++ [y]).length (iv (r ++ [y]))
  rw [iv_append, List.length_append]
  exact hown'

/-- 'row = append(row, x)' at a step of a region that draws its order. -/
theorem step_int_push {P : Program} (W : World) {ops : Array Oper} {o : Oper} {a : Act} {K : Act → World → Prop} {Q : Exit → Act → World → Prop} {E : Prop} (hgd : o.guard = none) (s x : Operand) (t : TypeId)
    (ho : o.op = .call { callee := .builtin .append, args := #[s, x], argTypes := #[t, t] })
    (base : Nat) (e : TypeId) (ht : P.underlying t = some (.slice e)) (hinfo : (P.info? e).map (fun i => (i.zero, i.size, i.bytes)) = some (some (.int .i64 0), 1, 8))
    (v : Value) (r : List Int) (hs : a.eval s = v) (hown : RowI W base e v r)
    (q : Nat) (y : Int) (hx : a.eval x = .slice (some ⟨q, 0, none⟩) 1 1) (hc : W.cell? ⟨q, 0, none⟩ = some (.int .i64 y)) (hn : r.length + 1 ≤ 4294967296) (hbase : base ≤ W.heap.size)
    (h : ∀ g cap w', RowI w' base e (.slice (some ⟨g, 0, none⟩) (r.length + 1) cap) (r ++ [y]) → Below base W w' →
      K (a.put o.dst (.slice (some ⟨g, 0, none⟩) (r.length + 1) cap)) w') :
    if Region.wanted o (yielded ops a.tmps) = true then Oper.wp P o a W K Q else E := by
  obtain ⟨i, hi, hz, hsz, hb⟩ := info_parts hinfo
  refine step_append_lies W hgd s x t ho base e i (.int .i64 0) 1 8 ht hi hz hsz hb rfl (by omega) v r.length (iv r) hs hown ⟨q, 0, none⟩ 1 1 [.int .i64 y] hx rfl ?_ ?_ (by omega) (by unfold maxLen; omega) (by omega) hbase W.heap.size rfl ?_
  · intro j u hj
    have : j = 0 := by
      rcases Nat.eq_zero_or_pos j with h | h
      · exact h
      · rw [List.getElem?_eq_none (by simp; omega)] at hj; cases hj
    subst this
    simp at hj
    subst hj
    simpa [Addr.add] using hc
  · intro u hu
    simp at hu
    subst hu
    rfl
  · intro g cap w' hown' hg hat hlt
    refine h g cap w' ?_ (grown_below (v := v) hown hg hbase)
    show w'.ownsRow base e 1 _ (r ++ [y]).length (iv (r ++ [y]))
    rw [iv_append, List.length_append]
    exact hown'

/-- v reads as the rows 'rows' of numbers; all lies in blocks of the call's own, from 'base' on. TT: the type of a row, TI: int64. -/
def TabI (w : World) (base : Nat) (TT : TypeId) (v : Value) (rows : List (List Int)) : Prop :=
  ∃ vs : List Value, w.ownsRow base TT 1 v rows.length vs ∧
    ∀ (j : Nat) (r : List Int), rows[j]? = some r → ∃ (g c : Nat), vs[j]? = some (Value.slice (some ⟨g, 0, none⟩) r.length c) ∧ base ≤ g ∧ g < w.heap.size ∧ v.ownBlock ≠ some g ∧ r.length ≤ c ∧ ∀ (k : Nat) (x : Int), r[k]? = some x → w.cell? ⟨g, k, none⟩ = some (.int .i64 x)
theorem TabI.made (w : World) (base : Nat) (TT : TypeId) (hb : base ≤ w.heap.size) : TabI (w.alloc (.cells #[] TT)) base TT (.slice (some ⟨w.heap.size, 0, none⟩) 0 0) [] :=
  ⟨[], World.ownsRow_made w #[] 0 hb (by unfold maxLen; omega) rfl, fun j r h => by simp at h⟩
section
variable {w w' : World} {base B : Nat} {TT : TypeId} {v : Value} {rows : List (List Int)}
theorem TabI.keep (h : TabI w base TT v rows) (hb : Below B w w') (hB : w.heap.size ≤ B) : TabI w' base TT v rows := by
  obtain ⟨vs, hown, hr⟩ := h
  refine ⟨vs, hown.kept (row := none) ⟨hb.os, hb.tape, hb.output, hb.size, fun k hk _ => hb.block k (by omega)⟩ (by cases v.ownBlock <;> simp), fun j r hj => ?_⟩
  obtain ⟨g, c, e1, e2, e3, e4, e5, e6⟩ := hr j r hj
  exact ⟨g, c, e1, e2, Nat.lt_of_lt_of_le e3 hb.size, e4, e5, fun k x hx => (hb.cell (p := ⟨g, k, none⟩) (show g < B by omega)).trans (e6 k x hx)⟩
theorem TabI.drew (h : TabI w base TT v rows) : TabI w.drew base TT v rows := h.keep (B := w.heap.size) (Below.drew (Below.refl _ _)) (Nat.le_refl _)
/-- Two loads: the row's header and, in it, the number. -/
theorem TabI.at_ (h : TabI w base TT v rows) {j : Nat} {r : List Int} (hj : rows[j]? = some r) :
    ∃ (gt ct g c : Nat), v = .slice (some ⟨gt, 0, none⟩) rows.length ct ∧ rows.length ≤ ct ∧ base ≤ gt ∧ gt < w.heap.size ∧ w.cell? ⟨gt, j, none⟩ = some (.slice (some ⟨g, 0, none⟩) r.length c) ∧ r.length ≤ c ∧ base ≤ g ∧ g < w.heap.size ∧ g ≠ gt ∧ ∀ (k : Nat) (x : Int), r[k]? = some x → w.cell? ⟨g, k, none⟩ = some (.int .i64 x) := by
  obtain ⟨vs, hown, hr⟩ := h
  have hl : j < rows.length := (List.getElem?_eq_some_iff.1 hj).1
  obtain ⟨gt, ct, rfl, hb, hlt⟩ := hown.form (by omega)
  obtain ⟨g, c, e1, e2, e3, e4, e5, e6⟩ := hr j r hj
  have hcell := hown.cells (g := gt) rfl j _ e1
  have ea : (⟨gt, 0, none⟩ : Addr).add j = ⟨gt, j, none⟩ := by unfold Addr.add; by_cases h : j = 0 <;> simp [h]
  rw [ea] at hcell
  obtain ⟨A, c', hv, hc1, _⟩ := own_form hown
  injection hv with _ _ hcc
  exact ⟨gt, ct, g, c, rfl, by omega, hb, hlt, hcell, e5, e2, e3, fun e => e4 (by simp [Value.ownBlock, e]), e6⟩
theorem TabI.block (h : TabI w base TT v rows) : ∀ k, v.ownBlock = some k → base ≤ k ∧ k < w.heap.size := by
  obtain ⟨vs, hown, _⟩ := h
  exact hown.lt
end

/-- 'table = append(table, row)'. -/
theorem wpList_tab_push {P : Program} (w0 : World) {ops : Array Oper} {rest : List Oper} {o : Oper} {a : Act} {Q : Exit → Act → World → Prop} (hgd : o.guard = none) (s x : Operand) (t : TypeId)
    (ho : o.op = .call { callee := .builtin .append, args := #[s, x], argTypes := #[t, t] })
    (base : Nat) (TT : TypeId) (ht : P.underlying t = some (.slice TT)) (hinfo : (P.info? TT).map (fun i => (i.zero, i.size, i.bytes)) = some (some (.slice none 0 0), 1, 24))
    (v : Value) (rows : List (List Int)) (hs : a.eval s = v) (htab : TabI w0 base TT v rows)
    (g c m : Nat) (r : List Int) (hm : r.length = m) (hx : a.eval x = .slice (some ⟨w0.heap.size, 0, none⟩) 1 1)
    (hg : base ≤ g) (hlt : g < w0.heap.size) (hne : v.ownBlock ≠ some g) (hc : m ≤ c) (hcells : ∀ k x, r[k]? = some x → w0.cell? ⟨g, k, none⟩ = some (.int .i64 x))
    (hn : rows.length + 1 ≤ 4294967296) (hbase : base ≤ w0.heap.size)
    (h : ∀ g' cap w', TabI w' base TT (.slice (some ⟨g', 0, none⟩) (rows.length + 1) cap) (rows ++ [r]) → w0.grownBy w' v.ownBlock → Below base w0 w' → (v.ownBlock = some g' ∨ w0.heap.size ≤ g') →
      wpList P ops Q rest (a.put o.dst (.slice (some ⟨g', 0, none⟩) (rows.length + 1) cap)) w') :
    wpList P ops Q (o :: rest) a (w0.alloc (.cells #[.slice (some ⟨g, 0, none⟩) m c] TT)) := by
  subst hm
  obtain ⟨vs, hown, hr⟩ := htab
  refine wpList_push w0 hgd s x t ho base TT (.slice none 0 0) 24 ht hinfo rfl v rows.length vs hs hown _ hx rfl hn (Nat.le_refl _) hbase ?_
  intro g' cap w' hown' hgr hat hlt' hcap
  have hbel := grown_below hown hgr hbase
  refine h g' cap w' ⟨vs ++ [.slice (some ⟨g, 0, none⟩) r.length c], by rw [List.length_append]; exact hown', ?_⟩ hgr hbel hat
  have hl : vs.length = rows.length := by have := hown.1; omega
  intro j r' hj
  by_cases hjl : j < rows.length
  · rw [List.getElem?_append_left hjl] at hj
    obtain ⟨g1, c1, e1, e2, e3, e4, e5, e6⟩ := hr j r' hj
    refine ⟨g1, c1, by rw [List.getElem?_append_left (by omega)]; exact e1, e2, Nat.lt_of_lt_of_le e3 hgr.size, ?_, e5, fun k x hx => hgr.cell (e6 k x hx) (Ne.symm e4)⟩
    intro e
    simp [Value.ownBlock] at e
    rcases hat with h | h
    · exact e4 (by rw [h, e])
    · omega
  · rw [List.getElem?_append_right (by omega)] at hj
    obtain ⟨hj0, rfl⟩ : j - rows.length = 0 ∧ r = r' := by
      rcases Nat.eq_zero_or_pos (j - rows.length) with h | h
      · rw [h] at hj; exact ⟨h, by simpa using hj⟩
      · rw [List.getElem?_eq_none (by simp; omega)] at hj; cases hj
    refine ⟨g, c, by rw [List.getElem?_append_right (by omega), hl, hj0]; rfl, hg, Nat.lt_of_lt_of_le hlt hgr.size, ?_, hc, fun k x hx => hgr.cell (hcells k x hx) (Ne.symm hne)⟩
    intro e
    simp [Value.ownBlock] at e
    rcases hat with h | h
    · exact hne (by rw [h, e])
    · omega
end Go.Proofs.Ytbdfbmohdbigfaa
