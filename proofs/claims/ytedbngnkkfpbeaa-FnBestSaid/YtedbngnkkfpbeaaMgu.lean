/- Several texts in one: Sorting with equals in their order: the whole (SortStableFunc). Clones of lists of numbers that may be nil. Two lists that are handed out are marked and held, one after the other. Tables of the call's own: each row in a block of its own, all these apart. -/
import Derived.Test.YtedbngnkkfpbeaaStK
import Derived.Test.YtedbngnkkfpbeaaMgg
import Derived.Test.YtedbngnkkfpbeaaTab
import Derived.Test.YtedbngnkkfpbeaaStO
import Derived.Test.YtedbngnkkfpbeaaMgd

namespace Go.Proofs.Ytedbngnkkfpbeaa
open Go.RowKit
set_option linter.unusedVariables false
theorem sortS_any (X : List Ce) (base g cap N : Nat) (w : World) (hN : X.length = N) (hw : Dw w base g cap X) (hcap : N ≤ 100000) :
    Calls Try.prog 41 #[.slice (some ⟨g, 0, none⟩) N cap, cmpV] w fun e w' => e = .returned (.tuple #[]) ∧ ∃ M, Dw w' base g cap M ∧ Lo w.heap.size g w w' ∧ Srt M ∧ Stb X M := by
  have SR := stable_any X base g cap N w hN hw hcap
  unfold cmpV at SR ⊢
  have SR := Lib.hid SR
  clear hw hN hcap
  go_enter Try.func41, Try.ntmps41
  go_wp2_with (go_at_call 66; refine SR.out.mono ?_; rintro e w3 ⟨rfl, hq⟩; have HQ := Lib.hid hq; clear hq)
  go_end0
  exact ⟨rfl, HQ.out⟩
end Go.Proofs.Ytedbngnkkfpbeaa


namespace Go.Proofs.Ytedbngnkkfpbeaa
open Go.RowKit
set_option linter.unusedVariables false
/-- A plain head of a slice: nil, or a place of its own. -/
def NilA (A : Option Addr) : Prop := A = none ∨ ∃ b o, A = some ⟨b, o, none⟩
theorem ownA_nil {w : World} {lo n c sz : Nat} {t : TypeId} {A : Option Addr} {xs : List Value} (h : w.ownsRow lo t sz (.slice A n c) n xs) : NilA A := by
  obtain ⟨_, h2⟩ := h
  rcases h2 with ⟨e, -⟩ | ⟨g', cap, cur, e, hb, hg, hnc, hm, hs, ht⟩
  · injection e with e1 _ _; exact .inl e1
  · injection e with e1 _ _; exact .inr ⟨g', 0, e1⟩
set_option maxHeartbeats 1000000 in
theorem iClo0 (c : Nat) (w : World) :
    Calls Try.prog 61 #[.slice none 0 c] w fun e w' => e = .returned (.slice none 0 0) ∧ w = w' := by
  have hnil := fun w => Lib.run_eql_slice_nil (P := Try.prog) w 26 2 none 0 c 0 0 Try.underlying26
  go_enter Try.func61, Try.ntmps61
  go_wp2_with fail
  go_ret
  exact ⟨rfl, rfl⟩
theorem iClo_any (A : Option Addr) (n c : Nat) (xs : List Int) (w : World) (hp : NilA A) (h : SlI w w.heap.size A n xs) (hn : n ≤ 4294967296) :
    Calls Try.prog 61 #[.slice A n c] w fun e w' => ∃ A' c', e = .returned (.slice A' xs.length c') ∧ RowI w' w.heap.size 2 (.slice A' xs.length c') xs ∧ Below w.heap.size w w' := by
  rcases hp with rfl | ⟨b, o, rfl⟩
  · have h0 : n = 0 := by
      rcases Nat.eq_zero_or_pos n with h0 | h0
      · exact h0
      · obtain ⟨_, _, e, _⟩ := h.2 h0; cases e
    subst h0
    have hl : xs = [] := List.length_eq_zero_iff.1 h.len
    subst hl
    refine (iClo0 c w).mono ?_
    rintro e w' ⟨rfl, rfl⟩
    exact ⟨none, 0, rfl, World.ownsRow_nil w _ _ 1, Below.refl _ _⟩
  · exact iCloneI_any b o n c xs w h hn
end Go.Proofs.Ytedbngnkkfpbeaa


namespace Go.Proofs.Ytedbngnkkfpbeaa
open Go.RowKit
theorem markOwn2 (base : Nat) (v : Value) (r : List Int) (k : Int) (w : World) (h : RowI w base 2 v r) (hb : base ≤ w.heap.size) (hn : r.length ≤ 4294967296) (hk0 : 0 ≤ k) (hk1 : k ≤ 4294967296) :
    Calls Try.prog 22 #[v, .int .i64 k] w fun e w' => e = .returned (.int .i64 (k + r.length)) ∧ MarkedI w' v k r.length ∧ Below base w w' ∧ ∀ j, j < w.heap.size → v.ownBlock ≠ some j → w'.heap[j]? = w.heap[j]? := by
  rcases h.rowN with ⟨rfl, h0⟩ | ⟨g, cap, rfl, hbg, hr, hc⟩
  · refine (markInt64S_nil k w).mono ?_
    rintro e w' ⟨rfl, rfl⟩
    exact ⟨ret_int (by omega), .inl ⟨rfl, h0⟩, Below.refl _ _, fun _ _ _ => rfl⟩
  · refine (markInt64S_any g r.length cap cap k w hr hc hn hk0 hk1).mono ?_
    rintro e w' ⟨rfl, hq, hbut⟩
    exact ⟨rfl, .inr ⟨g, cap, rfl, Nat.lt_of_lt_of_le hr.lt hbut.2.2.2.1, hq⟩, hbut.below hbg hb, fun j hj hne => hbut.2.2.2.2 j hj (fun e => hne (by subst e; rfl))⟩
theorem MarkedI.move {w w' : World} {v u : Value} {k : Int} {n : Nat} (h : MarkedI w v k n) (hs : w.heap.size ≤ w'.heap.size) (ho : ∀ j, j < w.heap.size → u.ownBlock ≠ some j → w'.heap[j]? = w.heap[j]?) (hd : ∀ j, v.ownBlock = some j → u.ownBlock ≠ some j) : MarkedI w' v k n := by
  rcases h with h | ⟨g, c, rfl, hg, hc⟩
  · exact .inl h
  · refine .inr ⟨g, c, rfl, by omega, fun q hq => ?_⟩
    have e := ho g hg (hd g rfl)
    have := hc q hq
    unfold World.cell? at this ⊢
    rw [show (⟨g, q, none⟩ : Addr).block = g from rfl] at *
    rw [e]; exact this
theorem RowI.moveO {w w' : World} {base : Nat} {t : TypeId} {v u : Value} {r : List Int} (h : RowI w base t v r) (ho : ∀ j, j < w.heap.size → u.ownBlock ≠ some j → w'.heap[j]? = w.heap[j]?) (hd : ∀ j, v.ownBlock = some j → u.ownBlock ≠ some j) : RowI w' base t v r := own_move h (fun j hj => ho j (World.ownsRow.lt h j hj).2 (hd j hj))
end Go.Proofs.Ytedbngnkkfpbeaa


namespace Go.Proofs.Ytedbngnkkfpbeaa
open Go.RowKit
set_option linter.unusedVariables false
/-- v reads as the rows 'rows'; row j lies in block B[j], a row of numbers of the call's own, and these blocks are apart. -/
def TabO (w : World) (base : Nat) (TT TI : TypeId) (v : Value) (rows : List (List Int)) (B : List Nat) : Prop :=
  B.length = rows.length ∧ B.Nodup ∧ ∃ vs : List Value, w.ownsRow base TT 1 v rows.length vs ∧
    ∀ (j : Nat) (r : List Int) (g : Nat), rows[j]? = some r → B[j]? = some g → ∃ (c m : Nat), vs[j]? = some (Value.slice (some ⟨g, 0, none⟩) r.length c) ∧ base ≤ g ∧ g < w.heap.size ∧ v.ownBlock ≠ some g ∧ r.length ≤ c ∧ r.length ≤ m ∧ RowN w g TI m ∧ ∀ (k : Nat) (x : Int), r[k]? = some x → w.cell? ⟨g, k, none⟩ = some (.int .i64 x)
theorem nodup_at {B : List Nat} (h : B.Nodup) {i j a : Nat} (hi : B[i]? = some a) (hj : B[j]? = some a) : i = j := by
  obtain ⟨i1, i2⟩ := List.getElem?_eq_some_iff.1 hi
  obtain ⟨j1, j2⟩ := List.getElem?_eq_some_iff.1 hj
  have hp := List.pairwise_iff_getElem.1 h
  rcases Nat.lt_trichotomy i j with q | q | q
  · exact absurd (i2.trans j2.symm) (hp i j i1 j1 q)
  · exact q
  · exact absurd (j2.trans i2.symm) (hp j i j1 i1 q)
theorem RowI.rowN' {w : World} {base g n c : Nat} {t : TypeId} {r : List Int} (h : RowI w base t (.slice (some ⟨g, 0, none⟩) n c) r) : RowN w g t c ∧ r.length ≤ c := by
  rcases h.rowN with ⟨e, -⟩ | ⟨g', cap, e, -, h2, h3⟩
  · cases e
  · injection e with e1 e2 e3
    injection e1 with e1
    injection e1 with e1 _ _
    subst e1 e3
    exact ⟨h2, h3⟩
theorem RowN.move {w w' : World} {g n : Nat} {t : TypeId} (h : RowN w g t n) (hb : w'.heap[g]? = w.heap[g]?) : RowN w' g t n := by
  obtain ⟨vs, h1, h2⟩ := h
  exact ⟨vs, h1, hb.trans h2⟩
section
variable {w w' : World} {base : Nat} {TT TI : TypeId} {v : Value} {rows : List (List Int)} {B : List Nat}
theorem TabO.get (h : TabO w base TT TI v rows B) {j : Nat} {r : List Int} (hj : rows[j]? = some r) : ∃ g, B[j]? = some g :=
  ⟨B[j]'(by have := (List.getElem?_eq_some_iff.1 hj).1; have := h.1; omega), List.getElem?_eq_getElem _⟩
theorem TabO.tabI (h : TabO w base TT TI v rows B) : TabI w base TT v rows := by
  have hg := fun j r hj => h.get (j := j) (r := r) hj
  obtain ⟨-, -, vs, hown, hr⟩ := h
  refine ⟨vs, hown, fun j r hj => ?_⟩
  obtain ⟨g, hgj⟩ := hg j r hj
  obtain ⟨c, m, e1, e2, e3, e4, e5, -, -, e6⟩ := hr j r g hj hgj
  exact ⟨g, c, e1, e2, e3, e4, e5, e6⟩
theorem TabO.mem (h : TabO w base TT TI v rows B) {g : Nat} (hg : g ∈ B) : base ≤ g ∧ g < w.heap.size ∧ v.ownBlock ≠ some g := by
  obtain ⟨hl, -, vs, hown, hr⟩ := h
  obtain ⟨j, hj⟩ := List.mem_iff_getElem?.1 hg
  have hlt := (List.getElem?_eq_some_iff.1 hj).1
  obtain ⟨c, m, -, e2, e3, e4, -⟩ := hr j (rows[j]'(by omega)) g (List.getElem?_eq_getElem (by omega)) hj
  exact ⟨e2, e3, e4⟩
theorem TabO.made (w : World) (base : Nat) (TT TI : TypeId) (hb : base ≤ w.heap.size) : TabO (w.alloc (.cells #[] TT)) base TT TI (.slice (some ⟨w.heap.size, 0, none⟩) 0 0) [] [] :=
  ⟨rfl, List.nodup_nil, [], World.ownsRow_made w #[] 0 hb (by unfold maxLen; omega) rfl, fun j r g h => by simp at h⟩
theorem TabO.nil (w : World) (base : Nat) (TT TI : TypeId) : TabO w base TT TI (.slice none 0 0) [] [] :=
  ⟨rfl, List.nodup_nil, [], World.ownsRow_nil w base TT 1, fun j r g h => by simp at h⟩
theorem TabO.block (h : TabO w base TT TI v rows B) : ∀ k, v.ownBlock = some k → base ≤ k ∧ k < w.heap.size := h.tabI.block
/-- In a world that left the table's blocks alone. -/
theorem TabO.move (h : TabO w base TT TI v rows B) (hs : w.heap.size ≤ w'.heap.size) (h1 : ∀ k, v.ownBlock = some k → w'.heap[k]? = w.heap[k]?) (h2 : ∀ g ∈ B, w'.heap[g]? = w.heap[g]?) : TabO w' base TT TI v rows B := by
  obtain ⟨hl, hn, vs, hown, hr⟩ := h
  refine ⟨hl, hn, vs, own_move hown h1, fun j r g hj hg => ?_⟩
  obtain ⟨c, m, e1, e2, e3, e4, e5, e6, e7, e8⟩ := hr j r g hj hg
  have hb := h2 g (List.mem_of_getElem? hg)
  exact ⟨c, m, e1, e2, Nat.lt_of_lt_of_le e3 hs, e4, e5, e6, e7.move hb, fun k x hx => (World.cell?_of_block (a := ⟨g, k, none⟩) hb).trans (e8 k x hx)⟩
theorem TabO.keep {lim : Nat} (h : TabO w base TT TI v rows B) (hb : Below lim w w') (hB : w.heap.size ≤ lim) : TabO w' base TT TI v rows B :=
  h.move hb.size (fun k hk => hb.block k (Nat.lt_of_lt_of_le (h.block k hk).2 hB)) (fun g hg => hb.block g (Nat.lt_of_lt_of_le (h.mem hg).2.1 hB))
theorem TabO.lo {g0 : Nat} (h : TabO w base TT TI v rows B) (hl : Lo w.heap.size g0 w w') (hg : g0 < base) : TabO w' base TT TI v rows B :=
  h.move hl.2.2.2.1 (fun k hk => hl.2.2.2.2 k (h.block k hk).2 (by have := (h.block k hk).1; omega)) (fun g hg' => hl.2.2.2.2 g (h.mem hg').2.1 (by have := (h.mem hg').1; omega))
theorem TabO.kp {lo hi : Nat} (h : TabO w base TT TI v rows B) (hk : Kp lo hi w w') (hh : hi ≤ base) : TabO w' base TT TI v rows B :=
  h.move hk.2.2.2.1 (fun k hv => hk.2.2.2.2 k (h.block k hv).2 (.inr (by have := (h.block k hv).1; omega))) (fun g hg => hk.2.2.2.2 g (h.mem hg).2.1 (.inr (by have := (h.mem hg).1; omega)))
theorem TabO.mono {lo : Nat} (h : TabO w base TT TI v rows B) (hl : lo ≤ base) : TabO w lo TT TI v rows B := by
  obtain ⟨h1, h2, vs, hown, hr⟩ := h
  refine ⟨h1, h2, vs, World.ownsRow.mono hown hl, fun j r g hj hg => ?_⟩
  obtain ⟨c, m, e1, e2, e3⟩ := hr j r g hj hg
  exact ⟨c, m, e1, by omega, e3⟩
/-- Two loads, and the block that the row lies in. -/
theorem TabO.at_ (h : TabO w base TT TI v rows B) {j : Nat} {r : List Int} (hj : rows[j]? = some r) :
    ∃ (gt ct g c m : Nat), v = .slice (some ⟨gt, 0, none⟩) rows.length ct ∧ rows.length ≤ ct ∧ base ≤ gt ∧ gt < w.heap.size ∧ w.cell? ⟨gt, j, none⟩ = some (.slice (some ⟨g, 0, none⟩) r.length c) ∧ r.length ≤ c ∧ base ≤ g ∧ g < w.heap.size ∧ g ≠ gt ∧ B[j]? = some g ∧ r.length ≤ m ∧ RowN w g TI m ∧ ∀ (k : Nat) (x : Int), r[k]? = some x → w.cell? ⟨g, k, none⟩ = some (.int .i64 x) := by
  obtain ⟨g, hg⟩ := h.get hj
  obtain ⟨-, -, vs, hown, hr⟩ := h
  have hl : j < rows.length := (List.getElem?_eq_some_iff.1 hj).1
  obtain ⟨gt, ct, rfl, hb, hlt⟩ := hown.form (by omega)
  obtain ⟨c, m, e1, e2, e3, e4, e5, e6, e7, e8⟩ := hr j r g hj hg
  have hcell := hown.cells (g := gt) rfl j _ e1
  have ea : (⟨gt, 0, none⟩ : Addr).add j = ⟨gt, j, none⟩ := by unfold Addr.add; by_cases h : j = 0 <;> simp [h]
  rw [ea] at hcell
  obtain ⟨A, c', hv, hc1, _⟩ := own_form hown
  injection hv with _ _ hcc
  exact ⟨gt, ct, g, c, m, rfl, by omega, hb, hlt, hcell, e5, e2, e3, fun e => e4 (by simp [Value.ownBlock, e]), hg, e6, e7, e8⟩
end
/-- 'table = append(table, row)', the row made behind world wi, in which the table lay. -/
theorem wpList_tabO_push {P : Program} (wi w0 : World) {ops : Array Oper} {rest : List Oper} {o : Oper} {a : Act} {Q : Exit → Act → World → Prop} (hgd : o.guard = none) (s x : Operand) (t : TypeId)
    (ho : o.op = .call { callee := .builtin .append, args := #[s, x], argTypes := #[t, t] })
    (base : Nat) (TT TI : TypeId) (ht : P.underlying t = some (.slice TT)) (hinfo : (P.info? TT).map (fun i => (i.zero, i.size, i.bytes)) = some (some (.slice none 0 0), 1, 24))
    (v : Value) (rows : List (List Int)) (B : List Nat) (hs : a.eval s = v) (htab : TabO wi base TT TI v rows B) (hbw : Below wi.heap.size wi w0)
    (g c m : Nat) (r : List Int) (hm : r.length = m) (hx : a.eval x = .slice (some ⟨w0.heap.size, 0, none⟩) 1 1)
    (hg : wi.heap.size ≤ g) (hrow : RowI w0 wi.heap.size TI (.slice (some ⟨g, 0, none⟩) m c) r)
    (hn : rows.length + 1 ≤ 4294967296) (hbase : base ≤ wi.heap.size)
    (h : ∀ g' cap w', TabO w' base TT TI (.slice (some ⟨g', 0, none⟩) (rows.length + 1) cap) (rows ++ [r]) (B ++ [g]) → w0.grownBy w' v.ownBlock → Below base w0 w' → (v.ownBlock = some g' ∨ w0.heap.size ≤ g') →
      wpList P ops Q rest (a.put o.dst (.slice (some ⟨g', 0, none⟩) (rows.length + 1) cap)) w') :
    wpList P ops Q (o :: rest) a (w0.alloc (.cells #[.slice (some ⟨g, 0, none⟩) m c] TT)) := by
  subst hm
  have hlt : g < w0.heap.size := (World.ownsRow.lt hrow g rfl).2
  obtain ⟨hRN, hrc⟩ := hrow.rowN'
  have hcells : ∀ (k : Nat) (x : Int), r[k]? = some x → w0.cell? ⟨g, k, none⟩ = some (.int .i64 x) := fun k x hx => by
    have := World.ownsRow.cells hrow (g := g) rfl k (.int .i64 x) (by simp [iv, hx])
    have ea : (⟨g, 0, none⟩ : Addr).add k = ⟨g, k, none⟩ := by unfold Addr.add; by_cases h : k = 0 <;> simp [h]
    rw [ea] at this; exact this
  have hold : ∀ q ∈ B, q < wi.heap.size := fun q hq => (htab.mem hq).2.1
  have hvo : ∀ k, v.ownBlock = some k → k < wi.heap.size := fun k hk => (htab.block k hk).2
  have hne : v.ownBlock ≠ some g := fun e => by have := hvo g e; omega
  have ht0 := htab.keep hbw (Nat.le_refl _)
  obtain ⟨hl, hnd, vs, hown, hr⟩ := ht0
  refine wpList_push w0 hgd s x t ho base TT (.slice none 0 0) 24 ht hinfo rfl v rows.length vs hs hown _ hx rfl hn (Nat.le_refl _) (Nat.le_trans hbase hbw.size) ?_
  intro g' cap w' hown' hgr hat hlt' hcap
  have hbel := grown_below hown hgr (Nat.le_trans hbase hbw.size)
  have hll : vs.length = rows.length := by have := hown.1; omega
  refine h g' cap w' ⟨by simp [hl], ?_, vs ++ [.slice (some ⟨g, 0, none⟩) r.length c], by rw [List.length_append]; exact hown', ?_⟩ hgr hbel hat
  · rw [List.nodup_append]
    refine ⟨hnd, by simp, fun p hp q hq => ?_⟩
    rw [List.mem_singleton.1 hq]
    have := hold p hp; omega
  intro j r' q hj hq
  by_cases hjl : j < rows.length
  · rw [List.getElem?_append_left hjl] at hj
    rw [List.getElem?_append_left (by omega)] at hq
    obtain ⟨c1, m1, e1, e2, e3, e4, e5, e6, e7, e8⟩ := hr j r' q hj hq
    refine ⟨c1, m1, by rw [List.getElem?_append_left (by omega)]; exact e1, e2, Nat.lt_of_lt_of_le e3 hgr.size, ?_, e5, e6, e7.move (hgr.block q e3 (Ne.symm e4)), fun k x hx => hgr.cell (e8 k x hx) (Ne.symm e4)⟩
    intro e
    simp [Value.ownBlock] at e
    rcases hat with h | h
    · exact e4 (by rw [h, e])
    · omega
  · rw [List.getElem?_append_right (by omega)] at hj hq
    obtain ⟨hj0, rfl⟩ : j - rows.length = 0 ∧ r = r' := by
      rcases Nat.eq_zero_or_pos (j - rows.length) with h | h
      · rw [h] at hj; exact ⟨h, by simpa using hj⟩
      · rw [List.getElem?_eq_none (by simp; omega)] at hj; cases hj
    rw [hl, hj0] at hq
    obtain rfl : g = q := by simpa using hq
    refine ⟨c, c, by rw [List.getElem?_append_right (by omega), hll, hj0]; rfl, by omega, Nat.lt_of_lt_of_le hlt hgr.size, ?_, hrc, hrc, hRN.move (hgr.block g hlt (Ne.symm hne)), fun k x hx => hgr.cell (hcells k x hx) (Ne.symm hne)⟩
    intro e
    simp [Value.ownBlock] at e
    rcases hat with h | h
    · exact hne (by rw [h, e])
    · omega
/-- 'table = append(table, rows...)', the rows made behind world wi, in which the table lay. -/
theorem wpList_tabO_app {P : Program} (wi w0 : World) {ops : Array Oper} {rest : List Oper} {o : Oper} {a : Act} {Q : Exit → Act → World → Prop} (hgd : o.guard = none) (s x : Operand) (t : TypeId)
    (ho : o.op = .call { callee := .builtin .append, args := #[s, x], argTypes := #[t, t] })
    (base : Nat) (TT TI : TypeId) (ht : P.underlying t = some (.slice TT)) (hinfo : (P.info? TT).map (fun i => (i.zero, i.size, i.bytes)) = some (some (.slice none 0 0), 1, 24))
    (v : Value) (rows : List (List Int)) (B : List Nat) (hs : a.eval s = v) (htab : TabO wi base TT TI v rows B) (hbw : Below wi.heap.size wi w0)
    (g c : Nat) (rows2 : List (List Int)) (B2 : List Nat) (hx : a.eval x = .slice (some ⟨g, 0, none⟩) rows2.length c) (htab2 : TabO w0 wi.heap.size TT TI (.slice (some ⟨g, 0, none⟩) rows2.length c) rows2 B2)
    (hm : 0 < rows2.length)
    (hn : rows.length + rows2.length ≤ 1000000) (hbase : base ≤ wi.heap.size)
    (h : ∀ g' cap w', TabO w' base TT TI (.slice (some ⟨g', 0, none⟩) (rows.length + rows2.length) cap) (rows ++ rows2) (B ++ B2) → w0.grownBy w' v.ownBlock → Below base w0 w' → 
      wpList P ops Q rest (a.put o.dst (.slice (some ⟨g', 0, none⟩) (rows.length + rows2.length) cap)) w') :
    wpList P ops Q (o :: rest) a w0 := by
  have hold : ∀ q ∈ B, q < wi.heap.size := fun q hq => (htab.mem hq).2.1
  have hnew : ∀ q ∈ B2, wi.heap.size ≤ q := fun q hq => (htab2.mem hq).1
  have hvo : ∀ k, v.ownBlock = some k → k < wi.heap.size := fun k hk => (htab.block k hk).2
  have ht0 := htab.keep hbw (Nat.le_refl _)
  obtain ⟨hlB, hnd, vs, hown, hr⟩ := ht0
  obtain ⟨hlB2, hnd2, vs2, hown2, hr2⟩ := htab2
  obtain ⟨i, hi, hz, hsz, hb⟩ := info_parts hinfo
  have hl : vs.length = rows.length := by have := hown.1; omega
  have hl2 : vs2.length = rows2.length := by have := hown2.1; omega
  have hbase0 : base ≤ w0.heap.size := Nat.le_trans hbase hbw.size
  refine wpList_append_lies w0 hgd s x t ho base TT i (.slice none 0 0) 1 24 ht hi hz hsz hb rfl (by omega) v rows.length vs hs hown ⟨g, 0, none⟩ rows2.length c vs2 hx (by omega) (fun j u hu => hown2.cells (g := g) rfl j u hu) ?_ hm (by unfold maxLen; omega) (by omega) hbase0 w0.heap.size rfl ?_
  · intro u hu
    obtain ⟨j, hj, rfl⟩ := List.getElem_of_mem hu
    obtain ⟨c1, m1, e1, -⟩ := hr2 j rows2[j] B2[j] (List.getElem?_eq_getElem (by omega)) (List.getElem?_eq_getElem (by omega))
    rw [List.getElem?_eq_getElem hj] at e1
    injection e1 with e1
    rw [e1]; rfl
  · intro g' cap w' hown' hgr hat hlt'
    have hbel := grown_below hown hgr hbase0
    refine h g' cap w' ⟨by simp [hlB, hlB2], ?_, vs ++ vs2, by rw [List.length_append]; exact hown', ?_⟩ hgr hbel
    · rw [List.nodup_append]
      refine ⟨hnd, hnd2, fun p hp q hq => ?_⟩
      have := hold p hp; have := hnew q hq; omega
    intro j r' q hj hq
    by_cases hjl : j < rows.length
    · rw [List.getElem?_append_left hjl] at hj
      rw [List.getElem?_append_left (by omega)] at hq
      obtain ⟨c1, m1, e1, e2, e3, e4, e5, e6, e7, e8⟩ := hr j r' q hj hq
      refine ⟨c1, m1, by rw [List.getElem?_append_left (by omega)]; exact e1, e2, Nat.lt_of_lt_of_le e3 hgr.size, ?_, e5, e6, e7.move (hgr.block q e3 (Ne.symm e4)), fun k x hx => hgr.cell (e8 k x hx) (Ne.symm e4)⟩
      intro e
      simp [Value.ownBlock] at e
      rcases hat with h | h
      · exact e4 (by rw [h, e])
      · omega
    · rw [List.getElem?_append_right (by omega)] at hj hq
      rw [hlB] at hq
      obtain ⟨c1, m1, e1, e2, e3, e4, e5, e6, e7, e8⟩ := hr2 (j - rows.length) r' q hj hq
      have hne : v.ownBlock ≠ some q := fun e => by have := hvo q e; omega
      refine ⟨c1, m1, by rw [List.getElem?_append_right (by omega), hl]; exact e1, by omega, Nat.lt_of_lt_of_le e3 hgr.size, ?_, e5, e6, e7.move (hgr.block q e3 (Ne.symm hne)), fun k x hx => hgr.cell (e8 k x hx) (Ne.symm hne)⟩
      intro e
      simp [Value.ownBlock] at e
      rcases hat with h | h
      · exact hne (by rw [h, e])
      · omega
end Go.Proofs.Ytedbngnkkfpbeaa
