/- Several texts in one: Lists of arcs of a machine: copied, compared. Rows that a call handed out: equality, and what marks leave of them. Blocks of an interval alone may turn. Lists of numbers, as the laws' helpers take them in structs. -/
import Derived.Test.YtegponioggpkcaaMgb
import Derived.Test.YtegponioggpkcaaMga

namespace Go.Proofs.Ytegponioggpkcaa
open Go.RowKit
set_option linter.unusedVariables false
theorem infoAr : (Try.prog.info? 62).map (fun i => (i.zero, i.size, i.bytes)) = some (some (.agg #[.int .i64 0, .int .i64 0, .int .i64 0, .int .i64 0]), 4, 32) := by kernel_rfl
set_option maxHeartbeats 1000000 in
theorem toArc_any (a b c d : Int) (w : World) :
    Calls Try.prog 87 #[.agg #[.int .i64 a, .int .i64 b, .int .i64 c, .int .i64 d]] w fun e w' => e = .returned (.agg #[.int .i64 a, .int .i64 b, .int .i64 c, .int .i64 d]) ∧ Below w.heap.size w w' := by
  go_enter Try.func87, Try.ntmps87
  go_wp2_with fail
  refine bodyPost_ret (results_cell_row rfl _ _ (w.heap.size + 1) 62 #[.int .i64 a, .int .i64 b, .int .i64 c, .int .i64 d] (0, 0) _ rfl (Row.alloc (Row.newAt _ _ [.int .i64 a, .int .i64 b, .int .i64 c, .int .i64 d] (by simp)) _) Try.underlying62 rfl (by kernel_rfl)) rfl ?_
  exact ⟨rfl, (((Below.refl _ _).alloc (Nat.le_refl _) _).alloc (by simp) _).alloc (by simp; omega) _⟩
set_option maxHeartbeats 1000000 in
theorem toArcS_any (A : Option Addr) (n c : Nat) (L : List A4) (w : World) (h : SlA w w.heap.size A n L) (hn : n ≤ 4294967296) :
    Calls Try.prog 58 #[.slice A n c] w fun e w' => ∃ g, e = .returned (.slice (some ⟨g, 0, none⟩) n n) ∧ w.heap.size ≤ g ∧ Row w' g 62 (fa L) ∧ Below w.heap.size w w' := by
  have hl := Lib.hid h.len
  have H := Lib.hid h; clear h
  have hmk := run_make4 (P := Try.prog) 25 62 Try.underlying25 infoAr n hn
  go_enter Try.func58, Try.ntmps58
  go_wp2_with fail
  clear hmk
  go_loopw [4] (fun i wr => ∃ k : Nat, k ≤ n ∧ i = .int .i64 k ∧ Row wr w.heap.size 62 (fa (fillA L k n)) ∧ Below w.heap.size w wr) (fun i wr => n - (intOf i).toNat)
  case atStart => exact ⟨0, by omega, rfl, by rw [fillA_zero]; exact Row.new _ _ _, (Below.refl _ _).alloc (Nat.le_refl _) _⟩
  case round =>
    obtain ⟨k, hk, rfl, hr, hb⟩ := hrel
    have HR := Lib.hid hr; clear hr
    by_cases hlt : k < n
    · obtain ⟨b, off, a0, a1, a2, a3, rfl, hbB, hx, hc0, hc1, hc2, hc3⟩ := (H.out.below hb (Nat.le_refl _)).at_ hlt
      go_wp2_with fail
      refine (toArc_any a0 a1 a2 a3 wr).mono ?_
      rintro e wo ⟨rfl, hb1⟩
      have HR1 := Lib.hid (HR.out.below hb1 HR.out.lt)
      obtain ⟨d0, d1, d2, d3⟩ := fa_get (fillA_get hl.out hlt)
      have e0 := HR1.out.cell (k * 4); have e1 := HR1.out.cell (k * 4 + 1); have e2 := HR1.out.cell (k * 4 + 2); have e3 := HR1.out.cell (k * 4 + 3)
      rw [d0] at e0; rw [d1] at e1; rw [d2] at e2; rw [d3] at e3
      have f0 := HR1.out.frozen (k * 4); have f1 := HR1.out.frozen (k * 4 + 1); have f2 := HR1.out.frozen (k * 4 + 2); have f3 := HR1.out.frozen (k * 4 + 3)
      clear d0 d1 d2 d3
      go_wp2_with fail
      go_roundw
      case rel =>
        refine ⟨k + 1, by omega, by go_num, ?_, ((((hb.trans (hb1.mono hb.size)).setCell (Nat.le_refl _) _).setCell (Nat.le_refl _) _).setCell (Nat.le_refl _) _).setCell (Nat.le_refl _) _⟩
        rw [← fillA_set hl.out hlt hx.out, ← fa_set (by rw [fillA_length hl.out (by omega)]; exact hlt)]
        exact (((HR1.out.set_ _ _).set_ _ _).set_ _ _).set_ _ _
      case measure => simp [intOf]; omega
    · obtain rfl : n = k := by omega
      go_wp2_with fail
      go_ret
      refine ⟨_, rfl, Nat.le_refl _, ?_, hb⟩
      have := HR.out
      rw [fillA_all hl.out] at this
      exact this
theorem szArcS_any (A : Option Addr) (n c : Nat) (left : Int) (w : World) (h0 : 0 ≤ left) (h1 : left ≤ 1048576) (hn : n ≤ 9223372036854775807) :
    Calls Try.prog 48 #[.slice A n c, .int .i64 left] w fun e w' => ∃ z : Int, e = .returned (.int .i64 z) ∧ -1 ≤ z ∧ z ≤ 1048576 ∧ (0 ≤ z → n ≤ 1048576) ∧ w = w' := by
  have w1 : IntKind.i64.wrap (left - (n : Int)) = left - (n : Int) := IntWalk.i64_in _ (by omega)
  by_cases hb : left - (n : Int) < 0
  · go_enter Try.func48, Try.ntmps48
    go_wp2_with fail
    go_ret
    exact ⟨-1, rfl, by omega, by omega, fun h => by omega, rfl⟩
  · have hb' : (0 : Int) ≤ left - (n : Int) := by omega
    clear hb
    go_enter Try.func48, Try.ntmps48
    go_wp2_with fail
    go_ret
    exact ⟨left - (n : Int), rfl, by omega, by omega, fun h => by omega, rfl⟩
theorem eqArc_same (a b c d : Int) (w : World) :
    Calls Try.prog 89 #[.agg #[.int .i64 a, .int .i64 b, .int .i64 c, .int .i64 d], .agg #[.int .i64 a, .int .i64 b, .int .i64 c, .int .i64 d]] w fun e w' => e = .returned (.bool true) ∧ Below w.heap.size w w' := by
  go_enter Try.func89, Try.ntmps89
  go_wp2_with fail
  go_ret
  exact ⟨rfl, ((Below.refl _ _).alloc (Nat.le_refl _) _).alloc (by simp) _⟩
set_option maxHeartbeats 1000000 in
theorem eqArcS_same (A : Option Addr) (n c : Nat) (A' : Option Addr) (c' : Nat) (L : List A4) (w : World) {B B' : Nat} (h : SlA w w.heap.size A n L) (h' : SlA w w.heap.size A' n L) (hn : n ≤ 4294967296) :
    Calls Try.prog 68 #[.slice A n c, .slice A' n c'] w fun e w' => e = .returned (.bool true) ∧ Below w.heap.size w w' := by
  have H := Lib.hid h; clear h
  have H' := Lib.hid h'; clear h'
  go_enter Try.func68, Try.ntmps68
  go_wp2_with fail
  go_loopw [5] (fun i wr => ∃ k : Nat, k ≤ n ∧ i = .int .i64 k ∧ Below w.heap.size w wr) (fun i wr => n - (intOf i).toNat)
  case atStart => exact ⟨0, by omega, rfl, Below.refl _ _⟩
  case round =>
    obtain ⟨k, hk, rfl, hb⟩ := hrel
    by_cases hlt : k < n
    · obtain ⟨b, off, x0, x1, x2, x3, rfl, hbB, hx, c0, c1, c2, c3⟩ := (H.out.below hb (Nat.le_refl _)).at_ hlt
      obtain ⟨b', off', y0, y1, y2, y3, rfl, hbB', hy, c0', c1', c2', c3'⟩ := (H'.out.below hb (Nat.le_refl _)).at_ hlt
      have he := hx.out
      rw [hy.out] at he
      simp only [Option.some.injEq, Prod.mk.injEq] at he
      obtain ⟨rfl, rfl, rfl, rfl⟩ := he
      have hi0 : (0 : Int) ≤ (k : Int) := by omega
      have hi1 : (k : Int) < (n : Int) := by omega
      go_wp2_with fail
      have hcells : ∀ x : World, Below wr.heap.size wr x → (x.cell? ⟨b, off + k * 4, none⟩ = some (.int .i64 y0) ∧ x.cell? ⟨b, off + k * 4 + 1, none⟩ = some (.int .i64 y1) ∧ x.cell? ⟨b, off + k * 4 + 2, none⟩ = some (.int .i64 y2) ∧ x.cell? ⟨b, off + k * 4 + 3, none⟩ = some (.int .i64 y3) ∧ x.cell? ⟨b', off' + k * 4, none⟩ = some (.int .i64 y0) ∧ x.cell? ⟨b', off' + k * 4 + 1, none⟩ = some (.int .i64 y1) ∧ x.cell? ⟨b', off' + k * 4 + 2, none⟩ = some (.int .i64 y2) ∧ x.cell? ⟨b', off' + k * 4 + 3, none⟩ = some (.int .i64 y3)) := by
        intro x hx
        have h1 := hb.size
        exact ⟨(hx.cell (p := ⟨b, off + k * 4, none⟩) (show b < wr.heap.size by omega)).trans c0, (hx.cell (p := ⟨b, off + k * 4 + 1, none⟩) (show b < wr.heap.size by omega)).trans c1, (hx.cell (p := ⟨b, off + k * 4 + 2, none⟩) (show b < wr.heap.size by omega)).trans c2, (hx.cell (p := ⟨b, off + k * 4 + 3, none⟩) (show b < wr.heap.size by omega)).trans c3, (hx.cell (p := ⟨b', off' + k * 4, none⟩) (show b' < wr.heap.size by omega)).trans c0', (hx.cell (p := ⟨b', off' + k * 4 + 1, none⟩) (show b' < wr.heap.size by omega)).trans c1', (hx.cell (p := ⟨b', off' + k * 4 + 2, none⟩) (show b' < wr.heap.size by omega)).trans c2', (hx.cell (p := ⟨b', off' + k * 4 + 3, none⟩) (show b' < wr.heap.size by omega)).trans c3'⟩
      have hcells := Lib.hid hcells
      have hkeep : Hid (∀ x y : World, Below wr.heap.size wr x → Below x.heap.size x y → (Below wr.heap.size wr y ∧ y.cell? ⟨b, off + k * 4, none⟩ = some (.int .i64 y0) ∧ y.cell? ⟨b, off + k * 4 + 1, none⟩ = some (.int .i64 y1) ∧ y.cell? ⟨b, off + k * 4 + 2, none⟩ = some (.int .i64 y2) ∧ y.cell? ⟨b, off + k * 4 + 3, none⟩ = some (.int .i64 y3) ∧ y.cell? ⟨b', off' + k * 4, none⟩ = some (.int .i64 y0) ∧ y.cell? ⟨b', off' + k * 4 + 1, none⟩ = some (.int .i64 y1) ∧ y.cell? ⟨b', off' + k * 4 + 2, none⟩ = some (.int .i64 y2) ∧ y.cell? ⟨b', off' + k * 4 + 3, none⟩ = some (.int .i64 y3))) := by
        intro x y h1 h2
        have h3 := h1.trans (h2.mono h1.size)
        exact ⟨h3, hcells.out y h3⟩
      have hdr : Below wr.heap.size wr wr.drew := Below.drew (Below.refl _ _)
      go_region_held3 (fun x => Below wr.heap.size wr x ∧ x.cell? ⟨b, off + k * 4, none⟩ = some (.int .i64 y0) ∧ x.cell? ⟨b, off + k * 4 + 1, none⟩ = some (.int .i64 y1) ∧ x.cell? ⟨b, off + k * 4 + 2, none⟩ = some (.int .i64 y2) ∧ x.cell? ⟨b, off + k * 4 + 3, none⟩ = some (.int .i64 y3) ∧ x.cell? ⟨b', off' + k * 4, none⟩ = some (.int .i64 y0) ∧ x.cell? ⟨b', off' + k * 4 + 1, none⟩ = some (.int .i64 y1) ∧ x.cell? ⟨b', off' + k * 4 + 2, none⟩ = some (.int .i64 y2) ∧ x.cell? ⟨b', off' + k * 4 + 3, none⟩ = some (.int .i64 y3)) (first | assumption | go_keep)
        (first
          | (go_at_call 89; refine (eqArc_same _ _ _ _ _).mono ?_; rintro e wz ⟨rfl, hbz⟩; have hkz := (fun h => hkeep.out _ _ h hbz) (by first | assumption | (apply And.left; assumption))))
      have hbz : Below wr.heap.size wr wz := (by first | assumption | (apply And.left; assumption))
      go_wp2_with fail
      exact ⟨⟨k + 1, by omega, by go_num, hb.trans (hbz.mono hb.size)⟩, by simp [intOf]; omega⟩
    · obtain rfl : n = k := by omega
      go_wp2_with fail
      go_ret
      exact ⟨rfl, hb⟩
end Go.Proofs.Ytegponioggpkcaa


namespace Go.Proofs.Ytegponioggpkcaa
open Go.RowKit
set_option linter.unusedVariables false
theorem RowI.nil (w : World) (base : Nat) (t : TypeId) : RowI w base t (.slice none 0 0) [] := ⟨by simp [iv], .inl ⟨rfl, rfl⟩⟩
theorem RowI.but {w w' : World} {base g : Nat} {t : TypeId} {v : Value} {r : List Int} (h : RowI w base t v r) (hb : But g w w') (hg : g < base) : RowI w' base t v r := by
  refine World.ownsRow.kept (row := some g) h ⟨hb.1, hb.2.1, hb.2.2.1, hb.2.2.2.1, fun k hk hne => hb.2.2.2.2 k hk (fun e => hne (by rw [e]))⟩ ?_
  cases hv : v.ownBlock with
  | none => simp
  | some k =>
    have := (World.ownsRow.lt h k hv).1
    simp; omega
theorem eqOwn (v v' : Value) (r : List Int) (b b' : Nat) (w : World) (h : RowI w b 2 v r) (h' : RowI w b' 2 v' r) (hn : r.length ≤ 4294967296) :
    Calls Try.prog 24 #[v, v'] w fun e w' => e = .returned (.bool true) ∧ Below w.heap.size w w' := by
  obtain ⟨A, c, rfl, _, _⟩ := own_form h
  obtain ⟨A', c', rfl, _, _⟩ := own_form h'
  refine (eqInt64S_any A r.length c r A' r.length c' r w w.heap.size w.heap.size (h.sl rfl) (h'.sl rfl) hn hn).mono ?_
  rintro e w' ⟨rfl, hb⟩
  exact ⟨ret_bool (decide_eq_true rfl), hb⟩
theorem But.below' {g B : Nat} {a b : World} (h : But g a b) (hB : B ≤ g) (hs : g < a.heap.size) : Below B a b := h.below hB (by omega)
end Go.Proofs.Ytegponioggpkcaa


namespace Go.Proofs.Ytegponioggpkcaa
open Go.RowKit
set_option linter.unusedVariables false
/-- Blocks from lo to hi alone may have turned; new ones may stand behind. -/
def Kp (lo hi : Nat) (w w' : World) : Prop := w'.os = w.os ∧ w'.tape = w.tape ∧ w'.output = w.output ∧ w.heap.size ≤ w'.heap.size ∧ ∀ k, k < w.heap.size → (k < lo ∨ hi ≤ k) → w'.heap[k]? = w.heap[k]?
theorem But.kp {lo hi g : Nat} {w w' : World} (h : But g w w') (h1 : lo ≤ g) (h2 : g < hi) : Kp lo hi w w' := ⟨h.1, h.2.1, h.2.2.1, h.2.2.2.1, fun k hk hn => h.2.2.2.2 k hk (by omega)⟩
theorem Kp.trans {lo hi : Nat} {a b c : World} (h : Kp lo hi a b) (h' : Kp lo hi b c) : Kp lo hi a c :=
  ⟨h'.1.trans h.1, h'.2.1.trans h.2.1, h'.2.2.1.trans h.2.2.1, Nat.le_trans h.2.2.2.1 h'.2.2.2.1, fun k hk hn => (h'.2.2.2.2 k (Nat.lt_of_lt_of_le hk h.2.2.2.1) hn).trans (h.2.2.2.2 k hk hn)⟩
theorem Kp.refl (lo hi : Nat) (w : World) : Kp lo hi w w := ⟨rfl, rfl, rfl, Nat.le_refl _, fun _ _ _ => rfl⟩
theorem Kp.below {lo hi : Nat} {w w' : World} (h : Kp lo hi w w') (hs : lo ≤ w.heap.size) : Below lo w w' :=
  ⟨h.1, h.2.1, h.2.2.1, h.2.2.2.1, fun k hk => h.2.2.2.2 k (by omega) (.inl hk)⟩
theorem RowN.kp {w w' : World} {lo hi g n : Nat} {t : TypeId} (h : RowN w g t n) (hk : Kp lo hi w w') (hg : g < lo ∨ hi ≤ g) : RowN w' g t n := by
  obtain ⟨vs, hl, hr⟩ := h
  exact ⟨vs, hl, (hk.2.2.2.2 g hr.lt hg).trans hr⟩
theorem RowI.kp {w w' : World} {base lo hi : Nat} {t : TypeId} {v : Value} {r : List Int} (h : RowI w base t v r) (hb : Kp lo hi w w') (hg : hi ≤ base) : RowI w' base t v r := by
  obtain ⟨h1, h2⟩ := h
  refine ⟨h1, ?_⟩
  rcases h2 with h2 | ⟨g', cap, cur, e, hb', hg', rest⟩
  · exact .inl h2
  · exact .inr ⟨g', cap, cur, e, hb', (hb.2.2.2.2 g' (Array.getElem?_eq_some_iff.1 hg').1 (.inr (by omega))).trans hg', rest⟩
end Go.Proofs.Ytegponioggpkcaa


namespace Go.Proofs.Ytegponioggpkcaa
open Go.RowKit
set_option linter.unusedVariables false
theorem Row.slI {w : World} {g : Nat} {t : TypeId} {xs : List Int} (h : Row w g t (iv xs)) : SlI w w.heap.size (some ⟨g, 0, none⟩) xs.length xs := by
  have := h.sl; rw [iv_length] at this; exact this
theorem szInt64S_any (A : Option Addr) (n c : Nat) (left : Int) (w : World) (h0 : 0 ≤ left) (h1 : left ≤ 1048576) (hn : n ≤ 9223372036854775807) :
    Calls Try.prog 49 #[.slice A n c, .int .i64 left] w fun e w' => ∃ z : Int, e = .returned (.int .i64 z) ∧ -1 ≤ z ∧ z ≤ 1048576 ∧ (0 ≤ z → n ≤ 1048576) ∧ w = w' := by
  have w1 : IntKind.i64.wrap (left - (n : Int)) = left - (n : Int) := IntWalk.i64_in _ (by omega)
  by_cases hb : left - (n : Int) < 0
  · go_enter Try.func49, Try.ntmps49
    go_wp2_with fail
    go_ret
    exact ⟨-1, rfl, by omega, by omega, fun h => by omega, rfl⟩
  · have hb' : (0 : Int) ≤ left - (n : Int) := by omega
    clear hb
    go_enter Try.func49, Try.ntmps49
    go_wp2_with fail
    go_ret
    exact ⟨left - (n : Int), rfl, by omega, by omega, fun h => by omega, rfl⟩
theorem eqInt64S_same (A : Option Addr) (n c : Nat) (A' : Option Addr) (c' : Nat) (xs : List Int) (w : World) {B B' : Nat} (h : SlI w B A n xs) (h' : SlI w B' A' n xs) (hn : n ≤ 4294967296) :
    Calls Try.prog 24 #[.slice A n c, .slice A' n c'] w fun e w' => e = .returned (.bool true) ∧ Below w.heap.size w w' :=
  (eqInt64S_any A n c xs A' n c' xs w B B' h h' hn hn).mono fun e w' ⟨h1, h2⟩ => ⟨by rw [h1, decide_eq_true rfl], h2⟩
end Go.Proofs.Ytegponioggpkcaa
