/- Lists of structs of four numbers (arcs): reading, copying, comparing. -/
import Derived.Test.YtchacfienafhlaaMem
import Derived.Test.YtchacfienafhlaaTxt
import Derived.Test.YtchacfienafhlaaMk
import Derived.Deep.RegionHeld3
import Derived.Deep.RegionWith
namespace Go.Proofs.Ytchacfienafhlaa
open Go.RowKit
set_option linter.unusedVariables false
abbrev A4 := Int × Int × Int × Int
/-- The cells of a list of arcs. -/
def fa : List A4 → List Value
  | [] => []
  | a :: l => .int .i64 a.1 :: .int .i64 a.2.1 :: .int .i64 a.2.2.1 :: .int .i64 a.2.2.2 :: fa l
theorem fa_length (l : List A4) : (fa l).length = 4 * l.length := by
  induction l with
  | nil => rfl
  | cons a l ih => simp [fa, ih]; omega
theorem fa_append (l m : List A4) : fa (l ++ m) = fa l ++ fa m := by
  induction l with
  | nil => rfl
  | cons a l ih => simp [fa, ih]
theorem fa_get {l : List A4} {j : Nat} {a : A4} (h : l[j]? = some a) :
    (fa l)[j * 4]? = some (.int .i64 a.1) ∧ (fa l)[j * 4 + 1]? = some (.int .i64 a.2.1) ∧ (fa l)[j * 4 + 2]? = some (.int .i64 a.2.2.1) ∧ (fa l)[j * 4 + 3]? = some (.int .i64 a.2.2.2) := by
  induction l generalizing j with
  | nil => simp at h
  | cons b l ih =>
    cases j with
    | zero => simp at h; subst h; simp [fa]
    | succ j =>
      simp at h
      have := ih h
      rw [show (j + 1) * 4 = j * 4 + 1 + 1 + 1 + 1 from by omega]
      simpa [fa] using this
/-- The slice value '.slice A n c' reads, in w, as the arcs L; its cells lie in a block below B. -/
def SlA (w : World) (B : Nat) (A : Option Addr) (n : Nat) (L : List A4) : Prop :=
  L.length = n ∧ (0 < n → ∃ b off, A = some ⟨b, off, none⟩ ∧ b < B ∧ ∀ j a, L[j]? = some a → w.cell? ⟨b, off + j * 4, none⟩ = some (.int .i64 a.1) ∧ w.cell? ⟨b, off + j * 4 + 1, none⟩ = some (.int .i64 a.2.1) ∧ w.cell? ⟨b, off + j * 4 + 2, none⟩ = some (.int .i64 a.2.2.1) ∧ w.cell? ⟨b, off + j * 4 + 3, none⟩ = some (.int .i64 a.2.2.2))
section
variable {w w' : World} {B B' n : Nat} {A : Option Addr} {L : List A4}
theorem SlA.len (h : SlA w B A n L) : L.length = n := h.1
theorem SlA.nil (w : World) (B : Nat) (A : Option Addr) : SlA w B A 0 [] := ⟨rfl, fun h => absurd h (by omega)⟩
theorem SlA.keep (h : SlA w B A n L) (hk : ∀ b o, b < B → w'.cell? ⟨b, o, none⟩ = w.cell? ⟨b, o, none⟩) : SlA w' B A n L :=
  ⟨h.1, fun hn => by
    obtain ⟨b, off, e, hb, hc⟩ := h.2 hn
    refine ⟨b, off, e, hb, fun j a ha => ?_⟩
    rw [hk _ _ hb, hk _ _ hb, hk _ _ hb, hk _ _ hb]
    exact hc j a ha⟩
theorem SlA.more (h : SlA w B A n L) (hB : B ≤ B') : SlA w B' A n L :=
  ⟨h.1, fun hn => by
    obtain ⟨b, off, e, hb, hc⟩ := h.2 hn
    exact ⟨b, off, e, by omega, hc⟩⟩
theorem SlA.below (h : SlA w B A n L) (hb : Below B' w w') (hB : B ≤ B') : SlA w' B A n L :=
  h.keep fun b o hlt => hb.cell (p := ⟨b, o, none⟩) (show b < B' by omega)
theorem SlA.at_ {k : Nat} (h : SlA w B A n L) (hk : k < n) :
    ∃ b off a0 a1 a2 a3, A = some ⟨b, off, none⟩ ∧ b < B ∧ Hid (L[k]? = some (a0, a1, a2, a3)) ∧ w.cell? ⟨b, off + k * 4, none⟩ = some (.int .i64 a0) ∧ w.cell? ⟨b, off + k * 4 + 1, none⟩ = some (.int .i64 a1) ∧ w.cell? ⟨b, off + k * 4 + 2, none⟩ = some (.int .i64 a2) ∧ w.cell? ⟨b, off + k * 4 + 3, none⟩ = some (.int .i64 a3) := by
  obtain ⟨hl, h2⟩ := h
  obtain ⟨b, off, e, hb, hc⟩ := h2 (by omega)
  obtain ⟨a, ha⟩ : ∃ a, L[k]? = some a := ⟨L[k], List.getElem?_eq_getElem (by omega)⟩
  obtain ⟨c0, c1, c2, c3⟩ := hc k a ha
  exact ⟨b, off, a.1, a.2.1, a.2.2.1, a.2.2.2, e, hb, ha, c0, c1, c2, c3⟩
end
theorem Row.slA {w : World} {g : Nat} {t : TypeId} {L : List A4} (h : Row w g t (fa L)) : SlA w w.heap.size (some ⟨g, 0, none⟩) L.length L :=
  ⟨rfl, fun _ => ⟨g, 0, rfl, h.lt, fun j a ha => by
    obtain ⟨c0, c1, c2, c3⟩ := fa_get ha
    rw [Nat.zero_add, h.cell, h.cell, h.cell, h.cell]
    exact ⟨c0, c1, c2, c3⟩⟩⟩
theorem Row.newAt (w : World) (t : TypeId) (vs : List Value) {g : Nat} (hg : w.heap.size = g) : Row (w.alloc (.cells vs.toArray t)) g t vs := by subst hg; exact Row.new w t vs
def zA : A4 := (0, 0, 0, 0)
theorem fa_zero (n : Nat) : fa (List.replicate n zA) = List.replicate (n * 4) (.int .i64 0) := by
  induction n with
  | zero => rfl
  | succ n ih => rw [List.replicate_succ, show (n + 1) * 4 = n * 4 + 1 + 1 + 1 + 1 from by omega, List.replicate_succ, List.replicate_succ, List.replicate_succ, List.replicate_succ, ← ih]; rfl
theorem made4 (n : Nat) : madeCells (Value.agg #[.int .i64 0, .int .i64 0, .int .i64 0, .int .i64 0]).cells (n * 4) = (fa (List.replicate n zA)).toArray := by
  rw [fa_zero]
  apply Array.ext
  · simp [size_madeCells]
  · intro i h1 h2
    have h3 : i % 4 < 4 := Nat.mod_lt _ (by omega)
    have h4 : i % 4 = 0 ∨ i % 4 = 1 ∨ i % 4 = 2 ∨ i % 4 = 3 := by omega
    rcases h4 with h4 | h4 | h4 | h4 <;> simp [madeCells, Value.cells, h4]
theorem run_make4 {P : Program} (t e : TypeId) (ht : P.underlying t = some (.slice e)) (hinfo : (P.info? e).map (fun i => (i.zero, i.size, i.bytes)) = some (some (.agg #[.int .i64 0, .int .i64 0, .int .i64 0, .int .i64 0]), 4, 32))
    (n : Nat) (hn : n ≤ 4294967296) (w : World) :
    (Instr.makeSlice t (.int .i64 (n : Int)) (.int .i64 (n : Int))).run P w = .ok (.slice (some ⟨w.heap.size, 0, none⟩) n n) (w.alloc (.cells (fa (List.replicate n zA)).toArray e)) := by
  obtain ⟨i, hi, hzz⟩ := Option.map_eq_some_iff.1 hinfo
  simp only [Prod.mk.injEq] at hzz
  obtain ⟨hz, hs, hb⟩ := hzz
  have hr := run_make (P := P) w t e i _ ht hi hz .i64 .i64 n n (by omega) (Int.le_refl _) (by rw [hb]; omega) (by omega)
  simp only [Int.toNat_natCast, hs, made4] at hr
  exact hr
theorem fa_set {l : List A4} {j : Nat} (h : j < l.length) (a b c d : Int) :
    ((((fa l).set (j * 4) (.int .i64 a)).set (j * 4 + 1) (.int .i64 b)).set (j * 4 + 2) (.int .i64 c)).set (j * 4 + 3) (.int .i64 d) = fa (l.set j (a, b, c, d)) := by
  induction l generalizing j with
  | nil => simp at h
  | cons x l ih =>
    cases j with
    | zero => simp [fa]
    | succ j =>
      simp at h
      rw [show (j + 1) * 4 = j * 4 + 1 + 1 + 1 + 1 from by omega, show j * 4 + 1 + 1 + 1 + 1 + 1 = (j * 4 + 1) + 1 + 1 + 1 + 1 from by omega]
      simpa [fa] using ih h
/-- The first k of L, then zero arcs up to n. -/
def fillA (L : List A4) (k n : Nat) : List A4 := L.take k ++ List.replicate (n - k) zA
theorem fillA_zero (L : List A4) (n : Nat) : fillA L 0 n = List.replicate n zA := by simp [fillA]
theorem fillA_all {L : List A4} {n : Nat} (h : L.length = n) : fillA L n n = L := by simp [fillA, List.take_of_length_le (Nat.le_of_eq h)]
theorem fillA_length {L : List A4} {k n : Nat} (h : L.length = n) (hk : k ≤ n) : (fillA L k n).length = n := by simp [fillA]; omega
theorem fillA_get {L : List A4} {k n : Nat} (h : L.length = n) (hk : k < n) : (fillA L k n)[k]? = some zA := by
  unfold fillA
  rw [List.getElem?_append_right (by simp; omega), List.getElem?_replicate, List.length_take]
  simp; omega
theorem fillA_set {L : List A4} {k n : Nat} {a : A4} (h : L.length = n) (hk : k < n) (ha : L[k]? = some a) : (fillA L k n).set k a = fillA L (k + 1) n := by
  unfold fillA
  obtain ⟨hk', rfl⟩ := List.getElem?_eq_some_iff.1 ha
  have hl : (L.take k).length = k := by simp; omega
  rw [List.set_append_right _ _ (by omega), hl, Nat.sub_self, List.take_succ_eq_append_getElem hk', List.append_assoc]
  obtain ⟨m, hm⟩ : ∃ m, n - k = m + 1 := ⟨n - k - 1, by omega⟩
  rw [hm, List.replicate_succ, List.set_cons_zero, show n - (k + 1) = m from by omega]
  rfl
set_option maxHeartbeats 1000000 in
theorem toPairArc_any (a b c d : Int) (w : World) :
    Calls Try.prog 80 #[.agg #[.int .i64 a, .int .i64 b, .int .i64 c, .int .i64 d]] w fun e w' => e = .returned (.agg #[.int .i64 a, .int .i64 b, .int .i64 c, .int .i64 d]) ∧ Below w.heap.size w w' := by
  go_enter Try.func80, Try.ntmps80
  go_wp2_with fail
  refine bodyPost_ret (results_cell_row rfl _ _ (w.heap.size + 1) 113 #[.int .i64 a, .int .i64 b, .int .i64 c, .int .i64 d] (0, 0) _ rfl (Row.alloc (Row.newAt _ _ [.int .i64 a, .int .i64 b, .int .i64 c, .int .i64 d] (by simp)) _) Try.underlying113 rfl (by kernel_rfl)) rfl ?_
  exact ⟨rfl, (((Below.refl _ _).alloc (Nat.le_refl _) _).alloc (by simp) _).alloc (by simp; omega) _⟩
theorem infoPA : (Try.prog.info? 113).map (fun i => (i.zero, i.size, i.bytes)) = some (some (.agg #[.int .i64 0, .int .i64 0, .int .i64 0, .int .i64 0]), 4, 32) := by kernel_rfl
set_option maxHeartbeats 1000000 in
theorem toPairArcS_any (A : Option Addr) (n c : Nat) (L : List A4) (w : World) (h : SlA w w.heap.size A n L) (hn : n ≤ 4294967296) :
    Calls Try.prog 59 #[.slice A n c] w fun e w' => ∃ g, e = .returned (.slice (some ⟨g, 0, none⟩) n n) ∧ w.heap.size ≤ g ∧ Row w' g 113 (fa L) ∧ Below w.heap.size w w' := by
  have hl := Lib.hid h.len
  have H := Lib.hid h; clear h
  have hmk := run_make4 (P := Try.prog) 44 113 Try.underlying44 infoPA n hn
  go_enter Try.func59, Try.ntmps59
  go_wp2_with fail
  clear hmk
  go_loopw [4] (fun i wr => ∃ k : Nat, k ≤ n ∧ i = .int .i64 k ∧ Row wr w.heap.size 113 (fa (fillA L k n)) ∧ Below w.heap.size w wr) (fun i wr => n - (intOf i).toNat)
  case atStart => exact ⟨0, by omega, rfl, by rw [fillA_zero]; exact Row.new _ _ _, (Below.refl _ _).alloc (Nat.le_refl _) _⟩
  case round =>
    obtain ⟨k, hk, rfl, hr, hb⟩ := hrel
    have HR := Lib.hid hr; clear hr
    by_cases hlt : k < n
    · obtain ⟨b, off, a0, a1, a2, a3, rfl, hbB, hx, hc0, hc1, hc2, hc3⟩ := (H.out.below hb (Nat.le_refl _)).at_ hlt
      go_wp2_with fail
      refine (toPairArc_any a0 a1 a2 a3 wr).mono ?_
      rintro e wo ⟨rfl, hb1⟩
      have HR1 := Lib.hid (HR.out.below hb1 HR.out.lt)
      obtain ⟨d0, d1, d2, d3⟩ := fa_get (fillA_get hl.out hlt)
      have e0 := HR1.out.cell (k * 4); have e1 := HR1.out.cell (k * 4 + 1); have e2 := HR1.out.cell (k * 4 + 2); have e3 := HR1.out.cell (k * 4 + 3)
      rw [d0] at e0; rw [d1] at e1; rw [d2] at e2; rw [d3] at e3
      have f0 := HR1.out.frozen (k * 4); have f1 := HR1.out.frozen (k * 4 + 1); have f2 := HR1.out.frozen (k * 4 + 2); have f3 := HR1.out.frozen (k * 4 + 3)
      clear d0 d1 d2 d3
      go_wp2_with fail
      go_roundw
      case rel =>
        refine ⟨k + 1, by omega, by go_num, ?_, ((((hb.trans (hb1.mono hb.size)).setCell (Nat.le_refl _) _).setCell (Nat.le_refl _) _).setCell (Nat.le_refl _) _).setCell (Nat.le_refl _) _⟩
        rw [← fillA_set hl.out hlt hx.out, ← fa_set (by rw [fillA_length hl.out (by omega)]; exact hlt)]
        exact (((HR1.out.set_ _ _).set_ _ _).set_ _ _).set_ _ _
      case measure => simp [intOf]; omega
    · obtain rfl : n = k := by omega
      go_wp2_with fail
      go_ret
      refine ⟨_, rfl, Nat.le_refl _, ?_, hb⟩
      have := HR.out
      rw [fillA_all hl.out] at this
      exact this
theorem szPairArcS_any (A : Option Addr) (n c : Nat) (left : Int) (w : World) (h0 : 0 ≤ left) (h1 : left ≤ 1048576) (hn : n ≤ 9223372036854775807) :
    Calls Try.prog 54 #[.slice A n c, .int .i64 left] w fun e w' => ∃ z : Int, e = .returned (.int .i64 z) ∧ -1 ≤ z ∧ z ≤ 1048576 ∧ (0 ≤ z → n ≤ 1048576) ∧ w = w' := by
  have w1 : IntKind.i64.wrap (left - (n : Int)) = left - (n : Int) := IntWalk.i64_in _ (by omega)
  by_cases hb : left - (n : Int) < 0
  · go_enter Try.func54, Try.ntmps54
    go_wp2_with fail
    go_ret
    exact ⟨-1, rfl, by omega, by omega, fun h => by omega, rfl⟩
  · have hb' : (0 : Int) ≤ left - (n : Int) := by omega
    clear hb
    go_enter Try.func54, Try.ntmps54
    go_wp2_with fail
    go_ret
    exact ⟨left - (n : Int), rfl, by omega, by omega, fun h => by omega, rfl⟩
theorem eqPairArc_same (a b c d : Int) (w : World) :
    Calls Try.prog 82 #[.agg #[.int .i64 a, .int .i64 b, .int .i64 c, .int .i64 d], .agg #[.int .i64 a, .int .i64 b, .int .i64 c, .int .i64 d]] w fun e w' => e = .returned (.bool true) ∧ Below w.heap.size w w' := by
  go_enter Try.func82, Try.ntmps82
  go_wp2_with fail
  go_ret
  exact ⟨rfl, ((Below.refl _ _).alloc (Nat.le_refl _) _).alloc (by simp) _⟩
set_option maxHeartbeats 1000000 in
theorem eqPairArcS_same (A : Option Addr) (n c : Nat) (A' : Option Addr) (c' : Nat) (L : List A4) (w : World) {B B' : Nat} (h : SlA w w.heap.size A n L) (h' : SlA w w.heap.size A' n L) (hn : n ≤ 4294967296) :
    Calls Try.prog 64 #[.slice A n c, .slice A' n c'] w fun e w' => e = .returned (.bool true) ∧ Below w.heap.size w w' := by
  have H := Lib.hid h; clear h
  have H' := Lib.hid h'; clear h'
  go_enter Try.func64, Try.ntmps64
  go_wp2_with fail
  go_loopw [5] (fun i wr => ∃ k : Nat, k ≤ n ∧ i = .int .i64 k ∧ Below w.heap.size w wr) (fun i wr => n - (intOf i).toNat)
  case atStart => exact ⟨0, by omega, rfl, Below.refl _ _⟩
  case round =>
    obtain ⟨k, hk, rfl, hb⟩ := hrel
    by_cases hlt : k < n
    · obtain ⟨b, off, x0, x1, x2, x3, rfl, hbB, hx, c0, c1, c2, c3⟩ := (H.out.below hb (Nat.le_refl _)).at_ hlt
      obtain ⟨b', off', y0, y1, y2, y3, rfl, hbB', hy, c0', c1', c2', c3'⟩ := (H'.out.below hb (Nat.le_refl _)).at_ hlt
      have he := hx.out
      rw [hy.out] at he
      simp only [Option.some.injEq, Prod.mk.injEq] at he
      obtain ⟨rfl, rfl, rfl, rfl⟩ := he
      have hi0 : (0 : Int) ≤ (k : Int) := by omega
      have hi1 : (k : Int) < (n : Int) := by omega
      go_wp2_with fail
      have hcells : ∀ x : World, Below wr.heap.size wr x → (x.cell? ⟨b, off + k * 4, none⟩ = some (.int .i64 y0) ∧ x.cell? ⟨b, off + k * 4 + 1, none⟩ = some (.int .i64 y1) ∧ x.cell? ⟨b, off + k * 4 + 2, none⟩ = some (.int .i64 y2) ∧ x.cell? ⟨b, off + k * 4 + 3, none⟩ = some (.int .i64 y3) ∧ x.cell? ⟨b', off' + k * 4, none⟩ = some (.int .i64 y0) ∧ x.cell? ⟨b', off' + k * 4 + 1, none⟩ = some (.int .i64 y1) ∧ x.cell? ⟨b', off' + k * 4 + 2, none⟩ = some (.int .i64 y2) ∧ x.cell? ⟨b', off' + k * 4 + 3, none⟩ = some (.int .i64 y3)) := by
        intro x hx
        have h1 := hb.size
        exact ⟨(hx.cell (p := ⟨b, off + k * 4, none⟩) (show b < wr.heap.size by omega)).trans c0, (hx.cell (p := ⟨b, off + k * 4 + 1, none⟩) (show b < wr.heap.size by omega)).trans c1, (hx.cell (p := ⟨b, off + k * 4 + 2, none⟩) (show b < wr.heap.size by omega)).trans c2, (hx.cell (p := ⟨b, off + k * 4 + 3, none⟩) (show b < wr.heap.size by omega)).trans c3, (hx.cell (p := ⟨b', off' + k * 4, none⟩) (show b' < wr.heap.size by omega)).trans c0', (hx.cell (p := ⟨b', off' + k * 4 + 1, none⟩) (show b' < wr.heap.size by omega)).trans c1', (hx.cell (p := ⟨b', off' + k * 4 + 2, none⟩) (show b' < wr.heap.size by omega)).trans c2', (hx.cell (p := ⟨b', off' + k * 4 + 3, none⟩) (show b' < wr.heap.size by omega)).trans c3'⟩
      have hcells := Lib.hid hcells
      have hkeep : Hid (∀ x y : World, Below wr.heap.size wr x → Below x.heap.size x y → (Below wr.heap.size wr y ∧ y.cell? ⟨b, off + k * 4, none⟩ = some (.int .i64 y0) ∧ y.cell? ⟨b, off + k * 4 + 1, none⟩ = some (.int .i64 y1) ∧ y.cell? ⟨b, off + k * 4 + 2, none⟩ = some (.int .i64 y2) ∧ y.cell? ⟨b, off + k * 4 + 3, none⟩ = some (.int .i64 y3) ∧ y.cell? ⟨b', off' + k * 4, none⟩ = some (.int .i64 y0) ∧ y.cell? ⟨b', off' + k * 4 + 1, none⟩ = some (.int .i64 y1) ∧ y.cell? ⟨b', off' + k * 4 + 2, none⟩ = some (.int .i64 y2) ∧ y.cell? ⟨b', off' + k * 4 + 3, none⟩ = some (.int .i64 y3))) := by
        intro x y h1 h2
        have h3 := h1.trans (h2.mono h1.size)
        exact ⟨h3, hcells.out y h3⟩
      have hdr : Below wr.heap.size wr wr.drew := Below.drew (Below.refl _ _)
      go_region_held3 (fun x => Below wr.heap.size wr x ∧ x.cell? ⟨b, off + k * 4, none⟩ = some (.int .i64 y0) ∧ x.cell? ⟨b, off + k * 4 + 1, none⟩ = some (.int .i64 y1) ∧ x.cell? ⟨b, off + k * 4 + 2, none⟩ = some (.int .i64 y2) ∧ x.cell? ⟨b, off + k * 4 + 3, none⟩ = some (.int .i64 y3) ∧ x.cell? ⟨b', off' + k * 4, none⟩ = some (.int .i64 y0) ∧ x.cell? ⟨b', off' + k * 4 + 1, none⟩ = some (.int .i64 y1) ∧ x.cell? ⟨b', off' + k * 4 + 2, none⟩ = some (.int .i64 y2) ∧ x.cell? ⟨b', off' + k * 4 + 3, none⟩ = some (.int .i64 y3)) (first | assumption | go_keep)
        (first
          | (go_at_call 82; refine (eqPairArc_same _ _ _ _ _).mono ?_; rintro e wz ⟨rfl, hbz⟩; have hkz := (fun h => hkeep.out _ _ h hbz) (by first | assumption | (apply And.left; assumption))))
      have hbz : Below wr.heap.size wr wz := (by first | assumption | (apply And.left; assumption))
      go_wp2_with fail
      exact ⟨⟨k + 1, by omega, by go_num, hb.trans (hbz.mono hb.size)⟩, by simp [intOf]; omega⟩
    · obtain rfl : n = k := by omega
      go_wp2_with fail
      go_ret
      exact ⟨rfl, hb⟩
end Go.Proofs.Ytchacfienafhlaa
