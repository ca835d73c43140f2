/- Machines and words drawn from bytes. -/
import Derived.Test.YtedbngnkkfpbeaaMgo
import Derived.Test.YtedbngnkkfpbeaaMgp
import Derived.Test.YtedbngnkkfpbeaaVm
import Derived.Test.YtedbngnkkfpbeaaMgh
import Derived.Test.YtedbngnkkfpbeaaMgj
import Derived.Deep.DeepCutAuto
import Derived.Deep.CutRange

namespace Go.Proofs.Ytedbngnkkfpbeaa
open Go.RowKit
set_option linter.unusedVariables false
set_option maxHeartbeats 1000000 in
theorem pick1_any (w : World) (lo g : Nat) (a : Option Addr) (n c : Nat) (z : List Int) (i : Nat) (sd : Int) (h : Src w lo g a n c z i sd) (hi : i ≤ 1000000) (hn : n ≤ maxLen) (m : Nat) (h1 : 1 ≤ m) (h2 : m ≤ 200) :
    Calls Try.prog 27 #[.pointer (some ⟨g, 0, none⟩), .int .i64 m] w (SrcOut w lo g a n c z i m) := by
  by_cases hm : 1 < m
  · exact pick3_any w lo g a n c z i sd h hi hn m hm h2
  · obtain rfl : m = 1 := by omega
    have H := Lib.hid h
    clear h
    go_enter Try.func27, Try.ntmps27
    go_wp2_with fail
    go_ret
    exact ⟨0, i, sd, by omega, by omega, by omega, rfl, H.out, Below.refl _ _, rfl, fun _ _ => rfl⟩
def SrcB (w : World) (lo g : Nat) (a : Option Addr) (n c : Nat) (z : List Int) (i : Nat) (e : Ending) (w' : World) : Prop :=
  ∃ (x : Bool) (j : Nat) (sd : Int), j ≤ i + 2 ∧ e = .returned (.bool x) ∧ Src w' lo g a n c z j sd ∧ Below g w w' ∧ w'.heap.size = w.heap.size ∧ ∀ k, k ≠ g → w'.heap[k]? = w.heap[k]?
set_option maxHeartbeats 1000000 in
theorem one1_any (w : World) (lo g : Nat) (a : Option Addr) (n c : Nat) (z : List Int) (i : Nat) (sd : Int) (h : Src w lo g a n c z i sd) (hi : i ≤ 1000000) (hn : n ≤ maxLen) (m : Nat) (h1 : 1 ≤ m) (h2 : m ≤ 200) :
    Calls Try.prog 58 #[.pointer (some ⟨g, 0, none⟩), .int .i64 m] w (SrcB w lo g a n c z i) := by
  have hP := pick1_any w lo g a n c z i sd h hi hn m h1 h2
  clear h
  go_enter Try.func58, Try.ntmps58
  go_wp2_with fail
  refine hP.mono ?_
  clear hP
  rintro e w1 ⟨x, j, sd', x0, x1, hj, rfl, hs, hb, hz, hk⟩
  have HK := Lib.hid hk; have HS := Lib.hid hs; have HB := Lib.hid hb; have HZ := Lib.hid hz
  clear hk hs hb hz
  go_wp2_with fail
  go_ret
  exact ⟨_, j, sd', hj, rfl, HS.out, HB.out, HZ.out, HK.out⟩
theorem Src.move {w w' : World} {lo g n c i : Nat} {a : Option Addr} {z : List Int} {sd : Int} (h : Src w lo g a n c z i sd) (hk : ∀ k, k ≤ g → w'.heap[k]? = w.heap[k]?) : Src w' lo g a n c z i sd :=
  ⟨(hk g (Nat.le_refl _)).trans h.1, h.2.1, h.2.2.keep fun b o hlt => World.cell?_of_block (a := ⟨b, o, none⟩) (hk b (by have := h.2.1; omega))⟩
/-- While a machine is drawn: the reader, and the machine's box. -/
def Dr (w0 x : World) (gS : Nat) (a : Option Addr) (n c : Nat) (z : List Int) (i lo g9 : Nat) (S T : Int) (v2 v3 v4 : Value) (n2 n3 n4 : Nat) (X2 X3 X4 : List Value) : Prop :=
  (∃ sd, Src x gS gS a n c z i sd) ∧ Below gS w0 x ∧ gS < lo ∧ ∃ x0, M3 x0 x lo g9 28 89 2 2 4 1 1 (.int .i64 S) (.int .i64 T) v2 v3 v4 n2 n3 n4 X2 X3 X4
section
variable {w0 x x' : World} {gS n c i lo g9 n2 n3 n4 : Nat} {a : Option Addr} {z : List Int} {S T : Int} {v2 v3 v4 : Value} {X2 X3 X4 : List Value}
theorem Dr.m3 (h : Dr w0 x gS a n c z i lo g9 S T v2 v3 v4 n2 n3 n4 X2 X3 X4) : ∃ x0, M3 x0 x lo g9 28 89 2 2 4 1 1 (.int .i64 S) (.int .i64 T) v2 v3 v4 n2 n3 n4 X2 X3 X4 := h.2.2.2
theorem Dr.row (h : Dr w0 x gS a n c z i lo g9 S T v2 v3 v4 n2 n3 n4 X2 X3 X4) : Row x g9 28 [.int .i64 S, .int .i64 T, v2, v3, v4] := h.m3.choose_spec.row
theorem Dr.bel (h : Dr w0 x gS a n c z i lo g9 S T v2 v3 v4 n2 n3 n4 X2 X3 X4) : Below gS w0 x := h.2.1
theorem Dr.size (h : Dr w0 x gS a n c z i lo g9 S T v2 v3 v4 n2 n3 n4 X2 X3 X4) : lo ≤ x.heap.size := h.m3.choose_spec.size
theorem Dr.o2 (h : Dr w0 x gS a n c z i lo g9 S T v2 v3 v4 n2 n3 n4 X2 X3 X4) : x.ownsRow lo 89 4 v2 n2 X2 := h.m3.choose_spec.o2
theorem Dr.o3 (h : Dr w0 x gS a n c z i lo g9 S T v2 v3 v4 n2 n3 n4 X2 X3 X4) : x.ownsRow lo 2 1 v3 n3 X3 := h.m3.choose_spec.o3
theorem Dr.o4 (h : Dr w0 x gS a n c z i lo g9 S T v2 v3 v4 n2 n3 n4 X2 X3 X4) : x.ownsRow lo 2 1 v4 n4 X4 := h.m3.choose_spec.o4
theorem Dr.alloc (h : Dr w0 x gS a n c z i lo g9 S T v2 v3 v4 n2 n3 n4 X2 X3 X4) (o : Obj) : Dr w0 (x.alloc o) gS a n c z i lo g9 S T v2 v3 v4 n2 n3 n4 X2 X3 X4 := by
  obtain ⟨⟨sd, hs⟩, hb, hl, x0, hm⟩ := h
  exact ⟨⟨sd, hs.keep ((Below.refl _ _).alloc (Nat.le_refl _) o) hs.1.lt⟩, hb.alloc (Nat.le_of_lt hs.1.lt) o, hl, x0, hm.alloc o⟩
theorem Dr.far (h : Dr w0 x gS a n c z i lo g9 S T v2 v3 v4 n2 n3 n4 X2 X3 X4) {b q : Nat} (hb : lo ≤ b) (h1 : g9 ≠ b) (h2 : v2.ownBlock ≠ some b) (h3 : v3.ownBlock ≠ some b) (h4 : v4.ownBlock ≠ some b) (u : Value) : Dr w0 (x.setCell ⟨b, q, none⟩ u) gS a n c z i lo g9 S T v2 v3 v4 n2 n3 n4 X2 X3 X4 := by
  obtain ⟨⟨sd, hs⟩, hbl, hl, x0, hm⟩ := h
  exact ⟨⟨sd, hs.move (fun k hk => Below.heap_setCell x ⟨b, q, none⟩ u k (show k ≠ b by omega))⟩, hbl.setCell (p := ⟨b, q, none⟩) (show gS ≤ b by omega) u, hl, x0, hm.far (p := ⟨b, q, none⟩) hb h1 h2 h3 h4 u⟩
theorem Dr.pick (h : Dr w0 x gS a n c z i lo g9 S T v2 v3 v4 n2 n3 n4 X2 X3 X4) {j : Nat} {sd : Int} (hs : Src x' gS gS a n c z j sd) (hb : Below gS x x') (hk : ∀ k, k ≠ gS → x'.heap[k]? = x.heap[k]?) (hz : x'.heap.size = x.heap.size) : Dr w0 x' gS a n c z j lo g9 S T v2 v3 v4 n2 n3 n4 X2 X3 X4 := by
  obtain ⟨_, hbl, hl, x0, hm⟩ := h
  refine ⟨⟨sd, hs⟩, hbl.trans hb, hl, x', ?_⟩
  have hg := hm.gb
  exact ⟨(hk g9 (by omega)).trans hm.row, Below.refl _ _, hm.gb, by rw [hz]; exact hm.size, own_move hm.o2 (fun k hh => hk k (by have := (hm.o2.lt k hh).1; omega)), own_move hm.o3 (fun k hh => hk k (by have := (hm.o3.lt k hh).1; omega)), own_move hm.o4 (fun k hh => hk k (by have := (hm.o4.lt k hh).1; omega)), hm.d2, hm.d3, hm.d4⟩
theorem Src.grown {sd : Int} {row : Option Nat} (h : Src x gS gS a n c z i sd) (hg : x.grownBy x' row) (hr : ∀ k, row = some k → gS < k) : Src x' gS gS a n c z i sd :=
  h.move (fun k hk => hg.block k (Nat.lt_of_le_of_lt hk h.1.lt) (fun e => by have := hr k e.symm; omega))
theorem Dr.push2 (h : Dr w0 x gS a n c z i lo g9 S T v2 v3 v4 n2 n3 n4 X2 X3 X4) {u : Value} {m : Nat} {Y : List Value} (ho : x'.ownsRow lo 89 4 u m Y) (hg : x.grownBy x' v2.ownBlock) (hat : u.ownBlock = v2.ownBlock ∨ u.ownBlock = some x.heap.size) : Dr w0 (x'.setCell ⟨g9, 2, none⟩ u) gS a n c z i lo g9 S T u v3 v4 m n3 n4 Y X3 X4 := by
  obtain ⟨⟨sd, hs⟩, hbl, hl, x0, hm⟩ := h
  have hr : ∀ k, v2.ownBlock = some k → gS < k := fun k hk => by have := (hm.o2.lt k hk).1; omega
  have hg9 := hm.gb
  exact ⟨⟨sd, (hs.grown hg hr).move (fun k hk => Below.heap_setCell x' ⟨g9, 2, none⟩ u k (show k ≠ g9 by omega))⟩, (hbl.grown hg (Nat.le_of_lt hs.1.lt) (fun k hk => Nat.le_of_lt (hr k hk))).setCell (p := ⟨g9, 2, none⟩) (show gS ≤ g9 by omega) u, hl, x0, hm.push2 ho hg hat⟩
theorem Dr.push3 (h : Dr w0 x gS a n c z i lo g9 S T v2 v3 v4 n2 n3 n4 X2 X3 X4) {u : Value} {m : Nat} {Y : List Value} (ho : x'.ownsRow lo 2 1 u m Y) (hg : x.grownBy x' v3.ownBlock) (hat : u.ownBlock = v3.ownBlock ∨ u.ownBlock = some x.heap.size) : Dr w0 (x'.setCell ⟨g9, 3, none⟩ u) gS a n c z i lo g9 S T v2 u v4 n2 m n4 X2 Y X4 := by
  obtain ⟨⟨sd, hs⟩, hbl, hl, x0, hm⟩ := h
  have hr : ∀ k, v3.ownBlock = some k → gS < k := fun k hk => by have := (hm.o3.lt k hk).1; omega
  have hg9 := hm.gb
  exact ⟨⟨sd, (hs.grown hg hr).move (fun k hk => Below.heap_setCell x' ⟨g9, 3, none⟩ u k (show k ≠ g9 by omega))⟩, (hbl.grown hg (Nat.le_of_lt hs.1.lt) (fun k hk => Nat.le_of_lt (hr k hk))).setCell (p := ⟨g9, 3, none⟩) (show gS ≤ g9 by omega) u, hl, x0, hm.push3 ho hg hat⟩
theorem Dr.push4 (h : Dr w0 x gS a n c z i lo g9 S T v2 v3 v4 n2 n3 n4 X2 X3 X4) {u : Value} {m : Nat} {Y : List Value} (ho : x'.ownsRow lo 2 1 u m Y) (hg : x.grownBy x' v4.ownBlock) (hat : u.ownBlock = v4.ownBlock ∨ u.ownBlock = some x.heap.size) : Dr w0 (x'.setCell ⟨g9, 4, none⟩ u) gS a n c z i lo g9 S T v2 v3 u n2 n3 m X2 X3 Y := by
  obtain ⟨⟨sd, hs⟩, hbl, hl, x0, hm⟩ := h
  have hr : ∀ k, v4.ownBlock = some k → gS < k := fun k hk => by have := (hm.o4.lt k hk).1; omega
  have hg9 := hm.gb
  exact ⟨⟨sd, (hs.grown hg hr).move (fun k hk => Below.heap_setCell x' ⟨g9, 4, none⟩ u k (show k ≠ g9 by omega))⟩, (hbl.grown hg (Nat.le_of_lt hs.1.lt) (fun k hk => Nat.le_of_lt (hr k hk))).setCell (p := ⟨g9, 4, none⟩) (show gS ≤ g9 by omega) u, hl, x0, hm.push4 ho hg hat⟩
theorem pickD (h : Dr w0 x gS a n c z i lo g9 S T v2 v3 v4 n2 n3 n4 X2 X3 X4) (hi : i ≤ 1000) (hn : n ≤ maxLen) (m : Nat) (h1 : 1 ≤ m) (h2 : m ≤ 200) :
    Calls Try.prog 27 #[.pointer (some ⟨gS, 0, none⟩), .int .i64 m] x fun e x' => ∃ (v : Int) (j : Nat), 0 ≤ v ∧ v < m ∧ j ≤ i + 2 ∧ e = .returned (.int .i64 v) ∧ Dr w0 x' gS a n c z j lo g9 S T v2 v3 v4 n2 n3 n4 X2 X3 X4 ∧ x'.heap.size = x.heap.size ∧ ∀ k, k ≠ gS → x'.heap[k]? = x.heap[k]? := by
  have hd := h
  obtain ⟨⟨sd, hs⟩, _⟩ := h
  refine (pick1_any x gS gS a n c z i sd hs (by omega) hn m h1 h2).mono ?_
  rintro e x' ⟨v, j, sd', v0, v1, hj, rfl, hs', hb', hz', hk'⟩
  exact ⟨v, j, v0, v1, hj, rfl, hd.pick hs' hb' hk' hz', hz', hk'⟩
theorem oneD (h : Dr w0 x gS a n c z i lo g9 S T v2 v3 v4 n2 n3 n4 X2 X3 X4) (hi : i ≤ 1000) (hn : n ≤ maxLen) (m : Nat) (h1 : 1 ≤ m) (h2 : m ≤ 200) :
    Calls Try.prog 58 #[.pointer (some ⟨gS, 0, none⟩), .int .i64 m] x fun e x' => ∃ (v : Bool) (j : Nat), j ≤ i + 2 ∧ e = .returned (.bool v) ∧ Dr w0 x' gS a n c z j lo g9 S T v2 v3 v4 n2 n3 n4 X2 X3 X4 ∧ x'.heap.size = x.heap.size ∧ ∀ k, k ≠ gS → x'.heap[k]? = x.heap[k]? := by
  have hd := h
  obtain ⟨⟨sd, hs⟩, _⟩ := h
  refine (one1_any x gS gS a n c z i sd hs (by omega) hn m h1 h2).mono ?_
  rintro e x' ⟨v, j, sd', hj, rfl, hs', hb', hz', hk'⟩
  exact ⟨v, j, hj, rfl, hd.pick hs' hb' hk' hz', hz', hk'⟩
end
/-- What is known of the machines that the laws draw. -/
structure Dwn (s t : Nat) (em : Bool) (L : List A4) (P E : List Int) : Prop where
  np : P.length = s
  ne : E.length = s
  nl : L.length ≤ 2 * s + 2
  arc : ∀ a ∈ L, 0 ≤ a.1 ∧ a.1 < s ∧ 0 ≤ a.2.1 ∧ a.2.1 < s ∧ -1 ≤ a.2.2.1 ∧ a.2.2.1 < t ∧ 0 ≤ a.2.2.2 ∧ a.2.2.2 ≤ 8 ∧ (em = false → 0 ≤ a.2.2.1)
  st : ∀ x ∈ P, -1 ≤ x ∧ x ≤ 3
  en : ∀ x ∈ E, -1 ≤ x ∧ x ≤ 3
def okD (s t : Nat) (em : Bool) (L : List A4) : Prop := ∀ a ∈ L, 0 ≤ a.1 ∧ a.1 < s ∧ 0 ≤ a.2.1 ∧ a.2.1 < s ∧ -1 ≤ a.2.2.1 ∧ a.2.2.1 < t ∧ 0 ≤ a.2.2.2 ∧ a.2.2.2 ≤ 8 ∧ (em = false → 0 ≤ a.2.2.1)
def okE (P : List Int) : Prop := ∀ x ∈ P, -1 ≤ x ∧ x ≤ 3
theorem okE.snoc {P : List Int} (h : okE P) {x : Int} (hx : -1 ≤ x ∧ x ≤ 3) : okE (P ++ [x]) := fun y hy => by
  rw [List.mem_append, List.mem_singleton] at hy
  rcases hy with hy | rfl
  · exact h y hy
  · exact hx
theorem okD.snoc {s t : Nat} {em : Bool} {L : List A4} (h : okD s t em L) {a : A4} (ha : 0 ≤ a.1 ∧ a.1 < s ∧ 0 ≤ a.2.1 ∧ a.2.1 < s ∧ -1 ≤ a.2.2.1 ∧ a.2.2.1 < t ∧ 0 ≤ a.2.2.2 ∧ a.2.2.2 ≤ 8 ∧ (em = false → 0 ≤ a.2.2.1)) : okD s t em (L ++ [a]) := fun y hy => by
  rw [List.mem_append, List.mem_singleton] at hy
  rcases hy with hy | rfl
  · exact h y hy
  · exact ha
set_option maxRecDepth 100000 in
set_option maxHeartbeats 8000000 in
theorem sides_any (w : World) (gS : Nat) (a : Option Addr) (n c : Nat) (z : List Int) (sd : Int) (h : Src w gS gS a n c z 0 sd) (hn : n ≤ maxLen) (s t : Nat) (hs1 : 1 ≤ s) (hs2 : s ≤ 6) (ht1 : 1 ≤ t) (ht2 : t ≤ 4) (em : Bool) :
    Calls Try.prog 26 #[.pointer (some ⟨gS, 0, none⟩), .int .i64 (s : Int), .int .i64 (t : Int), .bool em] w fun e w' => ∃ (L : List A4) (P E : List Int) (p2 p3 p4 c2 c3 c4 : Nat), Dwn s t em L P E ∧ e = .returned (.agg #[.int .i64 (s : Int), .int .i64 (t : Int), .slice (some ⟨p2, 0, none⟩) L.length c2, .slice (some ⟨p3, 0, none⟩) P.length c3, .slice (some ⟨p4, 0, none⟩) E.length c4]) ∧ w'.ownsRow (gS + 1) 89 4 (.slice (some ⟨p2, 0, none⟩) L.length c2) L.length (fa L) ∧ RowI w' (gS + 1) 2 (.slice (some ⟨p3, 0, none⟩) P.length c3) P ∧ RowI w' (gS + 1) 2 (.slice (some ⟨p4, 0, none⟩) E.length c4) E ∧ Below gS w w' := by
  have hgl := h.1.lt
  have r8 := (Row.new w 28 [.int .i64 0, .int .i64 0, .slice none 0 0, .slice none 0 0, .slice none 0 0])
  have ra : (w.alloc (.cells ([.int .i64 0, .int .i64 0, .slice none 0 0, .slice none 0 0, .slice none 0 0] : List Value).toArray 28)).heap.size = w.heap.size + 1 := by simp
  have rb : ((w.alloc (.cells ([.int .i64 0, .int .i64 0, .slice none 0 0, .slice none 0 0, .slice none 0 0] : List Value).toArray 28)).alloc (.cells #[] 89)).heap.size = w.heap.size + 1 + 1 := by simp
  have hx8 : Below w.heap.size w (((w.alloc (.cells ([.int .i64 0, .int .i64 0, .slice none 0 0, .slice none 0 0, .slice none 0 0] : List Value).toArray 28)).alloc (.cells #[] 89)).alloc (.cells ([.int .i64 (s : Int), .int .i64 (t : Int), .slice (some ⟨w.heap.size + 1, 0, none⟩) 0 0, .slice none 0 0, .slice none 0 0] : List Value).toArray 28)) := (((Below.refl _ _).alloc (Nat.le_refl _) _).alloc (by simp) _).alloc (by simp; omega) _
  have ho2 := World.ownsRow_made (w.alloc (.cells ([.int .i64 0, .int .i64 0, .slice none 0 0, .slice none 0 0, .slice none 0 0] : List Value).toArray 28)) #[] 0 (e := 89) (size := 4) (base := w.heap.size + 1) (by rw [ra]; exact Nat.le_refl _) (by unfold maxLen; omega) rfl
  rw [ra] at ho2
  have ho2' := ho2.alloc (.cells ([.int .i64 (s : Int), .int .i64 (t : Int), .slice (some ⟨w.heap.size + 1, 0, none⟩) 0 0, .slice none 0 0, .slice none 0 0] : List Value).toArray 28)
  have hrow := Row.new ((w.alloc (.cells ([.int .i64 0, .int .i64 0, .slice none 0 0, .slice none 0 0, .slice none 0 0] : List Value).toArray 28)).alloc (.cells #[] 89)) 28 [.int .i64 (s : Int), .int .i64 (t : Int), .slice (some ⟨w.heap.size + 1, 0, none⟩) 0 0, .slice none 0 0, .slice none 0 0]
  rw [rb] at hrow
  have h8 := ((Row.alloc r8 (.cells #[] 89)).alloc (.cells ([.int .i64 (s : Int), .int .i64 (t : Int), .slice (some ⟨w.heap.size + 1, 0, none⟩) 0 0, .slice none 0 0, .slice none 0 0] : List Value).toArray 28))
  have HD : Dr w (((w.alloc (.cells ([.int .i64 0, .int .i64 0, .slice none 0 0, .slice none 0 0, .slice none 0 0] : List Value).toArray 28)).alloc (.cells #[] 89)).alloc (.cells ([.int .i64 (s : Int), .int .i64 (t : Int), .slice (some ⟨w.heap.size + 1, 0, none⟩) 0 0, .slice none 0 0, .slice none 0 0] : List Value).toArray 28)) gS a n c z 0 (w.heap.size + 1) (w.heap.size + 1 + 1) s t (.slice (some ⟨w.heap.size + 1, 0, none⟩) 0 0) (.slice none 0 0) (.slice none 0 0) 0 0 0 [] [] [] := by
    refine ⟨⟨sd, h.keep hx8 hgl⟩, hx8.mono (Nat.le_of_lt hgl), by omega, (((w.alloc (.cells ([.int .i64 0, .int .i64 0, .slice none 0 0, .slice none 0 0, .slice none 0 0] : List Value).toArray 28)).alloc (.cells #[] 89)).alloc (.cells ([.int .i64 (s : Int), .int .i64 (t : Int), .slice (some ⟨w.heap.size + 1, 0, none⟩) 0 0, .slice none 0 0, .slice none 0 0] : List Value).toArray 28)), hrow, Below.refl _ _, by omega, by simp, ho2', World.ownsRow_nil _ _ _ _, World.ownsRow_nil _ _ _ _, fun k hk => ?_, fun k hk => by simp [Value.ownBlock] at hk, fun k hk => by simp [Value.ownBlock] at hk⟩
    simp [Value.ownBlock] at hk
    subst hk
    exact ⟨by omega, by simp [Value.ownBlock], by simp [Value.ownBlock]⟩
  have H8 := Lib.hid h8
  clear r8 ra rb hx8 ho2 ho2' hrow h8 h
  obtain ⟨lo, hlo⟩ : ∃ x, x = w.heap.size + 1 := ⟨_, rfl⟩
  obtain ⟨g9, hg9⟩ : ∃ x, x = w.heap.size + 1 + 1 := ⟨_, rfl⟩
  obtain ⟨x0, hx0⟩ : ∃ x, x = (((w.alloc (.cells ([.int .i64 0, .int .i64 0, .slice none 0 0, .slice none 0 0, .slice none 0 0] : List Value).toArray 28)).alloc (.cells #[] 89)).alloc (.cells ([.int .i64 (s : Int), .int .i64 (t : Int), .slice (some ⟨w.heap.size + 1, 0, none⟩) 0 0, .slice none 0 0, .slice none 0 0] : List Value).toArray 28)) := ⟨_, rfl⟩
  rw [← hx0] at HD H8
  rw [← hg9, ← hlo] at HD
  have HDR := Lib.hid HD; clear HD
  have w1 : IntKind.i64.wrap (2 * (s : Int)) = 2 * (s : Int) := IntWalk.i64_in _ (by omega)
  have w2 : IntKind.i64.wrap (2 * (s : Int) + 2) = ((2 * s + 2 : Nat) : Int) := by rw [IntWalk.i64_in _ (by omega)]; omega
  go_enter Try.func26, Try.ntmps26
  go_wp2_with fail
  change Calls _ _ _ (((w.alloc (.cells ([.int .i64 0, .int .i64 0, .slice none 0 0, .slice none 0 0, .slice none 0 0] : List Value).toArray 28)).alloc (.cells #[] 89)).alloc (.cells ([.int .i64 (s : Int), .int .i64 (t : Int), .slice (some ⟨w.heap.size + 1, 0, none⟩) 0 0, .slice none 0 0, .slice none 0 0] : List Value).toArray 28)) _
  rw [← hx0]
  try rw [w2]
  rw [← hg9]
  have HLO := Lib.hid hlo; have HG9 := Lib.hid hg9
  clear hx0 hlo hg9
  refine (pickD HDR.out (by omega) hn (2 * s + 2) (by omega) (by omega)).mono ?_
  rintro e y ⟨xn, j0, xn0, xn1, hj0, rfl, hd, hz, hk⟩
  have HD := Lib.hid hd
  have H8y : Hid (Row y w.heap.size 28 [.int .i64 0, .int .i64 0, .slice none 0 0, .slice none 0 0, .slice none 0 0]) := (hk w.heap.size (by omega)).trans H8.out
  have HN9 : Hid (w.heap.size < lo ∧ w.heap.size ≠ g9 ∧ gS < w.heap.size) := ⟨by have := HLO.out; omega, by have := HG9.out; omega, hgl⟩
  clear hd hz hk HDR H8
  obtain ⟨N, hN⟩ : ∃ N : Nat, xn = ((N : Nat) : Int) := ⟨xn.toNat, by omega⟩
  subst hN
  have w3 : IntKind.i64.wrap (1 + (N : Int)) = ((N + 1 : Nat) : Int) := by rw [IntWalk.i64_in _ (by omega)]; omega
  have hN1 : N + 1 ≤ 2 * s + 2 := by omega
  obtain ⟨M, hM⟩ : ∃ M, M = N + 1 := ⟨_, rfl⟩
  rw [← hM] at w3 hN1
  have HN2 : Hid (M ≤ 2 * s + 2) := hN1
  have HM1 : Hid (0 < M) := by show _ < _; omega
  clear hM xn0 xn1 w1 w2
  go_wp2_with fail
  go_loopg [10, 11] M (fun q cn b11 wr => ∃ (k i : Nat) (A : Option Addr) (ca : Nat) (L : List A4), cn = .int .i64 ((M - k : Nat) : Int) ∧ k ≤ M ∧ M ≤ q + k ∧ i ≤ 2 + 10 * k ∧ Hid (L.length = k) ∧ Hid (okD s t em L) ∧ Hid (Dr w wr gS a n c z i lo g9 s t (.slice A k ca) (.slice none 0 0) (.slice none 0 0) k 0 0 (fa L) [] []) ∧ Hid (Row wr w.heap.size 28 [.int .i64 0, .int .i64 0, .slice none 0 0, .slice none 0 0, .slice none 0 0]))
  case atStart => exact ⟨0, j0, _, _, [], by first | rfl | (rw [w3]; rfl), by omega, by omega, by omega, rfl, (fun a ha => by cases ha), HD.out, H8y.out⟩
  case round =>
    clear HD H8y
    obtain ⟨k, i, A, ca, L, rfl, hk, hq, hi, HL, HOK, HD, H8⟩ := hrel
    obtain ⟨wo, rfl⟩ : ∃ x : World, x = wr := ⟨_, rfl⟩
    by_cases hlt : k < M
    · have q1 : (0 : Int) < ((M - k : Nat) : Int) := by omega
      go_wp2_with fail
      refine (pickD HD.out (by omega) hn s hs1 (by omega)).mono ?_
      rintro e y1 ⟨a0, j1, a00, a01, hj1, rfl, hd1, hz1, hk1⟩
      obtain ⟨gb, hgb⟩ : ∃ x, x = y1.heap.size := ⟨_, rfl⟩
      obtain ⟨x1, hx1⟩ : ∃ x, x = y1.alloc (.cells ([.int .i64 a0, .int .i64 0, .int .i64 0, .int .i64 0] : List Value).toArray 89) := ⟨_, rfl⟩
      have ra := Row.new y1 89 [.int .i64 a0, .int .i64 0, .int .i64 0, .int .i64 0]
      have hda := hd1.alloc (.cells ([.int .i64 a0, .int .i64 0, .int .i64 0, .int .i64 0] : List Value).toArray 89)
      have h81 : Row y1 w.heap.size 28 [.int .i64 0, .int .i64 0, .slice none 0 0, .slice none 0 0, .slice none 0 0] := (hk1 w.heap.size (by have := HN9.out.2.2; omega)).trans H8.out
      have h8a := h81.alloc (.cells ([.int .i64 a0, .int .i64 0, .int .i64 0, .int .i64 0] : List Value).toArray 89)
      have HGB : Hid (lo ≤ gb ∧ g9 ≠ gb ∧ gS < gb ∧ w.heap.size < gb) := ⟨by rw [hgb]; exact hd1.size, by rw [hgb]; have := hd1.row.lt; omega, by rw [hgb]; have := hd1.size; have := hd1.2.2.1; omega, by rw [hgb]; exact h81.lt⟩
      have HNE : Hid ((Value.slice A k ca).ownBlock ≠ some gb) := fun e => by have := (hd1.o2.lt gb e).2; omega
      rw [← hgb, ← hx1] at ra
      rw [← hx1] at hda h8a
      have RA1 := Lib.hid ra; have HD1 := Lib.hid hda; have H81 := Lib.hid h8a
      clear ra hda h8a h81 hd1 hz1 hk1
      go_wp2_with fail
      change Calls _ _ _ (y1.alloc (.cells ([.int .i64 a0, .int .i64 0, .int .i64 0, .int .i64 0] : List Value).toArray 89)) _
      rw [← hx1]
      try rw [← hgb]
      clear hx1 hgb
      refine (pickD HD1.out (by omega) hn s hs1 (by omega)).mono ?_
      rintro e y2 ⟨a1, j2, a10, a11, hj2, rfl, hd2, hz2, hk2⟩
      have ra : Row y2 gb 89 [.int .i64 a0, .int .i64 0, .int .i64 0, .int .i64 0] := (hk2 gb (by have := HGB.out.2.2.1; omega)).trans RA1.out
      have h8 : Row y2 w.heap.size 28 [.int .i64 0, .int .i64 0, .slice none 0 0, .slice none 0 0, .slice none 0 0] := (hk2 w.heap.size (by have := HN9.out.2.2; omega)).trans H81.out
      have s1 := ra.cell 1; have f1 := ra.frozen 1
      have ra' := ra.set_ 1 (.int .i64 a1)
      have ra' : Row (y2.setCell ⟨gb, 1, none⟩ (.int .i64 a1)) gb 89 [.int .i64 a0, .int .i64 a1, .int .i64 0, .int .i64 0] := ra'
      have hd' := hd2.far (q := 1) HGB.out.1 HGB.out.2.1 HNE.out (by simp [Value.ownBlock]) (by simp [Value.ownBlock]) (.int .i64 a1)
      have h8' := h8.far (p := ⟨gb, 1, none⟩) (show w.heap.size ≠ gb by have := HGB.out.2.2.2; omega) (.int .i64 a1)
      obtain ⟨x2, hx2⟩ : ∃ x, x = y2.setCell ⟨gb, 1, none⟩ (.int .i64 a1) := ⟨_, rfl⟩
      rw [← hx2] at ra' hd' h8'
      have RA2 := Lib.hid ra'; have HD2 := Lib.hid hd'; have H82 := Lib.hid h8'
      clear ra ra' hd' h8 h8' hd2 hz2 hk2 RA1 HD1 H81
      go_wp2_with fail
      clear s1 f1
      rw [← hx2]
      clear hx2
      refine (pickD HD2.out (by omega) hn t ht1 (by omega)).mono ?_
      rintro e y3 ⟨a2, j3, a20, a21, hj3, rfl, hd3, hz3, hk3⟩
      have ra : Row y3 gb 89 [.int .i64 a0, .int .i64 a1, .int .i64 0, .int .i64 0] := (hk3 gb (by have := HGB.out.2.2.1; omega)).trans RA2.out
      have h8 : Row y3 w.heap.size 28 [.int .i64 0, .int .i64 0, .slice none 0 0, .slice none 0 0, .slice none 0 0] := (hk3 w.heap.size (by have := HN9.out.2.2; omega)).trans H82.out
      have s1 := ra.cell 2; have f1 := ra.frozen 2
      have ra' := ra.set_ 2 (.int .i64 a2)
      have ra' : Row (y3.setCell ⟨gb, 2, none⟩ (.int .i64 a2)) gb 89 [.int .i64 a0, .int .i64 a1, .int .i64 a2, .int .i64 0] := ra'
      have hd' := hd3.far (q := 2) HGB.out.1 HGB.out.2.1 HNE.out (by simp [Value.ownBlock]) (by simp [Value.ownBlock]) (.int .i64 a2)
      have h8' := h8.far (p := ⟨gb, 2, none⟩) (show w.heap.size ≠ gb by have := HGB.out.2.2.2; omega) (.int .i64 a2)
      obtain ⟨x3, hx3⟩ : ∃ x, x = y3.setCell ⟨gb, 2, none⟩ (.int .i64 a2) := ⟨_, rfl⟩
      rw [← hx3] at ra' hd' h8'
      have RA3 := Lib.hid ra'; have HD3 := Lib.hid hd'; have H83 := Lib.hid h8'
      clear ra ra' hd' h8 h8' hd3 hz3 hk3 RA2 HD2 H82
      go_wp2_with fail
      clear s1 f1
      rw [← hx3]
      clear hx3
      refine (pickD HD3.out (by omega) hn 9 (by omega) (by omega)).mono ?_
      rintro e y4 ⟨a3, j4, a30, a31, hj4, rfl, hd4, hz4, hk4⟩
      have ra : Row y4 gb 89 [.int .i64 a0, .int .i64 a1, .int .i64 a2, .int .i64 0] := (hk4 gb (by have := HGB.out.2.2.1; omega)).trans RA3.out
      have h8 : Row y4 w.heap.size 28 [.int .i64 0, .int .i64 0, .slice none 0 0, .slice none 0 0, .slice none 0 0] := (hk4 w.heap.size (by have := HN9.out.2.2; omega)).trans H83.out
      have s1 := ra.cell 3; have f1 := ra.frozen 3
      have ra' := ra.set_ 3 (.int .i64 a3)
      have ra' : Row (y4.setCell ⟨gb, 3, none⟩ (.int .i64 a3)) gb 89 [.int .i64 a0, .int .i64 a1, .int .i64 a2, .int .i64 a3] := ra'
      have hd' := hd4.far (q := 3) HGB.out.1 HGB.out.2.1 HNE.out (by simp [Value.ownBlock]) (by simp [Value.ownBlock]) (.int .i64 a3)
      have h8' := h8.far (p := ⟨gb, 3, none⟩) (show w.heap.size ≠ gb by have := HGB.out.2.2.2; omega) (.int .i64 a3)
      obtain ⟨x4, hx4⟩ : ∃ x, x = y4.setCell ⟨gb, 3, none⟩ (.int .i64 a3) := ⟨_, rfl⟩
      rw [← hx4] at ra' hd' h8'
      have RA4 := Lib.hid ra'; have HD4 := Lib.hid hd'; have H84 := Lib.hid h8'
      clear ra ra' hd' h8 h8' hd4 hz4 hk4 RA3 HD3 H83
      go_upto_region 9 with fail
      clear s1 f1
      rw [← hx4]
      clear hx4
      go_cut [48] from 44 to 49 (fun b48 wx => ∃ (b : Bool) (j : Nat), b48 = .bool b ∧ j ≤ j4 + 2 ∧ Hid (b = true → em = true) ∧ Hid (Row wx gb 89 [.int .i64 a0, .int .i64 a1, .int .i64 a2, .int .i64 a3]) ∧ Hid (Dr w wx gS a n c z j lo g9 s t (.slice A k ca) (.slice none 0 0) (.slice none 0 0) k 0 0 (fa L) [] []) ∧ Hid (Row wx w.heap.size 28 [.int .i64 0, .int .i64 0, .slice none 0 0, .slice none 0 0, .slice none 0 0]))
      case first =>
        cases em with
        | false =>
          go_wp2_with fail
          go_meet
          exact ⟨false, j4, rfl, by omega, (fun h => by cases h), RA4.out, HD4.out, H84.out⟩
        | true =>
          go_wp2_with fail
          refine (oneD HD4.out (by omega) hn 5 (by omega) (by omega)).mono ?_
          rintro e y5 ⟨b, j5, hj5, rfl, hd5, hz5, hk5⟩
          have ra : Row y5 gb 89 [.int .i64 a0, .int .i64 a1, .int .i64 a2, .int .i64 a3] := (hk5 gb (by have := HGB.out.2.2.1; omega)).trans RA4.out
          have h8 : Row y5 w.heap.size 28 [.int .i64 0, .int .i64 0, .slice none 0 0, .slice none 0 0, .slice none 0 0] := (hk5 w.heap.size (by have := HN9.out.2.2; omega)).trans H84.out
          have RA5 := Lib.hid ra; have HD5 := Lib.hid hd5; have H85 := Lib.hid h8
          clear ra h8 hd5 hz5 hk5
          go_wp2_with fail
          go_meet
          exact ⟨b, j5, rfl, by omega, (fun _ => by first | rfl | trivial), RA5.out, HD5.out, H85.out⟩
      case rest =>
      clear RA4 HD4 H84
      obtain ⟨b, j5, rfl, hj5, HEM, RA5, HD5, H85⟩ := hcut
      cases b with
      | false =>
        obtain ⟨x5, rfl⟩ : ∃ x : World, x = wc := ⟨_, rfl⟩
        have c0 := RA5.out.cell 0; have c1 := RA5.out.cell 1; have c2 := RA5.out.cell 2; have c3 := RA5.out.cell 3
        have b2 := HD5.out.row.cell 2
        have hda := HD5.out.alloc (.cells ([.int .i64 a0, .int .i64 a1, .int .i64 a2, .int .i64 a3] : List Value).toArray 89)
        have HOA := Lib.hid hda.o2
        have hsz : lo ≤ (x5.alloc (.cells ([.int .i64 a0, .int .i64 a1, .int .i64 a2, .int .i64 a3] : List Value).toArray 89)).heap.size := hda.size
        have HCE : Hid (∀ (j : Nat) (u : Value), ([.int .i64 a0, .int .i64 a1, .int .i64 a2, .int .i64 a3] : List Value)[j]? = some u → (x5.alloc (.cells ([.int .i64 a0, .int .i64 a1, .int .i64 a2, .int .i64 a3] : List Value).toArray 89)).cell? ⟨x5.heap.size, 0 + j, none⟩ = some u) := fun j u hu => by rw [Nat.zero_add, (Row.new x5 89 [.int .i64 a0, .int .i64 a1, .int .i64 a2, .int .i64 a3]).cell, hu]
        have HDA := Lib.hid hda
        have H8A := Lib.hid (H85.out.alloc (.cells ([.int .i64 a0, .int .i64 a1, .int .i64 a2, .int .i64 a3] : List Value).toArray 89))
        have HSZ := Lib.hid hsz
        have hk14 : k + 1 ≤ 4294967296 := by omega
        clear hda
        go_wp2_with (first | (at_builtin; refine wpList_cells_push rfl (.tmp 51) (.tmp 53) _ rfl lo 89 (.agg #[.int .i64 0, .int .i64 0, .int .i64 0, .int .i64 0]) 4 32 Try.underlying25 infoAr rfl (by omega) (by omega) (.slice A k ca) k (fa L) rfl HOA.out x5.heap.size 0 1 1 [.int .i64 a0, .int .i64 a1, .int .i64 a2, .int .i64 a3] rfl rfl HCE.out (fa_one [(a0, a1, a2, a3)]) hk14 HSZ.out ?_; intro v' w' hown hgr hat; obtain ⟨A', c', hv', _, _⟩ := own_form hown; subst hv'; have HP := Lib.hid (HDA.out.push2 hown hgr hat); have hrw : Row w' g9 28 _ := HDA.out.row.grown hgr (fun e => by obtain ⟨_, hm⟩ := HDA.out.m3; exact (hm.d2 g9 e.symm).1 rfl); have s2 := hrw.cell 2; have f2 := hrw.frozen 2; have H8P := Lib.hid ((H8A.out.grown hgr (fun e => by have := (HDA.out.o2.lt w.heap.size e.symm).1; have := HN9.out.1; omega)).far (p := ⟨g9, 2, none⟩) HN9.out.2.1 (.slice A' (k + 1) c')); clear hrw hown hgr hat))
        go_roundg (gk - 1)
        case measure => omega
        case rel =>
          refine ⟨k + 1, j5, A', c', L ++ [(a0, a1, a2, a3)], by go_num, by omega, by omega, by omega, ?_, ?_, ?_, H8P.out⟩
          · show _ = _; rw [List.length_append, HL.out]; rfl
          · exact HOK.out.snoc (a := (a0, a1, a2, a3)) ⟨a00, a01, a10, a11, (by show (-1 : Int) ≤ a2; omega), a21, a30, (by show a3 ≤ 8; omega), fun _ => a20⟩
          · show Dr _ _ _ _ _ _ _ _ _ _ _ _ _ _ _ _ _ _ _ _ _
            rw [fa_append]; exact HP.out
      | true =>
        have s1 := RA5.out.cell 2; have f1 := RA5.out.frozen 2
        have HEM1 : Hid (em = true) := HEM.out rfl
        go_upto_region 11 with fail
        clear s1 f1
        obtain ⟨x5, hx5⟩ : ∃ x, x = wc.setCell ⟨gb, 2, none⟩ (.int .i64 (-1)) := ⟨_, rfl⟩
        have ra6 : Row (wc.setCell ⟨gb, 2, none⟩ (.int .i64 (-1))) gb 89 [.int .i64 a0, .int .i64 a1, .int .i64 (-1), .int .i64 a3] := RA5.out.set_ 2 (.int .i64 (-1))
        have hd6 := HD5.out.far (q := 2) HGB.out.1 HGB.out.2.1 HNE.out (by simp [Value.ownBlock]) (by simp [Value.ownBlock]) (.int .i64 (-1))
        have h86 := H85.out.far (p := ⟨gb, 2, none⟩) (show w.heap.size ≠ gb by have := HGB.out.2.2.2; omega) (.int .i64 (-1))
        rw [← hx5] at ra6 hd6 h86 ⊢
        have RA6 := Lib.hid ra6; have HD6 := Lib.hid hd6; have H86 := Lib.hid h86
        clear ra6 hd6 h86 hx5 RA5 HD5 H85
        have c0 := RA6.out.cell 0; have c1 := RA6.out.cell 1; have c2 := RA6.out.cell 2; have c3 := RA6.out.cell 3
        have b2 := HD6.out.row.cell 2
        have hda := HD6.out.alloc (.cells ([.int .i64 a0, .int .i64 a1, .int .i64 (-1), .int .i64 a3] : List Value).toArray 89)
        have HOA := Lib.hid hda.o2
        have hsz : lo ≤ (x5.alloc (.cells ([.int .i64 a0, .int .i64 a1, .int .i64 (-1), .int .i64 a3] : List Value).toArray 89)).heap.size := hda.size
        have HCE : Hid (∀ (j : Nat) (u : Value), ([.int .i64 a0, .int .i64 a1, .int .i64 (-1), .int .i64 a3] : List Value)[j]? = some u → (x5.alloc (.cells ([.int .i64 a0, .int .i64 a1, .int .i64 (-1), .int .i64 a3] : List Value).toArray 89)).cell? ⟨x5.heap.size, 0 + j, none⟩ = some u) := fun j u hu => by rw [Nat.zero_add, (Row.new x5 89 [.int .i64 a0, .int .i64 a1, .int .i64 (-1), .int .i64 a3]).cell, hu]
        have HDA := Lib.hid hda
        have H8A := Lib.hid (H86.out.alloc (.cells ([.int .i64 a0, .int .i64 a1, .int .i64 (-1), .int .i64 a3] : List Value).toArray 89))
        have HSZ := Lib.hid hsz
        have hk14 : k + 1 ≤ 4294967296 := by omega
        clear hda
        go_wp2_with (first | (at_builtin; refine wpList_cells_push rfl (.tmp 51) (.tmp 53) _ rfl lo 89 (.agg #[.int .i64 0, .int .i64 0, .int .i64 0, .int .i64 0]) 4 32 Try.underlying25 infoAr rfl (by omega) (by omega) (.slice A k ca) k (fa L) rfl HOA.out x5.heap.size 0 1 1 [.int .i64 a0, .int .i64 a1, .int .i64 (-1), .int .i64 a3] rfl rfl HCE.out (fa_one [(a0, a1, (-1), a3)]) hk14 HSZ.out ?_; intro v' w' hown hgr hat; obtain ⟨A', c', hv', _, _⟩ := own_form hown; subst hv'; have HP := Lib.hid (HDA.out.push2 hown hgr hat); have hrw : Row w' g9 28 _ := HDA.out.row.grown hgr (fun e => by obtain ⟨_, hm⟩ := HDA.out.m3; exact (hm.d2 g9 e.symm).1 rfl); have s2 := hrw.cell 2; have f2 := hrw.frozen 2; have H8P := Lib.hid ((H8A.out.grown hgr (fun e => by have := (HDA.out.o2.lt w.heap.size e.symm).1; have := HN9.out.1; omega)).far (p := ⟨g9, 2, none⟩) HN9.out.2.1 (.slice A' (k + 1) c')); clear hrw hown hgr hat))
        go_roundg (gk - 1)
        case measure => omega
        case rel =>
          refine ⟨k + 1, j5, A', c', L ++ [(a0, a1, (-1), a3)], by go_num, by omega, by omega, by omega, ?_, ?_, ?_, H8P.out⟩
          · show _ = _; rw [List.length_append, HL.out]; rfl
          · exact HOK.out.snoc (a := (a0, a1, (-1), a3)) ⟨a00, a01, a10, a11, (by show (-1 : Int) ≤ -1; omega), (by show (-1 : Int) < (t : Int); omega), a30, (by show a3 ≤ 8; omega), fun h => by rw [HEM1.out] at h; cases h⟩
          · show Dr _ _ _ _ _ _ _ _ _ _ _ _ _ _ _ _ _ _ _ _ _
            rw [fa_append]; exact HP.out
    · have hkM : k = M := by omega
      subst hkM
      have q1 : ¬ (0 : Int) < ((k - k : Nat) : Int) := by omega
      have q2 : ((k - k : Nat) : Int) ≤ 0 := by omega
      have ws : IntKind.i64.wrap ((s : Int) - 1) = (s : Int) - 1 := IntWalk.i64_in _ (by omega)
      go_wp2_with fail
      go_loopg [12, 13, 14] s (fun q cn b13 b14 wr => ∃ (r i : Nat) (v3 v4 : Value) (P E : List Int), cn = .int .i64 r ∧ r ≤ s ∧ s ≤ q + r ∧ i ≤ 200 + 8 * r ∧ Hid (P.length = r) ∧ Hid (E.length = r) ∧ Hid (okE P) ∧ Hid (okE E) ∧ Hid (Dr w wr gS a n c z i lo g9 s t (.slice A k ca) v3 v4 k r r (fa L) (iv P) (iv E)) ∧ Hid (Row wr w.heap.size 28 [.int .i64 0, .int .i64 0, .slice none 0 0, .slice none 0 0, .slice none 0 0]))
      case atStart => exact ⟨0, i, _, _, [], [], rfl, by omega, by omega, by omega, rfl, rfl, (fun a ha => by cases ha), (fun a ha => by cases ha), HD.out, H8.out⟩
      case round =>
        clear HD H8
        obtain ⟨r, i, v3, v4, P, E, rfl, hr, hq, hi, HP, HE, HOP, HOE, HD, H8⟩ := hrel
        obtain ⟨wi, rfl⟩ : ∃ x : World, x = wr := ⟨_, rfl⟩
        by_cases hlt2 : r < s
        · have p1 : (r : Int) < (s : Int) := by omega
          go_upto_region 17 with fail
          go_cut [66] from 61 to 67 (fun bb wx => ∃ (b : Bool) (j : Nat), bb = .bool b ∧ j ≤ i + 2 ∧ Hid (Dr w wx gS a n c z j lo g9 s t (.slice A k ca) v3 v4 k r r (fa L) (iv P) (iv E)) ∧ Hid (Row wx w.heap.size 28 [.int .i64 0, .int .i64 0, .slice none 0 0, .slice none 0 0, .slice none 0 0]))
          case first =>
            by_cases hr0 : r = 0
            · have p2 : ((r : Int) == 0) = true := by rw [hr0]; rfl
              clear hr0
              go_wp2_with fail
              go_meet
              exact ⟨true, i, rfl, by omega, HD.out, H8.out⟩
            · have p2 : ((r : Int) == 0) = false := by rw [beq_eq_false_iff_ne]; omega
              clear hr0
              go_wp2_with fail
              refine (oneD HD.out (by omega) hn 5 (by omega) (by omega)).mono ?_
              rintro e y1 ⟨b, j, hj, rfl, hd, hz, hk⟩
              have HD1 := Lib.hid hd; have H81 : Hid (Row y1 w.heap.size 28 [.int .i64 0, .int .i64 0, .slice none 0 0, .slice none 0 0, .slice none 0 0]) := (hk w.heap.size (by have := HN9.out.2.2; omega)).trans H8.out
              clear hd hz hk
              go_wp2_with fail
              go_meet
              exact ⟨b, j, rfl, by omega, HD1.out, H81.out⟩
          case rest =>
          clear HD H8
          obtain ⟨b, jB, rfl, hjB, HD, H8⟩ := hcut
          obtain ⟨wst0, rfl⟩ : ∃ x : World, x = wc := ⟨_, rfl⟩
          go_upto_if 66 with fail
          go_cut [13] from 67 to 69 (fun st wx => ∃ (x : Int) (j : Nat), st = .int .i64 x ∧ -1 ≤ x ∧ x ≤ 3 ∧ j ≤ i + 4 ∧ Hid (Dr w wx gS a n c z j lo g9 s t (.slice A k ca) v3 v4 k r r (fa L) (iv P) (iv E)) ∧ Hid (Row wx w.heap.size 28 [.int .i64 0, .int .i64 0, .slice none 0 0, .slice none 0 0, .slice none 0 0]))
          case first =>
            cases b with
            | false =>
              go_wp2_with fail
              go_meet
              exact ⟨-1, jB, rfl, by omega, by omega, by omega, HD.out, H8.out⟩
            | true =>
              go_wp2_with fail
              refine (pickD HD.out (by omega) hn 4 (by omega) (by omega)).mono ?_
              rintro e y1 ⟨x, j, x0, x1, hj, rfl, hd, hz, hk⟩
              have HD1 := Lib.hid hd; have H81 : Hid (Row y1 w.heap.size 28 [.int .i64 0, .int .i64 0, .slice none 0 0, .slice none 0 0, .slice none 0 0]) := (hk w.heap.size (by have := HN9.out.2.2; omega)).trans H8.out
              clear hd hz hk
              go_wp2_with fail
              go_meet
              exact ⟨x, j, rfl, by omega, by omega, by omega, HD1.out, H81.out⟩
          case rest =>
          clear HD H8
          obtain ⟨st, jst, rfl, st0, st1, hjst, HD, H8⟩ := hcut
          obtain ⟨wst, rfl⟩ : ∃ x : World, x = wc := ⟨_, rfl⟩
          go_upto_region 19 with fail
          go_cut [76] from 69 to 77 (fun bb wx => ∃ (b : Bool) (j : Nat), bb = .bool b ∧ j ≤ jst + 2 ∧ Hid (Dr w wx gS a n c z j lo g9 s t (.slice A k ca) v3 v4 k r r (fa L) (iv P) (iv E)) ∧ Hid (Row wx w.heap.size 28 [.int .i64 0, .int .i64 0, .slice none 0 0, .slice none 0 0, .slice none 0 0]))
          case first =>
            by_cases hr0 : r = s - 1
            · have p2 : ((r : Int) == (s : Int) - 1) = true := by rw [beq_iff_eq]; omega
              clear hr0
              go_wp2_with fail
              go_meet
              exact ⟨true, jst, rfl, by omega, HD.out, H8.out⟩
            · have p2 : ((r : Int) == (s : Int) - 1) = false := by rw [beq_eq_false_iff_ne]; omega
              clear hr0
              go_wp2_with fail
              refine (oneD HD.out (by omega) hn 4 (by omega) (by omega)).mono ?_
              rintro e y1 ⟨b, j, hj, rfl, hd, hz, hk⟩
              have HD1 := Lib.hid hd; have H81 : Hid (Row y1 w.heap.size 28 [.int .i64 0, .int .i64 0, .slice none 0 0, .slice none 0 0, .slice none 0 0]) := (hk w.heap.size (by have := HN9.out.2.2; omega)).trans H8.out
              clear hd hz hk
              go_wp2_with fail
              go_meet
              exact ⟨b, j, rfl, by omega, HD1.out, H81.out⟩
          case rest =>
          clear HD H8
          obtain ⟨b, jB, rfl, hjB, HD, H8⟩ := hcut
          obtain ⟨wen0, rfl⟩ : ∃ x : World, x = wc := ⟨_, rfl⟩
          go_upto_if 76 with fail
          go_cut [14] from 77 to 79 (fun st wx => ∃ (x : Int) (j : Nat), st = .int .i64 x ∧ -1 ≤ x ∧ x ≤ 3 ∧ j ≤ jst + 4 ∧ Hid (Dr w wx gS a n c z j lo g9 s t (.slice A k ca) v3 v4 k r r (fa L) (iv P) (iv E)) ∧ Hid (Row wx w.heap.size 28 [.int .i64 0, .int .i64 0, .slice none 0 0, .slice none 0 0, .slice none 0 0]))
          case first =>
            cases b with
            | false =>
              go_wp2_with fail
              go_meet
              exact ⟨-1, jB, rfl, by omega, by omega, by omega, HD.out, H8.out⟩
            | true =>
              go_wp2_with fail
              refine (pickD HD.out (by omega) hn 4 (by omega) (by omega)).mono ?_
              rintro e y1 ⟨x, j, x0, x1, hj, rfl, hd, hz, hk⟩
              have HD1 := Lib.hid hd; have H81 : Hid (Row y1 w.heap.size 28 [.int .i64 0, .int .i64 0, .slice none 0 0, .slice none 0 0, .slice none 0 0]) := (hk w.heap.size (by have := HN9.out.2.2; omega)).trans H8.out
              clear hd hz hk
              go_wp2_with fail
              go_meet
              exact ⟨x, j, rfl, by omega, by omega, by omega, HD1.out, H81.out⟩
          case rest =>
          clear HD H8
          obtain ⟨en, jen, rfl, en0, en1, hjen, HD, H8⟩ := hcut
          obtain ⟨wen, rfl⟩ : ∃ x : World, x = wc := ⟨_, rfl⟩
          have b3 := HD.out.row.cell 3
          have hda := HD.out.alloc (.cells ([.int .i64 st] : List Value).toArray 2)
          have HO3 := Lib.hid hda.o3
          have HCE : Hid (∀ (j : Nat) (u : Value), ([.int .i64 st] : List Value)[j]? = some u → (wen.alloc (.cells ([.int .i64 st] : List Value).toArray 2)).cell? ⟨wen.heap.size, 0 + j, none⟩ = some u) := fun j u hu => by rw [Nat.zero_add, (Row.new wen 2 [.int .i64 st]).cell, hu]
          have HSZ := Lib.hid hda.size
          have HDA := Lib.hid hda
          have H8A := Lib.hid (H8.out.alloc (.cells ([.int .i64 st] : List Value).toArray 2))
          have hr14 : r + 1 ≤ 4294967296 := by omega
          clear hda
          go_wp2_with (first | (at_builtin; refine wpList_cells_push rfl (.tmp 80) (.tmp 82) _ rfl lo 2 (.int .i64 0) 1 8 Try.underlying26 infoQ rfl (by omega) (by omega) v3 r (iv P) rfl HO3.out wen.heap.size 0 1 1 [.int .i64 st] rfl rfl HCE.out (iv_one [st]) hr14 HSZ.out ?_; intro u3 w' hown hgr hat; obtain ⟨A3, c3, hv3, _, _⟩ := own_form hown; subst hv3; have HP3 := Lib.hid (HDA.out.push3 hown hgr hat); have hrw : Row w' g9 28 _ := HDA.out.row.grown hgr (fun e => by obtain ⟨_, hm⟩ := HDA.out.m3; exact (hm.d3 g9 e.symm).1 rfl); have s2 := hrw.cell 3; have f2 := hrw.frozen 3; have H8P := Lib.hid ((H8A.out.grown hgr (fun e => by have := (HDA.out.o3.lt w.heap.size e.symm).1; have := HN9.out.1; omega)).far (p := ⟨g9, 3, none⟩) HN9.out.2.1 (.slice A3 (r + 1) c3)); have b4 := HP3.out.row.cell 4; have hda4 := HP3.out.alloc (.cells ([.int .i64 en] : List Value).toArray 2); have HO4 := Lib.hid hda4.o4; have HSZ4 := Lib.hid hda4.size; have HDA4 := Lib.hid hda4; have H8A4 := Lib.hid (H8P.out.alloc (.cells ([.int .i64 en] : List Value).toArray 2)); have HCE4 : Hid (∀ (j : Nat) (u : Value), ([.int .i64 en] : List Value)[j]? = some u → ((w'.setCell ⟨g9, 3, none⟩ (.slice A3 (r + 1) c3)).alloc (.cells ([.int .i64 en] : List Value).toArray 2)).cell? ⟨w'.heap.size, 0 + j, none⟩ = some u) := (fun j u hu => by have hrn := (Row.new (w'.setCell ⟨g9, 3, none⟩ (.slice A3 (r + 1) c3)) 2 [.int .i64 en]).cell j; rw [show (w'.setCell ⟨g9, 3, none⟩ (.slice A3 (r + 1) c3)).heap.size = w'.heap.size by simp [World.setCell]] at hrn; rw [Nat.zero_add, hrn, hu]); clear hrw hown hgr hat hda4) | (at_builtin; refine wpList_cells_push rfl (.tmp 86) (.tmp 88) _ rfl lo 2 (.int .i64 0) 1 8 Try.underlying26 infoQ rfl (by omega) (by omega) v4 r (iv E) rfl HO4.out w'.heap.size 0 1 1 [.int .i64 en] rfl rfl HCE4.out (iv_one [en]) hr14 HSZ4.out ?_; intro u4 w'' hown hgr hat; obtain ⟨A4, c4, hv4, _, _⟩ := own_form hown; subst hv4; have HP4 := Lib.hid (HDA4.out.push4 hown hgr hat); have hrw : Row w'' g9 28 _ := HDA4.out.row.grown hgr (fun e => by obtain ⟨_, hm⟩ := HDA4.out.m3; exact hm.d4 g9 e.symm rfl); have s4 := hrw.cell 4; have f4 := hrw.frozen 4; have H8Q := Lib.hid ((H8A4.out.grown hgr (fun e => by have := (HDA4.out.o4.lt w.heap.size e.symm).1; have := HN9.out.1; omega)).far (p := ⟨g9, 4, none⟩) HN9.out.2.1 (.slice A4 (r + 1) c4)); clear hrw hown hgr hat))
          go_roundg (gk - 1)
          case measure => omega
          case rel =>
            refine ⟨r + 1, jen, .slice A3 (r + 1) c3, .slice A4 (r + 1) c4, P ++ [st], E ++ [en], by go_num, by omega, by omega, by omega, ?_, ?_, HOP.out.snoc ⟨st0, st1⟩, HOE.out.snoc ⟨en0, en1⟩, ?_, H8Q.out⟩
            · show _ = _; rw [List.length_append, HP.out]; rfl
            · show _ = _; rw [List.length_append, HE.out]; rfl
            · show Dr _ _ _ _ _ _ _ _ _ _ _ _ _ _ _ _ _ _ _ _ _
              rw [iv_append, iv_append]; exact HP4.out
        · have hrs : r = s := by omega
          subst hrs
          have b0 := HD.out.row.cell 0; have b1 := HD.out.row.cell 1; have b2 := HD.out.row.cell 2; have b3 := HD.out.row.cell 3; have b4 := HD.out.row.cell 4
          have s0 := H8.out.cell 0; have s1 := H8.out.cell 1; have s2 := H8.out.cell 2; have s3 := H8.out.cell 3; have s4 := H8.out.cell 4
          have f0 := H8.out.frozen 0; have f1 := H8.out.frozen 1; have f2 := H8.out.frozen 2; have f3 := H8.out.frozen 3; have f4 := H8.out.frozen 4
          obtain ⟨p2, c2, hv2, _, _⟩ := World.ownsRow.form HD.out.o2 HM1.out
          obtain ⟨p3, c3, hv3, _, _⟩ := World.ownsRow.form HD.out.o3 (by omega)
          obtain ⟨p4, c4, hv4, _, _⟩ := World.ownsRow.form HD.out.o4 (by omega)
          injection hv2 with e1 e2 e3
          clear e2
          subst e1 e3
          subst hv3 hv4
          go_wp2_with fail
          clear b0 b1 b2 b3 b4 s0 s1 s2 s3 s4 f0 f1 f2 f3 f4
          have hF := (((((H8.out.set_ 0 (.int .i64 (r : Int))).set_ 1 (.int .i64 (t : Int))).set_ 2 (.slice (some ⟨p2, 0, none⟩) k ca)).set_ 3 (.slice (some ⟨p3, 0, none⟩) r c3)).set_ 4 (.slice (some ⟨p4, 0, none⟩) r c4))
          refine bodyPost_ret (results_cell_row rfl _ _ w.heap.size 28 #[.int .i64 (r : Int), .int .i64 (t : Int), .slice (some ⟨p2, 0, none⟩) k ca, .slice (some ⟨p3, 0, none⟩) r c3, .slice (some ⟨p4, 0, none⟩) r c4] (0, 0) _ rfl hF Try.underlying28 rfl (by kernel_rfl)) rfl ?_
          have keepF : ∀ q, lo ≤ q → (((((wi.setCell ⟨w.heap.size, 0, none⟩ (.int .i64 (r : Int))).setCell ⟨w.heap.size, 1, none⟩ (.int .i64 (t : Int))).setCell ⟨w.heap.size, 2, none⟩ (.slice (some ⟨p2, 0, none⟩) k ca)).setCell ⟨w.heap.size, 3, none⟩ (.slice (some ⟨p3, 0, none⟩) r c3)).setCell ⟨w.heap.size, 4, none⟩ (.slice (some ⟨p4, 0, none⟩) r c4)).heap[q]? = wi.heap[q]? := fun q h1 => heap_set5 _ _ _ _ _ (by have := HN9.out.1; omega)
          have hle : gS ≤ w.heap.size := by have := HN9.out.2.2; omega
          have hbF := (((((HD.out.bel.setCell (p := ⟨w.heap.size, 0, none⟩) hle (.int .i64 (r : Int))).setCell (p := ⟨w.heap.size, 1, none⟩) hle (.int .i64 (t : Int))).setCell (p := ⟨w.heap.size, 2, none⟩) hle (.slice (some ⟨p2, 0, none⟩) k ca)).setCell (p := ⟨w.heap.size, 3, none⟩) hle (.slice (some ⟨p3, 0, none⟩) r c3)).setCell (p := ⟨w.heap.size, 4, none⟩) hle (.slice (some ⟨p4, 0, none⟩) r c4))
          have hlo : gS + 1 ≤ lo := by have := HD.out.2.2.1; omega
          have o2 := own_move (World.ownsRow.mono HD.out.o2 hlo) (fun q hq => keepF q (HD.out.o2.lt q hq).1)
          have o3 := own_move (World.ownsRow.mono HD.out.o3 hlo) (fun q hq => keepF q (HD.out.o3.lt q hq).1)
          have o4 := own_move (World.ownsRow.mono HD.out.o4 hlo) (fun q hq => keepF q (HD.out.o4.lt q hq).1)
          refine ⟨L, P, E, p2, p3, p4, ca, c3, c4, ⟨HP.out, HE.out, by rw [HL.out]; exact HN2.out, HOK.out, HOP.out, HOE.out⟩, ?_, ?_, ?_, ?_, hbF⟩
          · rw [HL.out, HP.out, HE.out]
          · rw [HL.out]; exact o2
          · unfold RowI; rw [HP.out]; exact o3
          · unfold RowI; rw [HE.out]; exact o4
end Go.Proofs.Ytedbngnkkfpbeaa
