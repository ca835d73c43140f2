/- A Machine that a call handed out stands in a box, wherever the box was made. -/
import Derived.Test.YtkkjhakniolooaaMachineOw
import Derived.Deep.Onto
namespace Go.Proofs.Ytkkjhakniolooaa
open Go.RowKit
set_option linter.unusedVariables false
theorem bl_al (x : World) (o : Obj) : Below x.heap.size x (x.alloc o) := (Below.refl _ _).alloc (Nat.le_refl _) o
theorem bl_tr {a b c : World} (h : Below a.heap.size a b) (h' : Below b.heap.size b c) : Below a.heap.size a c := h.trans (h'.mono h.size)
theorem bl_keepA {a b : World} (o : Obj) (h : Below a.heap.size a b) : Below a.heap.size a (b.alloc o) := h.alloc h.size o
theorem bl_keepD {a b : World} (h : Below a.heap.size a b) : Below a.heap.size a b.drew := Below.drew h
theorem bl_keepH {a b c : World} (hb : Below b.heap.size b c) (h : Below a.heap.size a b) : Below a.heap.size a c := bl_tr h hb
theorem row_keepD {x : World} {g : Nat} {t : TypeId} {vs : List Value} (h : Row x g t vs) : Row x.drew g t vs := h.drew
theorem row_keepA {x : World} {g : Nat} {t : TypeId} {vs : List Value} (h : Row x g t vs) (o : Obj) : Row (x.alloc o) g t vs := h.alloc o
theorem row_keepH {x y : World} {g : Nat} {t : TypeId} {vs : List Value} (hb : Below x.heap.size x y) (h : Row x g t vs) : Row y g t vs := h.below hb h.lt
theorem row_two {x y : World} {g : Nat} {t : TypeId} {vs : List Value} (hb : Below x.heap.size x y) (h : Row x g t vs) : Row y g t vs ∧ g < x.heap.size := ⟨h.below hb h.lt, h.lt⟩
theorem bl_sz {a b : World} (h : Below a.heap.size a b) : a.heap.size ≤ b.heap.size := h.size
theorem bl_size {B : Nat} {w x y : World} (hb : Below x.heap.size x y) (h : Below B w x) (hB : B = w.heap.size) : B ≤ x.heap.size := by subst hB; exact h.size
theorem Row.newBelow {x y : World} {t : TypeId} {vs : List Value} (h : Below (x.alloc (.cells vs.toArray t)).heap.size (x.alloc (.cells vs.toArray t)) y) : Row y x.heap.size t vs ∧ x.heap.size < (x.alloc (.cells vs.toArray t)).heap.size := ⟨(Row.new x t vs).below h (Row.new x t vs).lt, (Row.new x t vs).lt⟩
theorem Row.newBelowD {x y : World} {t : TypeId} {vs : List Value} (h : Below (x.alloc (.cells vs.toArray t)).drew.heap.size (x.alloc (.cells vs.toArray t)).drew y) : Row y x.heap.size t vs ∧ x.heap.size < (x.alloc (.cells vs.toArray t)).drew.heap.size := ⟨(Row.new x t vs).drew.below h (Row.new x t vs).lt, (Row.new x t vs).lt⟩
theorem McO.lo {w : World} {lo lo' hi : Nat} {v : Value} {S T : Int} {L : List A4} {P E : List Int} (h : McO w lo hi v S T L P E) (hl : lo' ≤ lo) : McO w lo' hi v S T L P E := by
  obtain ⟨v2, v3, v4, e, h2, h3, h4, d23, d24, d34⟩ := h
  exact ⟨v2, v3, v4, e, ⟨World.ownsRow.mono h2.1 hl, h2.2⟩, ⟨World.ownsRow.mono h3.1 hl, h3.2⟩, ⟨World.ownsRow.mono h4.1 hl, h4.2⟩, d23, d24, d34⟩
def PrE (w0 : World) (p6 p7 : Value) (ok : Bool) (S T : Int) (L : List A4) (P E : List Int) (wx : World) : Prop :=
  ∃ (b : Nat) (A2 : Option Addr) (C2 : Nat) (A3 : Option Addr) (C3 : Nat) (A4 : Option Addr) (C4 : Nat), p6 = .pointer (some ⟨b, 0, none⟩) ∧ p7 = .bool ok ∧ Row wx b 29 [.int .i64 S, .int .i64 T, .slice A2 L.length C2, .slice A3 P.length C3, .slice A4 E.length C4] ∧ McW wx w0.heap.size (.agg #[.int .i64 S, .int .i64 T, .slice A2 L.length C2, .slice A3 P.length C3, .slice A4 E.length C4]) S T L P E ∧ Below w0.heap.size w0 wx
section
variable {w0 wS : World} {B G : Nat} {ok : Bool} {S T : Int} {L : List A4} {P E : List Int} {A2 A3 A4 : Option Addr} {C2 C3 C4 : Nat}
theorem pair_end1 (h : McW wS B (.agg #[.int .i64 S, .int .i64 T, .slice A2 L.length C2, .slice A3 P.length C3, .slice A4 E.length C4]) S T L P E) (hb : Below w0.heap.size w0 wS) (hB : w0.heap.size ≤ B) :
    PrE w0 (.pointer (some ⟨wS.heap.size, 0, none⟩)) (.bool ok) ok S T L P E (wS.alloc (.cells #[.int .i64 S, .int .i64 T, .slice A2 L.length C2, .slice A3 P.length C3, .slice A4 E.length C4] 29)) :=
  ⟨_, _, _, _, _, _, _, rfl, rfl, Row.new wS _ [.int .i64 S, .int .i64 T, .slice A2 L.length C2, .slice A3 P.length C3, .slice A4 E.length C4], (McW.keep h (bl_al wS _) (Nat.le_refl _)).lo hB, hb.alloc hb.size _⟩
theorem kp_sets (w : World) (G : Nat) (u0 u1 u2 u3 u4 : Value) : Kp G (G + 1) w (((((w.setCell ⟨G, 0, none⟩ u0).setCell ⟨G, 1, none⟩ u1).setCell ⟨G, 2, none⟩ u2).setCell ⟨G, 3, none⟩ u3).setCell ⟨G, 4, none⟩ u4) := by
  have hb : Below G w (((((w.setCell ⟨G, 0, none⟩ u0).setCell ⟨G, 1, none⟩ u1).setCell ⟨G, 2, none⟩ u2).setCell ⟨G, 3, none⟩ u3).setCell ⟨G, 4, none⟩ u4) :=
    (((((Below.refl _ _).setCell (p := ⟨G, 0, none⟩) (Nat.le_refl _) u0).setCell (p := ⟨G, 1, none⟩) (Nat.le_refl _) u1).setCell (p := ⟨G, 2, none⟩) (Nat.le_refl _) u2).setCell (p := ⟨G, 3, none⟩) (Nat.le_refl _) u3).setCell (p := ⟨G, 4, none⟩) (Nat.le_refl _) u4
  refine ⟨hb.os, hb.tape, hb.output, hb.size, fun k hk hn => ?_⟩
  have hne : k ≠ G := by omega
  rw [Below.heap_setCell _ _ _ _ hne, Below.heap_setCell _ _ _ _ hne, Below.heap_setCell _ _ _ _ hne, Below.heap_setCell _ _ _ _ hne, Below.heap_setCell _ _ _ _ hne]
theorem pair_end2 (h : McW wS B (.agg #[.int .i64 S, .int .i64 T, .slice A2 L.length C2, .slice A3 P.length C3, .slice A4 E.length C4]) S T L P E) (hb : Below w0.heap.size w0 wS) (hB : w0.heap.size ≤ B) (hz : Row wS G 29 [.int .i64 0, .int .i64 0, .slice none 0 0, .slice none 0 0, .slice none 0 0]) (hG : w0.heap.size ≤ G) (hG2 : G < B) :
    PrE w0 (.pointer (some ⟨G, 0, none⟩)) (.bool ok) ok S T L P E (((((wS.setCell ⟨G, 0, none⟩ (.int .i64 S)).setCell ⟨G, 1, none⟩ (.int .i64 T)).setCell ⟨G, 2, none⟩ (.slice A2 L.length C2)).setCell ⟨G, 3, none⟩ (.slice A3 P.length C3)).setCell ⟨G, 4, none⟩ (.slice A4 E.length C4)) :=
  ⟨_, _, _, _, _, _, _, rfl, rfl, ((((hz.set_ 0 _).set_ 1 _).set_ 2 _).set_ 3 _).set_ 4 _, (McW.kp h (kp_sets _ _ _ _ _ _ _) hG2).lo hB, hb.trans ((kp_sets _ _ _ _ _ _ _).below (by have := hz.lt; omega) |>.mono hG)⟩
end
end Go.Proofs.Ytkkjhakniolooaa
