/- WithoutEmpty of the program. -/
import Derived.Test.YtkfmjnefbimecaaTdM
import Derived.Test.YtkfmjnefbimecaaMgt
import Derived.Test.YtkfmjnefbimecaaTmJ
import Derived.Test.YtkfmjnefbimecaaMgu
import Derived.Deep.CutRange
import Derived.Deep.RegionHeld3
import Derived.Deep.RegionLaw
import Derived.Deep.DrawnRows


namespace Go.Proofs.Ytkfmjnefbimecaa
open Go.RowKit
set_option linter.unusedVariables false
attribute [local go_sem ↓] Go.wp_at_zero Go.wp_at_succ
/-- A machine that is being built in block gx out of lists from lo2 on; the blocks below lo2 but gx are kept from x2. -/
structure Bld (x0 x2 w : World) (lo lo2 gx : Nat) (a T : Int) (v2 v3 v4 : Value) (n2 n3 n4 : Nat) (X2 : List A4) (X3 X4 : List Int) : Prop where
  m3 : M3 x0 w lo gx 28 39 2 2 4 1 1 (.int .i64 a) (.int .i64 T) v2 v3 v4 n2 n3 n4 (fa X2) (iv X3) (iv X4)
  fr : Lo lo2 gx x2 w
  h2 : ∀ k, v2.ownBlock = some k → lo2 ≤ k
  h4 : ∀ k, v4.ownBlock = some k → lo2 ≤ k
  ll : lo ≤ lo2
  l2 : lo2 ≤ w.heap.size
section
variable {x0 x2 w w' : World} {lo lo2 gx : Nat} {a T : Int} {v2 v3 v4 : Value} {n2 n3 n4 : Nat} {X2 : List A4} {X3 X4 : List Int}
theorem Bld.size (h : Bld x0 x2 w lo lo2 gx a T v2 v3 v4 n2 n3 n4 X2 X3 X4) : gx < w.heap.size := h.m3.row.lt
theorem Bld.call {B : Nat} (h : Bld x0 x2 w lo lo2 gx a T v2 v3 v4 n2 n3 n4 X2 X3 X4) (hb : Below B w w') (hB : w.heap.size ≤ B) : Bld x0 x2 w' lo lo2 gx a T v2 v3 v4 n2 n3 n4 X2 X3 X4 :=
  ⟨h.m3.call hb hB, h.fr.trans (Lo.below hb (Nat.le_trans h.l2 hB)), h.h2, h.h4, h.ll, Nat.le_trans h.l2 hb.size⟩
theorem Bld.alloc (h : Bld x0 x2 w lo lo2 gx a T v2 v3 v4 n2 n3 n4 X2 X3 X4) (o : Obj) : Bld x0 x2 (w.alloc o) lo lo2 gx a T v2 v3 v4 n2 n3 n4 X2 X3 X4 := h.call ((Below.refl _ _).alloc (Nat.le_refl _) o) (Nat.le_refl _)
theorem Bld.drewN (h : Bld x0 x2 w lo lo2 gx a T v2 v3 v4 n2 n3 n4 X2 X3 X4) (q : Nat) : Bld x0 x2 (w.drewN q) lo lo2 gx a T v2 v3 v4 n2 n3 n4 X2 X3 X4 := h.call (B := w.heap.size) (below_draws (Below.refl _ _) q) (Nat.le_refl _)
theorem Bld.drew (h : Bld x0 x2 w lo lo2 gx a T v2 v3 v4 n2 n3 n4 X2 X3 X4) : Bld x0 x2 w.drew lo lo2 gx a T v2 v3 v4 n2 n3 n4 X2 X3 X4 := h.call (B := w.heap.size) (Below.drew (Below.refl _ _)) (Nat.le_refl _)
theorem own_lo {v u : Value} {lo2 : Nat} (hl : lo2 ≤ w.heap.size) (h : ∀ k, v.ownBlock = some k → lo2 ≤ k) (hat : u.ownBlock = v.ownBlock ∨ u.ownBlock = some w.heap.size) : ∀ k, u.ownBlock = some k → lo2 ≤ k := by
  intro k hk
  rcases hat with e | e
  · exact h k (by rw [← e]; exact hk)
  · rw [hk] at e; have := Option.some.inj e; omega
theorem Bld.push2 (h : Bld x0 x2 w lo lo2 gx a T v2 v3 v4 n2 n3 n4 X2 X3 X4) {u : Value} {m : Nat} {Y : List A4} (ho : w'.ownsRow lo 39 4 u m (fa Y)) (hg : w.grownBy w' v2.ownBlock) (hat : u.ownBlock = v2.ownBlock ∨ u.ownBlock = some w.heap.size) :
    Bld x0 x2 (w'.setCell ⟨gx, 2, none⟩ u) lo lo2 gx a T u v3 v4 m n3 n4 Y X3 X4 :=
  ⟨h.m3.push2 ho hg hat, (h.fr.trans (Lo.grown hg h.h2 h.l2)).trans (Lo.set _ _ _ _ _), own_lo h.l2 h.h2 hat, h.h4, h.ll, by have := h.l2; have := hg.size; simp [World.setCell]; omega⟩
theorem Bld.push4 (h : Bld x0 x2 w lo lo2 gx a T v2 v3 v4 n2 n3 n4 X2 X3 X4) {u : Value} {m : Nat} {Y : List Int} (ho : w'.ownsRow lo 2 1 u m (iv Y)) (hg : w.grownBy w' v4.ownBlock) (hat : u.ownBlock = v4.ownBlock ∨ u.ownBlock = some w.heap.size) :
    Bld x0 x2 (w'.setCell ⟨gx, 4, none⟩ u) lo lo2 gx a T v2 v3 u n2 n3 m X2 X3 Y :=
  ⟨h.m3.push4 ho hg hat, (h.fr.trans (Lo.grown hg h.h4 h.l2)).trans (Lo.set _ _ _ _ _), h.h2, own_lo h.l2 h.h4 hat, h.ll, by have := h.l2; have := hg.size; simp [World.setCell]; omega⟩
/-- A block that stood before. -/
theorem Bld.old (h : Bld x0 x2 w lo lo2 gx a T v2 v3 v4 n2 n3 n4 X2 X3 X4) {b : Nat} {t : TypeId} {vs : List Value} (hr : Row x2 b t vs) (h1 : b < lo2) (h2 : b ≠ gx) : Row w b t vs := h.fr.row hr h1 h2
theorem Bld.bel (h : Bld x0 x2 w lo lo2 gx a T v2 v3 v4 n2 n3 n4 X2 X3 X4) : Below lo x0 w := h.m3.bel
end
/-- A row that is not the one that is pushed to. -/
theorem rowI_push {w w' : World} {base g n c gx q : Nat} {t : TypeId} {r : List Int} {v u : Value} (h : RowI w base t (.slice (some ⟨g, 0, none⟩) n c) r) (hg : w.grownBy w' v.ownBlock) (h1 : g ≠ gx) (h2 : v.ownBlock ≠ some g) : RowI (w'.setCell ⟨gx, q, none⟩ u) base t (.slice (some ⟨g, 0, none⟩) n c) r :=
  own_move h (fun k hk => by
    have e : k = g := by simp [Value.ownBlock] at hk; exact hk.symm
    subst e
    exact (Below.heap_setCell w' ⟨gx, q, none⟩ _ k h1).trans (hg.block k h.lt.2 (fun e => h2 e.symm)))
theorem weKs_step {F : Int} {L : List A4} {r : List Int} {i k : Nat} : weKs F L r i (k + 1) = weKs F L r i k ++ weK F L r i k := rfl
theorem weT_step {F : Int} {L : List A4} {r : List Int} {i k j : Nat} {a : A4} (h : L[j]? = some a) : (L.take (j + 1)).flatMap (weC F r i k) = (L.take j).flatMap (weC F r i k) ++ weC F r i k a := by
  obtain ⟨hj, rfl⟩ := List.getElem?_eq_some_iff.1 h
  rw [List.take_succ_eq_append_getElem hj, List.flatMap_append]; simp
theorem iLeastSumQN_any (A : Option Addr) (n c : Nat) (a : List Int) (A' : Option Addr) (n' c' : Nat) (b : List Int) (w : World) (h : SlI w w.heap.size A n a) (h' : SlI w w.heap.size A' n' b) (ha : Bd 1099511627776 a) (hb : Bd 1099511627776 b) (hn : n ≤ 1000000) (e : n' = n) :
    Calls Try.prog 51 #[.slice A n c, .slice A' n' c'] w fun e w' => e = .returned (.int .i64 (lsV 1099511627776 a b)) ∧ ∃ d, w' = w.drewN d := by
  subst e
  exact iLeastSumQ_any A n' c a A' c' b w h h' ha hb hn
theorem iCloneI1_any (b n c : Nat) (xs : List Int) (w : World) (h : SlI w w.heap.size (some ⟨b, 0, none⟩) n xs) (hn : n ≤ 1000) :
    Calls Try.prog 47 #[.slice (some ⟨b, 0, none⟩) n c] w fun e w' => ∃ A' c', e = .returned (.slice A' n c') ∧ RowI w' w.heap.size 2 (.slice A' n c') xs ∧ Below w.heap.size w w' := by
  have e := h.len
  subst e
  exact iCloneI_any b 0 xs.length c xs w h (by omega)
set_option maxRecDepth 100000 in
set_option maxHeartbeats 16000000 in
theorem iClear_any (S : Nat) (T : Int) (L : List A4) (P E : List Int) (p2 p3 p4 c2 c3 c4 : Nat) (w : World)
    (h2 : SlA w w.heap.size (some ⟨p2, 0, none⟩) L.length L) (h3 : SlI w w.heap.size (some ⟨p3, 0, none⟩) P.length P) (h4 : SlI w w.heap.size (some ⟨p4, 0, none⟩) E.length E) (hok : vmB S T L P E = true) (hva : vmB S T (weA 1099511627776 L S) P (weE 1099511627776 L E S) = true) :
    Calls Try.prog 11 #[.agg #[.int .i64 (S : Int), .int .i64 T, .slice (some ⟨p2, 0, none⟩) L.length c2, .slice (some ⟨p3, 0, none⟩) P.length c3, .slice (some ⟨p4, 0, none⟩) E.length c4]] w fun e w' => ∃ v', e = .returned (.tuple #[v', .bool true]) ∧ McW w' w.heap.size v' S T (tdy (weA 1099511627776 L S)) P (weE 1099511627776 L E S) ∧ Below w.heap.size w w' := by
  obtain ⟨qS, qT, qL, qA, qP, qE⟩ := vmB_true hok
  obtain ⟨qP1, qP2⟩ := mkB_true qP
  obtain ⟨qE1, qE2⟩ := mkB_true qE
  have hPS : P.length = S := by omega
  have hES : E.length = S := by omega
  have QA : Hid (okM S L) := fun a ha => by have := okAm_true (qA a ha); omega
  have HEF : Hid (∀ x ∈ E, x ≤ 1099511627776) := fun x hx => by have := qE2 x hx; omega
  have HOK := Lib.hid hok; have HVA := Lib.hid hva
  have hva2 := vmB_true hva
  have HLW : Hid ((weA 1099511627776 L S).length ≤ 128) := hva2.2.2.1
  have H2 := Lib.hid h2; have H3 := Lib.hid h3; have H4 := Lib.hid h4
  have HPS := Lib.hid hPS; have HES := Lib.hid hES
  clear qA qP qE qP2 qE2 qP1 qE1 h2 h3 h4 hok hva hva2 hPS hES
  have rb := (Row.new w 28 [.int .i64 (S : Int), .int .i64 T, .slice (some ⟨p2, 0, none⟩) L.length c2, .slice (some ⟨p3, 0, none⟩) P.length c3, .slice (some ⟨p4, 0, none⟩) E.length c4]).alloc (.cells ([.int .i64 0, .int .i64 0, .slice none 0 0, .slice none 0 0, .slice none 0 0] : List Value).toArray 28)
  have rr := Row.new (w.alloc (.cells ([.int .i64 (S : Int), .int .i64 T, .slice (some ⟨p2, 0, none⟩) L.length c2, .slice (some ⟨p3, 0, none⟩) P.length c3, .slice (some ⟨p4, 0, none⟩) E.length c4] : List Value).toArray 28)) 28 [.int .i64 0, .int .i64 0, .slice none 0 0, .slice none 0 0, .slice none 0 0]
  rw [show (w.alloc (.cells ([.int .i64 (S : Int), .int .i64 T, .slice (some ⟨p2, 0, none⟩) L.length c2, .slice (some ⟨p3, 0, none⟩) P.length c3, .slice (some ⟨p4, 0, none⟩) E.length c4] : List Value).toArray 28)).heap.size = w.heap.size + 1 by simp] at rr
  have bx : Below w.heap.size w ((w.alloc (.cells ([.int .i64 (S : Int), .int .i64 T, .slice (some ⟨p2, 0, none⟩) L.length c2, .slice (some ⟨p3, 0, none⟩) P.length c3, .slice (some ⟨p4, 0, none⟩) E.length c4] : List Value).toArray 28)).alloc (.cells ([.int .i64 0, .int .i64 0, .slice none 0 0, .slice none 0 0, .slice none 0 0] : List Value).toArray 28)) := ((Below.refl _ _).alloc (Nat.le_refl _) _).alloc (by simp) _
  have RB := Lib.hid rb; have RR := Lib.hid rr; have BX := Lib.hid bx; clear rb rr bx
  go_enter Try.func11, Try.ntmps11
  go_wp2_with fail
  obtain ⟨x0, hx0⟩ : ∃ x, x = ((w.alloc (.cells ([.int .i64 (S : Int), .int .i64 T, .slice (some ⟨p2, 0, none⟩) L.length c2, .slice (some ⟨p3, 0, none⟩) P.length c3, .slice (some ⟨p4, 0, none⟩) E.length c4] : List Value).toArray 28)).alloc (.cells ([.int .i64 0, .int .i64 0, .slice none 0 0, .slice none 0 0, .slice none 0 0] : List Value).toArray 28)) := ⟨_, rfl⟩
  rw [← hx0] at RB RR BX
  change Calls _ _ _ ((w.alloc (.cells ([.int .i64 (S : Int), .int .i64 T, .slice (some ⟨p2, 0, none⟩) L.length c2, .slice (some ⟨p3, 0, none⟩) P.length c3, .slice (some ⟨p4, 0, none⟩) E.length c4] : List Value).toArray 28)).alloc (.cells ([.int .i64 0, .int .i64 0, .slice none 0 0, .slice none 0 0, .slice none 0 0] : List Value).toArray 28)) _
  rw [← hx0]
  clear hx0
  refine (iValidMachine_any _ (S : Int) T L P E x0 ⟨_, _, _, _, _, _, _, _, _, rfl, (H2.out.below BX.out (Nat.le_refl _)).more BX.out.size, (H3.out.below BX.out (Nat.le_refl _)).more BX.out.size, (H4.out.below BX.out (Nat.le_refl _)).more BX.out.size⟩ (by omega) (by have := HPS.out; omega) (by have := HES.out; omega)).mono ?_
  rintro e w1 ⟨rfl, hb1⟩
  have BX1 := Lib.hid (BX.out.trans (hb1.mono BX.out.size))
  have RB1 := Lib.hid (RB.out.below hb1 RB.out.lt)
  have RR1 := Lib.hid (RR.out.below hb1 RR.out.lt)
  clear hb1 RB RR BX
  rw [HOK.out]
  have LT1 : Hid (w.heap.size + 1 < w1.heap.size) := RR1.out.lt
  have hcel : Hid (∀ x : World, Below w1.heap.size w1 x → (Below w1.heap.size w1 x ∧ x.cell? ⟨w.heap.size, 0, none⟩ = some (.int .i64 (S : Int)) ∧ x.cell? ⟨w.heap.size, 1, none⟩ = some (.int .i64 T) ∧ x.cell? ⟨w.heap.size, 3, none⟩ = some (.slice (some ⟨p3, 0, none⟩) P.length c3))) := fun x hx => by
    have r := RB1.out.below hx RB1.out.lt
    exact ⟨hx, r.cell 0, r.cell 1, r.cell 3⟩
  have hkeep : Hid (∀ x y : World, Below w1.heap.size w1 x → Below x.heap.size x y → (Below w1.heap.size w1 y ∧ y.cell? ⟨w.heap.size, 0, none⟩ = some (.int .i64 (S : Int)) ∧ y.cell? ⟨w.heap.size, 1, none⟩ = some (.int .i64 T) ∧ y.cell? ⟨w.heap.size, 3, none⟩ = some (.slice (some ⟨p3, 0, none⟩) P.length c3))) := fun x y h1 h2 => hcel.out y (h1.trans (h2.mono h1.size))
  have hkeepA : Hid (∀ (x : World) (ob : Obj), Below w1.heap.size w1 x → (Below w1.heap.size w1 (x.alloc ob) ∧ (x.alloc ob).cell? ⟨w.heap.size, 0, none⟩ = some (.int .i64 (S : Int)) ∧ (x.alloc ob).cell? ⟨w.heap.size, 1, none⟩ = some (.int .i64 T) ∧ (x.alloc ob).cell? ⟨w.heap.size, 3, none⟩ = some (.slice (some ⟨p3, 0, none⟩) P.length c3))) := fun x ob h1 => hcel.out _ (h1.alloc h1.size ob)
  have hkeepB : Hid (∀ (ob : Obj), (Below w1.heap.size w1 (w1.alloc ob).drew ∧ (w1.alloc ob).drew.cell? ⟨w.heap.size, 0, none⟩ = some (.int .i64 (S : Int)) ∧ (w1.alloc ob).drew.cell? ⟨w.heap.size, 1, none⟩ = some (.int .i64 T) ∧ (w1.alloc ob).drew.cell? ⟨w.heap.size, 3, none⟩ = some (.slice (some ⟨p3, 0, none⟩) P.length c3))) := fun ob => hcel.out _ (Below.drew ((Below.refl _ _).alloc (Nat.le_refl _) ob))
  have hkeepS : Hid (∀ (x : World) (g : Nat) (A3 : Option Addr) (d3 : Nat), Below w1.heap.size w1 x → w1.heap.size ≤ g → (Below w1.heap.size w1 (((((x.setCell ⟨g, 0, none⟩ (.int .i64 (S : Int))).setCell ⟨g, 1, none⟩ (.int .i64 T)).setCell ⟨g, 2, none⟩ (.slice none 0 0)).setCell ⟨g, 3, none⟩ (.slice A3 P.length d3)).setCell ⟨g, 4, none⟩ (.slice none 0 0)) ∧ (((((x.setCell ⟨g, 0, none⟩ (.int .i64 (S : Int))).setCell ⟨g, 1, none⟩ (.int .i64 T)).setCell ⟨g, 2, none⟩ (.slice none 0 0)).setCell ⟨g, 3, none⟩ (.slice A3 P.length d3)).setCell ⟨g, 4, none⟩ (.slice none 0 0)).cell? ⟨w.heap.size, 0, none⟩ = some (.int .i64 (S : Int)) ∧ (((((x.setCell ⟨g, 0, none⟩ (.int .i64 (S : Int))).setCell ⟨g, 1, none⟩ (.int .i64 T)).setCell ⟨g, 2, none⟩ (.slice none 0 0)).setCell ⟨g, 3, none⟩ (.slice A3 P.length d3)).setCell ⟨g, 4, none⟩ (.slice none 0 0)).cell? ⟨w.heap.size, 1, none⟩ = some (.int .i64 T) ∧ (((((x.setCell ⟨g, 0, none⟩ (.int .i64 (S : Int))).setCell ⟨g, 1, none⟩ (.int .i64 T)).setCell ⟨g, 2, none⟩ (.slice none 0 0)).setCell ⟨g, 3, none⟩ (.slice A3 P.length d3)).setCell ⟨g, 4, none⟩ (.slice none 0 0)).cell? ⟨w.heap.size, 3, none⟩ = some (.slice (some ⟨p3, 0, none⟩) P.length c3))) := fun x g A3 d3 h1 h2 => hcel.out _ (((((h1.setCell (p := ⟨g, 0, none⟩) h2 _).setCell (p := ⟨g, 1, none⟩) h2 _).setCell (p := ⟨g, 2, none⟩) h2 _).setCell (p := ⟨g, 3, none⟩) h2 _).setCell (p := ⟨g, 4, none⟩) h2 _)
  have hlow : Hid (∀ (x : World), Below w1.heap.size w1 x → w1.heap.size ≤ x.heap.size) := fun x h => h.size
  have hCl : Hid (∀ x : World, Below w1.heap.size w1 x → Calls Try.prog 47 #[.slice (some ⟨p3, 0, none⟩) P.length c3] x fun e y => ∃ A' c', e = .returned (.slice A' P.length c') ∧ RowI y w1.heap.size 2 (.slice A' P.length c') P ∧ (∀ k, (Value.slice A' P.length c').ownBlock = some k → x.heap.size ≤ k) ∧ Below x.heap.size x y) := by
    intro x hx
    have hb := BX1.out.trans (hx.mono BX1.out.size)
    refine (iCloneI1_any p3 P.length c3 P x ((H3.out.below hb (Nat.le_refl _)).more hb.size) (by have := HPS.out; omega)).mono ?_
    rintro e y ⟨A', c', rfl, h1, h2⟩
    exact ⟨A', c', rfl, World.ownsRow.mono h1 hx.size, fun k hk => (World.ownsRow.lt h1 k hk).1, h2⟩
  have hfrom := hcel.out w1.drew (Below.drew (Below.refl _ _))
  have hfrom2 := hcel.out (w1.alloc (.cells ([.int .i64 0, .int .i64 0, .slice none 0 0, .slice none 0 0, .slice none 0 0] : List Value).toArray 28)).drew (Below.drew ((Below.refl _ _).alloc (Nat.le_refl _) _))
  go_upto_region 3 with fail
  go_cut [4] from 16 to 23 (fun p wx => ∃ (gx : Nat) (A3 : Option Addr) (d3 : Nat), p = .pointer (some ⟨gx, 0, none⟩) ∧ Hid (w1.heap.size ≤ gx) ∧ Hid (Row wx gx 28 [.int .i64 (S : Int), .int .i64 T, .slice none 0 0, .slice A3 P.length d3, .slice none 0 0]) ∧ Hid (RowI wx w1.heap.size 2 (.slice A3 P.length d3) P) ∧ Hid ((Value.slice A3 P.length d3).ownBlock ≠ some gx) ∧ Hid (Below w1.heap.size w1 wx))
  case first =>
    go_region_held3 (fun x => Below w1.heap.size w1 x ∧ x.cell? ⟨w.heap.size, 0, none⟩ = some (.int .i64 (S : Int)) ∧ x.cell? ⟨w.heap.size, 1, none⟩ = some (.int .i64 T) ∧ x.cell? ⟨w.heap.size, 3, none⟩ = some (.slice (some ⟨p3, 0, none⟩) P.length c3)) (first | (with_reducible assumption) | (with_reducible exact hkeepA.out _ _ (by first | (with_reducible assumption) | (with_reducible (apply And.left; assumption)))) | (with_reducible exact hkeepB.out _) | (with_reducible refine hkeepS.out _ _ _ _ (by first | (with_reducible assumption) | (with_reducible (apply And.left; assumption))) (by first | (with_reducible exact Nat.le_refl _) | (with_reducible exact hlow.out _ (by first | (with_reducible assumption) | (with_reducible (apply And.left; assumption)))))) | go_keep)
      (first
        | (go_at_call 47; refine (hCl.out _ (by first | (with_reducible assumption) | (with_reducible (apply And.left; assumption)))).mono ?_; rintro e wy ⟨A3, d3, rfl, hr1, hf1, hb1⟩; have s1 := (fun h => hkeep.out _ _ h hb1) (by first | (with_reducible assumption) | (with_reducible (apply And.left; assumption))); (try (have ra : Row wy w1.heap.size 28 [.int .i64 0, .int .i64 0, .slice none 0 0, .slice none 0 0, .slice none 0 0] := (Row.new w1 28 [.int .i64 0, .int .i64 0, .slice none 0 0, .slice none 0 0, .slice none 0 0]).drew.below hb1 (by simp)); have RA := Lib.hid ra; have ra0 := ra.cell 0; have ra1 := ra.cell 1; have ra2 := ra.cell 2; have ra3 := ra.cell 3; have ra4 := ra.cell 4; have rf0 := ra.frozen 0; have rf1 := ra.frozen 1; have rf2 := ra.frozen 2; have rf3 := ra.frozen 3; have rf4 := ra.frozen 4; clear ra); have HB1 := Lib.hid hb1; have HF1 := Lib.hid hf1; have HR1 := Lib.hid hr1; clear hb1 hf1 hr1))
    all_goals
      try go_wp2_with fail
      go_meet
      first
      | (refine ⟨wy.heap.size, A3, d3, by with_reducible rfl, ?_, ?_, ?_, ?_, ?_⟩
         · show _ ≤ _; first | exact Nat.le_refl _ | exact s1.1.size
         · exact Row.new wy 28 [.int .i64 (S : Int), .int .i64 T, .slice none 0 0, .slice A3 P.length d3, .slice none 0 0]
         · exact RowI.alloc HR1.out _
         · exact fun e => by have := (World.ownsRow.lt HR1.out _ e).2; omega
         · exact s1.1.alloc s1.1.size _)
      | (refine ⟨w1.heap.size, A3, d3, by with_reducible rfl, ?_, ?_, ?_, ?_, ?_⟩
         · show _ ≤ _; first | exact Nat.le_refl _ | exact s1.1.size
         · exact (((((RA.out.set_ 0 (.int .i64 (S : Int))).set_ 1 (.int .i64 T)).set_ 2 (.slice none 0 0)).set_ 3 (.slice A3 P.length d3)).set_ 4 (.slice none 0 0))
         · exact own_move HR1.out (fun g hg => heap_set5 _ _ _ _ _ (by have := HF1.out _ hg; simp at this; omega))
         · exact fun e => by have := HF1.out _ e; simp at this; omega
         · exact (((((s1.1.setCell (p := ⟨w1.heap.size, 0, none⟩) (Nat.le_refl _) _).setCell (p := ⟨w1.heap.size, 1, none⟩) (Nat.le_refl _) _).setCell (p := ⟨w1.heap.size, 2, none⟩) (Nat.le_refl _) _).setCell (p := ⟨w1.heap.size, 3, none⟩) (Nat.le_refl _) _).setCell (p := ⟨w1.heap.size, 4, none⟩) (Nat.le_refl _) _))
  case rest =>
  obtain ⟨gx, A3, d3, rfl, HGX, HRX, HRP, HNE, HBw⟩ := hcut
  obtain ⟨wb, rfl⟩ : ∃ x : World, x = wc := ⟨_, rfl⟩
  clear hcel hkeep hkeepA hkeepB hkeepS hlow hCl hfrom hfrom2
  have BXb := Lib.hid (BX1.out.trans (HBw.out.mono BX1.out.size))
  have RBb := RB1.out.below HBw.out RB1.out.lt
  have z4 := RBb.cell 4
  go_wp2_with fail
  clear z4
  refine (iFarther_any (some ⟨p4, 0, none⟩) E.length c4 E wb ((H4.out.below BXb.out (Nat.le_refl _)).more BXb.out.size) (by have := HES.out; omega) (by have := HES.out; omega)).mono ?_
  rintro e w2 ⟨ge, ce, rfl, hre, hb2⟩
  have hxl := HRX.out.lt
  have BOX := Lib.hid (RBb.below hb2 RBb.lt)
  have RES := Lib.hid ((RR1.out.below HBw.out RR1.out.lt).below hb2 (by have := (RR1.out.below HBw.out RR1.out.lt).lt; exact this))
  have BXw := Lib.hid (BXb.out.trans (hb2.mono BXb.out.size))
  have HB12 : Hid (Below w1.heap.size w1 w2) := HBw.out.trans (hb2.mono HBw.out.size)
  have HO0 : Hid (Bld w1 w2 w2 w1.heap.size w2.heap.size gx (S : Int) T (.slice none 0 0) (.slice A3 P.length d3) (.slice none 0 0) 0 P.length 0 (weIs 1099511627776 L S 0) P (weEs 1099511627776 L E S 0)) :=
    ⟨⟨HRX.out.below hb2 hxl, HB12.out, HGX.out, Nat.le_refl _, World.ownsRow_nil _ _ _ _, RowI.keep HRP.out hb2 (Nat.le_refl _), World.ownsRow_nil _ _ _ _, fun k hk => by simp [Value.ownBlock] at hk, fun k hk => ⟨fun e => HNE.out (by rw [hk, e]), by simp [Value.ownBlock]⟩, fun k hk => by simp [Value.ownBlock] at hk⟩, Lo.refl _ _ _, fun k hk => by simp [Value.ownBlock] at hk, fun k hk => by simp [Value.ownBlock] at hk, HB12.out.size, Nat.le_refl _⟩
  have hget := hre.lt
  have LTS : Hid (w.heap.size + 1 < w1.heap.size ∧ w1.heap.size ≤ gx ∧ gx < wb.heap.size ∧ wb.heap.size ≤ ge ∧ ge < w2.heap.size) := by have := LT1.out; have := HGX.out; show _ ∧ _ ∧ _ ∧ _ ∧ _; omega
  have HEN : Hid (RowI w2 w1.heap.size 2 (.slice (some ⟨ge, 0, none⟩) E.length ce) (frL 1099511627776 E)) := World.ownsRow.mono hre HBw.out.size
  clear hre hb2 hxl hget HRX HRP HNE HGX HBw RBb BXb HB12 RB1 RR1
  have z0 := BOX.out.cell 0
  go_wp2_with fail
  clear z0
  go_loopg [6, 7, 8, 9, 11, 29] S (fun q u6 u7 u8 u9 u11 i wr => ∃ (k : Nat) (v2 v4 : Value), i = .int .i64 (k : Int) ∧ k ≤ S ∧ S ≤ q + k ∧ Hid (Bld w1 w2 wr w1.heap.size w2.heap.size gx (S : Int) T v2 (.slice A3 P.length d3) v4 (weIs 1099511627776 L S k).length P.length k (weIs 1099511627776 L S k) P (weEs 1099511627776 L E S k)))
  case atStart => exact ⟨0, _, _, by go_num, by omega, by omega, HO0.out⟩
  case round =>
    clear HO0
    obtain ⟨k, v2, v4, rfl, hk, hm, HO⟩ := hrel
    obtain ⟨wo, rfl⟩ : ∃ x : World, x = wr := ⟨_, rfl⟩
    obtain ⟨gq, hgq⟩ : ∃ g : Nat, g = gk := ⟨_, rfl⟩
    obtain ⟨A2, d2, hv2, _, _⟩ := own_form HO.out.m3.o2
    subst hv2
    obtain ⟨A4, d4, hv4, _, _⟩ := own_form HO.out.m3.o4
    subst hv4
    by_cases hlt : k < S
    · have BOo := HO.out.old BOX.out (by have := LTS.out; omega) (by have := LTS.out; omega)
      have z0 := (BOo.alloc (.cells ([.int .i64 1099511627776] : List Value).toArray 2)).cell 0
      have l0 : (0 : Int) ≤ (k : Int) := by omega
      have l1 : (k : Int) < (S : Int) := by omega
      have rf := Row.new wo 2 [.int .i64 1099511627776]
      have hR := iRepeat1_any wo.heap.size 1 1099511627776 S _ (rf.cell 0) (by omega) (by omega)
      have hb0 : Below wo.heap.size wo (wo.alloc (.cells ([.int .i64 1099511627776] : List Value).toArray 2)) := (Below.refl _ _).alloc (Nat.le_refl _) _
      have HB0 := Lib.hid hb0
      have BOO := Lib.hid BOo
      clear rf hb0 BOo
      go_wp2_with fail
      clear z0
      refine hR.mono ?_
      rintro e wa ⟨gc, rfl, hgc, hrow, hba⟩
      have HBA : Hid (Below wo.heap.size wo wa) := HB0.out.trans (hba.mono HB0.out.size)
      have HGC : Hid (wo.heap.size ≤ gc) := Nat.le_trans HB0.out.size hgc
      have HRA : Hid (RowI wa wo.heap.size 2 (.slice (some ⟨gc, 0, none⟩) S S) (List.replicate S 1099511627776)) := by
        have := rowI_of hrow HGC.out (by rw [List.length_replicate]; unfold maxLen; omega)
        rw [List.length_replicate] at this
        exact this
      clear hR hgc hrow hba HB0
      have c0 := HRA.out.cell (k := k) (x := 1099511627776) (by rw [List.getElem?_replicate, if_pos hlt])
      have c1 := HRA.out.frozen k
      go_upto_region 10 with fail
      clear c0 c1
      have hrs : RowI (wa.setCell ⟨gc, k, none⟩ (.int .i64 0)) wo.heap.size 2 (.slice (some ⟨gc, 0, none⟩) S S) (one0 1099511627776 S k) := HRA.out.set k 0
      have hbs : Below wo.heap.size wo (wa.setCell ⟨gc, k, none⟩ (.int .i64 0)) := HBA.out.setCell (p := ⟨gc, k, none⟩) HGC.out _
      change Code.wp _ _ _ _ (wa.setCell ⟨gc, k, none⟩ (.int .i64 0))
      obtain ⟨ws, hws⟩ : ∃ x, x = wa.setCell ⟨gc, k, none⟩ (.int .i64 0) := ⟨_, rfl⟩
      rw [← hws] at hrs hbs
      rw [← hws]
      clear hws HRA HBA
      have HRS := Lib.hid hrs; have HBS := Lib.hid hbs
      have BOs := BOO.out.below hbs BOO.out.lt
      have b0 := BOs.cell 0; have b1 := BOs.cell 1; have b2 := BOs.cell 2; have b3 := BOs.cell 3; have b4 := BOs.cell 4
      have hbW : Below w.heap.size w wo := BX1.out.trans (HO.out.bel.mono BX1.out.size)
      have HBW := Lib.hid hbW
      have h2s := ((H2.out.below hbW (Nat.le_refl _)).more hbW.size).below hbs (Nat.le_refl _)
      have hBd : Bd 1099511627776 (one0 1099511627776 S k) := by
        intro x hx
        unfold one0 at hx
        rcases List.mem_or_eq_of_mem_set hx with h | h
        · rw [List.eq_of_mem_replicate h]; omega
        · rw [h]; omega
      have HBd := Lib.hid hBd
      clear hrs hbs BOs hbW
      go_wp2_with fail
      clear b0 b1 b2 b3 b4
      refine (iRelax_any wo.heap.size gc S S (one0 1099511627776 S k) (S : Int) T (some ⟨p2, 0, none⟩) L.length c2 (some ⟨p3, 0, none⟩) P.length c3 (some ⟨p4, 0, none⟩) E.length c4 L ws h2s HRS.out HBS.out.size HBd.out QA.out (by omega) (by omega)).mono ?_
      clear h2s hBd
      rintro e wb ⟨rfl, hrb, hbb⟩
      have HBb : Hid (Below wo.heap.size wo wb) := HBS.out.trans (hbb.below HGC.out HBS.out.size)
      obtain ⟨r, hr⟩ : ∃ r, r = weR 1099511627776 L S k := ⟨_, rfl⟩
      have HRR := Lib.hid hr
      have HRB : Hid (RowI wb wo.heap.size 2 (.slice (some ⟨gc, 0, none⟩) S S) r) := by rw [hr]; exact hrb
      have HRL : Hid (r.length = S) := by rw [hr]; exact weR_len _ _ _ _
      have HRD : Hid (Bd 1099511627776 r) := by rw [hr]; exact Bd.relN (by omega) HBd.out QA.out.cost _
      have hOb := HO.out.call HBb.out (Nat.le_refl _)
      have HOb := Lib.hid hOb
      have HG2 : Hid (gc ≠ gx ∧ (Value.slice A2 (weIs 1099511627776 L S k).length d2).ownBlock ≠ some gc ∧ (Value.slice A4 k d4).ownBlock ≠ some gc) := by
        have h1 := HGC.out; have h2 := HO.out.size
        exact ⟨by omega, fun e => by have := (World.ownsRow.lt HO.out.m3.o2 _ e).2; omega, fun e => by have := (World.ownsRow.lt HO.out.m3.o4 _ e).2; omega⟩
      clear hr hrb hbb hOb HBd HRS HBS
      go_wp2_with fail
      go_loopg [8, 9, 11, 44] S (fun q u8 u9 u11 i wr => ∃ (j : Nat) (v2 : Value), i = .int .i64 (j : Int) ∧ j ≤ S ∧ S ≤ q + j ∧ Hid (Bld w1 w2 wr w1.heap.size w2.heap.size gx (S : Int) T v2 (.slice A3 P.length d3) (.slice A4 k d4) (weIs 1099511627776 L S k ++ weKs 1099511627776 L r k j).length P.length k (weIs 1099511627776 L S k ++ weKs 1099511627776 L r k j) P (weEs 1099511627776 L E S k)) ∧ Hid (RowI wr wo.heap.size 2 (.slice (some ⟨gc, 0, none⟩) S S) r) ∧ Hid (v2.ownBlock ≠ some gc))
      case atStart => exact ⟨0, _, by go_num, by omega, by omega, by show Bld _ _ _ _ _ _ _ _ _ _ _ _ _ _ _ _ _; rw [show weKs 1099511627776 L r k 0 = [] from rfl, List.append_nil]; exact HOb.out, HRB.out, HG2.out.2.1⟩
      case round =>
        clear HOb HRB HO HBb
        obtain ⟨j, v2, rfl, hj, hm2, HO, HR, HNV⟩ := hrel
        obtain ⟨wi, rfl⟩ : ∃ x : World, x = wr := ⟨_, rfl⟩
        obtain ⟨gp, hgp⟩ : ∃ g : Nat, g = gk := ⟨_, rfl⟩
        obtain ⟨B2, e2, hv2, _, _⟩ := own_form HO.out.m3.o2
        subst hv2
        by_cases hlt2 : j < S
        · have hxc := g0_some (show j < r.length by rw [HRL.out]; exact hlt2)
          obtain ⟨c, hc⟩ : ∃ c, c = g0 r j := ⟨_, rfl⟩
          rw [← hc] at hxc
          have bc := HRD.out.get hxc
          have HCC := Lib.hid hc
          have kc := HR.out.cell hxc
          have q1 : (j : Int) < (S : Int) := by omega
          have q2 : (0 : Int) ≤ (j : Int) := by omega
          have BOi := HO.out.old BOX.out (by have := LTS.out; omega) (by have := LTS.out; omega)
          have k2 := BOi.cell 2
          clear hc hxc BOi
          obtain ⟨X0, hX0⟩ : ∃ X, X = weIs 1099511627776 L S k ++ weKs 1099511627776 L r k j := ⟨_, rfl⟩
          rw [← hX0] at HO HNV
          have HX0 := Lib.hid hX0
          clear hX0
          go_wp2_with fail
          clear kc k2
          go_loopg [11, 52] L.length (fun q u11 i wr => ∃ (t : Nat) (v2 : Value), i = .int .i64 (t : Int) ∧ t ≤ L.length ∧ L.length ≤ q + t ∧ Hid (Bld w1 w2 wr w1.heap.size w2.heap.size gx (S : Int) T v2 (.slice A3 P.length d3) (.slice A4 k d4) (X0 ++ (L.take t).flatMap (weC 1099511627776 r k j)).length P.length k (X0 ++ (L.take t).flatMap (weC 1099511627776 r k j)) P (weEs 1099511627776 L E S k)) ∧ Hid (RowI wr wo.heap.size 2 (.slice (some ⟨gc, 0, none⟩) S S) r) ∧ Hid (v2.ownBlock ≠ some gc))
          case atStart => exact ⟨0, _, by go_num, by omega, by omega, by show Bld _ _ _ _ _ _ _ _ _ _ _ _ _ _ _ _ _; rw [List.take_zero, List.flatMap_nil, List.append_nil]; exact HO.out, HR.out, HNV.out⟩
          case round =>
            clear HO HR HNV
            obtain ⟨t, v2, rfl, ht, hm3, HO, HR, HNV⟩ := hrel
            obtain ⟨wt, rfl⟩ : ∃ x : World, x = wr := ⟨_, rfl⟩
            obtain ⟨C2, f2, hv2, _, _⟩ := own_form HO.out.m3.o2
            subst hv2
            by_cases hlt3 : t < L.length
            · have hbo : Below w.heap.size w wt := BX1.out.trans (HO.out.bel.mono BX1.out.size)
              obtain ⟨b, off, a0, t1, a2, a3, hsl, hbB, hx, k0, k1, k2, k3⟩ := (H2.out.below hbo (Nat.le_refl _)).at_ hlt3
              injection hsl with hsl
              injection hsl with q3 q4 _
              subst q3 q4
              rw [Nat.zero_add] at k0 k1 k2 k3
              have hrange := QA.out _ (List.mem_of_getElem? hx.out)
              simp only at hrange
              obtain ⟨⟨r1, r2⟩, ⟨r3, r4⟩, r5, r6⟩ := hrange
              obtain ⟨fn, hfn⟩ : ∃ f : Nat, a0 = (f : Int) := ⟨a0.toNat, by omega⟩
              subst hfn
              have HST := Lib.hid (weT_step (F := 1099511627776) (r := r) (i := k) (k := j) hx.out)
              have HLE : Hid ((X0 ++ (L.take t).flatMap (weC 1099511627776 r k j)).length + 1 ≤ 4294967296) := by
                have h1 : ((L.take t).flatMap (weC 1099511627776 r k j)).length ≤ t := by
                  have := weK_len (F := 1099511627776) r k j (L.take t)
                  unfold weK at this
                  have h2 := List.countP_le_length (l := L.take t) (p := fun a => decide (a.1 = (j : Int)))
                  rw [List.length_take] at h2
                  omega
                have h3 : X0.length ≤ 128 + 16 * 128 := by
                  rw [HX0.out, List.length_append]
                  have h4 := weIs_len (F := 1099511627776) (L := L) S k
                  have h5 := weKs_len (F := 1099511627776) (L := L) r k j
                  have h6 : cntLt L j ≤ L.length := List.countP_le_length
                  have h7 : L.length * k ≤ 128 * 16 := Nat.mul_le_mul qL (by omega)
                  omega
                rw [List.length_append]
                show _ ≤ _
                omega
              obtain ⟨X, hX⟩ : ∃ X, X = X0 ++ (L.take t).flatMap (weC 1099511627776 r k j) := ⟨_, rfl⟩
              have HNX : Hid (X0 ++ (L.take (t + 1)).flatMap (weC 1099511627776 r k j) = X ++ weC 1099511627776 r k j ((fn : Int), t1, a2, a3)) := by show _ = _; rw [HST.out, ← List.append_assoc, hX]
              rw [← hX] at HO HLE HNV
              clear hX HST hx hbo
              have l2 : (0 : Int) ≤ (t : Int) := by omega
              have l3 : (t : Int) < (L.length : Int) := by omega
              have RA_ := Row.new wt 39 [.int .i64 (fn : Int), .int .i64 t1, .int .i64 a2, .int .i64 a3]
              have d0 := RA_.cell 0; have d1 := RA_.cell 1; have d2_ := RA_.cell 2; have d3_ := RA_.cell 3
              have HO1 := Lib.hid (HO.out.alloc (.cells ([.int .i64 (fn : Int), .int .i64 t1, .int .i64 a2, .int .i64 a3] : List Value).toArray 39))
              have HR1 := Lib.hid (HR.out.alloc (.cells ([.int .i64 (fn : Int), .int .i64 t1, .int .i64 a2, .int .i64 a3] : List Value).toArray 39))
              have HNV1 : Hid ((Value.slice C2 X.length f2).ownBlock ≠ some gc) := HNV.out
              by_cases hp1 : c < 1099511627776
              · by_cases hp2 : 0 ≤ a2
                · by_cases hp3 : (fn : Int) = (j : Int)
                  · have HWC : Hid (weC 1099511627776 r k j ((fn : Int), t1, a2, a3) = [((k : Int), t1, a2, c + a3)]) := by show _ = _; unfold weC; rw [← HCC.out, if_pos ⟨hp1, hp2, hp3⟩]
                    have hp4 : ((fn : Int) == (j : Int)) = true := by rw [beq_iff_eq]; exact hp3
                    have ew : IntKind.i64.wrap (c + a3) = c + a3 := IntWalk.i64_in _ (by omega)
                    have y2 := HO1.out.m3.row.cell 2
                    clear HO HR RA_
                    have HNF := Lib.hid hp3
                    have hp5 : fn = j := by omega
                    subst hp5
                    clear hp3
                    go_upto_region 18 with fail
                    clear k0 k1 k2 k3
                    obtain ⟨y, hy⟩ : ∃ y, y = (wt.alloc (.cells ([.int .i64 (fn : Int), .int .i64 t1, .int .i64 a2, .int .i64 a3] : List Value).toArray 39)) := ⟨_, rfl⟩
                    obtain ⟨ga, hga⟩ : ∃ x, x = wt.heap.size := ⟨_, rfl⟩
                    change Code.wp _ _ _ _ (wt.alloc (.cells ([.int .i64 (fn : Int), .int .i64 t1, .int .i64 a2, .int .i64 a3] : List Value).toArray 39))
                    rw [← hy] at HO1 HR1 y2
                    rw [← hy, ← hga] at d0 d1 d2_ d3_
                    rw [← hy, ← hga]
                    clear hy hga
                    have HNA : Hid (∀ j' u, ([.int .i64 (k : Int), .int .i64 t1, .int .i64 a2, .int .i64 (c + a3)] : List Value)[j']? = some u → (y.alloc (.cells ([.int .i64 (k : Int), .int .i64 t1, .int .i64 a2, .int .i64 (c + a3)] : List Value).toArray 39)).cell? ⟨y.heap.size, 0 + j', none⟩ = some u) := fun j' u hu => by rw [Nat.zero_add]; exact ((Row.new y 39 [.int .i64 (k : Int), .int .i64 t1, .int .i64 a2, .int .i64 (c + a3)]).cell j').trans hu
                    have HOA := Lib.hid (HO1.out.alloc (.cells ([.int .i64 (k : Int), .int .i64 t1, .int .i64 a2, .int .i64 (c + a3)] : List Value).toArray 39))
                    have HRA := Lib.hid (HR1.out.alloc (.cells ([.int .i64 (k : Int), .int .i64 t1, .int .i64 a2, .int .i64 (c + a3)] : List Value).toArray 39))
                    have HSZ : Hid (w1.heap.size ≤ (y.alloc (.cells ([.int .i64 (k : Int), .int .i64 t1, .int .i64 a2, .int .i64 (c + a3)] : List Value).toArray 39)).heap.size) := by have := HOA.out.l2; have := HOA.out.ll; show _ ≤ _; omega
                    go_wp2_with (first | (at_builtin; refine wpList_cells_push (w0 := y.alloc (.cells ([.int .i64 (k : Int), .int .i64 t1, .int .i64 a2, .int .i64 (c + a3)] : List Value).toArray 39)) rfl (.tmp 70) (.tmp 81) _ rfl w1.heap.size 39 (.agg #[.int .i64 0, .int .i64 0, .int .i64 0, .int .i64 0]) 4 32 Try.underlying25 infoAr rfl (by omega) (by omega) (.slice C2 X.length f2) X.length (fa X) rfl HOA.out.m3.o2 y.heap.size 0 1 1 [.int .i64 (k : Int), .int .i64 t1, .int .i64 a2, .int .i64 (c + a3)] rfl rfl HNA.out (fa_one [((k : Int), t1, a2, c + a3)]) HLE.out HSZ.out ?_; intro v' w' hown hgr hat; obtain ⟨D2, h2, hv', _, _⟩ := own_form hown; subst hv'; have hrw := HOA.out.m3.row.grown hgr (fun e => (HOA.out.m3.d2 gx e.symm).1 rfl); have y3 := hrw.cell 2; have y4 := hrw.frozen 2; have HP := Lib.hid (HOA.out.push2 (Y := X ++ [((k : Int), t1, a2, c + a3)]) (by rw [fa_append]; exact hown) hgr hat); have HRP := Lib.hid (rowI_push (q := 2) (u := .slice D2 (X.length + 1) h2) HRA.out hgr HG2.out.1 HNV1.out); have HNV2 : Hid ((Value.slice D2 (X.length + 1) h2).ownBlock ≠ some gc) := (fun e => (by rcases hat with q | q; exact HNV1.out (by rw [← q]; exact e); rw [e] at q; have := Option.some.inj q; have := HRA.out.lt.2; omega)); clear hown hgr hat hrw))
                    go_roundg (gk - 1)
                    case measure => omega
                    case rel =>
                      refine ⟨t + 1, (.slice D2 (X.length + 1) h2), by go_num, by omega, by omega, ?_, HRP.out, HNV2.out⟩
                      show Bld _ _ _ _ _ _ _ _ _ _ _ _ _ _ _ _ _
                      rw [HNX.out, HWC.out, List.length_append]
                      exact HP.out
                  · have HWC : Hid (weC 1099511627776 r k j ((fn : Int), t1, a2, a3) = []) := by show _ = _; unfold weC; rw [if_neg (fun h => hp3 h.2.2)]
                    have hp4 : ((fn : Int) == (j : Int)) = false := beq_false_of_ne hp3
                    go_wp2_with fail
                    go_roundg (gk - 1)
                    case measure => omega
                    case rel => exact ⟨t + 1, _, by go_num, by omega, by omega, by show Bld _ _ _ _ _ _ _ _ _ _ _ _ _ _ _ _ _; rw [HNX.out, HWC.out, List.append_nil]; exact HO1.out, HR1.out, by show _ ≠ _; exact HNV1.out⟩
                · have HWC : Hid (weC 1099511627776 r k j ((fn : Int), t1, a2, a3) = []) := by show _ = _; unfold weC; rw [if_neg (fun h => hp2 h.2.1)]
                  have hp4 : a2 < 0 := by omega
                  clear hp2
                  go_wp2_with fail
                  go_roundg (gk - 1)
                  case measure => omega
                  case rel => exact ⟨t + 1, _, by go_num, by omega, by omega, by show Bld _ _ _ _ _ _ _ _ _ _ _ _ _ _ _ _ _; rw [HNX.out, HWC.out, List.append_nil]; exact HO1.out, HR1.out, by show _ ≠ _; exact HNV1.out⟩
              · have HWC : Hid (weC 1099511627776 r k j ((fn : Int), t1, a2, a3) = []) := by show _ = _; unfold weC; rw [← HCC.out, if_neg (fun h => hp1 h.1)]
                have hp4 : 1099511627776 ≤ c := by omega
                clear hp1
                go_wp2_with fail
                go_roundg (gk - 1)
                case measure => omega
                case rel => exact ⟨t + 1, _, by go_num, by omega, by omega, by show Bld _ _ _ _ _ _ _ _ _ _ _ _ _ _ _ _ _; rw [HNX.out, HWC.out, List.append_nil]; exact HO1.out, HR1.out, by show _ ≠ _; exact HNV1.out⟩
            · have htL : t = L.length := by omega
              have l1 : ¬ (t : Int) < (L.length : Int) := by omega
              have HFU : Hid (X0 ++ (L.take t).flatMap (weC 1099511627776 r k j) = weIs 1099511627776 L S k ++ weKs 1099511627776 L r k (j + 1)) := by show _ = _; rw [htL, List.take_length, HX0.out, List.append_assoc]; rfl
              rw [HFU.out] at HO
              clear htL hlt3
              go_wp2_with fail
              go_roundg (gp - 1)
              case measure => omega
              case rel => exact ⟨j + 1, _, by go_num, by omega, by omega, HO.out, HR.out, by rw [← HFU.out]; exact HNV.out⟩
        · have hjS : j = S := by omega
          have l1 : ¬ (j : Int) < (S : Int) := by omega
          have HFU : Hid (weIs 1099511627776 L S k ++ weKs 1099511627776 L r k j = weIs 1099511627776 L S (k + 1)) := by show _ = _; rw [hjS, HRR.out]; rfl
          have HNV2 : Hid ((Value.slice A4 k d4).ownBlock ≠ some gc) := HG2.out.2.2
          have HOL := HFU.out
          rw [HOL] at HO
          clear hjS hlt2 HNV HOL
          have HWE : Hid (weEs 1099511627776 L E S (k + 1) = weEs 1099511627776 L E S k ++ [lsV 1099511627776 r (frL 1099511627776 E)]) := by show _ = _; rw [HRR.out]; rfl
          obtain ⟨y, hy⟩ : ∃ y, y = lsV 1099511627776 r (frL 1099511627776 E) := ⟨_, rfl⟩
          have HY := Lib.hid hy
          have HLS : Hid (∀ q : Nat, Calls Try.prog 51 #[.slice (some ⟨gc, 0, none⟩) S S, .slice (some ⟨ge, 0, none⟩) E.length ce] (wi.drewN q) fun e w' => e = .returned (.int .i64 y) ∧ ∃ m, w' = (wi.drewN q).drewN m) := fun q => by rw [hy]; exact iLeastSumQN_any _ S S r _ E.length ce (frL 1099511627776 E) (wi.drewN q) (RowI.sl HR.out HR.out.n) ((own_move HEN.out (fun b hb => HO.out.fr.2.2.2.2 b (by simp [Value.ownBlock] at hb; have := LTS.out; omega) (by simp [Value.ownBlock] at hb; have := LTS.out; omega)) : RowI wi w1.heap.size 2 (.slice (some ⟨ge, 0, none⟩) E.length ce) (frL 1099511627776 E)) |> fun h => RowI.sl h (HEN.out.n)) HRD.out (frL_bd (by omega) HEF.out) (by omega) HES.out
          have HLSA : Hid (∀ q : Nat, Calls Try.prog 51 #[.slice (some ⟨gc, 0, none⟩) S S, .slice (some ⟨ge, 0, none⟩) E.length ce] (wi.drewN q) fun e w' => e = .returned (.int .i64 y) ∧ ∃ m, w' = (wi.drewN q).drewN m) := HLS
          clear hy HR
          have HLSD : Hid (Calls Try.prog 51 #[.slice (some ⟨gc, 0, none⟩) S S, .slice (some ⟨ge, 0, none⟩) E.length ce] wi.drew fun e w' => e = .returned (.int .i64 y) ∧ ∃ m, w' = wi.drew.drewN m) := HLSA.out 1
          have e4 := HO.out.m3.row.cell 4
          have P01 : 0 < 1 := by omega
          have P832 : 8 ≤ 32 := by omega
          have ROOM : Hid (k + 1 ≤ 4294967296) := by show _ ≤ _; omega
          clear HLS HLSA
          go_upto_region 21 with fail
          go_region_law (first
            | (rw [if_pos (by rfl)]; go_simp; go_at_call 51; refine (HLSD.out).mono ?_; rintro e wz ⟨rfl, mm, hwz⟩; have HZ : Hid (Bld w1 w2 wz w1.heap.size w2.heap.size gx (S : Int) T (.slice B2 (weIs 1099511627776 L S (k + 1)).length e2) (.slice A3 P.length d3) (.slice A4 k d4) (weIs 1099511627776 L S (k + 1)).length P.length k (weIs 1099511627776 L S (k + 1)) P (weEs 1099511627776 L E S k)) := (by rw [hwz]; exact HO.out.drew.drewN mm); have z4 := HZ.out.m3.row.cell 4; have HZA := Lib.hid (HZ.out.alloc (.cells ([.int .i64 y] : List Value).toArray 2)); have za4 := HZA.out.m3.row.cell 4; have HSZ : Hid (w1.heap.size ≤ (wz.alloc (.cells ([.int .i64 y] : List Value).toArray 2)).heap.size) := (by have := HZA.out.l2; have := HZA.out.ll; show _ ≤ _; omega); have HNEW : Hid (∀ j' u, ([.int .i64 y] : List Value)[j']? = some u → (wz.alloc (.cells ([.int .i64 y] : List Value).toArray 2)).cell? ⟨wz.heap.size, 0 + j', none⟩ = some u) := (fun j' u hu => by rw [Nat.zero_add]; exact ((Row.new wz 2 [.int .i64 y]).cell j').trans hu); clear hwz)
            | (refine step_cells_push rfl (.tmp 87) (.tmp 91) _ rfl w1.heap.size 2 (.int .i64 0) 1 8 Try.underlying26 infoQ rfl P01 P832 (.slice A4 k d4) k (iv (weEs 1099511627776 L E S k)) ?_ HZA.out.m3.o4 wz.heap.size 0 1 1 [.int .i64 y] ?_ rfl HNEW.out (iv_one [y]) ROOM.out HSZ.out ?_; rfl; rfl; intro A5 d5 wv hown hgr hbl hat; have hrow := HZA.out.m3.row.grown hgr (fun e => HZA.out.m3.d4 _ e.symm rfl); have y4 := hrow.cell 4; have f4 := hrow.frozen 4; have HP := Lib.hid (HZA.out.push4 (Y := weEs 1099511627776 L E S k ++ [y]) (by rw [iv_append]; exact hown) hgr hat); clear hrow hown hgr hbl hat))
          all_goals
            try clear e4
            try clear z4
            try clear za4
            try clear y4
            try clear f4
            go_wp2_with fail
            go_roundg (gq - 1)
            case measure => omega
            case rel =>
              refine ⟨k + 1, (.slice B2 (weIs 1099511627776 L S (k + 1)).length e2), (.slice A5 (k + 1) d5), by go_num, by omega, by omega, ?_⟩
              show Bld _ _ _ _ _ _ _ _ _ _ _ _ _ _ _ _ _
              rw [HWE.out, ← HY.out]
              exact HP.out
    · have hkS : k = S := by omega
      have l1 : ¬ (k : Int) < (S : Int) := by omega
      subst hkS
      clear hlt hk hm
      obtain ⟨w5, rfl⟩ : ∃ x : World, x = wo := ⟨_, rfl⟩
      have ho := HO.out
      have eA : weIs 1099511627776 L k k = weA 1099511627776 L k := rfl
      have eE : weEs 1099511627776 L E k k = weE 1099511627776 L E k := rfl
      rw [eA, eE] at ho
      have hen : k = (weE 1099511627776 L E k).length := by rw [weE_len]
      have hlw := HLW.out
      have hT := iTidyOfN_any (k : Int) T (weA 1099511627776 L k) P (weE 1099511627776 L E k) A2 A3 A4 (weA 1099511627776 L k).length P.length k d2 d3 d4 w5 rfl rfl hen (ownA_pl ho.m3.o2) (ownA_pl ho.m3.o3) (ownA_pl ho.m3.o4) (ow_slA2 ho.m3.o2 rfl) (own_sl ho.m3.o3) (own_sl ho.m3.o4) (by omega) (by have := HPS.out; omega) (by omega)
      rw [HVA.out] at hT
      have hT : Calls Try.prog 10 #[.agg #[.int .i64 (k : Int), .int .i64 T, .slice A2 (weA 1099511627776 L k).length d2, .slice A3 P.length d3, .slice A4 k d4]] w5 fun e w' => ∃ v', e = .returned (.tuple #[v', .bool true]) ∧ McW w' w5.heap.size v' (k : Int) T (tdy (weA 1099511627776 L k)) P (weE 1099511627776 L E k) ∧ Below w5.heap.size w5 w' := hT
      have RES5 := ho.old RES.out (by have := LTS.out; omega) (by have := LTS.out; omega)
      have hb5 : Below w.heap.size w w5 := BX1.out.trans (ho.bel.mono BX1.out.size)
      have hr5 := ho.m3.row
      have q0 := hr5.cell 0; have q1 := hr5.cell 1; have q2 := hr5.cell 2; have q3 := hr5.cell 3; have q4 := hr5.cell 4
      have RES5 := Lib.hid RES5; have HB5 := Lib.hid hb5; have HT := Lib.hid hT
      have LT5 : Hid (w.heap.size + 2 ≤ w5.heap.size) := by have := ho.size; have := LTS.out; show _ ≤ _; omega
      clear ho hr5 hb5 eA eE hen hT hlw
      go_wp2_with fail
      clear q0 q1 q2 q3 q4
      refine HT.out.mono ?_
      rintro e w6 ⟨v', rfl, hv, hb6⟩
      obtain ⟨F2, f2, F3, f3, F4, f4, hsh⟩ := McO.shape hv
      subst hsh
      have RES6 := RES5.out.below hb6 RES5.out.lt
      have r0 := RES6.cell 0; have r1 := RES6.cell 1; have r2 := RES6.cell 2; have r3 := RES6.cell 3; have r4 := RES6.cell 4
      have f0 := RES6.frozen 0; have f1 := RES6.frozen 1; have f2_ := RES6.frozen 2; have f3_ := RES6.frozen 3; have f4_ := RES6.frozen 4
      have HV := Lib.hid hv; have HB6 := Lib.hid (HB5.out.trans (hb6.mono HB5.out.size)); have RES6 := Lib.hid RES6
      clear hv hb6
      go_wp2_with fail
      clear r0 r1 r2 r3 r4 f0 f1 f2_ f3_ f4_
      have hF := (((((RES6.out.set_ 0 (.int .i64 (k : Int))).set_ 1 (.int .i64 T)).set_ 2 (.slice F2 (tdy (weA 1099511627776 L k)).length f2)).set_ 3 (.slice F3 P.length f3)).set_ 4 (.slice F4 (weE 1099511627776 L E k).length f4))
      refine bodyPost_ret (results_cell2 rfl _ _ (w.heap.size + 1) 28 #[.int .i64 (k : Int), .int .i64 T, .slice F2 (tdy (weA 1099511627776 L k)).length f2, .slice F3 P.length f3, .slice F4 (weE 1099511627776 L E k).length f4] (0, 0) _ (.bool true) rfl rfl hF Try.underlying28 rfl (by kernel_rfl)) rfl ?_
      have hkp : Kp (w.heap.size + 1) (w.heap.size + 2) w6 (((((w6.setCell ⟨w.heap.size + 1, 0, none⟩ (.int .i64 (k : Int))).setCell ⟨w.heap.size + 1, 1, none⟩ (.int .i64 T)).setCell ⟨w.heap.size + 1, 2, none⟩ (.slice F2 (tdy (weA 1099511627776 L k)).length f2)).setCell ⟨w.heap.size + 1, 3, none⟩ (.slice F3 P.length f3)).setCell ⟨w.heap.size + 1, 4, none⟩ (.slice F4 (weE 1099511627776 L E k).length f4)) := ⟨rfl, rfl, rfl, by simp [World.setCell], fun q hq hn => heap_set5 _ _ _ _ _ (by omega)⟩
      have hBF := (((((HB6.out.setCell (p := ⟨w.heap.size + 1, 0, none⟩) (show w.heap.size ≤ w.heap.size + 1 by omega) (.int .i64 (k : Int))).setCell (p := ⟨w.heap.size + 1, 1, none⟩) (show w.heap.size ≤ w.heap.size + 1 by omega) (.int .i64 T)).setCell (p := ⟨w.heap.size + 1, 2, none⟩) (show w.heap.size ≤ w.heap.size + 1 by omega) (.slice F2 (tdy (weA 1099511627776 L k)).length f2)).setCell (p := ⟨w.heap.size + 1, 3, none⟩) (show w.heap.size ≤ w.heap.size + 1 by omega) (.slice F3 P.length f3)).setCell (p := ⟨w.heap.size + 1, 4, none⟩) (show w.heap.size ≤ w.heap.size + 1 by omega) (.slice F4 (weE 1099511627776 L E k).length f4))
      exact ⟨_, rfl, McW.mono (McW.kp HV.out hkp LT5.out) (show w.heap.size ≤ w5.heap.size by have := LT5.out; omega), hBF⟩

end Go.Proofs.Ytkfmjnefbimecaa
