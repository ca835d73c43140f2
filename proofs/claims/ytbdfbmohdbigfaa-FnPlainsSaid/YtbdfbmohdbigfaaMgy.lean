/- Several texts in one: MeetPlain of the program, at valid arguments. A struct of two numbers and two lists in a block of its own while it is being built, with a list, a map and a result's block beside it: all apart. -/
import Derived.Test.YtbdfbmohdbigfaaFpM
import Derived.Test.YtbdfbmohdbigfaaExwP
import Derived.Test.YtbdfbmohdbigfaaMgw

namespace Go.Proofs.Ytbdfbmohdbigfaa
open Go.RowKit
set_option linter.unusedVariables false
theorem allIn_of {P : List Int} {S : Nat} (h : ∀ x ∈ P, 0 ≤ x ∧ x < (S : Int)) : allIn P 0 ((S : Int) - 1) = true := by
  unfold allIn
  rw [List.all_eq_true]
  intro x hx
  have := h x hx
  exact decide_eq_true (by omega)
theorem PlOk.valid {w : World} {S T : Nat} {A2 : Option Addr} {n2 : Nat} (c2 : Nat) {A3 : Option Addr} {n3 : Nat} (c3 : Nat) {P : List Int} {E : List Bool} (h : PlOk w S T A2 n2 A3 n3 P E) :
    Calls Try.prog 46 #[.agg #[.int .i64 (S : Int), .int .i64 (T : Int), .slice A2 n2 c2, .slice A3 n3 c3]] w fun e w' => e = .returned (.bool true) ∧ Below w.heap.size w w' :=
  iValidPlain_yes S T A2 n2 c2 A3 n3 c3 P w h.h2 h.hS h.hT h.hn (allIn_of h.hP) h.hE
theorem plw_low4 {x x' : World} {b b' : Nat} {v : Value} {S T : Int} {N : List Int} {E : List Bool} (h : PlW x b v S T N E) (hb : b' ≤ b) (hs : x'.heap.size = x.heap.size) (hk : ∀ k, b ≤ k → x'.heap[k]? = x.heap[k]?) : PlW x' b' v S T N E := by
  obtain ⟨v2, v3, rfl, h2, h3, d⟩ := h
  have o2 := own_move h2.1 (w' := x') (fun k q => hk k (h2.1.lt k q).1)
  have o3 := own_move h3.1 (w' := x') (fun k q => hk k (h3.1.lt k q).1)
  exact ⟨v2, v3, rfl, OwnV.of (World.ownsRow.mono o2 hb), OwnV.of (World.ownsRow.mono o3 hb), d⟩
def plM (Ea Eb : List Bool) (p : Nat × Nat) : Bool := Ea.getD p.1 false && Eb.getD p.2 false
/-- What MeetPlain hands out. -/
def MtPost (Pa Pb : List Int) (Ea Eb : List Bool) (T : Nat) (w : World) (e : Ending) (w' : World) : Prop := ∃ v, e = .returned (.tuple #[v, .bool (exAll (plX T Pa Pb) (0, 0) T).isSome]) ∧ PlW w' w.heap.size v (eqN (plX T Pa Pb) (0, 0) T : Int) (eqT (plX T Pa Pb) (0, 0) T : Int) (eqP (plX T Pa Pb) (0, 0) T) (eqD (plX T Pa Pb) (plM Ea Eb) (0, 0) T) ∧ Below w.heap.size w w'
set_option maxRecDepth 100000 in
set_option maxHeartbeats 8000000 in
theorem iMeetPlain_any (Sa Sb T : Nat) (A2 : Option Addr) (n2 c2 : Nat) (A3 : Option Addr) (n3 c3 : Nat) (Pa : List Int) (Ea : List Bool) (B2 : Option Addr) (m2 d2 : Nat) (B3 : Option Addr) (m3 d3 : Nat) (Pb : List Int) (Eb : List Bool) (w : World) (ha : PlOk w Sa T A2 n2 A3 n3 Pa Ea) (hb : PlOk w Sb T B2 m2 B3 m3 Pb Eb) :
    Calls Try.prog 16 #[.agg #[.int .i64 (Sa : Int), .int .i64 (T : Int), .slice A2 n2 c2, .slice A3 n3 c3], .agg #[.int .i64 (Sb : Int), .int .i64 (T : Int), .slice B2 m2 d2, .slice B3 m3 d3]] w (MtPost Pa Pb Ea Eb T w) := by
  have ra := ((Row.new w 33 (BxP (Sa : Int) (T : Int) A2 n2 c2 A3 n3 c3)).alloc (.cells (BxP (Sb : Int) (T : Int) B2 m2 d2 B3 m3 d3).toArray 33)).alloc (.cells ([.int .i64 0, .int .i64 0, .slice none 0 0, .slice none 0 0] : List Value).toArray 33)
  have rb := (Row.new (w.alloc (.cells (BxP (Sa : Int) (T : Int) A2 n2 c2 A3 n3 c3).toArray 33)) 33 (BxP (Sb : Int) (T : Int) B2 m2 d2 B3 m3 d3)).alloc (.cells ([.int .i64 0, .int .i64 0, .slice none 0 0, .slice none 0 0] : List Value).toArray 33)
  have rr := Row.new ((w.alloc (.cells (BxP (Sa : Int) (T : Int) A2 n2 c2 A3 n3 c3).toArray 33)).alloc (.cells (BxP (Sb : Int) (T : Int) B2 m2 d2 B3 m3 d3).toArray 33)) 33 [.int .i64 0, .int .i64 0, .slice none 0 0, .slice none 0 0]
  have bx : Below w.heap.size w (((w.alloc (.cells (BxP (Sa : Int) (T : Int) A2 n2 c2 A3 n3 c3).toArray 33)).alloc (.cells (BxP (Sb : Int) (T : Int) B2 m2 d2 B3 m3 d3).toArray 33)).alloc (.cells ([.int .i64 0, .int .i64 0, .slice none 0 0, .slice none 0 0] : List Value).toArray 33)) := (((Below.refl _ _).alloc (Nat.le_refl _) _).alloc (by simp) _).alloc (by simp; omega) _
  rw [show (w.alloc (.cells (BxP (Sa : Int) (T : Int) A2 n2 c2 A3 n3 c3).toArray 33)).heap.size = w.heap.size + 1 by simp] at rb
  rw [show ((w.alloc (.cells (BxP (Sa : Int) (T : Int) A2 n2 c2 A3 n3 c3).toArray 33)).alloc (.cells (BxP (Sb : Int) (T : Int) B2 m2 d2 B3 m3 d3).toArray 33)).heap.size = w.heap.size + 2 by simp] at rr
  obtain ⟨x0, hx0⟩ : ∃ x, x = (((w.alloc (.cells (BxP (Sa : Int) (T : Int) A2 n2 c2 A3 n3 c3).toArray 33)).alloc (.cells (BxP (Sb : Int) (T : Int) B2 m2 d2 B3 m3 d3).toArray 33)).alloc (.cells ([.int .i64 0, .int .i64 0, .slice none 0 0, .slice none 0 0] : List Value).toArray 33)) := ⟨_, rfl⟩
  rw [← hx0] at ra rb rr bx
  have RA := Lib.hid ra; have RB := Lib.hid rb; have RR := Lib.hid rr; have BX := Lib.hid bx
  have HA := Lib.hid (ha.below bx (Nat.le_refl _)); have HB := Lib.hid (hb.below bx (Nat.le_refl _))
  have V1 := Lib.hid ((ha.below bx (Nat.le_refl _)).valid c2 c3)
  clear ra rb rr bx ha hb
  go_enter Try.func16, Try.ntmps16
  go_wp2_with fail
  change Calls _ _ _ (((w.alloc (.cells (BxP (Sa : Int) (T : Int) A2 n2 c2 A3 n3 c3).toArray 33)).alloc (.cells (BxP (Sb : Int) (T : Int) B2 m2 d2 B3 m3 d3).toArray 33)).alloc (.cells ([.int .i64 0, .int .i64 0, .slice none 0 0, .slice none 0 0] : List Value).toArray 33)) _
  rw [← hx0]
  clear hx0
  refine V1.out.mono ?_
  rintro e w1 ⟨rfl, hb1⟩
  have RA1 := Lib.hid (RA.out.below hb1 RA.out.lt); have RB1 := Lib.hid (RB.out.below hb1 RB.out.lt); have RR1 := Lib.hid (RR.out.below hb1 RR.out.lt); have BX1 := Lib.hid (BX.out.trans (hb1.mono BX.out.size))
  have HA1 := Lib.hid (HA.out.below hb1 (Nat.le_refl _)); have HB1 := Lib.hid (HB.out.below hb1 (Nat.le_refl _))
  have q0 := RB1.out.cell 0; have q1 := RB1.out.cell 1; have q2 := RB1.out.cell 2; have q3 := RB1.out.cell 3
  have V2 := Lib.hid (HB1.out.valid d2 d3)
  clear V1 hb1 RA RB RR BX HA HB
  go_wp2_with fail
  refine V2.out.mono ?_
  rintro e w2 ⟨rfl, hb2⟩
  clear q0 q1 q2 q3
  have RA2 := Lib.hid (RA1.out.below hb2 RA1.out.lt); have RB2 := Lib.hid (RB1.out.below hb2 RB1.out.lt); have RR2 := Lib.hid (RR1.out.below hb2 RR1.out.lt); have BX2 := Lib.hid (BX1.out.trans (hb2.mono BX1.out.size))
  have HA2 := Lib.hid (HA1.out.below hb2 (Nat.le_refl _)); have HB2 := Lib.hid (HB1.out.below hb2 (Nat.le_refl _))
  have k1 := RA2.out.cell 1; have q1 := RB2.out.cell 1
  clear V2 hb2 RA1 RB1 RR1 BX1 HA1 HB1
  have HEX : Hid (Calls Try.prog 52 #[.int .i64 (T : Int), .agg #[.int .i64 0, .int .i64 0], .func (.func 50) #[] #[.pointer (some ⟨w.heap.size, 0, none⟩), .pointer (some ⟨w.heap.size + 1, 0, none⟩)], .func (.func 53) #[] #[.pointer (some ⟨w.heap.size, 0, none⟩), .pointer (some ⟨w.heap.size + 1, 0, none⟩)]] w2 fun e y => ∃ (G2 : Option Addr) (e2 : Nat) (G3 : Option Addr) (e3 : Nat), e = .returned (.tuple #[.agg #[.int .i64 (eqN (plX T Pa Pb) (0, 0) T : Int), .int .i64 (eqT (plX T Pa Pb) (0, 0) T : Int), .slice G2 (eqP (plX T Pa Pb) (0, 0) T).length e2, .slice G3 (eqD (plX T Pa Pb) (plM Ea Eb) (0, 0) T).length e3], .bool (exAll (plX T Pa Pb) (0, 0) T).isSome]) ∧ PlW y w2.heap.size (.agg #[.int .i64 (eqN (plX T Pa Pb) (0, 0) T : Int), .int .i64 (eqT (plX T Pa Pb) (0, 0) T : Int), .slice G2 (eqP (plX T Pa Pb) (0, 0) T).length e2, .slice G3 (eqD (plX T Pa Pb) (plM Ea Eb) (0, 0) T).length e3]) (eqN (plX T Pa Pb) (0, 0) T : Int) (eqT (plX T Pa Pb) (0, 0) T : Int) (eqP (plX T Pa Pb) (0, 0) T) (eqD (plX T Pa Pb) (plM Ea Eb) (0, 0) T) ∧ Below w2.heap.size w2 y) := by
    have hS := HA2.out.hS; have hS' := HB2.out.hS; have hT := HA2.out.hT
    have hnx : ∀ (p : Nat × Nat) (j : Nat), (p.1 < Sa ∧ p.2 < Sb) → j < T → (plX T Pa Pb p j).1 < Sa ∧ (plX T Pa Pb p j).2 < Sb := fun p j h1 h3 => ⟨(plT_bd HA2.out.hn HA2.out.h2.len HA2.out.hP h1.1 h3).2, (plT_bd HB2.out.hn HB2.out.h2.len HB2.out.hP h1.2 h3).2⟩
    refine (iExploreP_any (plX T Pa Pb) (plM Ea Eb) (0, 0) T hT.2 w.heap.size (w.heap.size + 1) w2 (fun y => Below w2.heap.size w2 y) (Below.refl _ _) (fun a b h1 h2 _ => h1.trans h2) (fun p => p.1 < Sa ∧ p.2 < Sb) (fun p h => ⟨by omega, by omega⟩) ⟨by show 0 < Sa; omega, by show 0 < Sb; omega⟩ hnx ?_ ?_).mono ?_
    · intro x k l hx hs hk hl
      exact iMeetN_any w.heap.size (w.heap.size + 1) Sa Sb T A2 n2 c2 A3 n3 c3 Pa Ea B2 m2 d2 B3 m3 d3 Pb Eb x (HA2.out.below hx (Nat.le_refl _)) (HB2.out.below hx (Nat.le_refl _)) (RA2.out.below hx RA2.out.lt) (RB2.out.below hx RB2.out.lt) k.1 k.2 l hk.1 hk.2 hl
    · intro x k hx hs hk
      exact iMeetE_any w.heap.size (w.heap.size + 1) Sa Sb T A2 n2 c2 A3 n3 c3 Pa Ea B2 m2 d2 B3 m3 d3 Pb Eb x (HA2.out.below hx (Nat.le_refl _)) (HB2.out.below hx (Nat.le_refl _)) (RA2.out.below hx RA2.out.lt) (RB2.out.below hx RB2.out.lt) k.1 k.2 hk.1 hk.2
    · rintro e y ⟨v, rfl, hv, hb⟩
      obtain ⟨G2, e2, G3, e3, rfl⟩ := PlO.shape hv
      exact ⟨G2, e2, G3, e3, rfl, hv, hb⟩
  have q1' := q1
  clear q1
  obtain ⟨rN, hrN⟩ : ∃ x, x = eqN (plX T Pa Pb) (0, 0) T := ⟨_, rfl⟩
  obtain ⟨rT, hrT⟩ : ∃ x, x = eqT (plX T Pa Pb) (0, 0) T := ⟨_, rfl⟩
  obtain ⟨rP, hrP⟩ : ∃ x, x = eqP (plX T Pa Pb) (0, 0) T := ⟨_, rfl⟩
  obtain ⟨rD, hrD⟩ : ∃ x, x = eqD (plX T Pa Pb) (plM Ea Eb) (0, 0) T := ⟨_, rfl⟩
  obtain ⟨rB, hrB⟩ : ∃ x, x = (exAll (plX T Pa Pb) (0, 0) T).isSome := ⟨_, rfl⟩
  rw [← hrN, ← hrT, ← hrP, ← hrD, ← hrB] at HEX
  have HE1 := Lib.hid hrN; have HE2 := Lib.hid hrT; have HE3 := Lib.hid hrP; have HE4 := Lib.hid hrD; have HE5 := Lib.hid hrB
  have hsz2 : w.heap.size + 2 < w2.heap.size := RR2.out.lt
  clear hrN hrT hrP hrD hrB
  go_wp2_with fail
  refine HEX.out.mono ?_
  rintro e w3 ⟨G2, e2, G3, e3, rfl, hp3, hb3⟩
  have HP3 := Lib.hid hp3; have HB3 := Lib.hid hb3
  have RR3 := Lib.hid (RR2.out.below hb3 RR2.out.lt)
  have k0 := RR3.out.cell 0; have kk1 := RR3.out.cell 1; have k2 := RR3.out.cell 2; have k3 := RR3.out.cell 3
  have f0 := RR3.out.frozen 0; have f1 := RR3.out.frozen 1; have f2 := RR3.out.frozen 2; have f3 := RR3.out.frozen 3
  clear hp3 hb3 HEX k1 q1'
  go_wp2_with fail
  clear k0 kk1 k2 k3 f0 f1 f2 f3
  have hF := ((((RR3.out.set_ 0 (.int .i64 (rN : Int))).set_ 1 (.int .i64 (rT : Int))).set_ 2 (.slice G2 rP.length e2)).set_ 3 (.slice G3 rD.length e3))
  refine bodyPost_ret (results_cell2 rfl _ _ (w.heap.size + 2) 33 #[.int .i64 (rN : Int), .int .i64 (rT : Int), .slice G2 rP.length e2, .slice G3 rD.length e3] (0, 0) _ (.bool rB) rfl rfl hF Try.underlying33 rfl (by kernel_rfl)) rfl ?_
  refine ⟨_, by rw [← HE5.out], ?_, set4_below (BX2.out.trans (HB3.out.mono BX2.out.size)) (show w.heap.size ≤ w.heap.size + 2 by omega) _ _ _ _⟩
  rw [← HE1.out, ← HE2.out, ← HE3.out, ← HE4.out]
  exact plw_low4 HP3.out BX2.out.size (set4_size _ _ _ _ _ _) (fun k hk => set4_heap _ _ _ _ _ _ _ (by omega))
end Go.Proofs.Ytbdfbmohdbigfaa


namespace Go.Proofs.Ytbdfbmohdbigfaa
open Go.RowKit
set_option linter.unusedVariables false
structure Xc (x0 w : World) (lo g : Nat) (T t2 t3 t4 : TypeId) (z4 : Nat) (a b v2 v3 v4 : Value) (n2 n3 n4 : Nat) (X2 X3 X4 : List Value) : Prop where
  row : Row w g T [a, b, v2, v3]
  bel : Below lo x0 w
  gb : lo ≤ g
  hl : lo ≤ x0.heap.size
  o2 : w.ownsRow lo t2 1 v2 n2 X2
  o3 : w.ownsRow lo t3 1 v3 n3 X3
  o4 : w.ownsRow lo t4 z4 v4 n4 X4
  d2 : ∀ k, v2.ownBlock = some k → k ≠ g ∧ v3.ownBlock ≠ some k ∧ v4.ownBlock ≠ some k
  d3 : ∀ k, v3.ownBlock = some k → k ≠ g ∧ v4.ownBlock ≠ some k
  d4 : ∀ k, v4.ownBlock = some k → k ≠ g
section
variable {x0 w w' : World} {lo g : Nat} {T t2 t3 t4 : TypeId} {z4 : Nat} {a b v2 v3 v4 : Value} {n2 n3 n4 : Nat} {X2 X3 X4 : List Value}
theorem Xc.size (h : Xc x0 w lo g T t2 t3 t4 z4 a b v2 v3 v4 n2 n3 n4 X2 X3 X4) : lo ≤ w.heap.size := Nat.le_trans h.hl h.bel.size
/-- Behind a call that makes memory. -/
theorem Xc.call {B : Nat} (h : Xc x0 w lo g T t2 t3 t4 z4 a b v2 v3 v4 n2 n3 n4 X2 X3 X4) (hb : Below B w w') (hB : w.heap.size ≤ B) : Xc x0 w' lo g T t2 t3 t4 z4 a b v2 v3 v4 n2 n3 n4 X2 X3 X4 :=
  ⟨h.row.below hb (Nat.lt_of_lt_of_le h.row.lt hB), h.bel.trans (hb.mono (Nat.le_trans h.size hB)), h.gb, h.hl,
    own_move h.o2 (fun k hk => hb.block k (Nat.lt_of_lt_of_le (h.o2.lt k hk).2 hB)), own_move h.o3 (fun k hk => hb.block k (Nat.lt_of_lt_of_le (h.o3.lt k hk).2 hB)), own_move h.o4 (fun k hk => hb.block k (Nat.lt_of_lt_of_le (h.o4.lt k hk).2 hB)), h.d2, h.d3, h.d4⟩
theorem Xc.alloc (h : Xc x0 w lo g T t2 t3 t4 z4 a b v2 v3 v4 n2 n3 n4 X2 X3 X4) (o : Obj) : Xc x0 (w.alloc o) lo g T t2 t3 t4 z4 a b v2 v3 v4 n2 n3 n4 X2 X3 X4 := h.call ((Below.refl _ _).alloc (Nat.le_refl _) o) (Nat.le_refl _)
theorem Xc.drew (h : Xc x0 w lo g T t2 t3 t4 z4 a b v2 v3 v4 n2 n3 n4 X2 X3 X4) : Xc x0 w.drew lo g T t2 t3 t4 z4 a b v2 v3 v4 n2 n3 n4 X2 X3 X4 := h.call (B := w.heap.size) (Below.drew (Below.refl _ _)) (Nat.le_refl _)
theorem Xc.cell (h : Xc x0 w lo g T t2 t3 t4 z4 a b v2 v3 v4 n2 n3 n4 X2 X3 X4) (k : Nat) : w.cell? ⟨g, k, none⟩ = [a, b, v2, v3][k]? := h.row.cell k
/-- List 2 has been appended to (its row may lie elsewhere now), and stored. -/
theorem Xc.push2 (h : Xc x0 w lo g T t2 t3 t4 z4 a b v2 v3 v4 n2 n3 n4 X2 X3 X4) {u : Value} {m : Nat} {Y : List Value} (ho : w'.ownsRow lo t2 1 u m Y) (hg : w.grownBy w' v2.ownBlock) (hq : ∀ k, u.ownBlock = some k → v2.ownBlock = some k ∨ w.heap.size ≤ k) :
    Xc x0 (w'.setCell ⟨g, 2, none⟩ u) lo g T t2 t3 t4 z4 a b u v3 v4 m n3 n4 Y X3 X4 := by
  have lg : g < w.heap.size := h.row.lt
  have hng : ∀ k, u.ownBlock = some k → k ≠ g := fun k hk => by
    rcases hq k hk with e | e
    · exact (h.d2 k e).1
    · omega
  have e3 : ∀ k, v3.ownBlock = some k → v2.ownBlock ≠ some k := fun k hk e => (h.d2 k e).2.1 hk
  have m3 : ∀ k, v3.ownBlock = some k → (w'.setCell ⟨g, 2, none⟩ u).heap[k]? = w.heap[k]? := fun k hk => (Below.heap_setCell _ _ _ _ (show k ≠ g from (h.d3 k hk).1)).trans (hg.block k (h.o3.lt k hk).2 (fun e => e3 k hk e.symm))
  have s3 : ∀ k, v3.ownBlock = some k → u.ownBlock ≠ some k := fun k hk e => by
    rcases hq k e with q1 | q1
    · exact e3 k hk q1
    · have := (h.o3.lt k hk).2; omega
  have e4 : ∀ k, v4.ownBlock = some k → v2.ownBlock ≠ some k := fun k hk e => (h.d2 k e).2.2 hk
  have m4 : ∀ k, v4.ownBlock = some k → (w'.setCell ⟨g, 2, none⟩ u).heap[k]? = w.heap[k]? := fun k hk => (Below.heap_setCell _ _ _ _ (show k ≠ g from (h.d4 k hk))).trans (hg.block k (h.o4.lt k hk).2 (fun e => e4 k hk e.symm))
  have s4 : ∀ k, v4.ownBlock = some k → u.ownBlock ≠ some k := fun k hk e => by
    rcases hq k e with q1 | q1
    · exact e4 k hk q1
    · have := (h.o4.lt k hk).2; omega
  have hrow : Row w' g T [a, b, v2, v3] := h.row.grown hg (fun e => (h.d2 g e.symm).1 rfl)
  have hbel : Below lo x0 w' := h.bel.grown hg h.size (fun k hk => (h.o2.lt k hk).1)
  exact ⟨hrow.set_ 2 u, hbel.setCell (p := ⟨g, 2, none⟩) h.gb u, h.gb, h.hl, own_move ho (fun k hk => Below.heap_setCell _ _ _ _ (hng k hk)), own_move h.o3 m3, own_move h.o4 m4, fun k hk => ⟨hng k hk, fun e => s3 k e hk, fun e => s4 k e hk⟩, fun k hk => ⟨(h.d3 k hk).1, (h.d3 k hk).2⟩, fun k hk => (h.d4 k hk)⟩
/-- List 3 has been appended to (its row may lie elsewhere now), and stored. -/
theorem Xc.push3 (h : Xc x0 w lo g T t2 t3 t4 z4 a b v2 v3 v4 n2 n3 n4 X2 X3 X4) {u : Value} {m : Nat} {Y : List Value} (ho : w'.ownsRow lo t3 1 u m Y) (hg : w.grownBy w' v3.ownBlock) (hq : ∀ k, u.ownBlock = some k → v3.ownBlock = some k ∨ w.heap.size ≤ k) :
    Xc x0 (w'.setCell ⟨g, 3, none⟩ u) lo g T t2 t3 t4 z4 a b v2 u v4 n2 m n4 X2 Y X4 := by
  have lg : g < w.heap.size := h.row.lt
  have hng : ∀ k, u.ownBlock = some k → k ≠ g := fun k hk => by
    rcases hq k hk with e | e
    · exact (h.d3 k e).1
    · omega
  have e2 : ∀ k, v2.ownBlock = some k → v3.ownBlock ≠ some k := fun k hk => (h.d2 k hk).2.1
  have m2 : ∀ k, v2.ownBlock = some k → (w'.setCell ⟨g, 3, none⟩ u).heap[k]? = w.heap[k]? := fun k hk => (Below.heap_setCell _ _ _ _ (show k ≠ g from (h.d2 k hk).1)).trans (hg.block k (h.o2.lt k hk).2 (fun e => e2 k hk e.symm))
  have s2 : ∀ k, v2.ownBlock = some k → u.ownBlock ≠ some k := fun k hk e => by
    rcases hq k e with q1 | q1
    · exact e2 k hk q1
    · have := (h.o2.lt k hk).2; omega
  have e4 : ∀ k, v4.ownBlock = some k → v3.ownBlock ≠ some k := fun k hk e => (h.d3 k e).2 hk
  have m4 : ∀ k, v4.ownBlock = some k → (w'.setCell ⟨g, 3, none⟩ u).heap[k]? = w.heap[k]? := fun k hk => (Below.heap_setCell _ _ _ _ (show k ≠ g from (h.d4 k hk))).trans (hg.block k (h.o4.lt k hk).2 (fun e => e4 k hk e.symm))
  have s4 : ∀ k, v4.ownBlock = some k → u.ownBlock ≠ some k := fun k hk e => by
    rcases hq k e with q1 | q1
    · exact e4 k hk q1
    · have := (h.o4.lt k hk).2; omega
  have hrow : Row w' g T [a, b, v2, v3] := h.row.grown hg (fun e => (h.d3 g e.symm).1 rfl)
  have hbel : Below lo x0 w' := h.bel.grown hg h.size (fun k hk => (h.o3.lt k hk).1)
  exact ⟨hrow.set_ 3 u, hbel.setCell (p := ⟨g, 3, none⟩) h.gb u, h.gb, h.hl, own_move h.o2 m2, own_move ho (fun k hk => Below.heap_setCell _ _ _ _ (hng k hk)), own_move h.o4 m4, fun k hk => ⟨(h.d2 k hk).1, s2 k hk, (h.d2 k hk).2.2⟩, fun k hk => ⟨hng k hk, fun e => s4 k e hk⟩, fun k hk => (h.d4 k hk)⟩
/-- List 4 has been appended to (its row may lie elsewhere now). -/
theorem Xc.push4 (h : Xc x0 w lo g T t2 t3 t4 z4 a b v2 v3 v4 n2 n3 n4 X2 X3 X4) {u : Value} {m : Nat} {Y : List Value} (ho : w'.ownsRow lo t4 z4 u m Y) (hg : w.grownBy w' v4.ownBlock) (hq : ∀ k, u.ownBlock = some k → v4.ownBlock = some k ∨ w.heap.size ≤ k) :
    Xc x0 w' lo g T t2 t3 t4 z4 a b v2 v3 u n2 n3 m X2 X3 Y := by
  have lg : g < w.heap.size := h.row.lt
  have hng : ∀ k, u.ownBlock = some k → k ≠ g := fun k hk => by
    rcases hq k hk with e | e
    · exact (h.d4 k e)
    · omega
  have e2 : ∀ k, v2.ownBlock = some k → v4.ownBlock ≠ some k := fun k hk => (h.d2 k hk).2.2
  have m2 : ∀ k, v2.ownBlock = some k → w'.heap[k]? = w.heap[k]? := fun k hk => (hg.block k (h.o2.lt k hk).2 (fun e => e2 k hk e.symm))
  have s2 : ∀ k, v2.ownBlock = some k → u.ownBlock ≠ some k := fun k hk e => by
    rcases hq k e with q1 | q1
    · exact e2 k hk q1
    · have := (h.o2.lt k hk).2; omega
  have e3 : ∀ k, v3.ownBlock = some k → v4.ownBlock ≠ some k := fun k hk => (h.d3 k hk).2
  have m3 : ∀ k, v3.ownBlock = some k → w'.heap[k]? = w.heap[k]? := fun k hk => (hg.block k (h.o3.lt k hk).2 (fun e => e3 k hk e.symm))
  have s3 : ∀ k, v3.ownBlock = some k → u.ownBlock ≠ some k := fun k hk e => by
    rcases hq k e with q1 | q1
    · exact e3 k hk q1
    · have := (h.o3.lt k hk).2; omega
  have hrow : Row w' g T [a, b, v2, v3] := h.row.grown hg (fun e => (h.d4 g e.symm) rfl)
  have hbel : Below lo x0 w' := h.bel.grown hg h.size (fun k hk => (h.o4.lt k hk).1)
  exact ⟨hrow, hbel, h.gb, h.hl, own_move h.o2 m2, own_move h.o3 m3, ho, fun k hk => ⟨(h.d2 k hk).1, (h.d2 k hk).2.1, s2 k hk⟩, fun k hk => ⟨(h.d3 k hk).1, s3 k hk⟩, fun k hk => hng k hk⟩
end
end Go.Proofs.Ytbdfbmohdbigfaa
