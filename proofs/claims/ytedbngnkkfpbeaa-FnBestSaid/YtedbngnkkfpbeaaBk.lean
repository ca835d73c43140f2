/- BackOf of the program: the arcs turned round, starts and ends exchanged. -/
import Derived.Test.YtedbngnkkfpbeaaCoW
import Derived.Test.YtedbngnkkfpbeaaBwP
import Derived.Test.YtedbngnkkfpbeaaMgm
import Derived.RegionTactic
import Derived.BigRegion

namespace Go.Proofs.Ytedbngnkkfpbeaa
open Go.RowKit
set_option linter.unusedVariables false
theorem own_setN {w : World} {base g n c i sz : Nat} {t : TypeId} {X : List Value} {u : Value} (h : w.ownsRow base t sz (.slice (some ⟨g, 0, none⟩) n c) n X) (hi : i < X.length) : (w.setCell ⟨g, i, none⟩ u).ownsRow base t sz (.slice (some ⟨g, 0, none⟩) n c) n (X.set i u) := by
  obtain ⟨h1, h2⟩ := h
  refine ⟨by simpa using h1, ?_⟩
  rcases h2 with ⟨e, -⟩ | ⟨g', cap, cur, e, hb, hg, hnc, hm, hs, ht⟩
  · cases e
  · injection e with e1 _ e3
    injection e1 with e1
    injection e1 with e1 _ _
    subst e1 e3
    refine .inr ⟨g, c, cur.setIfInBounds i u, rfl, hb, ?_, hnc, hm, by simpa using hs, ?_⟩
    · simp [World.setCell, Array.getElem?_modify, hg]
    · rw [Array.toList_setIfInBounds, List.take_set, ht]
theorem own_cellN {w : World} {base g n c sz : Nat} {t : TypeId} {X : List Value} (h : w.ownsRow base t sz (.slice (some ⟨g, 0, none⟩) n c) n X) {j : Nat} {u : Value} (hj : X[j]? = some u) : w.cell? ⟨g, j, none⟩ = some u ∧ w.frozen? ⟨g, j, none⟩ = false := by
  have h1 := h.cells (g := g) rfl j u hj
  have ea : (⟨g, 0, none⟩ : Addr).add j = ⟨g, j, none⟩ := by unfold Addr.add; by_cases h : j = 0 <;> simp [h]
  rw [ea] at h1
  refine ⟨h1, ?_⟩
  obtain ⟨_, h2⟩ := h
  rcases h2 with ⟨e, -⟩ | ⟨g', cap, cur, e, hb, hg, hnc, hm, hs, ht⟩
  · cases e
  · injection e with e1 _ e3
    injection e1 with e1
    injection e1 with e1 _ _
    subst e1
    simp [World.frozen?, hg]
theorem fa_set01 : ∀ (L : List A4) (k : Nat) (a : A4) (x y : Int), L[k]? = some a → fa (L.set k (x, y, a.2.2.1, a.2.2.2)) = ((fa L).set (k * 4) (.int .i64 x)).set (k * 4 + 1) (.int .i64 y)
  | [], k, a, x, y, h => by simp at h
  | b :: L, 0, a, x, y, h => by
    have : b = a := by simpa using h
    subst this; rfl
  | b :: L, k + 1, a, x, y, h => by
    have ih := fa_set01 L k a x y (by simpa using h)
    show fa (b :: L.set k (x, y, a.2.2.1, a.2.2.2)) = _
    rw [show (k + 1) * 4 = k * 4 + 1 + 1 + 1 + 1 by omega]
    simp only [fa, List.set_cons_succ]
    rw [ih]
/-- The first k arcs have been turned. -/
def bkT (L : List A4) (k : Nat) : List A4 := (L.take k).map bkA ++ L.drop k
theorem bkT_len (L : List A4) (k : Nat) : (bkT L k).length = L.length := by unfold bkT; rw [List.length_append, List.length_map, List.length_take, List.length_drop]; omega
theorem bkT_zero (L : List A4) : bkT L 0 = L := by simp [bkT]
theorem bkT_all (L : List A4) : bkT L L.length = L.map bkA := by simp [bkT]
theorem bkT_at {L : List A4} {k : Nat} {a : A4} (h : L[k]? = some a) : (bkT L k)[k]? = some a := by
  obtain ⟨hk, rfl⟩ := List.getElem?_eq_some_iff.1 h
  unfold bkT
  have hl : ((L.take k).map bkA).length = k := by rw [List.length_map, List.length_take]; omega
  rw [List.getElem?_append_right (by omega), hl, Nat.sub_self, List.getElem?_drop, Nat.add_zero, List.getElem?_eq_getElem hk]
theorem bkT_step {L : List A4} {k : Nat} {a : A4} (h : L[k]? = some a) : bkT L (k + 1) = (bkT L k).set k (bkA a) := by
  obtain ⟨hk, rfl⟩ := List.getElem?_eq_some_iff.1 h
  unfold bkT
  have hl : ((L.take k).map bkA).length = k := by rw [List.length_map, List.length_take]; omega
  rw [List.set_append_right _ _ (by omega), hl, Nat.sub_self, List.drop_eq_getElem_cons hk, List.set_cons_zero, List.take_succ_eq_append_getElem hk, List.map_append, List.append_assoc]
  rfl
theorem own_slA {w : World} {lo n c : Nat} {A : Option Addr} {M : List A4} (h : w.ownsRow lo 89 4 (.slice A n c) n (fa M)) (hl : M.length = n) : SlA w w.heap.size A n M := by
  subst hl
  obtain ⟨A', c', e, hs⟩ := (OwnV.of h).slA
  injection e with e1 _ _
  subst e1
  exact hs
set_option maxRecDepth 100000 in
set_option maxHeartbeats 8000000 in
theorem iBack_any (S T : Int) (L : List A4) (P E : List Int) (p2 o2 p3 o3 p4 o4 C2 C3 C4 : Nat) (w : World)
    (h2 : SlA w w.heap.size (some ⟨p2, o2, none⟩) L.length L) (h3 : SlI w w.heap.size (some ⟨p3, o3, none⟩) P.length P) (h4 : SlI w w.heap.size (some ⟨p4, o4, none⟩) E.length E)
    (hok : vmB S T L P E = true) :
    Calls Try.prog 62 #[.agg #[.int .i64 S, .int .i64 T, .slice (some ⟨p2, o2, none⟩) L.length C2, .slice (some ⟨p3, o3, none⟩) P.length C3, .slice (some ⟨p4, o4, none⟩) E.length C4]] w fun e w' => ∃ v', e = .returned (.tuple #[v', .bool true]) ∧ Mc w' w'.heap.size v' S T (L.map bkA) E P ∧ Below w.heap.size w w' := by
  have hv := vmB_true hok
  obtain ⟨qS, qT, qL, qA, qP, qE⟩ := hv
  have qP1 := (mkB_true qP).1
  have qE1 := (mkB_true qE).1
  have rb := (Row.new w 28 [.int .i64 S, .int .i64 T, .slice (some ⟨p2, o2, none⟩) L.length C2, .slice (some ⟨p3, o3, none⟩) P.length C3, .slice (some ⟨p4, o4, none⟩) E.length C4]).alloc (.cells ([.int .i64 0, .int .i64 0, .slice none 0 0, .slice none 0 0, .slice none 0 0] : List Value).toArray 28)
  have rr := Row.new (w.alloc (.cells ([.int .i64 S, .int .i64 T, .slice (some ⟨p2, o2, none⟩) L.length C2, .slice (some ⟨p3, o3, none⟩) P.length C3, .slice (some ⟨p4, o4, none⟩) E.length C4] : List Value).toArray 28)) 28 [.int .i64 0, .int .i64 0, .slice none 0 0, .slice none 0 0, .slice none 0 0]
  rw [show (w.alloc (.cells ([.int .i64 S, .int .i64 T, .slice (some ⟨p2, o2, none⟩) L.length C2, .slice (some ⟨p3, o3, none⟩) P.length C3, .slice (some ⟨p4, o4, none⟩) E.length C4] : List Value).toArray 28)).heap.size = w.heap.size + 1 by simp] at rr
  have bx : Below w.heap.size w ((w.alloc (.cells ([.int .i64 S, .int .i64 T, .slice (some ⟨p2, o2, none⟩) L.length C2, .slice (some ⟨p3, o3, none⟩) P.length C3, .slice (some ⟨p4, o4, none⟩) E.length C4] : List Value).toArray 28)).alloc (.cells ([.int .i64 0, .int .i64 0, .slice none 0 0, .slice none 0 0, .slice none 0 0] : List Value).toArray 28)) := ((Below.refl _ _).alloc (Nat.le_refl _) _).alloc (by simp) _
  have RB := Lib.hid rb; have RR := Lib.hid rr; have BX := Lib.hid bx; clear rb rr bx
  have H2 := Lib.hid h2; have H3 := Lib.hid h3; have H4 := Lib.hid h4
  clear h2 h3 h4 qA qP qE
  have nP : P.length ≤ 16 ∧ 1 ≤ P.length := by omega
  have nE : E.length ≤ 16 ∧ 1 ≤ E.length := by omega
  have HOK := Lib.hid hok; clear hok
  have a0 := RB.out.cell 0; have a1 := RB.out.cell 1; have a2 := RB.out.cell 2; have a3 := RB.out.cell 3; have a4 := RB.out.cell 4
  go_enter Try.func62, Try.ntmps62
  go_wp2_with fail
  clear a0 a1 a2 a3 a4
  obtain ⟨x0, hx0⟩ : ∃ x, x = (w.alloc (.cells ([.int .i64 S, .int .i64 T, .slice (some ⟨p2, o2, none⟩) L.length C2, .slice (some ⟨p3, o3, none⟩) P.length C3, .slice (some ⟨p4, o4, none⟩) E.length C4] : List Value).toArray 28)).alloc (.cells ([.int .i64 0, .int .i64 0, .slice none 0 0, .slice none 0 0, .slice none 0 0] : List Value).toArray 28) := ⟨_, rfl⟩
  rw [← hx0] at RB RR BX
  change Calls _ _ _ ((w.alloc (.cells ([.int .i64 S, .int .i64 T, .slice (some ⟨p2, o2, none⟩) L.length C2, .slice (some ⟨p3, o3, none⟩) P.length C3, .slice (some ⟨p4, o4, none⟩) E.length C4] : List Value).toArray 28)).alloc (.cells ([.int .i64 0, .int .i64 0, .slice none 0 0, .slice none 0 0, .slice none 0 0] : List Value).toArray 28)) _
  rw [← hx0]
  clear hx0
  refine (iValidMachine_any _ S T L P E x0 ⟨_, _, _, _, _, _, _, _, _, rfl, (H2.out.below BX.out (Nat.le_refl _)).more BX.out.size, (H3.out.below BX.out (Nat.le_refl _)).more BX.out.size, (H4.out.below BX.out (Nat.le_refl _)).more BX.out.size⟩ (by omega) (by omega) (by omega)).mono ?_
  rintro e w1 ⟨rfl, hb1⟩
  have BX1 := Lib.hid (BX.out.trans (hb1.mono BX.out.size))
  have RB1 := Lib.hid (RB.out.below hb1 RB.out.lt); have RR1 := Lib.hid (RR.out.below hb1 RR.out.lt)
  clear hb1
  rw [HOK.out]
  have b2 := RB1.out.cell 2
  have LT2 : Hid (w.heap.size + 1 < w1.heap.size) := RR1.out.lt
  go_wp2_with fail
  clear b2
  refine (iCloneA_any p2 o2 L.length C2 L w1 ((H2.out.below BX1.out (Nat.le_refl _)).more BX1.out.size) (by omega)).mono ?_
  rintro e w2 ⟨A, c, rfl, ho, hb2⟩
  have HO := Lib.hid ho; have HB2 := Lib.hid hb2
  clear ho hb2
  go_wp2_with fail
  go_loopg [5, 6, 16] L.length (fun q u5 u6 i wr => ∃ k : Nat, i = .int .i64 k ∧ k ≤ L.length ∧ L.length ≤ q + k ∧ Hid (wr.ownsRow w1.heap.size 89 4 (.slice A L.length c) L.length (fa (bkT L k))) ∧ Hid (Below w1.heap.size w1 wr))
  case atStart => exact ⟨0, rfl, by omega, by omega, by show World.ownsRow _ _ _ _ _ _ _; rw [bkT_zero]; exact HO.out, HB2⟩
  case round =>
    obtain ⟨k, rfl, hk, hm, HR, HB⟩ := hrel
    obtain ⟨wo, rfl⟩ : ∃ x : World, x = wr := ⟨_, rfl⟩
    by_cases hlt : k < L.length
    · have l0 : (0 : Int) ≤ (k : Int) := by omega
      have l1 : (k : Int) < (L.length : Int) := by omega
      obtain ⟨g, c', hv, hgb, hgl⟩ : ∃ g c', Value.slice A L.length c = .slice (some ⟨g, 0, none⟩) L.length c' ∧ w1.heap.size ≤ g ∧ g < wo.heap.size := by
        obtain ⟨g, c', e, h1, h2⟩ := World.ownsRow.form HR.out (by omega)
        exact ⟨g, c', e, h1, h2⟩
      injection hv with e1 _ e3
      subst e1 e3
      obtain ⟨a, hx⟩ : ∃ a, L[k]? = some a := ⟨_, List.getElem?_eq_getElem hlt⟩
      obtain ⟨a0, a1, a2, a3⟩ := a
      have HST := Lib.hid (bkT_step hx)
      have hat := bkT_at hx
      have HSF := Lib.hid (fa_set01 (bkT L k) k (a0, a1, a2, a3) a1 a0 hat)
      obtain ⟨f0, f1, f2, f3⟩ := fa_get hat
      have HRA := Lib.hid (HR.out.alloc (.cells ([.int .i64 a0, .int .i64 a1, .int .i64 a2, .int .i64 a3] : List Value).toArray 89))
      have hBA : Hid (Below w1.heap.size w1 (wo.alloc (.cells ([.int .i64 a0, .int .i64 a1, .int .i64 a2, .int .i64 a3] : List Value).toArray 89))) := HB.out.alloc HB.out.size _
      have k0 := (own_cellN HR.out f0).1; have k1 := (own_cellN HR.out f1).1; have k2 := (own_cellN HR.out f2).1; have k3 := (own_cellN HR.out f3).1
      have hl4 : Hid (k * 4 + 1 < (fa (bkT L k)).length) := by show _ < _; rw [fa_length, bkT_len]; omega
      have RA := Row.new wo 89 [.int .i64 a0, .int .i64 a1, .int .i64 a2, .int .i64 a3]
      have hgn : Hid (wo.heap.size ≠ g) := by show _ ≠ _; omega
      have HGB := Lib.hid hgb
      have HX := Lib.hid hx
      have HF0 := Lib.hid f0; have HF1 := Lib.hid f1
      clear hat f0 f1 f2 f3 hx
      go_wp2_with fail
      clear k0 k1 k2 k3
      obtain ⟨y, hy⟩ : ∃ y, y = wo.alloc (.cells ([.int .i64 a0, .int .i64 a1, .int .i64 a2, .int .i64 a3] : List Value).toArray 89) := ⟨_, rfl⟩
      obtain ⟨gb, hgbx⟩ : ∃ b, b = wo.heap.size := ⟨_, rfl⟩
      change Code.wp _ _ _ _ (wo.alloc (.cells ([.int .i64 a0, .int .i64 a1, .int .i64 a2, .int .i64 a3] : List Value).toArray 89))
      rw [← hy, ← hgbx] at RA
      rw [← hy] at HRA hBA
      rw [← hgbx] at hgn
      rw [← hy, ← hgbx]
      have d0 := RA.cell 0; have d1 := RA.cell 1
      have RS0 := RA.far (p := ⟨g, k * 4, none⟩) (show gb ≠ g from hgn.out) (.int .i64 a1)
      have RS1 := RA.far (p := ⟨g, k * 4 + 1, none⟩) (show gb ≠ g from hgn.out) (.int .i64 a0)
      have s0 := RS0.cell 0; have s1 := RS0.cell 1; have s2 := RS1.cell 0; have s3 := RS1.cell 1
      have c0 := own_cellN HRA.out HF0.out; have c1 := own_cellN HRA.out HF1.out
      have HS0 := own_setN (u := .int .i64 a1) HRA.out (show k * 4 < (fa (bkT L k)).length by have := hl4.out; omega)
      have HS1 := own_setN (u := .int .i64 a0) HRA.out hl4.out
      have t1 := own_cellN (j := k * 4 + 1) (u := .int .i64 a1) HS0 (by rw [List.getElem?_set, if_neg (by omega)]; exact HF1.out)
      have t0 := own_cellN (j := k * 4) (u := .int .i64 a0) HS1 (by rw [List.getElem?_set, if_neg (by omega)]; exact HF0.out)
      have HEND := own_setN (i := k * 4 + 1) (u := .int .i64 a0) HS0 (by rw [List.length_set]; exact hl4.out)
      obtain ⟨m0, n0⟩ := c0; obtain ⟨m1, n1⟩ := c1; obtain ⟨m2, n2⟩ := t0; obtain ⟨m3, n3⟩ := t1
      have HEND2 := own_setN (i := k * 4) (u := .int .i64 a1) HS1 (by rw [List.length_set]; have := hl4.out; omega)
      rw [List.set_comm _ _ (by omega)] at HEND2
      have HE := Lib.hid HEND; have HE2 := Lib.hid HEND2
      clear RA RS0 RS1 HS0 HS1 HEND HEND2 hy hgbx
      go_region
      all_goals
        go_wp2_with fail
        go_roundg (gk - 1)
        case measure => omega
        case rel =>
          refine ⟨k + 1, by go_num, by omega, by omega, ?_, ?_⟩
          · show World.ownsRow _ _ _ _ _ _ _
            rw [HST.out]
            show World.ownsRow _ _ _ _ _ _ (fa ((bkT L k).set k (a1, a0, a2, a3)))
            rw [HSF.out]
            first | exact HE.out | exact HE2.out
          · first
              | exact Below.drew ((hBA.out.setCell (p := ⟨g, k * 4, none⟩) HGB.out _).setCell (p := ⟨g, k * 4 + 1, none⟩) HGB.out _)
              | exact Below.drew ((hBA.out.setCell (p := ⟨g, k * 4 + 1, none⟩) HGB.out _).setCell (p := ⟨g, k * 4, none⟩) HGB.out _)
    · obtain rfl : k = L.length := by omega
      go_wp2_with fail
      obtain ⟨wz, rfl⟩ : ∃ x : World, x = wo := ⟨_, rfl⟩
      have HOZ : Hid (OwX wz w1.heap.size 89 4 (.slice A L.length c) L.length (fa (L.map bkA))) := by have := HR.out; rw [bkT_all] at this; exact this
      have LTz : Hid (w.heap.size + 1 < wz.heap.size) := by have := LT2.out; have := HB.out.size; show _ < _; omega
      have RBz := Lib.hid (RB1.out.below HB.out RB1.out.lt); have RRz := Lib.hid (RR1.out.below HB.out RR1.out.lt)
      have Z2 : Hid (w1.heap.size ≤ wz.heap.size) := HB.out.size
      have HBw := Lib.hid (BX1.out.trans (HB.out.mono BX1.out.size))
      have hcells : Hid (∀ x : World, Lo wz.heap.size (w.heap.size + 1) wz x → (x.cell? ⟨w.heap.size, 0, none⟩ = some (.int .i64 S) ∧ x.cell? ⟨w.heap.size, 1, none⟩ = some (.int .i64 T) ∧ x.cell? ⟨w.heap.size, 3, none⟩ = some (.slice (some ⟨p3, o3, none⟩) P.length C3) ∧ x.cell? ⟨w.heap.size, 4, none⟩ = some (.slice (some ⟨p4, o4, none⟩) E.length C4))) := by
        intro x hx
        have r := hx.row RBz.out (by have := LTz.out; omega) (by omega)
        exact ⟨r.cell 0, r.cell 1, r.cell 3, r.cell 4⟩
      have hkeep : Hid (∀ x y : World, Lo wz.heap.size (w.heap.size + 1) wz x → Below wz.heap.size x y → (Lo wz.heap.size (w.heap.size + 1) wz y ∧ y.cell? ⟨w.heap.size, 0, none⟩ = some (.int .i64 S) ∧ y.cell? ⟨w.heap.size, 1, none⟩ = some (.int .i64 T) ∧ y.cell? ⟨w.heap.size, 3, none⟩ = some (.slice (some ⟨p3, o3, none⟩) P.length C3) ∧ y.cell? ⟨w.heap.size, 4, none⟩ = some (.slice (some ⟨p4, o4, none⟩) E.length C4))) := by
        intro x y h1 h2
        have h3 := h1.trans (Lo.below h2 (Nat.le_refl _))
        exact ⟨h3, hcells.out y h3⟩
      have hkeepS : Hid (∀ (x : World) (u0 u1 u2 u3 u4 : Value), Lo wz.heap.size (w.heap.size + 1) wz x → (Lo wz.heap.size (w.heap.size + 1) wz (((((x.setCell ⟨w.heap.size + 1, 0, none⟩ u0).setCell ⟨w.heap.size + 1, 1, none⟩ u1).setCell ⟨w.heap.size + 1, 2, none⟩ u2).setCell ⟨w.heap.size + 1, 3, none⟩ u3).setCell ⟨w.heap.size + 1, 4, none⟩ u4) ∧ (((((x.setCell ⟨w.heap.size + 1, 0, none⟩ u0).setCell ⟨w.heap.size + 1, 1, none⟩ u1).setCell ⟨w.heap.size + 1, 2, none⟩ u2).setCell ⟨w.heap.size + 1, 3, none⟩ u3).setCell ⟨w.heap.size + 1, 4, none⟩ u4).cell? ⟨w.heap.size, 0, none⟩ = some (.int .i64 S) ∧ (((((x.setCell ⟨w.heap.size + 1, 0, none⟩ u0).setCell ⟨w.heap.size + 1, 1, none⟩ u1).setCell ⟨w.heap.size + 1, 2, none⟩ u2).setCell ⟨w.heap.size + 1, 3, none⟩ u3).setCell ⟨w.heap.size + 1, 4, none⟩ u4).cell? ⟨w.heap.size, 1, none⟩ = some (.int .i64 T) ∧ (((((x.setCell ⟨w.heap.size + 1, 0, none⟩ u0).setCell ⟨w.heap.size + 1, 1, none⟩ u1).setCell ⟨w.heap.size + 1, 2, none⟩ u2).setCell ⟨w.heap.size + 1, 3, none⟩ u3).setCell ⟨w.heap.size + 1, 4, none⟩ u4).cell? ⟨w.heap.size, 3, none⟩ = some (.slice (some ⟨p3, o3, none⟩) P.length C3) ∧ (((((x.setCell ⟨w.heap.size + 1, 0, none⟩ u0).setCell ⟨w.heap.size + 1, 1, none⟩ u1).setCell ⟨w.heap.size + 1, 2, none⟩ u2).setCell ⟨w.heap.size + 1, 3, none⟩ u3).setCell ⟨w.heap.size + 1, 4, none⟩ u4).cell? ⟨w.heap.size, 4, none⟩ = some (.slice (some ⟨p4, o4, none⟩) E.length C4))) := by
        intro x u0 u1 u2 u3 u4 h1
        have h3 := ((((h1.trans (Lo.set _ _ _ 0 u0)).trans (Lo.set _ _ _ 1 u1)).trans (Lo.set _ _ _ 2 u2)).trans (Lo.set _ _ _ 3 u3)).trans (Lo.set _ _ _ 4 u4)
        exact ⟨h3, hcells.out _ h3⟩
      have hsrcz : Hid (∀ x : World, Lo wz.heap.size (w.heap.size + 1) wz x → SlI x x.heap.size (some ⟨p3, o3, none⟩) P.length P ∧ SlI x x.heap.size (some ⟨p4, o4, none⟩) E.length E ∧ OwX x w1.heap.size 89 4 (.slice A L.length c) L.length (fa (L.map bkA))) := by
        intro x hx
        have hb : Below w.heap.size w x := HBw.out.trans (hx.bel (by have := LTz.out; omega) (by omega))
        refine ⟨(H3.out.below hb (Nat.le_refl _)).more hb.size, (H4.out.below hb (Nat.le_refl _)).more hb.size, own_move HOZ.out (fun g hg => hx.2.2.2.2 g (HOZ.out.lt g hg).2 ?_)⟩
        have := (HOZ.out.lt g hg).1; have := LT2.out; omega
      have HC3 : Hid (∀ x : World, Lo wz.heap.size (w.heap.size + 1) wz x → Calls Try.prog 61 #[.slice (some ⟨p3, o3, none⟩) P.length C3] x fun e y => ∃ A3 c3, e = .returned (.slice A3 P.length c3) ∧ OwX y wz.heap.size 2 1 (.slice A3 P.length c3) P.length (iv P) ∧ Up x y ∧ Below wz.heap.size x y) := by
        intro x hx
        refine (iCloneI_any p3 o3 P.length C3 P x (hsrcz.out x hx).1 (by omega)).mono ?_
        rintro e y ⟨A3, c3, rfl, ho, hb⟩
        exact ⟨A3, c3, rfl, World.ownsRow.mono ho hx.2.2.2.1, Up.of hb, hb.mono hx.2.2.2.1⟩
      have HC4 : Hid (∀ x : World, Lo wz.heap.size (w.heap.size + 1) wz x → Calls Try.prog 61 #[.slice (some ⟨p4, o4, none⟩) E.length C4] x fun e y => ∃ A4 c4, e = .returned (.slice A4 E.length c4) ∧ OwX y wz.heap.size 2 1 (.slice A4 E.length c4) E.length (iv E) ∧ Up x y ∧ Below wz.heap.size x y) := by
        intro x hx
        refine (iCloneI_any p4 o4 E.length C4 E x (hsrcz.out x hx).2.1 (by omega)).mono ?_
        rintro e y ⟨A4, c4, rfl, ho, hb⟩
        exact ⟨A4, c4, rfl, World.ownsRow.mono ho hx.2.2.2.1, Up.of hb, hb.mono hx.2.2.2.1⟩
      have hdr : Lo wz.heap.size (w.heap.size + 1) wz wz.drew := Lo.refl _ _ _
      have hfrom : Lo wz.heap.size (w.heap.size + 1) wz wz.drew ∧ wz.drew.cell? ⟨w.heap.size, 0, none⟩ = some (.int .i64 S) ∧ wz.drew.cell? ⟨w.heap.size, 1, none⟩ = some (.int .i64 T) ∧ wz.drew.cell? ⟨w.heap.size, 3, none⟩ = some (.slice (some ⟨p3, o3, none⟩) P.length C3) ∧ wz.drew.cell? ⟨w.heap.size, 4, none⟩ = some (.slice (some ⟨p4, o4, none⟩) E.length C4) := ⟨hdr, hcells.out _ hdr⟩
      clear HR HB
      go_region_held3 (fun x => Lo wz.heap.size (w.heap.size + 1) wz x ∧ x.cell? ⟨w.heap.size, 0, none⟩ = some (.int .i64 S) ∧ x.cell? ⟨w.heap.size, 1, none⟩ = some (.int .i64 T) ∧ x.cell? ⟨w.heap.size, 3, none⟩ = some (.slice (some ⟨p3, o3, none⟩) P.length C3) ∧ x.cell? ⟨w.heap.size, 4, none⟩ = some (.slice (some ⟨p4, o4, none⟩) E.length C4)) (first | (with_reducible assumption) | (with_reducible exact hkeepS.out _ _ _ _ _ _ (by first | (with_reducible assumption) | (with_reducible (apply And.left; assumption)))) | go_keep)
        (first
          | (go_at_call_of 61 (Value.slice (some ⟨p4, o4, none⟩) E.length C4); refine (HC4.out _ (by first | (with_reducible assumption) | (with_reducible (apply And.left; assumption)))).mono ?_; rintro e yz ⟨A4, c4, rfl, o4, up4, b4⟩; have s4 := (fun h => hkeep.out _ _ h b4) (by first | (with_reducible assumption) | (with_reducible (apply And.left; assumption))); have rr5 : Row yz (w.heap.size + 1) 28 [.int .i64 0, .int .i64 0, .slice none 0 0, .slice none 0 0, .slice none 0 0] := (by repeat (first | (with_reducible exact RRz.out) | (with_reducible refine Row.drew ?_) | (with_reducible refine Row.alloc ?_ _) | (with_reducible refine row_low (by assumption) LTz.out ?_))); have y0 := rr5.cell 0; have f0 := rr5.frozen 0; have y1 := rr5.cell 1; have f1 := rr5.frozen 1; have y2 := rr5.cell 2; have f2 := rr5.frozen 2; have y3 := rr5.cell 3; have f3 := rr5.frozen 3; have y4 := rr5.cell 4; have f4 := rr5.frozen 4; have RR5 := Lib.hid rr5; clear rr5)
          | (go_at_call_of 61 (Value.slice (some ⟨p3, o3, none⟩) P.length C3); refine (HC3.out _ (by first | (with_reducible assumption) | (with_reducible (apply And.left; assumption)))).mono ?_; rintro e yz ⟨A3, c3, rfl, o3, up3, b3⟩; have s3 := (fun h => hkeep.out _ _ h b3) (by first | (with_reducible assumption) | (with_reducible (apply And.left; assumption))); have rr5 : Row yz (w.heap.size + 1) 28 [.int .i64 0, .int .i64 0, .slice none 0 0, .slice none 0 0, .slice none 0 0] := (by repeat (first | (with_reducible exact RRz.out) | (with_reducible refine Row.drew ?_) | (with_reducible refine Row.alloc ?_ _) | (with_reducible refine row_low (by assumption) LTz.out ?_))); have y0 := rr5.cell 0; have f0 := rr5.frozen 0; have y1 := rr5.cell 1; have f1 := rr5.frozen 1; have y2 := rr5.cell 2; have f2 := rr5.frozen 2; have y3 := rr5.cell 3; have f3 := rr5.frozen 3; have y4 := rr5.cell 4; have f4 := rr5.frozen 4; have RR5 := Lib.hid rr5; clear rr5))
      all_goals
        try go_wp2_with fail
        clear y0 y1 y2 y3 y4 f0 f1 f2 f3 f4
        have o4z : OwX yz wz.heap.size 2 1 (.slice A4 E.length c4) E.length (iv E) := by repeat (first | (with_reducible assumption) | (with_reducible refine OwX.drew ?_) | (with_reducible refine OwX.up (by assumption) ?_))
        have o3z : OwX yz wz.heap.size 2 1 (.slice A3 P.length c3) P.length (iv P) := by repeat (first | (with_reducible assumption) | (with_reducible refine OwX.drew ?_) | (with_reducible refine OwX.up (by assumption) ?_))
        have hLy : Lo wz.heap.size (w.heap.size + 1) wz yz := (by first | (with_reducible assumption) | (with_reducible (apply And.left; assumption)))
        have hLF := (hkeepS.out yz (.int .i64 S) (.int .i64 T) (.slice A L.length c) (.slice A4 E.length c4) (.slice A3 P.length c3) hLy).1
        have hF := (((((RR5.out.set_ 0 (.int .i64 S)).set_ 1 (.int .i64 T)).set_ 2 (.slice A L.length c)).set_ 3 (.slice A4 E.length c4)).set_ 4 (.slice A3 P.length c3))
        have keepF : ∀ g, wz.heap.size ≤ g → (((((yz.setCell ⟨w.heap.size + 1, 0, none⟩ (.int .i64 S)).setCell ⟨w.heap.size + 1, 1, none⟩ (.int .i64 T)).setCell ⟨w.heap.size + 1, 2, none⟩ (.slice A L.length c)).setCell ⟨w.heap.size + 1, 3, none⟩ (.slice A4 E.length c4)).setCell ⟨w.heap.size + 1, 4, none⟩ (.slice A3 P.length c3)).heap[g]? = yz.heap[g]? := fun g h1 => heap_set5 _ _ _ _ _ (by have := LTz.out; omega)
        refine bodyPost_ret (results_cell2 rfl _ _ (w.heap.size + 1) 28 #[.int .i64 S, .int .i64 T, .slice A L.length c, .slice A4 E.length c4, .slice A3 P.length c3] (0, 0) _ (.bool true) rfl rfl hF Try.underlying28 rfl (by kernel_rfl)) rfl ?_
        obtain ⟨F, hFF⟩ : ∃ F, F = (((((yz.setCell ⟨w.heap.size + 1, 0, none⟩ (.int .i64 S)).setCell ⟨w.heap.size + 1, 1, none⟩ (.int .i64 T)).setCell ⟨w.heap.size + 1, 2, none⟩ (.slice A L.length c)).setCell ⟨w.heap.size + 1, 3, none⟩ (.slice A4 E.length c4)).setCell ⟨w.heap.size + 1, 4, none⟩ (.slice A3 P.length c3)) := ⟨_, rfl⟩
        rw [← hFF] at hLF keepF ⊢
        clear hF hFF
        have hBF : Below w.heap.size w F := HBw.out.trans (hLF.bel (by have := LTz.out; omega) (by omega))
        have oe : F.ownsRow wz.heap.size 2 1 (.slice A4 E.length c4) E.length (iv E) := own_move o4z (fun g hg => keepF g (o4z.lt g hg).1)
        have os : F.ownsRow wz.heap.size 2 1 (.slice A3 P.length c3) P.length (iv P) := own_move o3z (fun g hg => keepF g (o3z.lt g hg).1)
        exact ⟨_, rfl, ⟨_, _, _, _, _, _, _, _, _, rfl, own_slA (hsrcz.out F hLF).2.2 (by simp), own_sl oe, own_sl os⟩, hBF⟩
end Go.Proofs.Ytedbngnkkfpbeaa
