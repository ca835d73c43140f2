/- TidyOf of the program. -/
import Derived.Test.YtkfmjnefbimecaaMgt
import Derived.Test.YtkfmjnefbimecaaMgm
import Derived.RegionTactic
import Derived.BigRegion


namespace Go.Proofs.Ytkfmjnefbimecaa
open Go.RowKit
set_option linter.unusedVariables false
set_option maxRecDepth 100000 in
set_option maxHeartbeats 8000000 in
theorem iTidyOf_any (S T : Int) (L : List A4) (P E : List Int) (A2 A3 A4 : Option Addr) (c2 c3 c4 : Nat) (w : World) (hp2 : PlA A2) (hp3 : PlA A3) (hp4 : PlA A4)
    (h2 : SlA w w.heap.size A2 L.length L) (h3 : SlI w w.heap.size A3 P.length P) (h4 : SlI w w.heap.size A4 E.length E) (hL : L.length ≤ 1048576) (hP : P.length ≤ 1048576) (hE : E.length ≤ 1048576) :
    Calls Try.prog 10 #[.agg #[.int .i64 S, .int .i64 T, .slice A2 L.length c2, .slice A3 P.length c3, .slice A4 E.length c4]] w fun e w' => ∃ v', e = .returned (.tuple #[v', .bool (vmB S T L P E)]) ∧ McW w' w.heap.size v' (ckI (vmB S T L P E) S) (ckI (vmB S T L P E) T) (ckL (vmB S T L P E) (tdy L)) (ckL (vmB S T L P E) P) (ckL (vmB S T L P E) E) ∧ Below w.heap.size w w' := by
  have H2 := Lib.hid h2; have H3 := Lib.hid h3; have H4 := Lib.hid h4
  clear h2 h3 h4
  have rb := (Row.new w 28 [.int .i64 S, .int .i64 T, .slice A2 L.length c2, .slice A3 P.length c3, .slice A4 E.length c4]).alloc (.cells ([.int .i64 0, .int .i64 0, .slice none 0 0, .slice none 0 0, .slice none 0 0] : List Value).toArray 28)
  have rr := Row.new (w.alloc (.cells ([.int .i64 S, .int .i64 T, .slice A2 L.length c2, .slice A3 P.length c3, .slice A4 E.length c4] : List Value).toArray 28)) 28 [.int .i64 0, .int .i64 0, .slice none 0 0, .slice none 0 0, .slice none 0 0]
  rw [show (w.alloc (.cells ([.int .i64 S, .int .i64 T, .slice A2 L.length c2, .slice A3 P.length c3, .slice A4 E.length c4] : List Value).toArray 28)).heap.size = w.heap.size + 1 by simp] at rr
  have bx : Below w.heap.size w ((w.alloc (.cells ([.int .i64 S, .int .i64 T, .slice A2 L.length c2, .slice A3 P.length c3, .slice A4 E.length c4] : List Value).toArray 28)).alloc (.cells ([.int .i64 0, .int .i64 0, .slice none 0 0, .slice none 0 0, .slice none 0 0] : List Value).toArray 28)) := ((Below.refl _ _).alloc (Nat.le_refl _) _).alloc (by simp) _
  have RB := Lib.hid rb; have RR := Lib.hid rr; have BX := Lib.hid bx; clear rb rr bx
  have HP2 := Lib.hid hp2; have HP3 := Lib.hid hp3; have HP4 := Lib.hid hp4
  clear hp2 hp3 hp4
  go_enter Try.func10, Try.ntmps10
  go_wp2_with fail
  obtain ⟨x0, hx0⟩ : ∃ x, x = ((w.alloc (.cells ([.int .i64 S, .int .i64 T, .slice A2 L.length c2, .slice A3 P.length c3, .slice A4 E.length c4] : List Value).toArray 28)).alloc (.cells ([.int .i64 0, .int .i64 0, .slice none 0 0, .slice none 0 0, .slice none 0 0] : List Value).toArray 28)) := ⟨_, rfl⟩
  rw [← hx0] at RB RR BX
  change Calls _ _ _ ((w.alloc (.cells ([.int .i64 S, .int .i64 T, .slice A2 L.length c2, .slice A3 P.length c3, .slice A4 E.length c4] : List Value).toArray 28)).alloc (.cells ([.int .i64 0, .int .i64 0, .slice none 0 0, .slice none 0 0, .slice none 0 0] : List Value).toArray 28)) _
  rw [← hx0]
  clear hx0
  refine (iValidMachine_any _ S T L P E x0 ⟨_, _, _, _, _, _, _, _, _, rfl, (H2.out.below BX.out (Nat.le_refl _)).more BX.out.size, (H3.out.below BX.out (Nat.le_refl _)).more BX.out.size, (H4.out.below BX.out (Nat.le_refl _)).more BX.out.size⟩ (by omega) (by omega) (by omega)).mono ?_
  rintro e w1 ⟨rfl, hb1⟩
  have BX1 := Lib.hid (BX.out.trans (hb1.mono BX.out.size))
  have RB1 := Lib.hid (RB.out.below hb1 RB.out.lt)
  have RR1 := Lib.hid (RR.out.below hb1 RR.out.lt)
  clear hb1
  obtain ⟨ok, hok⟩ : ∃ ok, ok = vmB S T L P E := ⟨_, rfl⟩
  rw [← hok]
  have HOK : Hid (vmB S T L P E = ok) := hok.symm
  clear hok
  cases ok with
  | false =>
    have r0 := RR1.out.cell 0; have r1 := RR1.out.cell 1; have r2 := RR1.out.cell 2; have r3 := RR1.out.cell 3; have r4 := RR1.out.cell 4
    have f0 := RR1.out.frozen 0; have f1 := RR1.out.frozen 1; have f2 := RR1.out.frozen 2; have f3 := RR1.out.frozen 3; have f4 := RR1.out.frozen 4
    go_wp2_with fail
    clear r0 f0 r1 f1 r2 f2 r3 f3 r4 f4
    have hF := (((((RR1.out.set_ 0 (.int .i64 0)).set_ 1 (.int .i64 0)).set_ 2 (.slice none 0 0)).set_ 3 (.slice none 0 0)).set_ 4 (.slice none 0 0))
    refine bodyPost_ret (results_cell2 rfl _ _ (w.heap.size + 1) 28 #[.int .i64 0, .int .i64 0, .slice none 0 0, .slice none 0 0, .slice none 0 0] (0, 0) _ (.bool false) rfl rfl hF Try.underlying28 rfl (by kernel_rfl)) rfl ?_
    rw [HOK.out]
    refine ⟨_, rfl, ⟨_, _, _, rfl, OwnV.nil _ _ _ _ _, OwnV.nil _ _ _ _ _, OwnV.nil _ _ _ _ _, fun k hk => by simp [Value.ownBlock] at hk, fun k hk => by simp [Value.ownBlock] at hk, fun k hk => by simp [Value.ownBlock] at hk⟩, ?_⟩
    exact (((((BX1.out.setCell (p := ⟨w.heap.size + 1, 0, none⟩) (show w.heap.size ≤ w.heap.size + 1 by omega) _).setCell (p := ⟨w.heap.size + 1, 1, none⟩) (show w.heap.size ≤ w.heap.size + 1 by omega) _).setCell (p := ⟨w.heap.size + 1, 2, none⟩) (show w.heap.size ≤ w.heap.size + 1 by omega) _).setCell (p := ⟨w.heap.size + 1, 3, none⟩) (show w.heap.size ≤ w.heap.size + 1 by omega) _).setCell (p := ⟨w.heap.size + 1, 4, none⟩) (show w.heap.size ≤ w.heap.size + 1 by omega) _)
  | true =>
    obtain ⟨wz, rfl⟩ : ∃ x : World, x = w1 := ⟨_, rfl⟩
    have LTz : Hid (w.heap.size + 1 < wz.heap.size) := RR1.out.lt
    have RBz := RB1; have RRz := RR1; have HBw := BX1
    have hcells : Hid (∀ x : World, Lo wz.heap.size (w.heap.size + 1) wz x → (x.cell? ⟨w.heap.size, 0, none⟩ = some (.int .i64 S) ∧ x.cell? ⟨w.heap.size, 1, none⟩ = some (.int .i64 T) ∧ x.cell? ⟨w.heap.size, 2, none⟩ = some (.slice A2 L.length c2) ∧ x.cell? ⟨w.heap.size, 3, none⟩ = some (.slice A3 P.length c3) ∧ x.cell? ⟨w.heap.size, 4, none⟩ = some (.slice A4 E.length c4))) := by
      intro x hx
      have r := hx.row RBz.out (by have := LTz.out; omega) (by omega)
      exact ⟨r.cell 0, r.cell 1, r.cell 2, r.cell 3, r.cell 4⟩
    have hkeep : Hid (∀ x y : World, Lo wz.heap.size (w.heap.size + 1) wz x → Below wz.heap.size x y → (Lo wz.heap.size (w.heap.size + 1) wz y ∧ y.cell? ⟨w.heap.size, 0, none⟩ = some (.int .i64 S) ∧ y.cell? ⟨w.heap.size, 1, none⟩ = some (.int .i64 T) ∧ y.cell? ⟨w.heap.size, 2, none⟩ = some (.slice A2 L.length c2) ∧ y.cell? ⟨w.heap.size, 3, none⟩ = some (.slice A3 P.length c3) ∧ y.cell? ⟨w.heap.size, 4, none⟩ = some (.slice A4 E.length c4))) := by
      intro x y h1 h2
      have h3 := h1.trans (Lo.below h2 (Nat.le_refl _))
      exact ⟨h3, hcells.out y h3⟩
    have hkeepS : Hid (∀ (x : World) (u0 u1 u2 u3 u4 : Value), Lo wz.heap.size (w.heap.size + 1) wz x → (Lo wz.heap.size (w.heap.size + 1) wz (((((x.setCell ⟨w.heap.size + 1, 0, none⟩ u0).setCell ⟨w.heap.size + 1, 1, none⟩ u1).setCell ⟨w.heap.size + 1, 2, none⟩ u2).setCell ⟨w.heap.size + 1, 3, none⟩ u3).setCell ⟨w.heap.size + 1, 4, none⟩ u4) ∧ (((((x.setCell ⟨w.heap.size + 1, 0, none⟩ u0).setCell ⟨w.heap.size + 1, 1, none⟩ u1).setCell ⟨w.heap.size + 1, 2, none⟩ u2).setCell ⟨w.heap.size + 1, 3, none⟩ u3).setCell ⟨w.heap.size + 1, 4, none⟩ u4).cell? ⟨w.heap.size, 0, none⟩ = some (.int .i64 S) ∧ (((((x.setCell ⟨w.heap.size + 1, 0, none⟩ u0).setCell ⟨w.heap.size + 1, 1, none⟩ u1).setCell ⟨w.heap.size + 1, 2, none⟩ u2).setCell ⟨w.heap.size + 1, 3, none⟩ u3).setCell ⟨w.heap.size + 1, 4, none⟩ u4).cell? ⟨w.heap.size, 1, none⟩ = some (.int .i64 T) ∧ (((((x.setCell ⟨w.heap.size + 1, 0, none⟩ u0).setCell ⟨w.heap.size + 1, 1, none⟩ u1).setCell ⟨w.heap.size + 1, 2, none⟩ u2).setCell ⟨w.heap.size + 1, 3, none⟩ u3).setCell ⟨w.heap.size + 1, 4, none⟩ u4).cell? ⟨w.heap.size, 2, none⟩ = some (.slice A2 L.length c2) ∧ (((((x.setCell ⟨w.heap.size + 1, 0, none⟩ u0).setCell ⟨w.heap.size + 1, 1, none⟩ u1).setCell ⟨w.heap.size + 1, 2, none⟩ u2).setCell ⟨w.heap.size + 1, 3, none⟩ u3).setCell ⟨w.heap.size + 1, 4, none⟩ u4).cell? ⟨w.heap.size, 3, none⟩ = some (.slice A3 P.length c3) ∧ (((((x.setCell ⟨w.heap.size + 1, 0, none⟩ u0).setCell ⟨w.heap.size + 1, 1, none⟩ u1).setCell ⟨w.heap.size + 1, 2, none⟩ u2).setCell ⟨w.heap.size + 1, 3, none⟩ u3).setCell ⟨w.heap.size + 1, 4, none⟩ u4).cell? ⟨w.heap.size, 4, none⟩ = some (.slice A4 E.length c4))) := by
      intro x u0 u1 u2 u3 u4 h1
      have h3 := ((((h1.trans (Lo.set _ _ _ 0 u0)).trans (Lo.set _ _ _ 1 u1)).trans (Lo.set _ _ _ 2 u2)).trans (Lo.set _ _ _ 3 u3)).trans (Lo.set _ _ _ 4 u4)
      exact ⟨h3, hcells.out _ h3⟩
    have hbel : Hid (∀ x : World, Lo wz.heap.size (w.heap.size + 1) wz x → Below w.heap.size w x) := fun x hx => HBw.out.trans (hx.bel (by have := LTz.out; omega) (by omega))
    have HC2 : Hid (∀ x : World, Lo wz.heap.size (w.heap.size + 1) wz x → Calls Try.prog 46 #[.slice A2 L.length c2] x fun e y => ∃ B2 d2, e = .returned (.slice B2 (tdy L).length d2) ∧ OwX y wz.heap.size 39 4 (.slice B2 (tdy L).length d2) (tdy L).length (fa (tdy L)) ∧ Up x y ∧ Below wz.heap.size x y ∧ (∀ k, (Value.slice B2 (tdy L).length d2).ownBlock = some k → x.heap.size ≤ k ∧ k < y.heap.size)) := by
      intro x hx
      have hb := hbel.out x hx
      refine (iTidy_any A2 L.length c2 L x HP2.out ((H2.out.below hb (Nat.le_refl _)).more hb.size) hL).mono ?_
      rintro e y ⟨B2, d2, rfl, ho, hb⟩
      exact ⟨B2, d2, rfl, World.ownsRow.mono ho hx.2.2.2.1, Up.of hb, hb.mono hx.2.2.2.1, fun k hk => ho.lt k hk⟩
    have HC3 : Hid (∀ x : World, Lo wz.heap.size (w.heap.size + 1) wz x → Calls Try.prog 47 #[.slice A3 P.length c3] x fun e y => ∃ B3 d3, e = .returned (.slice B3 P.length d3) ∧ OwX y wz.heap.size 2 1 (.slice B3 P.length d3) P.length (iv P) ∧ Up x y ∧ Below wz.heap.size x y ∧ (∀ k, (Value.slice B3 P.length d3).ownBlock = some k → x.heap.size ≤ k ∧ k < y.heap.size)) := by
      intro x hx
      have hb := hbel.out x hx
      refine (iCloneIo_any A3 P.length c3 P x HP3.out ((H3.out.below hb (Nat.le_refl _)).more hb.size) (by omega)).mono ?_
      rintro e y ⟨B3, d3, rfl, ho, hb⟩
      exact ⟨B3, d3, rfl, World.ownsRow.mono ho hx.2.2.2.1, Up.of hb, hb.mono hx.2.2.2.1, fun k hk => World.ownsRow.lt ho k hk⟩
    have HC4 : Hid (∀ x : World, Lo wz.heap.size (w.heap.size + 1) wz x → Calls Try.prog 47 #[.slice A4 E.length c4] x fun e y => ∃ B4 d4, e = .returned (.slice B4 E.length d4) ∧ OwX y wz.heap.size 2 1 (.slice B4 E.length d4) E.length (iv E) ∧ Up x y ∧ Below wz.heap.size x y ∧ (∀ k, (Value.slice B4 E.length d4).ownBlock = some k → x.heap.size ≤ k ∧ k < y.heap.size)) := by
      intro x hx
      have hb := hbel.out x hx
      refine (iCloneIo_any A4 E.length c4 E x HP4.out ((H4.out.below hb (Nat.le_refl _)).more hb.size) (by omega)).mono ?_
      rintro e y ⟨B4, d4, rfl, ho, hb⟩
      exact ⟨B4, d4, rfl, World.ownsRow.mono ho hx.2.2.2.1, Up.of hb, hb.mono hx.2.2.2.1, fun k hk => World.ownsRow.lt ho k hk⟩
    have hdr : Lo wz.heap.size (w.heap.size + 1) wz wz.drew := Lo.refl _ _ _
    have hfrom : Lo wz.heap.size (w.heap.size + 1) wz wz.drew ∧ wz.drew.cell? ⟨w.heap.size, 0, none⟩ = some (.int .i64 S) ∧ wz.drew.cell? ⟨w.heap.size, 1, none⟩ = some (.int .i64 T) ∧ wz.drew.cell? ⟨w.heap.size, 2, none⟩ = some (.slice A2 L.length c2) ∧ wz.drew.cell? ⟨w.heap.size, 3, none⟩ = some (.slice A3 P.length c3) ∧ wz.drew.cell? ⟨w.heap.size, 4, none⟩ = some (.slice A4 E.length c4) := ⟨hdr, hcells.out _ hdr⟩
    clear RB RR BX RB1 RR1 BX1
    go_upto_region 3 with fail
    go_region_held3 (fun x => Lo wz.heap.size (w.heap.size + 1) wz x ∧ x.cell? ⟨w.heap.size, 0, none⟩ = some (.int .i64 S) ∧ x.cell? ⟨w.heap.size, 1, none⟩ = some (.int .i64 T) ∧ x.cell? ⟨w.heap.size, 2, none⟩ = some (.slice A2 L.length c2) ∧ x.cell? ⟨w.heap.size, 3, none⟩ = some (.slice A3 P.length c3) ∧ x.cell? ⟨w.heap.size, 4, none⟩ = some (.slice A4 E.length c4)) (first | (with_reducible assumption) | (with_reducible exact hkeepS.out _ _ _ _ _ _ (by first | (with_reducible assumption) | (with_reducible (apply And.left; assumption)))) | go_keep)
      (first
        | (go_at_call 46; refine (HC2.out _ (by first | (with_reducible assumption) | (with_reducible (apply And.left; assumption)))).mono ?_; rintro e yz ⟨B2, d2, rfl, o2, up2, b2, n2⟩; have s2 := (fun h => hkeep.out _ _ h b2) (by first | (with_reducible assumption) | (with_reducible (apply And.left; assumption))); have z2 := up2.1; have rr5 : Row yz (w.heap.size + 1) 28 [.int .i64 0, .int .i64 0, .slice none 0 0, .slice none 0 0, .slice none 0 0] := (by repeat (first | (with_reducible exact RRz.out) | (with_reducible refine Row.drew ?_) | (with_reducible refine Row.alloc ?_ _) | (with_reducible refine row_low (by assumption) LTz.out ?_))); have y0 := rr5.cell 0; have f0 := rr5.frozen 0; have y1 := rr5.cell 1; have f1 := rr5.frozen 1; have y2 := rr5.cell 2; have f2 := rr5.frozen 2; have y3 := rr5.cell 3; have f3 := rr5.frozen 3; have y4 := rr5.cell 4; have f4 := rr5.frozen 4; have RR5 := Lib.hid rr5; clear rr5)
        | (go_at_call_of 47 (Value.slice A4 E.length c4); refine (HC4.out _ (by first | (with_reducible assumption) | (with_reducible (apply And.left; assumption)))).mono ?_; rintro e yz ⟨B4, d4, rfl, o4, up4, b4, n4⟩; have s4 := (fun h => hkeep.out _ _ h b4) (by first | (with_reducible assumption) | (with_reducible (apply And.left; assumption))); have z4 := up4.1; have rr5 : Row yz (w.heap.size + 1) 28 [.int .i64 0, .int .i64 0, .slice none 0 0, .slice none 0 0, .slice none 0 0] := (by repeat (first | (with_reducible exact RRz.out) | (with_reducible refine Row.drew ?_) | (with_reducible refine Row.alloc ?_ _) | (with_reducible refine row_low (by assumption) LTz.out ?_))); have y0 := rr5.cell 0; have f0 := rr5.frozen 0; have y1 := rr5.cell 1; have f1 := rr5.frozen 1; have y2 := rr5.cell 2; have f2 := rr5.frozen 2; have y3 := rr5.cell 3; have f3 := rr5.frozen 3; have y4 := rr5.cell 4; have f4 := rr5.frozen 4; have RR5 := Lib.hid rr5; clear rr5)
        | (go_at_call_of 47 (Value.slice A3 P.length c3); refine (HC3.out _ (by first | (with_reducible assumption) | (with_reducible (apply And.left; assumption)))).mono ?_; rintro e yz ⟨B3, d3, rfl, o3, up3, b3, n3⟩; have s3 := (fun h => hkeep.out _ _ h b3) (by first | (with_reducible assumption) | (with_reducible (apply And.left; assumption))); have z3 := up3.1; have rr5 : Row yz (w.heap.size + 1) 28 [.int .i64 0, .int .i64 0, .slice none 0 0, .slice none 0 0, .slice none 0 0] := (by repeat (first | (with_reducible exact RRz.out) | (with_reducible refine Row.drew ?_) | (with_reducible refine Row.alloc ?_ _) | (with_reducible refine row_low (by assumption) LTz.out ?_))); have y0 := rr5.cell 0; have f0 := rr5.frozen 0; have y1 := rr5.cell 1; have f1 := rr5.frozen 1; have y2 := rr5.cell 2; have f2 := rr5.frozen 2; have y3 := rr5.cell 3; have f3 := rr5.frozen 3; have y4 := rr5.cell 4; have f4 := rr5.frozen 4; have RR5 := Lib.hid rr5; clear rr5))
    all_goals
      try go_wp2_with fail
      clear y0 y1 y2 y3 y4 f0 f1 f2 f3 f4
      have o2z : OwX yz wz.heap.size 39 4 (.slice B2 (tdy L).length d2) (tdy L).length (fa (tdy L)) := by repeat (first | (with_reducible assumption) | (with_reducible refine OwX.drew ?_) | (with_reducible refine OwX.up (by assumption) ?_))
      have o4z : OwX yz wz.heap.size 2 1 (.slice B4 E.length d4) E.length (iv E) := by repeat (first | (with_reducible assumption) | (with_reducible refine OwX.drew ?_) | (with_reducible refine OwX.up (by assumption) ?_))
      have o3z : OwX yz wz.heap.size 2 1 (.slice B3 P.length d3) P.length (iv P) := by repeat (first | (with_reducible assumption) | (with_reducible refine OwX.drew ?_) | (with_reducible refine OwX.up (by assumption) ?_))
      have hLy : Lo wz.heap.size (w.heap.size + 1) wz yz := (by first | (with_reducible assumption) | (with_reducible (apply And.left; assumption)))
      have hLF := (hkeepS.out yz (.int .i64 S) (.int .i64 T) (.slice B2 (tdy L).length d2) (.slice B3 P.length d3) (.slice B4 E.length d4) hLy).1
      have hF := (((((RR5.out.set_ 0 (.int .i64 S)).set_ 1 (.int .i64 T)).set_ 2 (.slice B2 (tdy L).length d2)).set_ 3 (.slice B3 P.length d3)).set_ 4 (.slice B4 E.length d4))
      have keepF : ∀ g, wz.heap.size ≤ g → (((((yz.setCell ⟨w.heap.size + 1, 0, none⟩ (.int .i64 S)).setCell ⟨w.heap.size + 1, 1, none⟩ (.int .i64 T)).setCell ⟨w.heap.size + 1, 2, none⟩ (.slice B2 (tdy L).length d2)).setCell ⟨w.heap.size + 1, 3, none⟩ (.slice B3 P.length d3)).setCell ⟨w.heap.size + 1, 4, none⟩ (.slice B4 E.length d4)).heap[g]? = yz.heap[g]? := fun g h1 => heap_set5 _ _ _ _ _ (by have := LTz.out; omega)
      have hsF : (((((yz.setCell ⟨w.heap.size + 1, 0, none⟩ (.int .i64 S)).setCell ⟨w.heap.size + 1, 1, none⟩ (.int .i64 T)).setCell ⟨w.heap.size + 1, 2, none⟩ (.slice B2 (tdy L).length d2)).setCell ⟨w.heap.size + 1, 3, none⟩ (.slice B3 P.length d3)).setCell ⟨w.heap.size + 1, 4, none⟩ (.slice B4 E.length d4)).heap.size = yz.heap.size := by simp [World.setCell]
      refine bodyPost_ret (results_cell2 rfl _ _ (w.heap.size + 1) 28 #[.int .i64 S, .int .i64 T, .slice B2 (tdy L).length d2, .slice B3 P.length d3, .slice B4 E.length d4] (0, 0) _ (.bool true) rfl rfl hF Try.underlying28 rfl (by kernel_rfl)) rfl ?_
      obtain ⟨F, hFF⟩ : ∃ F, F = (((((yz.setCell ⟨w.heap.size + 1, 0, none⟩ (.int .i64 S)).setCell ⟨w.heap.size + 1, 1, none⟩ (.int .i64 T)).setCell ⟨w.heap.size + 1, 2, none⟩ (.slice B2 (tdy L).length d2)).setCell ⟨w.heap.size + 1, 3, none⟩ (.slice B3 P.length d3)).setCell ⟨w.heap.size + 1, 4, none⟩ (.slice B4 E.length d4)) := ⟨_, rfl⟩
      rw [← hFF] at hLF keepF hsF ⊢
      clear hF hFF
      have p2 : F.ownsRow wz.heap.size 39 4 (.slice B2 (tdy L).length d2) (tdy L).length (fa (tdy L)) := own_move o2z (fun g hg => keepF g (o2z.lt g hg).1)
      have p3 : F.ownsRow wz.heap.size 2 1 (.slice B3 P.length d3) P.length (iv P) := own_move o3z (fun g hg => keepF g (o3z.lt g hg).1)
      have p4 : F.ownsRow wz.heap.size 2 1 (.slice B4 E.length d4) E.length (iv E) := own_move o4z (fun g hg => keepF g (o4z.lt g hg).1)
      have hwz : w.heap.size ≤ wz.heap.size := by have := LTz.out; omega
      have d23 : ∀ k, (Value.slice B2 (tdy L).length d2).ownBlock = some k → (Value.slice B3 P.length d3).ownBlock ≠ some k := fun k h h' => by have := n2 k h; have := n3 k h'; omega
      have d24 : ∀ k, (Value.slice B2 (tdy L).length d2).ownBlock = some k → (Value.slice B4 E.length d4).ownBlock ≠ some k := fun k h h' => by have := n2 k h; have := n4 k h'; omega
      have d34 : ∀ k, (Value.slice B3 P.length d3).ownBlock = some k → (Value.slice B4 E.length d4).ownBlock ≠ some k := fun k h h' => by have := n3 k h; have := n4 k h'; omega
      rw [HOK.out]
      exact ⟨_, rfl, ⟨_, _, _, rfl, OwnV.of (World.ownsRow.mono p2 hwz), OwnV.of (World.ownsRow.mono p3 hwz), OwnV.of (World.ownsRow.mono p4 hwz), d23, d24, d34⟩, hbel.out F hLF⟩
end Go.Proofs.Ytkfmjnefbimecaa
