/- The empty counts of the program. -/
import Derived.Test.YtkfmjnefbimecaaFiD
import Derived.Deep.RegionHeld3
import Derived.Deep.CutRange
namespace Go.Proofs.Ytkfmjnefbimecaa
open Go.RowKit
set_option linter.unusedVariables false
theorem fv_rep (n : Nat) : fv (List.replicate n f0) = List.replicate n (.float .f32 0) := by unfold fv; rw [List.map_replicate]; rfl
theorem rowMadeZ {w : World} {g n : Nat} (h : g = w.heap.size) : Row (w.alloc (.cells (madeCells #[.float .f32 0] n) 94)) g 94 (fv (List.replicate n f0)) := by
  subst h
  rw [fv_rep]
  exact Row.made w (.float .f32 0) n 94
theorem rowFin {y : World} {g r : Nat} {t : TypeId} {vs : List Value} {u0 u1 u2 : Value} (h : Row y g t vs) (hg : g ≠ r) : Row (((y.setCell ⟨r, 0, none⟩ u0).setCell ⟨r, 1, none⟩ u1).setCell ⟨r, 2, none⟩ u2).drew g t vs := (((h.far hg u0).far hg u1).far hg u2).drew
set_option maxRecDepth 100000 in
set_option maxHeartbeats 4000000 in
theorem iNoCounts_any (S T : Int) (A2 : Option Addr) (n2 c2 : Nat) (A3 : Option Addr) (n3 c3 : Nat) (A4 : Option Addr) (n4 c4 : Nat) (w : World) (h2 : n2 ≤ 1000) (h3 : n3 ≤ 1000) (h4 : n4 ≤ 1000) :
    Calls Try.prog 70 #[.agg #[.int .i64 S, .int .i64 T, .slice A2 n2 c2, .slice A3 n3 c3, .slice A4 n4 c4]] w fun e w' => ∃ g1 g2 g3, e = .returned (.agg #[.slice (some ⟨g1, 0, none⟩) n2 n2, .slice (some ⟨g2, 0, none⟩) n3 n3, .slice (some ⟨g3, 0, none⟩) n4 n4]) ∧ (w.heap.size ≤ g1 ∧ w.heap.size ≤ g2 ∧ w.heap.size ≤ g3) ∧ (g1 ≠ g2 ∧ g1 ≠ g3 ∧ g2 ≠ g3) ∧ Row w' g1 94 (fv (List.replicate n2 f0)) ∧ Row w' g2 94 (fv (List.replicate n3 f0)) ∧ Row w' g3 94 (fv (List.replicate n4 f0)) ∧ Below w.heap.size w w' := by
  have rb := (Row.new w 48 [.int .i64 S, .int .i64 T, .slice A2 n2 c2, .slice A3 n3 c3, .slice A4 n4 c4]).alloc (.cells ([.slice none 0 0, .slice none 0 0, .slice none 0 0] : List Value).toArray 99)
  have rr := Row.new (w.alloc (.cells ([.int .i64 S, .int .i64 T, .slice A2 n2 c2, .slice A3 n3 c3, .slice A4 n4 c4] : List Value).toArray 48)) 99 [.slice none 0 0, .slice none 0 0, .slice none 0 0]
  rw [show (w.alloc (.cells ([.int .i64 S, .int .i64 T, .slice A2 n2 c2, .slice A3 n3 c3, .slice A4 n4 c4] : List Value).toArray 48)).heap.size = w.heap.size + 1 by simp] at rr
  have hmk2 := run_make_row' (P := Try.prog) 42 94 (.float .f32 0) 4 Try.underlying42 infoF32 rfl .i64 .i64 n2 (by omega) (by omega)
  have hmk3 := run_make_row' (P := Try.prog) 42 94 (.float .f32 0) 4 Try.underlying42 infoF32 rfl .i64 .i64 n3 (by omega) (by omega)
  have hmk4 := run_make_row' (P := Try.prog) 42 94 (.float .f32 0) 4 Try.underlying42 infoF32 rfl .i64 .i64 n4 (by omega) (by omega)
  have bx : Below w.heap.size w ((w.alloc (.cells ([.int .i64 S, .int .i64 T, .slice A2 n2 c2, .slice A3 n3 c3, .slice A4 n4 c4] : List Value).toArray 48)).alloc (.cells ([.slice none 0 0, .slice none 0 0, .slice none 0 0] : List Value).toArray 99)) := ((Below.refl _ _).alloc (Nat.le_refl _) _).alloc (by simp) _
  go_enter Try.func70, Try.ntmps70
  go_upto_region 1 with fail
  have hsz : ((w.alloc (.cells ([.int .i64 S, .int .i64 T, .slice A2 n2 c2, .slice A3 n3 c3, .slice A4 n4 c4] : List Value).toArray 48)).alloc (.cells ([.slice none 0 0, .slice none 0 0, .slice none 0 0] : List Value).toArray 99)).heap.size = w.heap.size + 1 + 1 := by simp
  obtain ⟨x0, hx0⟩ : ∃ x, x = ((w.alloc (.cells ([.int .i64 S, .int .i64 T, .slice A2 n2 c2, .slice A3 n3 c3, .slice A4 n4 c4] : List Value).toArray 48)).alloc (.cells ([.slice none 0 0, .slice none 0 0, .slice none 0 0] : List Value).toArray 99)) := ⟨_, rfl⟩
  rw [← hx0] at rb rr bx hsz
  change Code.wp _ _ _ _ ((w.alloc (.cells ([.int .i64 S, .int .i64 T, .slice A2 n2 c2, .slice A3 n3 c3, .slice A4 n4 c4] : List Value).toArray 48)).alloc (.cells ([.slice none 0 0, .slice none 0 0, .slice none 0 0] : List Value).toArray 99))
  rw [← hx0]
  clear hx0
  have RB := Lib.hid rb; have RR := Lib.hid rr; have BX := Lib.hid bx; have HSZ := Lib.hid hsz
  have hcells : Hid (∀ x : World, Lo x0.heap.size (w.heap.size + 1) x0 x → (x.cell? ⟨w.heap.size, 2, none⟩ = some (.slice A2 n2 c2) ∧ x.cell? ⟨w.heap.size, 3, none⟩ = some (.slice A3 n3 c3) ∧ x.cell? ⟨w.heap.size, 4, none⟩ = some (.slice A4 n4 c4))) := fun x hx => by
    have r := hx.row RB.out RB.out.lt (by omega)
    exact ⟨r.cell 2, r.cell 3, r.cell 4⟩
  have hkeepA : Hid (∀ (x : World) (ob : Obj), Lo x0.heap.size (w.heap.size + 1) x0 x → (Lo x0.heap.size (w.heap.size + 1) x0 (x.alloc ob) ∧ (x.alloc ob).cell? ⟨w.heap.size, 2, none⟩ = some (.slice A2 n2 c2) ∧ (x.alloc ob).cell? ⟨w.heap.size, 3, none⟩ = some (.slice A3 n3 c3) ∧ (x.alloc ob).cell? ⟨w.heap.size, 4, none⟩ = some (.slice A4 n4 c4))) := fun x ob h1 => by
    have h3 := h1.trans (Lo.alloc _ _ x ob h1.2.2.2.1)
    exact ⟨h3, hcells.out _ h3⟩
  have hkeepD : Hid (∀ (x : World) (ob : Obj), Lo x0.heap.size (w.heap.size + 1) x0 x.drew → (Lo x0.heap.size (w.heap.size + 1) x0 (x.alloc ob).drew ∧ (x.alloc ob).drew.cell? ⟨w.heap.size, 2, none⟩ = some (.slice A2 n2 c2) ∧ (x.alloc ob).drew.cell? ⟨w.heap.size, 3, none⟩ = some (.slice A3 n3 c3) ∧ (x.alloc ob).drew.cell? ⟨w.heap.size, 4, none⟩ = some (.slice A4 n4 c4))) := fun x ob h1 => by
    have h3 : Lo x0.heap.size (w.heap.size + 1) x0 (x.alloc ob).drew := h1.trans (Lo.alloc _ _ x.drew ob h1.2.2.2.1)
    exact ⟨h3, hcells.out _ h3⟩
  have hkeepS : Hid (∀ (x : World) (u0 u1 u2 : Value), Lo x0.heap.size (w.heap.size + 1) x0 x → (Lo x0.heap.size (w.heap.size + 1) x0 (((x.setCell ⟨w.heap.size + 1, 0, none⟩ u0).setCell ⟨w.heap.size + 1, 1, none⟩ u1).setCell ⟨w.heap.size + 1, 2, none⟩ u2) ∧ (((x.setCell ⟨w.heap.size + 1, 0, none⟩ u0).setCell ⟨w.heap.size + 1, 1, none⟩ u1).setCell ⟨w.heap.size + 1, 2, none⟩ u2).cell? ⟨w.heap.size, 2, none⟩ = some (.slice A2 n2 c2) ∧ (((x.setCell ⟨w.heap.size + 1, 0, none⟩ u0).setCell ⟨w.heap.size + 1, 1, none⟩ u1).setCell ⟨w.heap.size + 1, 2, none⟩ u2).cell? ⟨w.heap.size, 3, none⟩ = some (.slice A3 n3 c3) ∧ (((x.setCell ⟨w.heap.size + 1, 0, none⟩ u0).setCell ⟨w.heap.size + 1, 1, none⟩ u1).setCell ⟨w.heap.size + 1, 2, none⟩ u2).cell? ⟨w.heap.size, 4, none⟩ = some (.slice A4 n4 c4))) := fun x u0 u1 u2 h1 => by
    have h3 := ((h1.trans (Lo.set _ _ _ 0 u0)).trans (Lo.set _ _ _ 1 u1)).trans (Lo.set _ _ _ 2 u2)
    exact ⟨h3, hcells.out _ h3⟩
  have hkeepT : Hid (∀ (x : World) (u0 u1 u2 : Value), Lo x0.heap.size (w.heap.size + 1) x0 x.drew → (Lo x0.heap.size (w.heap.size + 1) x0 (((x.setCell ⟨w.heap.size + 1, 0, none⟩ u0).setCell ⟨w.heap.size + 1, 1, none⟩ u1).setCell ⟨w.heap.size + 1, 2, none⟩ u2).drew ∧ (((x.setCell ⟨w.heap.size + 1, 0, none⟩ u0).setCell ⟨w.heap.size + 1, 1, none⟩ u1).setCell ⟨w.heap.size + 1, 2, none⟩ u2).drew.cell? ⟨w.heap.size, 2, none⟩ = some (.slice A2 n2 c2) ∧ (((x.setCell ⟨w.heap.size + 1, 0, none⟩ u0).setCell ⟨w.heap.size + 1, 1, none⟩ u1).setCell ⟨w.heap.size + 1, 2, none⟩ u2).drew.cell? ⟨w.heap.size, 3, none⟩ = some (.slice A3 n3 c3) ∧ (((x.setCell ⟨w.heap.size + 1, 0, none⟩ u0).setCell ⟨w.heap.size + 1, 1, none⟩ u1).setCell ⟨w.heap.size + 1, 2, none⟩ u2).drew.cell? ⟨w.heap.size, 4, none⟩ = some (.slice A4 n4 c4))) := fun x u0 u1 u2 h1 => hkeepS.out x u0 u1 u2 h1
  have hdr : Lo x0.heap.size (w.heap.size + 1) x0 x0.drew := Lo.refl _ _ _
  have hfrom : Lo x0.heap.size (w.heap.size + 1) x0 x0.drew ∧ x0.drew.cell? ⟨w.heap.size, 2, none⟩ = some (.slice A2 n2 c2) ∧ x0.drew.cell? ⟨w.heap.size, 3, none⟩ = some (.slice A3 n3 c3) ∧ x0.drew.cell? ⟨w.heap.size, 4, none⟩ = some (.slice A4 n4 c4) := ⟨hdr, hcells.out _ hdr⟩
  have z0 : ∀ o1 o2 o3 : Obj, (((x0.alloc o1).alloc o2).alloc o3).cell? ⟨w.heap.size + 1, 0, none⟩ = some (.slice none 0 0) := fun o1 o2 o3 => (((RR.out.alloc o1).alloc o2).alloc o3).cell 0
  have f0' : ∀ o1 o2 o3 : Obj, (((x0.alloc o1).alloc o2).alloc o3).frozen? ⟨w.heap.size + 1, 0, none⟩ = false := fun o1 o2 o3 => (((RR.out.alloc o1).alloc o2).alloc o3).frozen 0
  have z1 : ∀ o1 o2 o3 : Obj, (((x0.alloc o1).alloc o2).alloc o3).cell? ⟨w.heap.size + 1, 1, none⟩ = some (.slice none 0 0) := fun o1 o2 o3 => (((RR.out.alloc o1).alloc o2).alloc o3).cell 1
  have f1' : ∀ o1 o2 o3 : Obj, (((x0.alloc o1).alloc o2).alloc o3).frozen? ⟨w.heap.size + 1, 1, none⟩ = false := fun o1 o2 o3 => (((RR.out.alloc o1).alloc o2).alloc o3).frozen 1
  have z2 : ∀ o1 o2 o3 : Obj, (((x0.alloc o1).alloc o2).alloc o3).cell? ⟨w.heap.size + 1, 2, none⟩ = some (.slice none 0 0) := fun o1 o2 o3 => (((RR.out.alloc o1).alloc o2).alloc o3).cell 2
  have f2' : ∀ o1 o2 o3 : Obj, (((x0.alloc o1).alloc o2).alloc o3).frozen? ⟨w.heap.size + 1, 2, none⟩ = false := fun o1 o2 o3 => (((RR.out.alloc o1).alloc o2).alloc o3).frozen 2
  clear rb rr bx hsz
  have HFIN : Hid (∀ (o1 o2 o3 : Obj) (u0 u1 u2 : Value), Row (((((x0.alloc o1).alloc o2).alloc o3).setCell ⟨w.heap.size + 1, 0, none⟩ u0).setCell ⟨w.heap.size + 1, 1, none⟩ u1 |>.setCell ⟨w.heap.size + 1, 2, none⟩ u2).drew (w.heap.size + 1) 99 [u0, u1, u2]) := fun o1 o2 o3 u0 u1 u2 => ((((((RR.out.alloc o1).alloc o2).alloc o3).set_ 0 u0).set_ 1 u1).set_ 2 u2).drew
  have hbfin : Hid (∀ (o1 o2 o3 : Obj) (u0 u1 u2 : Value), Below w.heap.size w (((((x0.alloc o1).alloc o2).alloc o3).setCell ⟨w.heap.size + 1, 0, none⟩ u0).setCell ⟨w.heap.size + 1, 1, none⟩ u1 |>.setCell ⟨w.heap.size + 1, 2, none⟩ u2).drew) := fun o1 o2 o3 u0 u1 u2 => by
    have h1 := ((BX.out.alloc BX.out.size o1).alloc (Nat.le_trans BX.out.size (by simp)) o2).alloc (Nat.le_trans BX.out.size (by simp; omega)) o3
    exact Below.drew (((h1.setCell (p := ⟨w.heap.size + 1, 0, none⟩) (show w.heap.size ≤ w.heap.size + 1 by omega) u0).setCell (p := ⟨w.heap.size + 1, 1, none⟩) (show w.heap.size ≤ w.heap.size + 1 by omega) u1).setCell (p := ⟨w.heap.size + 1, 2, none⟩) (show w.heap.size ≤ w.heap.size + 1 by omega) u2)
  go_region_held3 (fun x => Lo x0.heap.size (w.heap.size + 1) x0 x ∧ x.cell? ⟨w.heap.size, 2, none⟩ = some (.slice A2 n2 c2) ∧ x.cell? ⟨w.heap.size, 3, none⟩ = some (.slice A3 n3 c3) ∧ x.cell? ⟨w.heap.size, 4, none⟩ = some (.slice A4 n4 c4)) (first | (with_reducible assumption) | (with_reducible exact hkeepA.out _ _ (by first | (with_reducible assumption) | (with_reducible (apply And.left; assumption)))) | (with_reducible exact hkeepD.out _ _ (by first | (with_reducible assumption) | (with_reducible (apply And.left; assumption)))) | (with_reducible exact hkeepS.out _ _ _ _ (by first | (with_reducible assumption) | (with_reducible (apply And.left; assumption)))) | (with_reducible exact hkeepT.out _ _ _ _ (by first | (with_reducible assumption) | (with_reducible (apply And.left; assumption)))) | go_keep) (fail)
  all_goals
    try go_wp2_with fail
    have hsz := HSZ.out
    refine bodyPost_ret (results_cell_row rfl _ _ (w.heap.size + 1) 99 #[_, _, _] (0, 0) _ rfl (HFIN.out _ _ _ _ _ _) Try.underlying99 rfl (by kernel_rfl)) rfl ?_
    refine ⟨_, _, _, rfl, by omega, by omega, rowFin ?_ (by omega), rowFin ?_ (by omega), rowFin ?_ (by omega), hbfin.out _ _ _ _ _ _⟩
    all_goals
      clear HFIN hbfin hkeepA hkeepD hkeepS hkeepT hcells
      first
        | ((with_reducible refine Row.alloc (Row.alloc (rowMadeZ ?_) _) _); first | (with_reducible rfl) | (simp; done))
        | ((with_reducible refine Row.alloc (rowMadeZ ?_) _); first | (with_reducible rfl) | (simp; done))
        | ((with_reducible refine rowMadeZ ?_); first | (with_reducible rfl) | (simp; done))
end Go.Proofs.Ytkfmjnefbimecaa
