/- Several texts in one: FirstWord of the program, at valid arguments. Plain machines drawn from bytes: R8Plain. -/
import Derived.Test.YtbdfbmohdbigfaaMhe
import Derived.Test.YtbdfbmohdbigfaaMgd
import Derived.Test.YtbdfbmohdbigfaaDrS
import Derived.Test.YtbdfbmohdbigfaaMhf
import Derived.Test.YtbdfbmohdbigfaaMgv
import Derived.Test.YtbdfbmohdbigfaaMgb
import Derived.Deep.LoopGhost
import Derived.Deep.CutRange
import Derived.Deep.RegionLaw
import Derived.Deep.DrawnRows

namespace Go.Proofs.Ytbdfbmohdbigfaa
open Go.RowKit
set_option linter.unusedVariables false
theorem infoIF : (Try.prog.info? 2).map (fun i => (i.zero, i.size, i.bytes)) = some (some (.int .i64 0), 1, 8) := by kernel_rfl
theorem iv_repl' (n : Nat) : iv (List.replicate n 0) = List.replicate n (.int .i64 0) := by unfold iv; rw [List.map_replicate]
theorem rowNewZ {w : World} {g : Nat} {t : TypeId} {vs : List Value} (h : g = w.heap.size) : Row (w.alloc (.cells vs.toArray t)) g t vs := by subst h; exact Row.new w t vs
theorem rowMadeI {w : World} {g n : Nat} (h : g = w.heap.size) : Row (w.alloc (.cells (madeCells #[.int .i64 0] n) 2)) g 2 (List.replicate n (.int .i64 0)) := by
  subst h
  exact Row.made w (.int .i64 0) n 2
theorem rowFar4 {y : World} {g r : Nat} {t : TypeId} {vs : List Value} {u0 u1 u2 u3 : Value} (h : Row y g t vs) (hg : g ≠ r) : Row ((((y.setCell ⟨r, 0, none⟩ u0).setCell ⟨r, 1, none⟩ u1).setCell ⟨r, 2, none⟩ u2).setCell ⟨r, 3, none⟩ u3) g t vs := (set4_heap y r g u0 u1 u2 u3 hg).trans h
theorem rowSet4 {y : World} {r : Nat} {t : TypeId} {z0 z1 z2 z3 u0 u1 u2 u3 : Value} (h : Row y r t [z0, z1, z2, z3]) : Row ((((y.setCell ⟨r, 0, none⟩ u0).setCell ⟨r, 1, none⟩ u1).setCell ⟨r, 2, none⟩ u2).setCell ⟨r, 3, none⟩ u3) r t [u0, u1, u2, u3] := (((h.set_ 0 u0).set_ 1 u1).set_ 2 u2).set_ 3 u3
set_option maxRecDepth 100000 in
set_option maxHeartbeats 8000000 in
theorem iFirstW_any (S T : Nat) (A2 : Option Addr) (n2 c2 : Nat) (A3 : Option Addr) (n3 c3 : Nat) (P : List Int) (E : List Bool) (w : World) (h : PlOk w S T A2 n2 A3 n3 P E) :
    Calls Try.prog 18 #[.agg #[.int .i64 (S : Int), .int .i64 (T : Int), .slice A2 n2 c2, .slice A3 n3 c3]] w (FaPost (faAll (plX T P (List.replicate T 0)) (plD E [false]) (0, 0) T) w) := by
  have rb := Row.new w 33 (BxP (S : Int) (T : Int) A2 n2 c2 A3 n3 c3)
  have bx : Below w.heap.size w (w.alloc (.cells (BxP (S : Int) (T : Int) A2 n2 c2 A3 n3 c3).toArray 33)) := (Below.refl _ _).alloc (Nat.le_refl _) _
  obtain ⟨x0, hx0⟩ : ∃ x, x = w.alloc (.cells (BxP (S : Int) (T : Int) A2 n2 c2 A3 n3 c3).toArray 33) := ⟨_, rfl⟩
  rw [← hx0] at rb bx
  have V1 := Lib.hid ((h.below bx (Nat.le_refl _)).valid c2 c3)
  have RB := Lib.hid rb; have BX := Lib.hid bx; have H := Lib.hid (h.below bx (Nat.le_refl _))
  have hT := h.hT
  obtain ⟨r, hr⟩ : ∃ r, r = faAll (plX T P (List.replicate T 0)) (plD E [false]) (0, 0) T := ⟨_, rfl⟩
  rw [← hr]
  have HRE := Lib.hid hr
  clear hr
  have hmk := run_make_row' (P := Try.prog) 26 2 (.int .i64 0) 8 Try.underlying26 infoIF rfl .i64 .i64 T (by omega) (by omega)
  clear rb bx h
  go_enter Try.func18, Try.ntmps18
  go_wp2_with fail
  rw [← hx0]
  clear hx0
  refine V1.out.mono ?_
  rintro e x3 ⟨rfl, hb1⟩
  have RB3 := Lib.hid (RB.out.below hb1 RB.out.lt); have BX3 := Lib.hid (BX.out.trans (hb1.mono BX.out.size)); have H3 := Lib.hid (H.out.below hb1 (Nat.le_refl _))
  clear V1 hb1 RB BX H
  have hcel : Hid (∀ x : World, Below x3.heap.size x3 x → (Below x3.heap.size x3 x ∧ x.cell? ⟨w.heap.size, 1, none⟩ = some (.int .i64 (T : Int)))) := fun x hx => ⟨hx, (RB3.out.below hx RB3.out.lt).cell 1⟩
  have hkeepD : Hid (∀ (x : World) (d : Nat), Below x3.heap.size x3 x → (Below x3.heap.size x3 (x.drewN d) ∧ (x.drewN d).cell? ⟨w.heap.size, 1, none⟩ = some (.int .i64 (T : Int)))) := fun x d h1 => hcel.out _ (below_draws h1 d)
  have hkeepA : Hid (∀ (x : World) (ob : Obj), Below x3.heap.size x3 x → (Below x3.heap.size x3 (x.alloc ob) ∧ (x.alloc ob).cell? ⟨w.heap.size, 1, none⟩ = some (.int .i64 (T : Int)))) := fun x ob h1 => hcel.out _ (h1.alloc h1.size ob)
  have hkeepAD : Hid (∀ (x : World) (ob : Obj), Below x3.heap.size x3 x.drew → (Below x3.heap.size x3 (x.alloc ob).drew ∧ (x.alloc ob).drew.cell? ⟨w.heap.size, 1, none⟩ = some (.int .i64 (T : Int)))) := fun x ob h1 => hcel.out _ (h1.alloc h1.size ob)
  have hkeepT : Hid (∀ (x : World) (gz : Nat) (u0 u1 u2 u3 : Value), Below x3.heap.size x3 x → x3.heap.size ≤ gz → (Below x3.heap.size x3 ((((x.setCell ⟨gz, 0, none⟩ u0).setCell ⟨gz, 1, none⟩ u1).setCell ⟨gz, 2, none⟩ u2).setCell ⟨gz, 3, none⟩ u3) ∧ ((((x.setCell ⟨gz, 0, none⟩ u0).setCell ⟨gz, 1, none⟩ u1).setCell ⟨gz, 2, none⟩ u2).setCell ⟨gz, 3, none⟩ u3).cell? ⟨w.heap.size, 1, none⟩ = some (.int .i64 (T : Int)))) := fun x gz u0 u1 u2 u3 h1 h2 => hcel.out _ (set4_below h1 h2 u0 u1 u2 u3)
  have hkeepTD : Hid (∀ (x : World) (gz : Nat) (u0 u1 u2 u3 : Value), Below x3.heap.size x3 x.drew → x3.heap.size ≤ gz → (Below x3.heap.size x3 ((((x.setCell ⟨gz, 0, none⟩ u0).setCell ⟨gz, 1, none⟩ u1).setCell ⟨gz, 2, none⟩ u2).setCell ⟨gz, 3, none⟩ u3).drew ∧ ((((x.setCell ⟨gz, 0, none⟩ u0).setCell ⟨gz, 1, none⟩ u1).setCell ⟨gz, 2, none⟩ u2).setCell ⟨gz, 3, none⟩ u3).drew.cell? ⟨w.heap.size, 1, none⟩ = some (.int .i64 (T : Int)))) := fun x gz u0 u1 u2 u3 h1 h2 => hcel.out _ (set4_below h1 h2 u0 u1 u2 u3)
  have hk3 : Hid (∀ (q1 q2 q3 : Obj), (Below x3.heap.size x3 (((x3.alloc q1).alloc q2).alloc q3).drew ∧ (((x3.alloc q1).alloc q2).alloc q3).drew.cell? ⟨w.heap.size, 1, none⟩ = some (.int .i64 (T : Int)))) := fun q1 q2 q3 => hcel.out _ (Below.drew ((((Below.refl _ _).alloc (Nat.le_refl _) _).alloc (by simp) _).alloc (by simp; omega) _))
  have hfrom := hcel.out x3.drew (Below.drew (Below.refl _ _))
  have hbel3 : Hid (∀ (q1 q2 q3 : Obj), Below x3.heap.size x3 (((x3.alloc q1).alloc q2).alloc q3).drew) := fun q1 q2 q3 => Below.drew ((((Below.refl _ _).alloc (Nat.le_refl _) _).alloc (by simp) _).alloc (by simp; omega) _)
  have hbel4 : Hid (∀ (q1 q2 q3 : Obj) (gz : Nat) (u0 u1 u2 u3 : Value), x3.heap.size ≤ gz → Below x3.heap.size x3 (((((((x3.alloc q1).alloc q2).alloc q3).setCell ⟨gz, 0, none⟩ u0).setCell ⟨gz, 1, none⟩ u1).setCell ⟨gz, 2, none⟩ u2).setCell ⟨gz, 3, none⟩ u3).drew) := fun q1 q2 q3 gz u0 u1 u2 u3 h2 => Below.drew (set4_below ((((Below.refl _ _).alloc (Nat.le_refl _) _).alloc (by simp) _).alloc (by simp; omega) _) h2 _ _ _ _)
  have RNX : Hid (∀ q1 : Obj, Row ((x3.alloc q1).alloc (.cells ([.int .i64 0, .int .i64 0, .slice none 0 0, .slice none 0 0] : List Value).toArray 33)) (x3.heap.size + 1) 33 ([.int .i64 0, .int .i64 0, .slice none 0 0, .slice none 0 0] : List Value)) := fun q1 => rowNewZ (by simp)
  have zp0 : ∀ q1 q2 : Obj, (((x3.alloc (.cells ([.int .i64 0, .int .i64 0, .slice none 0 0, .slice none 0 0] : List Value).toArray 33)).alloc q1).alloc q2).cell? ⟨x3.heap.size, 0, none⟩ = some (.int .i64 0) := fun q1 q2 => (((Row.new x3 33 ([.int .i64 0, .int .i64 0, .slice none 0 0, .slice none 0 0] : List Value)).alloc q1).alloc q2).cell 0
  have fp0 : ∀ q1 q2 : Obj, (((x3.alloc (.cells ([.int .i64 0, .int .i64 0, .slice none 0 0, .slice none 0 0] : List Value).toArray 33)).alloc q1).alloc q2).frozen? ⟨x3.heap.size, 0, none⟩ = false := fun q1 q2 => (((Row.new x3 33 ([.int .i64 0, .int .i64 0, .slice none 0 0, .slice none 0 0] : List Value)).alloc q1).alloc q2).frozen 0
  have zp1 : ∀ q1 q2 : Obj, (((x3.alloc (.cells ([.int .i64 0, .int .i64 0, .slice none 0 0, .slice none 0 0] : List Value).toArray 33)).alloc q1).alloc q2).cell? ⟨x3.heap.size, 1, none⟩ = some (.int .i64 0) := fun q1 q2 => (((Row.new x3 33 ([.int .i64 0, .int .i64 0, .slice none 0 0, .slice none 0 0] : List Value)).alloc q1).alloc q2).cell 1
  have fp1 : ∀ q1 q2 : Obj, (((x3.alloc (.cells ([.int .i64 0, .int .i64 0, .slice none 0 0, .slice none 0 0] : List Value).toArray 33)).alloc q1).alloc q2).frozen? ⟨x3.heap.size, 1, none⟩ = false := fun q1 q2 => (((Row.new x3 33 ([.int .i64 0, .int .i64 0, .slice none 0 0, .slice none 0 0] : List Value)).alloc q1).alloc q2).frozen 1
  have zp2 : ∀ q1 q2 : Obj, (((x3.alloc (.cells ([.int .i64 0, .int .i64 0, .slice none 0 0, .slice none 0 0] : List Value).toArray 33)).alloc q1).alloc q2).cell? ⟨x3.heap.size, 2, none⟩ = some (.slice none 0 0) := fun q1 q2 => (((Row.new x3 33 ([.int .i64 0, .int .i64 0, .slice none 0 0, .slice none 0 0] : List Value)).alloc q1).alloc q2).cell 2
  have fp2 : ∀ q1 q2 : Obj, (((x3.alloc (.cells ([.int .i64 0, .int .i64 0, .slice none 0 0, .slice none 0 0] : List Value).toArray 33)).alloc q1).alloc q2).frozen? ⟨x3.heap.size, 2, none⟩ = false := fun q1 q2 => (((Row.new x3 33 ([.int .i64 0, .int .i64 0, .slice none 0 0, .slice none 0 0] : List Value)).alloc q1).alloc q2).frozen 2
  have zp3 : ∀ q1 q2 : Obj, (((x3.alloc (.cells ([.int .i64 0, .int .i64 0, .slice none 0 0, .slice none 0 0] : List Value).toArray 33)).alloc q1).alloc q2).cell? ⟨x3.heap.size, 3, none⟩ = some (.slice none 0 0) := fun q1 q2 => (((Row.new x3 33 ([.int .i64 0, .int .i64 0, .slice none 0 0, .slice none 0 0] : List Value)).alloc q1).alloc q2).cell 3
  have fp3 : ∀ q1 q2 : Obj, (((x3.alloc (.cells ([.int .i64 0, .int .i64 0, .slice none 0 0, .slice none 0 0] : List Value).toArray 33)).alloc q1).alloc q2).frozen? ⟨x3.heap.size, 3, none⟩ = false := fun q1 q2 => (((Row.new x3 33 ([.int .i64 0, .int .i64 0, .slice none 0 0, .slice none 0 0] : List Value)).alloc q1).alloc q2).frozen 3
  have zr0 : ∀ q1 q2 : Obj, (((x3.alloc q1).alloc (.cells ([.int .i64 0, .int .i64 0, .slice none 0 0, .slice none 0 0] : List Value).toArray 33)).alloc q2).cell? ⟨(x3.heap.size + 1), 0, none⟩ = some (.int .i64 0) := fun q1 q2 => ((RNX.out q1).alloc q2).cell 0
  have fr0 : ∀ q1 q2 : Obj, (((x3.alloc q1).alloc (.cells ([.int .i64 0, .int .i64 0, .slice none 0 0, .slice none 0 0] : List Value).toArray 33)).alloc q2).frozen? ⟨(x3.heap.size + 1), 0, none⟩ = false := fun q1 q2 => ((RNX.out q1).alloc q2).frozen 0
  have zr1 : ∀ q1 q2 : Obj, (((x3.alloc q1).alloc (.cells ([.int .i64 0, .int .i64 0, .slice none 0 0, .slice none 0 0] : List Value).toArray 33)).alloc q2).cell? ⟨(x3.heap.size + 1), 1, none⟩ = some (.int .i64 0) := fun q1 q2 => ((RNX.out q1).alloc q2).cell 1
  have fr1 : ∀ q1 q2 : Obj, (((x3.alloc q1).alloc (.cells ([.int .i64 0, .int .i64 0, .slice none 0 0, .slice none 0 0] : List Value).toArray 33)).alloc q2).frozen? ⟨(x3.heap.size + 1), 1, none⟩ = false := fun q1 q2 => ((RNX.out q1).alloc q2).frozen 1
  have zr2 : ∀ q1 q2 : Obj, (((x3.alloc q1).alloc (.cells ([.int .i64 0, .int .i64 0, .slice none 0 0, .slice none 0 0] : List Value).toArray 33)).alloc q2).cell? ⟨(x3.heap.size + 1), 2, none⟩ = some (.slice none 0 0) := fun q1 q2 => ((RNX.out q1).alloc q2).cell 2
  have fr2 : ∀ q1 q2 : Obj, (((x3.alloc q1).alloc (.cells ([.int .i64 0, .int .i64 0, .slice none 0 0, .slice none 0 0] : List Value).toArray 33)).alloc q2).frozen? ⟨(x3.heap.size + 1), 2, none⟩ = false := fun q1 q2 => ((RNX.out q1).alloc q2).frozen 2
  have zr3 : ∀ q1 q2 : Obj, (((x3.alloc q1).alloc (.cells ([.int .i64 0, .int .i64 0, .slice none 0 0, .slice none 0 0] : List Value).toArray 33)).alloc q2).cell? ⟨(x3.heap.size + 1), 3, none⟩ = some (.slice none 0 0) := fun q1 q2 => ((RNX.out q1).alloc q2).cell 3
  have fr3 : ∀ q1 q2 : Obj, (((x3.alloc q1).alloc (.cells ([.int .i64 0, .int .i64 0, .slice none 0 0, .slice none 0 0] : List Value).toArray 33)).alloc q2).frozen? ⟨(x3.heap.size + 1), 3, none⟩ = false := fun q1 q2 => ((RNX.out q1).alloc q2).frozen 3
  go_upto_region 3 with fail
  go_cut [4] from 8 to 14 (fun p wx => ∃ (g4 gA gB : Nat), p = .pointer (some ⟨g4, 0, none⟩) ∧ Hid (x3.heap.size ≤ g4) ∧ Hid (Row wx g4 33 [.int .i64 1, .int .i64 (T : Int), .slice (some ⟨gA, 0, none⟩) T T, .slice (some ⟨gB, 0, none⟩) 1 1]) ∧ Hid (Row wx gA 2 (List.replicate T (.int .i64 0))) ∧ Hid (Row wx gB 4 [.bool false]) ∧ Hid (Below x3.heap.size x3 wx))
  case first =>
    go_region_held3 (fun x => Below x3.heap.size x3 x ∧ x.cell? ⟨w.heap.size, 1, none⟩ = some (.int .i64 (T : Int))) (first | (with_reducible assumption) | (with_reducible exact hk3.out _ _ _) | (with_reducible exact hkeepD.out _ _ (by first | (with_reducible assumption) | (with_reducible (apply And.left; assumption)))) | (with_reducible exact hkeepA.out _ _ (by first | (with_reducible assumption) | (with_reducible (apply And.left; assumption)))) | (with_reducible exact hkeepAD.out _ _ (by first | (with_reducible assumption) | (with_reducible (apply And.left; assumption)))) | (with_reducible refine hkeepT.out _ _ _ _ _ _ (by first | (with_reducible assumption) | (with_reducible (apply And.left; assumption))) (by first | (with_reducible exact Nat.le_refl _) | (with_reducible exact Nat.le_succ _))) | (with_reducible refine hkeepTD.out _ _ _ _ _ _ (by first | (with_reducible assumption) | (with_reducible (apply And.left; assumption))) (by first | (with_reducible exact Nat.le_refl _) | (with_reducible exact Nat.le_succ _))) | go_keep) (fail)
    all_goals
      clear zp0 fp0 zp1 fp1 zp2 fp2 zp3 fp3 zr0 fr0 zr1 fr1 zr2 fr2 zr3 fr3 hkeepD hkeepA hkeepAD hkeepT hkeepTD hfrom hk3
      try go_wp2_with fail
      go_meet
      apply Exists.intro
      apply Exists.intro
      apply Exists.intro
      refine ⟨rfl, ?_, ?_, ?_, ?_, ?_⟩
      · show _ ≤ _; omega
      · show Row _ _ _ _
        first
           | ((with_reducible refine Row.drew (Row.alloc (Row.alloc (rowNewZ ?_) _) _)); first | (with_reducible rfl) | (simp; done))
           | ((with_reducible refine Row.drew (Row.alloc (rowNewZ ?_) _)); first | (with_reducible rfl) | (simp; done))
           | ((with_reducible refine Row.drew (rowNewZ ?_)); first | (with_reducible rfl) | (simp; done))
      · show Row _ _ _ _
        first
           | ((with_reducible refine Row.drew (Row.alloc (Row.alloc (rowMadeI ?_) _) _)); first | (with_reducible rfl) | (simp; done))
           | ((with_reducible refine Row.drew (Row.alloc (rowMadeI ?_) _)); first | (with_reducible rfl) | (simp; done))
           | ((with_reducible refine Row.drew (rowMadeI ?_)); first | (with_reducible rfl) | (simp; done))
      · show Row _ _ _ _
        first
           | ((with_reducible refine Row.drew (Row.alloc (Row.alloc (rowNewZ (vs := [.bool false]) ?_) _) _)); first | (with_reducible rfl) | (simp; done))
           | ((with_reducible refine Row.drew (Row.alloc (rowNewZ (vs := [.bool false]) ?_) _)); first | (with_reducible rfl) | (simp; done))
           | ((with_reducible refine Row.drew (rowNewZ (vs := [.bool false]) ?_)); first | (with_reducible rfl) | (simp; done))
      · show Below _ _ _
        exact hbel3.out _ _ _
  case rest =>
  obtain ⟨g4, gA, gB, rfl, HG4, HR4, HRA, HRB, HB4⟩ := hcut
  obtain ⟨w4, rfl⟩ : ∃ x : World, x = wc := ⟨_, rfl⟩
  have rb4 := RB3.out.below HB4.out RB3.out.lt
  have k0 := rb4.cell 0; have k1 := rb4.cell 1; have k2 := rb4.cell 2; have k3 := rb4.cell 3
  have q0 := HR4.out.cell 0; have q1 := HR4.out.cell 1; have q2 := HR4.out.cell 2; have q3 := HR4.out.cell 3
  have HOK : Hid (PlOk w4 1 T (some ⟨gA, 0, none⟩) T (some ⟨gB, 0, none⟩) 1 (List.replicate T 0) [false]) := by
    have e2 : Row w4 gA 2 (iv (List.replicate T 0)) := by rw [iv_repl']; exact HRA.out
    have h2 := Row.slI e2
    rw [List.length_replicate] at h2
    have h3 := Row.slB (xs := [false]) HRB.out
    refine ⟨h2, h3, ⟨by omega, by omega⟩, hT, by omega, fun x hx => ?_, rfl⟩
    have := List.eq_of_mem_replicate hx
    omega
  have HC := Lib.hid (iFirstApart_any S 1 T A2 n2 c2 A3 n3 c3 P E (some ⟨gA, 0, none⟩) T T (some ⟨gB, 0, none⟩) 1 1 (List.replicate T 0) [false] w4 (H3.out.below HB4.out (Nat.le_refl _)) HOK.out)
  rw [← HRE.out] at HC
  have HBW : Hid (Below w.heap.size w w4) := BX3.out.trans (HB4.out.mono BX3.out.size)
  clear rb4 hcel RNX hmk zp0 fp0 zp1 fp1 zp2 fp2 zp3 fp3 zr0 fr0 zr1 fr1 zr2 fr2 zr3 fr3 hkeepD hkeepA hkeepAD hkeepT hkeepTD hfrom hk3
  go_wp2_with fail
  refine HC.out.mono ?_
  intro e w5 hpost
  clear HC k0 k1 k2 k3 q0 q1 q2 q3
  cases r with
  | none =>
    obtain ⟨hb5, rfl⟩ := hpost
    have HB5 := Lib.hid hb5
    clear hb5
    go_wp2_with fail
    go_ret2
    exact FaPost.none (HBW.out.trans (HB5.out.mono HBW.out.size))
  | some wd =>
    obtain ⟨hb5, A, c, rfl, h5⟩ := hpost
    have HB5 := Lib.hid hb5; have H5 := Lib.hid h5
    clear hb5 h5
    go_wp2_with fail
    go_ret2
    exact FaPost.some (HBW.out.trans (HB5.out.mono HBW.out.size)) (World.ownsRow.mono H5.out HBW.out.size)
end Go.Proofs.Ytbdfbmohdbigfaa


namespace Go.Proofs.Ytbdfbmohdbigfaa
open Go.RowKit
attribute [local go_sem ↓] Go.wp_at_zero Go.wp_at_succ
set_option linter.unusedVariables false
theorem infoBD : (Try.prog.info? 4).map (fun i => (i.zero, i.size, i.bytes)) = some (some (.bool false), 1, 1) := by kernel_rfl
theorem infoID : (Try.prog.info? 2).map (fun i => (i.zero, i.size, i.bytes)) = some (some (.int .i64 0), 1, 8) := by kernel_rfl
/-- While a plain machine is drawn: the reader, the result's block gr, the machine's box g. -/
structure Dq (w0 x : World) (gS : Nat) (a : Option Addr) (n c : Nat) (z : List Int) (i lo g gr : Nat) (S T : Int) (v2 v3 : Value) (n2 n3 : Nat) (X2 X3 : List Value) : Prop where
  src : ∃ sd, Src x gS gS a n c z i sd
  bel : Below gS w0 x
  lt : gS < gr
  lr : gr < lo
  res : Row x gr 33 [.int .i64 0, .int .i64 0, .slice none 0 0, .slice none 0 0]
  xc : ∃ x0, Xc x0 x lo g 33 2 4 2 1 (.int .i64 S) (.int .i64 T) v2 v3 (.slice none 0 0) n2 n3 0 X2 X3 []
section
variable {w0 x x' : World} {gS n c i lo g gr n2 n3 : Nat} {a : Option Addr} {z : List Int} {S T : Int} {v2 v3 : Value} {X2 X3 : List Value}
theorem Dq.row (h : Dq w0 x gS a n c z i lo g gr S T v2 v3 n2 n3 X2 X3) : Row x g 33 [.int .i64 S, .int .i64 T, v2, v3] := h.xc.choose_spec.row
theorem Dq.size (h : Dq w0 x gS a n c z i lo g gr S T v2 v3 n2 n3 X2 X3) : lo ≤ x.heap.size := h.xc.choose_spec.size
theorem Dq.o2 (h : Dq w0 x gS a n c z i lo g gr S T v2 v3 n2 n3 X2 X3) : x.ownsRow lo 2 1 v2 n2 X2 := h.xc.choose_spec.o2
theorem Dq.o3 (h : Dq w0 x gS a n c z i lo g gr S T v2 v3 n2 n3 X2 X3) : x.ownsRow lo 4 1 v3 n3 X3 := h.xc.choose_spec.o3
theorem Dq.gb (h : Dq w0 x gS a n c z i lo g gr S T v2 v3 n2 n3 X2 X3) : lo ≤ g := h.xc.choose_spec.gb
theorem Dq.d2 (h : Dq w0 x gS a n c z i lo g gr S T v2 v3 n2 n3 X2 X3) : ∀ k, v2.ownBlock = some k → k ≠ g ∧ v3.ownBlock ≠ some k := fun k hk => ⟨(h.xc.choose_spec.d2 k hk).1, (h.xc.choose_spec.d2 k hk).2.1⟩
theorem Dq.d3 (h : Dq w0 x gS a n c z i lo g gr S T v2 v3 n2 n3 X2 X3) : ∀ k, v3.ownBlock = some k → k ≠ g := fun k hk => (h.xc.choose_spec.d3 k hk).1
theorem Dq.call {B : Nat} (h : Dq w0 x gS a n c z i lo g gr S T v2 v3 n2 n3 X2 X3) (hb : Below B x x') (hB : x.heap.size ≤ B) : Dq w0 x' gS a n c z i lo g gr S T v2 v3 n2 n3 X2 X3 := by
  obtain ⟨sd, hs⟩ := h.src
  obtain ⟨x0, hx⟩ := h.xc
  exact ⟨⟨sd, hs.keep hb (Nat.lt_of_lt_of_le hs.1.lt hB)⟩, h.bel.trans (hb.mono (by have := hs.1.lt; omega)), h.lt, h.lr, h.res.below hb (Nat.lt_of_lt_of_le h.res.lt hB), x0, hx.call hb hB⟩
theorem Dq.alloc (h : Dq w0 x gS a n c z i lo g gr S T v2 v3 n2 n3 X2 X3) (o : Obj) : Dq w0 (x.alloc o) gS a n c z i lo g gr S T v2 v3 n2 n3 X2 X3 := h.call ((Below.refl _ _).alloc (Nat.le_refl _) o) (Nat.le_refl _)
theorem Dq.drew (h : Dq w0 x gS a n c z i lo g gr S T v2 v3 n2 n3 X2 X3) : Dq w0 x.drew gS a n c z i lo g gr S T v2 v3 n2 n3 X2 X3 := h.call (B := x.heap.size) (Below.drew (Below.refl _ _)) (Nat.le_refl _)
theorem Dq.pick (h : Dq w0 x gS a n c z i lo g gr S T v2 v3 n2 n3 X2 X3) {j : Nat} {sd : Int} (hs : Src x' gS gS a n c z j sd) (hb : Below gS x x') (hk : ∀ k, k ≠ gS → x'.heap[k]? = x.heap[k]?) (hz : x'.heap.size = x.heap.size) : Dq w0 x' gS a n c z j lo g gr S T v2 v3 n2 n3 X2 X3 := by
  obtain ⟨x0, hx⟩ := h.xc
  have l1 := h.lt; have l2 := h.lr; have l3 := hx.gb
  refine ⟨⟨sd, hs⟩, h.bel.trans hb, h.lt, h.lr, (hk gr (by omega)).trans h.res, x', ?_⟩
  exact ⟨(hk g (by omega)).trans hx.row, Below.refl _ _, hx.gb, by rw [hz]; exact hx.size, own_move hx.o2 (fun k q => hk k (by have := (hx.o2.lt k q).1; omega)), own_move hx.o3 (fun k q => hk k (by have := (hx.o3.lt k q).1; omega)), own_move hx.o4 (fun k q => hk k (by have := (hx.o4.lt k q).1; omega)), hx.d2, hx.d3, hx.d4⟩
theorem Src.grow {sd : Int} {row : Option Nat} (h : Src x gS gS a n c z i sd) (hg : x.grownBy x' row) (hr : ∀ k, row = some k → gS < k) : Src x' gS gS a n c z i sd :=
  h.move (fun k hk => hg.block k (Nat.lt_of_le_of_lt hk h.1.lt) (fun e => by have := hr k e.symm; omega))
theorem Dq.push2 (h : Dq w0 x gS a n c z i lo g gr S T v2 v3 n2 n3 X2 X3) {u : Value} {m : Nat} {Y : List Value} (ho : x'.ownsRow lo 2 1 u m Y) (hg : x.grownBy x' v2.ownBlock) (hat : ∀ k, u.ownBlock = some k → v2.ownBlock = some k ∨ x.heap.size ≤ k) : Dq w0 (x'.setCell ⟨g, 2, none⟩ u) gS a n c z i lo g gr S T u v3 m n3 Y X3 := by
  obtain ⟨sd, hs⟩ := h.src
  obtain ⟨x0, hx⟩ := h.xc
  have l1 := h.lt; have l2 := h.lr; have l3 := hx.gb
  have hr : ∀ k, v2.ownBlock = some k → gr < k := fun k hk => by have := (hx.o2.lt k hk).1; omega
  exact ⟨⟨sd, (hs.grow hg (fun k hk => by have := hr k hk; omega)).move (fun k hk => Below.heap_setCell x' ⟨g, 2, none⟩ u k (show k ≠ g by omega))⟩, (h.bel.grown hg (Nat.le_of_lt hs.1.lt) (fun k hk => by have := hr k hk; omega)).setCell (p := ⟨g, 2, none⟩) (show gS ≤ g by omega) u, h.lt, h.lr, (h.res.grown hg (fun e => by have := hr gr e.symm; omega)).far (p := ⟨g, 2, none⟩) (show gr ≠ g by omega) u, x0, hx.push2 ho hg hat⟩
theorem Dq.push3 (h : Dq w0 x gS a n c z i lo g gr S T v2 v3 n2 n3 X2 X3) {u : Value} {m : Nat} {Y : List Value} (ho : x'.ownsRow lo 4 1 u m Y) (hg : x.grownBy x' v3.ownBlock) (hat : ∀ k, u.ownBlock = some k → v3.ownBlock = some k ∨ x.heap.size ≤ k) : Dq w0 (x'.setCell ⟨g, 3, none⟩ u) gS a n c z i lo g gr S T v2 u n2 m X2 Y := by
  obtain ⟨sd, hs⟩ := h.src
  obtain ⟨x0, hx⟩ := h.xc
  have l1 := h.lt; have l2 := h.lr; have l3 := hx.gb
  have hr : ∀ k, v3.ownBlock = some k → gr < k := fun k hk => by have := (hx.o3.lt k hk).1; omega
  exact ⟨⟨sd, (hs.grow hg (fun k hk => by have := hr k hk; omega)).move (fun k hk => Below.heap_setCell x' ⟨g, 3, none⟩ u k (show k ≠ g by omega))⟩, (h.bel.grown hg (Nat.le_of_lt hs.1.lt) (fun k hk => by have := hr k hk; omega)).setCell (p := ⟨g, 3, none⟩) (show gS ≤ g by omega) u, h.lt, h.lr, (h.res.grown hg (fun e => by have := hr gr e.symm; omega)).far (p := ⟨g, 3, none⟩) (show gr ≠ g by omega) u, x0, hx.push3 ho hg hat⟩
theorem pickQ (h : Dq w0 x gS a n c z i lo g gr S T v2 v3 n2 n3 X2 X3) (hi : i ≤ 1000) (hn : n ≤ maxLen) (m : Nat) (h1 : 1 ≤ m) (h2 : m ≤ 200) :
    Calls Try.prog 37 #[.pointer (some ⟨gS, 0, none⟩), .int .i64 m] x fun e x' => ∃ (v : Int) (j : Nat), 0 ≤ v ∧ v < m ∧ j ≤ i + 2 ∧ e = .returned (.int .i64 v) ∧ Dq w0 x' gS a n c z j lo g gr S T v2 v3 n2 n3 X2 X3 := by
  obtain ⟨sd, hs⟩ := h.src
  refine (pick1_any x gS gS a n c z i sd hs (by omega) hn m h1 h2).mono ?_
  rintro e x' ⟨v, j, sd', v0, v1, hj, rfl, hs', hb', hz', hk'⟩
  exact ⟨v, j, v0, v1, hj, rfl, h.pick hs' hb' hk' hz'⟩
theorem oneQ (h : Dq w0 x gS a n c z i lo g gr S T v2 v3 n2 n3 X2 X3) (hi : i ≤ 1000) (hn : n ≤ maxLen) (m : Nat) (h1 : 1 ≤ m) (h2 : m ≤ 200) :
    Calls Try.prog 97 #[.pointer (some ⟨gS, 0, none⟩), .int .i64 m] x fun e x' => ∃ (v : Bool) (j : Nat), j ≤ i + 2 ∧ e = .returned (.bool v) ∧ Dq w0 x' gS a n c z j lo g gr S T v2 v3 n2 n3 X2 X3 := by
  obtain ⟨sd, hs⟩ := h.src
  refine (one1_any x gS gS a n c z i sd hs (by omega) hn m h1 h2).mono ?_
  rintro e x' ⟨v, j, sd', hj, rfl, hs', hb', hz', hk'⟩
  exact ⟨v, j, hj, rfl, h.pick hs' hb' hk' hz'⟩
end
set_option maxRecDepth 100000 in
set_option maxHeartbeats 8000000 in
theorem plainSides_any (w : World) (gS : Nat) (a : Option Addr) (n c : Nat) (z : List Int) (sd : Int) (h : Src w gS gS a n c z 0 sd) (hn : n ≤ maxLen) (s t : Nat) (hs1 : 1 ≤ s) (hs2 : s ≤ 6) (ht1 : 1 ≤ t) (ht2 : t ≤ 4) :
    Calls Try.prog 49 #[.pointer (some ⟨gS, 0, none⟩), .int .i64 (s : Int), .int .i64 (t : Int)] w fun e w' => ∃ (P : List Int) (E : List Bool) (p2 p3 c2 c3 : Nat), P.length = s * t ∧ (∀ x ∈ P, 0 ≤ x ∧ x < (s : Int)) ∧ E.length = s ∧ e = .returned (.agg #[.int .i64 (s : Int), .int .i64 (t : Int), .slice (some ⟨p2, 0, none⟩) P.length c2, .slice (some ⟨p3, 0, none⟩) E.length c3]) ∧ w'.ownsRow (gS + 1) 2 1 (.slice (some ⟨p2, 0, none⟩) P.length c2) P.length (iv P) ∧ w'.ownsRow (gS + 1) 4 1 (.slice (some ⟨p3, 0, none⟩) E.length c3) E.length (bv E) ∧ Below gS w w' := by
  have hgl := h.1.lt
  have hm : s * t ≤ 6 * 4 := Nat.mul_le_mul hs2 ht2
  have hm0 : 1 ≤ s * t := Nat.mul_pos hs1 ht1
  obtain ⟨M, hM⟩ : ∃ M, M = s * t := ⟨_, rfl⟩
  have w1 : IntKind.i64.wrap ((s : Int) * (t : Int)) = ((M : Nat) : Int) := by rw [hM, Int.natCast_mul]; exact IntWalk.i64_in _ (by rw [← Int.natCast_mul]; omega)
  rw [← hM] at hm hm0 ⊢
  have hx8 : Below w.heap.size w ((w.alloc (.cells ([.int .i64 0, .int .i64 0, .slice none 0 0, .slice none 0 0] : List Value).toArray 33)).alloc (.cells ([.int .i64 (s : Int), .int .i64 (t : Int), .slice none 0 0, .slice none 0 0] : List Value).toArray 33)) := ((Below.refl _ _).alloc (Nat.le_refl _) _).alloc (by simp) _
  have r8 := (Row.new w 33 [.int .i64 0, .int .i64 0, .slice none 0 0, .slice none 0 0]).alloc (.cells ([.int .i64 (s : Int), .int .i64 (t : Int), .slice none 0 0, .slice none 0 0] : List Value).toArray 33)
  have r9 := Row.new (w.alloc (.cells ([.int .i64 0, .int .i64 0, .slice none 0 0, .slice none 0 0] : List Value).toArray 33)) 33 [.int .i64 (s : Int), .int .i64 (t : Int), .slice none 0 0, .slice none 0 0]
  rw [show (w.alloc (.cells ([.int .i64 0, .int .i64 0, .slice none 0 0, .slice none 0 0] : List Value).toArray 33)).heap.size = w.heap.size + 1 by simp] at r9
  have HD : Dq w ((w.alloc (.cells ([.int .i64 0, .int .i64 0, .slice none 0 0, .slice none 0 0] : List Value).toArray 33)).alloc (.cells ([.int .i64 (s : Int), .int .i64 (t : Int), .slice none 0 0, .slice none 0 0] : List Value).toArray 33)) gS a n c z 0 (w.heap.size + 1) (w.heap.size + 1) w.heap.size s t (.slice none 0 0) (.slice none 0 0) 0 0 [] [] := by
    refine ⟨⟨sd, h.keep hx8 hgl⟩, hx8.mono (Nat.le_of_lt hgl), hgl, Nat.lt_succ_self _, r8, _, r9, Below.refl _ _, Nat.le_refl _, by simp, World.ownsRow_nil _ _ _ _, World.ownsRow_nil _ _ _ _, World.ownsRow_nil _ _ _ _, fun k hk => by simp [Value.ownBlock] at hk, fun k hk => by simp [Value.ownBlock] at hk, fun k hk => by simp [Value.ownBlock] at hk⟩
  have HD0 := Lib.hid HD
  have HMM := Lib.hid hM
  have P01 : 0 < 1 := by omega
  have P132 : 1 ≤ 32 := by omega
  clear r8 r9 hx8 h HD hM
  go_enter Try.func49, Try.ntmps49
  go_wp2_with fail
  try rw [w1]
  go_loopg [8] M (fun q cn wr => ∃ (k i : Nat) (v2 : Value) (P : List Int), cn = .int .i64 ((M - k : Nat) : Int) ∧ k ≤ M ∧ M ≤ q + k ∧ i ≤ 2 * k ∧ Hid (P.length = k) ∧ Hid (∀ x ∈ P, 0 ≤ x ∧ x < (s : Int)) ∧ Hid (Dq w wr gS a n c z i (w.heap.size + 1) (w.heap.size + 1) w.heap.size s t v2 (.slice none 0 0) k 0 (iv P) []))
  case atStart => exact ⟨0, 0, .slice none 0 0, [], by first | rfl | (rw [w1]; rfl), by omega, by omega, by omega, rfl, (fun x hx => by cases hx), HD0.out⟩
  case round =>
    clear HD0
    obtain ⟨k, i, v2, P, rfl, hk, hq, hi, HL, HP, HD⟩ := hrel
    obtain ⟨wo, rfl⟩ : ∃ x : World, x = wr := ⟨_, rfl⟩
    by_cases hlt : k < M
    · have q1 : (0 : Int) < ((M - k : Nat) : Int) := by omega
      have hwr : IntKind.i64.wrap (((M - k : Nat) : Int) - 1) = ((M - (k + 1) : Nat) : Int) := by rw [IntWalk.i64_in _ (by omega)]; omega
      have CP := Lib.hid (pickQ HD.out.drew (by omega) hn s hs1 (by omega))
      have e2 := HD.out.row.cell 2
      have ROOM : Hid (k + 1 ≤ 4294967296) := by show _ ≤ _; omega
      obtain ⟨A2, ca, rfl, -, -⟩ := own_form HD.out.o2
      go_wp2_with fail
      go_region_law (first
          | (rw [if_pos (by rfl)]; go_simp; go_at_call 37; refine (CP.out).mono ?_; rintro e' wz ⟨x, j, x0, x1, hj, rfl, hz⟩; have HZ := Lib.hid hz; have z3 := HZ.out.row.cell 2; have HZA := Lib.hid (HZ.out.alloc (.cells ([.int .i64 x] : List Value).toArray 2)); have za3 := HZA.out.row.cell 2; have HNEW : Hid (∀ j' u, ([.int .i64 x] : List Value)[j']? = some u → (wz.alloc (.cells ([.int .i64 x] : List Value).toArray 2)).cell? ⟨wz.heap.size, 0 + j', none⟩ = some u) := (fun j' u hu => by rw [Nat.zero_add]; exact ((Row.new wz 2 [.int .i64 x]).cell j').trans hu); clear hz)
          | (refine step_cells_push rfl (.tmp 21) (.tmp 25) _ rfl (w.heap.size + 1) 2 (.int .i64 0) 1 8 Try.underlying26 infoID rfl P01 (by omega) (.slice A2 k ca) k (iv P) ?_ HZA.out.o2 wz.heap.size 0 1 1 [.int .i64 x] ?_ rfl HNEW.out (iv_one [x]) ROOM.out HZA.out.size ?_; rfl; rfl; intro A5 d5 wv hown hgr hbl hat; have hrow := HZA.out.row.grown hgr (fun e => (HZA.out.d2 _ e.symm).1 rfl); have y3 := hrow.cell 2; have f3 := hrow.frozen 2; have HPP := Lib.hid (HZA.out.push2 hown hgr (at_grown hat)); clear hrow hown hgr hbl hat))
      all_goals
        try clear e2
        try clear z3
        try clear za3
        try clear y3
        try clear f3
        go_wp2_with fail
        go_roundg (gk - 1)
        case measure => omega
        case rel =>
          refine ⟨k + 1, j, .slice A5 (k + 1) d5, P ++ [x], by first | rfl | (rw [hwr]) | go_num, by omega, by omega, by omega, ?_, ?_, ?_⟩
          · show _ = _; rw [List.length_append, HL.out]; rfl
          · intro y hy
            rcases List.mem_append.1 hy with hy | hy
            · exact HP.out y hy
            · rw [show y = x from by simpa using hy]; exact ⟨x0, x1⟩
          · have := HPP.out
            rw [show iv P ++ [.int .i64 x] = iv (P ++ [x]) from by rw [iv_append]; rfl] at this
            exact this
    · have hkM : k = M := by omega
      subst hkM
      rw [show ((k - k : Nat) : Int) = 0 by omega]
      have HI : Hid (i ≤ 2 * k) := hi
      clear hlt hq hi
      go_wp2_with fail
      go_loopg [9] s (fun q cn wr => ∃ (l i : Nat) (v3 : Value) (E : List Bool), cn = .int .i64 (l : Int) ∧ l ≤ s ∧ s ≤ q + l ∧ i ≤ 2 * k + 2 * l ∧ Hid (E.length = l) ∧ Hid (Dq w wr gS a n c z i (w.heap.size + 1) (w.heap.size + 1) w.heap.size s t v2 v3 k l (iv P) (bv E)))
      case atStart => exact ⟨0, i, .slice none 0 0, [], rfl, by omega, by omega, by have := HI.out; omega, rfl, HD.out⟩
      case round =>
        clear HD
        obtain ⟨l, i', v3, E, rfl, hl, hq, hi', HLE, HD⟩ := hrel
        obtain ⟨wo, rfl⟩ : ∃ x : World, x = wr := ⟨_, rfl⟩
        by_cases hlt : l < s
        · have q2 : (l : Int) < (s : Int) := by omega
          have CP := Lib.hid (oneQ HD.out.drew (by omega) hn 3 (by omega) (by omega))
          have e3 := HD.out.row.cell 3
          have ROOM : Hid (l + 1 ≤ 4294967296) := by show _ ≤ _; omega
          obtain ⟨A3, ca, rfl, -, -⟩ := own_form HD.out.o3
          go_wp2_with fail
          go_region_law (first
              | (rw [if_pos (by rfl)]; go_simp; go_at_call 97; refine (CP.out).mono ?_; rintro e' wz ⟨x, j, hj, rfl, hz⟩; have HZ := Lib.hid hz; have z3 := HZ.out.row.cell 3; have HZA := Lib.hid (HZ.out.alloc (.cells ([.bool x] : List Value).toArray 4)); have za3 := HZA.out.row.cell 3; have HNEW : Hid (∀ j' u, ([.bool x] : List Value)[j']? = some u → (wz.alloc (.cells ([.bool x] : List Value).toArray 4)).cell? ⟨wz.heap.size, 0 + j', none⟩ = some u) := (fun j' u hu => by rw [Nat.zero_add]; exact ((Row.new wz 4 [.bool x]).cell j').trans hu); clear hz)
              | (refine step_cells_push rfl (.tmp 34) (.tmp 37) _ rfl (w.heap.size + 1) 4 (.bool false) 1 1 Try.underlying31 infoBD rfl P01 P132 (.slice A3 l ca) l (bv E) ?_ HZA.out.o3 wz.heap.size 0 1 1 [.bool x] ?_ rfl HNEW.out (bv_one [x]) ROOM.out HZA.out.size ?_; rfl; rfl; intro A5 d5 wv hown hgr hbl hat; have hrow := HZA.out.row.grown hgr (fun e => (HZA.out.d3 _ e.symm) rfl); have y3 := hrow.cell 3; have f3 := hrow.frozen 3; have HPP := Lib.hid (HZA.out.push3 hown hgr (at_grown hat)); clear hrow hown hgr hbl hat))
          all_goals
            try clear e3
            try clear z3
            try clear za3
            try clear y3
            try clear f3
            go_wp2_with fail
            go_roundg (gk - 1)
            case measure => omega
            case rel =>
              refine ⟨l + 1, j, .slice A5 (l + 1) d5, E ++ [x], by go_num, by omega, by omega, by omega, ?_, ?_⟩
              · show _ = _; rw [List.length_append, HLE.out]; rfl
              · have := HPP.out
                rw [show bv E ++ [.bool x] = bv (E ++ [x]) from by rw [bv_append]; rfl] at this
                exact this
        · have hls : l = s := by omega
          subst hls
          have hR := HD.out.res
          have RR := Lib.hid hR
          have HG := HD.out.row
          have b0 := HG.cell 0; have b1 := HG.cell 1; have b2 := HG.cell 2; have b3 := HG.cell 3
          have k0 := hR.cell 0; have k1 := hR.cell 1; have k2 := hR.cell 2; have k3 := hR.cell 3
          have f0 := hR.frozen 0; have f1 := hR.frozen 1; have f2 := hR.frozen 2; have f3 := hR.frozen 3
          obtain ⟨g2, d2, rfl, hg2, -⟩ := HD.out.o2.form (by omega)
          obtain ⟨g3, d3, rfl, hg3, -⟩ := HD.out.o3.form (by omega)
          clear hR HG hlt
          go_wp2_with fail
          clear b0 b1 b2 b3 k0 k1 k2 k3 f0 f1 f2 f3
          have hF := ((((RR.out.set_ 0 (.int .i64 (l : Int))).set_ 1 (.int .i64 (t : Int))).set_ 2 (.slice (some ⟨g2, 0, none⟩) k d2)).set_ 3 (.slice (some ⟨g3, 0, none⟩) l d3))
          refine bodyPost_ret (results_cell_row rfl _ _ w.heap.size 33 #[.int .i64 (l : Int), .int .i64 (t : Int), .slice (some ⟨g2, 0, none⟩) k d2, .slice (some ⟨g3, 0, none⟩) l d3] (0, 0) _ rfl hF Try.underlying33 rfl (by kernel_rfl)) rfl ?_
          have hgS := HD.out.lt
          have keepF : ∀ q, w.heap.size + 1 ≤ q → ((((wo.setCell ⟨w.heap.size, 0, none⟩ (.int .i64 (l : Int))).setCell ⟨w.heap.size, 1, none⟩ (.int .i64 (t : Int))).setCell ⟨w.heap.size, 2, none⟩ (.slice (some ⟨g2, 0, none⟩) k d2)).setCell ⟨w.heap.size, 3, none⟩ (.slice (some ⟨g3, 0, none⟩) l d3)).heap[q]? = wo.heap[q]? := fun q h1 => heap_set4 _ _ _ _ (by omega)
          have hbF := ((((HD.out.bel.setCell (p := ⟨w.heap.size, 0, none⟩) (Nat.le_of_lt hgS) (.int .i64 (l : Int))).setCell (p := ⟨w.heap.size, 1, none⟩) (Nat.le_of_lt hgS) (.int .i64 (t : Int))).setCell (p := ⟨w.heap.size, 2, none⟩) (Nat.le_of_lt hgS) (.slice (some ⟨g2, 0, none⟩) k d2)).setCell (p := ⟨w.heap.size, 3, none⟩) (Nat.le_of_lt hgS) (.slice (some ⟨g3, 0, none⟩) l d3))
          have q2 := own_move HD.out.o2 (fun q hq => keepF q (HD.out.o2.lt q hq).1)
          have q3 := own_move HD.out.o3 (fun q hq => keepF q (HD.out.o3.lt q hq).1)
          refine ⟨P, E, g2, g3, d2, d3, HL.out, HP.out, HLE.out, by rw [HL.out, HLE.out], ?_, ?_, hbF⟩
          · rw [HL.out]; exact World.ownsRow.mono q2 (by omega)
          · rw [HLE.out]; exact World.ownsRow.mono q3 (by omega)
end Go.Proofs.Ytbdfbmohdbigfaa
