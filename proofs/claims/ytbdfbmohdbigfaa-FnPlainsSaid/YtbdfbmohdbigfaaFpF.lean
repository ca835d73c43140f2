/- FirstWord of the program, at valid arguments. -/
import Derived.Test.YtbdfbmohdbigfaaMgy
import Derived.Test.YtbdfbmohdbigfaaMgd

namespace Go.Proofs.Ytbdfbmohdbigfaa
open Go.RowKit
set_option linter.unusedVariables false
theorem infoIF : (Try.prog.info? 2).map (fun i => (i.zero, i.size, i.bytes)) = some (some (.int .i64 0), 1, 8) := by kernel_rfl
theorem iv_repl' (n : Nat) : iv (List.replicate n 0) = List.replicate n (.int .i64 0) := by unfold iv; rw [List.map_replicate]
theorem rowNewZ {w : World} {g : Nat} {t : TypeId} {vs : List Value} (h : g = w.heap.size) : Row (w.alloc (.cells vs.toArray t)) g t vs := by subst h; exact Row.new w t vs
theorem rowMadeI {w : World} {g n : Nat} (h : g = w.heap.size) : Row (w.alloc (.cells (madeCells #[.int .i64 0] n) 2)) g 2 (List.replicate n (.int .i64 0)) := by
  subst h
  exact Row.made w (.int .i64 0) n 2
theorem rowFar4 {y : World} {g r : Nat} {t : TypeId} {vs : List Value} {u0 u1 u2 u3 : Value} (h : Row y g t vs) (hg : g ≠ r) : Row ((((y.setCell ⟨r, 0, none⟩ u0).setCell ⟨r, 1, none⟩ u1).setCell ⟨r, 2, none⟩ u2).setCell ⟨r, 3, none⟩ u3) g t vs := (set4_heap y r g u0 u1 u2 u3 hg).trans h
theorem rowSet4 {y : World} {r : Nat} {t : TypeId} {z0 z1 z2 z3 u0 u1 u2 u3 : Value} (h : Row y r t [z0, z1, z2, z3]) : Row ((((y.setCell ⟨r, 0, none⟩ u0).setCell ⟨r, 1, none⟩ u1).setCell ⟨r, 2, none⟩ u2).setCell ⟨r, 3, none⟩ u3) r t [u0, u1, u2, u3] := (((h.set_ 0 u0).set_ 1 u1).set_ 2 u2).set_ 3 u3
set_option maxRecDepth 100000 in
set_option maxHeartbeats 8000000 in
theorem iFirstW_any (S T : Nat) (A2 : Option Addr) (n2 c2 : Nat) (A3 : Option Addr) (n3 c3 : Nat) (P : List Int) (E : List Bool) (w : World) (h : PlOk w S T A2 n2 A3 n3 P E) :
    Calls Try.prog 18 #[.agg #[.int .i64 (S : Int), .int .i64 (T : Int), .slice A2 n2 c2, .slice A3 n3 c3]] w (FaPost (faAll (plX T P (List.replicate T 0)) (plD E [false]) (0, 0) T) w) := by
  have rb := Row.new w 33 (BxP (S : Int) (T : Int) A2 n2 c2 A3 n3 c3)
  have bx : Below w.heap.size w (w.alloc (.cells (BxP (S : Int) (T : Int) A2 n2 c2 A3 n3 c3).toArray 33)) := (Below.refl _ _).alloc (Nat.le_refl _) _
  obtain ⟨x0, hx0⟩ : ∃ x, x = w.alloc (.cells (BxP (S : Int) (T : Int) A2 n2 c2 A3 n3 c3).toArray 33) := ⟨_, rfl⟩
  rw [← hx0] at rb bx
  have V1 := Lib.hid ((h.below bx (Nat.le_refl _)).valid c2 c3)
  have RB := Lib.hid rb; have BX := Lib.hid bx; have H := Lib.hid (h.below bx (Nat.le_refl _))
  have hT := h.hT
  obtain ⟨r, hr⟩ : ∃ r, r = faAll (plX T P (List.replicate T 0)) (plD E [false]) (0, 0) T := ⟨_, rfl⟩
  rw [← hr]
  have HRE := Lib.hid hr
  clear hr
  have hmk := run_make_row' (P := Try.prog) 26 2 (.int .i64 0) 8 Try.underlying26 infoIF rfl .i64 .i64 T (by omega) (by omega)
  clear rb bx h
  go_enter Try.func18, Try.ntmps18
  go_wp2_with fail
  rw [← hx0]
  clear hx0
  refine V1.out.mono ?_
  rintro e x3 ⟨rfl, hb1⟩
  have RB3 := Lib.hid (RB.out.below hb1 RB.out.lt); have BX3 := Lib.hid (BX.out.trans (hb1.mono BX.out.size)); have H3 := Lib.hid (H.out.below hb1 (Nat.le_refl _))
  clear V1 hb1 RB BX H
  have hcel : Hid (∀ x : World, Below x3.heap.size x3 x → (Below x3.heap.size x3 x ∧ x.cell? ⟨w.heap.size, 1, none⟩ = some (.int .i64 (T : Int)))) := fun x hx => ⟨hx, (RB3.out.below hx RB3.out.lt).cell 1⟩
  have hkeepD : Hid (∀ (x : World) (d : Nat), Below x3.heap.size x3 x → (Below x3.heap.size x3 (x.drewN d) ∧ (x.drewN d).cell? ⟨w.heap.size, 1, none⟩ = some (.int .i64 (T : Int)))) := fun x d h1 => hcel.out _ (below_draws h1 d)
  have hkeepA : Hid (∀ (x : World) (ob : Obj), Below x3.heap.size x3 x → (Below x3.heap.size x3 (x.alloc ob) ∧ (x.alloc ob).cell? ⟨w.heap.size, 1, none⟩ = some (.int .i64 (T : Int)))) := fun x ob h1 => hcel.out _ (h1.alloc h1.size ob)
  have hkeepAD : Hid (∀ (x : World) (ob : Obj), Below x3.heap.size x3 x.drew → (Below x3.heap.size x3 (x.alloc ob).drew ∧ (x.alloc ob).drew.cell? ⟨w.heap.size, 1, none⟩ = some (.int .i64 (T : Int)))) := fun x ob h1 => hcel.out _ (h1.alloc h1.size ob)
  have hkeepT : Hid (∀ (x : World) (gz : Nat) (u0 u1 u2 u3 : Value), Below x3.heap.size x3 x → x3.heap.size ≤ gz → (Below x3.heap.size x3 ((((x.setCell ⟨gz, 0, none⟩ u0).setCell ⟨gz, 1, none⟩ u1).setCell ⟨gz, 2, none⟩ u2).setCell ⟨gz, 3, none⟩ u3) ∧ ((((x.setCell ⟨gz, 0, none⟩ u0).setCell ⟨gz, 1, none⟩ u1).setCell ⟨gz, 2, none⟩ u2).setCell ⟨gz, 3, none⟩ u3).cell? ⟨w.heap.size, 1, none⟩ = some (.int .i64 (T : Int)))) := fun x gz u0 u1 u2 u3 h1 h2 => hcel.out _ (set4_below h1 h2 u0 u1 u2 u3)
  have hkeepTD : Hid (∀ (x : World) (gz : Nat) (u0 u1 u2 u3 : Value), Below x3.heap.size x3 x.drew → x3.heap.size ≤ gz → (Below x3.heap.size x3 ((((x.setCell ⟨gz, 0, none⟩ u0).setCell ⟨gz, 1, none⟩ u1).setCell ⟨gz, 2, none⟩ u2).setCell ⟨gz, 3, none⟩ u3).drew ∧ ((((x.setCell ⟨gz, 0, none⟩ u0).setCell ⟨gz, 1, none⟩ u1).setCell ⟨gz, 2, none⟩ u2).setCell ⟨gz, 3, none⟩ u3).drew.cell? ⟨w.heap.size, 1, none⟩ = some (.int .i64 (T : Int)))) := fun x gz u0 u1 u2 u3 h1 h2 => hcel.out _ (set4_below h1 h2 u0 u1 u2 u3)
  have hk3 : Hid (∀ (q1 q2 q3 : Obj), (Below x3.heap.size x3 (((x3.alloc q1).alloc q2).alloc q3).drew ∧ (((x3.alloc q1).alloc q2).alloc q3).drew.cell? ⟨w.heap.size, 1, none⟩ = some (.int .i64 (T : Int)))) := fun q1 q2 q3 => hcel.out _ (Below.drew ((((Below.refl _ _).alloc (Nat.le_refl _) _).alloc (by simp) _).alloc (by simp; omega) _))
  have hfrom := hcel.out x3.drew (Below.drew (Below.refl _ _))
  have hbel3 : Hid (∀ (q1 q2 q3 : Obj), Below x3.heap.size x3 (((x3.alloc q1).alloc q2).alloc q3).drew) := fun q1 q2 q3 => Below.drew ((((Below.refl _ _).alloc (Nat.le_refl _) _).alloc (by simp) _).alloc (by simp; omega) _)
  have hbel4 : Hid (∀ (q1 q2 q3 : Obj) (gz : Nat) (u0 u1 u2 u3 : Value), x3.heap.size ≤ gz → Below x3.heap.size x3 (((((((x3.alloc q1).alloc q2).alloc q3).setCell ⟨gz, 0, none⟩ u0).setCell ⟨gz, 1, none⟩ u1).setCell ⟨gz, 2, none⟩ u2).setCell ⟨gz, 3, none⟩ u3).drew) := fun q1 q2 q3 gz u0 u1 u2 u3 h2 => Below.drew (set4_below ((((Below.refl _ _).alloc (Nat.le_refl _) _).alloc (by simp) _).alloc (by simp; omega) _) h2 _ _ _ _)
  have RNX : Hid (∀ q1 : Obj, Row ((x3.alloc q1).alloc (.cells ([.int .i64 0, .int .i64 0, .slice none 0 0, .slice none 0 0] : List Value).toArray 33)) (x3.heap.size + 1) 33 ([.int .i64 0, .int .i64 0, .slice none 0 0, .slice none 0 0] : List Value)) := fun q1 => rowNewZ (by simp)
  have zp0 : ∀ q1 q2 : Obj, (((x3.alloc (.cells ([.int .i64 0, .int .i64 0, .slice none 0 0, .slice none 0 0] : List Value).toArray 33)).alloc q1).alloc q2).cell? ⟨x3.heap.size, 0, none⟩ = some (.int .i64 0) := fun q1 q2 => (((Row.new x3 33 ([.int .i64 0, .int .i64 0, .slice none 0 0, .slice none 0 0] : List Value)).alloc q1).alloc q2).cell 0
  have fp0 : ∀ q1 q2 : Obj, (((x3.alloc (.cells ([.int .i64 0, .int .i64 0, .slice none 0 0, .slice none 0 0] : List Value).toArray 33)).alloc q1).alloc q2).frozen? ⟨x3.heap.size, 0, none⟩ = false := fun q1 q2 => (((Row.new x3 33 ([.int .i64 0, .int .i64 0, .slice none 0 0, .slice none 0 0] : List Value)).alloc q1).alloc q2).frozen 0
  have zp1 : ∀ q1 q2 : Obj, (((x3.alloc (.cells ([.int .i64 0, .int .i64 0, .slice none 0 0, .slice none 0 0] : List Value).toArray 33)).alloc q1).alloc q2).cell? ⟨x3.heap.size, 1, none⟩ = some (.int .i64 0) := fun q1 q2 => (((Row.new x3 33 ([.int .i64 0, .int .i64 0, .slice none 0 0, .slice none 0 0] : List Value)).alloc q1).alloc q2).cell 1
  have fp1 : ∀ q1 q2 : Obj, (((x3.alloc (.cells ([.int .i64 0, .int .i64 0, .slice none 0 0, .slice none 0 0] : List Value).toArray 33)).alloc q1).alloc q2).frozen? ⟨x3.heap.size, 1, none⟩ = false := fun q1 q2 => (((Row.new x3 33 ([.int .i64 0, .int .i64 0, .slice none 0 0, .slice none 0 0] : List Value)).alloc q1).alloc q2).frozen 1
  have zp2 : ∀ q1 q2 : Obj, (((x3.alloc (.cells ([.int .i64 0, .int .i64 0, .slice none 0 0, .slice none 0 0] : List Value).toArray 33)).alloc q1).alloc q2).cell? ⟨x3.heap.size, 2, none⟩ = some (.slice none 0 0) := fun q1 q2 => (((Row.new x3 33 ([.int .i64 0, .int .i64 0, .slice none 0 0, .slice none 0 0] : List Value)).alloc q1).alloc q2).cell 2
  have fp2 : ∀ q1 q2 : Obj, (((x3.alloc (.cells ([.int .i64 0, .int .i64 0, .slice none 0 0, .slice none 0 0] : List Value).toArray 33)).alloc q1).alloc q2).frozen? ⟨x3.heap.size, 2, none⟩ = false := fun q1 q2 => (((Row.new x3 33 ([.int .i64 0, .int .i64 0, .slice none 0 0, .slice none 0 0] : List Value)).alloc q1).alloc q2).frozen 2
  have zp3 : ∀ q1 q2 : Obj, (((x3.alloc (.cells ([.int .i64 0, .int .i64 0, .slice none 0 0, .slice none 0 0] : List Value).toArray 33)).alloc q1).alloc q2).cell? ⟨x3.heap.size, 3, none⟩ = some (.slice none 0 0) := fun q1 q2 => (((Row.new x3 33 ([.int .i64 0, .int .i64 0, .slice none 0 0, .slice none 0 0] : List Value)).alloc q1).alloc q2).cell 3
  have fp3 : ∀ q1 q2 : Obj, (((x3.alloc (.cells ([.int .i64 0, .int .i64 0, .slice none 0 0, .slice none 0 0] : List Value).toArray 33)).alloc q1).alloc q2).frozen? ⟨x3.heap.size, 3, none⟩ = false := fun q1 q2 => (((Row.new x3 33 ([.int .i64 0, .int .i64 0, .slice none 0 0, .slice none 0 0] : List Value)).alloc q1).alloc q2).frozen 3
  have zr0 : ∀ q1 q2 : Obj, (((x3.alloc q1).alloc (.cells ([.int .i64 0, .int .i64 0, .slice none 0 0, .slice none 0 0] : List Value).toArray 33)).alloc q2).cell? ⟨(x3.heap.size + 1), 0, none⟩ = some (.int .i64 0) := fun q1 q2 => ((RNX.out q1).alloc q2).cell 0
  have fr0 : ∀ q1 q2 : Obj, (((x3.alloc q1).alloc (.cells ([.int .i64 0, .int .i64 0, .slice none 0 0, .slice none 0 0] : List Value).toArray 33)).alloc q2).frozen? ⟨(x3.heap.size + 1), 0, none⟩ = false := fun q1 q2 => ((RNX.out q1).alloc q2).frozen 0
  have zr1 : ∀ q1 q2 : Obj, (((x3.alloc q1).alloc (.cells ([.int .i64 0, .int .i64 0, .slice none 0 0, .slice none 0 0] : List Value).toArray 33)).alloc q2).cell? ⟨(x3.heap.size + 1), 1, none⟩ = some (.int .i64 0) := fun q1 q2 => ((RNX.out q1).alloc q2).cell 1
  have fr1 : ∀ q1 q2 : Obj, (((x3.alloc q1).alloc (.cells ([.int .i64 0, .int .i64 0, .slice none 0 0, .slice none 0 0] : List Value).toArray 33)).alloc q2).frozen? ⟨(x3.heap.size + 1), 1, none⟩ = false := fun q1 q2 => ((RNX.out q1).alloc q2).frozen 1
  have zr2 : ∀ q1 q2 : Obj, (((x3.alloc q1).alloc (.cells ([.int .i64 0, .int .i64 0, .slice none 0 0, .slice none 0 0] : List Value).toArray 33)).alloc q2).cell? ⟨(x3.heap.size + 1), 2, none⟩ = some (.slice none 0 0) := fun q1 q2 => ((RNX.out q1).alloc q2).cell 2
  have fr2 : ∀ q1 q2 : Obj, (((x3.alloc q1).alloc (.cells ([.int .i64 0, .int .i64 0, .slice none 0 0, .slice none 0 0] : List Value).toArray 33)).alloc q2).frozen? ⟨(x3.heap.size + 1), 2, none⟩ = false := fun q1 q2 => ((RNX.out q1).alloc q2).frozen 2
  have zr3 : ∀ q1 q2 : Obj, (((x3.alloc q1).alloc (.cells ([.int .i64 0, .int .i64 0, .slice none 0 0, .slice none 0 0] : List Value).toArray 33)).alloc q2).cell? ⟨(x3.heap.size + 1), 3, none⟩ = some (.slice none 0 0) := fun q1 q2 => ((RNX.out q1).alloc q2).cell 3
  have fr3 : ∀ q1 q2 : Obj, (((x3.alloc q1).alloc (.cells ([.int .i64 0, .int .i64 0, .slice none 0 0, .slice none 0 0] : List Value).toArray 33)).alloc q2).frozen? ⟨(x3.heap.size + 1), 3, none⟩ = false := fun q1 q2 => ((RNX.out q1).alloc q2).frozen 3
  go_upto_region 3 with fail
  go_cut [4] from 8 to 14 (fun p wx => ∃ (g4 gA gB : Nat), p = .pointer (some ⟨g4, 0, none⟩) ∧ Hid (x3.heap.size ≤ g4) ∧ Hid (Row wx g4 33 [.int .i64 1, .int .i64 (T : Int), .slice (some ⟨gA, 0, none⟩) T T, .slice (some ⟨gB, 0, none⟩) 1 1]) ∧ Hid (Row wx gA 2 (List.replicate T (.int .i64 0))) ∧ Hid (Row wx gB 4 [.bool false]) ∧ Hid (Below x3.heap.size x3 wx))
  case first =>
    go_region_held3 (fun x => Below x3.heap.size x3 x ∧ x.cell? ⟨w.heap.size, 1, none⟩ = some (.int .i64 (T : Int))) (first | (with_reducible assumption) | (with_reducible exact hk3.out _ _ _) | (with_reducible exact hkeepD.out _ _ (by first | (with_reducible assumption) | (with_reducible (apply And.left; assumption)))) | (with_reducible exact hkeepA.out _ _ (by first | (with_reducible assumption) | (with_reducible (apply And.left; assumption)))) | (with_reducible exact hkeepAD.out _ _ (by first | (with_reducible assumption) | (with_reducible (apply And.left; assumption)))) | (with_reducible refine hkeepT.out _ _ _ _ _ _ (by first | (with_reducible assumption) | (with_reducible (apply And.left; assumption))) (by first | (with_reducible exact Nat.le_refl _) | (with_reducible exact Nat.le_succ _))) | (with_reducible refine hkeepTD.out _ _ _ _ _ _ (by first | (with_reducible assumption) | (with_reducible (apply And.left; assumption))) (by first | (with_reducible exact Nat.le_refl _) | (with_reducible exact Nat.le_succ _))) | go_keep) (fail)
    all_goals
      clear zp0 fp0 zp1 fp1 zp2 fp2 zp3 fp3 zr0 fr0 zr1 fr1 zr2 fr2 zr3 fr3 hkeepD hkeepA hkeepAD hkeepT hkeepTD hfrom hk3
      try go_wp2_with fail
      go_meet
      apply Exists.intro
      apply Exists.intro
      apply Exists.intro
      refine ⟨rfl, ?_, ?_, ?_, ?_, ?_⟩
      · show _ ≤ _; omega
      · show Row _ _ _ _
        first
           | ((with_reducible refine Row.drew (Row.alloc (Row.alloc (rowNewZ ?_) _) _)); first | (with_reducible rfl) | (simp; done))
           | ((with_reducible refine Row.drew (Row.alloc (rowNewZ ?_) _)); first | (with_reducible rfl) | (simp; done))
           | ((with_reducible refine Row.drew (rowNewZ ?_)); first | (with_reducible rfl) | (simp; done))
      · show Row _ _ _ _
        first
           | ((with_reducible refine Row.drew (Row.alloc (Row.alloc (rowMadeI ?_) _) _)); first | (with_reducible rfl) | (simp; done))
           | ((with_reducible refine Row.drew (Row.alloc (rowMadeI ?_) _)); first | (with_reducible rfl) | (simp; done))
           | ((with_reducible refine Row.drew (rowMadeI ?_)); first | (with_reducible rfl) | (simp; done))
      · show Row _ _ _ _
        first
           | ((with_reducible refine Row.drew (Row.alloc (Row.alloc (rowNewZ (vs := [.bool false]) ?_) _) _)); first | (with_reducible rfl) | (simp; done))
           | ((with_reducible refine Row.drew (Row.alloc (rowNewZ (vs := [.bool false]) ?_) _)); first | (with_reducible rfl) | (simp; done))
           | ((with_reducible refine Row.drew (rowNewZ (vs := [.bool false]) ?_)); first | (with_reducible rfl) | (simp; done))
      · show Below _ _ _
        exact hbel3.out _ _ _
  case rest =>
  obtain ⟨g4, gA, gB, rfl, HG4, HR4, HRA, HRB, HB4⟩ := hcut
  obtain ⟨w4, rfl⟩ : ∃ x : World, x = wc := ⟨_, rfl⟩
  have rb4 := RB3.out.below HB4.out RB3.out.lt
  have k0 := rb4.cell 0; have k1 := rb4.cell 1; have k2 := rb4.cell 2; have k3 := rb4.cell 3
  have q0 := HR4.out.cell 0; have q1 := HR4.out.cell 1; have q2 := HR4.out.cell 2; have q3 := HR4.out.cell 3
  have HOK : Hid (PlOk w4 1 T (some ⟨gA, 0, none⟩) T (some ⟨gB, 0, none⟩) 1 (List.replicate T 0) [false]) := by
    have e2 : Row w4 gA 2 (iv (List.replicate T 0)) := by rw [iv_repl']; exact HRA.out
    have h2 := Row.slI e2
    rw [List.length_replicate] at h2
    have h3 := Row.slB (xs := [false]) HRB.out
    refine ⟨h2, h3, ⟨by omega, by omega⟩, hT, by omega, fun x hx => ?_, rfl⟩
    have := List.eq_of_mem_replicate hx
    omega
  have HC := Lib.hid (iFirstApart_any S 1 T A2 n2 c2 A3 n3 c3 P E (some ⟨gA, 0, none⟩) T T (some ⟨gB, 0, none⟩) 1 1 (List.replicate T 0) [false] w4 (H3.out.below HB4.out (Nat.le_refl _)) HOK.out)
  rw [← HRE.out] at HC
  have HBW : Hid (Below w.heap.size w w4) := BX3.out.trans (HB4.out.mono BX3.out.size)
  clear rb4 hcel RNX hmk zp0 fp0 zp1 fp1 zp2 fp2 zp3 fp3 zr0 fr0 zr1 fr1 zr2 fr2 zr3 fr3 hkeepD hkeepA hkeepAD hkeepT hkeepTD hfrom hk3
  go_wp2_with fail
  refine HC.out.mono ?_
  intro e w5 hpost
  clear HC k0 k1 k2 k3 q0 q1 q2 q3
  cases r with
  | none =>
    obtain ⟨hb5, rfl⟩ := hpost
    have HB5 := Lib.hid hb5
    clear hb5
    go_wp2_with fail
    go_ret2
    exact FaPost.none (HBW.out.trans (HB5.out.mono HBW.out.size))
  | some wd =>
    obtain ⟨hb5, A, c, rfl, h5⟩ := hpost
    have HB5 := Lib.hid hb5; have H5 := Lib.hid h5
    clear hb5 h5
    go_wp2_with fail
    go_ret2
    exact FaPost.some (HBW.out.trans (HB5.out.mono HBW.out.size)) (World.ownsRow.mono H5.out HBW.out.size)
end Go.Proofs.Ytbdfbmohdbigfaa
