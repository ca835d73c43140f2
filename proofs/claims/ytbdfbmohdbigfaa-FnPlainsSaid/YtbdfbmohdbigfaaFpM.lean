/- MeetPlain of the program: its closures, and the whole at valid arguments. -/
import Derived.Test.YtbdfbmohdbigfaaFaI
import Derived.Test.YtbdfbmohdbigfaaMgv

namespace Go.Proofs.Ytbdfbmohdbigfaa
open Go.RowKit
attribute [local go_sem ↓] Go.wp_at_zero Go.wp_at_succ
set_option linter.unusedVariables false
set_option maxRecDepth 100000 in
set_option maxHeartbeats 8000000 in
theorem iMeetN_any (ga gb Sa Sb T : Nat) (A2 : Option Addr) (n2 c2 : Nat) (A3 : Option Addr) (n3 c3 : Nat) (Pa : List Int) (Ea : List Bool) (B2 : Option Addr) (m2 d2 : Nat) (B3 : Option Addr) (m3 d3 : Nat) (Pb : List Int) (Eb : List Bool) (w : World) (ha : PlOk w Sa T A2 n2 A3 n3 Pa Ea) (hb : PlOk w Sb T B2 m2 B3 m3 Pb Eb)
    (ra : Row w ga 33 (BxP (Sa : Int) (T : Int) A2 n2 c2 A3 n3 c3)) (rb : Row w gb 33 (BxP (Sb : Int) (T : Int) B2 m2 d2 B3 m3 d3)) (a b l : Nat) (hla : a < Sa) (hlb : b < Sb) (hl : l < T) :
    Calls Try.prog 50 #[.agg #[.int .i64 (a : Int), .int .i64 (b : Int)], .int .i64 (l : Int), .pointer (some ⟨ga, 0, none⟩), .pointer (some ⟨gb, 0, none⟩)] w fun e w' => e = .returned (.agg #[.int .i64 ((plT T Pa a l : Nat) : Int), .int .i64 ((plT T Pb b l : Nat) : Int)]) ∧ Below w.heap.size w w' := by
  have rk := (Row.new w 84 [.int .i64 (a : Int), .int .i64 (b : Int)]).alloc (.cells ([.int .i64 0, .int .i64 0] : List Value).toArray 84)
  have rr := Row.new (w.alloc (.cells ([.int .i64 (a : Int), .int .i64 (b : Int)] : List Value).toArray 84)) 84 [.int .i64 0, .int .i64 0]
  have bx : Below w.heap.size w ((w.alloc (.cells ([.int .i64 (a : Int), .int .i64 (b : Int)] : List Value).toArray 84)).alloc (.cells ([.int .i64 0, .int .i64 0] : List Value).toArray 84)) := ((Below.refl _ _).alloc (Nat.le_refl _) _).alloc (by simp) _
  rw [show (w.alloc (.cells ([.int .i64 (a : Int), .int .i64 (b : Int)] : List Value).toArray 84)).heap.size = w.heap.size + 1 by simp] at rr
  obtain ⟨x3, hx3⟩ : ∃ x, x = (w.alloc (.cells ([.int .i64 (a : Int), .int .i64 (b : Int)] : List Value).toArray 84)).alloc (.cells ([.int .i64 0, .int .i64 0] : List Value).toArray 84) := ⟨_, rfl⟩
  rw [← hx3] at rk rr bx
  have RK := Lib.hid rk; have RR := Lib.hid rr; have BX := Lib.hid bx
  have RA := Lib.hid (ra.below bx ra.lt); have RB := Lib.hid (rb.below bx rb.lt)
  have HA := Lib.hid (ha.below bx (Nat.le_refl _)); have HB := Lib.hid (hb.below bx (Nat.le_refl _))
  have hcel : Hid (∀ x : World, Below x3.heap.size x3 x → (Below x3.heap.size x3 x ∧ x.cell? ⟨ga, 0, none⟩ = some (.int .i64 (Sa : Int)) ∧ x.cell? ⟨ga, 1, none⟩ = some (.int .i64 (T : Int)) ∧ x.cell? ⟨ga, 2, none⟩ = some (.slice A2 n2 c2) ∧ x.cell? ⟨ga, 3, none⟩ = some (.slice A3 n3 c3) ∧ x.cell? ⟨gb, 0, none⟩ = some (.int .i64 (Sb : Int)) ∧ x.cell? ⟨gb, 1, none⟩ = some (.int .i64 (T : Int)) ∧ x.cell? ⟨gb, 2, none⟩ = some (.slice B2 m2 d2) ∧ x.cell? ⟨gb, 3, none⟩ = some (.slice B3 m3 d3) ∧ x.cell? ⟨w.heap.size, 0, none⟩ = some (.int .i64 (a : Int)) ∧ x.cell? ⟨w.heap.size, 1, none⟩ = some (.int .i64 (b : Int)))) := by
    intro x hx
    have r1 := RA.out.below hx RA.out.lt
    have r2 := RB.out.below hx RB.out.lt
    have r3 := RK.out.below hx RK.out.lt
    exact ⟨hx, r1.cell 0, r1.cell 1, r1.cell 2, r1.cell 3, r2.cell 0, r2.cell 1, r2.cell 2, r2.cell 3, r3.cell 0, r3.cell 1⟩
  have hal := ra.lt; have hbl := rb.lt
  have hLo : Hid (∀ x : World, Lo x3.heap.size (w.heap.size + 1) x3 x → (Lo x3.heap.size (w.heap.size + 1) x3 x ∧ x.cell? ⟨ga, 0, none⟩ = some (.int .i64 (Sa : Int)) ∧ x.cell? ⟨ga, 1, none⟩ = some (.int .i64 (T : Int)) ∧ x.cell? ⟨ga, 2, none⟩ = some (.slice A2 n2 c2) ∧ x.cell? ⟨ga, 3, none⟩ = some (.slice A3 n3 c3) ∧ x.cell? ⟨gb, 0, none⟩ = some (.int .i64 (Sb : Int)) ∧ x.cell? ⟨gb, 1, none⟩ = some (.int .i64 (T : Int)) ∧ x.cell? ⟨gb, 2, none⟩ = some (.slice B2 m2 d2) ∧ x.cell? ⟨gb, 3, none⟩ = some (.slice B3 m3 d3) ∧ x.cell? ⟨w.heap.size, 0, none⟩ = some (.int .i64 (a : Int)) ∧ x.cell? ⟨w.heap.size, 1, none⟩ = some (.int .i64 (b : Int)))) := by
    intro x hx
    have r1 := hx.row RA.out RA.out.lt (by omega)
    have r2 := hx.row RB.out RB.out.lt (by omega)
    have r3 := hx.row RK.out RK.out.lt (by omega)
    exact ⟨hx, r1.cell 0, r1.cell 1, r1.cell 2, r1.cell 3, r2.cell 0, r2.cell 1, r2.cell 2, r2.cell 3, r3.cell 0, r3.cell 1⟩
  have hkeep : Hid (∀ x y : World, Lo x3.heap.size (w.heap.size + 1) x3 x → Below x.heap.size x y → (Lo x3.heap.size (w.heap.size + 1) x3 y ∧ y.cell? ⟨ga, 0, none⟩ = some (.int .i64 (Sa : Int)) ∧ y.cell? ⟨ga, 1, none⟩ = some (.int .i64 (T : Int)) ∧ y.cell? ⟨ga, 2, none⟩ = some (.slice A2 n2 c2) ∧ y.cell? ⟨ga, 3, none⟩ = some (.slice A3 n3 c3) ∧ y.cell? ⟨gb, 0, none⟩ = some (.int .i64 (Sb : Int)) ∧ y.cell? ⟨gb, 1, none⟩ = some (.int .i64 (T : Int)) ∧ y.cell? ⟨gb, 2, none⟩ = some (.slice B2 m2 d2) ∧ y.cell? ⟨gb, 3, none⟩ = some (.slice B3 m3 d3) ∧ y.cell? ⟨w.heap.size, 0, none⟩ = some (.int .i64 (a : Int)) ∧ y.cell? ⟨w.heap.size, 1, none⟩ = some (.int .i64 (b : Int)))) := fun x y h1 h2 => hLo.out y (h1.trans (Lo.below h2 h1.2.2.2.1))
  have hkeepT : Hid (∀ (x : World) (v0 v1 : Value), Lo x3.heap.size (w.heap.size + 1) x3 x → (Lo x3.heap.size (w.heap.size + 1) x3 ((x.setCell ⟨w.heap.size + 1, 0, none⟩ v0).setCell ⟨w.heap.size + 1, 1, none⟩ v1) ∧ ((x.setCell ⟨w.heap.size + 1, 0, none⟩ v0).setCell ⟨w.heap.size + 1, 1, none⟩ v1).cell? ⟨ga, 0, none⟩ = some (.int .i64 (Sa : Int)) ∧ ((x.setCell ⟨w.heap.size + 1, 0, none⟩ v0).setCell ⟨w.heap.size + 1, 1, none⟩ v1).cell? ⟨ga, 1, none⟩ = some (.int .i64 (T : Int)) ∧ ((x.setCell ⟨w.heap.size + 1, 0, none⟩ v0).setCell ⟨w.heap.size + 1, 1, none⟩ v1).cell? ⟨ga, 2, none⟩ = some (.slice A2 n2 c2) ∧ ((x.setCell ⟨w.heap.size + 1, 0, none⟩ v0).setCell ⟨w.heap.size + 1, 1, none⟩ v1).cell? ⟨ga, 3, none⟩ = some (.slice A3 n3 c3) ∧ ((x.setCell ⟨w.heap.size + 1, 0, none⟩ v0).setCell ⟨w.heap.size + 1, 1, none⟩ v1).cell? ⟨gb, 0, none⟩ = some (.int .i64 (Sb : Int)) ∧ ((x.setCell ⟨w.heap.size + 1, 0, none⟩ v0).setCell ⟨w.heap.size + 1, 1, none⟩ v1).cell? ⟨gb, 1, none⟩ = some (.int .i64 (T : Int)) ∧ ((x.setCell ⟨w.heap.size + 1, 0, none⟩ v0).setCell ⟨w.heap.size + 1, 1, none⟩ v1).cell? ⟨gb, 2, none⟩ = some (.slice B2 m2 d2) ∧ ((x.setCell ⟨w.heap.size + 1, 0, none⟩ v0).setCell ⟨w.heap.size + 1, 1, none⟩ v1).cell? ⟨gb, 3, none⟩ = some (.slice B3 m3 d3) ∧ ((x.setCell ⟨w.heap.size + 1, 0, none⟩ v0).setCell ⟨w.heap.size + 1, 1, none⟩ v1).cell? ⟨w.heap.size, 0, none⟩ = some (.int .i64 (a : Int)) ∧ ((x.setCell ⟨w.heap.size + 1, 0, none⟩ v0).setCell ⟨w.heap.size + 1, 1, none⟩ v1).cell? ⟨w.heap.size, 1, none⟩ = some (.int .i64 (b : Int)))) := fun x v0 v1 h1 => hLo.out _ ((h1.trans (Lo.set _ _ _ 0 v0)).trans (Lo.set _ _ _ 1 v1))
  have HL3 : Hid (∀ (x : World), Lo x3.heap.size (w.heap.size + 1) x3 x → Below w.heap.size w x) := fun x h => BX.out.trans (h.bel BX.out.size (by omega))
  have hTA : Hid (∀ x : World, Lo x3.heap.size (w.heap.size + 1) x3 x → Calls Try.prog 51 #[.agg #[.int .i64 (Sa : Int), .int .i64 (T : Int), .slice A2 n2 c2, .slice A3 n3 c3], .int .i64 (a : Int), .int .i64 (l : Int)] x fun e y => e = .returned (.int .i64 ((plT T Pa a l : Nat) : Int)) ∧ Below x.heap.size x y) := fun x hx => iToN_any c2 c3 a l x (ha.below (HL3.out x hx) (Nat.le_refl _)) hla hl
  have hTB : Hid (∀ x : World, Lo x3.heap.size (w.heap.size + 1) x3 x → Calls Try.prog 51 #[.agg #[.int .i64 (Sb : Int), .int .i64 (T : Int), .slice B2 m2 d2, .slice B3 m3 d3], .int .i64 (b : Int), .int .i64 (l : Int)] x fun e y => e = .returned (.int .i64 ((plT T Pb b l : Nat) : Int)) ∧ Below x.heap.size x y) := fun x hx => iToN_any d2 d3 b l x (hb.below (HL3.out x hx) (Nat.le_refl _)) hlb hl
  have hfrom := hLo.out x3.drew (Lo.below (B := x3.heap.size) (Below.drew (Below.refl _ _)) (Nat.le_refl _))
  obtain ⟨a', ha'⟩ : ∃ x, x = plT T Pa a l := ⟨_, rfl⟩
  obtain ⟨b', hb'⟩ : ∃ x, x = plT T Pb b l := ⟨_, rfl⟩
  rw [← ha'] at hTA ⊢
  rw [← hb'] at hTB ⊢
  clear rk rr bx ra rb ha hb hal hbl ha' hb'
  go_enter Try.func50, Try.ntmps50
  go_wp2_with fail
  change Code.wp _ _ _ _ ((w.alloc (.cells ([.int .i64 (a : Int), .int .i64 (b : Int)] : List Value).toArray 84)).alloc (.cells ([.int .i64 0, .int .i64 0] : List Value).toArray 84))
  rw [← hx3]
  clear hx3
  go_region_held3 (fun x => Lo x3.heap.size (w.heap.size + 1) x3 x ∧ x.cell? ⟨ga, 0, none⟩ = some (.int .i64 (Sa : Int)) ∧ x.cell? ⟨ga, 1, none⟩ = some (.int .i64 (T : Int)) ∧ x.cell? ⟨ga, 2, none⟩ = some (.slice A2 n2 c2) ∧ x.cell? ⟨ga, 3, none⟩ = some (.slice A3 n3 c3) ∧ x.cell? ⟨gb, 0, none⟩ = some (.int .i64 (Sb : Int)) ∧ x.cell? ⟨gb, 1, none⟩ = some (.int .i64 (T : Int)) ∧ x.cell? ⟨gb, 2, none⟩ = some (.slice B2 m2 d2) ∧ x.cell? ⟨gb, 3, none⟩ = some (.slice B3 m3 d3) ∧ x.cell? ⟨w.heap.size, 0, none⟩ = some (.int .i64 (a : Int)) ∧ x.cell? ⟨w.heap.size, 1, none⟩ = some (.int .i64 (b : Int))) (first | (with_reducible assumption) | (with_reducible exact hkeepT.out _ _ _ (by first | (with_reducible assumption) | (with_reducible (apply And.left; assumption)))) | go_keep)
    (first
      | (go_at_call 51; ((with_reducible refine (hTA.out _ (by first | (with_reducible assumption) | (with_reducible (apply And.left; assumption)))).mono ?_); rintro e yA ⟨rfl, hbA⟩); have sA := (fun h => hkeep.out _ _ h hbA) (by first | (with_reducible assumption) | (with_reducible (apply And.left; assumption))); have rrA : Row yA (w.heap.size + 1) 84 [.int .i64 0, .int .i64 0] := (by first | exact RR.out.drew.below hbA RR.out.lt | exact RZ.out.below hbA RZ.out.lt); have z0 := rrA.cell 0; have z1 := rrA.cell 1; have f0 := rrA.frozen 0; have f1 := rrA.frozen 1; have RY := Lib.hid rrA; clear rrA hbA)
      | (go_at_call 51; ((with_reducible refine (hTB.out _ (by first | (with_reducible assumption) | (with_reducible (apply And.left; assumption)))).mono ?_); rintro e yB ⟨rfl, hbB⟩); have sB := (fun h => hkeep.out _ _ h hbB) (by first | (with_reducible assumption) | (with_reducible (apply And.left; assumption))); have rrB : Row yB (w.heap.size + 1) 84 [.int .i64 0, .int .i64 0] := (by first | exact RR.out.drew.below hbB RR.out.lt | exact RY.out.below hbB RY.out.lt); have z0 := rrB.cell 0; have z1 := rrB.cell 1; have f0 := rrB.frozen 0; have f1 := rrB.frozen 1; have RZ := Lib.hid rrB; clear rrB hbB))
  all_goals
    try clear z0 z1 f0 f1
    first
      | (have hF := ((RZ.out.set_ 0 (.int .i64 (a' : Int))).set_ 1 (.int .i64 (b' : Int)))
         have hsB := HL3.out _ sB.1
         go_wp2_with fail
         refine bodyPost_ret (results_cell_row rfl _ _ (w.heap.size + 1) 84 #[.int .i64 (a' : Int), .int .i64 (b' : Int)] (0, 0) _ rfl hF Try.underlying84 rfl (by kernel_rfl)) rfl ?_
         exact ⟨rfl, (hsB.setCell (p := ⟨w.heap.size + 1, 0, none⟩) (show w.heap.size ≤ w.heap.size + 1 by omega) _).setCell (p := ⟨w.heap.size + 1, 1, none⟩) (show w.heap.size ≤ w.heap.size + 1 by omega) _⟩)
      | (have hF := ((RY.out.set_ 0 (.int .i64 (a' : Int))).set_ 1 (.int .i64 (b' : Int)))
         have hsA := HL3.out _ sA.1
         go_wp2_with fail
         refine bodyPost_ret (results_cell_row rfl _ _ (w.heap.size + 1) 84 #[.int .i64 (a' : Int), .int .i64 (b' : Int)] (0, 0) _ rfl hF Try.underlying84 rfl (by kernel_rfl)) rfl ?_
         exact ⟨rfl, (hsA.setCell (p := ⟨w.heap.size + 1, 0, none⟩) (show w.heap.size ≤ w.heap.size + 1 by omega) _).setCell (p := ⟨w.heap.size + 1, 1, none⟩) (show w.heap.size ≤ w.heap.size + 1 by omega) _⟩)
set_option maxRecDepth 100000 in
set_option maxHeartbeats 8000000 in
theorem iMeetE_any (ga gb Sa Sb T : Nat) (A2 : Option Addr) (n2 c2 : Nat) (A3 : Option Addr) (n3 c3 : Nat) (Pa : List Int) (Ea : List Bool) (B2 : Option Addr) (m2 d2 : Nat) (B3 : Option Addr) (m3 d3 : Nat) (Pb : List Int) (Eb : List Bool) (w : World) (ha : PlOk w Sa T A2 n2 A3 n3 Pa Ea) (hb : PlOk w Sb T B2 m2 B3 m3 Pb Eb)
    (ra : Row w ga 33 (BxP (Sa : Int) (T : Int) A2 n2 c2 A3 n3 c3)) (rb : Row w gb 33 (BxP (Sb : Int) (T : Int) B2 m2 d2 B3 m3 d3)) (a b : Nat) (hla : a < Sa) (hlb : b < Sb) :
    Calls Try.prog 53 #[.agg #[.int .i64 (a : Int), .int .i64 (b : Int)], .pointer (some ⟨ga, 0, none⟩), .pointer (some ⟨gb, 0, none⟩)] w fun e w' => e = .returned (.bool (Ea.getD a false && Eb.getD b false)) ∧ Below w.heap.size w w' := by
  have rk := (Row.new w 84 [.int .i64 (a : Int), .int .i64 (b : Int)])
  have bx : Below w.heap.size w (w.alloc (.cells ([.int .i64 (a : Int), .int .i64 (b : Int)] : List Value).toArray 84)) := (Below.refl _ _).alloc (Nat.le_refl _) _
  have k3 := (ra.alloc (.cells ([.int .i64 (a : Int), .int .i64 (b : Int)] : List Value).toArray 84)).cell 3
  have q3 := (rb.alloc (.cells ([.int .i64 (a : Int), .int .i64 (b : Int)] : List Value).toArray 84)).cell 3
  have p0 := rk.cell 0; have p1 := rk.cell 1
  obtain ⟨b3, o3, ea, rfl, -, hea, cea⟩ := (ha.below bx (Nat.le_refl _)).h3.at_ (show a < n3 by rw [ha.hE]; exact hla)
  obtain ⟨b4, o4, eb, rfl, -, heb, ceb⟩ := (hb.below bx (Nat.le_refl _)).h3.at_ (show b < m3 by rw [hb.hE]; exact hlb)
  have HR : Hid ((Ea.getD a false && Eb.getD b false) = (ea && eb)) := by show _ = _; simp only [List.getD_eq_getElem?_getD, hea.out, heb.out, Option.getD_some]
  have a0 : (0 : Int) ≤ (a : Int) := by omega
  have b0 : (0 : Int) ≤ (b : Int) := by omega
  have a1 : (a : Int) < (n3 : Int) := by rw [ha.hE]; omega
  have b1 : (b : Int) < (m3 : Int) := by rw [hb.hE]; omega
  have BX := Lib.hid bx
  rw [HR.out]
  clear HR hea heb bx ha hb ra rb rk
  cases ea with
  | true =>
    go_enter Try.func53, Try.ntmps53
    go_wp2_with fail
    go_ret
    exact ⟨ret_bool (by first | rfl | simp), BX.out⟩
  | false =>
    go_enter Try.func53, Try.ntmps53
    go_wp2_with fail
    go_ret
    exact ⟨ret_bool (by first | rfl | simp), BX.out⟩
end Go.Proofs.Ytbdfbmohdbigfaa
