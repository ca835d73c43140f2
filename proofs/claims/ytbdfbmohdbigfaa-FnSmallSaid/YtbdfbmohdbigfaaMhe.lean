/- Several texts in one: MeetPlain of the program: its closures, and the whole at valid arguments. MeetPlain of the program, at valid arguments. -/
import Derived.Test.YtbdfbmohdbigfaaFaI
import Derived.Test.YtbdfbmohdbigfaaMgu
import Derived.Test.YtbdfbmohdbigfaaExwP

namespace Go.Proofs.Ytbdfbmohdbigfaa
open Go.RowKit
attribute [local go_sem ↓] Go.wp_at_zero Go.wp_at_succ
set_option linter.unusedVariables false
set_option maxRecDepth 100000 in
set_option maxHeartbeats 8000000 in
theorem iMeetN_any (ga gb Sa Sb T : Nat) (A2 : Option Addr) (n2 c2 : Nat) (A3 : Option Addr) (n3 c3 : Nat) (Pa : List Int) (Ea : List Bool) (B2 : Option Addr) (m2 d2 : Nat) (B3 : Option Addr) (m3 d3 : Nat) (Pb : List Int) (Eb : List Bool) (w : World) (ha : PlOk w Sa T A2 n2 A3 n3 Pa Ea) (hb : PlOk w Sb T B2 m2 B3 m3 Pb Eb)
    (ra : Row w ga 33 (BxP (Sa : Int) (T : Int) A2 n2 c2 A3 n3 c3)) (rb : Row w gb 33 (BxP (Sb : Int) (T : Int) B2 m2 d2 B3 m3 d3)) (a b l : Nat) (hla : a < Sa) (hlb : b < Sb) (hl : l < T) :
    Calls Try.prog 50 #[.agg #[.int .i64 (a : Int), .int .i64 (b : Int)], .int .i64 (l : Int), .pointer (some ⟨ga, 0, none⟩), .pointer (some ⟨gb, 0, none⟩)] w fun e w' => e = .returned (.agg #[.int .i64 ((plT T Pa a l : Nat) : Int), .int .i64 ((plT T Pb b l : Nat) : Int)]) ∧ Below w.heap.size w w' := by
  have rk := (Row.new w 84 [.int .i64 (a : Int), .int .i64 (b : Int)]).alloc (.cells ([.int .i64 0, .int .i64 0] : List Value).toArray 84)
  have rr := Row.new (w.alloc (.cells ([.int .i64 (a : Int), .int .i64 (b : Int)] : List Value).toArray 84)) 84 [.int .i64 0, .int .i64 0]
  have bx : Below w.heap.size w ((w.alloc (.cells ([.int .i64 (a : Int), .int .i64 (b : Int)] : List Value).toArray 84)).alloc (.cells ([.int .i64 0, .int .i64 0] : List Value).toArray 84)) := ((Below.refl _ _).alloc (Nat.le_refl _) _).alloc (by simp) _
  rw [show (w.alloc (.cells ([.int .i64 (a : Int), .int .i64 (b : Int)] : List Value).toArray 84)).heap.size = w.heap.size + 1 by simp] at rr
  obtain ⟨x3, hx3⟩ : ∃ x, x = (w.alloc (.cells ([.int .i64 (a : Int), .int .i64 (b : Int)] : List Value).toArray 84)).alloc (.cells ([.int .i64 0, .int .i64 0] : List Value).toArray 84) := ⟨_, rfl⟩
  rw [← hx3] at rk rr bx
  have RK := Lib.hid rk; have RR := Lib.hid rr; have BX := Lib.hid bx
  have RA := Lib.hid (ra.below bx ra.lt); have RB := Lib.hid (rb.below bx rb.lt)
  have HA := Lib.hid (ha.below bx (Nat.le_refl _)); have HB := Lib.hid (hb.below bx (Nat.le_refl _))
  have hcel : Hid (∀ x : World, Below x3.heap.size x3 x → (Below x3.heap.size x3 x ∧ x.cell? ⟨ga, 0, none⟩ = some (.int .i64 (Sa : Int)) ∧ x.cell? ⟨ga, 1, none⟩ = some (.int .i64 (T : Int)) ∧ x.cell? ⟨ga, 2, none⟩ = some (.slice A2 n2 c2) ∧ x.cell? ⟨ga, 3, none⟩ = some (.slice A3 n3 c3) ∧ x.cell? ⟨gb, 0, none⟩ = some (.int .i64 (Sb : Int)) ∧ x.cell? ⟨gb, 1, none⟩ = some (.int .i64 (T : Int)) ∧ x.cell? ⟨gb, 2, none⟩ = some (.slice B2 m2 d2) ∧ x.cell? ⟨gb, 3, none⟩ = some (.slice B3 m3 d3) ∧ x.cell? ⟨w.heap.size, 0, none⟩ = some (.int .i64 (a : Int)) ∧ x.cell? ⟨w.heap.size, 1, none⟩ = some (.int .i64 (b : Int)))) := by
    intro x hx
    have r1 := RA.out.below hx RA.out.lt
    have r2 := RB.out.below hx RB.out.lt
    have r3 := RK.out.below hx RK.out.lt
    exact ⟨hx, r1.cell 0, r1.cell 1, r1.cell 2, r1.cell 3, r2.cell 0, r2.cell 1, r2.cell 2, r2.cell 3, r3.cell 0, r3.cell 1⟩
  have hal := ra.lt; have hbl := rb.lt
  have hLo : Hid (∀ x : World, Lo x3.heap.size (w.heap.size + 1) x3 x → (Lo x3.heap.size (w.heap.size + 1) x3 x ∧ x.cell? ⟨ga, 0, none⟩ = some (.int .i64 (Sa : Int)) ∧ x.cell? ⟨ga, 1, none⟩ = some (.int .i64 (T : Int)) ∧ x.cell? ⟨ga, 2, none⟩ = some (.slice A2 n2 c2) ∧ x.cell? ⟨ga, 3, none⟩ = some (.slice A3 n3 c3) ∧ x.cell? ⟨gb, 0, none⟩ = some (.int .i64 (Sb : Int)) ∧ x.cell? ⟨gb, 1, none⟩ = some (.int .i64 (T : Int)) ∧ x.cell? ⟨gb, 2, none⟩ = some (.slice B2 m2 d2) ∧ x.cell? ⟨gb, 3, none⟩ = some (.slice B3 m3 d3) ∧ x.cell? ⟨w.heap.size, 0, none⟩ = some (.int .i64 (a : Int)) ∧ x.cell? ⟨w.heap.size, 1, none⟩ = some (.int .i64 (b : Int)))) := by
    intro x hx
    have r1 := hx.row RA.out RA.out.lt (by omega)
    have r2 := hx.row RB.out RB.out.lt (by omega)
    have r3 := hx.row RK.out RK.out.lt (by omega)
    exact ⟨hx, r1.cell 0, r1.cell 1, r1.cell 2, r1.cell 3, r2.cell 0, r2.cell 1, r2.cell 2, r2.cell 3, r3.cell 0, r3.cell 1⟩
  have hkeep : Hid (∀ x y : World, Lo x3.heap.size (w.heap.size + 1) x3 x → Below x.heap.size x y → (Lo x3.heap.size (w.heap.size + 1) x3 y ∧ y.cell? ⟨ga, 0, none⟩ = some (.int .i64 (Sa : Int)) ∧ y.cell? ⟨ga, 1, none⟩ = some (.int .i64 (T : Int)) ∧ y.cell? ⟨ga, 2, none⟩ = some (.slice A2 n2 c2) ∧ y.cell? ⟨ga, 3, none⟩ = some (.slice A3 n3 c3) ∧ y.cell? ⟨gb, 0, none⟩ = some (.int .i64 (Sb : Int)) ∧ y.cell? ⟨gb, 1, none⟩ = some (.int .i64 (T : Int)) ∧ y.cell? ⟨gb, 2, none⟩ = some (.slice B2 m2 d2) ∧ y.cell? ⟨gb, 3, none⟩ = some (.slice B3 m3 d3) ∧ y.cell? ⟨w.heap.size, 0, none⟩ = some (.int .i64 (a : Int)) ∧ y.cell? ⟨w.heap.size, 1, none⟩ = some (.int .i64 (b : Int)))) := fun x y h1 h2 => hLo.out y (h1.trans (Lo.below h2 h1.2.2.2.1))
  have hkeepT : Hid (∀ (x : World) (v0 v1 : Value), Lo x3.heap.size (w.heap.size + 1) x3 x → (Lo x3.heap.size (w.heap.size + 1) x3 ((x.setCell ⟨w.heap.size + 1, 0, none⟩ v0).setCell ⟨w.heap.size + 1, 1, none⟩ v1) ∧ ((x.setCell ⟨w.heap.size + 1, 0, none⟩ v0).setCell ⟨w.heap.size + 1, 1, none⟩ v1).cell? ⟨ga, 0, none⟩ = some (.int .i64 (Sa : Int)) ∧ ((x.setCell ⟨w.heap.size + 1, 0, none⟩ v0).setCell ⟨w.heap.size + 1, 1, none⟩ v1).cell? ⟨ga, 1, none⟩ = some (.int .i64 (T : Int)) ∧ ((x.setCell ⟨w.heap.size + 1, 0, none⟩ v0).setCell ⟨w.heap.size + 1, 1, none⟩ v1).cell? ⟨ga, 2, none⟩ = some (.slice A2 n2 c2) ∧ ((x.setCell ⟨w.heap.size + 1, 0, none⟩ v0).setCell ⟨w.heap.size + 1, 1, none⟩ v1).cell? ⟨ga, 3, none⟩ = some (.slice A3 n3 c3) ∧ ((x.setCell ⟨w.heap.size + 1, 0, none⟩ v0).setCell ⟨w.heap.size + 1, 1, none⟩ v1).cell? ⟨gb, 0, none⟩ = some (.int .i64 (Sb : Int)) ∧ ((x.setCell ⟨w.heap.size + 1, 0, none⟩ v0).setCell ⟨w.heap.size + 1, 1, none⟩ v1).cell? ⟨gb, 1, none⟩ = some (.int .i64 (T : Int)) ∧ ((x.setCell ⟨w.heap.size + 1, 0, none⟩ v0).setCell ⟨w.heap.size + 1, 1, none⟩ v1).cell? ⟨gb, 2, none⟩ = some (.slice B2 m2 d2) ∧ ((x.setCell ⟨w.heap.size + 1, 0, none⟩ v0).setCell ⟨w.heap.size + 1, 1, none⟩ v1).cell? ⟨gb, 3, none⟩ = some (.slice B3 m3 d3) ∧ ((x.setCell ⟨w.heap.size + 1, 0, none⟩ v0).setCell ⟨w.heap.size + 1, 1, none⟩ v1).cell? ⟨w.heap.size, 0, none⟩ = some (.int .i64 (a : Int)) ∧ ((x.setCell ⟨w.heap.size + 1, 0, none⟩ v0).setCell ⟨w.heap.size + 1, 1, none⟩ v1).cell? ⟨w.heap.size, 1, none⟩ = some (.int .i64 (b : Int)))) := fun x v0 v1 h1 => hLo.out _ ((h1.trans (Lo.set _ _ _ 0 v0)).trans (Lo.set _ _ _ 1 v1))
  have HL3 : Hid (∀ (x : World), Lo x3.heap.size (w.heap.size + 1) x3 x → Below w.heap.size w x) := fun x h => BX.out.trans (h.bel BX.out.size (by omega))
  have hTA : Hid (∀ x : World, Lo x3.heap.size (w.heap.size + 1) x3 x → Calls Try.prog 51 #[.agg #[.int .i64 (Sa : Int), .int .i64 (T : Int), .slice A2 n2 c2, .slice A3 n3 c3], .int .i64 (a : Int), .int .i64 (l : Int)] x fun e y => e = .returned (.int .i64 ((plT T Pa a l : Nat) : Int)) ∧ Below x.heap.size x y) := fun x hx => iToN_any c2 c3 a l x (ha.below (HL3.out x hx) (Nat.le_refl _)) hla hl
  have hTB : Hid (∀ x : World, Lo x3.heap.size (w.heap.size + 1) x3 x → Calls Try.prog 51 #[.agg #[.int .i64 (Sb : Int), .int .i64 (T : Int), .slice B2 m2 d2, .slice B3 m3 d3], .int .i64 (b : Int), .int .i64 (l : Int)] x fun e y => e = .returned (.int .i64 ((plT T Pb b l : Nat) : Int)) ∧ Below x.heap.size x y) := fun x hx => iToN_any d2 d3 b l x (hb.below (HL3.out x hx) (Nat.le_refl _)) hlb hl
  have hfrom := hLo.out x3.drew (Lo.below (B := x3.heap.size) (Below.drew (Below.refl _ _)) (Nat.le_refl _))
  obtain ⟨a', ha'⟩ : ∃ x, x = plT T Pa a l := ⟨_, rfl⟩
  obtain ⟨b', hb'⟩ : ∃ x, x = plT T Pb b l := ⟨_, rfl⟩
  rw [← ha'] at hTA ⊢
  rw [← hb'] at hTB ⊢
  clear rk rr bx ra rb ha hb hal hbl ha' hb'
  go_enter Try.func50, Try.ntmps50
  go_wp2_with fail
  change Code.wp _ _ _ _ ((w.alloc (.cells ([.int .i64 (a : Int), .int .i64 (b : Int)] : List Value).toArray 84)).alloc (.cells ([.int .i64 0, .int .i64 0] : List Value).toArray 84))
  rw [← hx3]
  clear hx3
  go_region_held3 (fun x => Lo x3.heap.size (w.heap.size + 1) x3 x ∧ x.cell? ⟨ga, 0, none⟩ = some (.int .i64 (Sa : Int)) ∧ x.cell? ⟨ga, 1, none⟩ = some (.int .i64 (T : Int)) ∧ x.cell? ⟨ga, 2, none⟩ = some (.slice A2 n2 c2) ∧ x.cell? ⟨ga, 3, none⟩ = some (.slice A3 n3 c3) ∧ x.cell? ⟨gb, 0, none⟩ = some (.int .i64 (Sb : Int)) ∧ x.cell? ⟨gb, 1, none⟩ = some (.int .i64 (T : Int)) ∧ x.cell? ⟨gb, 2, none⟩ = some (.slice B2 m2 d2) ∧ x.cell? ⟨gb, 3, none⟩ = some (.slice B3 m3 d3) ∧ x.cell? ⟨w.heap.size, 0, none⟩ = some (.int .i64 (a : Int)) ∧ x.cell? ⟨w.heap.size, 1, none⟩ = some (.int .i64 (b : Int))) (first | (with_reducible assumption) | (with_reducible exact hkeepT.out _ _ _ (by first | (with_reducible assumption) | (with_reducible (apply And.left; assumption)))) | go_keep)
    (first
      | (go_at_call 51; ((with_reducible refine (hTA.out _ (by first | (with_reducible assumption) | (with_reducible (apply And.left; assumption)))).mono ?_); rintro e yA ⟨rfl, hbA⟩); have sA := (fun h => hkeep.out _ _ h hbA) (by first | (with_reducible assumption) | (with_reducible (apply And.left; assumption))); have rrA : Row yA (w.heap.size + 1) 84 [.int .i64 0, .int .i64 0] := (by first | exact RR.out.drew.below hbA RR.out.lt | exact RZ.out.below hbA RZ.out.lt); have z0 := rrA.cell 0; have z1 := rrA.cell 1; have f0 := rrA.frozen 0; have f1 := rrA.frozen 1; have RY := Lib.hid rrA; clear rrA hbA)
      | (go_at_call 51; ((with_reducible refine (hTB.out _ (by first | (with_reducible assumption) | (with_reducible (apply And.left; assumption)))).mono ?_); rintro e yB ⟨rfl, hbB⟩); have sB := (fun h => hkeep.out _ _ h hbB) (by first | (with_reducible assumption) | (with_reducible (apply And.left; assumption))); have rrB : Row yB (w.heap.size + 1) 84 [.int .i64 0, .int .i64 0] := (by first | exact RR.out.drew.below hbB RR.out.lt | exact RY.out.below hbB RY.out.lt); have z0 := rrB.cell 0; have z1 := rrB.cell 1; have f0 := rrB.frozen 0; have f1 := rrB.frozen 1; have RZ := Lib.hid rrB; clear rrB hbB))
  all_goals
    try clear z0 z1 f0 f1
    first
      | (have hF := ((RZ.out.set_ 0 (.int .i64 (a' : Int))).set_ 1 (.int .i64 (b' : Int)))
         have hsB := HL3.out _ sB.1
         go_wp2_with fail
         refine bodyPost_ret (results_cell_row rfl _ _ (w.heap.size + 1) 84 #[.int .i64 (a' : Int), .int .i64 (b' : Int)] (0, 0) _ rfl hF Try.underlying84 rfl (by kernel_rfl)) rfl ?_
         exact ⟨rfl, (hsB.setCell (p := ⟨w.heap.size + 1, 0, none⟩) (show w.heap.size ≤ w.heap.size + 1 by omega) _).setCell (p := ⟨w.heap.size + 1, 1, none⟩) (show w.heap.size ≤ w.heap.size + 1 by omega) _⟩)
      | (have hF := ((RY.out.set_ 0 (.int .i64 (a' : Int))).set_ 1 (.int .i64 (b' : Int)))
         have hsA := HL3.out _ sA.1
         go_wp2_with fail
         refine bodyPost_ret (results_cell_row rfl _ _ (w.heap.size + 1) 84 #[.int .i64 (a' : Int), .int .i64 (b' : Int)] (0, 0) _ rfl hF Try.underlying84 rfl (by kernel_rfl)) rfl ?_
         exact ⟨rfl, (hsA.setCell (p := ⟨w.heap.size + 1, 0, none⟩) (show w.heap.size ≤ w.heap.size + 1 by omega) _).setCell (p := ⟨w.heap.size + 1, 1, none⟩) (show w.heap.size ≤ w.heap.size + 1 by omega) _⟩)
set_option maxRecDepth 100000 in
set_option maxHeartbeats 8000000 in
theorem iMeetE_any (ga gb Sa Sb T : Nat) (A2 : Option Addr) (n2 c2 : Nat) (A3 : Option Addr) (n3 c3 : Nat) (Pa : List Int) (Ea : List Bool) (B2 : Option Addr) (m2 d2 : Nat) (B3 : Option Addr) (m3 d3 : Nat) (Pb : List Int) (Eb : List Bool) (w : World) (ha : PlOk w Sa T A2 n2 A3 n3 Pa Ea) (hb : PlOk w Sb T B2 m2 B3 m3 Pb Eb)
    (ra : Row w ga 33 (BxP (Sa : Int) (T : Int) A2 n2 c2 A3 n3 c3)) (rb : Row w gb 33 (BxP (Sb : Int) (T : Int) B2 m2 d2 B3 m3 d3)) (a b : Nat) (hla : a < Sa) (hlb : b < Sb) :
    Calls Try.prog 53 #[.agg #[.int .i64 (a : Int), .int .i64 (b : Int)], .pointer (some ⟨ga, 0, none⟩), .pointer (some ⟨gb, 0, none⟩)] w fun e w' => e = .returned (.bool (Ea.getD a false && Eb.getD b false)) ∧ Below w.heap.size w w' := by
  have rk := (Row.new w 84 [.int .i64 (a : Int), .int .i64 (b : Int)])
  have bx : Below w.heap.size w (w.alloc (.cells ([.int .i64 (a : Int), .int .i64 (b : Int)] : List Value).toArray 84)) := (Below.refl _ _).alloc (Nat.le_refl _) _
  have k3 := (ra.alloc (.cells ([.int .i64 (a : Int), .int .i64 (b : Int)] : List Value).toArray 84)).cell 3
  have q3 := (rb.alloc (.cells ([.int .i64 (a : Int), .int .i64 (b : Int)] : List Value).toArray 84)).cell 3
  have p0 := rk.cell 0; have p1 := rk.cell 1
  obtain ⟨b3, o3, ea, rfl, -, hea, cea⟩ := (ha.below bx (Nat.le_refl _)).h3.at_ (show a < n3 by rw [ha.hE]; exact hla)
  obtain ⟨b4, o4, eb, rfl, -, heb, ceb⟩ := (hb.below bx (Nat.le_refl _)).h3.at_ (show b < m3 by rw [hb.hE]; exact hlb)
  have HR : Hid ((Ea.getD a false && Eb.getD b false) = (ea && eb)) := by show _ = _; simp only [List.getD_eq_getElem?_getD, hea.out, heb.out, Option.getD_some]
  have a0 : (0 : Int) ≤ (a : Int) := by omega
  have b0 : (0 : Int) ≤ (b : Int) := by omega
  have a1 : (a : Int) < (n3 : Int) := by rw [ha.hE]; omega
  have b1 : (b : Int) < (m3 : Int) := by rw [hb.hE]; omega
  have BX := Lib.hid bx
  rw [HR.out]
  clear HR hea heb bx ha hb ra rb rk
  cases ea with
  | true =>
    go_enter Try.func53, Try.ntmps53
    go_wp2_with fail
    go_ret
    exact ⟨ret_bool (by first | rfl | simp), BX.out⟩
  | false =>
    go_enter Try.func53, Try.ntmps53
    go_wp2_with fail
    go_ret
    exact ⟨ret_bool (by first | rfl | simp), BX.out⟩
end Go.Proofs.Ytbdfbmohdbigfaa


namespace Go.Proofs.Ytbdfbmohdbigfaa
open Go.RowKit
set_option linter.unusedVariables false
theorem allIn_of {P : List Int} {S : Nat} (h : ∀ x ∈ P, 0 ≤ x ∧ x < (S : Int)) : allIn P 0 ((S : Int) - 1) = true := by
  unfold allIn
  rw [List.all_eq_true]
  intro x hx
  have := h x hx
  exact decide_eq_true (by omega)
theorem PlOk.valid {w : World} {S T : Nat} {A2 : Option Addr} {n2 : Nat} (c2 : Nat) {A3 : Option Addr} {n3 : Nat} (c3 : Nat) {P : List Int} {E : List Bool} (h : PlOk w S T A2 n2 A3 n3 P E) :
    Calls Try.prog 46 #[.agg #[.int .i64 (S : Int), .int .i64 (T : Int), .slice A2 n2 c2, .slice A3 n3 c3]] w fun e w' => e = .returned (.bool true) ∧ Below w.heap.size w w' :=
  iValidPlain_yes S T A2 n2 c2 A3 n3 c3 P w h.h2 h.hS h.hT h.hn (allIn_of h.hP) h.hE
theorem plw_low4 {x x' : World} {b b' : Nat} {v : Value} {S T : Int} {N : List Int} {E : List Bool} (h : PlW x b v S T N E) (hb : b' ≤ b) (hs : x'.heap.size = x.heap.size) (hk : ∀ k, b ≤ k → x'.heap[k]? = x.heap[k]?) : PlW x' b' v S T N E := by
  obtain ⟨v2, v3, rfl, h2, h3, d⟩ := h
  have o2 := own_move h2.1 (w' := x') (fun k q => hk k (h2.1.lt k q).1)
  have o3 := own_move h3.1 (w' := x') (fun k q => hk k (h3.1.lt k q).1)
  exact ⟨v2, v3, rfl, OwnV.of (World.ownsRow.mono o2 hb), OwnV.of (World.ownsRow.mono o3 hb), d⟩
def plM (Ea Eb : List Bool) (p : Nat × Nat) : Bool := Ea.getD p.1 false && Eb.getD p.2 false
/-- What MeetPlain hands out. -/
def MtPost (Pa Pb : List Int) (Ea Eb : List Bool) (T : Nat) (w : World) (e : Ending) (w' : World) : Prop := ∃ v, e = .returned (.tuple #[v, .bool (exAll (plX T Pa Pb) (0, 0) T).isSome]) ∧ PlW w' w.heap.size v (eqN (plX T Pa Pb) (0, 0) T : Int) (eqT (plX T Pa Pb) (0, 0) T : Int) (eqP (plX T Pa Pb) (0, 0) T) (eqD (plX T Pa Pb) (plM Ea Eb) (0, 0) T) ∧ Below w.heap.size w w'
set_option maxRecDepth 100000 in
set_option maxHeartbeats 8000000 in
theorem iMeetPlain_any (Sa Sb T : Nat) (A2 : Option Addr) (n2 c2 : Nat) (A3 : Option Addr) (n3 c3 : Nat) (Pa : List Int) (Ea : List Bool) (B2 : Option Addr) (m2 d2 : Nat) (B3 : Option Addr) (m3 d3 : Nat) (Pb : List Int) (Eb : List Bool) (w : World) (ha : PlOk w Sa T A2 n2 A3 n3 Pa Ea) (hb : PlOk w Sb T B2 m2 B3 m3 Pb Eb) :
    Calls Try.prog 16 #[.agg #[.int .i64 (Sa : Int), .int .i64 (T : Int), .slice A2 n2 c2, .slice A3 n3 c3], .agg #[.int .i64 (Sb : Int), .int .i64 (T : Int), .slice B2 m2 d2, .slice B3 m3 d3]] w (MtPost Pa Pb Ea Eb T w) := by
  have ra := ((Row.new w 33 (BxP (Sa : Int) (T : Int) A2 n2 c2 A3 n3 c3)).alloc (.cells (BxP (Sb : Int) (T : Int) B2 m2 d2 B3 m3 d3).toArray 33)).alloc (.cells ([.int .i64 0, .int .i64 0, .slice none 0 0, .slice none 0 0] : List Value).toArray 33)
  have rb := (Row.new (w.alloc (.cells (BxP (Sa : Int) (T : Int) A2 n2 c2 A3 n3 c3).toArray 33)) 33 (BxP (Sb : Int) (T : Int) B2 m2 d2 B3 m3 d3)).alloc (.cells ([.int .i64 0, .int .i64 0, .slice none 0 0, .slice none 0 0] : List Value).toArray 33)
  have rr := Row.new ((w.alloc (.cells (BxP (Sa : Int) (T : Int) A2 n2 c2 A3 n3 c3).toArray 33)).alloc (.cells (BxP (Sb : Int) (T : Int) B2 m2 d2 B3 m3 d3).toArray 33)) 33 [.int .i64 0, .int .i64 0, .slice none 0 0, .slice none 0 0]
  have bx : Below w.heap.size w (((w.alloc (.cells (BxP (Sa : Int) (T : Int) A2 n2 c2 A3 n3 c3).toArray 33)).alloc (.cells (BxP (Sb : Int) (T : Int) B2 m2 d2 B3 m3 d3).toArray 33)).alloc (.cells ([.int .i64 0, .int .i64 0, .slice none 0 0, .slice none 0 0] : List Value).toArray 33)) := (((Below.refl _ _).alloc (Nat.le_refl _) _).alloc (by simp) _).alloc (by simp; omega) _
  rw [show (w.alloc (.cells (BxP (Sa : Int) (T : Int) A2 n2 c2 A3 n3 c3).toArray 33)).heap.size = w.heap.size + 1 by simp] at rb
  rw [show ((w.alloc (.cells (BxP (Sa : Int) (T : Int) A2 n2 c2 A3 n3 c3).toArray 33)).alloc (.cells (BxP (Sb : Int) (T : Int) B2 m2 d2 B3 m3 d3).toArray 33)).heap.size = w.heap.size + 2 by simp] at rr
  obtain ⟨x0, hx0⟩ : ∃ x, x = (((w.alloc (.cells (BxP (Sa : Int) (T : Int) A2 n2 c2 A3 n3 c3).toArray 33)).alloc (.cells (BxP (Sb : Int) (T : Int) B2 m2 d2 B3 m3 d3).toArray 33)).alloc (.cells ([.int .i64 0, .int .i64 0, .slice none 0 0, .slice none 0 0] : List Value).toArray 33)) := ⟨_, rfl⟩
  rw [← hx0] at ra rb rr bx
  have RA := Lib.hid ra; have RB := Lib.hid rb; have RR := Lib.hid rr; have BX := Lib.hid bx
  have HA := Lib.hid (ha.below bx (Nat.le_refl _)); have HB := Lib.hid (hb.below bx (Nat.le_refl _))
  have V1 := Lib.hid ((ha.below bx (Nat.le_refl _)).valid c2 c3)
  clear ra rb rr bx ha hb
  go_enter Try.func16, Try.ntmps16
  go_wp2_with fail
  change Calls _ _ _ (((w.alloc (.cells (BxP (Sa : Int) (T : Int) A2 n2 c2 A3 n3 c3).toArray 33)).alloc (.cells (BxP (Sb : Int) (T : Int) B2 m2 d2 B3 m3 d3).toArray 33)).alloc (.cells ([.int .i64 0, .int .i64 0, .slice none 0 0, .slice none 0 0] : List Value).toArray 33)) _
  rw [← hx0]
  clear hx0
  refine V1.out.mono ?_
  rintro e w1 ⟨rfl, hb1⟩
  have RA1 := Lib.hid (RA.out.below hb1 RA.out.lt); have RB1 := Lib.hid (RB.out.below hb1 RB.out.lt); have RR1 := Lib.hid (RR.out.below hb1 RR.out.lt); have BX1 := Lib.hid (BX.out.trans (hb1.mono BX.out.size))
  have HA1 := Lib.hid (HA.out.below hb1 (Nat.le_refl _)); have HB1 := Lib.hid (HB.out.below hb1 (Nat.le_refl _))
  have q0 := RB1.out.cell 0; have q1 := RB1.out.cell 1; have q2 := RB1.out.cell 2; have q3 := RB1.out.cell 3
  have V2 := Lib.hid (HB1.out.valid d2 d3)
  clear V1 hb1 RA RB RR BX HA HB
  go_wp2_with fail
  refine V2.out.mono ?_
  rintro e w2 ⟨rfl, hb2⟩
  clear q0 q1 q2 q3
  have RA2 := Lib.hid (RA1.out.below hb2 RA1.out.lt); have RB2 := Lib.hid (RB1.out.below hb2 RB1.out.lt); have RR2 := Lib.hid (RR1.out.below hb2 RR1.out.lt); have BX2 := Lib.hid (BX1.out.trans (hb2.mono BX1.out.size))
  have HA2 := Lib.hid (HA1.out.below hb2 (Nat.le_refl _)); have HB2 := Lib.hid (HB1.out.below hb2 (Nat.le_refl _))
  have k1 := RA2.out.cell 1; have q1 := RB2.out.cell 1
  clear V2 hb2 RA1 RB1 RR1 BX1 HA1 HB1
  have HEX : Hid (Calls Try.prog 52 #[.int .i64 (T : Int), .agg #[.int .i64 0, .int .i64 0], .func (.func 50) #[] #[.pointer (some ⟨w.heap.size, 0, none⟩), .pointer (some ⟨w.heap.size + 1, 0, none⟩)], .func (.func 53) #[] #[.pointer (some ⟨w.heap.size, 0, none⟩), .pointer (some ⟨w.heap.size + 1, 0, none⟩)]] w2 fun e y => ∃ (G2 : Option Addr) (e2 : Nat) (G3 : Option Addr) (e3 : Nat), e = .returned (.tuple #[.agg #[.int .i64 (eqN (plX T Pa Pb) (0, 0) T : Int), .int .i64 (eqT (plX T Pa Pb) (0, 0) T : Int), .slice G2 (eqP (plX T Pa Pb) (0, 0) T).length e2, .slice G3 (eqD (plX T Pa Pb) (plM Ea Eb) (0, 0) T).length e3], .bool (exAll (plX T Pa Pb) (0, 0) T).isSome]) ∧ PlW y w2.heap.size (.agg #[.int .i64 (eqN (plX T Pa Pb) (0, 0) T : Int), .int .i64 (eqT (plX T Pa Pb) (0, 0) T : Int), .slice G2 (eqP (plX T Pa Pb) (0, 0) T).length e2, .slice G3 (eqD (plX T Pa Pb) (plM Ea Eb) (0, 0) T).length e3]) (eqN (plX T Pa Pb) (0, 0) T : Int) (eqT (plX T Pa Pb) (0, 0) T : Int) (eqP (plX T Pa Pb) (0, 0) T) (eqD (plX T Pa Pb) (plM Ea Eb) (0, 0) T) ∧ Below w2.heap.size w2 y) := by
    have hS := HA2.out.hS; have hS' := HB2.out.hS; have hT := HA2.out.hT
    have hnx : ∀ (p : Nat × Nat) (j : Nat), (p.1 < Sa ∧ p.2 < Sb) → j < T → (plX T Pa Pb p j).1 < Sa ∧ (plX T Pa Pb p j).2 < Sb := fun p j h1 h3 => ⟨(plT_bd HA2.out.hn HA2.out.h2.len HA2.out.hP h1.1 h3).2, (plT_bd HB2.out.hn HB2.out.h2.len HB2.out.hP h1.2 h3).2⟩
    refine (iExploreP_any (plX T Pa Pb) (plM Ea Eb) (0, 0) T hT.2 w.heap.size (w.heap.size + 1) w2 (fun y => Below w2.heap.size w2 y) (Below.refl _ _) (fun a b h1 h2 _ => h1.trans h2) (fun p => p.1 < Sa ∧ p.2 < Sb) (fun p h => ⟨by omega, by omega⟩) ⟨by show 0 < Sa; omega, by show 0 < Sb; omega⟩ hnx ?_ ?_).mono ?_
    · intro x k l hx hs hk hl
      exact iMeetN_any w.heap.size (w.heap.size + 1) Sa Sb T A2 n2 c2 A3 n3 c3 Pa Ea B2 m2 d2 B3 m3 d3 Pb Eb x (HA2.out.below hx (Nat.le_refl _)) (HB2.out.below hx (Nat.le_refl _)) (RA2.out.below hx RA2.out.lt) (RB2.out.below hx RB2.out.lt) k.1 k.2 l hk.1 hk.2 hl
    · intro x k hx hs hk
      exact iMeetE_any w.heap.size (w.heap.size + 1) Sa Sb T A2 n2 c2 A3 n3 c3 Pa Ea B2 m2 d2 B3 m3 d3 Pb Eb x (HA2.out.below hx (Nat.le_refl _)) (HB2.out.below hx (Nat.le_refl _)) (RA2.out.below hx RA2.out.lt) (RB2.out.below hx RB2.out.lt) k.1 k.2 hk.1 hk.2
    · rintro e y ⟨v, rfl, hv, hb⟩
      obtain ⟨G2, e2, G3, e3, rfl⟩ := PlO.shape hv
      exact ⟨G2, e2, G3, e3, rfl, hv, hb⟩
  have q1' := q1
  clear q1
  obtain ⟨rN, hrN⟩ : ∃ x, x = eqN (plX T Pa Pb) (0, 0) T := ⟨_, rfl⟩
  obtain ⟨rT, hrT⟩ : ∃ x, x = eqT (plX T Pa Pb) (0, 0) T := ⟨_, rfl⟩
  obtain ⟨rP, hrP⟩ : ∃ x, x = eqP (plX T Pa Pb) (0, 0) T := ⟨_, rfl⟩
  obtain ⟨rD, hrD⟩ : ∃ x, x = eqD (plX T Pa Pb) (plM Ea Eb) (0, 0) T := ⟨_, rfl⟩
  obtain ⟨rB, hrB⟩ : ∃ x, x = (exAll (plX T Pa Pb) (0, 0) T).isSome := ⟨_, rfl⟩
  rw [← hrN, ← hrT, ← hrP, ← hrD, ← hrB] at HEX
  have HE1 := Lib.hid hrN; have HE2 := Lib.hid hrT; have HE3 := Lib.hid hrP; have HE4 := Lib.hid hrD; have HE5 := Lib.hid hrB
  have hsz2 : w.heap.size + 2 < w2.heap.size := RR2.out.lt
  clear hrN hrT hrP hrD hrB
  go_wp2_with fail
  refine HEX.out.mono ?_
  rintro e w3 ⟨G2, e2, G3, e3, rfl, hp3, hb3⟩
  have HP3 := Lib.hid hp3; have HB3 := Lib.hid hb3
  have RR3 := Lib.hid (RR2.out.below hb3 RR2.out.lt)
  have k0 := RR3.out.cell 0; have kk1 := RR3.out.cell 1; have k2 := RR3.out.cell 2; have k3 := RR3.out.cell 3
  have f0 := RR3.out.frozen 0; have f1 := RR3.out.frozen 1; have f2 := RR3.out.frozen 2; have f3 := RR3.out.frozen 3
  clear hp3 hb3 HEX k1 q1'
  go_wp2_with fail
  clear k0 kk1 k2 k3 f0 f1 f2 f3
  have hF := ((((RR3.out.set_ 0 (.int .i64 (rN : Int))).set_ 1 (.int .i64 (rT : Int))).set_ 2 (.slice G2 rP.length e2)).set_ 3 (.slice G3 rD.length e3))
  refine bodyPost_ret (results_cell2 rfl _ _ (w.heap.size + 2) 33 #[.int .i64 (rN : Int), .int .i64 (rT : Int), .slice G2 rP.length e2, .slice G3 rD.length e3] (0, 0) _ (.bool rB) rfl rfl hF Try.underlying33 rfl (by kernel_rfl)) rfl ?_
  refine ⟨_, by rw [← HE5.out], ?_, set4_below (BX2.out.trans (HB3.out.mono BX2.out.size)) (show w.heap.size ≤ w.heap.size + 2 by omega) _ _ _ _⟩
  rw [← HE1.out, ← HE2.out, ← HE3.out, ← HE4.out]
  exact plw_low4 HP3.out BX2.out.size (set4_size _ _ _ _ _ _) (fun k hk => set4_heap _ _ _ _ _ _ _ (by omega))
end Go.Proofs.Ytbdfbmohdbigfaa
