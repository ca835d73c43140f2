/- JoinStates of the program: a model with two states joined. -/
import Derived.Test.YtomofghiafcefaaJsK
import Derived.Test.YtomofghiafcefaaM3
import Derived.Deep.RegionHeld3
import Derived.Deep.CutRange
import Derived.Deep.RegionLaw
import Derived.Deep.DrawnRows
import Derived.Deep.QuietTactic
import Derived.BigQuiet

namespace Go.Proofs.Ytomofghiafcefaa
open Go.RowKit
set_option linter.unusedVariables false
attribute [local go_sem ↓] Go.wp_at_zero Go.wp_at_succ
set_option maxRecDepth 100000 in
set_option maxHeartbeats 4000000 in
theorem iJoin_yes (s t : Nat) (P Q R : List F32) (i k : Nat) (b2 f2 n2 c2 b3 f3 n3 c3 b4 f4 n4 c4 : Nat) (w : World) (h2 : SlF w w.heap.size (some ⟨b2, f2, none⟩) n2 P) (h3 : SlF w w.heap.size (some ⟨b3, f3, none⟩) n3 Q) (h4 : SlF w w.heap.size (some ⟨b4, f4, none⟩) n4 R) (k2 : n2 ≤ c2) (k2' : c2 ≤ 9223372036854775807) (k3 : n3 ≤ c3) (k3' : c3 ≤ 9223372036854775807) (k4 : n4 ≤ c4) (k4' : c4 ≤ 9223372036854775807) (X : List F32) (K : Nat) (hr : rsR (s : Int) (t : Int) P Q R nC 200 = some (X, K)) (hik : i < k) (hks : k < s) (hgt : gtB (fop .add (atF X i) (atF X k)) = true) :
    Calls Try.prog 15 #[.agg #[.int .i64 (s : Int), .int .i64 (t : Int), .slice (some ⟨b2, f2, none⟩) n2 c2, .slice (some ⟨b3, f3, none⟩) n3 c3, .slice (some ⟨b4, f4, none⟩) n4 c4], .int .i64 (i : Int), .int .i64 (k : Int)] w (JsPost (s : Int) (t : Int) P Q R (i : Int) (k : Int) w) := by
  have rb := (Row.new w 29 [.int .i64 (s : Int), .int .i64 (t : Int), .slice (some ⟨b2, f2, none⟩) n2 c2, .slice (some ⟨b3, f3, none⟩) n3 c3, .slice (some ⟨b4, f4, none⟩) n4 c4]).alloc (.cells ([.int .i64 0, .int .i64 0, .slice none 0 0, .slice none 0 0, .slice none 0 0] : List Value).toArray 29)
  have rr := Row.new (w.alloc (.cells ([.int .i64 (s : Int), .int .i64 (t : Int), .slice (some ⟨b2, f2, none⟩) n2 c2, .slice (some ⟨b3, f3, none⟩) n3 c3, .slice (some ⟨b4, f4, none⟩) n4 c4] : List Value).toArray 29)) 29 [.int .i64 0, .int .i64 0, .slice none 0 0, .slice none 0 0, .slice none 0 0]
  rw [show (w.alloc (.cells ([.int .i64 (s : Int), .int .i64 (t : Int), .slice (some ⟨b2, f2, none⟩) n2 c2, .slice (some ⟨b3, f3, none⟩) n3 c3, .slice (some ⟨b4, f4, none⟩) n4 c4] : List Value).toArray 29)).heap.size = w.heap.size + 1 by simp] at rr
  have bx : Below w.heap.size w ((w.alloc (.cells ([.int .i64 (s : Int), .int .i64 (t : Int), .slice (some ⟨b2, f2, none⟩) n2 c2, .slice (some ⟨b3, f3, none⟩) n3 c3, .slice (some ⟨b4, f4, none⟩) n4 c4] : List Value).toArray 29)).alloc (.cells ([.int .i64 0, .int .i64 0, .slice none 0 0, .slice none 0 0, .slice none 0 0] : List Value).toArray 29)) := ((Below.refl _ _).alloc (Nat.le_refl _) _).alloc (by simp) _
  have hsz : ((w.alloc (.cells ([.int .i64 (s : Int), .int .i64 (t : Int), .slice (some ⟨b2, f2, none⟩) n2 c2, .slice (some ⟨b3, f3, none⟩) n3 c3, .slice (some ⟨b4, f4, none⟩) n4 c4] : List Value).toArray 29)).alloc (.cells ([.int .i64 0, .int .i64 0, .slice none 0 0, .slice none 0 0, .slice none 0 0] : List Value).toArray 29)).heap.size = w.heap.size + 2 := by simp
  have C := iRest_any (.agg #[.int .i64 (s : Int), .int .i64 (t : Int), .slice (some ⟨b2, f2, none⟩) n2 c2, .slice (some ⟨b3, f3, none⟩) n3 c3, .slice (some ⟨b4, f4, none⟩) n4 c4]) (s : Int) (t : Int) P Q R nC 200 _ ⟨_, _, _, _, _, _, _, _, _, rfl, (h2.below bx (Nat.le_refl _)).more bx.size, (h3.below bx (Nat.le_refl _)).more bx.size, (h4.below bx (Nat.le_refl _)).more bx.size⟩ ⟨_, _, _, _, _, _, _, _, _, _, _, rfl, k2, k2', k3, k3', k4, k4'⟩
  obtain ⟨hjn, hXL, hJX⟩ := jn_ok hr hik hks hgt
  rw [hr] at C
  have C := C.mono (fun e w' h => show ∃ v, e = .returned (.tuple #[v, .int .i64 (K : Int), .bool true]) ∧ RowFl w' _ v X ∧ Below _ _ w' from h)
  have hs5 := hjn.s5
  have wS : IntKind.i64.wrap ((s : Int) - 1) = (s : Int) - 1 := IntWalk.i64_in _ (by omega)
  have wI : IntKind.i64.wrap ((i : Int) + 1) = (i : Int) + 1 := IntWalk.i64_in _ (by omega)
  have q1 : inB (i : Int) 0 ((s : Int) - 1) = true := by simp [inB]; omega
  have q2 : inB (k : Int) ((i : Int) + 1) ((s : Int) - 1) = true := by simp [inB]; omega
  have hJB : jsB (s : Int) (t : Int) P Q R (i : Int) (k : Int) = true := by
    unfold jsB
    rw [hJX, q1, q2, Int.toNat_natCast, Int.toNat_natCast, hgt, hr]; rfl
  obtain ⟨x, hx⟩ : ∃ v, v = atF X i := ⟨_, rfl⟩
  obtain ⟨y, hy⟩ : ∃ v, v = atF X k := ⟨_, rfl⟩
  rw [← hx, ← hy] at hjn hgt
  have HOKD : Hid (jsOk (s : Int) (t : Int) P Q R (i : Int) (k : Int) = vdM ((s : Int) - 1) (t : Int) (jpL P s i k) (jsL Q s i k x y) (jrL R s t i k x y)) := by
    show _ = _
    unfold jsOk jsP jsQ jsR
    rw [hJB, hJX, Bool.true_and, hx, hy]; simp only [Int.toNat_natCast]
  have HJQ : Hid (jsQ (s : Int) (t : Int) P Q R (i : Int) (k : Int) = jsL Q s i k x y) := by show _ = _; unfold jsQ; rw [hJX, hx, hy]; simp only [Int.toNat_natCast]
  have HJR : Hid (jsR (s : Int) (t : Int) P Q R (i : Int) (k : Int) = jrL R s t i k x y) := by show _ = _; unfold jsR; rw [hJX, hx, hy]; simp only [Int.toNat_natCast]
  obtain ⟨sm, hsmE⟩ : ∃ v, v = fop .add x y := ⟨_, rfl⟩
  have hadd := hjn.sm
  rw [← hsmE] at hadd hgt
  have o1 := fl_run (P := Try.prog) hadd
  have hg0 : ((FloatKind.format .f32).order sm.b 0 == some .gt) = true := hgt
  have HXL := Lib.hid hXL; have HX := Lib.hid hx; have HY := Lib.hid hy; have HJN := Lib.hid hjn
  have L2 := Lib.hid h2.len; have L3 := Lib.hid h3.len; have L4 := Lib.hid h4.len
  have H2 := Lib.hid h2; have H3 := Lib.hid h3; have H4 := Lib.hid h4
  have W1 : Hid (∀ w, Calls Try.prog 25 #[.int .i64 (i : Int), .int .i64 0, .int .i64 ((s : Int) - 1)] w fun e w' => e = .returned (.bool true) ∧ w' = w) := by
    show ∀ w, _
    intro w
    have h0 := iIn_any (i : Int) 0 ((s : Int) - 1) w
    rw [q1] at h0
    exact h0.mono (fun e w' h => ⟨h.1, h.2.symm⟩)
  have W2 : Hid (∀ w, Calls Try.prog 25 #[.int .i64 (k : Int), .int .i64 ((i : Int) + 1), .int .i64 ((s : Int) - 1)] w fun e w' => e = .returned (.bool true) ∧ w' = w) := by
    show ∀ w, _
    intro w
    have h0 := iIn_any (k : Int) ((i : Int) + 1) ((s : Int) - 1) w
    rw [q2] at h0
    exact h0.mono (fun e w' h => ⟨h.1, h.2.symm⟩)
  have m0 : (0 : Int) ≤ (k : Int) := by omega
  have m3 : (0 : Int) ≤ (i : Int) := by omega
  have m1 : (i : Int) < (X.length : Int) := by omega
  have m2 : (k : Int) < (X.length : Int) := by omega
  have HIK := Lib.hid hik; have HKS := Lib.hid hks; have HS5 := Lib.hid hs5
  have KC := Lib.hid (And.intro k2 (And.intro k2' (And.intro k3 (And.intro k3' (And.intro k4 k4')))))
  clear hr q1 q2 hadd hgt hsmE hJX hJB hx hy hs5 hjn hik hks hXL
  have RB := Lib.hid rb; have RR := Lib.hid rr; have BX := Lib.hid bx; have HSZ := Lib.hid hsz
  have r0 := rb.cell 0; have r1 := rb.cell 1; have r2 := rb.cell 2; have r3 := rb.cell 3; have r4 := rb.cell 4
  have C := Lib.hid C
  clear rb rr bx hsz h2 h3 h4 k2 k2' k3 k3' k4 k4'
  go_enter Try.func15, Try.ntmps15
  go_wp2_with (go_at_call 8; refine C.out.mono ?_; rintro e w1 ⟨vr, rfl, hfl, hb1⟩; have RB1 := Lib.hid (RB.out.below hb1 RB.out.lt); have RR1 := Lib.hid (RR.out.below hb1 RR.out.lt); have BX1 := Lib.hid (BX.out.trans (hb1.mono BX.out.size)); clear r0 r1 r2 r3 r4; have z0 := RB1.out.cell 0; obtain ⟨gx, cx, rfl, hgx1, hgx2, hcx⟩ := RowFl.at hfl (by rw [HXL.out]; have := HJN.out.s1; omega); rw [HXL.out] at hcx; have HGX := Lib.hid (And.intro hgx1 hgx2); have HCX := Lib.hid hcx; have x1 := HCX.out i (Nat.lt_trans HIK.out HKS.out); have x2 := HCX.out k HKS.out; rw [← HX.out] at x1; rw [← HY.out] at x2; clear hcx hgx1 hgx2; have BX2 := Lib.hid ((Below.refl w.heap.size w).trans BX1.out); clear C hb1 hfl)
  go_cut [52] from 20 to 52 (fun v wx => v = .bool false ∧ Hid (∃ q, wx = w1.drewN q))
  case first =>
    go_quiet (first | (go_at_call 25; with_reducible exact Calls.quiet_of_same (W1.out _)) | (go_at_call 25; with_reducible exact Calls.quiet_of_same (W2.out _)))
    go_wp2_with fail
    go_meet
    exact ⟨rfl, _, rfl⟩
  case rest =>
  obtain ⟨rfl, hq2⟩ := hcut
  obtain ⟨w2, rfl⟩ : ∃ x : World, x = wc := ⟨_, rfl⟩
  have hb2 : Below w1.heap.size w1 w2 := drew_below' hq2.out
  have HRC : Hid (∀ z, Below w2.heap.size w2 z → Below w.heap.size w z) := fun z hz => (BX1.out.trans (hb2.mono BX1.out.size)).trans (hz.mono (Nat.le_trans BX1.out.size hb2.size))
  have HS2 : Hid (w.heap.size + 2 ≤ w2.heap.size) := by
    show _ ≤ _
    have h1 := RR1.out.lt
    have h2 := hb2.size
    omega
  have RB2 := Lib.hid (RB1.out.below hb2 RB1.out.lt); have RR2 := Lib.hid (RR1.out.below hb2 RR1.out.lt)
  have HX2 : Hid (∀ j, j < s → w2.cell? ⟨gx, j, none⟩ = some (.float .f32 (atF X j).b)) := fun j hj => (hb2.cell (p := ⟨gx, j, none⟩) HGX.out.2).trans (HCX.out j hj)
  have HGX2 : Hid (gx < w2.heap.size) := Nat.lt_of_lt_of_le HGX.out.2 hb2.size
  clear x1 x2 z0 W1 W2 hq2 hb2 RB1 RR1 HCX HGX o1 hg0 wI
  have hcel : Hid (∀ z : World, Below w2.heap.size w2 z → (Below w2.heap.size w2 z ∧ z.cell? ⟨w.heap.size, 0, none⟩ = some (.int .i64 (s : Int)) ∧ z.cell? ⟨w.heap.size, 1, none⟩ = some (.int .i64 (t : Int)) ∧ z.cell? ⟨w.heap.size, 2, none⟩ = some (.slice (some ⟨b2, f2, none⟩) n2 c2) ∧ z.cell? ⟨w.heap.size, 3, none⟩ = some (.slice (some ⟨b3, f3, none⟩) n3 c3) ∧ z.cell? ⟨w.heap.size, 4, none⟩ = some (.slice (some ⟨b4, f4, none⟩) n4 c4) ∧ z.cell? ⟨gx, i, none⟩ = some (.float .f32 x.b) ∧ z.cell? ⟨gx, k, none⟩ = some (.float .f32 y.b))) := by
    intro z hz
    have r := RB2.out.below hz RB2.out.lt
    have q1 := (hz.cell (p := ⟨gx, i, none⟩) HGX2.out).trans (HX2.out i (Nat.lt_trans HIK.out HKS.out))
    have q2 := (hz.cell (p := ⟨gx, k, none⟩) HGX2.out).trans (HX2.out k HKS.out)
    rw [← HX.out] at q1; rw [← HY.out] at q2
    exact ⟨hz, r.cell 0, r.cell 1, r.cell 2, r.cell 3, r.cell 4, q1, q2⟩
  have hkeep : Hid (∀ a z : World, Below w2.heap.size w2 a → Below a.heap.size a z → (Below w2.heap.size w2 z ∧ z.cell? ⟨w.heap.size, 0, none⟩ = some (.int .i64 (s : Int)) ∧ z.cell? ⟨w.heap.size, 1, none⟩ = some (.int .i64 (t : Int)) ∧ z.cell? ⟨w.heap.size, 2, none⟩ = some (.slice (some ⟨b2, f2, none⟩) n2 c2) ∧ z.cell? ⟨w.heap.size, 3, none⟩ = some (.slice (some ⟨b3, f3, none⟩) n3 c3) ∧ z.cell? ⟨w.heap.size, 4, none⟩ = some (.slice (some ⟨b4, f4, none⟩) n4 c4) ∧ z.cell? ⟨gx, i, none⟩ = some (.float .f32 x.b) ∧ z.cell? ⟨gx, k, none⟩ = some (.float .f32 y.b))) := fun a z h1 h2 => hcel.out z (h1.trans (h2.mono h1.size))
  have hkeepD : Hid (∀ (a : World) (d : Nat), Below w2.heap.size w2 a → (Below w2.heap.size w2 (a.drewN d) ∧ (a.drewN d).cell? ⟨w.heap.size, 0, none⟩ = some (.int .i64 (s : Int)) ∧ (a.drewN d).cell? ⟨w.heap.size, 1, none⟩ = some (.int .i64 (t : Int)) ∧ (a.drewN d).cell? ⟨w.heap.size, 2, none⟩ = some (.slice (some ⟨b2, f2, none⟩) n2 c2) ∧ (a.drewN d).cell? ⟨w.heap.size, 3, none⟩ = some (.slice (some ⟨b3, f3, none⟩) n3 c3) ∧ (a.drewN d).cell? ⟨w.heap.size, 4, none⟩ = some (.slice (some ⟨b4, f4, none⟩) n4 c4) ∧ (a.drewN d).cell? ⟨gx, i, none⟩ = some (.float .f32 x.b) ∧ (a.drewN d).cell? ⟨gx, k, none⟩ = some (.float .f32 y.b))) := fun a d h1 => hcel.out _ (below_draws h1 d)
  have hkeepA : Hid (∀ (a : World) (ob : Obj), Below w2.heap.size w2 a → (Below w2.heap.size w2 (a.alloc ob) ∧ (a.alloc ob).cell? ⟨w.heap.size, 0, none⟩ = some (.int .i64 (s : Int)) ∧ (a.alloc ob).cell? ⟨w.heap.size, 1, none⟩ = some (.int .i64 (t : Int)) ∧ (a.alloc ob).cell? ⟨w.heap.size, 2, none⟩ = some (.slice (some ⟨b2, f2, none⟩) n2 c2) ∧ (a.alloc ob).cell? ⟨w.heap.size, 3, none⟩ = some (.slice (some ⟨b3, f3, none⟩) n3 c3) ∧ (a.alloc ob).cell? ⟨w.heap.size, 4, none⟩ = some (.slice (some ⟨b4, f4, none⟩) n4 c4) ∧ (a.alloc ob).cell? ⟨gx, i, none⟩ = some (.float .f32 x.b) ∧ (a.alloc ob).cell? ⟨gx, k, none⟩ = some (.float .f32 y.b))) := fun a ob h1 => hcel.out _ (h1.alloc h1.size ob)
  have hkeepT : Hid (∀ (a : World) (g : Nat) (u0 u1 u2 u3 u4 : Value), Below w2.heap.size w2 a → w2.heap.size ≤ g → (Below w2.heap.size w2 (((((a.setCell ⟨g, 0, none⟩ u0).setCell ⟨g, 1, none⟩ u1).setCell ⟨g, 2, none⟩ u2).setCell ⟨g, 3, none⟩ u3).setCell ⟨g, 4, none⟩ u4) ∧ (((((a.setCell ⟨g, 0, none⟩ u0).setCell ⟨g, 1, none⟩ u1).setCell ⟨g, 2, none⟩ u2).setCell ⟨g, 3, none⟩ u3).setCell ⟨g, 4, none⟩ u4).cell? ⟨w.heap.size, 0, none⟩ = some (.int .i64 (s : Int)) ∧ (((((a.setCell ⟨g, 0, none⟩ u0).setCell ⟨g, 1, none⟩ u1).setCell ⟨g, 2, none⟩ u2).setCell ⟨g, 3, none⟩ u3).setCell ⟨g, 4, none⟩ u4).cell? ⟨w.heap.size, 1, none⟩ = some (.int .i64 (t : Int)) ∧ (((((a.setCell ⟨g, 0, none⟩ u0).setCell ⟨g, 1, none⟩ u1).setCell ⟨g, 2, none⟩ u2).setCell ⟨g, 3, none⟩ u3).setCell ⟨g, 4, none⟩ u4).cell? ⟨w.heap.size, 2, none⟩ = some (.slice (some ⟨b2, f2, none⟩) n2 c2) ∧ (((((a.setCell ⟨g, 0, none⟩ u0).setCell ⟨g, 1, none⟩ u1).setCell ⟨g, 2, none⟩ u2).setCell ⟨g, 3, none⟩ u3).setCell ⟨g, 4, none⟩ u4).cell? ⟨w.heap.size, 3, none⟩ = some (.slice (some ⟨b3, f3, none⟩) n3 c3) ∧ (((((a.setCell ⟨g, 0, none⟩ u0).setCell ⟨g, 1, none⟩ u1).setCell ⟨g, 2, none⟩ u2).setCell ⟨g, 3, none⟩ u3).setCell ⟨g, 4, none⟩ u4).cell? ⟨w.heap.size, 4, none⟩ = some (.slice (some ⟨b4, f4, none⟩) n4 c4) ∧ (((((a.setCell ⟨g, 0, none⟩ u0).setCell ⟨g, 1, none⟩ u1).setCell ⟨g, 2, none⟩ u2).setCell ⟨g, 3, none⟩ u3).setCell ⟨g, 4, none⟩ u4).cell? ⟨gx, i, none⟩ = some (.float .f32 x.b) ∧ (((((a.setCell ⟨g, 0, none⟩ u0).setCell ⟨g, 1, none⟩ u1).setCell ⟨g, 2, none⟩ u2).setCell ⟨g, 3, none⟩ u3).setCell ⟨g, 4, none⟩ u4).cell? ⟨gx, k, none⟩ = some (.float .f32 y.b))) := fun a g u0 u1 u2 u3 u4 h1 h2 => hcel.out _ (set5_below h1 h2 u0 u1 u2 u3 u4)
  have hlow : Hid (∀ (z : World), Below w2.heap.size w2 z → w2.heap.size ≤ z.heap.size) := fun z h => h.size
  have hJP : Hid (∀ z : World, Below w2.heap.size w2 z → Calls Try.prog 32 #[.slice (some ⟨b2, f2, none⟩) n2 c2, .int .i64 (i : Int), .int .i64 (k : Int)] z fun e u => ∃ g c', e = .returned (.slice (some ⟨g, 0, none⟩) (s - 1) c') ∧ RwF u z.heap.size g (s - 1) c' (jpL P s i k) ∧ Below z.heap.size z u) := by
    intro z hz
    have hb := HRC.out z hz
    have hn : n2 = s := by rw [← L2.out, HJN.out.pl]
    have h := iJoinP_any b2 f2 n2 c2 i k P z ((H2.out.below hb (Nat.le_refl _)).more hb.size) HIK.out (by rw [hn]; exact HKS.out) (by rw [hn]; exact HS5.out) HJN.out.pa
    rw [hn] at h ⊢
    exact h
  have hJR : Hid (∀ z : World, Below w2.heap.size w2 z → Calls Try.prog 33 #[.slice (some ⟨b4, f4, none⟩) n4 c4, .int .i64 (t : Int), .int .i64 (i : Int), .int .i64 (k : Int), .float .f32 x.b, .float .f32 y.b] z fun e u => ∃ g c', e = .returned (.slice (some ⟨g, 0, none⟩) ((s - 1) * t) c') ∧ RwF u z.heap.size g ((s - 1) * t) c' (jrL R s t i k x y) ∧ Below z.heap.size z u) := by
    intro z hz
    have hb := HRC.out z hz
    exact iJoinR_any b4 f4 n4 c4 s t i k R x y z ((H4.out.below hb (Nat.le_refl _)).more hb.size) (by rw [← L4.out, HJN.out.rl]) HS5.out HJN.out.t1 (by have := HJN.out.t5; omega) HIK.out HKS.out HJN.out.sm HJN.out.ro
  have hJS : Hid (∀ z : World, Below w2.heap.size w2 z → Calls Try.prog 33 #[.slice (some ⟨b3, f3, none⟩) n3 c3, .int .i64 (s : Int), .int .i64 (i : Int), .int .i64 (k : Int), .float .f32 x.b, .float .f32 y.b] z fun e u => ∃ g c', e = .returned (.slice (some ⟨g, 0, none⟩) ((s - 1) * s) c') ∧ RwF u z.heap.size g ((s - 1) * s) c' (jrL Q s s i k x y) ∧ Below z.heap.size z u) := by
    intro z hz
    have hb := HRC.out z hz
    exact iJoinR_any b3 f3 n3 c3 s s i k Q x y z ((H3.out.below hb (Nat.le_refl _)).more hb.size) (by rw [← L3.out, HJN.out.ql]) HS5.out HJN.out.s1 HS5.out HIK.out HKS.out HJN.out.sm HJN.out.qo
  have hfrom := hcel.out w2.drew (Below.drew (Below.refl _ _))
  have hfrom2 := hcel.out (w2.alloc (.cells ([.int .i64 0, .int .i64 0, .slice none 0 0, .slice none 0 0, .slice none 0 0] : List Value).toArray 29)).drew (Below.drew ((Below.refl _ _).alloc (Nat.le_refl _) _))
  go_wp2_with fail
  go_cut [11] from 54 to 79 (fun p wx => ∃ gz gp cp gq cq : Nat, p = .pointer (some ⟨gz, 0, none⟩) ∧ Hid (M3 w2 wx w2.heap.size gz 29 25 25 25 1 1 1 (.int .i64 ((s : Int) - 1)) (.int .i64 (t : Int)) (.slice (some ⟨gp, 0, none⟩) (s - 1) cp) (.slice none 0 0) (.slice (some ⟨gq, 0, none⟩) ((s - 1) * t) cq) (s - 1) 0 ((s - 1) * t) (fv (jpL P s i k)) ([]) (fv (jrL R s t i k x y))))
  case first =>
    go_region_held3 (fun z => Below w2.heap.size w2 z ∧ z.cell? ⟨w.heap.size, 0, none⟩ = some (.int .i64 (s : Int)) ∧ z.cell? ⟨w.heap.size, 1, none⟩ = some (.int .i64 (t : Int)) ∧ z.cell? ⟨w.heap.size, 2, none⟩ = some (.slice (some ⟨b2, f2, none⟩) n2 c2) ∧ z.cell? ⟨w.heap.size, 3, none⟩ = some (.slice (some ⟨b3, f3, none⟩) n3 c3) ∧ z.cell? ⟨w.heap.size, 4, none⟩ = some (.slice (some ⟨b4, f4, none⟩) n4 c4) ∧ z.cell? ⟨gx, i, none⟩ = some (.float .f32 x.b) ∧ z.cell? ⟨gx, k, none⟩ = some (.float .f32 y.b)) (first | (with_reducible assumption) | (with_reducible exact hkeepD.out _ _ (by first | (with_reducible assumption) | (with_reducible (apply And.left; assumption)))) | (with_reducible exact hkeepA.out _ _ (by first | (with_reducible assumption) | (with_reducible (apply And.left; assumption)))) | (with_reducible refine hkeepT.out _ _ _ _ _ _ _ (by first | (with_reducible assumption) | (with_reducible (apply And.left; assumption))) (by first | (with_reducible exact Nat.le_refl _) | (with_reducible exact hlow.out _ (by first | (with_reducible assumption) | (with_reducible (apply And.left; assumption)))))) | go_keep)
      (first
        | (go_at_call 32; refine (hJP.out _ (by first | (with_reducible assumption) | (with_reducible (apply And.left; assumption)))).mono ?_; rintro e y1 ⟨gp, cp, rfl, hp1, hbp⟩; have s1 := (fun h => hkeep.out _ _ h hbp) (by first | (with_reducible assumption) | (with_reducible (apply And.left; assumption))); (try (have ra : Row y1 w2.heap.size 29 [.int .i64 0, .int .i64 0, .slice none 0 0, .slice none 0 0, .slice none 0 0] := (Row.new w2 29 [.int .i64 0, .int .i64 0, .slice none 0 0, .slice none 0 0, .slice none 0 0]).drew.below hbp (by simp)); have RA := Lib.hid ra; clear ra); have HP1 := Lib.hid hp1; have HBP := Lib.hid hbp; clear hp1 hbp)
        | (go_at_call 33; refine (hJR.out _ (by first | (with_reducible assumption) | (with_reducible (apply And.left; assumption)))).mono ?_; rintro e y2 ⟨gq, cq, rfl, hq1, hbq⟩; have s2 := (fun h => hkeep.out _ _ h hbq) (by first | (with_reducible assumption) | (with_reducible (apply And.left; assumption))); (try (have ra : Row y2 w2.heap.size 29 [.int .i64 0, .int .i64 0, .slice none 0 0, .slice none 0 0, .slice none 0 0] := RA.out.below hbq RA.out.lt; have ze0 := ra.cell 0; have ze1 := ra.cell 1; have ze2 := ra.cell 2; have ze3 := ra.cell 3; have ze4 := ra.cell 4; have fe0 := ra.frozen 0; have fe1 := ra.frozen 1; have fe2 := ra.frozen 2; have fe3 := ra.frozen 3; have fe4 := ra.frozen 4; have RA2 := Lib.hid ra; clear ra)); (try (have ra : Row y2 y1.heap.size 29 [.int .i64 0, .int .i64 0, .slice none 0 0, .slice none 0 0, .slice none 0 0] := (Row.new y1 29 [.int .i64 0, .int .i64 0, .slice none 0 0, .slice none 0 0, .slice none 0 0]).below hbq (by simp); have ze0 := ra.cell 0; have ze1 := ra.cell 1; have ze2 := ra.cell 2; have ze3 := ra.cell 3; have ze4 := ra.cell 4; have fe0 := ra.frozen 0; have fe1 := ra.frozen 1; have fe2 := ra.frozen 2; have fe3 := ra.frozen 3; have fe4 := ra.frozen 4; have RA2 := Lib.hid ra; clear ra)); have HQ1 := Lib.hid hq1; have HBQ := Lib.hid hbq; clear hq1 hbq))
    all_goals
      go_wp2_with fail
      go_meet
      have q1 := HP1.out.lt
      have q2 := HQ1.out.lt
      have q3 := hlow.out _ s1.1
      have q4 := hlow.out _ s2.1
      have q5 := HBQ.out.size
      have q6 := HBP.out.size
      try clear ze0 ze1 ze2 ze3 ze4 fe0 fe1 fe2 fe3 fe4
    · exact ⟨y2.heap.size, gp, cp, gq, cq, rfl, m3_of (Row.new y2 29 _) (s2.1.alloc q4 _) q4 (((HP1.out.keep HBQ.out (Nat.le_refl _)).alloc _).less (Nat.le_refl _)) ((HQ1.out.alloc _).less q3) (by omega) (by omega) (by omega)⟩
    · rw [show (y1.alloc (.cells ([.int .i64 0, .int .i64 0, .slice none 0 0, .slice none 0 0, .slice none 0 0] : List Value).toArray 29)).heap.size = y1.heap.size + 1 by simp] at q2 q5
      exact ⟨y1.heap.size, gp, cp, gq, cq, rfl, m3_of (set5_row RA2.out _ _ _ _ _) (set5_below s2.1 q3 _ _ _ _ _) q3 ((rwf_set5 ((HP1.out.alloc _).keep HBQ.out (Nat.le_refl _)) (by omega) _ _ _ _ _).less (Nat.le_refl _)) ((rwf_set5 HQ1.out (by omega) _ _ _ _ _).less (by simp; omega)) (by omega) (by omega) (by omega)⟩
    · rw [show (w2.alloc (.cells ([.int .i64 0, .int .i64 0, .slice none 0 0, .slice none 0 0, .slice none 0 0] : List Value).toArray 29)).drew.heap.size = w2.heap.size + 1 by simp] at q1 q6
      exact ⟨w2.heap.size, gp, cp, gq, cq, rfl, m3_of (set5_row RA2.out _ _ _ _ _) (set5_below s2.1 (Nat.le_refl _) _ _ _ _ _) (Nat.le_refl _) ((rwf_set5 (HP1.out.keep HBQ.out (Nat.le_refl _)) (by omega) _ _ _ _ _).less (by simp)) ((rwf_set5 HQ1.out (by omega) _ _ _ _ _).less q3) (by omega) (by omega) (by omega)⟩
  case rest =>
  obtain ⟨gz, gp, cp, gq, cq, rfl, HM⟩ := hcut
  obtain ⟨w4, rfl⟩ : ∃ x : World, x = wc := ⟨_, rfl⟩
  have hfrom := hcel.out w4.drew (Below.drew HM.out.bel)
  go_wp2_with fail
  go_region_held3 (fun z => Below w2.heap.size w2 z ∧ z.cell? ⟨w.heap.size, 0, none⟩ = some (.int .i64 (s : Int)) ∧ z.cell? ⟨w.heap.size, 1, none⟩ = some (.int .i64 (t : Int)) ∧ z.cell? ⟨w.heap.size, 2, none⟩ = some (.slice (some ⟨b2, f2, none⟩) n2 c2) ∧ z.cell? ⟨w.heap.size, 3, none⟩ = some (.slice (some ⟨b3, f3, none⟩) n3 c3) ∧ z.cell? ⟨w.heap.size, 4, none⟩ = some (.slice (some ⟨b4, f4, none⟩) n4 c4) ∧ z.cell? ⟨gx, i, none⟩ = some (.float .f32 x.b) ∧ z.cell? ⟨gx, k, none⟩ = some (.float .f32 y.b)) (first | (with_reducible assumption) | (with_reducible exact hkeepD.out _ _ (by first | (with_reducible assumption) | (with_reducible (apply And.left; assumption)))) | go_keep)
    (first | (go_at_call 33; refine (hJS.out _ (by first | (with_reducible assumption) | (with_reducible (apply And.left; assumption)))).mono ?_; rintro e w5 ⟨gs, cs, rfl, hs1, hbs⟩; have s5 := (fun h => hkeep.out _ _ h hbs) (by first | (with_reducible assumption) | (with_reducible (apply And.left; assumption))); have HG5 := Lib.hid hs1; have HM5 := Lib.hid (M3.call (M3.drew HM.out) hbs (Nat.le_refl _)); have HGZ := Lib.hid HM.out.row.lt; clear hs1 hbs))
  have hgs := HG5.out.lt
  have HGS : Hid (gz < gs ∧ gs < w5.heap.size) := ⟨Nat.lt_of_lt_of_le HGZ.out hgs.1, hgs.2⟩
  have HGC := Lib.hid HG5.out.cap
  have e0 := HM5.out.row.cell 0
  clear hfrom hcel hkeep hkeepD hkeepA hkeepT hlow hJP hJR hJS s5 hgs HM hfrom2
  go_wp2_with fail
  clear e0
  go_loopg [13, 97] (s - 1) (fun q u ct wr => ∃ (a : Nat) (A3 : Option Addr) (N3 C3 : Nat), ct = .int .i64 (a : Int) ∧ a ≤ s - 1 ∧ s - 1 ≤ q + a ∧ Hid (N3 = a * (s - 1)) ∧ Hid (M3 w2 wr w2.heap.size gz 29 25 25 25 1 1 1 (.int .i64 ((s : Int) - 1)) (.int .i64 (t : Int)) (.slice (some ⟨gp, 0, none⟩) (s - 1) cp) (.slice A3 N3 C3) (.slice (some ⟨gq, 0, none⟩) ((s - 1) * t) cq) (s - 1) N3 ((s - 1) * t) (fv (jpL P s i k)) (fv (jsT Q s i k x y a)) (fv (jrL R s t i k x y))) ∧ Hid (RwF wr w2.heap.size gs ((s - 1) * s) cs (jrL Q s s i k x y)) ∧ Hid ((Value.slice A3 N3 C3).ownBlock ≠ some gs))
  case atStart =>
    refine ⟨0, none, 0, 0, rfl, by omega, by omega, by show _ = _; omega, HM5.out, HG5.out.less (Nat.le_trans HM5.out.gb (Nat.le_of_lt HGZ.out)), fun e => by simp [Value.ownBlock] at e⟩
  case round =>
    obtain ⟨wo, rfl⟩ : ∃ x : World, x = wr := ⟨_, rfl⟩
    obtain ⟨a, A3, N3, C3, rfl, ha, hmq, HN3, HM, HGR, HNE⟩ := hrel
    by_cases hlt : a < s - 1
    · obtain ⟨p, hp⟩ : ∃ p, p = a * s := ⟨_, rfl⟩
      obtain ⟨W, hW⟩ : ∃ W, W = ((jrL Q s s i k x y).drop (a * s)).take s := ⟨_, rfl⟩
      have hps : p + s ≤ (s - 1) * s := by
        have h1 : (a + 1) * s ≤ (s - 1) * s := Nat.mul_le_mul_right _ hlt
        rw [Nat.add_mul, Nat.one_mul] at h1; omega
      have hcap := HGC.out
      unfold maxLen at hcap
      have hRO := (fun z => iRowOf_any gs 0 ((s - 1) * s) cs s a p z hp hps hcap.1 (by omega) (by have := HS5.out; omega) (by have := HS5.out; omega) HJN.out.s1)
      have hSub : Hid (∀ z, Below wo.heap.size wo z → SlF z z.heap.size (some ⟨gs, 0 + p, none⟩) s W) := fun z hz => by
        rw [hW, ← hp]
        exact ((HGR.out.keep hz (Nat.le_refl _)).sl).sub hps
      have hJP := iJoinP_any gs (0 + p) s s i k W wo.drew (hSub.out _ (Below.drew (Below.refl _ _))) HIK.out HKS.out HS5.out (js_add HS5.out HIK.out HKS.out hlt HJN.out.qc HJN.out.qo W hW)
      rw [Nat.zero_add] at hJP
      simp only [Nat.zero_add] at hRO
      have hJP := Lib.hid hJP; have hRO := Lib.hid hRO
      have HST : Hid (jsT Q s i k x y (a + 1) = jsT Q s i k x y a ++ jpL W s i k) := by show _ = _; rw [jsT_succ HS5.out HIK.out HKS.out hlt, hW]
      have hn3 : N3 ≤ 25 := by rw [HN3.out]; exact Nat.mul_le_mul (show a ≤ 5 by have := HS5.out; omega) (show s - 1 ≤ 5 by have := HS5.out; omega)
      have P01 : 0 < 1 := by omega
      have P432 : 4 ≤ 32 := by omega
      have LS : Hid ((fv (jpL W s i k)).length = (s - 1) * 1) := by show _ = _; rw [fv_length, jpL_len HS5.out HKS.out]; omega
      have RM3 : Hid (N3 + (s - 1) ≤ 4294967296) := by show _ ≤ _; have := HS5.out; omega
      have e3 := HM.out.row.cell 3
      have z0 := (RB2.out.below HM.out.bel RB2.out.lt).cell 0
      have zd0 := (RB2.out.below HM.out.drew.bel RB2.out.lt).cell 0
      have l1 : (a : Int) < (s : Int) - 1 := by omega
      have w8 : IntKind.i64.wrap ((a : Int) + 1) = ((a + 1 : Nat) : Int) := by rw [IntWalk.i64_in _ (by have := HS5.out; omega)]; omega
      clear hp hW hps hcap hn3 hSub
      go_wp2_with fail
      go_region_law (first
        | (rw [if_pos (by rfl)]; go_simp; go_at_call 34; refine (hRO.out _).mono ?_; rintro e wq ⟨rfl, hwq⟩; subst hwq)
        | (rw [if_pos (by rfl)]; go_simp; go_at_call 32; refine hJP.out.mono ?_; rintro e wz ⟨gj, cj, rfl, hoj, hbj⟩; have HZ := Lib.hid (M3.call (M3.drew HM.out) hbj (Nat.le_refl _)); have HC : Hid (∀ j u, (fv (jpL W s i k))[j]? = some u → wz.cell? ⟨gj, 0 + j, none⟩ = some u) := (fun j u hu => by rw [Nat.zero_add]; exact (of_cell hoj hu).1); have HGZ2 := Lib.hid (HGR.out.keep (Below.trans (Below.drew (Below.refl wo.heap.size wo)) (Below.mono hbj (Nat.le_refl wo.heap.size))) (Nat.le_refl _)); clear hoj hbj; have z3 := HZ.out.row.cell 3; have zz0 := (RB2.out.below HZ.out.bel RB2.out.lt).cell 0)
        | (refine step_cells_push rfl (.tmp 101) (.tmp 109) _ rfl w2.heap.size 25 (.float .f32 0) 1 4 Try.underlying22 infoF32 rfl P01 P432 (.slice A3 N3 C3) N3 (fv (jsT Q s i k x y a)) ?_ HZ.out.o3 gj 0 (s - 1) cj (fv (jpL W s i k)) ?_ LS.out HC.out (fv_one _) RM3.out HZ.out.size ?_; rfl; rfl; intro A' c' wy hvE hgr hbl hat; have HY := Lib.hid (M3.push3 HZ.out hvE hgr hat); have hrow := HZ.out.row.grown hgr (fun e => (HZ.out.d3 _ e.symm).1 rfl); have HGY : Hid (RwF wy w2.heap.size gs ((s - 1) * s) cs (jrL Q s s i k x y)) := own_move HGZ2.out (fun g hg => (by simp [Value.ownBlock] at hg; subst hg; exact hgr.block gs HGZ2.out.lt.2 (fun e => HNE.out e.symm))); have HNE2 : Hid ((Value.slice A' (N3 + (s - 1)) c').ownBlock ≠ some gs) := (fun e => by rcases hat with h | h; exact HNE.out (h ▸ e); (rw [e] at h; have := Option.some.inj h; have := HGZ2.out.lt.2; omega)); have y3 := hrow.cell 3; have f3 := hrow.frozen 3; clear hrow hvE hgr hbl hat))
      all_goals
        go_wp2_with fail
        go_roundg (gk - 1)
        case measure => omega
        case rel =>
          refine ⟨a + 1, A', N3 + (s - 1), c', by go_num, by omega, by omega, ?_, ?_, ?_, HNE2.out⟩
          · show _ = _; rw [HN3.out, Nat.add_mul, Nat.one_mul]
          · have h1 := HY.out
            rw [← fv_append, ← HST.out] at h1
            exact h1
          · exact own_move HGY.out (fun g hg => Below.heap_setCell _ _ _ _ (by simp [Value.ownBlock] at hg; subst hg; have := HGS.out.1; show gs ≠ gz; omega))
    · obtain rfl : a = s - 1 := by omega
      have l1 : ¬ ((s - 1 : Nat) : Int) < (s : Int) - 1 := by omega
      have RRr := Lib.hid (RR2.out.below HM.out.bel RR2.out.lt)
      have HBr := Lib.hid (HRC.out _ HM.out.bel)
      have O2 := Lib.hid HM.out.o2; have O3 := Lib.hid HM.out.o3; have O4 := Lib.hid HM.out.o4
      have DD : Hid ((∀ k, (Value.slice (some ⟨gp, 0, none⟩) (s - 1) cp).ownBlock = some k → (Value.slice A3 N3 C3).ownBlock ≠ some k) ∧ (∀ k, (Value.slice (some ⟨gp, 0, none⟩) (s - 1) cp).ownBlock = some k → (Value.slice (some ⟨gq, 0, none⟩) ((s - 1) * t) cq).ownBlock ≠ some k) ∧ (∀ k, (Value.slice A3 N3 C3).ownBlock = some k → (Value.slice (some ⟨gq, 0, none⟩) ((s - 1) * t) cq).ownBlock ≠ some k)) := ⟨fun k hk => (HM.out.d2 k hk).2.1, fun k hk => (HM.out.d2 k hk).2.2, fun k hk => (HM.out.d3 k hk).2⟩
      have m0 := HM.out.row.cell 0; have m1 := HM.out.row.cell 1; have m2 := HM.out.row.cell 2; have m3 := HM.out.row.cell 3; have m4 := HM.out.row.cell 4
      have HSA : Hid (jsT Q s i k x y (s - 1) = jsL Q s i k x y) := jsT_all HS5.out HKS.out
      rw [HSA.out] at O3
      clear HM HGR HNE
      have C := Lib.hid (iGiveG ((s : Int) - 1) (t : Int) (jpL P s i k) (jsL Q s i k x y) (jrL R s t i k x y) (some ⟨gp, 0, none⟩) (s - 1) cp A3 N3 C3 (some ⟨gq, 0, none⟩) ((s - 1) * t) cq wo _ _ _ O2.out O3.out O4.out)
      go_wp2_with (go_at_call 35; refine C.out.mono ?_; rintro e wy ⟨ok2, hok2, rfl, hby⟩; have HBY := Lib.hid hby; have RRY := Lib.hid (RRr.out.below hby RRr.out.lt); have HOK2 := Lib.hid hok2; clear hok2 hby m0 m1 m2 m3 m4; have y0 := RRY.out.cell 0; have y1 := RRY.out.cell 1; have y2 := RRY.out.cell 2; have y3 := RRY.out.cell 3; have y4 := RRY.out.cell 4; have f0 := RRY.out.frozen 0; have f1 := RRY.out.frozen 1; have f2 := RRY.out.frozen 2; have f3 := RRY.out.frozen 3; have f4 := RRY.out.frozen 4)
      clear y0 f0 y1 f1 y2 f2 y3 f3 y4 f4
      have hby := HBY.out
      have hF := set5_row RRY.out (.int .i64 (ckI ok2 ((s : Int) - 1))) (.int .i64 (ckI ok2 t)) (.slice (ckA ok2 (some ⟨gp, 0, none⟩)) (ckN ok2 (s - 1)) (ckN ok2 cp)) (.slice (ckA ok2 A3) (ckN ok2 N3) (ckN ok2 C3)) (.slice (ckA ok2 (some ⟨gq, 0, none⟩)) (ckN ok2 ((s - 1) * t)) (ckN ok2 cq))
      have hBF := set5_below (HBr.out.trans (hby.mono HBr.out.size)) (show w.heap.size ≤ w.heap.size + 1 by omega) (.int .i64 (ckI ok2 ((s : Int) - 1))) (.int .i64 (ckI ok2 t)) (.slice (ckA ok2 (some ⟨gp, 0, none⟩)) (ckN ok2 (s - 1)) (ckN ok2 cp)) (.slice (ckA ok2 A3) (ckN ok2 N3) (ckN ok2 C3)) (.slice (ckA ok2 (some ⟨gq, 0, none⟩)) (ckN ok2 ((s - 1) * t)) (ckN ok2 cq))
      have hkp : ∀ g, g < wo.heap.size → g ≠ w.heap.size + 1 → (((((wy.setCell ⟨w.heap.size + 1, 0, none⟩ (.int .i64 (ckI ok2 ((s : Int) - 1)))).setCell ⟨w.heap.size + 1, 1, none⟩ (.int .i64 (ckI ok2 t))).setCell ⟨w.heap.size + 1, 2, none⟩ (.slice (ckA ok2 (some ⟨gp, 0, none⟩)) (ckN ok2 (s - 1)) (ckN ok2 cp))).setCell ⟨w.heap.size + 1, 3, none⟩ (.slice (ckA ok2 A3) (ckN ok2 N3) (ckN ok2 C3))).setCell ⟨w.heap.size + 1, 4, none⟩ (.slice (ckA ok2 (some ⟨gq, 0, none⟩)) (ckN ok2 ((s - 1) * t)) (ckN ok2 cq))).heap[g]? = wo.heap[g]? := fun g h1 h2 => (heap_set5 _ _ _ _ _ h2).trans (hby.block g h1)
      refine bodyPost_ret (results_cell2 rfl _ _ (w.heap.size + 1) 29 #[.int .i64 (ckI ok2 ((s : Int) - 1)), .int .i64 (ckI ok2 t), .slice (ckA ok2 (some ⟨gp, 0, none⟩)) (ckN ok2 (s - 1)) (ckN ok2 cp), .slice (ckA ok2 A3) (ckN ok2 N3) (ckN ok2 C3), .slice (ckA ok2 (some ⟨gq, 0, none⟩)) (ckN ok2 ((s - 1) * t)) (ckN ok2 cq)] (0, 0) _ (.bool ok2) rfl rfl hF Try.underlying29 rfl (by kernel_rfl)) rfl ?_
      obtain ⟨F, hFF⟩ : ∃ F, F = (((((wy.setCell ⟨w.heap.size + 1, 0, none⟩ (.int .i64 (ckI ok2 ((s : Int) - 1)))).setCell ⟨w.heap.size + 1, 1, none⟩ (.int .i64 (ckI ok2 t))).setCell ⟨w.heap.size + 1, 2, none⟩ (.slice (ckA ok2 (some ⟨gp, 0, none⟩)) (ckN ok2 (s - 1)) (ckN ok2 cp))).setCell ⟨w.heap.size + 1, 3, none⟩ (.slice (ckA ok2 A3) (ckN ok2 N3) (ckN ok2 C3))).setCell ⟨w.heap.size + 1, 4, none⟩ (.slice (ckA ok2 (some ⟨gq, 0, none⟩)) (ckN ok2 ((s - 1) * t)) (ckN ok2 cq))) := ⟨_, rfl⟩
      rw [← hFF] at hBF hkp ⊢
      clear hF hFF
      have hf : jsOk (s : Int) (t : Int) P Q R (i : Int) (k : Int) = ok2 := by rw [HOKD.out, HOK2.out]
      have hs2 := HS2.out
      have o2' := own_move O2.out (fun g hg => hkp g (O2.out.lt g hg).2 (by have := (O2.out.lt g hg).1; omega))
      have o3' := own_move O3.out (fun g hg => hkp g (O3.out.lt g hg).2 (by have := (O3.out.lt g hg).1; omega))
      have o4' := own_move O4.out (fun g hg => hkp g (O4.out.lt g hg).2 (by have := (O4.out.lt g hg).1; omega))
      refine ⟨ckV ok2 (.agg #[.int .i64 ((s : Int) - 1), .int .i64 t, .slice (some ⟨gp, 0, none⟩) (s - 1) cp, .slice A3 N3 C3, .slice (some ⟨gq, 0, none⟩) ((s - 1) * t) cq]), by rw [hf, ckV_agg], ?_, hBF⟩
      rw [hf, HJQ.out, HJR.out]
      unfold jsP
      simp only [Int.toNat_natCast]
      have e1 := jpL_len (P := P) (i := i) HS5.out HKS.out
      have e2 := jsL_len (Q := Q) (i := i) (x := x) (y := y) HS5.out HKS.out
      have e3 := jrL_len (R := R) (i := i) (x := x) (y := y) HS5.out (show t ≤ 5 by have := HJN.out.t5; omega) HKS.out
      rw [← HN3.out] at e2
      exact ckO ok2 ⟨_, _, _, rfl, OwnV.of (by rw [e1]; exact World.ownsRow.mono o2' (by omega)), OwnV.of (by rw [e2]; exact World.ownsRow.mono o3' (by omega)), OwnV.of (by rw [e3]; exact World.ownsRow.mono o4' (by omega)), DD.out.1, DD.out.2.1, DD.out.2.2⟩

end Go.Proofs.Ytomofghiafcefaa
