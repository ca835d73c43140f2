/- JoinStates of the reference: a model with two states joined. -/
import Derived.Test.YtomofghiafcefaaJsR
import Derived.Test.YtomofghiafcefaaM3
import Derived.Test.YtomofghiafcefaaTab
import Derived.Deep.RegionHeld3
import Derived.Deep.CutRange
import Derived.Deep.RegionLaw
import Derived.Deep.DrawnRows
import Derived.Deep.QuietTactic
import Derived.BigQuiet

namespace Go.Proofs.Ytomofghiafcefaa
open Go.RowKit
set_option linter.unusedVariables false
attribute [local go_sem ↓] Go.wp_at_zero Go.wp_at_succ
theorem rwf_push {w' : World} {base n c' : Nat} {A' : Option Addr} {xs : List F32} (hown : w'.ownsRow base 25 1 (.slice A' (0 + n) c') (0 + n) ([] ++ fv xs)) (h0 : 0 < n) : ∃ g, A' = some ⟨g, 0, none⟩ ∧ RwF w' base g n c' xs := by
  rw [Nat.zero_add, List.nil_append] at hown
  obtain ⟨g, rfl, -⟩ := own_form' hown h0
  exact ⟨g, rfl, hown⟩
theorem m3_nil (w : World) (a b : Value) : M3 w (w.alloc (.cells ([a, b, .slice none 0 0, .slice none 0 0, .slice none 0 0] : List Value).toArray 29)) w.heap.size w.heap.size 29 25 25 25 1 1 1 a b (.slice none 0 0) (.slice none 0 0) (.slice none 0 0) 0 0 0 [] [] [] :=
  ⟨Row.new w 29 _, (Below.refl _ _).alloc (Nat.le_refl _) _, Nat.le_refl _, Nat.le_refl _, World.ownsRow_nil _ _ _ _, World.ownsRow_nil _ _ _ _, World.ownsRow_nil _ _ _ _, fun k hk => by simp [Value.ownBlock] at hk, fun k hk => by simp [Value.ownBlock] at hk, fun k hk => by simp [Value.ownBlock] at hk⟩
set_option maxRecDepth 100000 in
set_option maxHeartbeats 4000000 in
theorem sJoin_yes (s t : Nat) (P Q R : List F32) (i k : Nat) (b2 f2 n2 c2 b3 f3 n3 c3 b4 f4 n4 c4 : Nat) (w : World) (h2 : SlF w w.heap.size (some ⟨b2, f2, none⟩) n2 P) (h3 : SlF w w.heap.size (some ⟨b3, f3, none⟩) n3 Q) (h4 : SlF w w.heap.size (some ⟨b4, f4, none⟩) n4 R) (k2 : n2 ≤ c2) (k2' : c2 ≤ 9223372036854775807) (k3 : n3 ≤ c3) (k3' : c3 ≤ 9223372036854775807) (k4 : n4 ≤ c4) (k4' : c4 ≤ 9223372036854775807) (X : List F32) (K : Nat) (hr : rsR (s : Int) (t : Int) P Q R nC 200 = some (X, K)) (hik : i < k) (hks : k < s) (hgt : gtB (fop .add (atF X i) (atF X k)) = true) :
    Calls Try.prog 14 #[.agg #[.int .i64 (s : Int), .int .i64 (t : Int), .slice (some ⟨b2, f2, none⟩) n2 c2, .slice (some ⟨b3, f3, none⟩) n3 c3, .slice (some ⟨b4, f4, none⟩) n4 c4], .int .i64 (i : Int), .int .i64 (k : Int)] w (JsPost (s : Int) (t : Int) P Q R (i : Int) (k : Int) w) := by
  have rb := (Row.new w 29 [.int .i64 (s : Int), .int .i64 (t : Int), .slice (some ⟨b2, f2, none⟩) n2 c2, .slice (some ⟨b3, f3, none⟩) n3 c3, .slice (some ⟨b4, f4, none⟩) n4 c4]).alloc (.cells ([.int .i64 0, .int .i64 0, .slice none 0 0, .slice none 0 0, .slice none 0 0] : List Value).toArray 29)
  have rr := Row.new (w.alloc (.cells ([.int .i64 (s : Int), .int .i64 (t : Int), .slice (some ⟨b2, f2, none⟩) n2 c2, .slice (some ⟨b3, f3, none⟩) n3 c3, .slice (some ⟨b4, f4, none⟩) n4 c4] : List Value).toArray 29)) 29 [.int .i64 0, .int .i64 0, .slice none 0 0, .slice none 0 0, .slice none 0 0]
  rw [show (w.alloc (.cells ([.int .i64 (s : Int), .int .i64 (t : Int), .slice (some ⟨b2, f2, none⟩) n2 c2, .slice (some ⟨b3, f3, none⟩) n3 c3, .slice (some ⟨b4, f4, none⟩) n4 c4] : List Value).toArray 29)).heap.size = w.heap.size + 1 by simp] at rr
  have bx : Below w.heap.size w ((w.alloc (.cells ([.int .i64 (s : Int), .int .i64 (t : Int), .slice (some ⟨b2, f2, none⟩) n2 c2, .slice (some ⟨b3, f3, none⟩) n3 c3, .slice (some ⟨b4, f4, none⟩) n4 c4] : List Value).toArray 29)).alloc (.cells ([.int .i64 0, .int .i64 0, .slice none 0 0, .slice none 0 0, .slice none 0 0] : List Value).toArray 29)) := ((Below.refl _ _).alloc (Nat.le_refl _) _).alloc (by simp) _
  have hsz : ((w.alloc (.cells ([.int .i64 (s : Int), .int .i64 (t : Int), .slice (some ⟨b2, f2, none⟩) n2 c2, .slice (some ⟨b3, f3, none⟩) n3 c3, .slice (some ⟨b4, f4, none⟩) n4 c4] : List Value).toArray 29)).alloc (.cells ([.int .i64 0, .int .i64 0, .slice none 0 0, .slice none 0 0, .slice none 0 0] : List Value).toArray 29)).heap.size = w.heap.size + 2 := by simp
  have C := sRest_any (.agg #[.int .i64 (s : Int), .int .i64 (t : Int), .slice (some ⟨b2, f2, none⟩) n2 c2, .slice (some ⟨b3, f3, none⟩) n3 c3, .slice (some ⟨b4, f4, none⟩) n4 c4]) (s : Int) (t : Int) P Q R nC 200 _ ⟨_, _, _, _, _, _, _, _, _, rfl, (h2.below bx (Nat.le_refl _)).more bx.size, (h3.below bx (Nat.le_refl _)).more bx.size, (h4.below bx (Nat.le_refl _)).more bx.size⟩ ⟨_, _, _, _, _, _, _, _, _, _, _, rfl, k2, k2', k3, k3', k4, k4'⟩
  obtain ⟨hjn, hXL, hJX⟩ := jn_ok hr hik hks hgt
  rw [hr] at C
  have C := C.mono (fun e w' h => show ∃ v, e = .returned (.tuple #[v, .int .i64 (K : Int), .bool true]) ∧ RowFl w' _ v X ∧ Below _ _ w' from h)
  have hs5 := hjn.s5
  have wS : IntKind.i64.wrap ((s : Int) - 1) = (s : Int) - 1 := IntWalk.i64_in _ (by omega)
  have q1 : inB (i : Int) 0 ((s : Int) - 1) = true := by simp [inB]; omega
  have q2 : inB (k : Int) ((i : Int) + 1) ((s : Int) - 1) = true := by simp [inB]; omega
  have q2' : inB (k : Int) 0 ((s : Int) - 1) = true := by simp [inB]; omega
  have hJB : jsB (s : Int) (t : Int) P Q R (i : Int) (k : Int) = true := by
    unfold jsB
    rw [hJX, q1, q2, Int.toNat_natCast, Int.toNat_natCast, hgt, hr]; rfl
  obtain ⟨x, hx⟩ : ∃ v, v = atF X i := ⟨_, rfl⟩
  obtain ⟨y, hy⟩ : ∃ v, v = atF X k := ⟨_, rfl⟩
  rw [← hx, ← hy] at hjn hgt
  have HOKD : Hid (jsOk (s : Int) (t : Int) P Q R (i : Int) (k : Int) = vdM ((s : Int) - 1) (t : Int) (jpL P s i k) (jsL Q s i k x y) (jrL R s t i k x y)) := by
    show _ = _
    unfold jsOk jsP jsQ jsR
    rw [hJB, hJX, Bool.true_and, hx, hy]; simp only [Int.toNat_natCast]
  have HJQ : Hid (jsQ (s : Int) (t : Int) P Q R (i : Int) (k : Int) = jsL Q s i k x y) := by show _ = _; unfold jsQ; rw [hJX, hx, hy]; simp only [Int.toNat_natCast]
  have HJR : Hid (jsR (s : Int) (t : Int) P Q R (i : Int) (k : Int) = jrL R s t i k x y) := by show _ = _; unfold jsR; rw [hJX, hx, hy]; simp only [Int.toNat_natCast]
  obtain ⟨sm, hsmE⟩ : ∃ v, v = fop .add x y := ⟨_, rfl⟩
  have HSM := Lib.hid hsmE
  have hadd := hjn.sm
  rw [← hsmE] at hadd hgt
  have o1 := fl_run (P := Try.prog) hadd
  have hg0 : ((FloatKind.format .f32).order sm.b 0 == some .gt) = true := hgt
  have HXL := Lib.hid hXL; have HX := Lib.hid hx; have HY := Lib.hid hy; have HJN := Lib.hid hjn
  have L2 := Lib.hid h2.len; have L3 := Lib.hid h3.len; have L4 := Lib.hid h4.len
  have H2 := Lib.hid h2; have H3 := Lib.hid h3; have H4 := Lib.hid h4
  have W1 : Hid (∀ w, Calls Try.prog 20 #[.int .i64 (i : Int), .int .i64 0, .int .i64 ((s : Int) - 1)] w fun e w' => e = .returned (.bool true) ∧ w = w') := by
    show ∀ w, _
    intro w
    have h0 := sIn_any (i : Int) 0 ((s : Int) - 1) w
    rw [q1] at h0
    exact h0
  have W2 : Hid (∀ w, Calls Try.prog 20 #[.int .i64 (k : Int), .int .i64 0, .int .i64 ((s : Int) - 1)] w fun e w' => e = .returned (.bool true) ∧ w = w') := by
    show ∀ w, _
    intro w
    have h0 := sIn_any (k : Int) 0 ((s : Int) - 1) w
    rw [q2'] at h0
    exact h0
  have m0 : (0 : Int) ≤ (k : Int) := by omega
  have m3 : (0 : Int) ≤ (i : Int) := by omega
  have m1 : (i : Int) < (X.length : Int) := by omega
  have m2 : (k : Int) < (X.length : Int) := by omega
  have hge : ¬ (k : Int) ≤ (i : Int) := by omega
  have hge' : decide ((k : Int) ≤ (i : Int)) = false := decide_eq_false hge
  have HIK := Lib.hid hik; have HKS := Lib.hid hks; have HS5 := Lib.hid hs5
  have KC := Lib.hid (And.intro k2 (And.intro k2' (And.intro k3 (And.intro k3' (And.intro k4 k4')))))
  clear hr q1 q2 q2' hadd hgt hsmE hJX hJB hx hy hs5 hjn hik hks hXL
  have RB := Lib.hid rb; have RR := Lib.hid rr; have BX := Lib.hid bx; have HSZ := Lib.hid hsz
  have r0 := rb.cell 0; have r1 := rb.cell 1; have r2 := rb.cell 2; have r3 := rb.cell 3; have r4 := rb.cell 4
  have C := Lib.hid C
  clear rb rr bx hsz h2 h3 h4 k2 k2' k3 k3' k4 k4'
  go_enter Try.func14, Try.ntmps14
  go_wp2_with (first | (go_at_call 20; with_reducible refine (W1.out _).mono ?_; rintro e w' ⟨rfl, hw⟩; subst hw) | (go_at_call 20; with_reducible refine (W2.out _).mono ?_; rintro e w' ⟨rfl, hw⟩; subst hw) | (go_at_call 6; refine C.out.mono ?_; rintro e w1 ⟨vr, rfl, hfl, hb1⟩; have RB1 := Lib.hid (RB.out.below hb1 RB.out.lt); have RR1 := Lib.hid (RR.out.below hb1 RR.out.lt); have BX1 := Lib.hid (BX.out.trans (hb1.mono BX.out.size)); clear r0 r1 r2 r3 r4; have z0 := RB1.out.cell 0; have z1 := RB1.out.cell 1; obtain ⟨gx, cx, rfl, hgx1, hgx2, hcx⟩ := RowFl.at hfl (by rw [HXL.out]; have := HJN.out.s1; omega); rw [HXL.out] at hcx; have HGX := Lib.hid (And.intro hgx1 hgx2); have HCX := Lib.hid hcx; have x1 := HCX.out i (Nat.lt_trans HIK.out HKS.out); have x2 := HCX.out k HKS.out; rw [← HX.out] at x1; rw [← HY.out] at x2; clear hcx hgx1 hgx2; clear C hb1 hfl))
  go_cut [13] from 57 to 65 (fun v wx => v = .float .f32 sm.b ∧ Hid (∃ q, wx = w1.drewN q))
  case first =>
    go_quiet (fail)
    go_wp2_with fail
    go_meet
    exact ⟨rfl, _, rfl⟩
  case rest =>
  obtain ⟨rfl, hq2⟩ := hcut
  obtain ⟨w2, rfl⟩ : ∃ x : World, x = wc := ⟨_, rfl⟩
  have hb2 : Below w1.heap.size w1 w2 := drew_below' hq2.out
  have HRC : Hid (∀ z, Below w2.heap.size w2 z → Below w.heap.size w z) := fun z hz => (BX1.out.trans (hb2.mono BX1.out.size)).trans (hz.mono (Nat.le_trans BX1.out.size hb2.size))
  have HS2 : Hid (w.heap.size + 2 ≤ w2.heap.size) := by
    show _ ≤ _
    have h1 := RR1.out.lt
    have h2 := hb2.size
    omega
  have RB2 := Lib.hid (RB1.out.below hb2 RB1.out.lt); have RR2 := Lib.hid (RR1.out.below hb2 RR1.out.lt)
  have HX2 : Hid (∀ z, Below w2.heap.size w2 z → (z.cell? ⟨gx, i, none⟩ = some (.float .f32 x.b) ∧ z.cell? ⟨gx, k, none⟩ = some (.float .f32 y.b))) := fun z hz => by
    have hg2 : gx < w2.heap.size := Nat.lt_of_lt_of_le HGX.out.2 hb2.size
    have q1 := ((hz.cell (p := ⟨gx, i, none⟩) hg2).trans (hb2.cell (p := ⟨gx, i, none⟩) HGX.out.2)).trans (HCX.out i (Nat.lt_trans HIK.out HKS.out))
    have q2 := ((hz.cell (p := ⟨gx, k, none⟩) hg2).trans (hb2.cell (p := ⟨gx, k, none⟩) HGX.out.2)).trans (HCX.out k HKS.out)
    rw [← HX.out] at q1; rw [← HY.out] at q2
    exact ⟨q1, q2⟩
  clear x1 x2 z0 z1 W1 W2 hq2 hb2 RB1 RR1 HCX HGX o1 hge hge'
  obtain ⟨pi, hpi⟩ : ∃ p, p = i * s := ⟨_, rfl⟩
  obtain ⟨pk, hpk⟩ : ∃ p, p = k * s := ⟨_, rfl⟩
  obtain ⟨ri, hri⟩ : ∃ p, p = i * t := ⟨_, rfl⟩
  obtain ⟨rk, hrk⟩ : ∃ p, p = k * t := ⟨_, rfl⟩
  have hn3 : n3 = s * s := by rw [← L3.out, HJN.out.ql]
  have hn4 : n4 = s * t := by rw [← L4.out, HJN.out.rl]
  have hs5 := HS5.out; have ht5 := HJN.out.t5; have hs1 := HJN.out.s1; have ht1 := HJN.out.t1
  have i1 : pi + s ≤ pk := by
    have h1 : (i + 1) * s ≤ k * s := Nat.mul_le_mul_right _ HIK.out
    rw [Nat.add_mul, Nat.one_mul] at h1; omega
  have i2 : pk + s ≤ n3 := by
    have h1 : (k + 1) * s ≤ s * s := Nat.mul_le_mul_right _ HKS.out
    rw [Nat.add_mul, Nat.one_mul] at h1; omega
  have i3 : ri + t ≤ rk := by
    have h1 : (i + 1) * t ≤ k * t := Nat.mul_le_mul_right _ HIK.out
    rw [Nat.add_mul, Nat.one_mul] at h1; omega
  have i4 : rk + t ≤ n4 := by
    have h1 : (k + 1) * t ≤ s * t := Nat.mul_le_mul_right _ HKS.out
    rw [Nat.add_mul, Nat.one_mul] at h1; omega
  have i5 : n3 ≤ 25 := by rw [hn3]; exact Nat.mul_le_mul hs5 hs5
  have i6 : n4 ≤ 25 := by rw [hn4]; exact Nat.mul_le_mul hs5 (show t ≤ 5 by omega)
  have v1 : IntKind.i64.wrap ((i : Int) * (s : Int)) = (pi : Int) := mulw hpi (by have := HIK.out; have := HKS.out; omega) hs5
  have v2' : IntKind.i64.wrap ((k : Int) * (s : Int)) = (pk : Int) := mulw hpk (by have := HKS.out; omega) hs5
  have v3 : IntKind.i64.wrap ((i : Int) * (t : Int)) = (ri : Int) := mulw hri (by have := HIK.out; have := HKS.out; omega) (by omega)
  have v4 : IntKind.i64.wrap ((k : Int) * (t : Int)) = (rk : Int) := mulw hrk (by have := HKS.out; omega) (by omega)
  have Hpi := Lib.hid hpi; have Hpk := Lib.hid hpk; have Hri := Lib.hid hri; have Hrk := Lib.hid hrk; have HN3 := Lib.hid hn3; have HN4 := Lib.hid hn4
  have HQc : Hid (SlF w w.heap.size (some ⟨b3, f3, none⟩) n3 Q) := H3.out
  have HRc : Hid (SlF w w.heap.size (some ⟨b4, f4, none⟩) n4 R) := H4.out
  have HI : Hid ((pi + s ≤ pk ∧ pk + s ≤ n3) ∧ (ri + t ≤ rk ∧ rk + t ≤ n4) ∧ n3 ≤ 25 ∧ n4 ≤ 25) := ⟨⟨i1, i2⟩, ⟨i3, i4⟩, i5, i6⟩
  have HST1 : Hid (1 ≤ s ∧ 1 ≤ t ∧ t ≤ 4) := ⟨hs1, ht1, ht5⟩
  have i7 : 0 < n3 := by omega
  have i8 : 0 < n4 := by omega
  clear hpi hpk hri hrk hn3 hn4
  have HOF : Hid (∀ z, Below w2.heap.size w2 z → (z.alloc (.cells #[] 25)).ownsRow w2.heap.size 25 1 (.slice (some ⟨z.heap.size, 0, none⟩) 0 0) 0 []) := fun z hz => World.ownsRow_made z #[] 0 hz.size (by unfold maxLen; omega) rfl
  have HLN1 : Hid ((fv Q).length = n3 * 1) := by show _ = _; rw [fv_length, L3.out]; omega
  have HLN2 : Hid ((fv R).length = n4 * 1) := by show _ = _; rw [fv_length, L4.out]; omega
  have HCF3 : Hid (∀ z, Below w2.heap.size w2 z → ∀ j u, (fv Q)[j]? = some u → z.cell? ⟨b3, f3 + j, none⟩ = some u) := fun z hz j u hu => by
    obtain ⟨v, hv, rfl⟩ := fv_get hu
    have hj := (List.getElem?_eq_some_iff.1 hv).1
    rw [← atF_some hv]
    exact slF_cell (H3.out.below (HRC.out _ hz) (Nat.le_refl _)) (by rw [← L3.out]; exact hj)
  have HCF4 : Hid (∀ z, Below w2.heap.size w2 z → ∀ j u, (fv R)[j]? = some u → z.cell? ⟨b4, f4 + j, none⟩ = some u) := fun z hz j u hu => by
    obtain ⟨v, hv, rfl⟩ := fv_get hu
    have hj := (List.getElem?_eq_some_iff.1 hv).1
    rw [← atF_some hv]
    exact slF_cell (H4.out.below (HRC.out _ hz) (Nat.le_refl _)) (by rw [← L4.out]; exact hj)
  have HBA : Hid (∀ z, Below w2.heap.size w2 z → Below w2.heap.size w2 (z.alloc (.cells #[] 25))) := fun z hz => hz.alloc hz.size _
  have e0 := (RB2.out.below (HBA.out w2 (Below.refl _ _)) RB2.out.lt).cell 3
  go_wp2_with (first | (at_builtin; refine wpList_cells_push rfl (.tmp 70) (.tmp 72) _ rfl w2.heap.size 25 (.float .f32 0) 1 4 Try.underlying22 infoF32 rfl (by omega) (by omega) (.slice (some ⟨w2.heap.size, 0, none⟩) 0 0) 0 [] rfl (HOF.out _ (Below.refl _ _)) b3 f3 n3 c3 (fv Q) rfl HLN1.out (HCF3.out _ (HBA.out _ (Below.refl _ _))) (fv_oneF _) (by omega) (HBA.out _ (Below.refl _ _)).size ?_; intro v' w3 hown hgr hat; obtain ⟨A', cS, hv', q1, q2⟩ := own_form hown; subst hv'; have hown2 := rwf_push hown i7; obtain ⟨gS, hA', hown3⟩ := hown2; subst hA'; have HB3 : Hid (Below w2.heap.size w2 w3) := ((HBA.out _ (Below.refl _ _)).grown hgr (HBA.out _ (Below.refl _ _)).size (fun g hg => by simp [Value.ownBlock] at hg; omega)); have HS3 := Lib.hid hown3; clear hown hown3 hgr hat; have e1 := (RB2.out.below (HBA.out _ HB3.out) RB2.out.lt).cell 4) | (at_builtin; refine wpList_cells_push rfl (.tmp 74) (.tmp 76) _ rfl w2.heap.size 25 (.float .f32 0) 1 4 Try.underlying22 infoF32 rfl (by omega) (by omega) (.slice (some ⟨w3.heap.size, 0, none⟩) 0 0) 0 [] rfl (HOF.out _ HB3.out) b4 f4 n4 c4 (fv R) rfl HLN2.out (HCF4.out _ (HBA.out _ HB3.out)) (fv_oneF _) (by omega) (HBA.out _ HB3.out).size ?_; intro v' w4 hown hgr hat; obtain ⟨A', cH, hv', q1, q2⟩ := own_form hown; subst hv'; have hown2 := rwf_push hown i8; obtain ⟨gH, hA', hown3⟩ := hown2; subst hA'; have HGRW := Lib.hid hgr; have HAT := Lib.hid hat; have HOWN := Lib.hid hown3; clear hgr hown hat hown3))
  clear e0 e1
  have hgSl := HS3.out.lt
  have HB4 : Hid (Below w2.heap.size w2 w4) := (HBA.out w3 HB3.out).grown HGRW.out (HBA.out w3 HB3.out).size (fun g hg => by simp [Value.ownBlock] at hg; have := HB3.out.size; omega)
  have HS4 : Hid (RwF w4 w2.heap.size gS n3 cS Q) := own_move (HS3.out.alloc _) (fun g hg => by
    simp [Value.ownBlock] at hg; subst hg
    exact HGRW.out.block gS (by simp; omega) (by simp [Value.ownBlock]; omega))
  have HH4 := Lib.hid HOWN.out
  have NE : Hid (gS ≠ gH) := by
    show _ ≠ _
    rcases HAT.out with h | h
    · simp [Value.ownBlock] at h; omega
    · simp [Value.ownBlock] at h; omega
  clear HOWN HGRW HAT HOF HLN1 HLN2 HCF3 HCF4 HBA hgSl HS3 HB3
  go_wp2_with fail
  go_loopg [16] s (fun m j wr => ∃ q : Nat, j = .int .i64 (q : Int) ∧ q ≤ s ∧ s ≤ m + q ∧ Hid (RwF wr w2.heap.size gS n3 cS (jrS Q s i k x y q)) ∧ Hid (Below w2.heap.size w2 wr) ∧ Hid (RwF wr w2.heap.size gH n4 cH R))
  case atStart => exact ⟨0, by go_num, by omega, by omega, HS4.out, HB4.out, HH4.out⟩
  case round =>
    obtain ⟨q, rfl, hq, hmq, HR, HB, HO⟩ := hrel
    obtain ⟨wo, rfl⟩ : ∃ x : World, x = wr := ⟨_, rfl⟩
    by_cases hlt : q < s
    · have ho := HJN.out.qo q hlt
      obtain ⟨a1, ha1⟩ : ∃ v, v = atF Q (i * s + q) := ⟨_, rfl⟩
      obtain ⟨a2, ha2⟩ : ∃ v, v = atF Q (k * s + q) := ⟨_, rfl⟩
      obtain ⟨m1, hm1⟩ : ∃ v, v = fop .mul x (atF Q (i * s + q)) := ⟨_, rfl⟩
      obtain ⟨m2, hm2⟩ : ∃ v, v = fop .mul y (atF Q (k * s + q)) := ⟨_, rfl⟩
      obtain ⟨ad, had⟩ : ∃ v, v = fop .add (fop .mul x (atF Q (i * s + q))) (fop .mul y (atF Q (k * s + q))) := ⟨_, rfl⟩
      obtain ⟨qu, hqu⟩ : ∃ v, v = jrF Q s i k x y q := ⟨_, rfl⟩
      have e1 := ho.m1; have e2 := ho.m2; have e3 := ho.ad; have e4 := ho.qu
      rw [← hm1, ← ha1] at e1
      rw [← hm2, ← ha2] at e2
      rw [← hm1, ← hm2, ← show ad = fop .add m1 m2 by rw [had, hm1, hm2]] at e3
      rw [← had, ← hqu, ← HSM.out] at e4
      have p1 := fl_run (P := Try.prog) e1; have p2 := fl_run (P := Try.prog) e2; have p3 := fl_run (P := Try.prog) e3; have p4 := fl_run (P := Try.prog) e4
      have HQU := Lib.hid hqu
      have hs5 := HS5.out; have ht5 := HJN.out.t5
      have w6 : IntKind.i64.wrap ((pi : Int) + (q : Int)) = (pi : Int) + (q : Int) := IntWalk.i64_in _ (by omega)
      have w7 : IntKind.i64.wrap ((pk : Int) + (q : Int)) = (pk : Int) + (q : Int) := IntWalk.i64_in _ (by omega)
      have w8 : IntKind.i64.wrap ((q : Int) + 1) = ((q + 1 : Nat) : Int) := by rw [IntWalk.i64_in _ (by omega)]; omega
      have l0 : (0 : Int) ≤ (pi : Int) + (q : Int) := by omega
      have l1 : (pi : Int) + (q : Int) < (n3 : Int) := by omega
      have l2 : (0 : Int) ≤ (pk : Int) + (q : Int) := by omega
      have l3 : (pk : Int) + (q : Int) < (n3 : Int) := by omega
      have l4 : ((pi : Int) + (q : Int)).toNat = pi + q := by omega
      have l5 : ((pk : Int) + (q : Int)).toNat = pk + q := by omega
      have HLT : Hid (pi + q < n3) := by show _ < _; omega
      have HC1 : Hid (∀ v2, Below w2.heap.size w2 v2 → v2.cell? ⟨b3, f3 + (pi + q), none⟩ = some (.float .f32 a1.b)) := fun v2 hv => by
        rw [ha1, ← Hpi.out]; exact slF_cell (HQc.out.below (HRC.out v2 hv) (Nat.le_refl _)) HLT.out
      have HC2 : Hid (∀ v2, Below w2.heap.size w2 v2 → v2.cell? ⟨b3, f3 + (pk + q), none⟩ = some (.float .f32 a2.b)) := fun v2 hv => by
        rw [ha2, ← Hpk.out]; exact slF_cell (HQc.out.below (HRC.out v2 hv) (Nat.le_refl _)) (by omega)
      clear ho ha1 ha2 hm1 hm2 had hqu e1 e2 e3 e4 hs5 ht5
      go_wp2_with fail
      refine wp_tail 38 (by kernel_rfl) (by kernel_rfl) (fun v2 hv2 => ?_)
      have HR2 : Hid (RwF v2 w2.heap.size gS n3 cS (jrS Q s i k x y q)) := by rw [hv2]; exact HR.out.drewN 1
      have HB2 : Hid (Below w2.heap.size w2 v2) := by rw [hv2]; exact below_draws HB.out 1
      have HO2 : Hid (RwF v2 w2.heap.size gH n4 cH R) := by rw [hv2]; exact HO.out.drewN 1
      clear hv2
      have c1 := HC1.out v2 HB2.out
      have c2' := HC2.out v2 HB2.out
      have c3' := (HR2.out.at HLT.out).1
      have c4' := (HR2.out.at HLT.out).2
      have rbx := RB2.out.below HB2.out RB2.out.lt
      have d0 := rbx.cell 3
      have d1 := (HX2.out v2 HB2.out).1
      have d2 := (HX2.out v2 HB2.out).2
      clear rbx
      simp only [List.take_succ_cons, List.take_zero, List.drop_succ_cons, List.drop_zero]
      repeat still_step
      refine wpStill_nil ?_
      go_wp2_with fail
      go_roundg (gk - 1)
      case measure => omega
      case rel =>
        have hbg := HR2.out.lt.1
        have h1 := HR2.out.set (i := pi + q) (by rw [jrS_len, L3.out]; exact HLT.out) qu
        refine ⟨q + 1, by go_num, by omega, by omega, ?_, HB2.out.setCell (p := ⟨gS, pi + q, none⟩) hbg _, own_move HO2.out (fun g hg => Below.heap_setCell _ _ _ _ (by simp [Value.ownBlock] at hg; subst hg; exact fun e => NE.out e.symm))⟩
        show RwF _ _ _ _ _ _
        rw [jrS, ← Hpi.out, ← HQU.out]
        exact h1
    · obtain rfl : s = q := by omega
      clear HS4 HB4 HH4
      go_wp2_with fail
      go_loopg [17] t (fun m j wr => ∃ q : Nat, j = .int .i64 (q : Int) ∧ q ≤ t ∧ t ≤ m + q ∧ Hid (RwF wr w2.heap.size gH n4 cH (jrS R t i k x y q)) ∧ Hid (Below w2.heap.size w2 wr) ∧ Hid (RwF wr w2.heap.size gS n3 cS (jrS Q s i k x y s)))
      case atStart => exact ⟨0, by go_num, by omega, by omega, HO.out, HB.out, HR.out⟩
      case round =>
        clear HR HB HO
        obtain ⟨q, rfl, hq, hmq, HR, HB, HO⟩ := hrel
        obtain ⟨wo, rfl⟩ : ∃ x : World, x = wr := ⟨_, rfl⟩
        by_cases hlt : q < t
        · have ho := HJN.out.ro q hlt
          obtain ⟨a1, ha1⟩ : ∃ v, v = atF R (i * t + q) := ⟨_, rfl⟩
          obtain ⟨a2, ha2⟩ : ∃ v, v = atF R (k * t + q) := ⟨_, rfl⟩
          obtain ⟨m1, hm1⟩ : ∃ v, v = fop .mul x (atF R (i * t + q)) := ⟨_, rfl⟩
          obtain ⟨m2, hm2⟩ : ∃ v, v = fop .mul y (atF R (k * t + q)) := ⟨_, rfl⟩
          obtain ⟨ad, had⟩ : ∃ v, v = fop .add (fop .mul x (atF R (i * t + q))) (fop .mul y (atF R (k * t + q))) := ⟨_, rfl⟩
          obtain ⟨qu, hqu⟩ : ∃ v, v = jrF R t i k x y q := ⟨_, rfl⟩
          have e1 := ho.m1; have e2 := ho.m2; have e3 := ho.ad; have e4 := ho.qu
          rw [← hm1, ← ha1] at e1
          rw [← hm2, ← ha2] at e2
          rw [← hm1, ← hm2, ← show ad = fop .add m1 m2 by rw [had, hm1, hm2]] at e3
          rw [← had, ← hqu, ← HSM.out] at e4
          have p1 := fl_run (P := Try.prog) e1; have p2 := fl_run (P := Try.prog) e2; have p3 := fl_run (P := Try.prog) e3; have p4 := fl_run (P := Try.prog) e4
          have HQU := Lib.hid hqu
          have hs5 := HS5.out; have ht5 := HJN.out.t5
          have w6 : IntKind.i64.wrap ((ri : Int) + (q : Int)) = (ri : Int) + (q : Int) := IntWalk.i64_in _ (by omega)
          have w7 : IntKind.i64.wrap ((rk : Int) + (q : Int)) = (rk : Int) + (q : Int) := IntWalk.i64_in _ (by omega)
          have w8 : IntKind.i64.wrap ((q : Int) + 1) = ((q + 1 : Nat) : Int) := by rw [IntWalk.i64_in _ (by omega)]; omega
          have l0 : (0 : Int) ≤ (ri : Int) + (q : Int) := by omega
          have l1 : (ri : Int) + (q : Int) < (n4 : Int) := by omega
          have l2 : (0 : Int) ≤ (rk : Int) + (q : Int) := by omega
          have l3 : (rk : Int) + (q : Int) < (n4 : Int) := by omega
          have l4 : ((ri : Int) + (q : Int)).toNat = ri + q := by omega
          have l5 : ((rk : Int) + (q : Int)).toNat = rk + q := by omega
          have HLT : Hid (ri + q < n4) := by show _ < _; omega
          have HC1 : Hid (∀ v2, Below w2.heap.size w2 v2 → v2.cell? ⟨b4, f4 + (ri + q), none⟩ = some (.float .f32 a1.b)) := fun v2 hv => by
            rw [ha1, ← Hri.out]; exact slF_cell (HRc.out.below (HRC.out v2 hv) (Nat.le_refl _)) HLT.out
          have HC2 : Hid (∀ v2, Below w2.heap.size w2 v2 → v2.cell? ⟨b4, f4 + (rk + q), none⟩ = some (.float .f32 a2.b)) := fun v2 hv => by
            rw [ha2, ← Hrk.out]; exact slF_cell (HRc.out.below (HRC.out v2 hv) (Nat.le_refl _)) (by omega)
          clear ho ha1 ha2 hm1 hm2 had hqu e1 e2 e3 e4 hs5 ht5
          go_wp2_with fail
          refine wp_tail 38 (by kernel_rfl) (by kernel_rfl) (fun v2 hv2 => ?_)
          have HR2 : Hid (RwF v2 w2.heap.size gH n4 cH (jrS R t i k x y q)) := by rw [hv2]; exact HR.out.drewN 1
          have HB2 : Hid (Below w2.heap.size w2 v2) := by rw [hv2]; exact below_draws HB.out 1
          have HO2 : Hid (RwF v2 w2.heap.size gS n3 cS (jrS Q s i k x y s)) := by rw [hv2]; exact HO.out.drewN 1
          clear hv2
          have c1 := HC1.out v2 HB2.out
          have c2' := HC2.out v2 HB2.out
          have c3' := (HR2.out.at HLT.out).1
          have c4' := (HR2.out.at HLT.out).2
          have rbx := RB2.out.below HB2.out RB2.out.lt
          have d0 := rbx.cell 4
          have d1 := (HX2.out v2 HB2.out).1
          have d2 := (HX2.out v2 HB2.out).2
          clear rbx
          simp only [List.take_succ_cons, List.take_zero, List.drop_succ_cons, List.drop_zero]
          repeat still_step
          refine wpStill_nil ?_
          go_wp2_with fail
          go_roundg (gk - 1)
          case measure => omega
          case rel =>
            have hbg := HR2.out.lt.1
            have h1 := HR2.out.set (i := ri + q) (by rw [jrS_len, L4.out]; exact HLT.out) qu
            refine ⟨q + 1, by go_num, by omega, by omega, ?_, HB2.out.setCell (p := ⟨gH, ri + q, none⟩) hbg _, own_move HO2.out (fun g hg => Below.heap_setCell _ _ _ _ (by simp [Value.ownBlock] at hg; subst hg; exact NE.out))⟩
            show RwF _ _ _ _ _ _
            rw [jrS, ← Hri.out, ← HQU.out]
            exact h1
        · obtain rfl : t = q := by omega
          have h5 : Below w2.heap.size w2 wo := HB.out
          obtain ⟨w5, rfl⟩ : ∃ z : World, z = wo := ⟨_, rfl⟩
          have HT : Hid (∀ z, Below w5.heap.size w5 z → Below w2.heap.size w2 z) := fun z hz => h5.trans (hz.mono h5.size)
          have HSS : Hid (RwF w5 w2.heap.size gS n3 cS (jrS Q s i k x y s)) := HO.out
          have HSH : Hid (RwF w5 w2.heap.size gH n4 cH (jrS R t i k x y t)) := HR.out
          have HM0 : Hid (M3 w5 (w5.alloc (.cells ([.int .i64 ((s : Int) - 1), .int .i64 (t : Int), .slice none 0 0, .slice none 0 0, .slice none 0 0] : List Value).toArray 29)) w5.heap.size w5.heap.size 29 25 25 25 1 1 1 (.int .i64 ((s : Int) - 1)) (.int .i64 (t : Int)) (.slice none 0 0) (.slice none 0 0) (.slice none 0 0) 0 0 0 (fv (pP P i k 0)) (fv (pQ Q s i k x y 0)) (fv (pR R t i k x y 0))) := m3_nil w5 _ _
          have hcapH := HSH.out.cap
          unfold maxLen at hcapH
          have HCH := Lib.hid hcapH
          have HB5 := Lib.hid h5
          clear hcapH h5 HB HO HR
          go_wp2_with fail
          go_loopg [19, 20, 21, 22] s (fun m ct st qq xx wr => ∃ (p : Nat) (A2 : Option Addr) (N2 C2 : Nat) (A3 : Option Addr) (N3 C3 : Nat) (A4 : Option Addr) (N4 C4 : Nat), ct = .int .i64 (p : Int) ∧ p ≤ s ∧ s ≤ m + p ∧ Hid (N2 = (pP P i k p).length) ∧ Hid (N3 = (pQ Q s i k x y p).length) ∧ Hid (N4 = (pR R t i k x y p).length) ∧ Hid (M3 w5 wr w5.heap.size w5.heap.size 29 25 25 25 1 1 1 (.int .i64 ((s : Int) - 1)) (.int .i64 (t : Int)) (.slice A2 N2 C2) (.slice A3 N3 C3) (.slice A4 N4 C4) N2 N3 N4 (fv (pP P i k p)) (fv (pQ Q s i k x y p)) (fv (pR R t i k x y p))))
          case atStart => exact ⟨0, none, 0, 0, none, 0, 0, none, 0, 0, by go_num, by omega, by omega, rfl, rfl, rfl, HM0.out⟩
          case round =>
            obtain ⟨wo, rfl⟩ : ∃ z : World, z = wr := ⟨_, rfl⟩
            obtain ⟨p, A2, N2, C2, A3, N3, C3, A4, N4, C4, rfl, hps, hmp, E2, E3, E4, HM⟩ := hrel
            obtain ⟨go, hgo⟩ : ∃ g : Nat, g = gk := ⟨_, rfl⟩
            have w8 : IntKind.i64.wrap ((p : Int) + 1) = ((p + 1 : Nat) : Int) := by rw [IntWalk.i64_in _ (by have := HS5.out; omega)]; omega
            by_cases hlt : p < s
            · by_cases hpk' : p = k
              · have bb1 : ((p : Int) == (k : Int)) = true := by rw [hpk']; simp
                have b2' : (p : Int) = (k : Int) := by omega
                go_wp2_with fail
                go_roundg (go - 1)
                case measure => omega
                case rel => exact ⟨p + 1, A2, N2, C2, A3, N3, C3, A4, N4, C4, by go_num, by omega, by omega, by show _ = _; rw [pP_same hpk']; exact E2.out, by show _ = _; rw [pQ_same hpk']; exact E3.out, by show _ = _; rw [pR_same hpk']; exact E4.out, by show M3 _ _ _ _ _ _ _ _ _ _ _ _ _ _ _ _ _ _ _ _ _ _; rw [pP_same hpk', pQ_same hpk', pR_same hpk']; exact HM.out⟩
              · have bb1 : ((p : Int) == (k : Int)) = false := beq_false_of_ne (by omega)
                have b2' : ¬ (p : Int) = (k : Int) := by omega
                have HNPK := Lib.hid hpk'; have HPS := Lib.hid hlt
                have hbo := HT.out wo HM.out.bel
                have rbx := RB2.out.below hbo RB2.out.lt
                have d2 := rbx.cell 2
                have g1 : wo.cell? ⟨b2, f2 + p, none⟩ = some (.float .f32 (atF P p).b) := slF_cell (H2.out.below (HRC.out wo hbo) (Nat.le_refl _)) (by rw [← L2.out, HJN.out.pl]; exact hlt)
                have g2 : wo.cell? ⟨b2, f2 + k, none⟩ = some (.float .f32 (atF P k).b) := slF_cell (H2.out.below (HRC.out wo hbo) (Nat.le_refl _)) (by rw [← L2.out, HJN.out.pl]; exact HKS.out)
                have u0 : (0 : Int) ≤ (p : Int) := by omega
                have hn2 : n2 = s := by rw [← L2.out, HJN.out.pl]
                have u1 : (p : Int) < (n2 : Int) := by omega
                have u2 : (k : Int) < (n2 : Int) := by have := HKS.out; omega
                obtain ⟨st, hst⟩ : ∃ v, v = jpF P i k p := ⟨_, rfl⟩
                have HSTE := Lib.hid hst
                clear rbx hbo
                go_upto_if 183 with fail
                go_cut [20] from 184 to 190 (fun v wx => v = .float .f32 st.b ∧ wx = wo)
                case first =>
                  by_cases hpi' : p = i
                  · have bb3 : ((p : Int) == (i : Int)) = true := by rw [hpi']; simp
                    have e0 : floatBits .add .f32 (atF P p).b (atF P k).b = some st.b := by
                      have h1 := HJN.out.pa
                      rw [hst, hpi']; unfold jpF; rw [if_pos rfl]; exact h1
                    have e1 := fl_run (P := Try.prog) e0
                    have HPI := Lib.hid hpi'
                    clear hst e0 hpi'
                    go_wp2_with fail
                    go_meet
                    exact ⟨rfl, rfl⟩
                  · have bb3 : ((p : Int) == (i : Int)) = false := beq_false_of_ne (by omega)
                    have hst2 : st = atF P p := by rw [hst]; unfold jpF; rw [if_neg hpi']
                    clear hst
                    go_wp2_with fail
                    go_meet
                    exact ⟨by rw [hst2], rfl⟩
                case rest =>
                obtain ⟨rfl, hwc⟩ := hcut
                obtain rfl := hwc.symm
                clear g1 g2 d2 hst u0 u1 u2 hn2
                have HZ := Lib.hid (HM.out.alloc (.cells #[.float .f32 st.b] 25))
                have HCN : Hid (∀ j u, ([.float .f32 st.b] : List Value)[j]? = some u → (wo.alloc (.cells #[.float .f32 st.b] 25)).cell? ⟨wo.heap.size, 0 + j, none⟩ = some u) := fun j u hu => by
                  have := (Row.new wo 25 [.float .f32 st.b]).cell (0 + j)
                  rw [this, Nat.zero_add]; exact hu
                have HONE : Hid (∀ u ∈ ([.float .f32 st.b] : List Value), u.oneCell' = true) := fun u hu => by
                  rw [List.mem_singleton.1 hu]; rfl
                have n2l : N2 ≤ 5 := by have h1 := pP_len (P := P) (i := i) (k := k) (p := p); have := HS5.out; rw [← E2.out] at h1; omega
                have h2c := HM.out.row.cell 2
                go_wp2_with (at_builtin; refine wpList_cells_push rfl (.tmp 192) (.tmp 194) _ rfl w5.heap.size 25 (.float .f32 0) 1 4 Try.underlying22 infoF32 rfl (by omega) (by omega) (.slice A2 N2 C2) N2 (fv (pP P i k p)) rfl HZ.out.o2 wo.heap.size 0 1 1 [.float .f32 st.b] rfl rfl HCN.out HONE.out (by omega) HZ.out.size ?_; intro v' wy hown hgr hat; obtain ⟨A', C', hv', q1, q2⟩ := own_form hown; subst hv'; have HY := Lib.hid (M3.push2 HZ.out hown hgr hat); have hrow := HZ.out.row.grown hgr (fun e => (HZ.out.d2 _ e.symm).1 rfl); have y2 := hrow.cell 2; have f2' := hrow.frozen 2; clear hrow hown hgr hat)
                clear y2 f2' h2c HZ HCN HONE
                obtain ⟨w6, hw6⟩ : ∃ z, z = wy.setCell ⟨w5.heap.size, 2, none⟩ (.slice A' (N2 + 1) C') := ⟨_, rfl⟩
                rw [← hw6] at HY ⊢
                clear hw6
                obtain ⟨M2, hM2⟩ : ∃ m, m = N2 + 1 := ⟨_, rfl⟩
                rw [← hM2] at HY
                have E2' : Hid (M2 = (pP P i k (p + 1)).length) := by show _ = _; rw [hM2, pP_more HNPK.out, List.length_append, E2.out]; rfl
                have HM6 : Hid (M3 w5 w6 w5.heap.size w5.heap.size 29 25 25 25 1 1 1 (.int .i64 ((s : Int) - 1)) (.int .i64 (t : Int)) (.slice A' M2 C') (.slice A3 N3 C3) (.slice A4 N4 C4) M2 N3 N4 (fv (pP P i k (p + 1))) (fv (pQ2 Q s i k x y p 0)) (fv (pR R t i k x y p))) := by
                  have h1 := HY.out
                  show M3 _ _ _ _ _ _ _ _ _ _ _ _ _ _ _ _ _ _ _ _ _ _
                  rw [pP_more HNPK.out, pQ2_zero, fv_append, ← HSTE.out]
                  exact h1
                obtain ⟨ps, hps'⟩ : ∃ z, z = p * s := ⟨_, rfl⟩
                obtain ⟨pt, hpt'⟩ : ∃ z, z = p * t := ⟨_, rfl⟩
                have v5 : IntKind.i64.wrap ((p : Int) * (s : Int)) = (ps : Int) := mulw hps' (by have := HS5.out; omega) HS5.out
                have v6 : IntKind.i64.wrap ((p : Int) * (t : Int)) = (pt : Int) := mulw hpt' (by have := HS5.out; omega) (by have := HST1.out; omega)
                have j1 : ps + s ≤ n3 := by
                  have h1 : (p + 1) * s ≤ s * s := Nat.mul_le_mul_right _ hlt
                  rw [Nat.add_mul, Nat.one_mul] at h1; rw [HN3.out]; omega
                have j2 : pt + t ≤ n4 := by
                  have h1 : (p + 1) * t ≤ s * t := Nat.mul_le_mul_right _ hlt
                  rw [Nat.add_mul, Nat.one_mul] at h1; rw [HN4.out]; omega
                have HPSE := Lib.hid hps'; have HPTE := Lib.hid hpt'
                clear hps' hpt' HY hM2 HM E2 n2l
                go_wp2_with fail
                go_loopg [21, 22] s (fun m ct xx wr => ∃ (q : Nat) (A3 : Option Addr) (N3 C3 : Nat), ct = .int .i64 (q : Int) ∧ q ≤ s ∧ s ≤ m + q ∧ Hid (N3 = (pQ2 Q s i k x y p q).length) ∧ Hid (M3 w5 wr w5.heap.size w5.heap.size 29 25 25 25 1 1 1 (.int .i64 ((s : Int) - 1)) (.int .i64 (t : Int)) (.slice A' M2 C') (.slice A3 N3 C3) (.slice A4 N4 C4) M2 N3 N4 (fv (pP P i k (p + 1))) (fv (pQ2 Q s i k x y p q)) (fv (pR R t i k x y p))))
                case atStart => exact ⟨0, A3, N3, C3, by go_num, by omega, by omega, by show _ = _; rw [pQ2_zero]; exact E3.out, HM6.out⟩
                case round =>
                  clear HM6 E3
                  obtain ⟨wq, rfl⟩ : ∃ z : World, z = wr := ⟨_, rfl⟩
                  obtain ⟨q, A3, N3, C3, rfl, hqs, hmq2, E3, HM⟩ := hrel
                  have w9 : IntKind.i64.wrap ((q : Int) + 1) = ((q + 1 : Nat) : Int) := by rw [IntWalk.i64_in _ (by have := HS5.out; omega)]; omega
                  by_cases hltq : q < s
                  · by_cases hqk : q = k
                    · have bb2 : ((q : Int) == (k : Int)) = true := by rw [hqk]; simp
                      have b3' : (q : Int) = (k : Int) := by omega
                      go_wp2_with fail
                      go_roundg (gk - 1)
                      case measure => omega
                      case rel => exact ⟨q + 1, A3, N3, C3, by go_num, by omega, by omega, by show _ = _; rw [pQ2_same hqk]; exact E3.out, by show M3 _ _ _ _ _ _ _ _ _ _ _ _ _ _ _ _ _ _ _ _ _ _; rw [pQ2_same hqk]; exact HM.out⟩
                    · have bb2 : ((q : Int) == (k : Int)) = false := beq_false_of_ne (by omega)
                      have b3' : ¬ (q : Int) = (k : Int) := by omega
                      have HNQK := Lib.hid hqk
                      have hSo := HSS.out.keep HM.out.bel (Nat.le_refl _)
                      have hil : i * s + s ≤ Q.length := by
                        have h1 : (i + 1) * s ≤ s * s := Nat.mul_le_mul_right _ (Nat.lt_trans HIK.out HKS.out)
                        rw [Nat.add_mul, Nat.one_mul] at h1
                        rw [HJN.out.ql]; exact h1
                      have g1 : wq.cell? ⟨gS, ps + q, none⟩ = some (.float .f32 (jrA Q s i k x y (p * s + q)).b) := by
                        have h1 := (hSo.at (show ps + q < n3 by omega)).1
                        rw [jrS_jrA hil, HPSE.out] at h1
                        rw [HPSE.out]; exact h1
                      have g2 : wq.cell? ⟨gS, ps + k, none⟩ = some (.float .f32 (jrA Q s i k x y (p * s + k)).b) := by
                        have h1 := (hSo.at (show ps + k < n3 by have := HKS.out; omega)).1
                        rw [jrS_jrA hil, HPSE.out] at h1
                        rw [HPSE.out]; exact h1
                      have hadd2 : floatBits .add .f32 (jrA Q s i k x y (p * s + i)).b (jrA Q s i k x y (p * s + k)).b = some (fop .add (jrA Q s i k x y (p * s + i)) (jrA Q s i k x y (p * s + k))).b := by
                        have h1 : p * s + s ≤ s * s := by rw [← HPSE.out, ← HN3.out]; exact j1
                        exact (NN.fadd (jrA_nn HJN.out.qc HJN.out.qo (by have := HIK.out; have := HKS.out; omega)) (jrA_nn HJN.out.qc HJN.out.qo (by have := HKS.out; omega))).1
                      obtain ⟨xv, hxv⟩ : ∃ v, v = jsF Q s i k x y p q := ⟨_, rfl⟩
                      have HXVE := Lib.hid hxv
                      have v7 : IntKind.i64.wrap ((ps : Int) + (q : Int)) = (ps : Int) + (q : Int) := IntWalk.i64_in _ (by omega)
                      have v8 : IntKind.i64.wrap ((ps : Int) + (k : Int)) = (ps : Int) + (k : Int) := IntWalk.i64_in _ (by have := HKS.out; have := HS5.out; omega)
                      have l0 : (0 : Int) ≤ (ps : Int) + (q : Int) := by omega
                      have l1 : (ps : Int) + (q : Int) < (n3 : Int) := by omega
                      have l2 : (0 : Int) ≤ (ps : Int) + (k : Int) := by omega
                      have l3 : (ps : Int) + (k : Int) < (n3 : Int) := by have := HKS.out; omega
                      have l4 : ((ps : Int) + (q : Int)).toNat = ps + q := by omega
                      have l5 : ((ps : Int) + (k : Int)).toNat = ps + k := by omega
                      clear hSo hil
                      go_upto_if 215 with fail
                      go_cut [22] from 216 to 225 (fun v wx => v = .float .f32 xv.b ∧ wx = wq)
                      case first =>
                        by_cases hqi : q = i
                        · have bb3 : ((q : Int) == (i : Int)) = true := by rw [hqi]; simp
                          have e0 : floatBits .add .f32 (jrA Q s i k x y (p * s + q)).b (jrA Q s i k x y (p * s + k)).b = some xv.b := by
                            rw [hxv, hqi]; unfold jsF; rw [if_pos rfl]; exact hadd2
                          have e1 := fl_run (P := Try.prog) e0
                          have HQI := Lib.hid hqi
                          clear hxv e0 hqi hadd2
                          go_wp2_with fail
                          go_meet
                          exact ⟨rfl, rfl⟩
                        · have bb3 : ((q : Int) == (i : Int)) = false := beq_false_of_ne (by omega)
                          have hx2 : xv = jrA Q s i k x y (p * s + q) := by rw [hxv]; unfold jsF; rw [if_neg hqi]
                          clear hxv hadd2
                          go_wp2_with fail
                          go_meet
                          exact ⟨by rw [hx2], rfl⟩
                      case rest =>
                      obtain ⟨rfl, hwc⟩ := hcut
                      obtain rfl := hwc.symm
                      clear g1 g2 hxv hadd2 l0 l1 l2 l3 l4 l5 v7 v8
                      have HZ := Lib.hid (HM.out.alloc (.cells #[.float .f32 xv.b] 25))
                      have HCN : Hid (∀ j u, ([.float .f32 xv.b] : List Value)[j]? = some u → (wq.alloc (.cells #[.float .f32 xv.b] 25)).cell? ⟨wq.heap.size, 0 + j, none⟩ = some u) := fun j u hu => by
                        have := (Row.new wq 25 [.float .f32 xv.b]).cell (0 + j)
                        rw [this, Nat.zero_add]; exact hu
                      have HONE : Hid (∀ u ∈ ([.float .f32 xv.b] : List Value), u.oneCell' = true) := fun u hu => by
                        rw [List.mem_singleton.1 hu]; rfl
                      have n3l : N3 ≤ 30 := by rw [E3.out]; exact pQ2_len (by have := HS5.out; omega) HS5.out (by have := HS5.out; omega)
                      have h3c := HM.out.row.cell 3
                      go_wp2_with (at_builtin; refine wpList_cells_push rfl (.tmp 227) (.tmp 229) _ rfl w5.heap.size 25 (.float .f32 0) 1 4 Try.underlying22 infoF32 rfl (by omega) (by omega) (.slice A3 N3 C3) N3 (fv (pQ2 Q s i k x y p q)) rfl HZ.out.o3 wq.heap.size 0 1 1 [.float .f32 xv.b] rfl rfl HCN.out HONE.out (by omega) HZ.out.size ?_; intro v' wy hown hgr hat; obtain ⟨A'', C'', hv', q1, q2⟩ := own_form hown; subst hv'; have HY := Lib.hid (M3.push3 HZ.out hown hgr hat); have hrow := HZ.out.row.grown hgr (fun e => (HZ.out.d3 _ e.symm).1 rfl); have y3 := hrow.cell 3; have f3' := hrow.frozen 3; clear hrow hown hgr hat)
                      clear y3 f3' h3c HZ HCN HONE
                      go_roundg (gk - 1)
                      case measure => omega
                      case rel =>
                        refine ⟨q + 1, A'', N3 + 1, C'', by go_num, by omega, by omega, by show _ = _; rw [pQ2_more HNQK.out, List.length_append, E3.out]; rfl, ?_⟩
                        have h1 := HY.out
                        show M3 _ _ _ _ _ _ _ _ _ _ _ _ _ _ _ _ _ _ _ _ _ _
                        rw [pQ2_more HNQK.out, fv_append, ← HXVE.out]
                        exact h1
                  · obtain rfl : s = q := by omega
                    have HCK : Hid (((jrS R t i k x y t).drop pt).take t = (List.range t).map (fun q => jrA R t i k x y (p * t + q))) := by show _ = _; rw [HPTE.out]; exact jr_chunk HJN.out.rl (Nat.lt_trans HIK.out HKS.out) HPS.out
                    obtain ⟨ck, hck⟩ : ∃ z, z = (List.range t).map (fun q => jrA R t i k x y (p * t + q)) := ⟨_, rfl⟩
                    rw [← hck] at HCK
                    have HSHo := Lib.hid (HSH.out.keep HM.out.bel (Nat.le_refl _))
                    have HC : Hid (∀ j u, (fv ck)[j]? = some u → wq.drew.cell? ⟨gH, pt + j, none⟩ = some u) := fun j u hu => by
                      obtain ⟨v, hv, rfl⟩ := fv_get hu
                      have hj : j < t := by have := (List.getElem?_eq_some_iff.1 hv).1; rw [hck] at this; simpa using this
                      rw [← HCK.out, List.getElem?_take_of_lt hj, List.getElem?_drop] at hv
                      exact (HSHo.out.cell hv).1
                    have LT : Hid ((fv ck).length = t * 1) := by show _ = _; rw [fv_length, hck]; simp
                    have n4l : N4 ≤ 25 := by rw [E4.out]; exact pR_len (by have := HS5.out; omega) (by have := HST1.out; omega)
                    have RM : Hid (N4 + t ≤ 4294967296) := by show _ ≤ _; have := HST1.out; omega
                    have HCKE := Lib.hid hck
                    have P01 : 0 < 1 := by omega
                    have P432 : 4 ≤ 32 := by omega
                    have hst1 := HST1.out; have hch := HCH.out
                    have l1 : (0 : Int) ≤ (pt : Int) := by omega
                    have l2 : (pt : Int) ≤ (pt : Int) + (t : Int) := by omega
                    have l3 : (pt : Int) + (t : Int) ≤ (cH : Int) := by omega
                    have l4 : (pt : Int) < (cH : Int) := by omega
                    have l5 : ¬ cH = pt := by omega
                    have l6 : (0 : Int) ≤ (pt : Int) + (t : Int) := by omega
                    have l7 : ((pt : Int) + (t : Int)).toNat - pt = t := by omega
                    have v7 : IntKind.i64.wrap ((pt : Int) + (t : Int)) = (pt : Int) + (t : Int) := IntWalk.i64_in _ (by omega)
                    have HMd := Lib.hid HM.out.drew
                    have e4 := HMd.out.row.cell 4
                    have e4' := HM.out.row.cell 4
                    clear hck hst1 hch n4l
                    go_wp2_with fail
                    go_region_law ((try rw [l7]); refine step_cells_push rfl (.tmp 233) (.tmp 243) _ rfl w5.heap.size 25 (.float .f32 0) 1 4 Try.underlying22 infoF32 rfl P01 P432 (.slice A4 N4 C4) N4 (fv (pR R t i k x y p)) ?_ HMd.out.o4 gH pt t (cH - pt) (fv ck) ?_ LT.out HC.out (fv_oneF _) RM.out HMd.out.size ?_; rfl; (first | rfl | (simp only [l7]; rfl)); intro A4' c4' wv hvE hgr hbl hat; have HV := Lib.hid (M3.push4 HMd.out hvE hgr hat); have hrow := HMd.out.row.grown hgr (fun e => HMd.out.d4 _ e.symm rfl); have y4 := hrow.cell 4; have f4' := hrow.frozen 4; clear hrow hvE hgr hbl hat)
                    all_goals
                      clear e4 e4' y4 f4' l1 l2 l3 l4 l5 l6 l7 v7
                      go_wp2_with fail
                      go_roundg (go - 1)
                      case measure => omega
                      case rel =>
                        refine ⟨p + 1, A', M2, C', A3, N3, C3, A4', N4 + t, c4', by go_num, by omega, by omega, E2'.out, by show _ = _; rw [pQ_more HNPK.out]; exact E3.out, by show _ = _; rw [pR_more HNPK.out, List.length_append, E4.out]; simp, ?_⟩
                        have h1 := HV.out
                        show M3 _ _ _ _ _ _ _ _ _ _ _ _ _ _ _ _ _ _ _ _ _ _
                        rw [pQ_more HNPK.out, pR_more HNPK.out, fv_append, ← HCKE.out]
                        exact h1
            · obtain rfl : s = p := by omega
              have RRr := Lib.hid (RR2.out.below (HT.out _ HM.out.bel) RR2.out.lt)
              have HBr := Lib.hid (HRC.out _ (HT.out _ HM.out.bel))
              have O2 := Lib.hid HM.out.o2; have O3 := Lib.hid HM.out.o3; have O4 := Lib.hid HM.out.o4
              have DD : Hid ((∀ k, (Value.slice A2 N2 C2).ownBlock = some k → (Value.slice A3 N3 C3).ownBlock ≠ some k) ∧ (∀ k, (Value.slice A2 N2 C2).ownBlock = some k → (Value.slice A4 N4 C4).ownBlock ≠ some k) ∧ (∀ k, (Value.slice A3 N3 C3).ownBlock = some k → (Value.slice A4 N4 C4).ownBlock ≠ some k)) := ⟨fun k hk => (HM.out.d2 k hk).2.1, fun k hk => (HM.out.d2 k hk).2.2, fun k hk => (HM.out.d3 k hk).2⟩
              have m0 := HM.out.row.cell 0; have m1 := HM.out.row.cell 1; have m2 := HM.out.row.cell 2; have m3 := HM.out.row.cell 3; have m4 := HM.out.row.cell 4
              rw [pP_all] at O2
              rw [pQ_all] at O3
              rw [pR_all] at O4
              rw [pP_all] at E2
              rw [pQ_all] at E3
              rw [pR_all] at E4
              clear HM
              have C := Lib.hid (sGiveG ((s : Int) - 1) (t : Int) (jpL P s i k) (jsL Q s i k x y) (jrL R s t i k x y) A2 N2 C2 A3 N3 C3 A4 N4 C4 wo _ _ _ O2.out O3.out O4.out)
              go_wp2_with (go_at_call 31; refine C.out.mono ?_; rintro e wy ⟨ok2, hok2, rfl, hby⟩; have HBY := Lib.hid hby; have RRY := Lib.hid (RRr.out.below hby RRr.out.lt); have HOK2 := Lib.hid hok2; clear hok2 hby m0 m1 m2 m3 m4; have y0 := RRY.out.cell 0; have y1 := RRY.out.cell 1; have y2 := RRY.out.cell 2; have y3 := RRY.out.cell 3; have y4 := RRY.out.cell 4; have f0 := RRY.out.frozen 0; have f1 := RRY.out.frozen 1; have f2 := RRY.out.frozen 2; have f3 := RRY.out.frozen 3; have f4 := RRY.out.frozen 4)
              clear y0 f0 y1 f1 y2 f2 y3 f3 y4 f4
              have hby := HBY.out
              have hF := set5_row RRY.out (.int .i64 (ckI ok2 ((s : Int) - 1))) (.int .i64 (ckI ok2 t)) (.slice (ckA ok2 A2) (ckN ok2 N2) (ckN ok2 C2)) (.slice (ckA ok2 A3) (ckN ok2 N3) (ckN ok2 C3)) (.slice (ckA ok2 A4) (ckN ok2 N4) (ckN ok2 C4))
              have hBF := set5_below (HBr.out.trans (hby.mono HBr.out.size)) (show w.heap.size ≤ w.heap.size + 1 by omega) (.int .i64 (ckI ok2 ((s : Int) - 1))) (.int .i64 (ckI ok2 t)) (.slice (ckA ok2 A2) (ckN ok2 N2) (ckN ok2 C2)) (.slice (ckA ok2 A3) (ckN ok2 N3) (ckN ok2 C3)) (.slice (ckA ok2 A4) (ckN ok2 N4) (ckN ok2 C4))
              have hkp : ∀ g, g < wo.heap.size → g ≠ w.heap.size + 1 → (((((wy.setCell ⟨w.heap.size + 1, 0, none⟩ (.int .i64 (ckI ok2 ((s : Int) - 1)))).setCell ⟨w.heap.size + 1, 1, none⟩ (.int .i64 (ckI ok2 t))).setCell ⟨w.heap.size + 1, 2, none⟩ (.slice (ckA ok2 A2) (ckN ok2 N2) (ckN ok2 C2))).setCell ⟨w.heap.size + 1, 3, none⟩ (.slice (ckA ok2 A3) (ckN ok2 N3) (ckN ok2 C3))).setCell ⟨w.heap.size + 1, 4, none⟩ (.slice (ckA ok2 A4) (ckN ok2 N4) (ckN ok2 C4))).heap[g]? = wo.heap[g]? := fun g h1 h2 => (heap_set5 _ _ _ _ _ h2).trans (hby.block g h1)
              refine bodyPost_ret (results_cell2 rfl _ _ (w.heap.size + 1) 29 #[.int .i64 (ckI ok2 ((s : Int) - 1)), .int .i64 (ckI ok2 t), .slice (ckA ok2 A2) (ckN ok2 N2) (ckN ok2 C2), .slice (ckA ok2 A3) (ckN ok2 N3) (ckN ok2 C3), .slice (ckA ok2 A4) (ckN ok2 N4) (ckN ok2 C4)] (0, 0) _ (.bool ok2) rfl rfl hF Try.underlying29 rfl (by kernel_rfl)) rfl ?_
              obtain ⟨F, hFF⟩ : ∃ F, F = (((((wy.setCell ⟨w.heap.size + 1, 0, none⟩ (.int .i64 (ckI ok2 ((s : Int) - 1)))).setCell ⟨w.heap.size + 1, 1, none⟩ (.int .i64 (ckI ok2 t))).setCell ⟨w.heap.size + 1, 2, none⟩ (.slice (ckA ok2 A2) (ckN ok2 N2) (ckN ok2 C2))).setCell ⟨w.heap.size + 1, 3, none⟩ (.slice (ckA ok2 A3) (ckN ok2 N3) (ckN ok2 C3))).setCell ⟨w.heap.size + 1, 4, none⟩ (.slice (ckA ok2 A4) (ckN ok2 N4) (ckN ok2 C4))) := ⟨_, rfl⟩
              rw [← hFF] at hBF hkp ⊢
              clear hF hFF
              have hf : jsOk (s : Int) (t : Int) P Q R (i : Int) (k : Int) = ok2 := by rw [HOKD.out, HOK2.out]
              have hs2 := HS2.out
              have o2' := own_move O2.out (fun g hg => hkp g (O2.out.lt g hg).2 (by have := (O2.out.lt g hg).1; have := HB5.out.size; omega))
              have o3' := own_move O3.out (fun g hg => hkp g (O3.out.lt g hg).2 (by have := (O3.out.lt g hg).1; have := HB5.out.size; omega))
              have o4' := own_move O4.out (fun g hg => hkp g (O4.out.lt g hg).2 (by have := (O4.out.lt g hg).1; have := HB5.out.size; omega))
              refine ⟨ckV ok2 (.agg #[.int .i64 ((s : Int) - 1), .int .i64 t, .slice A2 N2 C2, .slice A3 N3 C3, .slice A4 N4 C4]), by rw [hf, ckV_agg], ?_, hBF⟩
              rw [hf, HJQ.out, HJR.out]
              unfold jsP
              simp only [Int.toNat_natCast]
              have hw5 := HB5.out.size
              exact ckO ok2 ⟨_, _, _, rfl, OwnV.of (by rw [← E2.out]; exact World.ownsRow.mono o2' (by omega)), OwnV.of (by rw [← E3.out]; exact World.ownsRow.mono o3' (by omega)), OwnV.of (by rw [← E4.out]; exact World.ownsRow.mono o4' (by omega)), DD.out.1, DD.out.2.1, DD.out.2.2⟩

end Go.Proofs.Ytomofghiafcefaa
