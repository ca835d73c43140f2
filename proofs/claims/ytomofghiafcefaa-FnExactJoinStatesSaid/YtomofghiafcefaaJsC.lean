/- joinPlaces and joinRows of the program. -/
import Derived.Test.YtomofghiafcefaaJsD
import Derived.Test.YtomofghiafcefaaJsP
import Derived.Test.YtomofghiafcefaaTab
import Derived.Deep.LoopGhost
import Derived.Deep.DrawnRows

namespace Go.Proofs.Ytomofghiafcefaa
open Go.RowKit
set_option linter.unusedVariables false
attribute [local go_sem ↓] Go.wp_at_zero Go.wp_at_succ
theorem slF_cell {w : World} {B b off n : Nat} {xs : List F32} (h : SlF w B (some ⟨b, off, none⟩) n xs) {j : Nat} (hj : j < n) : w.cell? ⟨b, off + j, none⟩ = some (.float .f32 (atF xs j).b) := by
  obtain ⟨b', off', x, e, hb, hx, hc⟩ := h.at_ hj
  injection e with e; injection e with e1 e2 _
  subst e1 e2
  rw [atF_some hx.out]; exact hc
theorem RwF.at {w : World} {base g n c : Nat} {xs : List F32} (h : RwF w base g n c xs) {j : Nat} (hj : j < n) : w.cell? ⟨g, j, none⟩ = some (.float .f32 (atF xs j).b) ∧ w.frozen? ⟨g, j, none⟩ = false := h.cell (atF_get (by rw [h.len]; exact hj))
theorem RwF.drewN {w : World} {base g n c : Nat} {xs : List F32} (h : RwF w base g n c xs) (q : Nat) : RwF (w.drewN q) base g n c xs := own_move h (fun _ _ => rfl)
theorem fl_run {P : Program} {op : BinOp} {x y r : Nat} (h : floatBits op .f32 x y = some r) : ∀ (t : TypeId) (w : World), (binOp op t (.float .f32 x) (.float .f32 y)).run P w = .ok (.float .f32 r) w := fun t w => run_float_arith w op t .f32 _ _ _ h
set_option maxRecDepth 100000 in
set_option maxHeartbeats 4000000 in
theorem iJoinP_any (b off n c i k : Nat) (P : List F32) (w : World) (h : SlF w w.heap.size (some ⟨b, off, none⟩) n P) (hik : i < k) (hk : k < n) (h5 : n ≤ 5) (hadd : floatBits .add .f32 (atF P i).b (atF P k).b = some (fop .add (atF P i) (atF P k)).b) :
    Calls Try.prog 32 #[.slice (some ⟨b, off, none⟩) n c, .int .i64 i, .int .i64 k] w fun e w' => ∃ g c', e = .returned (.slice (some ⟨g, 0, none⟩) (n - 1) c') ∧ RwF w' w.heap.size g (n - 1) c' (jpL P n i k) ∧ Below w.heap.size w w' := by
  have hl := h.len
  have hcl := iCloneF_any b off n c P w h (by omega) (by omega)
  obtain ⟨v, hv⟩ : ∃ v, v = fop .add (atF P i) (atF P k) := ⟨_, rfl⟩
  rw [← hv] at hadd
  have o1 := fl_run (P := Try.prog) hadd
  have HV := Lib.hid hv; have HL := Lib.hid hl
  clear hv hl h hadd
  go_enter Try.func32, Try.ntmps32
  go_wp2_with fail
  refine hcl.mono ?_
  rintro e w1 ⟨g, c', rfl, hr1, q1, q2, hb1⟩
  have HR1 := Lib.hid hr1; have HB1 := Lib.hid hb1
  clear hcl hr1 hb1
  have l0 : (0 : Int) ≤ (i : Int) := by omega
  have l1 : (i : Int) < (n : Int) := by omega
  have l2 : (0 : Int) ≤ (k : Int) := by omega
  have l3 : (k : Int) < (n : Int) := by omega
  have w5 : IntKind.i64.wrap ((k : Int) + 1) = ((k + 1 : Nat) : Int) := by rw [IntWalk.i64_in _ (by omega)]; omega
  go_wp2_with fail
  refine wp_tail 12 (by kernel_rfl) (by kernel_rfl) (fun v2 hv2 => ?_)
  have HR2 : Hid (RwF v2 w.heap.size g n c' P) := by rw [hv2]; exact HR1.out.drewN 1
  have HB2 : Hid (Below w.heap.size w v2) := by rw [hv2]; exact below_draws HB1.out 1
  have c1 := (HR2.out.at (show i < n by omega)).1
  have c1f := (HR2.out.at (show i < n by omega)).2
  have c2 := (HR2.out.at (show k < n by omega)).1
  clear hv2
  simp only [List.take_succ_cons, List.take_zero, List.drop_succ_cons, List.drop_zero]
  repeat still_step
  refine wpStill_nil ?_
  have hbg := HR2.out.lt.1
  have HR3 : Hid (RwF (v2.setCell ⟨g, i, none⟩ (.float .f32 v.b)) w.heap.size g n c' (P.set i v)) := HR2.out.set (by rw [HL.out]; omega) v
  have HB3 : Hid (Below w.heap.size w (v2.setCell ⟨g, i, none⟩ (.float .f32 v.b))) := HB2.out.setCell (p := ⟨g, i, none⟩) hbg _
  have D := Lib.hid (iDelF_any w.heap.size g n c' k (k + 1) (P.set i v) _ HR3.out (by omega) (by omega))
  clear hbg
  go_wp2_with (go_at_call 43; refine D.out.mono ?_; rintro e w4 ⟨rfl, hr4, hb4⟩; have HR4 := Lib.hid hr4; have HB4 := Lib.hid hb4; clear hr4 hb4)
  go_ret
  refine ⟨g, c', (by first | rfl | (rw [show n - (k + 1 - k) = n - 1 by omega]; rfl)), ?_, HB3.out.trans HB4.out⟩
  have h1 := HR4.out
  rw [show n - (k + 1 - k) = n - 1 by omega] at h1
  have e := jp_del HL.out h5 hik hk
  rw [← HV.out] at e
  rw [show delF (P.set i v) k (k + 1) = jpL P n i k from e] at h1
  exact h1
set_option maxRecDepth 100000 in
set_option maxHeartbeats 8000000 in
theorem iJoinR_any (b off n c s l i k : Nat) (R : List F32) (x y : F32) (w : World) (h : SlF w w.heap.size (some ⟨b, off, none⟩) n R) (hn : n = s * l) (hs5 : s ≤ 5) (hl1 : 1 ≤ l) (hl5 : l ≤ 5) (hik : i < k) (hk : k < s) (hsum : floatBits .add .f32 x.b y.b = some (fop .add x y).b) (hok : ∀ q, q < l → JrOk R l i k x y q) :
    Calls Try.prog 33 #[.slice (some ⟨b, off, none⟩) n c, .int .i64 l, .int .i64 i, .int .i64 k, .float .f32 x.b, .float .f32 y.b] w fun e w' => ∃ g c', e = .returned (.slice (some ⟨g, 0, none⟩) ((s - 1) * l) c') ∧ RwF w' w.heap.size g ((s - 1) * l) c' (jrL R s l i k x y) ∧ Below w.heap.size w w' := by
  have hl := h.len
  obtain ⟨pi, hpi⟩ : ∃ p, p = i * l := ⟨_, rfl⟩
  obtain ⟨pk, hpk⟩ : ∃ p, p = k * l := ⟨_, rfl⟩
  have hb1 : pk + l ≤ n := by
    have h1 : (k + 1) * l ≤ s * l := Nat.mul_le_mul_right _ hk
    rw [Nat.add_mul, Nat.one_mul] at h1; omega
  have hb2 : pi + l ≤ pk := by
    have h1 : (i + 1) * l ≤ k * l := Nat.mul_le_mul_right _ hik
    rw [Nat.add_mul, Nat.one_mul] at h1; omega
  have hb3 : n ≤ 25 := by rw [hn]; exact Nat.mul_le_mul hs5 hl5
  have hcl := iCloneF_any b off n c R w h (by omega) (by omega)
  have w1' : IntKind.i64.wrap ((i : Int) * (l : Int)) = (pi : Int) := mulw hpi (by omega) hl5
  have w2' : IntKind.i64.wrap ((k : Int) * (l : Int)) = (pk : Int) := mulw hpk (by omega) hl5
  have w3' : IntKind.i64.wrap (((k : Int) + 1) * (l : Int)) = ((pk + l : Nat) : Int) := by
    have := mulw (a := k + 1) (b := l) (q := pk + l) (by rw [Nat.add_mul, Nat.one_mul, hpk]) (by omega) hl5
    rw [← this]; congr 1
  have w5 : IntKind.i64.wrap ((k : Int) + 1) = (k : Int) + 1 := IntWalk.i64_in _ (by omega)
  obtain ⟨sm, hsm⟩ : ∃ v, v = fop .add x y := ⟨_, rfl⟩
  rw [← hsm] at hsum
  have o1 := fl_run (P := Try.prog) hsum
  have HSM := Lib.hid hsm; have HL := Lib.hid hl; have HOK := Lib.hid hok; have HN := Lib.hid hn; have H := Lib.hid h
  have HPI := Lib.hid hpi; have HPK := Lib.hid hpk
  clear hsm hl h hsum hok hn hpi hpk
  go_enter Try.func33, Try.ntmps33
  go_wp2_with fail
  refine hcl.mono ?_
  rintro e w1 ⟨g, c', rfl, hr1, q1, q2, hb1'⟩
  have HR1 := Lib.hid hr1; have HB1 := Lib.hid hb1'
  clear hcl hr1 hb1'
  go_wp2_with fail
  go_loopg [14, 18] l (fun m u j wr => ∃ q : Nat, j = .int .i64 (q : Int) ∧ q ≤ l ∧ l ≤ m + q ∧ Hid (RwF wr w.heap.size g n c' (jrS R l i k x y q)) ∧ Hid (Below w.heap.size w wr))
  case atStart => exact ⟨0, by go_num, by omega, by omega, HR1.out, HB1.out⟩
  case round =>
    obtain ⟨q, rfl, hq, hmq, HR, HB⟩ := hrel
    obtain ⟨wo, rfl⟩ : ∃ x : World, x = wr := ⟨_, rfl⟩
    by_cases hlt : q < l
    · have ho := HOK.out q hlt
      obtain ⟨a1, ha1⟩ : ∃ v, v = atF R (i * l + q) := ⟨_, rfl⟩
      obtain ⟨a2, ha2⟩ : ∃ v, v = atF R (k * l + q) := ⟨_, rfl⟩
      obtain ⟨m1, hm1⟩ : ∃ v, v = fop .mul x (atF R (i * l + q)) := ⟨_, rfl⟩
      obtain ⟨m2, hm2⟩ : ∃ v, v = fop .mul y (atF R (k * l + q)) := ⟨_, rfl⟩
      obtain ⟨ad, had⟩ : ∃ v, v = fop .add (fop .mul x (atF R (i * l + q))) (fop .mul y (atF R (k * l + q))) := ⟨_, rfl⟩
      obtain ⟨qu, hqu⟩ : ∃ v, v = jrF R l i k x y q := ⟨_, rfl⟩
      have e1 := ho.m1; have e2 := ho.m2; have e3 := ho.ad; have e4 := ho.qu
      rw [← hm1, ← ha1] at e1
      rw [← hm2, ← ha2] at e2
      rw [← hm1, ← hm2, ← show ad = fop .add m1 m2 by rw [had, hm1, hm2]] at e3
      rw [← had, ← hqu, ← HSM.out] at e4
      have p1 := fl_run (P := Try.prog) e1; have p2 := fl_run (P := Try.prog) e2; have p3 := fl_run (P := Try.prog) e3; have p4 := fl_run (P := Try.prog) e4
      have HQU := Lib.hid hqu
      have w6 : IntKind.i64.wrap ((pi : Int) + (q : Int)) = (pi : Int) + (q : Int) := IntWalk.i64_in _ (by omega)
      have w7 : IntKind.i64.wrap ((pk : Int) + (q : Int)) = (pk : Int) + (q : Int) := IntWalk.i64_in _ (by omega)
      have w8 : IntKind.i64.wrap ((q : Int) + 1) = ((q + 1 : Nat) : Int) := by rw [IntWalk.i64_in _ (by omega)]; omega
      have l0 : (0 : Int) ≤ (pi : Int) + (q : Int) := by omega
      have l1 : (pi : Int) + (q : Int) < (n : Int) := by omega
      have l2 : (0 : Int) ≤ (pk : Int) + (q : Int) := by omega
      have l3 : (pk : Int) + (q : Int) < (n : Int) := by omega
      have l4 : ((pi : Int) + (q : Int)).toNat = pi + q := by omega
      have l5 : ((pk : Int) + (q : Int)).toNat = pk + q := by omega
      have HC1 : Hid (∀ v2, Below w.heap.size w v2 → v2.cell? ⟨b, off + (pi + q), none⟩ = some (.float .f32 a1.b)) := fun v2 hv => by
        rw [ha1, ← HPI.out]; exact slF_cell (H.out.below hv (Nat.le_refl _)) (by omega)
      have HC2 : Hid (∀ v2, Below w.heap.size w v2 → v2.cell? ⟨b, off + (pk + q), none⟩ = some (.float .f32 a2.b)) := fun v2 hv => by
        rw [ha2, ← HPK.out]; exact slF_cell (H.out.below hv (Nat.le_refl _)) (by omega)
      have HLT : Hid (pi + q < n) := by show _ < _; omega
      clear ho ha1 ha2 hm1 hm2 had hqu e1 e2 e3 e4
      go_wp2_with fail
      refine wp_tail 32 (by kernel_rfl) (by kernel_rfl) (fun v2 hv2 => ?_)
      have HR2 : Hid (RwF v2 w.heap.size g n c' (jrS R l i k x y q)) := by rw [hv2]; exact HR.out.drewN 1
      have HB2 : Hid (Below w.heap.size w v2) := by rw [hv2]; exact below_draws HB.out 1
      clear hv2
      have c1 := HC1.out v2 HB2.out
      have c2 := HC2.out v2 HB2.out
      have c3 := (HR2.out.at HLT.out).1
      have c4 := (HR2.out.at HLT.out).2
      simp only [List.take_succ_cons, List.take_zero, List.drop_succ_cons, List.drop_zero]
      repeat still_step
      refine wpStill_nil ?_
      go_wp2_with fail
      go_roundg (gk - 1)
      case measure => omega
      case rel =>
        have hbg := HR2.out.lt.1
        have h1 := HR2.out.set (i := pi + q) (by rw [jrS_len, HL.out]; exact HLT.out) qu
        refine ⟨q + 1, by go_num, by omega, by omega, ?_, HB2.out.setCell (p := ⟨g, pi + q, none⟩) hbg _⟩
        show RwF _ _ _ _ _ _
        rw [jrS, ← HPI.out, ← HQU.out]
        exact h1
    · obtain rfl : q = l := by omega
      have D := Lib.hid (iDelF_any w.heap.size g n c' pk (pk + q) (jrS R q i k x y q) wo HR.out (by omega) (by omega))
      go_wp2_with (go_at_call 43; refine D.out.mono ?_; rintro e w4 ⟨rfl, hr4, hb4⟩; have HR4 := Lib.hid hr4; have HB4 := Lib.hid hb4; clear hr4 hb4)
      go_ret
      have en : n - (pk + q - pk) = (s - 1) * q := by rw [HN.out, Nat.sub_mul, Nat.one_mul]; omega
      have en' : n - q = (s - 1) * q := by rw [← en]; omega
      refine ⟨g, c', (by first | (rw [en']; rfl) | (rw [en]; rfl)), ?_, HB.out.trans HB4.out⟩
      have h1 := HR4.out
      rw [en] at h1
      have e := jr_del (R := R) (s := s) (l := q) (i := i) (k := k) (x := x) (y := y) (by rw [HL.out, HN.out]) hs5 hl5 (by omega) hk
      rw [← HPK.out, show (k + 1) * q = pk + q by rw [Nat.add_mul, Nat.one_mul, HPK.out]] at e
      rw [show delF (jrS R q i k x y q) pk (pk + q) = jrL R s q i k x y from e] at h1
      exact h1
end Go.Proofs.Ytomofghiafcefaa
