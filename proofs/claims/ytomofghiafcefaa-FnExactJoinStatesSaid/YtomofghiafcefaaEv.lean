/- EvenModel of both programs. -/
import Derived.Test.YtomofghiafcefaaMdG
import Derived.Test.YtomofghiafcefaaMgd
import Derived.Test.YtomofghiafcefaaM3
import Derived.Deep.RegionLaw
import Derived.Deep.RegionWith
import Derived.Deep.DrawnRows

namespace Go.Proofs.Ytomofghiafcefaa
open Go.RowKit
set_option linter.unusedVariables false
attribute [local go_sem ↓] Go.wp_at_zero Go.wp_at_succ
def fI (n : Nat) : F32 := ⟨floatOfInt .f32 (n : Int), by have := floatOfInt_wf .f32 (n : Int); simpa [Lit.wf] using this⟩
def evQ (n : Nat) : F32 := fop .quo f1 (fI n)
theorem evQ_ok {n : Nat} (h1 : 1 ≤ n) (h5 : n ≤ 5) : floatBits .quo .f32 1065353216 (floatOfInt .f32 (n : Int)) = some (evQ n).b := by
  refine fop_run (x := f1) (y := fI n) ?_
  have : n = 1 ∨ n = 2 ∨ n = 3 ∨ n = 4 ∨ n = 5 := by omega
  rcases this with rfl | rfl | rfl | rfl | rfl <;> decide +kernel
def evR (m n : Nat) : List F32 := List.replicate m (evQ n)
theorem evR_len (m n : Nat) : (evR m n).length = m := by simp [evR]
theorem evR_add (m k n : Nat) : fv (evR (m + k) n) = fv (evR m n) ++ fv (evR k n) := by simp [evR, fv, List.replicate_append_replicate]
theorem evR_succ (m n : Nat) : fv (evR (m + 1) n) = fv (evR m n) ++ [.float .f32 (evQ n).b] := by rw [evR_add]; rfl
theorem own_rowF {w : World} {g base n : Nat} {t : TypeId} {vs : List Value} (h : Row w g t vs) (hb : base ≤ g) (hn : vs.length = n) (hm : n ≤ maxLen) : w.ownsRow base t 1 (.slice (some ⟨g, 0, none⟩) n n) n vs :=
  ⟨by omega, .inr ⟨g, n, vs.toArray, rfl, hb, h, Nat.le_refl _, hm, by simp [hn], by rw [List.toList_toArray]; exact List.take_of_length_le (by omega)⟩⟩
theorem fv_one (xs : List F32) : ∀ u ∈ fv xs, u.oneCell' = true := by
  intro u hu
  simp only [fv, List.mem_map] at hu
  obtain ⟨x, _, rfl⟩ := hu
  rfl
theorem evQ_law {n : Nat} (h1 : 1 ≤ n) (h5 : n ≤ 5) (P : Program) : ∀ (t : TypeId) (w : World), (binOp .quo t (.float .f32 1065353216) (.float .f32 (floatOfInt .f32 (n : Int)))).run P w = .ok (.float .f32 (evQ n).b) w :=
  fun t w => run_float_arith w .quo t .f32 _ _ _ (evQ_ok h1 h5)
set_option maxHeartbeats 1000000 in
theorem sEven_any (n : Nat) (h1 : 1 ≤ n) (h5 : n ≤ 5) (w : World) :
    Calls Try.prog 21 #[.int .i64 n] w fun e w' => ∃ A c, e = .returned (.slice A n c) ∧ w'.ownsRow w.heap.size 25 1 (.slice A n c) n (fv (evR n n)) ∧ Below w.heap.size w w' := by
  have hop := evQ_law h1 h5 Try.prog
  have OM := Lib.hid (own_made w w.heap.size 25 1 (Nat.le_refl _))
  go_enter Try.func21, Try.ntmps21
  go_wp2_with fail
  go_loopg [3, 4] n (fun m o i wr => ∃ (k : Nat) (A : Option Addr) (c : Nat), i = .int .i64 k ∧ k ≤ n ∧ n ≤ m + k ∧ o = .slice A k c ∧ Hid (wr.ownsRow w.heap.size 25 1 (.slice A k c) k (fv (evR k n))) ∧ Hid (Below w.heap.size w wr))
  case atStart => exact ⟨0, _, _, rfl, by omega, by omega, rfl, OM.out, (Below.refl _ _).alloc (Nat.le_refl _) _⟩
  case round =>
    obtain ⟨k, A, c, rfl, hk, hm, rfl, HO, HB⟩ := hrel
    by_cases hlt : k < n
    · have HBS := Lib.hid HB.out.size
      go_wp2_with (at_builtin; refine wpList_push wr rfl (.tmp 11) (.tmp 15) _ rfl w.heap.size 25 (.float .f32 0) 4 Try.underlying22 infoF32 rfl (.slice A k c) k (fv (evR k n)) rfl HO.out (.float .f32 (evQ n).b) rfl rfl (by omega) (by omega) HBS.out ?_; intro g cap w' hown hgr hat hlt' hcap; have HOW := Lib.hid hown; have HG := Lib.hid (grown_below HO.out hgr HBS.out); clear hown hgr hat hlt' hcap)
      go_roundg (gk - 1)
      case measure => omega
      case rel => exact ⟨k + 1, _, _, by go_num, by omega, by omega, rfl, by show World.ownsRow _ _ _ _ _ _ _; rw [evR_succ]; exact HOW.out, HB.out.trans HG.out⟩
    · obtain rfl : n = k := by omega
      go_wp2_with fail
      go_ret
      exact ⟨_, _, rfl, HO.out, HB.out⟩
def evOk (S T : Int) : Bool := inB S 1 5 && (inB T 1 4 && vdM S T (evR S.toNat S.toNat) (evR (S.toNat * S.toNat) S.toNat) (evR (S.toNat * T.toNat) T.toNat))
/-- What EvenModel hands out. -/
def EvO (w : World) (base : Nat) (v : Value) (S T : Int) : Prop := MdW w base v (ckI (evOk S T) S) (ckI (evOk S T) T) (ckL (evOk S T) (evR S.toNat S.toNat)) (ckL (evOk S T) (evR (S.toNat * S.toNat) S.toNat)) (ckL (evOk S T) (evR (S.toNat * T.toNat) T.toNat))
theorem nil_MdO (w : World) (lo hi : Nat) : MdO w lo hi (.agg #[.int .i64 0, .int .i64 0, .slice none 0 0, .slice none 0 0, .slice none 0 0]) 0 0 [] [] [] := ⟨_, _, _, rfl, OwnV.nil _ _ _ _ _, OwnV.nil _ _ _ _ _, OwnV.nil _ _ _ _ _, fun k hk => by simp [Value.ownBlock] at hk, fun k hk => by simp [Value.ownBlock] at hk, fun k hk => by simp [Value.ownBlock] at hk⟩
theorem own_form' {w : World} {base n : Nat} {t : TypeId} {A : Option Addr} {c : Nat} {xs : List Value} (h : w.ownsRow base t 1 (.slice A n c) n xs) (h0 : 0 < n) : ∃ g, A = some ⟨g, 0, none⟩ ∧ base ≤ g ∧ g < w.heap.size ∧ n ≤ c ∧ ∀ j u, xs[j]? = some u → w.cell? ⟨g, 0 + j, none⟩ = some u := by
  obtain ⟨g, c', hv, hb, hlt⟩ := World.ownsRow.form h h0
  obtain ⟨A', c'', hv', hc, _⟩ := own_form h
  injection hv with e1 _ e3
  injection hv' with _ _ e3'
  subst e1
  refine ⟨g, rfl, hb, hlt, by omega, fun j u hu => ?_⟩
  have := h.cells (g := g) rfl j u hu
  have ea : (⟨g, 0, none⟩ : Addr).add j = ⟨g, 0 + j, none⟩ := by unfold Addr.add; by_cases h : j = 0 <;> simp [h]
  rw [ea] at this; exact this
theorem mulw {a b q : Nat} (h : q = a * b) (ha : a ≤ 5) (hb : b ≤ 5) : IntKind.i64.wrap ((a : Int) * (b : Int)) = (q : Int) := by
  have : q ≤ 25 := by rw [h]; exact Nat.mul_le_mul ha hb
  rw [h, IntWalk.i64_in _ (by rw [← Int.natCast_mul, ← h]; omega)]; simp
theorem iGiveG (S T : Int) (P Q R : List F32) (A2 : Option Addr) (n2 c2 : Nat) (A3 : Option Addr) (n3 c3 : Nat) (A4 : Option Addr) (n4 c4 : Nat) (w : World) (lo2 lo3 lo4 : Nat) (h2 : w.ownsRow lo2 25 1 (.slice A2 n2 c2) n2 (fv P)) (h3 : w.ownsRow lo3 25 1 (.slice A3 n3 c3) n3 (fv Q)) (h4 : w.ownsRow lo4 25 1 (.slice A4 n4 c4) n4 (fv R)) :
    Calls Try.prog 35 #[.agg #[.int .i64 S, .int .i64 T, .slice A2 n2 c2, .slice A3 n3 c3, .slice A4 n4 c4]] w fun e w' => ∃ ok, ok = vdM S T P Q R ∧ e = .returned (.tuple #[.agg #[.int .i64 (ckI ok S), .int .i64 (ckI ok T), .slice (ckA ok A2) (ckN ok n2) (ckN ok c2), .slice (ckA ok A3) (ckN ok n3) (ckN ok c3), .slice (ckA ok A4) (ckN ok n4) (ckN ok c4)], .bool ok]) ∧ Below w.heap.size w w' := by
  obtain ⟨_, _, hv2, q2, r2⟩ := own_form h2; injection hv2 with _ _ x2; subst x2
  obtain ⟨_, _, hv3, q3, r3⟩ := own_form h3; injection hv3 with _ _ x3; subst x3
  obtain ⟨_, _, hv4, q4, r4⟩ := own_form h4; injection hv4 with _ _ x4; subst x4
  unfold maxLen at r2 r3 r4
  refine (iGiveM_any S T P Q R A2 n2 c2 A3 n3 c3 A4 n4 c4 w (own_sl h2) (own_sl h3) (own_sl h4) q2 (by omega) q3 (by omega) q4 (by omega)).mono ?_
  rintro e w' ⟨rfl, hb⟩
  exact ⟨_, rfl, by rw [ckV_agg], hb⟩
theorem sGiveG (S T : Int) (P Q R : List F32) (A2 : Option Addr) (n2 c2 : Nat) (A3 : Option Addr) (n3 c3 : Nat) (A4 : Option Addr) (n4 c4 : Nat) (w : World) (lo2 lo3 lo4 : Nat) (h2 : w.ownsRow lo2 25 1 (.slice A2 n2 c2) n2 (fv P)) (h3 : w.ownsRow lo3 25 1 (.slice A3 n3 c3) n3 (fv Q)) (h4 : w.ownsRow lo4 25 1 (.slice A4 n4 c4) n4 (fv R)) :
    Calls Try.prog 31 #[.agg #[.int .i64 S, .int .i64 T, .slice A2 n2 c2, .slice A3 n3 c3, .slice A4 n4 c4]] w fun e w' => ∃ ok, ok = vdM S T P Q R ∧ e = .returned (.tuple #[.agg #[.int .i64 (ckI ok S), .int .i64 (ckI ok T), .slice (ckA ok A2) (ckN ok n2) (ckN ok c2), .slice (ckA ok A3) (ckN ok n3) (ckN ok c3), .slice (ckA ok A4) (ckN ok n4) (ckN ok c4)], .bool ok]) ∧ Below w.heap.size w w' := by
  obtain ⟨_, _, hv2, q2, r2⟩ := own_form h2; injection hv2 with _ _ x2; subst x2
  obtain ⟨_, _, hv3, q3, r3⟩ := own_form h3; injection hv3 with _ _ x3; subst x3
  obtain ⟨_, _, hv4, q4, r4⟩ := own_form h4; injection hv4 with _ _ x4; subst x4
  unfold maxLen at r2 r3 r4
  refine (sGiveM_any S T P Q R A2 n2 c2 A3 n3 c3 A4 n4 c4 w (own_sl h2) (own_sl h3) (own_sl h4) q2 (by omega) q3 (by omega) q4 (by omega)).mono ?_
  rintro e w' ⟨rfl, hb⟩
  exact ⟨_, rfl, by rw [ckV_agg], hb⟩
theorem evOk_in {S T : Int} (h : evOk S T = true) : (1 ≤ S ∧ S ≤ 5) ∧ (1 ≤ T ∧ T ≤ 4) := by
  unfold evOk at h
  simp only [Bool.and_eq_true] at h
  exact ⟨inB_true h.1, inB_true h.2.1⟩
theorem evP_len (S T : Int) : (ckL (evOk S T) (evR S.toNat S.toNat)).length ≤ 1048576 := ckL_len fun h => by
  have := evOk_in h; rw [evR_len]; omega
theorem evQ_len (S T : Int) : (ckL (evOk S T) (evR (S.toNat * S.toNat) S.toNat)).length ≤ 1048576 := ckL_len fun h => by
  have := evOk_in h; rw [evR_len]; have := Nat.mul_le_mul (show S.toNat ≤ 5 by omega) (show S.toNat ≤ 5 by omega); omega
theorem evS_len (S T : Int) : (ckL (evOk S T) (evR (S.toNat * T.toNat) T.toNat)).length ≤ 1048576 := ckL_len fun h => by
  have := evOk_in h; rw [evR_len]; have := Nat.mul_le_mul (show S.toNat ≤ 5 by omega) (show T.toNat ≤ 5 by omega); omega
end Go.Proofs.Ytomofghiafcefaa
