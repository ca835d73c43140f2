/- EvenModel of both programs. -/
import Derived.Test.YtkgifbiaaaemnaaMdG
import Derived.Test.YtkgifbiaaaemnaaRptF
import Derived.Test.YtkgifbiaaaemnaaM3
import Derived.Deep.RegionLaw
import Derived.Deep.RegionWith
import Derived.Deep.DrawnRows
namespace Go.Proofs.Ytkgifbiaaaemnaa
open Go.RowKit
set_option linter.unusedVariables false
attribute [local go_sem ↓] Go.wp_at_zero Go.wp_at_succ
def fI (n : Nat) : F32 := ⟨floatOfInt .f32 (n : Int), by have := floatOfInt_wf .f32 (n : Int); simpa [Lit.wf] using this⟩
def evQ (n : Nat) : F32 := fop .quo f1 (fI n)
theorem evQ_ok {n : Nat} (h1 : 1 ≤ n) (h5 : n ≤ 5) : floatBits .quo .f32 1065353216 (floatOfInt .f32 (n : Int)) = some (evQ n).b := by
  refine fop_run (x := f1) (y := fI n) ?_
  have : n = 1 ∨ n = 2 ∨ n = 3 ∨ n = 4 ∨ n = 5 := by omega
  rcases this with rfl | rfl | rfl | rfl | rfl <;> decide +kernel
def evR (m n : Nat) : List F32 := List.replicate m (evQ n)
theorem evR_len (m n : Nat) : (evR m n).length = m := by simp [evR]
theorem evR_add (m k n : Nat) : fv (evR (m + k) n) = fv (evR m n) ++ fv (evR k n) := by simp [evR, fv, List.replicate_append_replicate]
theorem evR_succ (m n : Nat) : fv (evR (m + 1) n) = fv (evR m n) ++ [.float .f32 (evQ n).b] := by rw [evR_add]; rfl
theorem own_rowF {w : World} {g base n : Nat} {t : TypeId} {vs : List Value} (h : Row w g t vs) (hb : base ≤ g) (hn : vs.length = n) (hm : n ≤ maxLen) : w.ownsRow base t 1 (.slice (some ⟨g, 0, none⟩) n n) n vs :=
  ⟨by omega, .inr ⟨g, n, vs.toArray, rfl, hb, h, Nat.le_refl _, hm, by simp [hn], by rw [List.toList_toArray]; exact List.take_of_length_le (by omega)⟩⟩
theorem fv_one (xs : List F32) : ∀ u ∈ fv xs, u.oneCell' = true := by
  intro u hu
  simp only [fv, List.mem_map] at hu
  obtain ⟨x, _, rfl⟩ := hu
  rfl
theorem quo_law {n : Nat} (h1 : 1 ≤ n) (h5 : n ≤ 5) (P : Program) : ∀ (t : TypeId) (w : World), (binOp .quo t (.float .f32 1065353216) (.float .f32 (floatOfInt .f32 (n : Int)))).run P w = .ok (.float .f32 (evQ n).b) w :=
  fun t w => run_float_arith w .quo t .f32 _ _ _ (evQ_ok h1 h5)
set_option maxHeartbeats 1000000 in
theorem sEven_any (n : Nat) (h1 : 1 ≤ n) (h5 : n ≤ 5) (w : World) :
    Calls Try.prog 73 #[.int .i64 n] w fun e w' => ∃ A c, e = .returned (.slice A n c) ∧ w'.ownsRow w.heap.size 32 1 (.slice A n c) n (fv (evR n n)) ∧ Below w.heap.size w w' := by
  have hop := quo_law h1 h5 Try.prog
  have OM := Lib.hid (own_made w w.heap.size 32 1 (Nat.le_refl _))
  go_enter Try.func73, Try.ntmps73
  go_wp2_with fail
  go_loopg [3, 4] n (fun m o i wr => ∃ (k : Nat) (A : Option Addr) (c : Nat), i = .int .i64 k ∧ k ≤ n ∧ n ≤ m + k ∧ o = .slice A k c ∧ Hid (wr.ownsRow w.heap.size 32 1 (.slice A k c) k (fv (evR k n))) ∧ Hid (Below w.heap.size w wr))
  case atStart => exact ⟨0, _, _, rfl, by omega, by omega, rfl, OM.out, (Below.refl _ _).alloc (Nat.le_refl _) _⟩
  case round =>
    obtain ⟨k, A, c, rfl, hk, hm, rfl, HO, HB⟩ := hrel
    by_cases hlt : k < n
    · have HBS := Lib.hid HB.out.size
      go_wp2_with (at_builtin; refine wpList_push wr rfl (.tmp 11) (.tmp 15) _ rfl w.heap.size 32 (.float .f32 0) 4 Try.underlying22 infoF32 rfl (.slice A k c) k (fv (evR k n)) rfl HO.out (.float .f32 (evQ n).b) rfl rfl (by omega) (by omega) HBS.out ?_; intro g cap w' hown hgr hat hlt' hcap; have HOW := Lib.hid hown; have HG := Lib.hid (grown_below HO.out hgr HBS.out); clear hown hgr hat hlt' hcap)
      go_roundg (gk - 1)
      case measure => omega
      case rel => exact ⟨k + 1, _, _, by go_num, by omega, by omega, rfl, by show World.ownsRow _ _ _ _ _ _ _; rw [evR_succ]; exact HOW.out, HB.out.trans HG.out⟩
    · obtain rfl : n = k := by omega
      go_wp2_with fail
      go_ret
      exact ⟨_, _, rfl, HO.out, HB.out⟩
def evOk (S T : Int) : Bool := inB S 1 5 && (inB T 1 4 && vdM S T (evR S.toNat S.toNat) (evR (S.toNat * S.toNat) S.toNat) (evR (S.toNat * T.toNat) T.toNat))
/-- What EvenModel hands out. -/
def EvO (w : World) (base : Nat) (v : Value) (S T : Int) : Prop := MdW w base v (ckI (evOk S T) S) (ckI (evOk S T) T) (ckL (evOk S T) (evR S.toNat S.toNat)) (ckL (evOk S T) (evR (S.toNat * S.toNat) S.toNat)) (ckL (evOk S T) (evR (S.toNat * T.toNat) T.toNat))
theorem nil_MdO (w : World) (lo hi : Nat) : MdO w lo hi (.agg #[.int .i64 0, .int .i64 0, .slice none 0 0, .slice none 0 0, .slice none 0 0]) 0 0 [] [] [] := ⟨_, _, _, rfl, OwnV.nil _ _ _ _ _, OwnV.nil _ _ _ _ _, OwnV.nil _ _ _ _ _, fun k hk => by simp [Value.ownBlock] at hk, fun k hk => by simp [Value.ownBlock] at hk, fun k hk => by simp [Value.ownBlock] at hk⟩
theorem own_form' {w : World} {base n : Nat} {t : TypeId} {A : Option Addr} {c : Nat} {xs : List Value} (h : w.ownsRow base t 1 (.slice A n c) n xs) (h0 : 0 < n) : ∃ g, A = some ⟨g, 0, none⟩ ∧ base ≤ g ∧ g < w.heap.size ∧ n ≤ c ∧ ∀ j u, xs[j]? = some u → w.cell? ⟨g, 0 + j, none⟩ = some u := by
  obtain ⟨g, c', hv, hb, hlt⟩ := World.ownsRow.form h h0
  obtain ⟨A', c'', hv', hc, _⟩ := own_form h
  injection hv with e1 _ e3
  injection hv' with _ _ e3'
  subst e1
  refine ⟨g, rfl, hb, hlt, by omega, fun j u hu => ?_⟩
  have := h.cells (g := g) rfl j u hu
  have ea : (⟨g, 0, none⟩ : Addr).add j = ⟨g, 0 + j, none⟩ := by unfold Addr.add; by_cases h : j = 0 <;> simp [h]
  rw [ea] at this; exact this
theorem mulw {a b q : Nat} (h : q = a * b) (ha : a ≤ 5) (hb : b ≤ 5) : IntKind.i64.wrap ((a : Int) * (b : Int)) = (q : Int) := by
  have : q ≤ 25 := by rw [h]; exact Nat.mul_le_mul ha hb
  rw [h, IntWalk.i64_in _ (by rw [← Int.natCast_mul, ← h]; omega)]; simp
theorem iGiveG (S T : Int) (P Q R : List F32) (A2 : Option Addr) (n2 c2 : Nat) (A3 : Option Addr) (n3 c3 : Nat) (A4 : Option Addr) (n4 c4 : Nat) (w : World) (lo2 lo3 lo4 : Nat) (h2 : w.ownsRow lo2 32 1 (.slice A2 n2 c2) n2 (fv P)) (h3 : w.ownsRow lo3 32 1 (.slice A3 n3 c3) n3 (fv Q)) (h4 : w.ownsRow lo4 32 1 (.slice A4 n4 c4) n4 (fv R)) :
    Calls Try.prog 72 #[.agg #[.int .i64 S, .int .i64 T, .slice A2 n2 c2, .slice A3 n3 c3, .slice A4 n4 c4]] w fun e w' => ∃ ok, ok = vdM S T P Q R ∧ e = .returned (.tuple #[.agg #[.int .i64 (ckI ok S), .int .i64 (ckI ok T), .slice (ckA ok A2) (ckN ok n2) (ckN ok c2), .slice (ckA ok A3) (ckN ok n3) (ckN ok c3), .slice (ckA ok A4) (ckN ok n4) (ckN ok c4)], .bool ok]) ∧ Below w.heap.size w w' := by
  obtain ⟨_, _, hv2, q2, r2⟩ := own_form h2; injection hv2 with _ _ x2; subst x2
  obtain ⟨_, _, hv3, q3, r3⟩ := own_form h3; injection hv3 with _ _ x3; subst x3
  obtain ⟨_, _, hv4, q4, r4⟩ := own_form h4; injection hv4 with _ _ x4; subst x4
  unfold maxLen at r2 r3 r4
  refine (iGiveM_any S T P Q R A2 n2 c2 A3 n3 c3 A4 n4 c4 w (own_sl h2) (own_sl h3) (own_sl h4) q2 (by omega) q3 (by omega) q4 (by omega)).mono ?_
  rintro e w' ⟨rfl, hb⟩
  exact ⟨_, rfl, by rw [ckV_agg], hb⟩
theorem sGiveG (S T : Int) (P Q R : List F32) (A2 : Option Addr) (n2 c2 : Nat) (A3 : Option Addr) (n3 c3 : Nat) (A4 : Option Addr) (n4 c4 : Nat) (w : World) (lo2 lo3 lo4 : Nat) (h2 : w.ownsRow lo2 32 1 (.slice A2 n2 c2) n2 (fv P)) (h3 : w.ownsRow lo3 32 1 (.slice A3 n3 c3) n3 (fv Q)) (h4 : w.ownsRow lo4 32 1 (.slice A4 n4 c4) n4 (fv R)) :
    Calls Try.prog 69 #[.agg #[.int .i64 S, .int .i64 T, .slice A2 n2 c2, .slice A3 n3 c3, .slice A4 n4 c4]] w fun e w' => ∃ ok, ok = vdM S T P Q R ∧ e = .returned (.tuple #[.agg #[.int .i64 (ckI ok S), .int .i64 (ckI ok T), .slice (ckA ok A2) (ckN ok n2) (ckN ok c2), .slice (ckA ok A3) (ckN ok n3) (ckN ok c3), .slice (ckA ok A4) (ckN ok n4) (ckN ok c4)], .bool ok]) ∧ Below w.heap.size w w' := by
  obtain ⟨_, _, hv2, q2, r2⟩ := own_form h2; injection hv2 with _ _ x2; subst x2
  obtain ⟨_, _, hv3, q3, r3⟩ := own_form h3; injection hv3 with _ _ x3; subst x3
  obtain ⟨_, _, hv4, q4, r4⟩ := own_form h4; injection hv4 with _ _ x4; subst x4
  unfold maxLen at r2 r3 r4
  refine (sGiveM_any S T P Q R A2 n2 c2 A3 n3 c3 A4 n4 c4 w (own_sl h2) (own_sl h3) (own_sl h4) q2 (by omega) q3 (by omega) q4 (by omega)).mono ?_
  rintro e w' ⟨rfl, hb⟩
  exact ⟨_, rfl, by rw [ckV_agg], hb⟩
set_option maxRecDepth 100000 in
set_option maxHeartbeats 4000000 in
theorem iEvenM_no1 (S T : Int) (w : World) (q1 : inB S 1 5 = false) :
    Calls Try.prog 26 #[.int .i64 S, .int .i64 T] w fun e w' => ∃ v', e = .returned (.tuple #[v', .bool (evOk S T)]) ∧ EvO w' w.heap.size v' S T ∧ Below w.heap.size w w' := by
  have W1 := iIn_any S 1 5; have W2 := iIn_any T 1 4
  have rr := Row.new w 27 [.int .i64 0, .int .i64 0, .slice none 0 0, .slice none 0 0, .slice none 0 0]
  have bx : Below w.heap.size w (w.alloc (.cells ([.int .i64 0, .int .i64 0, .slice none 0 0, .slice none 0 0, .slice none 0 0] : List Value).toArray 27)) := (Below.refl _ _).alloc (Nat.le_refl _) _
  have RR := Lib.hid rr; have BX := Lib.hid bx; clear rr bx
  rw [q1] at W1
  have HN : Hid (evOk S T = false) := by show _ = _; rw [evOk, q1]; rfl
  have W1 := Lib.hid W1; have W2 := Lib.hid W2
  clear q1
  have r0 := RR.out.cell 0; have r1 := RR.out.cell 1; have r2 := RR.out.cell 2; have r3 := RR.out.cell 3; have r4 := RR.out.cell 4; have f0 := RR.out.frozen 0; have f1 := RR.out.frozen 1; have f2 := RR.out.frozen 2; have f3 := RR.out.frozen 3; have f4 := RR.out.frozen 4
  go_enter Try.func26, Try.ntmps26
  go_wp2_with (first | (go_at_call 65; refine (W1.out _).mono ?_; rintro e w' ⟨rfl, hw⟩; subst hw; clear W1))
  clear r0 f0 r1 f1 r2 f2 r3 f3 r4 f4
  refine bodyPost_ret (results_cell2 rfl _ _ w.heap.size 27 #[.int .i64 0, .int .i64 0, .slice none 0 0, .slice none 0 0, .slice none 0 0] (0, 0) _ (.bool false) rfl rfl RR.out Try.underlying27 rfl (by kernel_rfl)) rfl ?_
  exact ⟨.agg #[.int .i64 0, .int .i64 0, .slice none 0 0, .slice none 0 0, .slice none 0 0], by rw [HN.out], by unfold EvO; rw [HN.out]; exact nil_MdO _ _ _, BX.out⟩
set_option maxRecDepth 100000 in
set_option maxHeartbeats 4000000 in
theorem iEvenM_no2 (S T : Int) (w : World) (q1 : inB S 1 5 = true) (q2 : inB T 1 4 = false) :
    Calls Try.prog 26 #[.int .i64 S, .int .i64 T] w fun e w' => ∃ v', e = .returned (.tuple #[v', .bool (evOk S T)]) ∧ EvO w' w.heap.size v' S T ∧ Below w.heap.size w w' := by
  have W1 := iIn_any S 1 5; have W2 := iIn_any T 1 4
  have rr := Row.new w 27 [.int .i64 0, .int .i64 0, .slice none 0 0, .slice none 0 0, .slice none 0 0]
  have bx : Below w.heap.size w (w.alloc (.cells ([.int .i64 0, .int .i64 0, .slice none 0 0, .slice none 0 0, .slice none 0 0] : List Value).toArray 27)) := (Below.refl _ _).alloc (Nat.le_refl _) _
  have RR := Lib.hid rr; have BX := Lib.hid bx; clear rr bx
  rw [q1] at W1; rw [q2] at W2
  have HN : Hid (evOk S T = false) := by show _ = _; rw [evOk, q1, q2]; rfl
  have W1 := Lib.hid W1; have W2 := Lib.hid W2
  clear q1 q2
  have r0 := RR.out.cell 0; have r1 := RR.out.cell 1; have r2 := RR.out.cell 2; have r3 := RR.out.cell 3; have r4 := RR.out.cell 4; have f0 := RR.out.frozen 0; have f1 := RR.out.frozen 1; have f2 := RR.out.frozen 2; have f3 := RR.out.frozen 3; have f4 := RR.out.frozen 4
  go_enter Try.func26, Try.ntmps26
  go_wp2_with (first | (go_at_call 65; refine (W1.out _).mono ?_; rintro e w' ⟨rfl, hw⟩; subst hw; clear W1) | (go_at_call 65; refine (W2.out _).mono ?_; rintro e w' ⟨rfl, hw⟩; subst hw; clear W2))
  clear r0 f0 r1 f1 r2 f2 r3 f3 r4 f4
  refine bodyPost_ret (results_cell2 rfl _ _ w.heap.size 27 #[.int .i64 0, .int .i64 0, .slice none 0 0, .slice none 0 0, .slice none 0 0] (0, 0) _ (.bool false) rfl rfl RR.out Try.underlying27 rfl (by kernel_rfl)) rfl ?_
  exact ⟨.agg #[.int .i64 0, .int .i64 0, .slice none 0 0, .slice none 0 0, .slice none 0 0], by rw [HN.out], by unfold EvO; rw [HN.out]; exact nil_MdO _ _ _, BX.out⟩
set_option maxRecDepth 100000 in
set_option maxHeartbeats 4000000 in
theorem iEvenM_yes (S T : Int) (w : World) (q1 : inB S 1 5 = true) (q2 : inB T 1 4 = true) :
    Calls Try.prog 26 #[.int .i64 S, .int .i64 T] w fun e w' => ∃ v', e = .returned (.tuple #[v', .bool (evOk S T)]) ∧ EvO w' w.heap.size v' S T ∧ Below w.heap.size w w' := by
  have W1 := iIn_any S 1 5; have W2 := iIn_any T 1 4
  have rr := Row.new w 27 [.int .i64 0, .int .i64 0, .slice none 0 0, .slice none 0 0, .slice none 0 0]
  have bx : Below w.heap.size w (w.alloc (.cells ([.int .i64 0, .int .i64 0, .slice none 0 0, .slice none 0 0, .slice none 0 0] : List Value).toArray 27)) := (Below.refl _ _).alloc (Nat.le_refl _) _
  have RR := Lib.hid rr; have BX := Lib.hid bx; clear rr bx
  have hS := inB_true q1; have hT := inB_true q2
  rw [q1] at W1; rw [q2] at W2
  have HD : Hid (evOk S T = vdM S T (evR S.toNat S.toNat) (evR (S.toNat * S.toNat) S.toNat) (evR (S.toNat * T.toNat) T.toNat)) := by show _ = _; rw [evOk, q1, q2]; rfl
  clear q1 q2
  obtain ⟨s, rfl⟩ : ∃ s : Nat, S = (s : Int) := ⟨S.toNat, by omega⟩
  obtain ⟨t, rfl⟩ : ∃ t : Nat, T = (t : Int) := ⟨T.toNat, by omega⟩
  simp only [Int.toNat_natCast] at HD
  have s1 : 1 ≤ s := by omega
  have s5 : s ≤ 5 := by omega
  have t1 : 1 ≤ t := by omega
  have t5 : t ≤ 5 := by omega
  have W1 := Lib.hid W1; have W2 := Lib.hid W2
  clear hS hT
  obtain ⟨q3, hq3⟩ : ∃ q, q = s * s := ⟨_, rfl⟩
  obtain ⟨q4, hq4⟩ : ∃ q, q = s * t := ⟨_, rfl⟩
  have b3 : 1 ≤ q3 ∧ q3 ≤ 25 := ⟨by rw [hq3]; exact Nat.mul_pos s1 s1, by rw [hq3]; exact Nat.mul_le_mul s5 s5⟩
  have b4 : 1 ≤ q4 ∧ q4 ≤ 25 := ⟨by rw [hq4]; exact Nat.mul_pos s1 t1, by rw [hq4]; exact Nat.mul_le_mul s5 t5⟩
  obtain ⟨b3, b3'⟩ := b3
  obtain ⟨b4, b4'⟩ := b4
  have w3 := mulw hq3 s5 s5
  have w4 := mulw hq4 s5 t5
  rw [← hq3, ← hq4] at HD
  have Q3 := Lib.hid hq3; have Q4 := Lib.hid hq4
  clear hq3 hq4
  have hop := quo_law s1 s5 Try.prog
  have hop2 := quo_law t1 (show t ≤ 5 by omega) Try.prog
  have r1 := Row.new (w.alloc (.cells ([.int .i64 0, .int .i64 0, .slice none 0 0, .slice none 0 0, .slice none 0 0] : List Value).toArray 27)) 32 [.float .f32 (evQ s).b]
  rw [show (w.alloc (.cells ([.int .i64 0, .int .i64 0, .slice none 0 0, .slice none 0 0, .slice none 0 0] : List Value).toArray 27)).heap.size = w.heap.size + 1 by simp] at r1
  have r0 := RR.out.alloc (.cells ([.float .f32 (evQ s).b] : List Value).toArray 32)
  have b0 : Below w.heap.size w ((w.alloc (.cells ([.int .i64 0, .int .i64 0, .slice none 0 0, .slice none 0 0, .slice none 0 0] : List Value).toArray 27)).alloc (.cells ([.float .f32 (evQ s).b] : List Value).toArray 32)) := BX.out.alloc (by simp) _
  have R0 := Lib.hid r0; have R1 := Lib.hid r1; have B0 := Lib.hid b0
  clear r0 r1 b0
  go_enter Try.func26, Try.ntmps26
  go_wp2_with (first | (go_at_call 65; refine (W1.out _).mono ?_; rintro e w' ⟨rfl, hw⟩; subst hw; clear W1) | (go_at_call 65; refine (W2.out _).mono ?_; rintro e w' ⟨rfl, hw⟩; subst hw; clear W2))
  obtain ⟨x0, hx0⟩ : ∃ x, x = (w.alloc (.cells ([.int .i64 0, .int .i64 0, .slice none 0 0, .slice none 0 0, .slice none 0 0] : List Value).toArray 27)).alloc (.cells ([.float .f32 (evQ s).b] : List Value).toArray 32) := ⟨_, rfl⟩
  rw [← hx0] at R0 R1 B0
  change Calls _ _ _ ((w.alloc (.cells ([.int .i64 0, .int .i64 0, .slice none 0 0, .slice none 0 0, .slice none 0 0] : List Value).toArray 27)).alloc (.cells ([.float .f32 (evQ s).b] : List Value).toArray 32)) _
  rw [← hx0]
  clear hx0
  refine (iRepeatF_any (w.heap.size + 1) 1 (evQ s) s x0 (R1.out.cell 0) (by omega) (by omega)).mono ?_
  rintro e v1 ⟨g2, rfl, hg2, hr2, hb1⟩
  have K1 : Hid (w.heap.size + 2 ≤ g2) := by show _ ≤ _; have := R1.out.lt; omega
  have R0 := Lib.hid (R0.out.below hb1 R0.out.lt); have R1 := Lib.hid (R1.out.below hb1 R1.out.lt); have B1 := Lib.hid (B0.out.trans (hb1.mono B0.out.size)); have R2 := Lib.hid hr2
  clear hg2 hr2 hb1
  go_wp2_with fail
  refine (iRepeatF_any (w.heap.size + 1) 1 (evQ s) q3 v1 (R1.out.cell 0) (by omega) (by omega)).mono ?_
  rintro e v2 ⟨g3, rfl, hg3, hr3, hb2⟩
  have K2 : Hid (g2 < g3) := by show _ < _; have := R2.out.lt; omega
  have R0 := Lib.hid (R0.out.below hb2 R0.out.lt); have R2 := Lib.hid (R2.out.below hb2 R2.out.lt); have B2 := Lib.hid (B1.out.trans (hb2.mono B1.out.size)); have R3 := Lib.hid hr3
  clear hg3 hr3 hb2 R1 B0 B1
  have r5 := Row.new v2 32 [.float .f32 (evQ t).b]
  have r0 := R0.out.alloc (.cells ([.float .f32 (evQ t).b] : List Value).toArray 32)
  have r2 := R2.out.alloc (.cells ([.float .f32 (evQ t).b] : List Value).toArray 32)
  have r3 := R3.out.alloc (.cells ([.float .f32 (evQ t).b] : List Value).toArray 32)
  have b3x : Below w.heap.size w (v2.alloc (.cells ([.float .f32 (evQ t).b] : List Value).toArray 32)) := B2.out.alloc B2.out.size _
  have hsz : v2.heap.size < (v2.alloc (.cells ([.float .f32 (evQ t).b] : List Value).toArray 32)).heap.size := by simp
  go_wp2_with fail
  obtain ⟨x3, hx3⟩ : ∃ x, x = v2.alloc (.cells ([.float .f32 (evQ t).b] : List Value).toArray 32) := ⟨_, rfl⟩
  change Calls _ _ _ (v2.alloc (.cells ([.float .f32 (evQ t).b] : List Value).toArray 32)) _
  rw [← hx3] at r5 r0 r2 r3 b3x hsz ⊢
  clear hx3
  refine (iRepeatF_any v2.heap.size 1 (evQ t) q4 x3 (r5.cell 0) (by omega) (by omega)).mono ?_
  rintro e v3 ⟨g4, rfl, hg4, hr4, hb3⟩
  have K3 : Hid (g3 < g4) := by show _ < _; have := R3.out.lt; omega
  have RZ := Lib.hid (r0.below hb3 r0.lt); have HBr := Lib.hid (b3x.trans (hb3.mono b3x.size))
  have r2 := r2.below hb3 r2.lt; have r3 := r3.below hb3 r3.lt
  have k1 := K1.out; have k2 := K2.out; have k3 := K3.out
  obtain ⟨A2, hA2⟩ : ∃ A : Option Addr, A = some ⟨g2, 0, none⟩ := ⟨_, rfl⟩
  obtain ⟨A3, hA3⟩ : ∃ A : Option Addr, A = some ⟨g3, 0, none⟩ := ⟨_, rfl⟩
  obtain ⟨A4, hA4⟩ : ∃ A : Option Addr, A = some ⟨g4, 0, none⟩ := ⟨_, rfl⟩
  have O2 : Hid (v3.ownsRow (w.heap.size + 1) 32 1 (.slice A2 s s) s (fv (evR s s))) := by show World.ownsRow _ _ _ _ _ _ _; rw [hA2]; exact own_rowF r2 (by omega) (by rw [fv_length, evR_len]) (by unfold maxLen; omega)
  have O3 : Hid (v3.ownsRow (w.heap.size + 1) 32 1 (.slice A3 q3 q3) q3 (fv (evR q3 s))) := by show World.ownsRow _ _ _ _ _ _ _; rw [hA3]; exact own_rowF r3 (by omega) (by rw [fv_length, evR_len]) (by unfold maxLen; omega)
  have O4 : Hid (v3.ownsRow (w.heap.size + 1) 32 1 (.slice A4 q4 q4) q4 (fv (evR q4 t))) := by show World.ownsRow _ _ _ _ _ _ _; rw [hA4]; exact own_rowF hr4 (by omega) (by rw [fv_length, evR_len]) (by unfold maxLen; omega)
  have DD : Hid ((∀ k, (Value.slice A2 s s).ownBlock = some k → (Value.slice A3 q3 q3).ownBlock ≠ some k) ∧ (∀ k, (Value.slice A2 s s).ownBlock = some k → (Value.slice A4 q4 q4).ownBlock ≠ some k) ∧ (∀ k, (Value.slice A3 q3 q3).ownBlock = some k → (Value.slice A4 q4 q4).ownBlock ≠ some k)) := by
    rw [hA2, hA3, hA4]
    refine ⟨fun k hk h2 => ?_, fun k hk h2 => ?_, fun k hk h2 => ?_⟩ <;> (simp [Value.ownBlock] at hk h2; omega)
  rw [← hA2, ← hA3, ← hA4]
  clear r0 r2 r3 r5 hr4 hg4 hb3 b3x hsz hA2 hA3 hA4 k1 k2 k3
  obtain ⟨c2, hc2⟩ : ∃ c, c = s := ⟨_, rfl⟩
  clear hc2 c2
  have C := Lib.hid (iGiveG (s : Int) (t : Int) (evR s s) (evR q3 s) (evR q4 t) A2 s s A3 q3 q3 A4 q4 q4 v3 _ _ _ O2.out O3.out O4.out)
  go_wp2_with fail
  refine C.out.mono ?_
  rintro e wy ⟨ok2, hok2, rfl, hby⟩
  have RRY := Lib.hid (RZ.out.below hby RZ.out.lt)
  have HOK2 := Lib.hid hok2; clear hok2
  have y0 := RRY.out.cell 0; have y1 := RRY.out.cell 1; have y2 := RRY.out.cell 2; have y3 := RRY.out.cell 3; have y4 := RRY.out.cell 4; have f0 := RRY.out.frozen 0; have f1 := RRY.out.frozen 1; have f2 := RRY.out.frozen 2; have f3 := RRY.out.frozen 3; have f4 := RRY.out.frozen 4
  go_wp2_with fail
  clear y0 f0 y1 f1 y2 f2 y3 f3 y4 f4
  have hF := (((((RRY.out.set_ 0 (.int .i64 (ckI ok2 s))).set_ 1 (.int .i64 (ckI ok2 t))).set_ 2 (.slice (ckA ok2 A2) (ckN ok2 s) (ckN ok2 s))).set_ 3 (.slice (ckA ok2 A3) (ckN ok2 q3) (ckN ok2 q3))).set_ 4 (.slice (ckA ok2 A4) (ckN ok2 q4) (ckN ok2 q4)))
  have hBF : Below w.heap.size w (((((wy.setCell ⟨w.heap.size, 0, none⟩ (.int .i64 (ckI ok2 s))).setCell ⟨w.heap.size, 1, none⟩ (.int .i64 (ckI ok2 t))).setCell ⟨w.heap.size, 2, none⟩ (.slice (ckA ok2 A2) (ckN ok2 s) (ckN ok2 s))).setCell ⟨w.heap.size, 3, none⟩ (.slice (ckA ok2 A3) (ckN ok2 q3) (ckN ok2 q3))).setCell ⟨w.heap.size, 4, none⟩ (.slice (ckA ok2 A4) (ckN ok2 q4) (ckN ok2 q4))) := ((((((HBr.out.trans (hby.mono HBr.out.size)).setCell (p := ⟨w.heap.size, 0, none⟩) (show w.heap.size ≤ w.heap.size by omega) (.int .i64 (ckI ok2 s))).setCell (p := ⟨w.heap.size, 1, none⟩) (show w.heap.size ≤ w.heap.size by omega) (.int .i64 (ckI ok2 t))).setCell (p := ⟨w.heap.size, 2, none⟩) (show w.heap.size ≤ w.heap.size by omega) (.slice (ckA ok2 A2) (ckN ok2 s) (ckN ok2 s))).setCell (p := ⟨w.heap.size, 3, none⟩) (show w.heap.size ≤ w.heap.size by omega) (.slice (ckA ok2 A3) (ckN ok2 q3) (ckN ok2 q3))).setCell (p := ⟨w.heap.size, 4, none⟩) (show w.heap.size ≤ w.heap.size by omega) (.slice (ckA ok2 A4) (ckN ok2 q4) (ckN ok2 q4)))
  have hkp : ∀ g, g < v3.heap.size → g ≠ w.heap.size → (((((wy.setCell ⟨w.heap.size, 0, none⟩ (.int .i64 (ckI ok2 s))).setCell ⟨w.heap.size, 1, none⟩ (.int .i64 (ckI ok2 t))).setCell ⟨w.heap.size, 2, none⟩ (.slice (ckA ok2 A2) (ckN ok2 s) (ckN ok2 s))).setCell ⟨w.heap.size, 3, none⟩ (.slice (ckA ok2 A3) (ckN ok2 q3) (ckN ok2 q3))).setCell ⟨w.heap.size, 4, none⟩ (.slice (ckA ok2 A4) (ckN ok2 q4) (ckN ok2 q4))).heap[g]? = v3.heap[g]? := fun g h1 h2 => (heap_set5 _ _ _ _ _ h2).trans (hby.block g h1)
  have hsF : v3.heap.size ≤ (((((wy.setCell ⟨w.heap.size, 0, none⟩ (.int .i64 (ckI ok2 s))).setCell ⟨w.heap.size, 1, none⟩ (.int .i64 (ckI ok2 t))).setCell ⟨w.heap.size, 2, none⟩ (.slice (ckA ok2 A2) (ckN ok2 s) (ckN ok2 s))).setCell ⟨w.heap.size, 3, none⟩ (.slice (ckA ok2 A3) (ckN ok2 q3) (ckN ok2 q3))).setCell ⟨w.heap.size, 4, none⟩ (.slice (ckA ok2 A4) (ckN ok2 q4) (ckN ok2 q4))).heap.size := by have := hby.size; simpa using this
  refine bodyPost_ret (results_cell2 rfl _ _ w.heap.size 27 #[.int .i64 (ckI ok2 s), .int .i64 (ckI ok2 t), .slice (ckA ok2 A2) (ckN ok2 s) (ckN ok2 s), .slice (ckA ok2 A3) (ckN ok2 q3) (ckN ok2 q3), .slice (ckA ok2 A4) (ckN ok2 q4) (ckN ok2 q4)] (0, 0) _ (.bool ok2) rfl rfl hF Try.underlying27 rfl (by kernel_rfl)) rfl ?_
  obtain ⟨F, hFF⟩ : ∃ F, F = (((((wy.setCell ⟨w.heap.size, 0, none⟩ (.int .i64 (ckI ok2 s))).setCell ⟨w.heap.size, 1, none⟩ (.int .i64 (ckI ok2 t))).setCell ⟨w.heap.size, 2, none⟩ (.slice (ckA ok2 A2) (ckN ok2 s) (ckN ok2 s))).setCell ⟨w.heap.size, 3, none⟩ (.slice (ckA ok2 A3) (ckN ok2 q3) (ckN ok2 q3))).setCell ⟨w.heap.size, 4, none⟩ (.slice (ckA ok2 A4) (ckN ok2 q4) (ckN ok2 q4))) := ⟨_, rfl⟩
  rw [← hFF] at hBF hkp hsF ⊢
  clear hF hFF
  have hf : evOk (s : Int) (t : Int) = ok2 := by rw [HD.out, HOK2.out]
  have o2' := own_move O2.out (fun g hg => hkp g (O2.out.lt g hg).2 (by have := (O2.out.lt g hg).1; omega))
  have o3' := own_move O3.out (fun g hg => hkp g (O3.out.lt g hg).2 (by have := (O3.out.lt g hg).1; omega))
  have o4' := own_move O4.out (fun g hg => hkp g (O4.out.lt g hg).2 (by have := (O4.out.lt g hg).1; omega))
  refine ⟨ckV ok2 (.agg #[.int .i64 s, .int .i64 t, .slice A2 s s, .slice A3 q3 q3, .slice A4 q4 q4]), by rw [hf, ckV_agg], ?_, hBF⟩
  unfold EvO
  rw [hf]
  simp only [Int.toNat_natCast]
  rw [← Q3.out, ← Q4.out]
  exact ckO ok2 ⟨_, _, _, rfl, OwnV.of (by rw [evR_len]; exact World.ownsRow.mono o2' (by omega)), OwnV.of (by rw [evR_len]; exact World.ownsRow.mono o3' (by omega)), OwnV.of (by rw [evR_len]; exact World.ownsRow.mono o4' (by omega)), DD.out.1, DD.out.2.1, DD.out.2.2⟩
set_option maxRecDepth 100000 in
set_option maxHeartbeats 4000000 in
theorem iEvenM_any (S T : Int) (w : World)  :
    Calls Try.prog 26 #[.int .i64 S, .int .i64 T] w fun e w' => ∃ v', e = .returned (.tuple #[v', .bool (evOk S T)]) ∧ EvO w' w.heap.size v' S T ∧ Below w.heap.size w w' := by
  cases q1 : inB S 1 5 with
  | false => exact iEvenM_no1 S T w q1
  | true =>
    cases q2 : inB T 1 4 with
    | false => exact iEvenM_no2 S T w q1 q2
    | true => exact iEvenM_yes S T w q1 q2
set_option maxRecDepth 100000 in
set_option maxHeartbeats 4000000 in
theorem sEvenM_no1 (S T : Int) (w : World) (q1 : inB S 1 5 = false) :
    Calls Try.prog 25 #[.int .i64 S, .int .i64 T] w fun e w' => ∃ v', e = .returned (.tuple #[v', .bool (evOk S T)]) ∧ EvO w' w.heap.size v' S T ∧ Below w.heap.size w w' := by
  have W1 := sIn_any S 1 5; have W2 := sIn_any T 1 4
  have rr := Row.new w 27 [.int .i64 0, .int .i64 0, .slice none 0 0, .slice none 0 0, .slice none 0 0]
  have bx : Below w.heap.size w (w.alloc (.cells ([.int .i64 0, .int .i64 0, .slice none 0 0, .slice none 0 0, .slice none 0 0] : List Value).toArray 27)) := (Below.refl _ _).alloc (Nat.le_refl _) _
  have RR := Lib.hid rr; have BX := Lib.hid bx; clear rr bx
  rw [q1] at W1
  have HN : Hid (evOk S T = false) := by show _ = _; rw [evOk, q1]; rfl
  have W1 := Lib.hid W1; have W2 := Lib.hid W2
  clear q1
  have r0 := RR.out.cell 0; have r1 := RR.out.cell 1; have r2 := RR.out.cell 2; have r3 := RR.out.cell 3; have r4 := RR.out.cell 4; have f0 := RR.out.frozen 0; have f1 := RR.out.frozen 1; have f2 := RR.out.frozen 2; have f3 := RR.out.frozen 3; have f4 := RR.out.frozen 4
  go_enter Try.func25, Try.ntmps25
  go_wp2_with (first | (go_at_call 67; refine (W1.out _).mono ?_; rintro e w' ⟨rfl, hw⟩; subst hw; clear W1))
  clear r0 f0 r1 f1 r2 f2 r3 f3 r4 f4
  refine bodyPost_ret (results_cell2 rfl _ _ w.heap.size 27 #[.int .i64 0, .int .i64 0, .slice none 0 0, .slice none 0 0, .slice none 0 0] (0, 0) _ (.bool false) rfl rfl RR.out Try.underlying27 rfl (by kernel_rfl)) rfl ?_
  exact ⟨.agg #[.int .i64 0, .int .i64 0, .slice none 0 0, .slice none 0 0, .slice none 0 0], by rw [HN.out], by unfold EvO; rw [HN.out]; exact nil_MdO _ _ _, BX.out⟩
set_option maxRecDepth 100000 in
set_option maxHeartbeats 4000000 in
theorem sEvenM_no2 (S T : Int) (w : World) (q1 : inB S 1 5 = true) (q2 : inB T 1 4 = false) :
    Calls Try.prog 25 #[.int .i64 S, .int .i64 T] w fun e w' => ∃ v', e = .returned (.tuple #[v', .bool (evOk S T)]) ∧ EvO w' w.heap.size v' S T ∧ Below w.heap.size w w' := by
  have W1 := sIn_any S 1 5; have W2 := sIn_any T 1 4
  have rr := Row.new w 27 [.int .i64 0, .int .i64 0, .slice none 0 0, .slice none 0 0, .slice none 0 0]
  have bx : Below w.heap.size w (w.alloc (.cells ([.int .i64 0, .int .i64 0, .slice none 0 0, .slice none 0 0, .slice none 0 0] : List Value).toArray 27)) := (Below.refl _ _).alloc (Nat.le_refl _) _
  have RR := Lib.hid rr; have BX := Lib.hid bx; clear rr bx
  rw [q1] at W1; rw [q2] at W2
  have HN : Hid (evOk S T = false) := by show _ = _; rw [evOk, q1, q2]; rfl
  have W1 := Lib.hid W1; have W2 := Lib.hid W2
  clear q1 q2
  have r0 := RR.out.cell 0; have r1 := RR.out.cell 1; have r2 := RR.out.cell 2; have r3 := RR.out.cell 3; have r4 := RR.out.cell 4; have f0 := RR.out.frozen 0; have f1 := RR.out.frozen 1; have f2 := RR.out.frozen 2; have f3 := RR.out.frozen 3; have f4 := RR.out.frozen 4
  go_enter Try.func25, Try.ntmps25
  go_wp2_with (first | (go_at_call 67; refine (W1.out _).mono ?_; rintro e w' ⟨rfl, hw⟩; subst hw; clear W1) | (go_at_call 67; refine (W2.out _).mono ?_; rintro e w' ⟨rfl, hw⟩; subst hw; clear W2))
  clear r0 f0 r1 f1 r2 f2 r3 f3 r4 f4
  refine bodyPost_ret (results_cell2 rfl _ _ w.heap.size 27 #[.int .i64 0, .int .i64 0, .slice none 0 0, .slice none 0 0, .slice none 0 0] (0, 0) _ (.bool false) rfl rfl RR.out Try.underlying27 rfl (by kernel_rfl)) rfl ?_
  exact ⟨.agg #[.int .i64 0, .int .i64 0, .slice none 0 0, .slice none 0 0, .slice none 0 0], by rw [HN.out], by unfold EvO; rw [HN.out]; exact nil_MdO _ _ _, BX.out⟩
set_option maxRecDepth 100000 in
set_option maxHeartbeats 4000000 in
theorem sEvenM_yes (S T : Int) (w : World) (q1 : inB S 1 5 = true) (q2 : inB T 1 4 = true) :
    Calls Try.prog 25 #[.int .i64 S, .int .i64 T] w fun e w' => ∃ v', e = .returned (.tuple #[v', .bool (evOk S T)]) ∧ EvO w' w.heap.size v' S T ∧ Below w.heap.size w w' := by
  have W1 := sIn_any S 1 5; have W2 := sIn_any T 1 4
  have rr := Row.new w 27 [.int .i64 0, .int .i64 0, .slice none 0 0, .slice none 0 0, .slice none 0 0]
  have bx : Below w.heap.size w (w.alloc (.cells ([.int .i64 0, .int .i64 0, .slice none 0 0, .slice none 0 0, .slice none 0 0] : List Value).toArray 27)) := (Below.refl _ _).alloc (Nat.le_refl _) _
  have RR := Lib.hid rr; have BX := Lib.hid bx; clear rr bx
  have hS := inB_true q1; have hT := inB_true q2
  rw [q1] at W1; rw [q2] at W2
  have HD : Hid (evOk S T = vdM S T (evR S.toNat S.toNat) (evR (S.toNat * S.toNat) S.toNat) (evR (S.toNat * T.toNat) T.toNat)) := by show _ = _; rw [evOk, q1, q2]; rfl
  clear q1 q2
  obtain ⟨s, rfl⟩ : ∃ s : Nat, S = (s : Int) := ⟨S.toNat, by omega⟩
  obtain ⟨t, rfl⟩ : ∃ t : Nat, T = (t : Int) := ⟨T.toNat, by omega⟩
  simp only [Int.toNat_natCast] at HD
  have s1 : 1 ≤ s := by omega
  have s5 : s ≤ 5 := by omega
  have t1 : 1 ≤ t := by omega
  have t5 : t ≤ 5 := by omega
  have W1 := Lib.hid W1; have W2 := Lib.hid W2
  clear hS hT
  obtain ⟨q3, hq3⟩ : ∃ q, q = s * s := ⟨_, rfl⟩
  obtain ⟨q4, hq4⟩ : ∃ q, q = s * t := ⟨_, rfl⟩
  have b3 : 1 ≤ q3 ∧ q3 ≤ 25 := ⟨by rw [hq3]; exact Nat.mul_pos s1 s1, by rw [hq3]; exact Nat.mul_le_mul s5 s5⟩
  have b4 : 1 ≤ q4 ∧ q4 ≤ 25 := ⟨by rw [hq4]; exact Nat.mul_pos s1 t1, by rw [hq4]; exact Nat.mul_le_mul s5 t5⟩
  obtain ⟨b3, b3'⟩ := b3
  obtain ⟨b4, b4'⟩ := b4
  have w3 := mulw hq3 s5 s5
  have w4 := mulw hq4 s5 t5
  rw [← hq3, ← hq4] at HD
  have Q3 := Lib.hid hq3; have Q4 := Lib.hid hq4
  clear hq3 hq4
  have hop := quo_law s1 s5 Try.prog
  have hop2 := quo_law t1 (show t ≤ 5 by omega) Try.prog
  clear w3 w4 hop hop2
  go_enter Try.func25, Try.ntmps25
  go_wp2_with (first | (go_at_call 67; refine (W1.out _).mono ?_; rintro e w' ⟨rfl, hw⟩; subst hw; clear W1) | (go_at_call 67; refine (W2.out _).mono ?_; rintro e w' ⟨rfl, hw⟩; subst hw; clear W2))
  obtain ⟨x0, hx0⟩ : ∃ x, x = w.alloc (.cells ([.int .i64 0, .int .i64 0, .slice none 0 0, .slice none 0 0, .slice none 0 0] : List Value).toArray 27) := ⟨_, rfl⟩
  have hs0 : (w.alloc (.cells ([.int .i64 0, .int .i64 0, .slice none 0 0, .slice none 0 0, .slice none 0 0] : List Value).toArray 27)).heap.size = w.heap.size + 1 := by simp
  rw [← hx0] at RR BX hs0
  change Calls _ _ _ (w.alloc (.cells ([.int .i64 0, .int .i64 0, .slice none 0 0, .slice none 0 0, .slice none 0 0] : List Value).toArray 27)) _
  rw [← hx0]
  clear hx0
  refine (sEven_any s s1 s5 x0).mono ?_
  rintro e v0 ⟨A2, c2, rfl, hO, hb⟩
  rw [hs0] at hO hb
  have HS0 := Lib.hid hs0; clear hs0
  have g0 : w.heap.size + 1 ≤ v0.heap.size := by have := hb.size; have := HS0.out; omega
  have hm0 : M3 x0 (v0.alloc (.cells ([.int .i64 (s : Int), .int .i64 (t : Int), .slice A2 s c2, .slice none 0 0, .slice none 0 0] : List Value).toArray 27)) (w.heap.size + 1) v0.heap.size 27 32 32 32 1 1 1 (.int .i64 (s : Int)) (.int .i64 (t : Int)) (.slice A2 s c2) (.slice none 0 0) (.slice none 0 0) s 0 0 (fv (evR s s)) (fv (evR 0 s)) (fv (evR 0 t)) := ⟨Row.new v0 _ _, hb.alloc g0 _, g0, by rw [HS0.out]; exact Nat.le_refl _, hO.alloc _, World.ownsRow_nil _ _ _ _, World.ownsRow_nil _ _ _ _, fun k hk => ⟨Nat.ne_of_lt (hO.lt k hk).2, by simp [Value.ownBlock], by simp [Value.ownBlock]⟩, fun k hk => by simp [Value.ownBlock] at hk, fun k hk => by simp [Value.ownBlock] at hk⟩
  have HM0 := Lib.hid hm0
  clear hm0 hO hb g0
  go_wp2_with fail
  obtain ⟨g6, hg6⟩ : ∃ g, g = v0.heap.size := ⟨_, rfl⟩
  rw [← hg6] at HM0 ⊢
  clear hg6
  go_loopg [7] s (fun m i wr => ∃ (k : Nat) (A3 : Option Addr) (n3 c3 : Nat) (A4 : Option Addr) (n4 c4 : Nat), i = .int .i64 k ∧ k ≤ s ∧ s ≤ m + k ∧ Hid (n3 = k * s) ∧ Hid (n4 = k * t) ∧ Hid (M3 x0 wr (w.heap.size + 1) g6 27 32 32 32 1 1 1 (.int .i64 (s : Int)) (.int .i64 (t : Int)) (.slice A2 s c2) (.slice A3 n3 c3) (.slice A4 n4 c4) s n3 n4 (fv (evR s s)) (fv (evR n3 s)) (fv (evR n4 t))))
  case atStart => exact ⟨0, none, 0, 0, none, 0, 0, rfl, by omega, by omega, by show _ = _; simp, by show _ = _; simp, HM0.out⟩
  case round =>
    obtain ⟨k, A3, n3, c3, A4, n4, c4, rfl, hk, hm, N3, N4, HM⟩ := hrel
    have u3 : n3 ≤ 25 := by rw [N3.out]; exact Nat.mul_le_mul (show k ≤ 5 by omega) s5
    have u4 : n4 ≤ 25 := by rw [N4.out]; exact Nat.mul_le_mul (show k ≤ 5 by omega) (show t ≤ 5 by omega)
    by_cases hlt : k < s
    · have P01 : 0 < 1 := by omega
      have P432 : 4 ≤ 32 := by omega
      have LS : Hid ((fv (evR s s)).length = s * 1) := by show _ = _; rw [fv_length, evR_len]; omega
      have LT : Hid ((fv (evR t t)).length = t * 1) := by show _ = _; rw [fv_length, evR_len]; omega
      have t5' := t5
      have RM3 : Hid (n3 + s ≤ 4294967296) := by show _ ≤ _; omega
      have RM4 : Hid (n4 + t ≤ 4294967296) := by show _ ≤ _; omega
      have S1 : Hid (0 < s) := by show _ < _; omega
      have T1 : Hid (0 < t) := by show _ < _; omega
      have e3 := HM.out.row.cell 3
      go_wp2_with fail
      go_region_law (first
        | (rw [if_pos (by rfl)]; go_simp; go_at_call 73; refine (sEven_any s s1 s5 _).mono ?_; rintro e wz ⟨Aq, cq, rfl, hoq, hbq⟩; have HZ := Lib.hid (M3.call (M3.drew HM.out) hbq (Nat.le_refl _)); obtain ⟨gq, rfl, hgq1, hgq2, hcq, hcs⟩ := own_form' hoq S1.out; have HC := Lib.hid hcs; clear hcs hoq hbq hgq1 hgq2 hcq; have z3 := HZ.out.row.cell 3)
        | (refine step_cells_push rfl (.tmp 28) (.tmp 30) _ rfl (w.heap.size + 1) 32 (.float .f32 0) 1 4 Try.underlying22 infoF32 rfl P01 P432 (.slice A3 n3 c3) n3 (fv (evR n3 s)) ?_ HZ.out.o3 gq 0 s cq (fv (evR s s)) ?_ LS.out HC.out (fv_one _) RM3.out HZ.out.size ?_; rfl; rfl; intro A' c' wy hvE hgr hbl hat; have HY := Lib.hid (M3.push3 HZ.out hvE hgr hat); have hrow := HZ.out.row.grown hgr (fun e => (HZ.out.d3 _ e.symm).1 rfl); have y3 := hrow.cell 3; have f3 := hrow.frozen 3; clear hrow hvE hgr hbl hat))
      all_goals
        clear e3 z3 y3 f3
        obtain ⟨x8, hx8⟩ : ∃ x, x = wy.setCell ⟨g6, 3, none⟩ (.slice A' (n3 + s) c') := ⟨_, rfl⟩
        rw [← hx8] at HY ⊢
        clear hx8 HZ HC
        have e4 := HY.out.row.cell 4
        go_wp2_with fail
        go_region_law (first
          | (rw [if_pos (by rfl)]; go_simp; go_at_call 73; refine (sEven_any t t1 t5 _).mono ?_; rintro e wz2 ⟨Ar, cr, rfl, hoq, hbq⟩; have HZ := Lib.hid (M3.call (M3.drew HY.out) hbq (Nat.le_refl _)); obtain ⟨gr, rfl, hgq1, hgq2, hcq, hcs⟩ := own_form' hoq T1.out; have HC := Lib.hid hcs; clear hcs hoq hbq hgq1 hgq2 hcq; have z4 := HZ.out.row.cell 4)
          | (refine step_cells_push rfl (.tmp 34) (.tmp 36) _ rfl (w.heap.size + 1) 32 (.float .f32 0) 1 4 Try.underlying22 infoF32 rfl P01 P432 (.slice A4 n4 c4) n4 (fv (evR n4 t)) ?_ HZ.out.o4 gr 0 t cr (fv (evR t t)) ?_ LT.out HC.out (fv_one _) RM4.out HZ.out.size ?_; rfl; rfl; intro A'' c'' wv hvE hgr hbl hat; have HV := Lib.hid (M3.push4 HZ.out hvE hgr hat); have hrow := HZ.out.row.grown hgr (fun e => HZ.out.d4 _ e.symm rfl); have y4 := hrow.cell 4; have f4 := hrow.frozen 4; clear hrow hvE hgr hbl hat))
        all_goals
          clear e4 z4 y4 f4
          go_wp2_with fail
          go_roundg (gk - 1)
          case measure => omega
          case rel =>
            refine ⟨k + 1, A', n3 + s, c', A'', n4 + t, c'', by go_num, by omega, by omega, ?_, ?_, ?_⟩
            · show _ = _; rw [N3.out, Nat.add_mul, Nat.one_mul]
            · show _ = _; rw [N4.out, Nat.add_mul, Nat.one_mul]
            · have := HV.out
              rw [← evR_add, ← evR_add] at this
              exact this
    · obtain rfl : s = k := by omega
      obtain rfl : q3 = n3 := by rw [N3.out, Q3.out]
      obtain rfl : q4 = n4 := by rw [N4.out, Q4.out]
      have RRr := Lib.hid (RR.out.below HM.out.bel (by have := HS0.out; omega))
      have HBr := Lib.hid (BX.out.trans (HM.out.bel.mono (by omega)))
      have O2 := Lib.hid HM.out.o2; have O3 := Lib.hid HM.out.o3; have O4 := Lib.hid HM.out.o4
      have DD : Hid ((∀ k, (Value.slice A2 s c2).ownBlock = some k → (Value.slice A3 q3 c3).ownBlock ≠ some k) ∧ (∀ k, (Value.slice A2 s c2).ownBlock = some k → (Value.slice A4 q4 c4).ownBlock ≠ some k) ∧ (∀ k, (Value.slice A3 q3 c3).ownBlock = some k → (Value.slice A4 q4 c4).ownBlock ≠ some k)) := ⟨fun k hk => (HM.out.d2 k hk).2.1, fun k hk => (HM.out.d2 k hk).2.2, fun k hk => (HM.out.d3 k hk).2⟩
      have m0 := HM.out.row.cell 0; have m1 := HM.out.row.cell 1; have m2 := HM.out.row.cell 2; have m3 := HM.out.row.cell 3; have m4 := HM.out.row.cell 4
      clear N3 N4 HM
      have C := Lib.hid (sGiveG (s : Int) (t : Int) (evR s s) (evR q3 s) (evR q4 t) A2 s c2 A3 q3 c3 A4 q4 c4 wr _ _ _ O2.out O3.out O4.out)
      go_wp2_with fail
      refine C.out.mono ?_
      rintro e wy ⟨ok2, hok2, rfl, hby⟩
      have RRY := Lib.hid (RRr.out.below hby RRr.out.lt)
      have HOK2 := Lib.hid hok2; clear hok2
      have y0 := RRY.out.cell 0; have y1 := RRY.out.cell 1; have y2 := RRY.out.cell 2; have y3 := RRY.out.cell 3; have y4 := RRY.out.cell 4; have f0 := RRY.out.frozen 0; have f1 := RRY.out.frozen 1; have f2 := RRY.out.frozen 2; have f3 := RRY.out.frozen 3; have f4 := RRY.out.frozen 4
      go_wp2_with fail
      clear y0 f0 y1 f1 y2 f2 y3 f3 y4 f4
      have hF := (((((RRY.out.set_ 0 (.int .i64 (ckI ok2 s))).set_ 1 (.int .i64 (ckI ok2 t))).set_ 2 (.slice (ckA ok2 A2) (ckN ok2 s) (ckN ok2 c2))).set_ 3 (.slice (ckA ok2 A3) (ckN ok2 q3) (ckN ok2 c3))).set_ 4 (.slice (ckA ok2 A4) (ckN ok2 q4) (ckN ok2 c4)))
      have hBF : Below w.heap.size w (((((wy.setCell ⟨w.heap.size, 0, none⟩ (.int .i64 (ckI ok2 s))).setCell ⟨w.heap.size, 1, none⟩ (.int .i64 (ckI ok2 t))).setCell ⟨w.heap.size, 2, none⟩ (.slice (ckA ok2 A2) (ckN ok2 s) (ckN ok2 c2))).setCell ⟨w.heap.size, 3, none⟩ (.slice (ckA ok2 A3) (ckN ok2 q3) (ckN ok2 c3))).setCell ⟨w.heap.size, 4, none⟩ (.slice (ckA ok2 A4) (ckN ok2 q4) (ckN ok2 c4))) := ((((((HBr.out.trans (hby.mono HBr.out.size)).setCell (p := ⟨w.heap.size, 0, none⟩) (show w.heap.size ≤ w.heap.size by omega) (.int .i64 (ckI ok2 s))).setCell (p := ⟨w.heap.size, 1, none⟩) (show w.heap.size ≤ w.heap.size by omega) (.int .i64 (ckI ok2 t))).setCell (p := ⟨w.heap.size, 2, none⟩) (show w.heap.size ≤ w.heap.size by omega) (.slice (ckA ok2 A2) (ckN ok2 s) (ckN ok2 c2))).setCell (p := ⟨w.heap.size, 3, none⟩) (show w.heap.size ≤ w.heap.size by omega) (.slice (ckA ok2 A3) (ckN ok2 q3) (ckN ok2 c3))).setCell (p := ⟨w.heap.size, 4, none⟩) (show w.heap.size ≤ w.heap.size by omega) (.slice (ckA ok2 A4) (ckN ok2 q4) (ckN ok2 c4)))
      have hkp : ∀ g, g < wr.heap.size → g ≠ w.heap.size → (((((wy.setCell ⟨w.heap.size, 0, none⟩ (.int .i64 (ckI ok2 s))).setCell ⟨w.heap.size, 1, none⟩ (.int .i64 (ckI ok2 t))).setCell ⟨w.heap.size, 2, none⟩ (.slice (ckA ok2 A2) (ckN ok2 s) (ckN ok2 c2))).setCell ⟨w.heap.size, 3, none⟩ (.slice (ckA ok2 A3) (ckN ok2 q3) (ckN ok2 c3))).setCell ⟨w.heap.size, 4, none⟩ (.slice (ckA ok2 A4) (ckN ok2 q4) (ckN ok2 c4))).heap[g]? = wr.heap[g]? := fun g h1 h2 => (heap_set5 _ _ _ _ _ h2).trans (hby.block g h1)
      have hsF : wr.heap.size ≤ (((((wy.setCell ⟨w.heap.size, 0, none⟩ (.int .i64 (ckI ok2 s))).setCell ⟨w.heap.size, 1, none⟩ (.int .i64 (ckI ok2 t))).setCell ⟨w.heap.size, 2, none⟩ (.slice (ckA ok2 A2) (ckN ok2 s) (ckN ok2 c2))).setCell ⟨w.heap.size, 3, none⟩ (.slice (ckA ok2 A3) (ckN ok2 q3) (ckN ok2 c3))).setCell ⟨w.heap.size, 4, none⟩ (.slice (ckA ok2 A4) (ckN ok2 q4) (ckN ok2 c4))).heap.size := by have := hby.size; simpa using this
      refine bodyPost_ret (results_cell2 rfl _ _ w.heap.size 27 #[.int .i64 (ckI ok2 s), .int .i64 (ckI ok2 t), .slice (ckA ok2 A2) (ckN ok2 s) (ckN ok2 c2), .slice (ckA ok2 A3) (ckN ok2 q3) (ckN ok2 c3), .slice (ckA ok2 A4) (ckN ok2 q4) (ckN ok2 c4)] (0, 0) _ (.bool ok2) rfl rfl hF Try.underlying27 rfl (by kernel_rfl)) rfl ?_
      obtain ⟨F, hFF⟩ : ∃ F, F = (((((wy.setCell ⟨w.heap.size, 0, none⟩ (.int .i64 (ckI ok2 s))).setCell ⟨w.heap.size, 1, none⟩ (.int .i64 (ckI ok2 t))).setCell ⟨w.heap.size, 2, none⟩ (.slice (ckA ok2 A2) (ckN ok2 s) (ckN ok2 c2))).setCell ⟨w.heap.size, 3, none⟩ (.slice (ckA ok2 A3) (ckN ok2 q3) (ckN ok2 c3))).setCell ⟨w.heap.size, 4, none⟩ (.slice (ckA ok2 A4) (ckN ok2 q4) (ckN ok2 c4))) := ⟨_, rfl⟩
      rw [← hFF] at hBF hkp hsF ⊢
      clear hF hFF
      have hf : evOk (s : Int) (t : Int) = ok2 := by rw [HD.out, HOK2.out]
      have o2' := own_move O2.out (fun g hg => hkp g (O2.out.lt g hg).2 (by have := (O2.out.lt g hg).1; omega))
      have o3' := own_move O3.out (fun g hg => hkp g (O3.out.lt g hg).2 (by have := (O3.out.lt g hg).1; omega))
      have o4' := own_move O4.out (fun g hg => hkp g (O4.out.lt g hg).2 (by have := (O4.out.lt g hg).1; omega))
      refine ⟨ckV ok2 (.agg #[.int .i64 s, .int .i64 t, .slice A2 s c2, .slice A3 q3 c3, .slice A4 q4 c4]), by rw [hf, ckV_agg], ?_, hBF⟩
      unfold EvO
      rw [hf]
      simp only [Int.toNat_natCast]
      rw [← Q3.out, ← Q4.out]
      exact ckO ok2 ⟨_, _, _, rfl, OwnV.of (by rw [evR_len]; exact World.ownsRow.mono o2' (by omega)), OwnV.of (by rw [evR_len]; exact World.ownsRow.mono o3' (by omega)), OwnV.of (by rw [evR_len]; exact World.ownsRow.mono o4' (by omega)), DD.out.1, DD.out.2.1, DD.out.2.2⟩
set_option maxRecDepth 100000 in
set_option maxHeartbeats 4000000 in
theorem sEvenM_any (S T : Int) (w : World)  :
    Calls Try.prog 25 #[.int .i64 S, .int .i64 T] w fun e w' => ∃ v', e = .returned (.tuple #[v', .bool (evOk S T)]) ∧ EvO w' w.heap.size v' S T ∧ Below w.heap.size w w' := by
  cases q1 : inB S 1 5 with
  | false => exact sEvenM_no1 S T w q1
  | true =>
    cases q2 : inB T 1 4 with
    | false => exact sEvenM_no2 S T w q1 q2
    | true => exact sEvenM_yes S T w q1 q2
theorem evOk_in {S T : Int} (h : evOk S T = true) : (1 ≤ S ∧ S ≤ 5) ∧ (1 ≤ T ∧ T ≤ 4) := by
  unfold evOk at h
  simp only [Bool.and_eq_true] at h
  exact ⟨inB_true h.1, inB_true h.2.1⟩
theorem evP_len (S T : Int) : (ckL (evOk S T) (evR S.toNat S.toNat)).length ≤ 1048576 := ckL_len fun h => by
  have := evOk_in h; rw [evR_len]; omega
theorem evQ_len (S T : Int) : (ckL (evOk S T) (evR (S.toNat * S.toNat) S.toNat)).length ≤ 1048576 := ckL_len fun h => by
  have := evOk_in h; rw [evR_len]; have := Nat.mul_le_mul (show S.toNat ≤ 5 by omega) (show S.toNat ≤ 5 by omega); omega
theorem evS_len (S T : Int) : (ckL (evOk S T) (evR (S.toNat * T.toNat) T.toNat)).length ≤ 1048576 := ckL_len fun h => by
  have := evOk_in h; rw [evR_len]; have := Nat.mul_le_mul (show S.toNat ≤ 5 by omega) (show T.toNat ≤ 5 by omega); omega
theorem iEvenL_any (S T : Int) (w : World) :
    Calls Try.prog 26 #[.int .i64 S, .int .i64 T] w fun e w' => ∃ v', e = .returned (.tuple #[v', .bool (evOk S T)]) ∧ MdW w' w.heap.size v' (ckI (evOk S T) S) (ckI (evOk S T) T) (ckL (evOk S T) (evR S.toNat S.toNat)) (ckL (evOk S T) (evR (S.toNat * S.toNat) S.toNat)) (ckL (evOk S T) (evR (S.toNat * T.toNat) T.toNat)) ∧ Below w.heap.size w w' := iEvenM_any S T w
theorem sEvenL_any (S T : Int) (w : World) :
    Calls Try.prog 25 #[.int .i64 S, .int .i64 T] w fun e w' => ∃ v', e = .returned (.tuple #[v', .bool (evOk S T)]) ∧ MdW w' w.heap.size v' (ckI (evOk S T) S) (ckI (evOk S T) T) (ckL (evOk S T) (evR S.toNat S.toNat)) (ckL (evOk S T) (evR (S.toNat * S.toNat) S.toNat)) (ckL (evOk S T) (evR (S.toNat * T.toNat) T.toNat)) ∧ Below w.heap.size w w' := sEvenM_any S T w
end Go.Proofs.Ytkgifbiaaaemnaa
