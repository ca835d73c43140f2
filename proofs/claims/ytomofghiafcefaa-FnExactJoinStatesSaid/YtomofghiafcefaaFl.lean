/- Lists of floats, as the laws' helpers copy and compare them. -/
import Derived.Test.YtomofghiafcefaaMem
import Derived.Test.YtomofghiafcefaaMga
import Derived.Test.YtomofghiafcefaaMk
import Derived.Test.YtomofghiafcefaaFlP
import Derived.Deep.QuietTactic
import Derived.BigQuiet
import Derived.Deep.RegionWith

namespace Go.Proofs.Ytomofghiafcefaa
open Go.RowKit
set_option linter.unusedVariables false
structure F32 where
  b : Nat
  lt : b < 4294967296
instance : Inhabited F32 := ⟨⟨0, by omega⟩⟩
theorem F32.eq {x y : F32} (h : x.b = y.b) : x = y := by cases x; cases y; subst h; rfl
def fv (xs : List F32) : List Value := xs.map (fun x => .float .f32 x.b)
def SlF (w : World) (B : Nat) (A : Option Addr) (n : Nat) (xs : List F32) : Prop := SlV w B A n (fv xs)
theorem fv_length (xs : List F32) : (fv xs).length = xs.length := by simp [fv]
theorem fv_append (xs ys : List F32) : fv (xs ++ ys) = fv xs ++ fv ys := by simp [fv]
theorem fv_get {xs : List F32} {k : Nat} {u : Value} (h : (fv xs)[k]? = some u) : ∃ x, xs[k]? = some x ∧ u = .float .f32 x.b := by
  simp only [fv, List.getElem?_map, Option.map_eq_some_iff] at h
  obtain ⟨x, hx, rfl⟩ := h
  exact ⟨x, hx, rfl⟩
theorem fv_take {xs : List F32} {k : Nat} {x : F32} (hx : xs[k]? = some x) : fv (xs.take (k + 1)) = fv (xs.take k) ++ [.float .f32 x.b] := by
  obtain ⟨hk, rfl⟩ := List.getElem?_eq_some_iff.1 hx
  rw [List.take_succ_eq_append_getElem hk, fv_append]; rfl
section
variable {w w' : World} {B B' n : Nat} {A : Option Addr} {xs : List F32}
theorem SlF.len (h : SlF w B A n xs) : xs.length = n := by have := SlV.len h; simpa [fv] using this
theorem SlF.at_ {k : Nat} (h : SlF w B A n xs) (hk : k < n) :
    ∃ b off x, A = some ⟨b, off, none⟩ ∧ b < B ∧ Hid (xs[k]? = some x) ∧ w.cell? ⟨b, off + k, none⟩ = some (.float .f32 x.b) := by
  obtain ⟨b, off, u, e, hb, hu, hc⟩ := SlV.at_ h hk
  obtain ⟨x, hx, rfl⟩ := fv_get hu
  exact ⟨b, off, x, e, hb, hx, hc⟩
theorem SlF.below (h : SlF w B A n xs) (hb : Below B' w w') (hB : B ≤ B') : SlF w' B A n xs := SlV.below h hb hB
theorem SlF.more (h : SlF w B A n xs) (hB : B ≤ B') : SlF w B' A n xs := SlV.more h hB
theorem Row.slF {g : Nat} {t : TypeId} (h : Row w g t (fv xs)) : SlF w w.heap.size (some ⟨g, 0, none⟩) xs.length xs := by
  have := h.sl; rw [fv_length] at this; exact this
end
theorem infoF32 : (Try.prog.info? 25).map (fun i => (i.zero, i.size, i.bytes)) = some (some (.float .f32 0), 1, 4) := by kernel_rfl
theorem szFloat32S_any (A : Option Addr) (n c : Nat) (left : Int) (w : World) (h0 : 0 ≤ left) (h1 : left ≤ 1048576) (hn : n ≤ 9223372036854775807) :
    Calls Try.prog 17 #[.slice A n c, .int .i64 left] w fun e w' => ∃ z : Int, e = .returned (.int .i64 z) ∧ -1 ≤ z ∧ z ≤ 1048576 ∧ (0 ≤ z → n ≤ 1048576) ∧ w = w' := by
  have w1 : IntKind.i64.wrap (left - (n : Int)) = left - (n : Int) := IntWalk.i64_in _ (by omega)
  by_cases hb : left - (n : Int) < 0
  · go_enter Try.func17, Try.ntmps17
    go_wp2_with fail
    go_ret
    exact ⟨-1, rfl, by omega, by omega, fun h => by omega, rfl⟩
  · have hb' : (0 : Int) ≤ left - (n : Int) := by omega
    clear hb
    go_enter Try.func17, Try.ntmps17
    go_wp2_with fail
    go_ret
    exact ⟨left - (n : Int), rfl, by omega, by omega, fun h => by omega, rfl⟩
set_option maxHeartbeats 400000 in
theorem toFloat32S_any (A : Option Addr) (n c : Nat) (xs : List F32) (w : World) (h : SlF w w.heap.size A n xs) (hn : n ≤ 4294967296) :
    Calls Try.prog 22 #[.slice A n c] w fun e w' => ∃ g, e = .returned (.slice (some ⟨g, 0, none⟩) n n) ∧ w.heap.size ≤ g ∧ Row w' g 25 (fv xs) ∧ Below w.heap.size w w' := by
  have hl := Lib.hid h.len
  have H := Lib.hid h; clear h
  have hmk := run_make_row' (P := Try.prog) 22 25 (.float .f32 0) 4 Try.underlying22 infoF32 rfl .i64 .i64 n (by omega) (by omega)
  go_enter Try.func22, Try.ntmps22
  go_wp2_with fail
  clear hmk
  go_loopw [4] (fun i wr => ∃ k : Nat, k ≤ n ∧ i = .int .i64 k ∧ Row wr w.heap.size 25 (fill (fv (xs.take k)) n (.float .f32 0)) ∧ Below w.heap.size w wr) (fun i wr => n - (intOf i).toNat)
  case atStart => exact ⟨0, by omega, rfl, by rw [List.take_zero, show fv [] = [] from rfl, fill_nil]; exact Row.made _ _ _ _, (Below.refl _ _).alloc (Nat.le_refl _) _⟩
  case round =>
    obtain ⟨k, hk, rfl, hr, hb⟩ := hrel
    have HR := Lib.hid hr; clear hr
    by_cases hlt : k < n
    · obtain ⟨b, off, x, rfl, hbB, hx, hc⟩ := (H.out.below hb (Nat.le_refl _)).at_ hlt
      have hlen : Hid ((fv (xs.take k)).length = k) := by show _ = k; rw [fv_length, List.length_take, hl.out]; omega
      have hc2 : wr.cell? ⟨w.heap.size, k, none⟩ = some (.float .f32 0) := by rw [HR.out.cell, fill_at hlen.out hlt]
      have hf2 := HR.out.frozen k
      go_wp2_with fail
      go_roundw
      case rel => exact ⟨k + 1, by omega, by go_num, by rw [fv_take hx.out, ← fill_set hlen.out hlt]; exact HR.out.set_ _ _, hb.setCell (Nat.le_refl _) _⟩
      case measure => simp [intOf]; omega
    · obtain rfl : n = k := by omega
      go_wp2_with fail
      go_ret
      refine ⟨_, rfl, Nat.le_refl _, ?_, hb⟩
      have := HR.out
      rw [take_all hl.out, fill_full (by rw [fv_length, hl.out])] at this
      exact this
theorem sameF_eq (r : Nat) (w : World) (h : isN .f64 r = false) :
    Calls Try.prog 30 #[.float .f64 r, .float .f64 r] w fun e w' => e = .returned (.bool true) ∧ w = w' := by
  have ho : (FloatKind.format .f64).order r r = some .eq := ord_self h
  have q1 : ((some Ordering.eq : Option Ordering) != some .eq) = false := by decide
  have q2 : ((some Ordering.eq : Option Ordering) == some .eq) = true := by decide
  have H := Lib.hid h; clear h
  by_cases hz : (FloatKind.format .f64).order r 0 = some .eq
  · obtain ⟨s, hs, -⟩ := quo_zero hz
    have hop : ∀ t w, (binOp .quo t (.float .f64 4607182418800017408) (.float .f64 r)).run Try.prog w = .ok (.float .f64 s) w := fun t w => run_float_arith w .quo t .f64 _ r s hs
    clear hs
    go_enter Try.func30, Try.ntmps30
    go_wp2_with fail
    go_ret
    exact ⟨ret_bool (by simp), rfl⟩
  · have q3 : ((FloatKind.format .f64).order r 0 == some .eq) = false := by simpa using hz
    clear hz
    go_enter Try.func30, Try.ntmps30
    go_wp2_with fail
    go_ret
    exact ⟨ret_bool (by simp), rfl⟩
theorem sameF_nan (a b : Nat) (w : World) (ha : isN .f64 a = true) (hb : isN .f64 b = true) :
    Calls Try.prog 30 #[.float .f64 a, .float .f64 b] w fun e w' => e = .returned (.bool true) ∧ w = w' := by
  have h1 := (ord_nan ha a).1
  have h2 := (ord_nan hb b).1
  have q1 : ((none : Option Ordering) != some .eq) = true := by decide
  go_enter Try.func30, Try.ntmps30
  go_wp2_with fail
  go_ret
  exact ⟨ret_bool (by simp), rfl⟩
theorem quiet_more' {P : Program} {f : FuncId} {args : Array Value} {w : World} {a n : Nat} {v : Value}
    (h : Calls P f args (w.drewN (a + n)) fun e w' => e = .returned v ∧ w' = w.drewN (a + n)) : Calls P f args (w.drewN (a + n)) fun e w'' => e = .returned v ∧ ∃ m, w'' = w.drewN (a + m) :=
  h.mono fun _ _ ⟨he, hm⟩ => ⟨he, n, hm⟩
theorem sameF_eqQ (r : Nat) (w : World) (h : isN .f64 r = false) :
    Calls Try.prog 30 #[.float .f64 r, .float .f64 r] w fun e w' => e = .returned (.bool true) ∧ w' = w := (sameF_eq r w h).mono fun _ _ h => ⟨h.1, h.2.symm⟩
theorem sameF_nanQ (a b : Nat) (w : World) (ha : isN .f64 a = true) (hb : isN .f64 b = true) :
    Calls Try.prog 30 #[.float .f64 a, .float .f64 b] w fun e w' => e = .returned (.bool true) ∧ w' = w := (sameF_nan a b w ha hb).mono fun _ _ h => ⟨h.1, h.2.symm⟩
set_option maxHeartbeats 400000 in
theorem eqFloat32S_same (A : Option Addr) (n c : Nat) (A' : Option Addr) (c' : Nat) (xs : List F32) (w : World) {B B' : Nat} (h : SlF w B A n xs) (h' : SlF w B' A' n xs) (hn : n ≤ 4294967296) :
    Calls Try.prog 9 #[.slice A n c, .slice A' n c'] w fun e w' => e = .returned (.bool true) ∧ Below w.heap.size w w' := by
  have H := Lib.hid h; clear h
  have H' := Lib.hid h'; clear h'
  go_enter Try.func9, Try.ntmps9
  go_wp2_with fail
  go_loopw [5] (fun i wr => ∃ k : Nat, k ≤ n ∧ i = .int .i64 k ∧ ∃ q, wr = w.drewN q) (fun i wr => n - (intOf i).toNat)
  case atStart => exact ⟨0, by omega, rfl, 0, rfl⟩
  case round =>
    obtain ⟨k, hk, rfl, q, rfl⟩ := hrel
    by_cases hlt : k < n
    · obtain ⟨b, off, x, rfl, hbB, hx, hc⟩ := H.out.at_ hlt
      obtain ⟨b', off', y, rfl, hbB', hy, hc'⟩ := H'.out.at_ hlt
      obtain rfl : x = y := by have h1 := hx.out; rw [hy.out] at h1; exact (Option.some.inj h1).symm
      have hi0 : (0 : Int) ≤ (k : Int) := by omega
      have hi1 : (k : Int) < (n : Int) := by omega
      by_cases hnan : isN .f32 x.b = true
      · have hcv : ∀ w : World, (convert 25 51 (.float .f32 x.b)).run Try.prog w = .ok (.float .f64 (nanQ .f64 x.b w)) w.drew := fun w => run_wide_nan _ _ w (by kernel_rfl) Try.underlying51 hnan
        go_wp2_with fail
        go_region_with (go_at_call 30; refine (sameF_nan _ _ _ (nanQ_nan _ _) (nanQ_nan _ _)).mono ?_; rintro e w' ⟨rfl, rfl⟩)
        all_goals
          go_wp2_with fail
        all_goals exact ⟨⟨k + 1, by omega, by go_num, _, rfl⟩, by simp [intOf]; omega⟩
      · obtain ⟨r, hr, hrn⟩ := wide_ok (b := x.b) (by simpa using hnan)
        have hcv : ∀ w : World, (convert 25 51 (.float .f32 x.b)).run Try.prog w = .ok (.float .f64 r) w := fun w => run_convert_float_float w _ _ .f32 .f64 x.b r (by kernel_rfl) Try.underlying51 hr
        go_wp2_with fail
        go_quiet ((go_at_call 30; first | exact Calls.quiet_of_same (sameF_eqQ r _ hrn) | exact quiet_more' (sameF_eqQ r _ hrn)))
        go_wp2_with fail
        exact ⟨⟨k + 1, by omega, by go_num, _, rfl⟩, by simp [intOf]; omega⟩
    · obtain rfl : n = k := by omega
      go_wp2_with fail
      go_ret
      exact ⟨rfl, below_draws (Below.refl _ _) _⟩
end Go.Proofs.Ytomofghiafcefaa
