/- A model's rest: what both programs call on the way: whether a number is finite, a step of a model, a list of finite numbers. -/
import Derived.Test.YtomofghiafcefaaFvS
import Derived.Test.YtomofghiafcefaaFiD
import Derived.Deep.LoopGhost

namespace Go.Proofs.Ytomofghiafcefaa
open Go.RowKit Ieee
set_option linter.unusedVariables false
theorem sub_self {x : Nat} (h : numB x = true) : floatBits .sub .f32 x x = some 0 := by
  unfold numB at h
  have hop : floatBits .sub .f32 x x = (((Ieee.single.read x).sum (Ieee.single.read x).opposite).map Ieee.single.write) := rfl
  rw [hop]
  cases hr : Ieee.single.read x with
  | nan s f => rw [hr] at h; cases h
  | infinity s => rw [hr] at h; cases h
  | number s m e =>
    simp only [Datum.opposite, Datum.sum, signed_not]
    have e0 : min e e = e := Int.min_self e
    rw [e0, Int.add_right_neg, if_pos rfl]
    cases s <;> rfl
theorem sub_self_no {x : Nat} (h : numB x = false) : floatBits .sub .f32 x x = none := by
  unfold numB at h
  have hop : floatBits .sub .f32 x x = (((Ieee.single.read x).sum (Ieee.single.read x).opposite).map Ieee.single.write) := rfl
  rw [hop]
  cases hr : Ieee.single.read x with
  | nan s f => rfl
  | infinity s => cases s <;> rfl
  | number s m e => rw [hr] at h; cases h
/-- The NaN that an operation without an answer draws. -/
def nanA (x y : Nat) (w : World) : Nat := (Question.nanBits .f32 x y).cut (w.tape w.drawn (Question.nanBits .f32 x y))
theorem nanA_nan (x y : Nat) (w : World) : isN .f32 (nanA x y w) = true := by
  unfold nanA isN FloatKind.decode
  generalize w.tape w.drawn (Question.nanBits .f32 x y) = t
  show (Ieee.single.read ((t % 2) * 2 ^ 31 + 0x7f800000 + 1 + (t / 2) % (2 ^ 23 - 1))).isNaN = true
  have ht := Nat.mod_lt (t / 2) (show 0 < 2 ^ 23 - 1 by decide)
  have hb : t % 2 = 0 ∨ t % 2 = 1 := by omega
  unfold Format.read
  simp only [sg1, sg2, sg3, sg4]
  generalize (t / 2) % (2 ^ 23 - 1) = u at ht ⊢
  have e : (t % 2 * 2 ^ 31 + 0x7f800000 + 1 + u) % 2147483648 = 2139095041 + u := by omega
  rw [e]
  rw [if_neg (by omega), if_neg (by omega), if_neg (by omega)]
  rfl
theorem run_sub_nan {P : Program} (t : TypeId) {x : Nat} (w : World) (h : numB x = false) : (binOp .sub t (.float .f32 x) (.float .f32 x)).run P w = .ok (.float .f32 (nanA x x w)) w.drew := by
  have h1 : FloatKind.f32.format.sub x x = none := sub_self_no h
  simp [binOp, Op.floatArith, h1, nanA, Question.forced]
theorem ord_nan0 {x : Nat} (h : isN .f32 x = true) : (FloatKind.format .f32).order x 0 = none := (ord_nan h 0).1
theorem iFin_yes {x : Nat} (w : World) (h : numB x = true) : Calls Try.prog 24 #[.float .f32 x] w fun e w' => e = .returned (.bool true) ∧ w = w' := by
  have hop : ∀ t w, (binOp .sub t (.float .f32 x) (.float .f32 x)).run Try.prog w = .ok (.float .f32 0) w := fun t w => run_float_arith w .sub t .f32 _ _ 0 (sub_self h)
  have q0 : (FloatKind.format .f32).order 0 0 = some .eq := ord_00
  have q2 : ((some Ordering.eq : Option Ordering) == some .eq) = true := by decide
  clear h
  go_enter Try.func24, Try.ntmps24
  go_wp2_with fail
  go_ret
  exact ⟨rfl, rfl⟩
theorem iFin_no {x : Nat} (w : World) (h : numB x = false) : Calls Try.prog 24 #[.float .f32 x] w fun e w' => e = .returned (.bool false) ∧ w' = w.drew := by
  have hop : ∀ t w, (binOp .sub t (.float .f32 x) (.float .f32 x)).run Try.prog w = .ok (.float .f32 (nanA x x w)) w.drew := fun t w => run_sub_nan t w h
  have q0 : (FloatKind.format .f32).order (nanA x x w) 0 = none := ord_nan0 (nanA_nan _ _ _)
  have q2 : ((none : Option Ordering) == some .eq) = false := by decide
  clear h
  go_enter Try.func24, Try.ntmps24
  go_wp2_with fail
  go_ret
  exact ⟨rfl, rfl⟩
theorem sFin_yes {x : Nat} (w : World) (h : numB x = true) : Calls Try.prog 37 #[.float .f32 x] w fun e w' => e = .returned (.bool true) ∧ w = w' := by
  have hop : ∀ t w, (binOp .sub t (.float .f32 x) (.float .f32 x)).run Try.prog w = .ok (.float .f32 0) w := fun t w => run_float_arith w .sub t .f32 _ _ 0 (sub_self h)
  have q0 : (FloatKind.format .f32).order 0 0 = some .eq := ord_00
  have q2 : ((some Ordering.eq : Option Ordering) == some .eq) = true := by decide
  clear h
  go_enter Try.func37, Try.ntmps37
  go_wp2_with fail
  go_ret
  exact ⟨rfl, rfl⟩
theorem sFin_no {x : Nat} (w : World) (h : numB x = false) : Calls Try.prog 37 #[.float .f32 x] w fun e w' => e = .returned (.bool false) ∧ w' = w.drew := by
  have hop : ∀ t w, (binOp .sub t (.float .f32 x) (.float .f32 x)).run Try.prog w = .ok (.float .f32 (nanA x x w)) w.drew := fun t w => run_sub_nan t w h
  have q0 : (FloatKind.format .f32).order (nanA x x w) 0 = none := ord_nan0 (nanA_nan _ _ _)
  have q2 : ((none : Option Ordering) == some .eq) = false := by decide
  clear h
  go_enter Try.func37, Try.ntmps37
  go_wp2_with fail
  go_ret
  exact ⟨rfl, rfl⟩
def leastB (x : Nat) : Bool := numB x && geF x 0
theorem sLeast_any (x : Nat) (w : World) : Calls Try.prog 19 #[.float .f32 x] w fun e w' => e = .returned (.bool (leastB x)) ∧ ∃ q, w' = w.drewN q := by
  obtain ⟨g, hg⟩ : ∃ g, ((FloatKind.format .f32).order x 0 == some .gt || (FloatKind.format .f32).order x 0 == some .eq) = g := ⟨_, rfl⟩
  cases hn : numB x with
  | true =>
    have HD : Hid (leastB x = g) := by show _ = _; rw [leastB, hn, ← hg]; rfl
    have F := Lib.hid (fun w => sFin_yes (x := x) w hn)
    clear hn
    go_enter Try.func19, Try.ntmps19
    go_wp2_with (go_at_call 37; refine (F.out _).mono ?_; rintro e w' ⟨rfl, hw'⟩; obtain rfl := hw')
    go_ret
    exact ⟨ret_bool HD.out.symm, 0, rfl⟩
  | false =>
    have HD : Hid (leastB x = false) := by show _ = _; rw [leastB, hn]; rfl
    have F := Lib.hid (fun w => sFin_no (x := x) w hn)
    clear hn
    go_enter Try.func19, Try.ntmps19
    go_wp2_with (go_at_call 37; refine (F.out _).mono ?_; rintro e w' ⟨rfl, hw'⟩; obtain rfl := hw')
    go_ret
    exact ⟨ret_bool HD.out.symm, 1, rfl⟩
theorem iNotFin {x : Nat} (w : World) (h : numB x = true) : Calls Try.prog 41 #[.float .f32 x] w fun e w' => e = .returned (.bool false) ∧ w = w' := by
  have F := Lib.hid (fun w => iFin_yes (x := x) w h)
  clear h
  go_enter Try.func41, Try.ntmps41
  go_wp2_with (go_at_call 24; refine (F.out _).mono ?_; rintro e w' ⟨rfl, hw'⟩; obtain rfl := hw')
  go_ret
  exact ⟨rfl, rfl⟩
theorem iIndexNF (A : Option Addr) (n c : Nat) (xs : List F32) (w : World) (B : Nat) (h : SlF w B A n xs) (hx : ∀ x ∈ xs, numB x.b = true) (hn : n ≤ 4294967296) :
    Calls Try.prog 48 #[.slice A n c, .func (.func 41) #[] #[]] w fun e w' => e = .returned (.int .i64 (-1)) ∧ w = w' := by
  have H := Lib.hid h; have HX := Lib.hid hx; clear h hx
  go_enter Try.func48, Try.ntmps48
  go_wp2_with fail
  go_loopw [5, 8] (fun u i wr => ∃ k : Nat, k ≤ n ∧ i = .int .i64 k ∧ wr = w) (fun u i wr => n - (intOf i).toNat)
  case atStart => exact ⟨0, by omega, rfl, rfl⟩
  case round =>
    obtain ⟨k, hk, rfl, rfl⟩ := hrel
    by_cases hlt : k < n
    · obtain ⟨b, off, x, rfl, hbB, hx, hc⟩ := H.out.at_ hlt
      have F := Lib.hid (fun w => iNotFin (x := x.b) w (HX.out x (List.mem_of_getElem? hx.out)))
      have l0 : (0 : Int) ≤ (k : Int) := by omega
      have l1 : (k : Int) < (n : Int) := by omega
      go_wp2_with (go_at_call 41; refine (F.out _).mono ?_; rintro e w' ⟨rfl, hw'⟩; obtain rfl := hw')
      exact ⟨⟨k + 1, by omega, by go_num, by trivial⟩, by simp [intOf]; omega⟩
    · obtain rfl : n = k := by omega
      go_wp2_with fail
      go_ret
      exact ⟨rfl, rfl⟩
theorem iAreFin (A : Option Addr) (n c : Nat) (xs : List F32) (w : World) (B : Nat) (h : SlF w B A n xs) (hx : ∀ x ∈ xs, numB x.b = true) (hn : n ≤ 4294967296) :
    Calls Try.prog 29 #[.slice A n c] w fun e w' => e = .returned (.bool true) ∧ w = w' := by
  have H := Lib.hid (fun w (h : SlF w B A n xs) => iIndexNF A n c xs w B h hx hn)
  have H' := Lib.hid h
  clear h hx
  have C : Hid (Calls Try.prog 40 #[.slice A n c, .func (.func 41) #[] #[]] w fun e w' => e = .returned (.bool false) ∧ w = w') := by
    show Calls _ _ _ _ _
    go_enter Try.func40, Try.ntmps40
    go_wp2_with (go_at_call 48; refine (H.out _ H'.out).mono ?_; rintro e w' ⟨rfl, hw'⟩; obtain rfl := hw')
    go_ret
    exact ⟨rfl, rfl⟩
  go_enter Try.func29, Try.ntmps29
  go_wp2_with (go_at_call 40; refine C.out.mono ?_; rintro e w' ⟨rfl, hw'⟩; obtain rfl := hw')
  go_ret
  exact ⟨rfl, rfl⟩
theorem iStep_any (s : Nat) (T : Value) (A2 A4 : Option Addr) (n2 c2 n4 c4 : Nat) (b off n c : Nat) (Q : List F32) (i k : Nat) (w : World) (B : Nat) (hB : B ≤ w.heap.size) (h : SlF w B (some ⟨b, off, none⟩) n Q) (hn : n = s * s) (h5 : s ≤ 5) (hi : i < s) (hk : k < s) :
    Calls Try.prog 27 #[.agg #[.int .i64 s, T, .slice A2 n2 c2, .slice (some ⟨b, off, none⟩) n c, .slice A4 n4 c4], .int .i64 i, .int .i64 k] w fun e w' => e = .returned (.float .f32 (tbF Q s i k).b) ∧ Below w.heap.size w w' := by
  have hlt : i * s + k < n := by
    have : (i + 1) * s ≤ s * s := Nat.mul_le_mul_right _ hi
    rw [Nat.add_mul, Nat.one_mul] at this; omega
  obtain ⟨p, hp⟩ : ∃ p, p = i * s := ⟨_, rfl⟩
  have bx : Below w.heap.size w (w.alloc (.cells ([.int .i64 s, T, .slice A2 n2 c2, .slice (some ⟨b, off, none⟩) n c, .slice A4 n4 c4] : List Value).toArray 29)) := (Below.refl _ _).alloc (Nat.le_refl _) _
  obtain ⟨b', off', x, e, hb, hx, hc⟩ := (h.below bx hB).at_ hlt
  injection e with e; injection e with e1 e2 _
  subst e1 e2
  have hx' : x = tbF Q s i k := (atF_some hx.out).symm
  have HX : Hid ((tbF Q s i k).b = x.b) := by show _ = _; rw [hx']
  rw [← hp] at hlt hc
  have rb := Row.new w 29 [.int .i64 s, T, .slice A2 n2 c2, .slice (some ⟨b, off, none⟩) n c, .slice A4 n4 c4]
  have r0 := rb.cell 0
  have r3 := rb.cell 3
  have w1 : IntKind.i64.wrap ((i : Int) * (s : Int)) = (p : Int) := mulw hp (by omega) h5
  have w2 : IntKind.i64.wrap ((p : Int) + (k : Int)) = ((p + k : Nat) : Int) := by
    have : p ≤ 25 := by rw [hp]; exact Nat.mul_le_mul (show i ≤ 5 by omega) h5
    rw [IntWalk.i64_in _ (by omega)]; omega
  have l0 : (0 : Int) ≤ ((p + k : Nat) : Int) := by omega
  have l1 : ((p + k : Nat) : Int) < (n : Int) := by omega
  have l2 : ((p + k : Nat) : Int).toNat = p + k := by omega
  have BX := Lib.hid bx
  clear hx hx' hb h rb bx hn hp hlt hi hk h5 hB
  go_enter Try.func27, Try.ntmps27
  go_wp2_with fail
  go_ret
  exact ⟨(by rw [HX.out]; rfl), BX.out⟩
end Go.Proofs.Ytomofghiafcefaa
