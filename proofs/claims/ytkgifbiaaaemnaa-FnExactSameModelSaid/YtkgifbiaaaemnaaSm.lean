/- SameModel of both programs. -/
import Derived.Test.YtkgifbiaaaemnaaSmP
import Derived.Test.YtkgifbiaaaemnaaModelSt
import Derived.Deep.LoopGhost
import Derived.Laws.Externs
namespace Go.Proofs.Ytkgifbiaaaemnaa
open Go.RowKit
set_option linter.unusedVariables false
theorem drew_below {w w' : World} (h : ∃ q, w' = w.drewN q) : Below w.heap.size w w' := by obtain ⟨q, rfl⟩ := h; exact below_draws (Below.refl _ _) q
def sgnW (r : Nat) : Bool := decide (IntKind.i64.wrap (r : Int) < 0)
theorem sgnW_eq {r : Nat} (h : r < 18446744073709551616) : sgnW r = decide (9223372036854775808 ≤ r) := by
  unfold sgnW
  rw [decide_eq_decide]
  simp only [IntKind.wrap_i64]
  omega
theorem run_bits64 (r : Nat) (w : World) : (callFunc 179 #[.float .f64 r]).run Try.prog w = .ok (.value (.int .u64 r)) w := by
  rw [run_callFunc_extern Try.func179 (by kernel_rfl) (by kernel_rfl) (by kernel_rfl) (show Extern.find Try.f179 = some Extern.MathFloatBits.float64bits by kernel_rfl)]; rfl
theorem run_bits32 (r : Nat) (w : World) : (callFunc 178 #[.float .f32 r]).run Try.prog w = .ok (.value (.int .u32 r)) w := by
  rw [run_callFunc_extern Try.func178 (by kernel_rfl) (by kernel_rfl) (by kernel_rfl) (show Extern.find Try.f178 = some Extern.MathFloatBits.float32bits by kernel_rfl)]; rfl
theorem signbit_any (r : Nat) (w : World) :
    Calls Try.prog 168 #[.float .f64 r] w fun e w' => e = .returned (.bool (sgnW r)) ∧ w = w' := by
  have hb := run_bits64 r
  go_enter Try.func168, Try.ntmps168
  go_wp2_with fail
  go_ret
  exact ⟨ret_bool (by unfold sgnW; rw [IntKind.wrap_i64]; simp only [wrap64]), rfl⟩
theorem same_sgn {x y : F32} {r s : Nat} (ho : (FloatKind.format .f32).order x.b y.b = some .eq) (hx : decide (9223372036854775808 ≤ r) = sgn x.b) (hy : decide (9223372036854775808 ≤ s) = sgn y.b) (hr : r < 18446744073709551616) (hs : s < 18446744073709551616) :
    (sgnW r == sgnW s) = decide (x.b = y.b) := by
  rw [sgnW_eq hr, sgnW_eq hs, hx, hy]
  by_cases h : x.b = y.b
  · rw [h]; simp
  · rw [decide_eq_false h]
    have : sgn x.b ≠ sgn y.b := fun e => h (order_same x.lt y.lt ho e)
    simpa using this

set_option maxHeartbeats 1000000 in
theorem iSameN_any (x y : F32) (w : World) :
    Calls Try.prog 128 #[.float .f32 x.b, .float .f32 y.b] w fun e w' => e = .returned (.bool (smB x y)) ∧ w = w' := by
  have q1 : ((some Ordering.eq : Option Ordering) != some .eq) = false := by decide
  have q2 : ((none : Option Ordering) != some .eq) = true := by decide
  have q3 : ((some Ordering.eq : Option Ordering) == some .eq) = true := by decide
  cases hx : isN .f32 x.b with
  | true =>
    have hxx := (ord_nan hx x.b).1
    cases hy : isN .f32 y.b with
    | true =>
      have hyy := (ord_nan hy y.b).1
      have HB := Lib.hid (smB_nan (y := y) hx)
      have HY := Lib.hid hy
      clear hx hy
      go_enter Try.func128, Try.ntmps128
      go_wp2_with fail
      go_ret
      exact ⟨ret_bool (by rw [HB.out, HY.out]), rfl⟩
    | false =>
      have hyy := ord_self hy
      have HB := Lib.hid (smB_nan (y := y) hx)
      have HY := Lib.hid hy
      clear hx hy
      go_enter Try.func128, Try.ntmps128
      go_wp2_with fail
      go_ret
      exact ⟨ret_bool (by rw [HB.out, HY.out]), rfl⟩
  | false =>
    have hxx := ord_self hx
    cases hy : isN .f32 y.b with
    | true =>
      have hyy := (ord_nan hy y.b).1
      have HB := Lib.hid (smB_nan' (y := y) hx hy)
      clear hx hy
      go_enter Try.func128, Try.ntmps128
      go_wp2_with fail
      go_ret
      exact ⟨ret_bool (by rw [HB.out]), rfl⟩
    | false =>
      have hyy := ord_self hy
      have HB := Lib.hid (smB_num (y := y) hx hy)
      obtain ⟨r, hr, -⟩ := wide_ok hx
      obtain ⟨s, hs, -⟩ := wide_ok hy
      have SR := Lib.hid (wide_sign hx hr); have SS := Lib.hid (wide_sign hy hs)
      have R64 : Hid (r < 18446744073709551616) := by show _ < _; have := floatToFloatBits_wf (by simpa [Lit.wf] using x.lt) hr; simpa [Lit.wf] using this
      have S64 : Hid (s < 18446744073709551616) := by show _ < _; have := floatToFloatBits_wf (by simpa [Lit.wf] using y.lt) hs; simpa [Lit.wf] using this
      have hcx : ∀ w : World, (convert 32 103 (.float .f32 x.b)).run Try.prog w = .ok (.float .f64 r) w := fun w => run_convert_float_float w _ _ .f32 .f64 x.b r (by kernel_rfl) Try.underlying103 hr
      have hcy : ∀ w : World, (convert 32 103 (.float .f32 y.b)).run Try.prog w = .ok (.float .f64 s) w := fun w => run_convert_float_float w _ _ .f32 .f64 y.b s (by kernel_rfl) Try.underlying103 hs
      clear hx hy hr hs
      by_cases ho : (FloatKind.format .f32).order x.b y.b = some .eq
      · have HO := Lib.hid ho
        go_enter Try.func128, Try.ntmps128
        go_wp2_with (go_at_call 168; refine (signbit_any _ _).mono ?_; rintro e w' ⟨rfl, rfl⟩)
        go_ret
        exact ⟨ret_bool (by rw [HB.out]; exact same_sgn HO.out SR.out SS.out R64.out S64.out), rfl⟩
      · have ho' : ((FloatKind.format .f32).order x.b y.b == some .eq) = false := by simpa using ho
        have HN : Hid (decide (x.b = y.b) = false) := decide_eq_false (fun e => ho (by rw [← e]; exact hxx))
        clear ho
        go_enter Try.func128, Try.ntmps128
        go_wp2_with fail
        go_ret
        exact ⟨ret_bool (by rw [HB.out, HN.out]), rfl⟩
/-- The bits of a number, one NaN for all. -/
def bitI (x : F32) : Int := if isN .f32 x.b then 2143289344 else (x.b : Int)
theorem bitI_same (x y : F32) : (bitI x == bitI y) = smB x y := by
  have hq : isN .f32 2143289344 = true := by decide +kernel
  unfold bitI smB
  cases hx : isN .f32 x.b <;> cases hy : isN .f32 y.b
  · simp only [Bool.or_self, Bool.false_eq_true, if_false]
    by_cases e : x.b = y.b
    · simp [e]
    · rw [decide_eq_false e]; simp; omega
  · have : x.b ≠ 2143289344 := fun e => by rw [e, hq] at hx; cases hx
    simp; omega
  · have : y.b ≠ 2143289344 := fun e => by rw [e, hq] at hy; cases hy
    simp; omega
  · simp
theorem sBits_any (x : F32) (w : World) :
    Calls Try.prog 167 #[.float .f32 x.b] w fun e w' => e = .returned (.int .i64 (bitI x)) ∧ w = w' := by
  have hb := run_bits32 x.b
  have q1 : ((some Ordering.eq : Option Ordering) != some .eq) = false := by decide
  have q2 : ((none : Option Ordering) != some .eq) = true := by decide
  have u1 : IntKind.i64.wrap (x.b : Int) = (x.b : Int) := IntWalk.i64_in _ (by have := x.lt; omega)
  cases hx : isN .f32 x.b with
  | true =>
    have hxx := (ord_nan hx x.b).1
    have HB : Hid (bitI x = 2143289344) := by show _ = _; rw [bitI, if_pos hx]
    clear hx
    go_enter Try.func167, Try.ntmps167
    go_wp2_with fail
    go_ret
    exact ⟨ret_int (by rw [HB.out]), rfl⟩
  | false =>
    have hxx := ord_self hx
    have HB : Hid (bitI x = x.b) := by show _ = _; rw [bitI, if_neg (by simp [hx])]
    clear hx
    have u2 := x.lt
    go_enter Try.func167, Try.ntmps167
    go_wp2_with fail
    go_ret
    exact ⟨ret_int (by rw [HB.out]), rfl⟩
theorem sSameN_any (x y : F32) (w : World) :
    Calls Try.prog 126 #[.float .f32 x.b, .float .f32 y.b] w fun e w' => e = .returned (.bool (smB x y)) ∧ w = w' := by
  have HB := Lib.hid (bitI_same x y)
  go_enter Try.func126, Try.ntmps126
  go_wp2_with (go_at_call 167; refine (sBits_any _ _).mono ?_; rintro e w' ⟨rfl, rfl⟩)
  go_ret
  exact ⟨ret_bool HB.out, rfl⟩

set_option maxHeartbeats 2000000 in
theorem iEqualF_any (A : Option Addr) (n c : Nat) (xs : List F32) (A' : Option Addr) (n' c' : Nat) (ys : List F32) (w : World) (B B' : Nat) (h : SlF w B A n xs) (h' : SlF w B' A' n' ys) (hn : n ≤ 4294967296) (hn' : n' ≤ 4294967296) :
    Calls Try.prog 127 #[.slice A n c, .slice A' n' c', .func (.func 128) #[] #[]] w fun e w' => e = .returned (.bool (smL xs ys)) ∧ ∃ q, w' = w.drewN q := by
  have hl := Lib.hid h.len
  have hl' := Lib.hid h'.len
  have H := Lib.hid h; clear h
  have H' := Lib.hid h'; clear h'
  by_cases hnn : n = n'
  · subst hnn
    go_enter Try.func127, Try.ntmps127
    go_wp2_with fail
    go_loopg [17] n (fun m i wr => ∃ k : Nat, i = .int .i64 k ∧ k ≤ n ∧ n ≤ m + k ∧ Hid (smL (xs.take k) (ys.take k) = true) ∧ ∃ q, wr = w.drewN q)
    case atStart => exact ⟨0, rfl, by omega, by omega, rfl, 0, rfl⟩
    case round =>
      obtain ⟨k, rfl, hk, hm, HE, q, rfl⟩ := hrel
      by_cases hlt : k < n
      · obtain ⟨b, off, x, rfl, hbB, hx, hc⟩ := H.out.at_ hlt
        obtain ⟨b', off', y, rfl, hbB', hy, hc'⟩ := H'.out.at_ hlt
        have hi0 : (0 : Int) ≤ (k : Int) := by omega
        have hi1 : (k : Int) < (n : Int) := by omega
        cases hs : smB x y with
        | true =>
          have HN := Lib.hid (smL_take hx.out hy.out HE.out hs)
          have C := fun w => (iSameN_any x y w).mono (R' := fun e w' => e = .returned (.bool true) ∧ w' = w) (fun _ _ h => ⟨by rw [h.1, hs], h.2.symm⟩)
          have C := Lib.hid C
          clear hs
          go_wp2_with (go_at_call 128; refine (C.out _).mono ?_; rintro e w' ⟨rfl, hw'⟩; obtain rfl := hw'.symm)
          go_roundg (gk - 1)
          case measure => omega
          case rel => exact ⟨k + 1, by go_num, by omega, by omega, HN, _, rfl⟩
        | false =>
          have HN := Lib.hid (smL_no hx.out hy.out hs)
          have C := fun w => (iSameN_any x y w).mono (R' := fun e w' => e = .returned (.bool false) ∧ w' = w) (fun _ _ h => ⟨by rw [h.1, hs], h.2.symm⟩)
          have C := Lib.hid C
          clear hs
          go_wp2_with (go_at_call 128; refine (C.out _).mono ?_; rintro e w' ⟨rfl, hw'⟩; obtain rfl := hw'.symm)
          go_ret
          first | exact ⟨ret_bool HN.out.symm, _, rfl⟩ | exact ⟨ret_bool HN.out.symm, _, World.drewN_drewN _ _ _⟩
      · obtain rfl : n = k := by omega
        go_wp2_with fail
        go_ret
        refine ⟨ret_bool ?_, _, rfl⟩
        have := HE.out
        rw [take_all hl.out, take_all hl'.out] at this
        exact this.symm
  · have h1 : ((n : Int) == n') = false := by simp; omega
    have h2 : ((n : Int) != n') = true := by simp; omega
    have HN : Hid (smL xs ys = false) := by
      show _ = _
      cases hs : smL xs ys with
      | false => rfl
      | true => exact absurd (by rw [← hl.out, ← hl'.out]; exact smL_len hs) hnn
    clear hnn
    go_enter Try.func127, Try.ntmps127
    go_wp2_with fail
    go_ret
    exact ⟨ret_bool HN.out.symm, 0, rfl⟩

set_option maxHeartbeats 2000000 in
theorem sSameAll_any (A : Option Addr) (n c : Nat) (xs : List F32) (A' : Option Addr) (n' c' : Nat) (ys : List F32) (w : World) (B B' : Nat) (h : SlF w B A n xs) (h' : SlF w B' A' n' ys) (hn : n ≤ 4294967296) (hn' : n' ≤ 4294967296) :
    Calls Try.prog 61 #[.slice A n c, .slice A' n' c'] w fun e w' => e = .returned (.bool (smL xs ys)) ∧ ∃ q, w' = w.drewN q := by
  have hl := Lib.hid h.len
  have hl' := Lib.hid h'.len
  have H := Lib.hid h; clear h
  have H' := Lib.hid h'; clear h'
  by_cases hnn : n = n'
  · subst hnn
    go_enter Try.func61, Try.ntmps61
    go_wp2_with fail
    go_loopg [5] n (fun m i wr => ∃ k : Nat, i = .int .i64 k ∧ k ≤ n ∧ n ≤ m + k ∧ Hid (smL (xs.take k) (ys.take k) = true) ∧ ∃ q, wr = w.drewN q)
    case atStart => exact ⟨0, rfl, by omega, by omega, rfl, 0, rfl⟩
    case round =>
      obtain ⟨k, rfl, hk, hm, HE, q, rfl⟩ := hrel
      by_cases hlt : k < n
      · obtain ⟨b, off, x, rfl, hbB, hx, hc⟩ := H.out.at_ hlt
        obtain ⟨b', off', y, rfl, hbB', hy, hc'⟩ := H'.out.at_ hlt
        have hi0 : (0 : Int) ≤ (k : Int) := by omega
        have hi1 : (k : Int) < (n : Int) := by omega
        cases hs : smB x y with
        | true =>
          have HN := Lib.hid (smL_take hx.out hy.out HE.out hs)
          have C := fun w => (sSameN_any x y w).mono (R' := fun e w' => e = .returned (.bool true) ∧ w' = w) (fun _ _ h => ⟨by rw [h.1, hs], h.2.symm⟩)
          have C := Lib.hid C
          clear hs
          go_wp2_with fail
          go_quiet ((go_at_call 126; first | exact Calls.quiet_of_same (C.out _) | exact quiet_more' (C.out _)))
          go_wp2_with fail
          go_roundg (gk - 1)
          case measure => omega
          case rel => exact ⟨k + 1, by go_num, by omega, by omega, HN, _, rfl⟩
        | false =>
          have HN := Lib.hid (smL_no hx.out hy.out hs)
          have C := fun w => (sSameN_any x y w).mono (R' := fun e w' => e = .returned (.bool false) ∧ w' = w) (fun _ _ h => ⟨by rw [h.1, hs], h.2.symm⟩)
          have C := Lib.hid C
          clear hs
          go_wp2_with fail
          go_quiet ((go_at_call 126; first | exact Calls.quiet_of_same (C.out _) | exact quiet_more' (C.out _)))
          go_wp2_with fail
          go_ret
          first | exact ⟨ret_bool HN.out.symm, _, rfl⟩ | exact ⟨ret_bool HN.out.symm, _, World.drewN_drewN _ _ _⟩
      · obtain rfl : n = k := by omega
        go_wp2_with fail
        go_ret
        refine ⟨ret_bool ?_, _, rfl⟩
        have := HE.out
        rw [take_all hl.out, take_all hl'.out] at this
        exact this.symm
  · have h1 : ((n : Int) == n') = false := by simp; omega
    have h2 : ((n : Int) != n') = true := by simp; omega
    have HN : Hid (smL xs ys = false) := by
      show _ = _
      cases hs : smL xs ys with
      | false => rfl
      | true => exact absurd (by rw [← hl.out, ← hl'.out]; exact smL_len hs) hnn
    clear hnn
    go_enter Try.func61, Try.ntmps61
    go_wp2_with fail
    go_ret
    exact ⟨ret_bool HN.out.symm, 0, rfl⟩

theorem iAreSame_any (A : Option Addr) (n c : Nat) (xs : List F32) (A' : Option Addr) (n' c' : Nat) (ys : List F32) (w : World) (B B' : Nat) (h : SlF w B A n xs) (h' : SlF w B' A' n' ys) (hn : n ≤ 4294967296) (hn' : n' ≤ 4294967296) :
    Calls Try.prog 63 #[.slice A n c, .slice A' n' c'] w fun e w' => e = .returned (.bool (smL xs ys)) ∧ ∃ q, w' = w.drewN q := by
  have C := Lib.hid (iEqualF_any A n c xs A' n' c' ys w B B' h h' hn hn')
  clear h h'
  go_enter Try.func63, Try.ntmps63
  go_wp2_with fail
  refine C.out.mono ?_
  rintro e w' ⟨rfl, q, rfl⟩
  go_wp2_with fail
  go_ret
  exact ⟨rfl, q, rfl⟩

def smM (S T : Int) (L M R : List F32) (S' T' : Int) (L' M' R' : List F32) : Bool := decide (S = S') && (decide (T = T') && (smL L L' && (smL M M' && smL R R')))
set_option maxHeartbeats 4000000 in
theorem iSameModel_any (v v' : Value) (S T : Int) (L M R : List F32) (S' T' : Int) (L' M' R' : List F32) (w : World) (h : Md w w.heap.size v S T L M R) (h' : Md w w.heap.size v' S' T' L' M' R') (b2 : L.length ≤ 4294967296) (b3 : M.length ≤ 4294967296) (b4 : R.length ≤ 4294967296) (b2' : L'.length ≤ 4294967296) (b3' : M'.length ≤ 4294967296) (b4' : R'.length ≤ 4294967296) :
    Calls Try.prog 17 #[v, v'] w fun e w' => e = .returned (.bool (smM S T L M R S' T' L' M' R')) ∧ Below w.heap.size w w' := by
  obtain ⟨A2, n2, c2, A3, n3, c3, A4, n4, c4, rfl, h2, h3, h4⟩ := h
  obtain ⟨A2', n2', c2', A3', n3', c3', A4', n4', c4', rfl, h2', h3', h4'⟩ := h'
  have m2 : n2 ≤ 4294967296 := by have := h2.len; rw [← this]; exact b2
  have m2' : n2' ≤ 4294967296 := by have := h2'.len; rw [← this]; exact b2'
  have m3 : n3 ≤ 4294967296 := by have := h3.len; rw [← this]; exact b3
  have m3' : n3' ≤ 4294967296 := by have := h3'.len; rw [← this]; exact b3'
  have m4 : n4 ≤ 4294967296 := by have := h4.len; rw [← this]; exact b4
  have m4' : n4' ≤ 4294967296 := by have := h4'.len; rw [← this]; exact b4'
  have HD : Hid (smM S T L M R S' T' L' M' R' = (decide (S = S') && (decide (T = T') && (smL L L' && (smL M M' && smL R R'))))) := rfl
  have C2 := Lib.hid (fun (x : World) (hx : Below w.heap.size w x) => iAreSame_any A2 n2 c2 L A2' n2' c2' L' x _ _ (h2.below hx (Nat.le_refl _)) (h2'.below hx (Nat.le_refl _)) m2 m2')
  have C3 := Lib.hid (fun (x : World) (hx : Below w.heap.size w x) => iAreSame_any A3 n3 c3 M A3' n3' c3' M' x _ _ (h3.below hx (Nat.le_refl _)) (h3'.below hx (Nat.le_refl _)) m3 m3')
  have C4 := Lib.hid (fun (x : World) (hx : Below w.heap.size w x) => iAreSame_any A4 n4 c4 R A4' n4' c4' R' x _ _ (h4.below hx (Nat.le_refl _)) (h4'.below hx (Nat.le_refl _)) m4 m4')
  clear h2 h2' h3 h3' h4 h4' b2 b2' b3 b3' b4 b4'
  by_cases p0 : S = S'
  case neg =>
    have h1 : (S == S') = false := by simp [p0]
    have HN : Hid (smM S T L M R S' T' L' M' R' = false) := by show _ = _; rw [HD.out, decide_eq_false p0]; simp
    clear p0 C2 C3 C4
    go_enter Try.func17, Try.ntmps17
    go_wp2_with fail
    go_ret
    exact ⟨ret_bool HN.out.symm, ((Below.refl _ _).alloc (Nat.le_refl _) _).alloc (by simp) _⟩
  subst p0
  have e0 : (S == S) = true := by simp
  by_cases p1 : T = T'
  case neg =>
    have h1 : (T == T') = false := by simp [p1]
    have HN : Hid (smM S T L M R S T' L' M' R' = false) := by show _ = _; rw [HD.out, decide_eq_false p1]; simp
    clear p1 C2 C3 C4
    go_enter Try.func17, Try.ntmps17
    go_wp2_with fail
    go_ret
    exact ⟨ret_bool HN.out.symm, ((Below.refl _ _).alloc (Nat.le_refl _) _).alloc (by simp) _⟩
  subst p1
  have e1 : (T == T) = true := by simp
  have ra := Lib.hid ((Row.new w 27 [.int .i64 S, .int .i64 T, .slice A2 n2 c2, .slice A3 n3 c3, .slice A4 n4 c4]).alloc (.cells ([.int .i64 S, .int .i64 T, .slice A2' n2' c2', .slice A3' n3' c3', .slice A4' n4' c4'] : List Value).toArray 27))
  have rb := Row.new (w.alloc (.cells ([.int .i64 S, .int .i64 T, .slice A2 n2 c2, .slice A3 n3 c3, .slice A4 n4 c4] : List Value).toArray 27)) 27 [.int .i64 S, .int .i64 T, .slice A2' n2' c2', .slice A3' n3' c3', .slice A4' n4' c4']
  rw [show (w.alloc (.cells ([.int .i64 S, .int .i64 T, .slice A2 n2 c2, .slice A3 n3 c3, .slice A4 n4 c4] : List Value).toArray 27)).heap.size = w.heap.size + 1 by simp] at rb
  have rb := Lib.hid rb
  have bx : Below w.heap.size w ((w.alloc (.cells ([.int .i64 S, .int .i64 T, .slice A2 n2 c2, .slice A3 n3 c3, .slice A4 n4 c4] : List Value).toArray 27)).alloc (.cells ([.int .i64 S, .int .i64 T, .slice A2' n2' c2', .slice A3' n3' c3', .slice A4' n4' c4'] : List Value).toArray 27)) := ((Below.refl _ _).alloc (Nat.le_refl _) _).alloc (by simp) _
  have bx := Lib.hid bx
  obtain ⟨d2, hd2⟩ : ∃ d, d = smL L L' := ⟨_, rfl⟩
  rw [← hd2] at C2
  obtain ⟨d3, hd3⟩ : ∃ d, d = smL M M' := ⟨_, rfl⟩
  rw [← hd3] at C3
  obtain ⟨d4, hd4⟩ : ∃ d, d = smL R R' := ⟨_, rfl⟩
  rw [← hd4] at C4
  have HD3 : Hid (smM S T L M R S T L' M' R' = (d2 && (d3 && d4))) := by show _ = _; rw [HD.out, hd2, hd3, hd4]; simp
  clear HD hd2 hd3 hd4
  go_enter Try.func17, Try.ntmps17
  go_wp2_with fail
  obtain ⟨x0, hx0⟩ : ∃ x, x = (w.alloc (.cells ([.int .i64 S, .int .i64 T, .slice A2 n2 c2, .slice A3 n3 c3, .slice A4 n4 c4] : List Value).toArray 27)).alloc (.cells ([.int .i64 S, .int .i64 T, .slice A2' n2' c2', .slice A3' n3' c3', .slice A4' n4' c4'] : List Value).toArray 27) := ⟨_, rfl⟩
  rw [← hx0] at ra rb bx
  change Calls _ _ _ ((w.alloc (.cells ([.int .i64 S, .int .i64 T, .slice A2 n2 c2, .slice A3 n3 c3, .slice A4 n4 c4] : List Value).toArray 27)).alloc (.cells ([.int .i64 S, .int .i64 T, .slice A2' n2' c2', .slice A3' n3' c3', .slice A4' n4' c4'] : List Value).toArray 27)) _
  rw [← hx0]
  clear hx0
  refine (C2.out _ bx.out).mono ?_
  rintro e w2 ⟨rfl, hq⟩
  have hb := drew_below hq
  clear hq
  have ra : Hid (Row w2 w.heap.size 27 [.int .i64 S, .int .i64 T, .slice A2 n2 c2, .slice A3 n3 c3, .slice A4 n4 c4]) := ra.out.below hb ra.out.lt
  have rb : Hid (Row w2 (w.heap.size + 1) 27 [.int .i64 S, .int .i64 T, .slice A2' n2' c2', .slice A3' n3' c3', .slice A4' n4' c4']) := rb.out.below hb rb.out.lt
  have bx : Hid (Below w.heap.size w w2) := bx.out.trans (hb.mono bx.out.size)
  clear hb
  cases d2 with
  | false =>
    go_wp2_with fail
    go_ret
    exact ⟨ret_bool (by rw [HD3.out]; simp), bx.out⟩
  | true =>
    have ca := ra.out.cell 3
    have cb := rb.out.cell 3
    go_wp2_with fail
    clear ca cb
    refine (C3.out _ bx.out).mono ?_
    rintro e w3 ⟨rfl, hq⟩
    have hb := drew_below hq
    clear hq
    have ra : Hid (Row w3 w.heap.size 27 [.int .i64 S, .int .i64 T, .slice A2 n2 c2, .slice A3 n3 c3, .slice A4 n4 c4]) := ra.out.below hb ra.out.lt
    have rb : Hid (Row w3 (w.heap.size + 1) 27 [.int .i64 S, .int .i64 T, .slice A2' n2' c2', .slice A3' n3' c3', .slice A4' n4' c4']) := rb.out.below hb rb.out.lt
    have bx : Hid (Below w.heap.size w w3) := bx.out.trans (hb.mono bx.out.size)
    clear hb
    cases d3 with
    | false =>
      go_wp2_with fail
      go_ret
      exact ⟨ret_bool (by rw [HD3.out]; simp), bx.out⟩
    | true =>
      have ca := ra.out.cell 4
      have cb := rb.out.cell 4
      go_wp2_with fail
      clear ca cb
      refine (C4.out _ bx.out).mono ?_
      rintro e w4 ⟨rfl, hq⟩
      have hb := drew_below hq
      clear hq
      have ra : Hid (Row w4 w.heap.size 27 [.int .i64 S, .int .i64 T, .slice A2 n2 c2, .slice A3 n3 c3, .slice A4 n4 c4]) := ra.out.below hb ra.out.lt
      have rb : Hid (Row w4 (w.heap.size + 1) 27 [.int .i64 S, .int .i64 T, .slice A2' n2' c2', .slice A3' n3' c3', .slice A4' n4' c4']) := rb.out.below hb rb.out.lt
      have bx : Hid (Below w.heap.size w w4) := bx.out.trans (hb.mono bx.out.size)
      clear hb
      cases d4 with
      | false =>
        go_wp2_with fail
        go_ret
        exact ⟨ret_bool (by rw [HD3.out]; simp), bx.out⟩
      | true =>
        go_wp2_with fail
        go_ret
        exact ⟨ret_bool (by rw [HD3.out]; simp), bx.out⟩
set_option maxHeartbeats 4000000 in
theorem sSameModel_any (v v' : Value) (S T : Int) (L M R : List F32) (S' T' : Int) (L' M' R' : List F32) (w : World) (h : Md w w.heap.size v S T L M R) (h' : Md w w.heap.size v' S' T' L' M' R') (b2 : L.length ≤ 4294967296) (b3 : M.length ≤ 4294967296) (b4 : R.length ≤ 4294967296) (b2' : L'.length ≤ 4294967296) (b3' : M'.length ≤ 4294967296) (b4' : R'.length ≤ 4294967296) :
    Calls Try.prog 15 #[v, v'] w fun e w' => e = .returned (.bool (smM S T L M R S' T' L' M' R')) ∧ Below w.heap.size w w' := by
  obtain ⟨A2, n2, c2, A3, n3, c3, A4, n4, c4, rfl, h2, h3, h4⟩ := h
  obtain ⟨A2', n2', c2', A3', n3', c3', A4', n4', c4', rfl, h2', h3', h4'⟩ := h'
  have m2 : n2 ≤ 4294967296 := by have := h2.len; rw [← this]; exact b2
  have m2' : n2' ≤ 4294967296 := by have := h2'.len; rw [← this]; exact b2'
  have m3 : n3 ≤ 4294967296 := by have := h3.len; rw [← this]; exact b3
  have m3' : n3' ≤ 4294967296 := by have := h3'.len; rw [← this]; exact b3'
  have m4 : n4 ≤ 4294967296 := by have := h4.len; rw [← this]; exact b4
  have m4' : n4' ≤ 4294967296 := by have := h4'.len; rw [← this]; exact b4'
  have HD : Hid (smM S T L M R S' T' L' M' R' = (decide (S = S') && (decide (T = T') && (smL L L' && (smL M M' && smL R R'))))) := rfl
  have C2 := Lib.hid (fun (x : World) (hx : Below w.heap.size w x) => sSameAll_any A2 n2 c2 L A2' n2' c2' L' x _ _ (h2.below hx (Nat.le_refl _)) (h2'.below hx (Nat.le_refl _)) m2 m2')
  have C3 := Lib.hid (fun (x : World) (hx : Below w.heap.size w x) => sSameAll_any A3 n3 c3 M A3' n3' c3' M' x _ _ (h3.below hx (Nat.le_refl _)) (h3'.below hx (Nat.le_refl _)) m3 m3')
  have C4 := Lib.hid (fun (x : World) (hx : Below w.heap.size w x) => sSameAll_any A4 n4 c4 R A4' n4' c4' R' x _ _ (h4.below hx (Nat.le_refl _)) (h4'.below hx (Nat.le_refl _)) m4 m4')
  clear h2 h2' h3 h3' h4 h4' b2 b2' b3 b3' b4 b4'
  by_cases p0 : S = S'
  case neg =>
    have h1 : (S == S') = false := by simp [p0]
    have HN : Hid (smM S T L M R S' T' L' M' R' = false) := by show _ = _; rw [HD.out, decide_eq_false p0]; simp
    clear p0 C2 C3 C4
    go_enter Try.func15, Try.ntmps15
    go_wp2_with fail
    go_ret
    exact ⟨ret_bool HN.out.symm, ((Below.refl _ _).alloc (Nat.le_refl _) _).alloc (by simp) _⟩
  subst p0
  have e0 : (S == S) = true := by simp
  by_cases p1 : T = T'
  case neg =>
    have h1 : (T == T') = false := by simp [p1]
    have HN : Hid (smM S T L M R S T' L' M' R' = false) := by show _ = _; rw [HD.out, decide_eq_false p1]; simp
    clear p1 C2 C3 C4
    go_enter Try.func15, Try.ntmps15
    go_wp2_with fail
    go_ret
    exact ⟨ret_bool HN.out.symm, ((Below.refl _ _).alloc (Nat.le_refl _) _).alloc (by simp) _⟩
  subst p1
  have e1 : (T == T) = true := by simp
  have ra := Lib.hid ((Row.new w 27 [.int .i64 S, .int .i64 T, .slice A2 n2 c2, .slice A3 n3 c3, .slice A4 n4 c4]).alloc (.cells ([.int .i64 S, .int .i64 T, .slice A2' n2' c2', .slice A3' n3' c3', .slice A4' n4' c4'] : List Value).toArray 27))
  have rb := Row.new (w.alloc (.cells ([.int .i64 S, .int .i64 T, .slice A2 n2 c2, .slice A3 n3 c3, .slice A4 n4 c4] : List Value).toArray 27)) 27 [.int .i64 S, .int .i64 T, .slice A2' n2' c2', .slice A3' n3' c3', .slice A4' n4' c4']
  rw [show (w.alloc (.cells ([.int .i64 S, .int .i64 T, .slice A2 n2 c2, .slice A3 n3 c3, .slice A4 n4 c4] : List Value).toArray 27)).heap.size = w.heap.size + 1 by simp] at rb
  have rb := Lib.hid rb
  have bx : Below w.heap.size w ((w.alloc (.cells ([.int .i64 S, .int .i64 T, .slice A2 n2 c2, .slice A3 n3 c3, .slice A4 n4 c4] : List Value).toArray 27)).alloc (.cells ([.int .i64 S, .int .i64 T, .slice A2' n2' c2', .slice A3' n3' c3', .slice A4' n4' c4'] : List Value).toArray 27)) := ((Below.refl _ _).alloc (Nat.le_refl _) _).alloc (by simp) _
  have bx := Lib.hid bx
  obtain ⟨d2, hd2⟩ : ∃ d, d = smL L L' := ⟨_, rfl⟩
  rw [← hd2] at C2
  obtain ⟨d3, hd3⟩ : ∃ d, d = smL M M' := ⟨_, rfl⟩
  rw [← hd3] at C3
  obtain ⟨d4, hd4⟩ : ∃ d, d = smL R R' := ⟨_, rfl⟩
  rw [← hd4] at C4
  have HD3 : Hid (smM S T L M R S T L' M' R' = (d2 && (d3 && d4))) := by show _ = _; rw [HD.out, hd2, hd3, hd4]; simp
  clear HD hd2 hd3 hd4
  go_enter Try.func15, Try.ntmps15
  go_wp2_with fail
  obtain ⟨x0, hx0⟩ : ∃ x, x = (w.alloc (.cells ([.int .i64 S, .int .i64 T, .slice A2 n2 c2, .slice A3 n3 c3, .slice A4 n4 c4] : List Value).toArray 27)).alloc (.cells ([.int .i64 S, .int .i64 T, .slice A2' n2' c2', .slice A3' n3' c3', .slice A4' n4' c4'] : List Value).toArray 27) := ⟨_, rfl⟩
  rw [← hx0] at ra rb bx
  change Calls _ _ _ ((w.alloc (.cells ([.int .i64 S, .int .i64 T, .slice A2 n2 c2, .slice A3 n3 c3, .slice A4 n4 c4] : List Value).toArray 27)).alloc (.cells ([.int .i64 S, .int .i64 T, .slice A2' n2' c2', .slice A3' n3' c3', .slice A4' n4' c4'] : List Value).toArray 27)) _
  rw [← hx0]
  clear hx0
  refine (C2.out _ bx.out).mono ?_
  rintro e w2 ⟨rfl, hq⟩
  have hb := drew_below hq
  clear hq
  have ra : Hid (Row w2 w.heap.size 27 [.int .i64 S, .int .i64 T, .slice A2 n2 c2, .slice A3 n3 c3, .slice A4 n4 c4]) := ra.out.below hb ra.out.lt
  have rb : Hid (Row w2 (w.heap.size + 1) 27 [.int .i64 S, .int .i64 T, .slice A2' n2' c2', .slice A3' n3' c3', .slice A4' n4' c4']) := rb.out.below hb rb.out.lt
  have bx : Hid (Below w.heap.size w w2) := bx.out.trans (hb.mono bx.out.size)
  clear hb
  cases d2 with
  | false =>
    go_wp2_with fail
    go_ret
    exact ⟨ret_bool (by rw [HD3.out]; simp), bx.out⟩
  | true =>
    have ca := ra.out.cell 3
    have cb := rb.out.cell 3
    go_wp2_with fail
    clear ca cb
    refine (C3.out _ bx.out).mono ?_
    rintro e w3 ⟨rfl, hq⟩
    have hb := drew_below hq
    clear hq
    have ra : Hid (Row w3 w.heap.size 27 [.int .i64 S, .int .i64 T, .slice A2 n2 c2, .slice A3 n3 c3, .slice A4 n4 c4]) := ra.out.below hb ra.out.lt
    have rb : Hid (Row w3 (w.heap.size + 1) 27 [.int .i64 S, .int .i64 T, .slice A2' n2' c2', .slice A3' n3' c3', .slice A4' n4' c4']) := rb.out.below hb rb.out.lt
    have bx : Hid (Below w.heap.size w w3) := bx.out.trans (hb.mono bx.out.size)
    clear hb
    cases d3 with
    | false =>
      go_wp2_with fail
      go_ret
      exact ⟨ret_bool (by rw [HD3.out]; simp), bx.out⟩
    | true =>
      have ca := ra.out.cell 4
      have cb := rb.out.cell 4
      go_wp2_with fail
      clear ca cb
      refine (C4.out _ bx.out).mono ?_
      rintro e w4 ⟨rfl, hq⟩
      have hb := drew_below hq
      clear hq
      have ra : Hid (Row w4 w.heap.size 27 [.int .i64 S, .int .i64 T, .slice A2 n2 c2, .slice A3 n3 c3, .slice A4 n4 c4]) := ra.out.below hb ra.out.lt
      have rb : Hid (Row w4 (w.heap.size + 1) 27 [.int .i64 S, .int .i64 T, .slice A2' n2' c2', .slice A3' n3' c3', .slice A4' n4' c4']) := rb.out.below hb rb.out.lt
      have bx : Hid (Below w.heap.size w w4) := bx.out.trans (hb.mono bx.out.size)
      clear hb
      cases d4 with
      | false =>
        go_wp2_with fail
        go_ret
        exact ⟨ret_bool (by rw [HD3.out]; simp), bx.out⟩
      | true =>
        go_wp2_with fail
        go_ret
        exact ⟨ret_bool (by rw [HD3.out]; simp), bx.out⟩
end Go.Proofs.Ytkgifbiaaaemnaa
