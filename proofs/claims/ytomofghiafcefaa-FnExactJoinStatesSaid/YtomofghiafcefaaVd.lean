/- ValidModel: rows of chances, of both programs. -/
import Derived.Test.YtomofghiafcefaaVdP
import Derived.Test.YtomofghiafcefaaModelSt
import Derived.Test.YtomofghiafcefaaTxtB
import Derived.Deep.LoopGhost

namespace Go.Proofs.Ytomofghiafcefaa
open Go.RowKit
set_option linter.unusedVariables false
def okS (x : F32) : Bool := geF x.b 0 && leF x.b 1065353216
def okD (x : F32) : Bool := leF x.b cN && geF x.b cM
def rowB (xs : List F32) : Bool := xs.all okS && okD (fop .sub (fsum xs) f1)
theorem okS_NN {x : F32} (h : okS x = true) : NN x.b := by
  simp only [okS, Bool.and_eq_true] at h; exact NN.of_ge h.1
theorem all_NN {xs : List F32} (h : xs.all okS = true) : ∀ x ∈ xs, NN x.b := fun x hx => okS_NN (List.all_eq_true.1 h x hx)
theorem fsum_take {xs : List F32} {k : Nat} {x : F32} (hx : xs[k]? = some x) : fsum (xs.take (k + 1)) = fop .add (fsum (xs.take k)) x := by
  obtain ⟨h1, rfl⟩ := List.getElem?_eq_some_iff.1 hx
  rw [List.take_succ_eq_append_getElem h1, fsum_snoc]
theorem NN_take {xs : List F32} (h : ∀ x ∈ xs, NN x.b) (k : Nat) : NN (fsum (xs.take k)).b := fsum_NN fun x hx => h x (List.mem_of_mem_take hx)
theorem add_law {x y z : F32} (hx : NN x.b) (hy : NN y.b) (hz : z = fop .add x y) (P : Program) : ∀ (t : TypeId) (w : World), (binOp .add t (.float .f32 x.b) (.float .f32 y.b)).run P w = .ok (.float .f32 z.b) w := by
  subst hz; exact fun t w => run_float_arith w .add t .f32 _ _ _ (NN.fadd hx hy).1
theorem sub_law {x z : F32} (hx : NN x.b) (hz : z = fop .sub x f1) (P : Program) : ∀ (t : TypeId) (w : World), (binOp .sub t (.float .f32 x.b) (.float .f32 1065353216)).run P w = .ok (.float .f32 z.b) w := by
  subst hz; exact fun t w => run_float_arith w .sub t .f32 _ _ _ (NN.sub1 hx).1
theorem all_take {xs : List F32} {k : Nat} {x : F32} (h : (xs.take k).all okS = true) (hx : xs[k]? = some x) (h1 : okS x = true) : (xs.take (k + 1)).all okS = true := by
  obtain ⟨h2, rfl⟩ := List.getElem?_eq_some_iff.1 hx
  rw [List.take_succ_eq_append_getElem h2, List.all_append, h, Bool.true_and, List.all_cons, h1]; rfl
theorem all_no {xs : List F32} {k : Nat} {x : F32} (hx : xs[k]? = some x) (h1 : okS x = false) : xs.all okS = false := by
  rw [List.all_eq_false]; exact ⟨x, List.mem_of_getElem? hx, by simp [h1]⟩
set_option maxHeartbeats 1000000 in
theorem iAddUp_any (A : Option Addr) (n c : Nat) (xs : List F32) (w : World) (B : Nat) (h : SlF w B A n xs) (hx : ∀ x ∈ xs, NN x.b) (hn : n ≤ 4294967296) :
    Calls Try.prog 49 #[.slice A n c] w fun e w' => e = .returned (.float .f32 (fsum xs).b) ∧ w = w' := by
  have hl := Lib.hid h.len
  have H := Lib.hid h; clear h
  have HX := Lib.hid hx; clear hx
  go_enter Try.func49, Try.ntmps49
  go_wp2_with fail
  go_loopg [3, 5, 8] n (fun m s u i wr => ∃ k : Nat, i = .int .i64 k ∧ k ≤ n ∧ n ≤ m + k ∧ s = .float .f32 (fsum (xs.take k)).b ∧ wr = w)
  case atStart => exact ⟨0, rfl, by omega, by omega, rfl, rfl⟩
  case round =>
    obtain ⟨k, rfl, hk, hm, rfl, rfl⟩ := hrel
    by_cases hlt : k < n
    · obtain ⟨b, off, x, rfl, hbB, hx, hc⟩ := H.out.at_ hlt
      obtain ⟨z, hz⟩ : ∃ z, z = fop .add (fsum (xs.take k)) x := ⟨_, rfl⟩
      have hop := add_law (NN_take HX.out k) (HX.out x (List.mem_of_getElem? hx.out)) hz Try.prog
      have HZ : Hid (fsum (xs.take (k + 1)) = z) := by show _ = _; rw [fsum_take hx.out, hz]
      clear hz
      have l0 : (0 : Int) ≤ (k : Int) := by omega
      have l1 : (k : Int) < (n : Int) := by omega
      go_wp2_with fail
      go_roundg (gk - 1)
      case measure => omega
      case rel => exact ⟨k + 1, by go_num, by omega, by omega, by rw [HZ.out], rfl⟩
    · obtain rfl : n = k := by omega
      go_wp2_with fail
      go_ret
      rw [take_all hl.out]
      exact ⟨rfl, rfl⟩
theorem iAbs_lt (d : Nat) (w : World) (h : ordF d 0 = some .lt) :
    Calls Try.prog 28 #[.float .f32 d] w fun e w' => e = .returned (.float .f32 (Op.negFloat .f32 d)) ∧ w = w' := by
  have h' : (FloatKind.format .f32).order d 0 = some .lt := h
  have q1 : ((some Ordering.lt : Option Ordering) == some .lt) = true := by decide
  have hu : ∀ w : World, (Op.unary .neg (.float .f32 d)).run Try.prog w = .ok (.float .f32 (Op.negFloat .f32 d)) w := fun _ => rfl
  clear h
  go_enter Try.func28, Try.ntmps28
  go_wp2_with fail
  go_ret
  exact ⟨rfl, rfl⟩
theorem iAbs_ge (d : Nat) (w : World) (h : ordF d 0 ≠ some .lt) :
    Calls Try.prog 28 #[.float .f32 d] w fun e w' => e = .returned (.float .f32 d) ∧ w = w' := by
  have h' : ((FloatKind.format .f32).order d 0 == some .lt) = false := by simpa [ordF] using h
  clear h
  go_enter Try.func28, Try.ntmps28
  go_wp2_with fail
  go_ret
  exact ⟨rfl, rfl⟩
set_option maxHeartbeats 1000000 in
theorem iChances_any (A : Option Addr) (n c : Nat) (xs : List F32) (w : World) (B : Nat) (h : SlF w B A n xs) (hn : n ≤ 4294967296) :
    Calls Try.prog 45 #[.slice A n c] w fun e w' => e = .returned (.bool (rowB xs)) ∧ w = w' := by
  have hl := Lib.hid h.len
  have H := Lib.hid h; clear h
  go_enter Try.func45, Try.ntmps45
  go_wp2_with fail
  go_loopg [4, 7] n (fun m u i wr => ∃ k : Nat, i = .int .i64 k ∧ k ≤ n ∧ n ≤ m + k ∧ Hid ((xs.take k).all okS = true) ∧ wr = w)
  case atStart => exact ⟨0, rfl, by omega, by omega, rfl, rfl⟩
  case round =>
    obtain ⟨k, rfl, hk, hm, HE, rfl⟩ := hrel
    by_cases hlt : k < n
    · obtain ⟨b, off, x, rfl, hbB, hx, hc⟩ := H.out.at_ hlt
      have l0 : (0 : Int) ≤ (k : Int) := by omega
      have l1 : (k : Int) < (n : Int) := by omega
      obtain ⟨g, hg⟩ : ∃ g, ((FloatKind.format .f32).order x.b 0 == some .gt || (FloatKind.format .f32).order x.b 0 == some .eq) = g := ⟨_, rfl⟩
      obtain ⟨l, hle⟩ : ∃ g, ((FloatKind.format .f32).order x.b 1065353216 == some .lt || (FloatKind.format .f32).order x.b 1065353216 == some .eq) = g := ⟨_, rfl⟩
      have HK : Hid (okS x = (g && l)) := by show _ = _; rw [← hg, ← hle]; rfl
      cases g with
      | false =>
        have HN : Hid (rowB xs = false) := by show _ = _; rw [rowB, all_no hx.out (by rw [HK.out]; rfl)]; rfl
        go_wp2_with fail
        go_ret
        exact ⟨ret_bool HN.out.symm, rfl⟩
      | true =>
        cases l with
        | false =>
          have HN : Hid (rowB xs = false) := by show _ = _; rw [rowB, all_no hx.out (by rw [HK.out]; rfl)]; rfl
          go_wp2_with fail
          go_ret
          exact ⟨ret_bool HN.out.symm, rfl⟩
        | true =>
          have HN := Lib.hid (all_take HE.out hx.out (by rw [HK.out]; rfl))
          go_wp2_with fail
          go_roundg (gk - 1)
          case measure => omega
          case rel => exact ⟨k + 1, by go_num, by omega, by omega, HN, rfl⟩
    · obtain rfl : n = k := by omega
      have hall : xs.all okS = true := by have := HE.out; rw [take_all hl.out] at this; exact this
      have hNN := all_NN hall
      obtain ⟨s, hs⟩ : ∃ s, s = fsum xs := ⟨_, rfl⟩
      have hsn : NN s.b := by rw [hs]; exact fsum_NN hNN
      have CA := iAddUp_any A n c xs wr B H.out hNN hn
      rw [← hs] at CA
      obtain ⟨d, hd⟩ : ∃ d, d = fop .sub s f1 := ⟨_, rfl⟩
      have hop := sub_law hsn hd Try.prog
      have HR : Hid (rowB xs = (leF d.b cN && geF d.b cM)) := by show _ = _; rw [rowB, hall, ← hs, ← hd]; rfl
      have hdn : isN .f32 d.b = false := by rw [hd]; exact (NN.sub1 hsn).2
      clear hs hsn hall hNN hd
      by_cases hlt0 : ordF d.b 0 = some .lt
      · have HN := Lib.hid (near_neg d.lt hlt0)
        have CB := iAbs_lt d.b wr hlt0
        clear hlt0 hdn
        have CA := Lib.hid CA; have CB := Lib.hid CB
        go_wp2_with (first | (go_at_call 49; refine CA.out.mono ?_; rintro e w' ⟨rfl, hw'⟩; obtain rfl := hw') | (go_at_call 28; refine CB.out.mono ?_; rintro e w' ⟨rfl, hw'⟩; obtain rfl := hw'))
        go_ret
        exact ⟨ret_bool (by rw [HR.out, ← HN.out]; rfl), rfl⟩
      · have HN := Lib.hid (near_pos hdn hlt0)
        have CB := iAbs_ge d.b wr hlt0
        clear hlt0 hdn
        have CA := Lib.hid CA; have CB := Lib.hid CB
        go_wp2_with (first | (go_at_call 49; refine CA.out.mono ?_; rintro e w' ⟨rfl, hw'⟩; obtain rfl := hw') | (go_at_call 28; refine CB.out.mono ?_; rintro e w' ⟨rfl, hw'⟩; obtain rfl := hw'))
        go_ret
        exact ⟨ret_bool (by rw [HR.out, ← HN.out]; rfl), rfl⟩
/-- Row i of a table whose rows are long. -/
def chk (xs : List F32) (l i : Nat) : List F32 := (xs.drop (i * l)).take l
def arB (xs : List F32) (r l : Nat) : Bool := decide (xs.length = r * l) && (List.range r).all (fun i => rowB (chk xs l i))
theorem chk_len {xs : List F32} {l i r : Nat} (h : xs.length = r * l) (hi : i < r) : (chk xs l i).length = l := by
  have : (i + 1) * l ≤ r * l := Nat.mul_le_mul_right _ hi
  rw [Nat.add_mul, Nat.one_mul] at this
  simp [chk]; omega
theorem SlF.sub {w : World} {B b off n : Nat} {xs : List F32} (h : SlF w B (some ⟨b, off, none⟩) n xs) {p k : Nat} (hp : p + k ≤ n) : SlF w B (some ⟨b, off + p, none⟩) k ((xs.drop p).take k) := by
  have hl := h.len
  refine ⟨by rw [fv_length, List.length_take, List.length_drop]; omega, fun hk => ?_⟩
  obtain ⟨b', off', he, hb, hc⟩ := h.2 (by omega)
  have e2 := Option.some.inj he
  injection e2 with e3 e4 _
  subst e3 e4
  refine ⟨b, off + p, rfl, hb, fun j u hu => ?_⟩
  obtain ⟨x, hx, rfl⟩ := fv_get hu
  have hj : j < k := by have := (List.getElem?_eq_some_iff.1 hx).1; rw [List.length_take] at this; omega
  rw [List.getElem?_take_of_lt hj, List.getElem?_drop] at hx
  rw [Nat.add_assoc]
  exact hc (p + j) _ (by simp [fv, hx])
theorem range_all_succ (f : Nat → Bool) (k : Nat) : (List.range (k + 1)).all f = ((List.range k).all f && f k) := by
  rw [List.range_succ, List.all_append]; simp
theorem range_all_no {f : Nat → Bool} {k r : Nat} (h : k < r) (hf : f k = false) : (List.range r).all f = false := by
  rw [List.all_eq_false]; exact ⟨k, List.mem_range.2 h, by simp [hf]⟩
set_option maxHeartbeats 1000000 in
theorem iRowOf_any (b off n c l i p : Nat) (w : World) (hp : p = i * l) (hn : p + l ≤ n) (hnc : n ≤ c) (hc : c ≤ 9223372036854775807) (hl : l ≤ 1000) (hi : i ≤ 1000) (h0 : 0 < l) :
    Calls Try.prog 34 #[.slice (some ⟨b, off, none⟩) n c, .int .i64 l, .int .i64 i] w fun e w' => e = .returned (.slice (some ⟨b, off + p, none⟩) l l) ∧ w = w' := by
  have hpl : p ≤ 1000 * 1000 := by rw [hp]; exact Nat.mul_le_mul hi hl
  have w1 : IntKind.i64.wrap ((i : Int) * (l : Int)) = (p : Int) := by rw [hp, IntWalk.i64_in _ (by rw [← Int.natCast_mul, ← hp]; omega)]; simp
  have w3 : IntKind.i64.wrap (((i : Int) + 1) * (l : Int)) = (p : Int) + (l : Int) := by
    have e : ((i : Int) + 1) * (l : Int) = (p : Int) + (l : Int) := by rw [hp, Int.add_mul, Int.one_mul, Int.natCast_mul]
    rw [e, IntWalk.i64_in _ (by omega)]
  have l1 : (0 : Int) ≤ (p : Int) := by omega
  have l2 : (p : Int) ≤ (p : Int) + (l : Int) := by omega
  have l3 : (p : Int) + (l : Int) ≤ (c : Int) := by omega
  have l4 : (p : Int) < (c : Int) := by omega
  have hne : ¬ c = p := by omega
  clear hp
  go_enter Try.func34, Try.ntmps34
  go_wp2_with fail
  go_ret
  exact ⟨by rw [Nat.add_sub_cancel_left]; rfl, rfl⟩
set_option maxHeartbeats 1000000 in
theorem iRows_any (A : Option Addr) (n c : Nat) (xs : List F32) (r l : Nat) (w : World) (B : Nat) (h : SlF w B A n xs) (hnc : n ≤ c) (hc : c ≤ 9223372036854775807) (hr0 : 1 ≤ r) (hr : r ≤ 5) (hl0 : 1 ≤ l) (hl : l ≤ 5) :
    Calls Try.prog 38 #[.slice A n c, .int .i64 r, .int .i64 l] w fun e w' => e = .returned (.bool (arB xs r l)) ∧ w = w' := by
  have hn := h.len
  obtain ⟨q, hq⟩ : ∃ q, q = r * l := ⟨_, rfl⟩
  have hq1 : q ≤ 25 := by rw [hq]; exact Nat.mul_le_mul hr hl
  have hq0 : 1 ≤ q := by rw [hq]; exact Nat.mul_pos hr0 hl0
  have w1 : IntKind.i64.wrap ((r : Int) * (l : Int)) = (q : Int) := by rw [hq, IntWalk.i64_in _ (by rw [← Int.natCast_mul, ← hq]; omega)]; simp
  by_cases hnq : n = q
  · subst hnq
    obtain ⟨b, off, hA, hbB, -⟩ := h.2 (by omega)
    subst hA
    have e1 : ((n : Int) == (n : Int)) = true := by simp
    have e2 : ((n : Int) != (n : Int)) = false := by simp
    have HN := Lib.hid hn; have HQ := Lib.hid hq; have H := Lib.hid h
    clear hn hq h
    go_enter Try.func38, Try.ntmps38
    go_wp2_with fail
    go_loopg [7, 15] r (fun m u i wr => ∃ k : Nat, i = .int .i64 k ∧ k ≤ r ∧ r ≤ m + k ∧ Hid ((List.range k).all (fun i => rowB (chk xs l i)) = true) ∧ wr = w)
    case atStart => exact ⟨0, rfl, by omega, by omega, rfl, rfl⟩
    case round =>
      obtain ⟨k, rfl, hk, hm, HE, rfl⟩ := hrel
      by_cases hlt : k < r
      · have hp : k * l + l ≤ n := by
          rw [HQ.out]
          have : (k + 1) * l ≤ r * l := Nat.mul_le_mul_right _ hlt
          rw [Nat.add_mul, Nat.one_mul] at this; exact this
        have C1 := iRowOf_any b off n c l k (k * l) wr rfl hp hnc hc (by omega) (by omega) hl0
        have C2 := iChances_any (some ⟨b, off + k * l, none⟩) l l (chk xs l k) wr B (SlF.sub H.out hp) (by omega)
        clear hp
        obtain ⟨d, hd⟩ : ∃ d, d = rowB (chk xs l k) := ⟨_, rfl⟩
        rw [← hd] at C2
        have C1 := Lib.hid C1; have C2 := Lib.hid C2; have HD := Lib.hid hd; clear hd
        cases d with
        | false =>
          have HF : Hid (arB xs r l = false) := by show _ = _; rw [arB, range_all_no hlt HD.out.symm, Bool.and_false]
          go_wp2_with (first | (go_at_call 34; refine C1.out.mono ?_; rintro e w' ⟨rfl, hw'⟩; obtain rfl := hw') | (go_at_call 45; refine C2.out.mono ?_; rintro e w' ⟨rfl, hw'⟩; obtain rfl := hw'))
          go_ret
          exact ⟨ret_bool HF.out.symm, rfl⟩
        | true =>
          have HT : Hid ((List.range (k + 1)).all (fun i => rowB (chk xs l i)) = true) := by show _ = _; rw [range_all_succ, HE.out, ← HD.out]; rfl
          go_wp2_with (first | (go_at_call 34; refine C1.out.mono ?_; rintro e w' ⟨rfl, hw'⟩; obtain rfl := hw') | (go_at_call 45; refine C2.out.mono ?_; rintro e w' ⟨rfl, hw'⟩; obtain rfl := hw'))
          go_roundg (gk - 1)
          case measure => omega
          case rel => exact ⟨k + 1, by go_num, by omega, by omega, HT, rfl⟩
      · obtain rfl : r = k := by omega
        go_wp2_with fail
        go_ret
        exact ⟨ret_bool (by rw [arB, HE.out, HN.out, HQ.out]; simp), rfl⟩
  · have h1 : ((n : Int) == (q : Int)) = false := by simp; omega
    have h2 : ((n : Int) != (q : Int)) = true := by simp; omega
    have HF : Hid (arB xs r l = false) := by show _ = _; rw [arB, decide_eq_false (by rw [hn, ← hq]; exact hnq)]; rfl
    clear hnq hn hq h
    go_enter Try.func38, Try.ntmps38
    go_wp2_with fail
    go_ret
    exact ⟨ret_bool HF.out.symm, rfl⟩
/-- A model's lists, whole or with room behind. -/
def capOk (v : Value) : Prop := ∃ S T A2 n2 c2 A3 n3 c3 A4 n4 c4, v = .agg #[S, T, .slice A2 n2 c2, .slice A3 n3 c3, .slice A4 n4 c4] ∧ n2 ≤ c2 ∧ c2 ≤ 9223372036854775807 ∧ n3 ≤ c3 ∧ c3 ≤ 9223372036854775807 ∧ n4 ≤ c4 ∧ c4 ≤ 9223372036854775807
def vdM (S T : Int) (P Q R : List F32) : Bool := inB S 1 5 && (inB T 1 4 && (arB P 1 S.toNat && (arB Q S.toNat S.toNat && arB R S.toNat T.toNat)))
theorem vdM_S {S T : Int} {P Q R : List F32} (h : inB S 1 5 = false) : vdM S T P Q R = false := by rw [vdM, h]; rfl
set_option maxHeartbeats 4000000 in
theorem iValidModel_any (v : Value) (S T : Int) (P Q R : List F32) (w : World) (h : Md w w.heap.size v S T P Q R) (hcap : capOk v) :
    Calls Try.prog 23 #[v] w fun e w' => e = .returned (.bool (vdM S T P Q R)) ∧ Below w.heap.size w w' := by
  obtain ⟨A2, n2, c2, A3, n3, c3, A4, n4, c4, rfl, h2, h3, h4⟩ := h
  obtain ⟨S_, T_, A2_, n2_, c2_, A3_, n3_, c3_, A4_, n4_, c4_, e, k2, k2', k3, k3', k4, k4'⟩ := hcap
  simp only [Value.agg.injEq, Array.mk.injEq, List.cons.injEq, Value.slice.injEq, and_true] at e
  obtain ⟨-, -, ⟨-, e2, e3⟩, ⟨-, e4, e5⟩, ⟨-, e6, e7⟩⟩ := e
  subst e2 e3 e4 e5 e6 e7
  have W1 := iIn_any S 1 5; have W2 := iIn_any T 1 4
  have bx : Below w.heap.size w (w.alloc (.cells ([.int .i64 S, .int .i64 T, .slice A2 n2 c2, .slice A3 n3 c3, .slice A4 n4 c4] : List Value).toArray 29)) := (Below.refl _ _).alloc (Nat.le_refl _) _
  have BX := Lib.hid bx; clear bx
  cases q1 : inB S 1 5 with
  | false =>
    rw [q1] at W1
    have HN := Lib.hid (vdM_S (T := T) (P := P) (Q := Q) (R := R) q1)
    clear q1 h2 h3 h4 W2
    go_enter Try.func23, Try.ntmps23
    go_wp2_with (go_at_call 25; refine (W1 _).mono ?_; rintro e w' ⟨rfl, hw⟩; subst hw)
    go_ret
    exact ⟨ret_bool HN.out.symm, BX.out⟩
  | true =>
  cases q2 : inB T 1 4 with
  | false =>
    rw [q1] at W1; rw [q2] at W2
    have HN : Hid (vdM S T P Q R = false) := by show _ = _; rw [vdM, q1, q2]; rfl
    clear q1 q2 h2 h3 h4
    have W1 := Lib.hid W1; have W2 := Lib.hid W2
    go_enter Try.func23, Try.ntmps23
    go_wp2_with (first | (go_at_call 25; refine (W1.out _).mono ?_; rintro e w' ⟨rfl, hw⟩; subst hw; clear W1) | (go_at_call 25; refine (W2.out _).mono ?_; rintro e w' ⟨rfl, hw⟩; subst hw; clear W2))
    go_ret
    exact ⟨ret_bool HN.out.symm, BX.out⟩
  | true =>
  have hS := inB_true q1; have hT := inB_true q2
  rw [q1] at W1; rw [q2] at W2
  have HD : Hid (vdM S T P Q R = (arB P 1 S.toNat && (arB Q S.toNat S.toNat && arB R S.toNat T.toNat))) := by show _ = _; rw [vdM, q1, q2]; rfl
  clear q1 q2
  obtain ⟨s, rfl⟩ : ∃ s : Nat, S = (s : Int) := ⟨S.toNat, by omega⟩
  obtain ⟨t, rfl⟩ : ∃ t : Nat, T = (t : Int) := ⟨T.toNat, by omega⟩
  simp only [Int.toNat_natCast] at HD
  have s1 : 1 ≤ s := by omega
  have s5 : s ≤ 5 := by omega
  have t1 : 1 ≤ t := by omega
  have t5 : t ≤ 5 := by omega
  have CP : Calls Try.prog 38 #[.slice A2 n2 c2, .int .i64 1, .int .i64 (s : Int)] _ _ := iRows_any A2 n2 c2 P 1 s _ _ (h2.below BX.out (Nat.le_refl _)) k2 k2' (by omega) (by omega) s1 s5
  have CQ := iRows_any A3 n3 c3 Q s s _ _ (h3.below BX.out (Nat.le_refl _)) k3 k3' s1 s5 s1 s5
  have CR := iRows_any A4 n4 c4 R s t _ _ (h4.below BX.out (Nat.le_refl _)) k4 k4' s1 s5 t1 t5
  obtain ⟨d2, hd2⟩ : ∃ d, d = arB P 1 s := ⟨_, rfl⟩
  obtain ⟨d3, hd3⟩ : ∃ d, d = arB Q s s := ⟨_, rfl⟩
  obtain ⟨d4, hd4⟩ : ∃ d, d = arB R s t := ⟨_, rfl⟩
  rw [← hd2] at CP HD; rw [← hd3] at CQ HD; rw [← hd4] at CR HD
  have CP := Lib.hid CP; have CQ := Lib.hid CQ; have CR := Lib.hid CR; have W1 := Lib.hid W1; have W2 := Lib.hid W2
  clear hd2 hd3 hd4 h2 h3 h4 hS hT
  cases d2 <;> cases d3
  all_goals
    go_enter Try.func23, Try.ntmps23
    go_wp2_with (first
      | (go_at_call 25; refine (W1.out _).mono ?_; rintro e w' ⟨rfl, hw⟩; subst hw; clear W1)
      | (go_at_call 25; refine (W2.out _).mono ?_; rintro e w' ⟨rfl, hw⟩; subst hw; clear W2)
      | (go_at_call_of 38 (Value.slice A2 n2 c2); refine CP.out.mono ?_; rintro e w' ⟨rfl, hw⟩; subst hw; clear CP)
      | (go_at_call_of 38 (Value.slice A3 n3 c3); refine CQ.out.mono ?_; rintro e w' ⟨rfl, hw⟩; subst hw; clear CQ)
      | (go_at_call_of 38 (Value.slice A4 n4 c4); refine CR.out.mono ?_; rintro e w' ⟨rfl, hw⟩; subst hw; clear CR))
    go_ret
    exact ⟨ret_bool (by rw [HD.out]; rfl), BX.out⟩
theorem sShare_any (x : F32) (w : World) :
    Calls Try.prog 44 #[.float .f32 x.b] w fun e w' => e = .returned (.bool (okS x)) ∧ w = w' := by
  obtain ⟨g, hg⟩ : ∃ g, ((FloatKind.format .f32).order x.b 0 == some .gt || (FloatKind.format .f32).order x.b 0 == some .eq) = g := ⟨_, rfl⟩
  obtain ⟨l, hle⟩ : ∃ g, ((FloatKind.format .f32).order x.b 1065353216 == some .lt || (FloatKind.format .f32).order x.b 1065353216 == some .eq) = g := ⟨_, rfl⟩
  have HK : Hid (okS x = (g && l)) := by show _ = _; rw [← hg, ← hle]; rfl
  cases g <;> cases l
  all_goals
    go_enter Try.func44, Try.ntmps44
    go_wp2_with fail
    go_ret
    exact ⟨ret_bool (by rw [HK.out]; rfl), rfl⟩
set_option maxHeartbeats 1000000 in
theorem sRow_any (A : Option Addr) (n c : Nat) (xs : List F32) (w : World) (B : Nat) (h : SlF w B A n xs) (hn : n ≤ 4294967296) :
    Calls Try.prog 36 #[.slice A n c] w fun e w' => e = .returned (.bool (rowB xs)) ∧ w = w' := by
  have hl := Lib.hid h.len
  have H := Lib.hid h; clear h
  go_enter Try.func36, Try.ntmps36
  go_wp2_with fail
  go_loopg [3, 4, 7] n (fun m s u i wr => ∃ k : Nat, i = .int .i64 k ∧ k ≤ n ∧ n ≤ m + k ∧ s = .float .f32 (fsum (xs.take k)).b ∧ Hid ((xs.take k).all okS = true) ∧ wr = w)
  case atStart => exact ⟨0, rfl, by omega, by omega, rfl, rfl, rfl⟩
  case round =>
    obtain ⟨k, rfl, hk, hm, rfl, HE, rfl⟩ := hrel
    by_cases hlt : k < n
    · obtain ⟨b, off, x, rfl, hbB, hx, hc⟩ := H.out.at_ hlt
      have l0 : (0 : Int) ≤ (k : Int) := by omega
      have l1 : (k : Int) < (n : Int) := by omega
      have CS := sShare_any x
      cases g : okS x with
      | false =>
        have HN : Hid (rowB xs = false) := by show _ = _; rw [rowB, all_no hx.out g]; rfl
        rw [g] at CS
        have CS := Lib.hid CS
        clear g
        go_wp2_with (go_at_call 44; refine (CS.out _).mono ?_; rintro e w' ⟨rfl, hw⟩; subst hw)
        go_ret
        exact ⟨ret_bool HN.out.symm, rfl⟩
      | true =>
        have HN := Lib.hid (all_take HE.out hx.out g)
        obtain ⟨z, hz⟩ : ∃ z, z = fop .add (fsum (xs.take k)) x := ⟨_, rfl⟩
        have hop := add_law (fsum_NN (all_NN HE.out)) (okS_NN g) hz Try.prog
        have HZ : Hid (fsum (xs.take (k + 1)) = z) := by show _ = _; rw [fsum_take hx.out, hz]
        rw [g] at CS
        have CS := Lib.hid CS
        clear hz g
        go_wp2_with (go_at_call 44; refine (CS.out _).mono ?_; rintro e w' ⟨rfl, hw⟩; subst hw)
        go_roundg (gk - 1)
        case measure => omega
        case rel => exact ⟨k + 1, by go_num, by omega, by omega, by rw [HZ.out], HN, rfl⟩
    · obtain rfl : n = k := by omega
      have hall : xs.all okS = true := by have := HE.out; rw [take_all hl.out] at this; exact this
      rw [take_all hl.out]
      obtain ⟨s, hs⟩ : ∃ s, s = fsum xs := ⟨_, rfl⟩
      have hsn : NN s.b := by rw [hs]; exact fsum_NN (all_NN hall)
      obtain ⟨d, hd⟩ : ∃ d, d = fop .sub s f1 := ⟨_, rfl⟩
      have hop := sub_law hsn hd Try.prog
      have HR : Hid (rowB xs = (leF d.b cN && geF d.b cM)) := by show _ = _; rw [rowB, hall, ← hs, ← hd]; rfl
      rw [← hs]
      clear hs hsn hall hd
      obtain ⟨g, hg⟩ : ∃ g, ((FloatKind.format .f32).order d.b 981668463 == some .lt || (FloatKind.format .f32).order d.b 981668463 == some .eq) = g := ⟨_, rfl⟩
      obtain ⟨l, hle⟩ : ∃ g, ((FloatKind.format .f32).order d.b 3129152111 == some .gt || (FloatKind.format .f32).order d.b 3129152111 == some .eq) = g := ⟨_, rfl⟩
      have HK : Hid (rowB xs = (g && l)) := by show _ = _; rw [HR.out, ← hg, ← hle]; rfl
      cases g <;> cases l
      all_goals
        go_wp2_with fail
        go_ret
        exact ⟨ret_bool (by rw [HK.out]; rfl), rfl⟩
theorem chk_one {xs : List F32} {s : Nat} (h : xs.length = s) : chk xs s 0 = xs := by simp [chk]; rw [List.take_of_length_le (by omega)]
theorem arB_one {xs : List F32} {s : Nat} (h : xs.length = s) : arB xs 1 s = rowB xs := by
  rw [arB, decide_eq_true (by omega)]; simp [chk_one h]
theorem arB_len {xs : List F32} {r l : Nat} (h : xs.length ≠ r * l) : arB xs r l = false := by rw [arB, decide_eq_false h]; rfl
theorem arB_rows {xs : List F32} {r l : Nat} (h : xs.length = r * l) : arB xs r l = (List.range r).all (fun i => rowB (chk xs l i)) := by rw [arB, decide_eq_true h]; rfl
set_option maxRecDepth 100000 in
set_option maxHeartbeats 4000000 in
theorem sIsM_any (g : Nat) (S T : Int) (P Q R : List F32) (A2 : Option Addr) (n2 c2 : Nat) (A3 : Option Addr) (n3 c3 : Nat) (A4 : Option Addr) (n4 c4 B : Nat) (w : World) (hr : Row w g 29 [.int .i64 S, .int .i64 T, .slice A2 n2 c2, .slice A3 n3 c3, .slice A4 n4 c4]) (h2 : SlF w B A2 n2 P) (h3 : SlF w B A3 n3 Q) (h4 : SlF w B A4 n4 R) (k2 : n2 ≤ c2) (k2' : c2 ≤ 9223372036854775807) (k3 : n3 ≤ c3) (k3' : c3 ≤ 9223372036854775807) (k4 : n4 ≤ c4) (k4' : c4 ≤ 9223372036854775807) :
    Calls Try.prog 18 #[.pointer (some ⟨g, 0, none⟩)] w fun e w' => e = .returned (.bool (vdM S T P Q R)) ∧ ∃ q, w' = w.drewN q := by
  have W1 := sIn_any S 1 5; have W2 := sIn_any T 1 4
  have r0 : w.cell? ⟨g, 0, none⟩ = some (.int .i64 S) := hr.cell 0
  have r1 : w.cell? ⟨g, 1, none⟩ = some (.int .i64 T) := hr.cell 1
  have r2 : w.cell? ⟨g, 2, none⟩ = some (.slice A2 n2 c2) := hr.cell 2
  have r3 : w.cell? ⟨g, 3, none⟩ = some (.slice A3 n3 c3) := hr.cell 3
  have r4 : w.cell? ⟨g, 4, none⟩ = some (.slice A4 n4 c4) := hr.cell 4
  have N2 := Lib.hid h2.len; have N3 := Lib.hid h3.len; have N4 := Lib.hid h4.len
  have H2 := Lib.hid h2; have H3 := Lib.hid h3; have H4 := Lib.hid h4
  clear h2 h3 h4 hr
  cases q1 : inB S 1 5 with
  | false =>
    rw [q1] at W1
    have W1 := Lib.hid W1
    have HN := Lib.hid (vdM_S (T := T) (P := P) (Q := Q) (R := R) q1)
    clear q1 W2
    go_enter Try.func18, Try.ntmps18
    go_wp2_with (first | (go_at_call 20; refine (W1.out _).mono ?_; rintro e w' ⟨rfl, hw⟩; subst hw; clear W1))
    go_ret
    exact ⟨ret_bool HN.out.symm, 0, rfl⟩
  | true =>
  cases q2 : inB T 1 4 with
  | false =>
    rw [q1] at W1; rw [q2] at W2
    have HN : Hid (vdM S T P Q R = false) := by show _ = _; rw [vdM, q1, q2]; rfl
    have W1 := Lib.hid W1; have W2 := Lib.hid W2
    clear q1 q2
    go_enter Try.func18, Try.ntmps18
    go_wp2_with (first | (go_at_call 20; refine (W1.out _).mono ?_; rintro e w' ⟨rfl, hw⟩; subst hw; clear W1) | (go_at_call 20; refine (W2.out _).mono ?_; rintro e w' ⟨rfl, hw⟩; subst hw; clear W2))
    go_ret
    exact ⟨ret_bool HN.out.symm, 0, rfl⟩
  | true =>
  have hS := inB_true q1; have hT := inB_true q2
  rw [q1] at W1; rw [q2] at W2
  have HD : Hid (vdM S T P Q R = (arB P 1 S.toNat && (arB Q S.toNat S.toNat && arB R S.toNat T.toNat))) := by show _ = _; rw [vdM, q1, q2]; rfl
  clear q1 q2
  obtain ⟨s, rfl⟩ : ∃ s : Nat, S = (s : Int) := ⟨S.toNat, by omega⟩
  obtain ⟨t, rfl⟩ : ∃ t : Nat, T = (t : Int) := ⟨T.toNat, by omega⟩
  simp only [Int.toNat_natCast] at HD
  have s1 : 1 ≤ s := by omega
  have s5 : s ≤ 5 := by omega
  have t1 : 1 ≤ t := by omega
  have t5 : t ≤ 5 := by omega
  have W1 := Lib.hid W1; have W2 := Lib.hid W2
  clear hS hT
  obtain ⟨q3, hq3⟩ : ∃ q, q = s * s := ⟨_, rfl⟩
  obtain ⟨q4, hq4⟩ : ∃ q, q = s * t := ⟨_, rfl⟩
  have b3 : q3 ≤ 25 := by rw [hq3]; exact Nat.mul_le_mul s5 s5
  have b4 : q4 ≤ 25 := by rw [hq4]; exact Nat.mul_le_mul s5 t5
  have w3 : IntKind.i64.wrap ((s : Int) * (s : Int)) = (q3 : Int) := by rw [hq3, IntWalk.i64_in _ (by rw [← Int.natCast_mul, ← hq3]; omega)]; simp
  have w4 : IntKind.i64.wrap ((s : Int) * (t : Int)) = (q4 : Int) := by rw [hq4, IntWalk.i64_in _ (by rw [← Int.natCast_mul, ← hq4]; omega)]; simp
  have Q3 := Lib.hid hq3; have Q4 := Lib.hid hq4
  clear hq3 hq4
  by_cases hne : n2 = s
  case neg =>
    have h1 : ((n2 : Int) == (s : Int)) = false := by simp; omega
    have h2 : ((n2 : Int) != (s : Int)) = true := by simp; omega
    have HN : Hid (vdM s t P Q R = false) := by show _ = _; rw [HD.out, arB_len (r := 1) (l := s) (xs := P) (by rw [N2.out]; omega)]; simp
    clear hne
    go_enter Try.func18, Try.ntmps18
    go_wp2_with (first | (go_at_call 20; refine (W1.out _).mono ?_; rintro e w' ⟨rfl, hw⟩; subst hw; clear W1) | (go_at_call 20; refine (W2.out _).mono ?_; rintro e w' ⟨rfl, hw⟩; subst hw; clear W2))
    go_ret
    exact ⟨ret_bool HN.out.symm, 0, rfl⟩
  have xn2 : ((n2 : Int) == (s : Int)) = true := by simp [hne]
  have yn2 : ((n2 : Int) != (s : Int)) = false := by simp [hne]
  have Zn2 := Lib.hid hne; clear hne
  by_cases hne : n3 = q3
  case neg =>
    have h1 : ((n3 : Int) == (q3 : Int)) = false := by simp; omega
    have h2 : ((n3 : Int) != (q3 : Int)) = true := by simp; omega
    have HN : Hid (vdM s t P Q R = false) := by show _ = _; rw [HD.out, arB_len (r := s) (l := s) (xs := Q) (by rw [N3.out, ← Q3.out]; exact hne)]; simp
    clear hne
    go_enter Try.func18, Try.ntmps18
    go_wp2_with (first | (go_at_call 20; refine (W1.out _).mono ?_; rintro e w' ⟨rfl, hw⟩; subst hw; clear W1) | (go_at_call 20; refine (W2.out _).mono ?_; rintro e w' ⟨rfl, hw⟩; subst hw; clear W2))
    go_ret
    exact ⟨ret_bool HN.out.symm, 0, rfl⟩
  have xn3 : ((n3 : Int) == (q3 : Int)) = true := by simp [hne]
  have yn3 : ((n3 : Int) != (q3 : Int)) = false := by simp [hne]
  have Zn3 := Lib.hid hne; clear hne
  by_cases hne : n4 = q4
  case neg =>
    have h1 : ((n4 : Int) == (q4 : Int)) = false := by simp; omega
    have h2 : ((n4 : Int) != (q4 : Int)) = true := by simp; omega
    have HN : Hid (vdM s t P Q R = false) := by show _ = _; rw [HD.out, arB_len (r := s) (l := t) (xs := R) (by rw [N4.out, ← Q4.out]; exact hne)]; simp
    clear hne
    go_enter Try.func18, Try.ntmps18
    go_wp2_with (first | (go_at_call 20; refine (W1.out _).mono ?_; rintro e w' ⟨rfl, hw⟩; subst hw; clear W1) | (go_at_call 20; refine (W2.out _).mono ?_; rintro e w' ⟨rfl, hw⟩; subst hw; clear W2))
    go_ret
    exact ⟨ret_bool HN.out.symm, 0, rfl⟩
  have xn4 : ((n4 : Int) == (q4 : Int)) = true := by simp [hne]
  have yn4 : ((n4 : Int) != (q4 : Int)) = false := by simp [hne]
  have Zn4 := Lib.hid hne; clear hne
  have CP := sRow_any A2 n2 c2 P w B H2.out (by have := Zn2.out; omega)
  have HP := Lib.hid (arB_one (xs := P) (s := s) (by rw [N2.out]; exact Zn2.out))
  cases dp : rowB P with
  | false =>
    have HN : Hid (vdM s t P Q R = false) := by show _ = _; rw [HD.out, HP.out, dp]; rfl
    rw [dp] at CP
    have CP := Lib.hid CP
    clear dp
    go_enter Try.func18, Try.ntmps18
    go_wp2_with (first | (go_at_call 20; refine (W1.out _).mono ?_; rintro e w' ⟨rfl, hw⟩; subst hw; clear W1) | (go_at_call 20; refine (W2.out _).mono ?_; rintro e w' ⟨rfl, hw⟩; subst hw; clear W2) | (go_at_call 36; refine CP.out.mono ?_; rintro e w' ⟨rfl, hw⟩; subst hw; clear CP))
    go_ret
    exact ⟨ret_bool HN.out.symm, 0, rfl⟩
  | true =>
  rw [dp] at CP
  have CP := Lib.hid CP
  have HE : Hid (vdM s t P Q R = ((List.range s).all (fun i => rowB (chk Q s i)) && (List.range s).all (fun i => rowB (chk R t i)))) := by
    show _ = _
    rw [HD.out, HP.out, dp, arB_rows (by rw [N3.out, Zn3.out, Q3.out]), arB_rows (by rw [N4.out, Zn4.out, Q4.out])]; rfl
  clear dp HD HP
  have hm3 : 1 ≤ n3 := by rw [Zn3.out, Q3.out]; exact Nat.mul_pos s1 s1
  have hm4 : 1 ≤ n4 := by rw [Zn4.out, Q4.out]; exact Nat.mul_pos s1 t1
  obtain ⟨g3, o3, hA3, hB3, -⟩ := H3.out.2 hm3
  obtain ⟨g4, o4, hA4, hB4, -⟩ := H4.out.2 hm4
  subst hA3 hA4
  go_enter Try.func18, Try.ntmps18
  go_wp2_with (first | (go_at_call 20; refine (W1.out _).mono ?_; rintro e w' ⟨rfl, hw⟩; subst hw; clear W1) | (go_at_call 20; refine (W2.out _).mono ?_; rintro e w' ⟨rfl, hw⟩; subst hw; clear W2) | (go_at_call 36; refine CP.out.mono ?_; rintro e w' ⟨rfl, hw⟩; subst hw; clear CP))
  go_loopg [5] s (fun m i wr => ∃ k : Nat, i = .int .i64 k ∧ k ≤ s ∧ s ≤ m + k ∧ Hid ((List.range k).all (fun i => rowB (chk Q s i)) = true) ∧ Hid ((List.range k).all (fun i => rowB (chk R t i)) = true) ∧ ∃ q, wr = w.drewN q)
  case atStart => exact ⟨0, rfl, by omega, by omega, rfl, rfl, 0, rfl⟩
  case round =>
    obtain ⟨k, rfl, hk, hm, HQ, HR, q, rfl⟩ := hrel
    by_cases hlt : k < s
    · obtain ⟨p3, hp3⟩ : ∃ p, p = k * s := ⟨_, rfl⟩
      obtain ⟨p4, hp4⟩ : ∃ p, p = k * t := ⟨_, rfl⟩
      have b3' : p3 + s ≤ n3 := by
        rw [Zn3.out, Q3.out, hp3]
        have : (k + 1) * s ≤ s * s := Nat.mul_le_mul_right _ hlt
        rw [Nat.add_mul, Nat.one_mul] at this; exact this
      have b4' : p4 + t ≤ n4 := by
        rw [Zn4.out, Q4.out, hp4]
        have : (k + 1) * t ≤ s * t := Nat.mul_le_mul_right _ hlt
        rw [Nat.add_mul, Nat.one_mul] at this; exact this
      have u3 : IntKind.i64.wrap ((k : Int) * (s : Int)) = (p3 : Int) := by rw [hp3, IntWalk.i64_in _ (by rw [← Int.natCast_mul, ← hp3]; omega)]; simp
      have u4 : IntKind.i64.wrap ((k : Int) * (t : Int)) = (p4 : Int) := by rw [hp4, IntWalk.i64_in _ (by rw [← Int.natCast_mul, ← hp4]; omega)]; simp
      have v3 : IntKind.i64.wrap ((p3 : Int) + (s : Int)) = (p3 : Int) + (s : Int) := IntWalk.i64_in _ (by omega)
      have v4 : IntKind.i64.wrap ((p4 : Int) + (t : Int)) = (p4 : Int) + (t : Int) := IntWalk.i64_in _ (by omega)
      have CQ := fun x => sRow_any (some ⟨g3, o3 + p3, none⟩) s (c3 - p3) (chk Q s k) (w.drewN x) B (by rw [hp3]; rw [hp3] at b3'; exact SlF.sub H3.out b3') (by omega)
      have CR := fun x => sRow_any (some ⟨g4, o4 + p4, none⟩) t (c4 - p4) (chk R t k) (w.drewN x) B (by rw [hp4]; rw [hp4] at b4'; exact SlF.sub H4.out b4') (by omega)
      obtain ⟨d3, hd3⟩ : ∃ d, d = rowB (chk Q s k) := ⟨_, rfl⟩
      obtain ⟨d4, hd4⟩ : ∃ d, d = rowB (chk R t k) := ⟨_, rfl⟩
      rw [← hd3] at CQ; rw [← hd4] at CR
      have D3 := Lib.hid hd3; have D4 := Lib.hid hd4; have CQ := Lib.hid CQ; have CR := Lib.hid CR
      clear hd3 hd4 hp3 hp4
      have l1 : (0 : Int) ≤ (p3 : Int) := by omega
      have l2 : (p3 : Int) ≤ (p3 : Int) + (s : Int) := by omega
      have l3 : (p3 : Int) + (s : Int) ≤ (c3 : Int) := by omega
      have l4 : (p3 : Int) < (c3 : Int) := by omega
      have l5 : ¬ c3 = p3 := by omega
      have l6 : (0 : Int) ≤ (p3 : Int) + (s : Int) := by omega
      have m1 : (0 : Int) ≤ (p4 : Int) := by omega
      have m2 : (p4 : Int) ≤ (p4 : Int) + (t : Int) := by omega
      have m3 : (p4 : Int) + (t : Int) ≤ (c4 : Int) := by omega
      have m4 : (p4 : Int) < (c4 : Int) := by omega
      have m5 : ¬ c4 = p4 := by omega
      have m6 : (0 : Int) ≤ (p4 : Int) + (t : Int) := by omega
      cases d3 <;> cases d4
      case true.true =>
        have HQ' : Hid ((List.range (k + 1)).all (fun i => rowB (chk Q s i)) = true) := by show _ = _; rw [range_all_succ, HQ.out, ← D3.out]; rfl
        have HR' : Hid ((List.range (k + 1)).all (fun i => rowB (chk R t i)) = true) := by show _ = _; rw [range_all_succ, HR.out, ← D4.out]; rfl
        go_wp2_with (first | (go_at_call_of 36 (Value.slice (some ⟨g3, o3 + p3, none⟩) s (c3 - p3)); refine (CQ.out _).mono ?_; rintro e w' ⟨rfl, hw⟩; subst hw) | (go_at_call_of 36 (Value.slice (some ⟨g4, o4 + p4, none⟩) t (c4 - p4)); refine (CR.out _).mono ?_; rintro e w' ⟨rfl, hw⟩; subst hw))
        go_roundg (gk - 1)
        case measure => omega
        case rel => exact ⟨k + 1, by go_num, by omega, by omega, HQ', HR', _, rfl⟩
      all_goals
        have HN : Hid (vdM s t P Q R = false) := by
          show _ = _
          rw [HE.out]
          first | rw [range_all_no hlt D3.out.symm, Bool.false_and] | rw [range_all_no (f := fun i => rowB (chk R t i)) hlt D4.out.symm, Bool.and_false]
        go_wp2_with (first | (go_at_call_of 36 (Value.slice (some ⟨g3, o3 + p3, none⟩) s (c3 - p3)); refine (CQ.out _).mono ?_; rintro e w' ⟨rfl, hw⟩; subst hw) | (go_at_call_of 36 (Value.slice (some ⟨g4, o4 + p4, none⟩) t (c4 - p4)); refine (CR.out _).mono ?_; rintro e w' ⟨rfl, hw⟩; subst hw))
        go_ret
        exact ⟨ret_bool HN.out.symm, _, rfl⟩
    · obtain rfl : s = k := by omega
      go_wp2_with fail
      go_ret
      exact ⟨ret_bool (by rw [HE.out, HQ.out, HR.out]; rfl), _, rfl⟩
end Go.Proofs.Ytomofghiafcefaa
