/- Several texts in one: A Machine (numbers and lists): what the laws' helpers do with one. Two texts, and costs: what the predicates return. Small words that many texts want. ValidMachine of both programs. -/
import Derived.Test.YtkfmjnefbimecaaMgd
import Derived.Test.YtkfmjnefbimecaaMga
import Derived.Deep.LoopGhost
import Derived.Deep.QuietTactic
import Derived.BigQuiet


namespace Go.Proofs.Ytkfmjnefbimecaa
open Go.RowKit
set_option linter.unusedVariables false
def Mc (w : World) (B : Nat) (v : Value) (S : Int) (T : Int) (L : List A4) (P : List Int) (E : List Int) : Prop :=
  ∃ A2 n2 c2 A3 n3 c3 A4 n4 c4, v = .agg #[.int .i64 S, .int .i64 T, .slice A2 n2 c2, .slice A3 n3 c3, .slice A4 n4 c4] ∧ SlA w B A2 n2 L ∧ SlI w B A3 n3 P ∧ SlI w B A4 n4 E
theorem Mc.below {w w' : World} {B B' : Nat} {v : Value} {S T : Int} {L : List A4} {P : List Int} {E : List Int} (h : Mc w B v S T L P E) (hb : Below B' w w') (hB : B ≤ B') : Mc w' B v S T L P E := by
  obtain ⟨A2, n2, c2, A3, n3, c3, A4, n4, c4, e, h2, h3, h4⟩ := h
  exact ⟨A2, n2, c2, A3, n3, c3, A4, n4, c4, e, h2.below hb hB, h3.below hb hB, h4.below hb hB⟩
theorem Mc.more {w : World} {B B' : Nat} {v : Value} {S T : Int} {L : List A4} {P : List Int} {E : List Int} (h : Mc w B v S T L P E) (hB : B ≤ B') : Mc w B' v S T L P E := by
  obtain ⟨A2, n2, c2, A3, n3, c3, A4, n4, c4, e, h2, h3, h4⟩ := h
  exact ⟨A2, n2, c2, A3, n3, c3, A4, n4, c4, e, h2.more hB, h3.more hB, h4.more hB⟩
/-- v is a Machine of the call's own: rows of their own, in this order. -/
def McR (w : World) (base : Nat) (v : Value) (S : Int) (T : Int) (L : List A4) (P : List Int) (E : List Int) : Prop :=
  ∃ g2 g3 g4, v = .agg #[.int .i64 S, .int .i64 T, .slice (some ⟨g2, 0, none⟩) L.length L.length, .slice (some ⟨g3, 0, none⟩) P.length P.length, .slice (some ⟨g4, 0, none⟩) E.length E.length] ∧ base ≤ g2 ∧ g2 < g3 ∧ g3 < g4 ∧ Row w g2 39 (fa L) ∧ Row w g3 2 (iv P) ∧ Row w g4 2 (iv E)
theorem McR.cg {w : World} {base : Nat} {v : Value} {S T : Int} {L : List A4} {P : List Int} {E : List Int} (h : McR w base v S T L P E) : Mc w w.heap.size v S T L P E := by
  obtain ⟨g2, g3, g4, e, _, _, _, h2, h3, h4⟩ := h
  exact ⟨_, _, _, _, _, _, _, _, _, e, h2.slA, h3.slI, h4.slI⟩
theorem McR.shape {w : World} {base : Nat} {v : Value} {S T : Int} {L : List A4} {P : List Int} {E : List Int} (h : McR w base v S T L P E) : ∃ g2 g3 g4, v = .agg #[.int .i64 S, .int .i64 T, .slice (some ⟨g2, 0, none⟩) L.length L.length, .slice (some ⟨g3, 0, none⟩) P.length P.length, .slice (some ⟨g4, 0, none⟩) E.length E.length] := by
  obtain ⟨g2, g3, g4, e, _⟩ := h
  exact ⟨g2, g3, g4, e⟩
theorem McR.below {w w' : World} {base B : Nat} {v : Value} {S T : Int} {L : List A4} {P : List Int} {E : List Int} (h : McR w base v S T L P E) (hb : Below B w w') (hB : w.heap.size ≤ B) : McR w' base v S T L P E := by
  obtain ⟨g2, g3, g4, e, q0, q1, q2, h2, h3, h4⟩ := h
  exact ⟨g2, g3, g4, e, q0, q1, q2, h2.below hb (Nat.lt_of_lt_of_le h2.lt hB), h3.below hb (Nat.lt_of_lt_of_le h3.lt hB), h4.below hb (Nat.lt_of_lt_of_le h4.lt hB)⟩
end Go.Proofs.Ytkfmjnefbimecaa



namespace Go.Proofs.Ytkfmjnefbimecaa
open Go.RowKit
set_option linter.unusedVariables false

def allIn (xs : List Int) (lo hi : Int) : Bool := xs.all fun x => inB x lo hi
theorem allIn_take {xs : List Int} {lo hi x : Int} {k : Nat} (h : allIn (xs.take k) lo hi = true) (hx : xs[k]? = some x) (hi' : inB x lo hi = true) : allIn (xs.take (k + 1)) lo hi = true := by
  unfold allIn at *
  obtain ⟨hk, rfl⟩ := List.getElem?_eq_some_iff.1 hx
  rw [List.take_succ_eq_append_getElem hk, List.all_append, h]
  simpa using hi'
theorem allIn_no {xs : List Int} {lo hi x : Int} {k : Nat} (hx : xs[k]? = some x) (hi' : ¬ inB x lo hi = true) : false = allIn xs lo hi := by
  unfold allIn
  rw [eq_comm, List.all_eq_false]
  exact ⟨x, List.mem_of_getElem? hx, by simpa using hi'⟩
theorem allIn_full {xs : List Int} {lo hi : Int} {n : Nat} (h : allIn (xs.take n) lo hi = true) (hn : xs.length = n) : true = allIn xs lo hi := by
  rw [List.take_of_length_le (by omega)] at h; exact h.symm

set_option maxHeartbeats 400000 in
theorem iAllIn_any (A : Option Addr) (n c : Nat) (xs : List Int) (lo hi : Int) (B : Nat) (w : World) (h : SlI w B A n xs) (hn : n ≤ 4294967296) :
    Calls Try.prog 96 #[.slice A n c, .int .i64 lo, .int .i64 hi] w fun e w' => e = .returned (.bool (allIn xs lo hi)) ∧ w = w' := by
  have hl := Lib.hid h.len
  have H := Lib.hid h; clear h
  go_enter Try.func96, Try.ntmps96
  go_wp2
  go_loop [11] (fun i => ∃ k : Nat, k ≤ n ∧ i = .int .i64 k ∧ allIn (xs.take k) lo hi = true) (fun i => n - (intOf i).toNat)
  case atStart => exact ⟨0, by omega, rfl, rfl⟩
  case round =>
    obtain ⟨k, hk, rfl, ha⟩ := hrel
    have HA := Lib.hid ha; clear ha
    by_cases hlt : k < n
    · obtain ⟨b, off, x, rfl, hbB, hx, hc⟩ := H.out.at_ hlt
      by_cases hin : inB x lo hi = true
      · go_wp2_with (first | (go_at_call 91; refine (iIn_any _ _ _ _).mono ?_; rintro e w' ⟨rfl, rfl⟩))
        go_round
        case rel => exact ⟨k + 1, by omega, by go_num, allIn_take HA.out hx.out hin⟩
        case measure => simp [intOf]; omega
      · go_wp2_with (first | (go_at_call 91; refine (iIn_any _ _ _ _).mono ?_; rintro e w' ⟨rfl, rfl⟩))
        go_ret
        exact ⟨ret_bool (allIn_no hx.out hin), rfl⟩
    · obtain rfl : n = k := by omega
      go_wp2
      go_ret
      exact ⟨ret_bool (allIn_full HA.out hl.out), rfl⟩
theorem iCosts_any (A : Option Addr) (n c : Nat) (xs : List Int) (B : Nat) (w : World) (h : SlI w B A n xs) (hn : n ≤ 4294967296) :
    Calls Try.prog 80 #[.slice A n c] w fun e w' => e = .returned (.bool (allIn xs 0 1000)) ∧ w = w' := by
  have H := Lib.hid h; clear h
  go_enter Try.func80, Try.ntmps80
  go_wp2_with (first | (go_at_call 96; refine (iAllIn_any _ _ _ _ _ _ _ _ H.out hn).mono ?_; rintro e w' ⟨rfl, rfl⟩))
  go_ret
  exact ⟨rfl, rfl⟩
end Go.Proofs.Ytkfmjnefbimecaa



namespace Go.Proofs.Ytkfmjnefbimecaa
open Go.RowKit
set_option linter.unusedVariables false
theorem quietL {P : Program} {f : FuncId} {args : Array Value} {w : World} {n : Nat} {v : Value}
    (h : Calls P f args (w.drewN n) fun e w' => e = .returned v ∧ w.drewN n = w') : Calls P f args (w.drewN n) fun e w'' => e = .returned v ∧ ∃ m, w'' = w.drewN m :=
  h.mono fun _ _ ⟨he, hm⟩ => ⟨he, n, hm.symm⟩
theorem infoQ : (Try.prog.info? 2).map (fun i => (i.zero, i.size, i.bytes)) = some (some (.int .i64 0), 1, 8) := by kernel_rfl
theorem allT {α : Type} {p : α → Bool} {L : List α} {k : Nat} {a : α} (h : (L.take k).all p = true) (ha : L[k]? = some a) (hp : p a = true) : (L.take (k + 1)).all p = true := by
  obtain ⟨hk, rfl⟩ := List.getElem?_eq_some_iff.1 ha
  rw [List.take_succ_eq_append_getElem hk, List.all_append, h]
  simp [hp]
theorem allN {α : Type} {p : α → Bool} {L : List α} {k : Nat} {a : α} (ha : L[k]? = some a) (hp : p a = false) : L.all p = false := by
  rw [List.all_eq_false]
  exact ⟨a, List.mem_of_getElem? ha, by simp [hp]⟩
end Go.Proofs.Ytkfmjnefbimecaa



namespace Go.Proofs.Ytkfmjnefbimecaa
open Go.RowKit
set_option linter.unusedVariables false
def okAm (S T : Int) (a : A4) : Bool := inB a.1 0 (S - 1) && (inB a.2.1 0 (S - 1) && (inB a.2.2.1 (-1) (T - 1) && inB a.2.2.2 0 1000))
def mkB (S : Int) (P : List Int) : Bool := decide ((P.length : Int) = S) && allIn P (-1) 1000
def vmB (S T : Int) (L : List A4) (P E : List Int) : Bool := inB S 1 16 && (inB T 1 4 && (decide (L.length ≤ 128) && (L.all (okAm S T) && (mkB S P && mkB S E))))
theorem mkB_true {S : Int} {P : List Int} (h : mkB S P = true) : (P.length : Int) = S ∧ ∀ x ∈ P, -1 ≤ x ∧ x ≤ 1000 := by
  simp only [mkB, Bool.and_eq_true, decide_eq_true_eq, allIn, List.all_eq_true] at h
  exact ⟨h.1, fun x hx => inB_true (h.2 x hx)⟩
theorem okAm_true {S T : Int} {a : A4} (h : okAm S T a = true) : (0 ≤ a.1 ∧ a.1 < S) ∧ (0 ≤ a.2.1 ∧ a.2.1 < S) ∧ (-1 ≤ a.2.2.1 ∧ a.2.2.1 < T) ∧ 0 ≤ a.2.2.2 ∧ a.2.2.2 ≤ 1000 := by
  simp only [okAm, Bool.and_eq_true] at h
  have h1 := inB_true h.1; have h2 := inB_true h.2.1; have h3 := inB_true h.2.2.1; have h4 := inB_true h.2.2.2
  omega
theorem vmB_true {S T : Int} {L : List A4} {P E : List Int} (h : vmB S T L P E = true) : (1 ≤ S ∧ S ≤ 16) ∧ (1 ≤ T ∧ T ≤ 4) ∧ L.length ≤ 128 ∧ (∀ a ∈ L, okAm S T a = true) ∧ mkB S P = true ∧ mkB S E = true := by
  simp only [vmB, Bool.and_eq_true, decide_eq_true_eq, List.all_eq_true] at h
  exact ⟨inB_true h.1, inB_true h.2.1, h.2.2.1, h.2.2.2.1, h.2.2.2.2.1, h.2.2.2.2.2⟩
set_option maxHeartbeats 8000000 in
theorem iValidMachine_any (v : Value) (S T : Int) (L : List A4) (P E : List Int) (w : World) (h : Mc w w.heap.size v S T L P E) (hL : L.length ≤ 4294967296) (hP : P.length ≤ 4294967296) (hE : E.length ≤ 4294967296) :
    Calls Try.prog 45 #[v] w fun e w' => e = .returned (.bool (vmB S T L P E)) ∧ Below w.heap.size w w' := by
  obtain ⟨A2, n2, c2, A3, n3, c3, A4, n4, c4, rfl, h2, h3, h4⟩ := h
  have e2 := h2.len; have e3 := h3.len; have e4 := h4.len
  have hdef : vmB S T L P E = (inB S 1 16 && (inB T 1 4 && (decide (L.length ≤ 128) && (L.all (okAm S T) && (mkB S P && mkB S E))))) := rfl
  rw [e2] at hdef
  rw [e2] at hL; rw [e3] at hP; rw [e4] at hE
  have H2 := Lib.hid h2; have N2 := Lib.hid e2; have H3 := Lib.hid h3; have H4 := Lib.hid h4; have N3 := Lib.hid e3; have N4 := Lib.hid e4
  have W1 := iIn_any S 1 16; have W2 := iIn_any T 1 4
  have hbx : Below w.heap.size w (w.alloc (.cells ([.int .i64 S, .int .i64 T, .slice A2 n2 c2, .slice A3 n3 c3, .slice A4 n4 c4] : List Value).toArray 28)) := (Below.refl _ _).alloc (Nat.le_refl _) _
  have rb := Row.new w 28 [.int .i64 S, .int .i64 T, .slice A2 n2 c2, .slice A3 n3 c3, .slice A4 n4 c4]
  have RB := Lib.hid rb; have BX := Lib.hid hbx
  clear h2 h3 h4 e2 e3 e4 rb hbx
  have HD := Lib.hid hdef; clear hdef
  cases q1 : inB S 1 16 with
  | false =>
    rw [q1] at W1 HD
    clear q1
    go_enter Try.func45, Try.ntmps45
    go_wp2_with (first | (go_at_call 91; refine (W1 _).mono ?_; rintro e w' ⟨rfl, hw⟩; subst hw; clear W1) | (go_at_call 91; refine (W2 _).mono ?_; rintro e w' ⟨rfl, hw⟩; subst hw; clear W2))
    go_ret
    exact ⟨ret_bool HD.out.symm, BX.out⟩
  | true =>
  have hS := inB_true q1
  rw [q1] at W1 HD
  clear q1
  cases q2 : inB T 1 4 with
  | false =>
    rw [q2] at W2 HD
    clear q2
    go_enter Try.func45, Try.ntmps45
    go_wp2_with (first | (go_at_call 91; refine (W1 _).mono ?_; rintro e w' ⟨rfl, hw⟩; subst hw; clear W1) | (go_at_call 91; refine (W2 _).mono ?_; rintro e w' ⟨rfl, hw⟩; subst hw; clear W2))
    go_ret
    exact ⟨ret_bool HD.out.symm, BX.out⟩
  | true =>
  have hT := inB_true q2
  rw [q2] at W2 HD
  clear q2
  by_cases q3 : n2 ≤ 128
  case neg =>
    rw [decide_eq_false q3] at HD
    have q3' : 128 < n2 := by omega
    clear q3
    go_enter Try.func45, Try.ntmps45
    go_wp2_with (first | (go_at_call 91; refine (W1 _).mono ?_; rintro e w' ⟨rfl, hw⟩; subst hw; clear W1) | (go_at_call 91; refine (W2 _).mono ?_; rintro e w' ⟨rfl, hw⟩; subst hw; clear W2))
    go_ret
    exact ⟨ret_bool HD.out.symm, BX.out⟩
  rw [decide_eq_true q3] at HD
  have HE : Hid (vmB S T L P E = (L.all (okAm S T) && (mkB S P && mkB S E))) := HD.out
  clear HD
  have w1 : IntKind.i64.wrap (S - 1) = S - 1 := IntWalk.i64_in _ (by omega)
  have w2 : IntKind.i64.wrap (T - 1) = T - 1 := IntWalk.i64_in _ (by omega)
  go_enter Try.func45, Try.ntmps45
  go_wp2_with (first | (go_at_call 91; refine (W1 _).mono ?_; rintro e w' ⟨rfl, hw⟩; subst hw; clear W1) | (go_at_call 91; refine (W2 _).mono ?_; rintro e w' ⟨rfl, hw⟩; subst hw; clear W2))
  obtain ⟨wb, hwb⟩ : ∃ x, x = w.alloc (.cells ([.int .i64 S, .int .i64 T, .slice A2 n2 c2, .slice A3 n3 c3, .slice A4 n4 c4] : List Value).toArray 28) := ⟨_, rfl⟩
  rw [← hwb] at RB BX
  change Code.wp _ _ _ _ (w.alloc (.cells ([.int .i64 S, .int .i64 T, .slice A2 n2 c2, .slice A3 n3 c3, .slice A4 n4 c4] : List Value).toArray 28))
  rw [← hwb]
  clear hwb
  go_loopg [4, 24] n2 (fun m u i wr => ∃ k : Nat, i = .int .i64 k ∧ k ≤ n2 ∧ n2 ≤ m + k ∧ Hid ((L.take k).all (okAm S T) = true) ∧ Hid (Below wb.heap.size wb wr))
  case atStart => exact ⟨0, rfl, by omega, by omega, by rw [List.take_zero]; rfl, Below.refl _ _⟩
  case round =>
    obtain ⟨k, rfl, hk, hm, hall, hbr⟩ := hrel
    by_cases hlt : k < n2
    · obtain ⟨b, off, a0, a1, a2, a3, rfl, hbB, hx, c0, c1, c2', c3'⟩ := (H2.out.below (BX.out.trans (hbr.out.mono BX.out.size)) (Nat.le_refl _)).at_ hlt
      have l0 : (0 : Int) ≤ (k : Int) := by omega
      have l1 : (k : Int) < (n2 : Int) := by omega
      have W0 := iIn_any a0 0 (S - 1); have W1 := iIn_any a1 0 (S - 1); have W2 := iIn_any a2 (-1) (T - 1); have W3 := iIn_any a3 0 1000
      have hok : okAm S T (a0, a1, a2, a3) = (inB a0 0 (S - 1) && (inB a1 0 (S - 1) && (inB a2 (-1) (T - 1) && inB a3 0 1000))) := rfl
      have RW := (RB.out.below hbr.out RB.out.lt).alloc (.cells ([.int .i64 a0, .int .i64 a1, .int .i64 a2, .int .i64 a3] : List Value).toArray 39)
      have d0 := RW.cell 0; have d1 := RW.cell 1
      have BR : Hid (Below wb.heap.size wb (wr.alloc (.cells ([.int .i64 a0, .int .i64 a1, .int .i64 a2, .int .i64 a3] : List Value).toArray 39))) := hbr.out.alloc hbr.out.size _
      have HOK := Lib.hid hok; clear hok RW
      cases p0 : inB a0 0 (S - 1) with
      | false =>
        rw [p0] at W0 HOK
        clear p0
        have HN := Lib.hid (allN hx.out HOK.out)
        go_wp2_with (first | (go_at_call 91; refine (W0 _).mono ?_; rintro e w' ⟨rfl, hw⟩; subst hw; clear W0) | (go_at_call 91; refine (W1 _).mono ?_; rintro e w' ⟨rfl, hw⟩; subst hw; clear W1) | (go_at_call 91; refine (W2 _).mono ?_; rintro e w' ⟨rfl, hw⟩; subst hw; clear W2) | (go_at_call 91; refine (W3 _).mono ?_; rintro e w' ⟨rfl, hw⟩; subst hw; clear W3))
        go_ret
        exact ⟨ret_bool (by rw [HE.out, HN.out]; rfl), BX.out.trans (BR.out.mono BX.out.size)⟩
      | true =>
      rw [p0] at W0 HOK
      clear p0
      cases p1 : inB a1 0 (S - 1) with
      | false =>
        rw [p1] at W1 HOK
        clear p1
        have HN := Lib.hid (allN hx.out HOK.out)
        go_wp2_with (first | (go_at_call 91; refine (W0 _).mono ?_; rintro e w' ⟨rfl, hw⟩; subst hw; clear W0) | (go_at_call 91; refine (W1 _).mono ?_; rintro e w' ⟨rfl, hw⟩; subst hw; clear W1) | (go_at_call 91; refine (W2 _).mono ?_; rintro e w' ⟨rfl, hw⟩; subst hw; clear W2) | (go_at_call 91; refine (W3 _).mono ?_; rintro e w' ⟨rfl, hw⟩; subst hw; clear W3))
        go_ret
        exact ⟨ret_bool (by rw [HE.out, HN.out]; rfl), BX.out.trans (BR.out.mono BX.out.size)⟩
      | true =>
      rw [p1] at W1 HOK
      clear p1
      cases p2 : inB a2 (-1) (T - 1) with
      | false =>
        rw [p2] at W2 HOK
        clear p2
        have HN := Lib.hid (allN hx.out HOK.out)
        go_wp2_with (first | (go_at_call 91; refine (W0 _).mono ?_; rintro e w' ⟨rfl, hw⟩; subst hw; clear W0) | (go_at_call 91; refine (W1 _).mono ?_; rintro e w' ⟨rfl, hw⟩; subst hw; clear W1) | (go_at_call 91; refine (W2 _).mono ?_; rintro e w' ⟨rfl, hw⟩; subst hw; clear W2) | (go_at_call 91; refine (W3 _).mono ?_; rintro e w' ⟨rfl, hw⟩; subst hw; clear W3))
        go_ret
        exact ⟨ret_bool (by rw [HE.out, HN.out]; rfl), BX.out.trans (BR.out.mono BX.out.size)⟩
      | true =>
      rw [p2] at W2 HOK
      clear p2
      cases p3 : inB a3 0 1000 with
      | false =>
        rw [p3] at W3 HOK
        clear p3
        have HN := Lib.hid (allN hx.out HOK.out)
        go_wp2_with (first | (go_at_call 91; refine (W0 _).mono ?_; rintro e w' ⟨rfl, hw⟩; subst hw; clear W0) | (go_at_call 91; refine (W1 _).mono ?_; rintro e w' ⟨rfl, hw⟩; subst hw; clear W1) | (go_at_call 91; refine (W2 _).mono ?_; rintro e w' ⟨rfl, hw⟩; subst hw; clear W2) | (go_at_call 91; refine (W3 _).mono ?_; rintro e w' ⟨rfl, hw⟩; subst hw; clear W3))
        go_ret
        exact ⟨ret_bool (by rw [HE.out, HN.out]; rfl), BX.out.trans (BR.out.mono BX.out.size)⟩
      | true =>
      rw [p3] at W3 HOK
      clear p3
      have HN := Lib.hid (allT hall.out hx.out HOK.out)
      go_wp2_with (first | (go_at_call 91; refine (W0 _).mono ?_; rintro e w' ⟨rfl, hw⟩; subst hw; clear W0) | (go_at_call 91; refine (W1 _).mono ?_; rintro e w' ⟨rfl, hw⟩; subst hw; clear W1) | (go_at_call 91; refine (W2 _).mono ?_; rintro e w' ⟨rfl, hw⟩; subst hw; clear W2) | (go_at_call 91; refine (W3 _).mono ?_; rintro e w' ⟨rfl, hw⟩; subst hw; clear W3))
      go_roundg (gk - 1)
      case measure => omega
      case rel => exact ⟨k + 1, by go_num, by omega, by omega, HN, BR⟩
    · obtain rfl : n2 = k := by omega
      have HA : Hid (L.all (okAm S T) = true) := by
        have := hall.out
        rw [take_all N2.out] at this
        exact this
      have HV : Hid (vmB S T L P E = (((n3 : Int) == S) && (((n4 : Int) == S) && (allIn P (-1) 1000 && allIn E (-1) 1000)))) := by
        show _ = _
        rw [HE.out, HA.out, mkB, mkB, N3.out, N4.out]
        by_cases e : (n3 : Int) = S <;> by_cases e' : (n4 : Int) = S <;> cases allIn P (-1) 1000 <;> cases allIn E (-1) 1000 <;> simp [e, e']
      have bw := BX.out.trans (hbr.out.mono BX.out.size)
      have RW := RB.out.below hbr.out RB.out.lt
      have d0 := RW.cell 0; have d1 := RW.cell 1; have d3 := RW.cell 3; have d4 := RW.cell 4
      have C3 := iAllIn_any A3 n3 c3 P (-1) 1000 _ wr (H3.out.below bw (Nat.le_refl _)) hP
      have C4 := iAllIn_any A4 n4 c4 E (-1) 1000 _ wr (H4.out.below bw (Nat.le_refl _)) hE
      obtain ⟨x3, hx3⟩ : ∃ x, x = allIn P (-1) 1000 := ⟨_, rfl⟩
      obtain ⟨x4, hx4⟩ : ∃ x, x = allIn E (-1) 1000 := ⟨_, rfl⟩
      rw [← hx3] at C3; rw [← hx4] at C4
      have HV : Hid (vmB S T L P E = (((n3 : Int) == S) && (((n4 : Int) == S) && (x3 && x4)))) := by show _ = _; rw [HV.out, hx3, hx4]
      have HW := Lib.hid bw
      clear RW bw hx3 hx4
      obtain ⟨y3, hy3⟩ : ∃ x, ((n3 : Int) == S) = x := ⟨_, rfl⟩
      obtain ⟨y4, hy4⟩ : ∃ x, ((n4 : Int) == S) = x := ⟨_, rfl⟩
      have HV : Hid (vmB S T L P E = (y3 && (y4 && (x3 && x4)))) := by show _ = _; rw [HV.out, hy3, hy4]
      cases y3 <;> cases y4 <;> cases x3
      all_goals
        go_wp2_with (first | (go_at_call_of 96 (Value.slice A3 n3 c3); refine C3.mono ?_; rintro e w' ⟨rfl, hw⟩; subst hw) | (go_at_call_of 96 (Value.slice A4 n4 c4); refine C4.mono ?_; rintro e w' ⟨rfl, hw⟩; subst hw))
        go_ret
        exact ⟨ret_bool (by rw [HV.out]; rfl), HW.out⟩
theorem drw2 {w wr : World} {n : Nat} (h : ∃ q, wr = w.drewN q) : ∃ m, wr.drewN n = w.drewN m := by
  obtain ⟨q, rfl⟩ := h
  exact ⟨q + n, World.drewN_drewN ..⟩
end Go.Proofs.Ytkfmjnefbimecaa
