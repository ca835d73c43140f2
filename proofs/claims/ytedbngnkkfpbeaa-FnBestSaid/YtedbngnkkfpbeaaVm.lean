/- ValidMachine of both programs. -/
import Derived.Test.YtedbngnkkfpbeaaMachineSt
import Derived.Test.YtedbngnkkfpbeaaMge

namespace Go.Proofs.Ytedbngnkkfpbeaa
open Go.RowKit
set_option linter.unusedVariables false
def okAm (S T : Int) (a : A4) : Bool := inB a.1 0 (S - 1) && (inB a.2.1 0 (S - 1) && (inB a.2.2.1 (-1) (T - 1) && inB a.2.2.2 0 1000))
def mkB (S : Int) (P : List Int) : Bool := decide ((P.length : Int) = S) && allIn P (-1) 1000
def vmB (S T : Int) (L : List A4) (P E : List Int) : Bool := inB S 1 16 && (inB T 1 4 && (decide (L.length ≤ 128) && (L.all (okAm S T) && (mkB S P && mkB S E))))
theorem mkB_true {S : Int} {P : List Int} (h : mkB S P = true) : (P.length : Int) = S ∧ ∀ x ∈ P, -1 ≤ x ∧ x ≤ 1000 := by
  simp only [mkB, Bool.and_eq_true, decide_eq_true_eq, allIn, List.all_eq_true] at h
  exact ⟨h.1, fun x hx => inB_true (h.2 x hx)⟩
theorem okAm_true {S T : Int} {a : A4} (h : okAm S T a = true) : (0 ≤ a.1 ∧ a.1 < S) ∧ (0 ≤ a.2.1 ∧ a.2.1 < S) ∧ (-1 ≤ a.2.2.1 ∧ a.2.2.1 < T) ∧ 0 ≤ a.2.2.2 ∧ a.2.2.2 ≤ 1000 := by
  simp only [okAm, Bool.and_eq_true] at h
  have h1 := inB_true h.1; have h2 := inB_true h.2.1; have h3 := inB_true h.2.2.1; have h4 := inB_true h.2.2.2
  omega
theorem vmB_true {S T : Int} {L : List A4} {P E : List Int} (h : vmB S T L P E = true) : (1 ≤ S ∧ S ≤ 16) ∧ (1 ≤ T ∧ T ≤ 4) ∧ L.length ≤ 128 ∧ (∀ a ∈ L, okAm S T a = true) ∧ mkB S P = true ∧ mkB S E = true := by
  simp only [vmB, Bool.and_eq_true, decide_eq_true_eq, List.all_eq_true] at h
  exact ⟨inB_true h.1, inB_true h.2.1, h.2.2.1, h.2.2.2.1, h.2.2.2.2.1, h.2.2.2.2.2⟩
set_option maxHeartbeats 1000000 in
theorem sMarks_any (A : Option Addr) (n c : Nat) (xs : List Int) (S : Int) (B : Nat) (w : World) (h : SlI w B A n xs) (hn : n ≤ 4294967296) :
    Calls Try.prog 68 #[.slice A n c, .int .i64 S] w fun e w' => e = .returned (.bool (mkB S xs)) ∧ w = w' := by
  have hl := Lib.hid h.len
  have H := Lib.hid h; clear h
  go_enter Try.func68, Try.ntmps68
  go_wp2_with fail
  go_loopg [5] n (fun m i wr => ∃ k : Nat, i = .int .i64 k ∧ k ≤ n ∧ n ≤ m + k ∧ Hid (allIn (xs.take k) (-1) 1000 = true) ∧ wr = w)
  case atStart => exact ⟨0, rfl, by omega, by omega, by rw [List.take_zero]; rfl, rfl⟩
  case round =>
    obtain ⟨k, rfl, hk, hm, HA, hww⟩ := hrel
    obtain rfl : w = wr := hww.symm
    by_cases hlt : k < n
    · obtain ⟨b, off, x, rfl, hbB, hx, hc⟩ := H.out.at_ hlt
      have l0 : (0 : Int) ≤ (k : Int) := by omega
      have l1 : (k : Int) < (n : Int) := by omega
      have W1 := sIn_any x (-1) 1000
      cases q : inB x (-1) 1000 with
      | false =>
        have HN : Hid (mkB S xs = false) := by show _ = _; rw [mkB, ← allIn_no hx.out (by rw [q]; simp), Bool.and_false]
        rw [q] at W1; clear q
        go_wp2_with (first | (go_at_call 47; refine (W1 _).mono ?_; rintro e w' ⟨rfl, hw⟩; subst hw; clear W1))
        go_ret
        exact ⟨ret_bool HN.out.symm, rfl⟩
      | true =>
        have HA2 := Lib.hid (allIn_take HA.out hx.out q)
        rw [q] at W1; clear q
        go_wp2_with (first | (go_at_call 47; refine (W1 _).mono ?_; rintro e w' ⟨rfl, hw⟩; subst hw; clear W1))
        go_roundg (gk - 1)
        case measure => omega
        case rel => exact ⟨k + 1, by go_num, by omega, by omega, HA2, rfl⟩
    · obtain rfl : n = k := by omega
      have HF : Hid (mkB S xs = ((n : Int) == S)) := by
        show _ = _
        rw [mkB, ← allIn_full HA.out hl.out, hl.out, Bool.and_true]
        by_cases e : (n : Int) = S
        · simp [e]
        · simp [e]
      go_wp2_with fail
      go_ret
      exact ⟨ret_bool HF.out.symm, rfl⟩
set_option maxHeartbeats 8000000 in
theorem iValidMachine_any (v : Value) (S T : Int) (L : List A4) (P E : List Int) (w : World) (h : Mc w w.heap.size v S T L P E) (hL : L.length ≤ 4294967296) (hP : P.length ≤ 4294967296) (hE : E.length ≤ 4294967296) :
    Calls Try.prog 28 #[v] w fun e w' => e = .returned (.bool (vmB S T L P E)) ∧ Below w.heap.size w w' := by
  obtain ⟨A2, n2, c2, A3, n3, c3, A4, n4, c4, rfl, h2, h3, h4⟩ := h
  have e2 := h2.len; have e3 := h3.len; have e4 := h4.len
  have hdef : vmB S T L P E = (inB S 1 16 && (inB T 1 4 && (decide (L.length ≤ 128) && (L.all (okAm S T) && (mkB S P && mkB S E))))) := rfl
  rw [e2] at hdef
  rw [e2] at hL; rw [e3] at hP; rw [e4] at hE
  have H2 := Lib.hid h2; have N2 := Lib.hid e2; have H3 := Lib.hid h3; have H4 := Lib.hid h4; have N3 := Lib.hid e3; have N4 := Lib.hid e4
  have W1 := iIn_any S 1 16; have W2 := iIn_any T 1 4
  have hbx : Below w.heap.size w (w.alloc (.cells ([.int .i64 S, .int .i64 T, .slice A2 n2 c2, .slice A3 n3 c3, .slice A4 n4 c4] : List Value).toArray 28)) := (Below.refl _ _).alloc (Nat.le_refl _) _
  have rb := Row.new w 28 [.int .i64 S, .int .i64 T, .slice A2 n2 c2, .slice A3 n3 c3, .slice A4 n4 c4]
  have RB := Lib.hid rb; have BX := Lib.hid hbx
  clear h2 h3 h4 e2 e3 e4 rb hbx
  have HD := Lib.hid hdef; clear hdef
  cases q1 : inB S 1 16 with
  | false =>
    rw [q1] at W1 HD
    clear q1
    go_enter Try.func28, Try.ntmps28
    go_wp2_with (first | (go_at_call 39; refine (W1 _).mono ?_; rintro e w' ⟨rfl, hw⟩; subst hw; clear W1) | (go_at_call 39; refine (W2 _).mono ?_; rintro e w' ⟨rfl, hw⟩; subst hw; clear W2))
    go_ret
    exact ⟨ret_bool HD.out.symm, BX.out⟩
  | true =>
  have hS := inB_true q1
  rw [q1] at W1 HD
  clear q1
  cases q2 : inB T 1 4 with
  | false =>
    rw [q2] at W2 HD
    clear q2
    go_enter Try.func28, Try.ntmps28
    go_wp2_with (first | (go_at_call 39; refine (W1 _).mono ?_; rintro e w' ⟨rfl, hw⟩; subst hw; clear W1) | (go_at_call 39; refine (W2 _).mono ?_; rintro e w' ⟨rfl, hw⟩; subst hw; clear W2))
    go_ret
    exact ⟨ret_bool HD.out.symm, BX.out⟩
  | true =>
  have hT := inB_true q2
  rw [q2] at W2 HD
  clear q2
  by_cases q3 : n2 ≤ 128
  case neg =>
    rw [decide_eq_false q3] at HD
    have q3' : 128 < n2 := by omega
    clear q3
    go_enter Try.func28, Try.ntmps28
    go_wp2_with (first | (go_at_call 39; refine (W1 _).mono ?_; rintro e w' ⟨rfl, hw⟩; subst hw; clear W1) | (go_at_call 39; refine (W2 _).mono ?_; rintro e w' ⟨rfl, hw⟩; subst hw; clear W2))
    go_ret
    exact ⟨ret_bool HD.out.symm, BX.out⟩
  rw [decide_eq_true q3] at HD
  have HE : Hid (vmB S T L P E = (L.all (okAm S T) && (mkB S P && mkB S E))) := HD.out
  clear HD
  have w1 : IntKind.i64.wrap (S - 1) = S - 1 := IntWalk.i64_in _ (by omega)
  have w2 : IntKind.i64.wrap (T - 1) = T - 1 := IntWalk.i64_in _ (by omega)
  go_enter Try.func28, Try.ntmps28
  go_wp2_with (first | (go_at_call 39; refine (W1 _).mono ?_; rintro e w' ⟨rfl, hw⟩; subst hw; clear W1) | (go_at_call 39; refine (W2 _).mono ?_; rintro e w' ⟨rfl, hw⟩; subst hw; clear W2))
  obtain ⟨wb, hwb⟩ : ∃ x, x = w.alloc (.cells ([.int .i64 S, .int .i64 T, .slice A2 n2 c2, .slice A3 n3 c3, .slice A4 n4 c4] : List Value).toArray 28) := ⟨_, rfl⟩
  rw [← hwb] at RB BX
  change Code.wp _ _ _ _ (w.alloc (.cells ([.int .i64 S, .int .i64 T, .slice A2 n2 c2, .slice A3 n3 c3, .slice A4 n4 c4] : List Value).toArray 28))
  rw [← hwb]
  clear hwb
  go_loopg [4, 24] n2 (fun m u i wr => ∃ k : Nat, i = .int .i64 k ∧ k ≤ n2 ∧ n2 ≤ m + k ∧ Hid ((L.take k).all (okAm S T) = true) ∧ Hid (Below wb.heap.size wb wr))
  case atStart => exact ⟨0, rfl, by omega, by omega, by rw [List.take_zero]; rfl, Below.refl _ _⟩
  case round =>
    obtain ⟨k, rfl, hk, hm, hall, hbr⟩ := hrel
    by_cases hlt : k < n2
    · obtain ⟨b, off, a0, a1, a2, a3, rfl, hbB, hx, c0, c1, c2', c3'⟩ := (H2.out.below (BX.out.trans (hbr.out.mono BX.out.size)) (Nat.le_refl _)).at_ hlt
      have l0 : (0 : Int) ≤ (k : Int) := by omega
      have l1 : (k : Int) < (n2 : Int) := by omega
      have W0 := iIn_any a0 0 (S - 1); have W1 := iIn_any a1 0 (S - 1); have W2 := iIn_any a2 (-1) (T - 1); have W3 := iIn_any a3 0 1000
      have hok : okAm S T (a0, a1, a2, a3) = (inB a0 0 (S - 1) && (inB a1 0 (S - 1) && (inB a2 (-1) (T - 1) && inB a3 0 1000))) := rfl
      have RW := (RB.out.below hbr.out RB.out.lt).alloc (.cells ([.int .i64 a0, .int .i64 a1, .int .i64 a2, .int .i64 a3] : List Value).toArray 89)
      have d0 := RW.cell 0; have d1 := RW.cell 1
      have BR : Hid (Below wb.heap.size wb (wr.alloc (.cells ([.int .i64 a0, .int .i64 a1, .int .i64 a2, .int .i64 a3] : List Value).toArray 89))) := hbr.out.alloc hbr.out.size _
      have HOK := Lib.hid hok; clear hok RW
      cases p0 : inB a0 0 (S - 1) with
      | false =>
        rw [p0] at W0 HOK
        clear p0
        have HN := Lib.hid (allN hx.out HOK.out)
        go_wp2_with (first | (go_at_call 39; refine (W0 _).mono ?_; rintro e w' ⟨rfl, hw⟩; subst hw; clear W0) | (go_at_call 39; refine (W1 _).mono ?_; rintro e w' ⟨rfl, hw⟩; subst hw; clear W1) | (go_at_call 39; refine (W2 _).mono ?_; rintro e w' ⟨rfl, hw⟩; subst hw; clear W2) | (go_at_call 39; refine (W3 _).mono ?_; rintro e w' ⟨rfl, hw⟩; subst hw; clear W3))
        go_ret
        exact ⟨ret_bool (by rw [HE.out, HN.out]; rfl), BX.out.trans (BR.out.mono BX.out.size)⟩
      | true =>
      rw [p0] at W0 HOK
      clear p0
      cases p1 : inB a1 0 (S - 1) with
      | false =>
        rw [p1] at W1 HOK
        clear p1
        have HN := Lib.hid (allN hx.out HOK.out)
        go_wp2_with (first | (go_at_call 39; refine (W0 _).mono ?_; rintro e w' ⟨rfl, hw⟩; subst hw; clear W0) | (go_at_call 39; refine (W1 _).mono ?_; rintro e w' ⟨rfl, hw⟩; subst hw; clear W1) | (go_at_call 39; refine (W2 _).mono ?_; rintro e w' ⟨rfl, hw⟩; subst hw; clear W2) | (go_at_call 39; refine (W3 _).mono ?_; rintro e w' ⟨rfl, hw⟩; subst hw; clear W3))
        go_ret
        exact ⟨ret_bool (by rw [HE.out, HN.out]; rfl), BX.out.trans (BR.out.mono BX.out.size)⟩
      | true =>
      rw [p1] at W1 HOK
      clear p1
      cases p2 : inB a2 (-1) (T - 1) with
      | false =>
        rw [p2] at W2 HOK
        clear p2
        have HN := Lib.hid (allN hx.out HOK.out)
        go_wp2_with (first | (go_at_call 39; refine (W0 _).mono ?_; rintro e w' ⟨rfl, hw⟩; subst hw; clear W0) | (go_at_call 39; refine (W1 _).mono ?_; rintro e w' ⟨rfl, hw⟩; subst hw; clear W1) | (go_at_call 39; refine (W2 _).mono ?_; rintro e w' ⟨rfl, hw⟩; subst hw; clear W2) | (go_at_call 39; refine (W3 _).mono ?_; rintro e w' ⟨rfl, hw⟩; subst hw; clear W3))
        go_ret
        exact ⟨ret_bool (by rw [HE.out, HN.out]; rfl), BX.out.trans (BR.out.mono BX.out.size)⟩
      | true =>
      rw [p2] at W2 HOK
      clear p2
      cases p3 : inB a3 0 1000 with
      | false =>
        rw [p3] at W3 HOK
        clear p3
        have HN := Lib.hid (allN hx.out HOK.out)
        go_wp2_with (first | (go_at_call 39; refine (W0 _).mono ?_; rintro e w' ⟨rfl, hw⟩; subst hw; clear W0) | (go_at_call 39; refine (W1 _).mono ?_; rintro e w' ⟨rfl, hw⟩; subst hw; clear W1) | (go_at_call 39; refine (W2 _).mono ?_; rintro e w' ⟨rfl, hw⟩; subst hw; clear W2) | (go_at_call 39; refine (W3 _).mono ?_; rintro e w' ⟨rfl, hw⟩; subst hw; clear W3))
        go_ret
        exact ⟨ret_bool (by rw [HE.out, HN.out]; rfl), BX.out.trans (BR.out.mono BX.out.size)⟩
      | true =>
      rw [p3] at W3 HOK
      clear p3
      have HN := Lib.hid (allT hall.out hx.out HOK.out)
      go_wp2_with (first | (go_at_call 39; refine (W0 _).mono ?_; rintro e w' ⟨rfl, hw⟩; subst hw; clear W0) | (go_at_call 39; refine (W1 _).mono ?_; rintro e w' ⟨rfl, hw⟩; subst hw; clear W1) | (go_at_call 39; refine (W2 _).mono ?_; rintro e w' ⟨rfl, hw⟩; subst hw; clear W2) | (go_at_call 39; refine (W3 _).mono ?_; rintro e w' ⟨rfl, hw⟩; subst hw; clear W3))
      go_roundg (gk - 1)
      case measure => omega
      case rel => exact ⟨k + 1, by go_num, by omega, by omega, HN, BR⟩
    · obtain rfl : n2 = k := by omega
      have HA : Hid (L.all (okAm S T) = true) := by
        have := hall.out
        rw [take_all N2.out] at this
        exact this
      have HV : Hid (vmB S T L P E = (((n3 : Int) == S) && (((n4 : Int) == S) && (allIn P (-1) 1000 && allIn E (-1) 1000)))) := by
        show _ = _
        rw [HE.out, HA.out, mkB, mkB, N3.out, N4.out]
        by_cases e : (n3 : Int) = S <;> by_cases e' : (n4 : Int) = S <;> cases allIn P (-1) 1000 <;> cases allIn E (-1) 1000 <;> simp [e, e']
      have bw := BX.out.trans (hbr.out.mono BX.out.size)
      have RW := RB.out.below hbr.out RB.out.lt
      have d0 := RW.cell 0; have d1 := RW.cell 1; have d3 := RW.cell 3; have d4 := RW.cell 4
      have C3 := iAllIn_any A3 n3 c3 P (-1) 1000 _ wr (H3.out.below bw (Nat.le_refl _)) hP
      have C4 := iAllIn_any A4 n4 c4 E (-1) 1000 _ wr (H4.out.below bw (Nat.le_refl _)) hE
      obtain ⟨x3, hx3⟩ : ∃ x, x = allIn P (-1) 1000 := ⟨_, rfl⟩
      obtain ⟨x4, hx4⟩ : ∃ x, x = allIn E (-1) 1000 := ⟨_, rfl⟩
      rw [← hx3] at C3; rw [← hx4] at C4
      have HV : Hid (vmB S T L P E = (((n3 : Int) == S) && (((n4 : Int) == S) && (x3 && x4)))) := by show _ = _; rw [HV.out, hx3, hx4]
      have HW := Lib.hid bw
      clear RW bw hx3 hx4
      obtain ⟨y3, hy3⟩ : ∃ x, ((n3 : Int) == S) = x := ⟨_, rfl⟩
      obtain ⟨y4, hy4⟩ : ∃ x, ((n4 : Int) == S) = x := ⟨_, rfl⟩
      have HV : Hid (vmB S T L P E = (y3 && (y4 && (x3 && x4)))) := by show _ = _; rw [HV.out, hy3, hy4]
      cases y3 <;> cases y4 <;> cases x3
      all_goals
        go_wp2_with (first | (go_at_call_of 60 (Value.slice A3 n3 c3); refine C3.mono ?_; rintro e w' ⟨rfl, hw⟩; subst hw) | (go_at_call_of 60 (Value.slice A4 n4 c4); refine C4.mono ?_; rintro e w' ⟨rfl, hw⟩; subst hw))
        go_ret
        exact ⟨ret_bool (by rw [HV.out]; rfl), HW.out⟩
theorem drw2 {w wr : World} {n : Nat} (h : ∃ q, wr = w.drewN q) : ∃ m, wr.drewN n = w.drewN m := by
  obtain ⟨q, rfl⟩ := h
  exact ⟨q + n, World.drewN_drewN ..⟩
set_option maxRecDepth 100000 in
set_option maxHeartbeats 8000000 in
theorem sIs_any (g : Nat) (S T : Int) (L : List A4) (P E : List Int) (A2 : Option Addr) (n2 c2 : Nat) (A3 : Option Addr) (n3 c3 : Nat) (A4 : Option Addr) (n4 c4 B : Nat) (w : World) (hr : Row w g 28 [.int .i64 S, .int .i64 T, .slice A2 n2 c2, .slice A3 n3 c3, .slice A4 n4 c4]) (hB : B ≤ w.heap.size) (h2 : SlA w B A2 n2 L) (h3 : SlI w B A3 n3 P) (h4 : SlI w B A4 n4 E) (hL : n2 ≤ 4294967296) (hP : n3 ≤ 4294967296) (hE : n4 ≤ 4294967296) :
    Calls Try.prog 46 #[.pointer (some ⟨g, 0, none⟩)] w fun e w' => e = .returned (.bool (vmB S T L P E)) ∧ Below w.heap.size w w' := by
  have e2 := h2.len; have e3 := h3.len; have e4 := h4.len
  have hdef : vmB S T L P E = (inB S 1 16 && (inB T 1 4 && (decide (L.length ≤ 128) && (L.all (okAm S T) && (mkB S P && mkB S E))))) := rfl
  rw [e2] at hdef
  have H2 := Lib.hid h2; have N2 := Lib.hid e2; have H3 := Lib.hid h3; have H4 := Lib.hid h4
  have W1 := sIn_any S 1 16; have W2 := sIn_any T 1 4
  have RB := Lib.hid hr; have HBB := Lib.hid hB
  have r0 : w.cell? ⟨g, 0, none⟩ = some (.int .i64 S) := hr.cell 0
  have r1 : w.cell? ⟨g, 1, none⟩ = some (.int .i64 T) := hr.cell 1
  have r2 : w.cell? ⟨g, 2, none⟩ = some (.slice A2 n2 c2) := hr.cell 2
  clear h2 h3 h4 e2 e3 e4 hr hB
  have HD := Lib.hid hdef; clear hdef
  cases q1 : inB S 1 16 with
  | false =>
    rw [q1] at W1 HD
    clear q1
    go_enter Try.func46, Try.ntmps46
    go_wp2_with (first | (go_at_call 47; refine (W1 _).mono ?_; rintro e w' ⟨rfl, hw⟩; subst hw; clear W1) | (go_at_call 47; refine (W2 _).mono ?_; rintro e w' ⟨rfl, hw⟩; subst hw; clear W2))
    go_ret
    exact ⟨ret_bool HD.out.symm, Below.refl _ _⟩
  | true =>
  have hS := inB_true q1
  rw [q1] at W1 HD
  clear q1
  cases q2 : inB T 1 4 with
  | false =>
    rw [q2] at W2 HD
    clear q2
    go_enter Try.func46, Try.ntmps46
    go_wp2_with (first | (go_at_call 47; refine (W1 _).mono ?_; rintro e w' ⟨rfl, hw⟩; subst hw; clear W1) | (go_at_call 47; refine (W2 _).mono ?_; rintro e w' ⟨rfl, hw⟩; subst hw; clear W2))
    go_ret
    exact ⟨ret_bool HD.out.symm, Below.refl _ _⟩
  | true =>
  have hT := inB_true q2
  rw [q2] at W2 HD
  clear q2
  by_cases q3 : n2 ≤ 128
  case neg =>
    rw [decide_eq_false q3] at HD
    have q3' : 128 < n2 := by omega
    clear q3
    go_enter Try.func46, Try.ntmps46
    go_wp2_with (first | (go_at_call 47; refine (W1 _).mono ?_; rintro e w' ⟨rfl, hw⟩; subst hw; clear W1) | (go_at_call 47; refine (W2 _).mono ?_; rintro e w' ⟨rfl, hw⟩; subst hw; clear W2))
    go_ret
    exact ⟨ret_bool HD.out.symm, Below.refl _ _⟩
  rw [decide_eq_true q3] at HD
  have HE : Hid (vmB S T L P E = (L.all (okAm S T) && (mkB S P && mkB S E))) := HD.out
  clear HD
  have w1 : IntKind.i64.wrap (S - 1) = S - 1 := IntWalk.i64_in _ (by omega)
  have w2 : IntKind.i64.wrap (T - 1) = T - 1 := IntWalk.i64_in _ (by omega)
  go_enter Try.func46, Try.ntmps46
  go_wp2_with (first | (go_at_call 47; refine (W1 _).mono ?_; rintro e w' ⟨rfl, hw⟩; subst hw; clear W1) | (go_at_call 47; refine (W2 _).mono ?_; rintro e w' ⟨rfl, hw⟩; subst hw; clear W2))
  go_loopg [3, 4] n2 (fun m i u wr => ∃ k : Nat, i = .int .i64 k ∧ k ≤ n2 ∧ n2 ≤ m + k ∧ Hid ((L.take k).all (okAm S T) = true) ∧ Hid (Below w.heap.size w wr))
  case atStart => exact ⟨0, rfl, by omega, by omega, by rw [List.take_zero]; rfl, Below.refl _ _⟩
  case round =>
    obtain ⟨k, rfl, hk, hm, hall, hbr⟩ := hrel
    have HR := Lib.hid (RB.out.below hbr.out RB.out.lt)
    have s0 : wr.cell? ⟨g, 0, none⟩ = some (.int .i64 S) := HR.out.cell 0
    have s1 : wr.cell? ⟨g, 1, none⟩ = some (.int .i64 T) := HR.out.cell 1
    have s2 : wr.cell? ⟨g, 2, none⟩ = some (.slice A2 n2 c2) := HR.out.cell 2
    by_cases hlt : k < n2
    · obtain ⟨b, off, a0, a1, a2, a3, rfl, hbB, hx, c0, c1, c2', c3'⟩ := (H2.out.below hbr.out HBB.out).at_ hlt
      have l0 : (0 : Int) ≤ (k : Int) := by omega
      have l1 : (k : Int) < (n2 : Int) := by omega
      have W0 := sIn_any a0 0 (S - 1); have W1 := sIn_any a1 0 (S - 1); have W2 := sIn_any a2 (-1) (T - 1); have W3 := sIn_any a3 0 1000
      have hok : okAm S T (a0, a1, a2, a3) = (inB a0 0 (S - 1) && (inB a1 0 (S - 1) && (inB a2 (-1) (T - 1) && inB a3 0 1000))) := rfl
      have RW := HR.out.alloc (.cells ([.int .i64 a0, .int .i64 a1, .int .i64 a2, .int .i64 a3] : List Value).toArray 89)
      have d0 := RW.cell 0; have d1 := RW.cell 1
      have BR : Hid (∀ q, Below w.heap.size w ((wr.alloc (.cells ([.int .i64 a0, .int .i64 a1, .int .i64 a2, .int .i64 a3] : List Value).toArray 89)).drewN q)) := fun q => below_draws (hbr.out.alloc hbr.out.size _) q
      have HOK := Lib.hid hok; clear hok RW
      cases p0 : inB a0 0 (S - 1) with
      | false =>
        rw [p0] at W0 HOK
        clear p0
        have HN := Lib.hid (allN hx.out HOK.out)
        go_wp2_with fail
        go_quiet (first | (go_at_call_of 47 (Value.int .i64 a0); exact quietL (W0 _)) | (go_at_call_of 47 (Value.int .i64 a1); exact quietL (W1 _)) | (go_at_call_of 47 (Value.int .i64 a2); exact quietL (W2 _)) | (go_at_call_of 47 (Value.int .i64 a3); exact quietL (W3 _)))
        go_wp2_with fail
        go_ret
        refine ⟨ret_bool (by rw [HE.out, HN.out]; rfl), ?_⟩
        exact BR.out _
      | true =>
      rw [p0] at W0 HOK
      clear p0
      cases p1 : inB a1 0 (S - 1) with
      | false =>
        rw [p1] at W1 HOK
        clear p1
        have HN := Lib.hid (allN hx.out HOK.out)
        go_wp2_with fail
        go_quiet (first | (go_at_call_of 47 (Value.int .i64 a0); exact quietL (W0 _)) | (go_at_call_of 47 (Value.int .i64 a1); exact quietL (W1 _)) | (go_at_call_of 47 (Value.int .i64 a2); exact quietL (W2 _)) | (go_at_call_of 47 (Value.int .i64 a3); exact quietL (W3 _)))
        go_wp2_with fail
        go_ret
        refine ⟨ret_bool (by rw [HE.out, HN.out]; rfl), ?_⟩
        exact BR.out _
      | true =>
      rw [p1] at W1 HOK
      clear p1
      cases p2 : inB a2 (-1) (T - 1) with
      | false =>
        rw [p2] at W2 HOK
        clear p2
        have HN := Lib.hid (allN hx.out HOK.out)
        go_wp2_with fail
        go_quiet (first | (go_at_call_of 47 (Value.int .i64 a0); exact quietL (W0 _)) | (go_at_call_of 47 (Value.int .i64 a1); exact quietL (W1 _)) | (go_at_call_of 47 (Value.int .i64 a2); exact quietL (W2 _)) | (go_at_call_of 47 (Value.int .i64 a3); exact quietL (W3 _)))
        go_wp2_with fail
        go_ret
        refine ⟨ret_bool (by rw [HE.out, HN.out]; rfl), ?_⟩
        exact BR.out _
      | true =>
      rw [p2] at W2 HOK
      clear p2
      cases p3 : inB a3 0 1000 with
      | false =>
        rw [p3] at W3 HOK
        clear p3
        have HN := Lib.hid (allN hx.out HOK.out)
        go_wp2_with fail
        go_quiet (first | (go_at_call_of 47 (Value.int .i64 a0); exact quietL (W0 _)) | (go_at_call_of 47 (Value.int .i64 a1); exact quietL (W1 _)) | (go_at_call_of 47 (Value.int .i64 a2); exact quietL (W2 _)) | (go_at_call_of 47 (Value.int .i64 a3); exact quietL (W3 _)))
        go_wp2_with fail
        go_ret
        refine ⟨ret_bool (by rw [HE.out, HN.out]; rfl), ?_⟩
        exact BR.out _
      | true =>
      rw [p3] at W3 HOK
      clear p3
      have HN := Lib.hid (allT hall.out hx.out HOK.out)
      go_wp2_with fail
      go_quiet (first | (go_at_call_of 47 (Value.int .i64 a0); exact quietL (W0 _)) | (go_at_call_of 47 (Value.int .i64 a1); exact quietL (W1 _)) | (go_at_call_of 47 (Value.int .i64 a2); exact quietL (W2 _)) | (go_at_call_of 47 (Value.int .i64 a3); exact quietL (W3 _)))
      go_wp2_with fail
      go_roundg (gk - 1)
      case measure => omega
      case rel => exact ⟨k + 1, by go_num, by omega, by omega, HN, BR.out _⟩
    · obtain rfl : n2 = k := by omega
      have s3 : wr.cell? ⟨g, 3, none⟩ = some (.slice A3 n3 c3) := HR.out.cell 3
      have s4 : wr.cell? ⟨g, 4, none⟩ = some (.slice A4 n4 c4) := HR.out.cell 4
      have HA : Hid (L.all (okAm S T) = true) := by
        have := hall.out
        rw [take_all N2.out] at this
        exact this
      have C3 := fun q => sMarks_any A3 n3 c3 P S _ (wr.drewN q) (SlV.drewN (SlI.below H3.out hbr.out HBB.out) q) hP
      have C4 := fun q => sMarks_any A4 n4 c4 E S _ (wr.drewN q) (SlV.drewN (SlI.below H4.out hbr.out HBB.out) q) hE
      obtain ⟨x3, hx3⟩ : ∃ x, x = mkB S P := ⟨_, rfl⟩
      obtain ⟨x4, hx4⟩ : ∃ x, x = mkB S E := ⟨_, rfl⟩
      rw [← hx3] at C3; rw [← hx4] at C4
      have HV : Hid (vmB S T L P E = (x3 && x4)) := by show _ = _; rw [HE.out, HA.out, hx3, hx4]; rfl
      have HB2 : Hid (∀ q, Below w.heap.size w (wr.drewN q)) := fun q => below_draws hbr.out q
      clear hx3 hx4
      cases x3
      all_goals
        go_wp2_with fail
        go_quiet (first | (go_at_call_of 68 (Value.slice A3 n3 c3); exact quietL (C3 _)) | (go_at_call_of 68 (Value.slice A4 n4 c4); exact quietL (C4 _)))
        go_wp2_with fail
        go_ret
        exact ⟨ret_bool (by rw [HV.out]; rfl), HB2.out _⟩
end Go.Proofs.Ytedbngnkkfpbeaa
