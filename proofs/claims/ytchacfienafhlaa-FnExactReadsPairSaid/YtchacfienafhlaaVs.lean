/- ValidSided of both programs. -/
import Derived.Test.YtchacfienafhlaaSidedSt
import Derived.Test.YtchacfienafhlaaTxtB
import Derived.Test.YtchacfienafhlaaLong
import Derived.Test.YtchacfienafhlaaFe
namespace Go.Proofs.Ytchacfienafhlaa
open Go.RowKit
set_option linter.unusedVariables false
def okA (S T : Int) (a : A4) : Bool := inB a.1 0 (S - 1) && (inB a.2.1 0 (S - 1) && (inB a.2.2.1 (-1) (T - 1) && inB a.2.2.2 (-1) (T - 1)))
def vsB (S T : Int) (L : List A4) (E : List Bool) : Bool := inB S 1 8 && (inB T 1 4 && (decide (L.length ≤ 48) && (decide ((E.length : Int) = S) && L.all (okA S T))))
theorem all_take {α : Type} {p : α → Bool} {L : List α} {k : Nat} {a : α} (h : (L.take k).all p = true) (ha : L[k]? = some a) (hp : p a = true) : (L.take (k + 1)).all p = true := by
  obtain ⟨hk, rfl⟩ := List.getElem?_eq_some_iff.1 ha
  rw [List.take_succ_eq_append_getElem hk, List.all_append, h]
  simp [hp]
theorem all_no {α : Type} {p : α → Bool} {L : List α} {k : Nat} {a : α} (ha : L[k]? = some a) (hp : p a = false) : L.all p = false := by
  rw [List.all_eq_false]
  exact ⟨a, List.mem_of_getElem? ha, by simp [hp]⟩
theorem vsB_true {S T : Int} {L : List A4} {E : List Bool} (h : vsB S T L E = true) : (1 ≤ S ∧ S ≤ 8) ∧ (1 ≤ T ∧ T ≤ 4) ∧ L.length ≤ 48 ∧ (E.length : Int) = S ∧ ∀ a ∈ L, okA S T a = true := by
  simp only [vsB, Bool.and_eq_true, decide_eq_true_eq, List.all_eq_true] at h
  exact ⟨inB_true h.1, inB_true h.2.1, h.2.2.1, h.2.2.2.1, h.2.2.2.2⟩
set_option maxHeartbeats 4000000 in
theorem iValidSided_any (v : Value) (S T : Int) (L : List A4) (E : List Bool) (w : World) (h : Sd w w.heap.size v S T L E) (hL : L.length ≤ 4294967296) (hE : E.length ≤ 4294967296) :
    Calls Try.prog 61 #[v] w fun e w' => e = .returned (.bool (vsB S T L E)) ∧ Below w.heap.size w w' := by
  obtain ⟨A2, n2, c2, A3, n3, c3, rfl, h2, h3⟩ := h
  have e2 := h2.len; have e3 := h3.len
  have hdef : vsB S T L E = (inB S 1 8 && (inB T 1 4 && (decide (L.length ≤ 48) && (decide ((E.length : Int) = S) && L.all (okA S T))))) := rfl
  rw [e2, e3] at hdef
  rw [e2] at hL; rw [e3] at hE
  have H2 := Lib.hid h2; have N2 := Lib.hid e2
  have W1 := iIn_any S 1 8; have W2 := iIn_any T 1 4
  have hbx : Below w.heap.size w (w.alloc (.cells ([.int .i64 S, .int .i64 T, .slice A2 n2 c2, .slice A3 n3 c3] : List Value).toArray 46)) := (Below.refl _ _).alloc (Nat.le_refl _) _
  have rb := Row.new w 46 [.int .i64 S, .int .i64 T, .slice A2 n2 c2, .slice A3 n3 c3]
  have RB := Lib.hid rb; have BX := Lib.hid hbx
  clear h2 h3 e2 e3 rb hbx
  have HD := Lib.hid hdef; clear hdef
  cases q1 : inB S 1 8 with
  | false =>
    rw [q1] at W1 HD
    clear q1
    go_enter Try.func61, Try.ntmps61
    go_wp2_with (first | (go_at_call 47; refine (W1 _).mono ?_; rintro e w' ⟨rfl, hw⟩; subst hw; clear W1) | (go_at_call 47; refine (W2 _).mono ?_; rintro e w' ⟨rfl, hw⟩; subst hw; clear W2))
    go_ret
    exact ⟨ret_bool HD.out.symm, BX.out⟩
  | true =>
  have hS := inB_true q1
  rw [q1] at W1 HD
  clear q1
  cases q2 : inB T 1 4 with
  | false =>
    rw [q2] at W2 HD
    clear q2
    go_enter Try.func61, Try.ntmps61
    go_wp2_with (first | (go_at_call 47; refine (W1 _).mono ?_; rintro e w' ⟨rfl, hw⟩; subst hw; clear W1) | (go_at_call 47; refine (W2 _).mono ?_; rintro e w' ⟨rfl, hw⟩; subst hw; clear W2))
    go_ret
    exact ⟨ret_bool HD.out.symm, BX.out⟩
  | true =>
  have hT := inB_true q2
  rw [q2] at W2 HD
  clear q2
  by_cases q3 : n2 ≤ 48
  case neg =>
    rw [decide_eq_false q3] at HD
    have q3' : 48 < n2 := by omega
    clear q3
    go_enter Try.func61, Try.ntmps61
    go_wp2_with (first | (go_at_call 47; refine (W1 _).mono ?_; rintro e w' ⟨rfl, hw⟩; subst hw; clear W1) | (go_at_call 47; refine (W2 _).mono ?_; rintro e w' ⟨rfl, hw⟩; subst hw; clear W2))
    go_ret
    exact ⟨ret_bool HD.out.symm, BX.out⟩
  rw [decide_eq_true q3] at HD
  by_cases q4 : (n3 : Int) = S
  case neg =>
    rw [decide_eq_false q4] at HD
    have q5 : ((n3 : Int) != S) = true := by simp [q4]
    have q6 : ((n3 : Int) == S) = false := by simp [q4]
    clear q4
    go_enter Try.func61, Try.ntmps61
    go_wp2_with (first | (go_at_call 47; refine (W1 _).mono ?_; rintro e w' ⟨rfl, hw⟩; subst hw; clear W1) | (go_at_call 47; refine (W2 _).mono ?_; rintro e w' ⟨rfl, hw⟩; subst hw; clear W2))
    go_ret
    exact ⟨ret_bool HD.out.symm, BX.out⟩
  rw [decide_eq_true q4] at HD
  have HE : Hid (vsB S T L E = L.all (okA S T)) := HD.out
  clear HD hE
  subst q4
  have w1 : IntKind.i64.wrap ((n3 : Int) - 1) = (n3 : Int) - 1 := IntWalk.i64_in _ (by omega)
  have w2 : IntKind.i64.wrap (T - 1) = T - 1 := IntWalk.i64_in _ (by omega)
  go_enter Try.func61, Try.ntmps61
  go_wp2_with (first | (go_at_call 47; refine (W1 _).mono ?_; rintro e w' ⟨rfl, hw⟩; subst hw; clear W1) | (go_at_call 47; refine (W2 _).mono ?_; rintro e w' ⟨rfl, hw⟩; subst hw; clear W2))
  obtain ⟨wb, hwb⟩ : ∃ x, x = w.alloc (.cells ([.int .i64 (n3 : Int), .int .i64 T, .slice A2 n2 c2, .slice A3 n3 c3] : List Value).toArray 46) := ⟨_, rfl⟩
  rw [← hwb] at RB BX
  change Code.wp _ _ _ _ (w.alloc (.cells ([.int .i64 (n3 : Int), .int .i64 T, .slice A2 n2 c2, .slice A3 n3 c3] : List Value).toArray 46))
  rw [← hwb]
  clear hwb
  go_loopg [4, 32] n2 (fun m u i wr => ∃ k : Nat, i = .int .i64 k ∧ k ≤ n2 ∧ n2 ≤ m + k ∧ Hid ((L.take k).all (okA n3 T) = true) ∧ Hid (Below wb.heap.size wb wr))
  case atStart => exact ⟨0, rfl, by omega, by omega, by rw [List.take_zero]; rfl, Below.refl _ _⟩
  case round =>
    obtain ⟨k, rfl, hk, hm, hall, hbr⟩ := hrel
    by_cases hlt : k < n2
    · obtain ⟨b, off, a0, a1, a2, a3, rfl, hbB, hx, c0, c1, c2', c3'⟩ := (H2.out.below (BX.out.trans (hbr.out.mono BX.out.size)) (Nat.le_refl _)).at_ hlt
      have l0 : (0 : Int) ≤ (k : Int) := by omega
      have l1 : (k : Int) < (n2 : Int) := by omega
      have W0 := iIn_any a0 0 ((n3 : Int) - 1); have W1 := iIn_any a1 0 ((n3 : Int) - 1); have W2 := iIn_any a2 (-1) (T - 1); have W3 := iIn_any a3 (-1) (T - 1)
      have hok : okA n3 T (a0, a1, a2, a3) = (inB a0 0 ((n3 : Int) - 1) && (inB a1 0 ((n3 : Int) - 1) && (inB a2 (-1) (T - 1) && inB a3 (-1) (T - 1)))) := rfl
      have RW := (RB.out.below hbr.out RB.out.lt).alloc (.cells ([.int .i64 a0, .int .i64 a1, .int .i64 a2, .int .i64 a3] : List Value).toArray 113)
      have d0 := RW.cell 0; have d1 := RW.cell 1
      have BR : Hid (Below wb.heap.size wb (wr.alloc (.cells ([.int .i64 a0, .int .i64 a1, .int .i64 a2, .int .i64 a3] : List Value).toArray 113))) := hbr.out.alloc hbr.out.size _
      have HOK := Lib.hid hok; clear hok RW
      cases p0 : inB a0 0 ((n3 : Int) - 1) with
      | false =>
        rw [p0] at W0 HOK
        clear p0
        have HN := Lib.hid (all_no hx.out HOK.out)
        go_wp2_with (first | (go_at_call 47; refine (W0 _).mono ?_; rintro e w' ⟨rfl, hw⟩; subst hw; clear W0) | (go_at_call 47; refine (W1 _).mono ?_; rintro e w' ⟨rfl, hw⟩; subst hw; clear W1) | (go_at_call 47; refine (W2 _).mono ?_; rintro e w' ⟨rfl, hw⟩; subst hw; clear W2) | (go_at_call 47; refine (W3 _).mono ?_; rintro e w' ⟨rfl, hw⟩; subst hw; clear W3))
        go_ret
        exact ⟨ret_bool (by rw [HE.out, HN.out]), BX.out.trans (BR.out.mono BX.out.size)⟩
      | true =>
      rw [p0] at W0 HOK
      clear p0
      cases p1 : inB a1 0 ((n3 : Int) - 1) with
      | false =>
        rw [p1] at W1 HOK
        clear p1
        have HN := Lib.hid (all_no hx.out HOK.out)
        go_wp2_with (first | (go_at_call 47; refine (W0 _).mono ?_; rintro e w' ⟨rfl, hw⟩; subst hw; clear W0) | (go_at_call 47; refine (W1 _).mono ?_; rintro e w' ⟨rfl, hw⟩; subst hw; clear W1) | (go_at_call 47; refine (W2 _).mono ?_; rintro e w' ⟨rfl, hw⟩; subst hw; clear W2) | (go_at_call 47; refine (W3 _).mono ?_; rintro e w' ⟨rfl, hw⟩; subst hw; clear W3))
        go_ret
        exact ⟨ret_bool (by rw [HE.out, HN.out]), BX.out.trans (BR.out.mono BX.out.size)⟩
      | true =>
      rw [p1] at W1 HOK
      clear p1
      cases p2 : inB a2 (-1) (T - 1) with
      | false =>
        rw [p2] at W2 HOK
        clear p2
        have HN := Lib.hid (all_no hx.out HOK.out)
        go_wp2_with (first | (go_at_call 47; refine (W0 _).mono ?_; rintro e w' ⟨rfl, hw⟩; subst hw; clear W0) | (go_at_call 47; refine (W1 _).mono ?_; rintro e w' ⟨rfl, hw⟩; subst hw; clear W1) | (go_at_call 47; refine (W2 _).mono ?_; rintro e w' ⟨rfl, hw⟩; subst hw; clear W2) | (go_at_call 47; refine (W3 _).mono ?_; rintro e w' ⟨rfl, hw⟩; subst hw; clear W3))
        go_ret
        exact ⟨ret_bool (by rw [HE.out, HN.out]), BX.out.trans (BR.out.mono BX.out.size)⟩
      | true =>
      rw [p2] at W2 HOK
      clear p2
      cases p3 : inB a3 (-1) (T - 1) with
      | false =>
        rw [p3] at W3 HOK
        clear p3
        have HN := Lib.hid (all_no hx.out HOK.out)
        go_wp2_with (first | (go_at_call 47; refine (W0 _).mono ?_; rintro e w' ⟨rfl, hw⟩; subst hw; clear W0) | (go_at_call 47; refine (W1 _).mono ?_; rintro e w' ⟨rfl, hw⟩; subst hw; clear W1) | (go_at_call 47; refine (W2 _).mono ?_; rintro e w' ⟨rfl, hw⟩; subst hw; clear W2) | (go_at_call 47; refine (W3 _).mono ?_; rintro e w' ⟨rfl, hw⟩; subst hw; clear W3))
        go_ret
        exact ⟨ret_bool (by rw [HE.out, HN.out]), BX.out.trans (BR.out.mono BX.out.size)⟩
      | true =>
      rw [p3] at W3 HOK
      clear p3
      have HN := Lib.hid (all_take hall.out hx.out HOK.out)
      go_wp2_with (first | (go_at_call 47; refine (W0 _).mono ?_; rintro e w' ⟨rfl, hw⟩; subst hw; clear W0) | (go_at_call 47; refine (W1 _).mono ?_; rintro e w' ⟨rfl, hw⟩; subst hw; clear W1) | (go_at_call 47; refine (W2 _).mono ?_; rintro e w' ⟨rfl, hw⟩; subst hw; clear W2) | (go_at_call 47; refine (W3 _).mono ?_; rintro e w' ⟨rfl, hw⟩; subst hw; clear W3))
      go_roundg (gk - 1)
      case measure => omega
      case rel => exact ⟨k + 1, by go_num, by omega, by omega, HN, BR⟩
    · obtain rfl : n2 = k := by omega
      go_wp2_with fail
      go_ret
      refine ⟨ret_bool ?_, BX.out.trans (hbr.out.mono BX.out.size)⟩
      rw [HE.out]
      have := hall.out
      rw [take_all N2.out] at this
      exact this.symm
theorem draw2 {w wr : World} {n : Nat} (h : ∃ q, wr = w.drewN q) : ∃ m, wr.drewN n = w.drewN m := by
  obtain ⟨q, rfl⟩ := h
  exact ⟨q + n, World.drewN_drewN ..⟩
set_option maxRecDepth 100000 in
set_option maxHeartbeats 4000000 in
theorem sSided_any (g : Nat) (S T : Int) (L : List A4) (E : List Bool) (A2 : Option Addr) (n2 c2 : Nat) (A3 : Option Addr) (n3 c3 B : Nat) (w : World) (hr : Row w g 46 [.int .i64 S, .int .i64 T, .slice A2 n2 c2, .slice A3 n3 c3]) (h2 : SlA w B A2 n2 L) (e3 : E.length = n3) (hL : n2 ≤ 4294967296) (hE : n3 ≤ 4294967296) :
    Calls Try.prog 56 #[.pointer (some ⟨g, 0, none⟩)] w fun e w' => e = .returned (.bool (vsB S T L E)) ∧ ∃ q, w' = w.drewN q := by
  have e2 := h2.len
  have hdef : vsB S T L E = (inB S 1 8 && (inB T 1 4 && (decide (L.length ≤ 48) && (decide ((E.length : Int) = S) && L.all (okA S T))))) := rfl
  rw [e2, e3] at hdef
  have H2 := Lib.hid h2; have N2 := Lib.hid e2
  have W1 := sIn_any S 1 8; have W2 := sLetters_any T
  have RB := Lib.hid hr
  have r0 : w.cell? ⟨g, 0, none⟩ = some (.int .i64 S) := hr.cell 0
  have r1 : w.cell? ⟨g, 1, none⟩ = some (.int .i64 T) := hr.cell 1
  have r2 : w.cell? ⟨g, 2, none⟩ = some (.slice A2 n2 c2) := hr.cell 2
  have r3 : w.cell? ⟨g, 3, none⟩ = some (.slice A3 n3 c3) := hr.cell 3
  clear h2 e2 e3 hr
  have HD := Lib.hid hdef; clear hdef
  cases q1 : inB S 1 8 with
  | false =>
    rw [q1] at W1 HD
    clear q1
    go_enter Try.func56, Try.ntmps56
    go_wp2_with fail
    go_quiet (first | (go_at_call 42; exact quiet_left (W1 _)) | (go_at_call 78; exact quiet_left (W2 _)))
    go_wp2_with fail
    go_ret
    exact ⟨ret_bool HD.out.symm, _, rfl⟩
  | true =>
  have hS := inB_true q1
  rw [q1] at W1 HD
  clear q1
  cases q2 : inB T 1 4 with
  | false =>
    rw [q2] at W2 HD
    clear q2
    go_enter Try.func56, Try.ntmps56
    go_wp2_with fail
    go_quiet (first | (go_at_call 42; exact quiet_left (W1 _)) | (go_at_call 78; exact quiet_left (W2 _)))
    go_wp2_with fail
    go_ret
    exact ⟨ret_bool HD.out.symm, _, rfl⟩
  | true =>
  have hT := inB_true q2
  rw [q2] at W2 HD
  clear q2
  by_cases q3 : n2 ≤ 48
  case neg =>
    rw [decide_eq_false q3] at HD
    have q3' : decide ((48 : Int) < (n2 : Int)) = true := decide_eq_true (by omega)
    clear q3
    go_enter Try.func56, Try.ntmps56
    go_wp2_with fail
    go_quiet (first | (go_at_call 42; exact quiet_left (W1 _)) | (go_at_call 78; exact quiet_left (W2 _)))
    go_wp2_with fail
    go_ret
    exact ⟨ret_bool HD.out.symm, _, rfl⟩
  rw [decide_eq_true q3] at HD
  have q3' : decide ((48 : Int) < (n2 : Int)) = false := decide_eq_false (by omega)
  by_cases q4 : (n3 : Int) = S
  case neg =>
    rw [decide_eq_false q4] at HD
    have q5 : ((n3 : Int) != S) = true := by simp [q4]
    have q6 : ((n3 : Int) == S) = false := by simp [q4]
    clear q4
    go_enter Try.func56, Try.ntmps56
    go_wp2_with fail
    go_quiet (first | (go_at_call 42; exact quiet_left (W1 _)) | (go_at_call 78; exact quiet_left (W2 _)))
    go_wp2_with fail
    go_ret
    exact ⟨ret_bool HD.out.symm, _, rfl⟩
  rw [decide_eq_true q4] at HD
  have HE : Hid (vsB S T L E = L.all (okA S T)) := HD.out
  clear HD hE
  subst q4
  have q5 : ((n3 : Int) != (n3 : Int)) = false := by simp
  have q6 : ((n3 : Int) == (n3 : Int)) = true := by simp
  have w1 : IntKind.i64.wrap ((n3 : Int) - 1) = (n3 : Int) - 1 := IntWalk.i64_in _ (by omega)
  have w2 : IntKind.i64.wrap (T - 1) = T - 1 := IntWalk.i64_in _ (by omega)
  go_enter Try.func56, Try.ntmps56
  go_wp2_with fail
  go_quiet (first | (go_at_call 42; exact quiet_left (W1 _)) | (go_at_call 78; exact quiet_left (W2 _)))
  clear W1 W2
  go_wp2_with fail
  go_loopg [3, 4, 44] n2 (fun m u0 u1 i wr => ∃ k : Nat, i = .int .i64 k ∧ k ≤ n2 ∧ n2 ≤ m + k ∧ Hid ((L.take k).all (okA n3 T) = true) ∧ Hid (∃ q, wr = w.drewN q))
  case atStart => exact ⟨0, rfl, by omega, by omega, by rw [List.take_zero]; rfl, _, rfl⟩
  case round =>
    obtain ⟨k, rfl, hk, hm, hall, hq⟩ := hrel
    have HW : Hid (SlA wr B A2 n2 L ∧ Row wr g 46 [.int .i64 (n3 : Int), .int .i64 T, .slice A2 n2 c2, .slice A3 n3 c3]) := by
      obtain ⟨q, rfl⟩ := hq.out
      exact ⟨H2.out, RB.out⟩
    by_cases hlt : k < n2
    · obtain ⟨b, off, a0, a1, a2, a3, rfl, hbB, hx, c0, c1, c2', c3'⟩ := HW.out.1.at_ hlt
      have s0 : wr.cell? ⟨g, 0, none⟩ = some (.int .i64 (n3 : Int)) := HW.out.2.cell 0
      have s1 : wr.cell? ⟨g, 1, none⟩ = some (.int .i64 T) := HW.out.2.cell 1
      have s2 : wr.cell? ⟨g, 2, none⟩ = some (.slice (some ⟨b, off, none⟩) n2 c2) := HW.out.2.cell 2
      have l0 : (0 : Int) ≤ (k : Int) := by omega
      have l1 : (k : Int) < (n2 : Int) := by omega
      have W0 := sIn_any a0 0 ((n3 : Int) - 1); have W1 := sIn_any a1 0 ((n3 : Int) - 1); have W2 := sIn_any a2 (-1) (T - 1); have W3 := sIn_any a3 (-1) (T - 1)
      have hok : okA n3 T (a0, a1, a2, a3) = (inB a0 0 ((n3 : Int) - 1) && (inB a1 0 ((n3 : Int) - 1) && (inB a2 (-1) (T - 1) && inB a3 (-1) (T - 1)))) := rfl
      have HOK := Lib.hid hok; clear hok
      cases p0 : inB a0 0 ((n3 : Int) - 1) with
      | false =>
        rw [p0] at W0 HOK
        clear p0
        have HN := Lib.hid (all_no hx.out HOK.out)
        go_wp2_with fail
        go_quiet (first | (go_at_call_of 42 (Value.int .i64 a0); exact quiet_left (W0 _)) | (go_at_call_of 42 (Value.int .i64 a1); exact quiet_left (W1 _)) | (go_at_call_of 42 (Value.int .i64 a2); exact quiet_left (W2 _)) | (go_at_call_of 42 (Value.int .i64 a3); exact quiet_left (W3 _)))
        go_wp2_with fail
        go_ret
        refine ⟨ret_bool (by rw [HE.out, HN.out]), ?_⟩
        exact draw2 hq.out
      | true =>
      rw [p0] at W0 HOK
      clear p0
      cases p1 : inB a1 0 ((n3 : Int) - 1) with
      | false =>
        rw [p1] at W1 HOK
        clear p1
        have HN := Lib.hid (all_no hx.out HOK.out)
        go_wp2_with fail
        go_quiet (first | (go_at_call_of 42 (Value.int .i64 a0); exact quiet_left (W0 _)) | (go_at_call_of 42 (Value.int .i64 a1); exact quiet_left (W1 _)) | (go_at_call_of 42 (Value.int .i64 a2); exact quiet_left (W2 _)) | (go_at_call_of 42 (Value.int .i64 a3); exact quiet_left (W3 _)))
        go_wp2_with fail
        go_ret
        refine ⟨ret_bool (by rw [HE.out, HN.out]), ?_⟩
        exact draw2 hq.out
      | true =>
      rw [p1] at W1 HOK
      clear p1
      cases p2 : inB a2 (-1) (T - 1) with
      | false =>
        rw [p2] at W2 HOK
        clear p2
        have HN := Lib.hid (all_no hx.out HOK.out)
        go_wp2_with fail
        go_quiet (first | (go_at_call_of 42 (Value.int .i64 a0); exact quiet_left (W0 _)) | (go_at_call_of 42 (Value.int .i64 a1); exact quiet_left (W1 _)) | (go_at_call_of 42 (Value.int .i64 a2); exact quiet_left (W2 _)) | (go_at_call_of 42 (Value.int .i64 a3); exact quiet_left (W3 _)))
        go_wp2_with fail
        go_ret
        refine ⟨ret_bool (by rw [HE.out, HN.out]), ?_⟩
        exact draw2 hq.out
      | true =>
      rw [p2] at W2 HOK
      clear p2
      cases p3 : inB a3 (-1) (T - 1) with
      | false =>
        rw [p3] at W3 HOK
        clear p3
        have HN := Lib.hid (all_no hx.out HOK.out)
        go_wp2_with fail
        go_quiet (first | (go_at_call_of 42 (Value.int .i64 a0); exact quiet_left (W0 _)) | (go_at_call_of 42 (Value.int .i64 a1); exact quiet_left (W1 _)) | (go_at_call_of 42 (Value.int .i64 a2); exact quiet_left (W2 _)) | (go_at_call_of 42 (Value.int .i64 a3); exact quiet_left (W3 _)))
        go_wp2_with fail
        go_ret
        refine ⟨ret_bool (by rw [HE.out, HN.out]), ?_⟩
        exact draw2 hq.out
      | true =>
      rw [p3] at W3 HOK
      clear p3
      have HN := Lib.hid (all_take hall.out hx.out HOK.out)
      go_wp2_with fail
      go_quiet (first | (go_at_call_of 42 (Value.int .i64 a0); exact quiet_left (W0 _)) | (go_at_call_of 42 (Value.int .i64 a1); exact quiet_left (W1 _)) | (go_at_call_of 42 (Value.int .i64 a2); exact quiet_left (W2 _)) | (go_at_call_of 42 (Value.int .i64 a3); exact quiet_left (W3 _)))
      go_wp2_with fail
      go_roundg (gk - 1)
      case measure => omega
      case rel =>
        refine ⟨k + 1, by go_num, by omega, by omega, HN, ?_⟩
        exact draw2 hq.out
    · obtain rfl : n2 = k := by omega
      have s2 : wr.cell? ⟨g, 2, none⟩ = some (.slice A2 n2 c2) := HW.out.2.cell 2
      go_wp2_with fail
      go_ret
      refine ⟨ret_bool ?_, hq.out⟩
      rw [HE.out]
      have := hall.out
      rw [take_all N2.out] at this
      exact this.symm
end Go.Proofs.Ytchacfienafhlaa
