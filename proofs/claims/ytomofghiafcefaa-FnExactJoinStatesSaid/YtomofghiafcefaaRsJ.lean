/- RestOfModel of the program, whole. -/
import Derived.Test.YtomofghiafcefaaRsI

namespace Go.Proofs.Ytomofghiafcefaa
open Go.RowKit
set_option linter.unusedVariables false
/-- What RestOfModel tells, plainly. -/
def rsR (S T : Int) (P Q R : List F32) (near : F32) (most : Int) : Option (List F32 × Nat) :=
  if vdM S T P Q R && (leastB near.b && inB most 1 256) then rsF Q S.toNat near most.toNat (evR S.toNat S.toNat) 0 else none
theorem vdM_tb {S T : Int} {P Q R : List F32} (h : vdM S T P Q R = true) : ∃ s t : Nat, S = s ∧ T = t ∧ 1 ≤ s ∧ s ≤ 5 ∧ 1 ≤ t ∧ t ≤ 4 ∧ P.length = s ∧ Q.length = s * s ∧ R.length = s * t ∧ Tb (tbF Q s) s := by
  simp only [vdM, Bool.and_eq_true] at h
  obtain ⟨h1, h2, h3, h4, h5⟩ := h
  have h1 := inB_true h1; have h2 := inB_true h2
  obtain ⟨s, rfl⟩ : ∃ s : Nat, S = (s : Int) := ⟨S.toNat, by omega⟩
  obtain ⟨t, rfl⟩ : ∃ t : Nat, T = (t : Int) := ⟨T.toNat, by omega⟩
  simp only [Int.toNat_natCast] at h3 h4 h5
  have a3 : P.length = 1 * s := of_decide_eq_true (Bool.and_eq_true_iff.1 h3).1
  have a4 : Q.length = s * s := of_decide_eq_true (Bool.and_eq_true_iff.1 h4).1
  have a5 : R.length = s * t := of_decide_eq_true (Bool.and_eq_true_iff.1 h5).1
  exact ⟨s, t, rfl, rfl, by omega, by omega, by omega, by omega, by omega, a4, a5, tb_of (by omega) (by omega) h4⟩
theorem slF_some {w : World} {B n : Nat} {A : Option Addr} {xs : List F32} (h : SlF w B A n xs) (h0 : 0 < n) : ∃ b off, A = some ⟨b, off, none⟩ := by
  obtain ⟨b, off, x, e, _⟩ := h.at_ h0
  exact ⟨b, off, e⟩
set_option maxRecDepth 100000 in
set_option maxHeartbeats 16000000 in
theorem iRest_no (S T : Int) (P Q R : List F32) (near : F32) (m : Int) (A2 : Option Addr) (n2 c2 : Nat) (A3 : Option Addr) (n3 c3 : Nat) (A4 : Option Addr) (n4 c4 : Nat) (w : World) (h2 : SlF w w.heap.size A2 n2 P) (h3 : SlF w w.heap.size A3 n3 Q) (h4 : SlF w w.heap.size A4 n4 R) (k2 : n2 ≤ c2) (k2' : c2 ≤ 9223372036854775807) (k3 : n3 ≤ c3) (k3' : c3 ≤ 9223372036854775807) (k4 : n4 ≤ c4) (k4' : c4 ≤ 9223372036854775807)
    (hno : (vdM S T P Q R && (leastB near.b && inB m 1 256)) = false) :
    Calls Try.prog 8 #[.agg #[.int .i64 S, .int .i64 T, .slice A2 n2 c2, .slice A3 n3 c3, .slice A4 n4 c4], .float .f32 near.b, .int .i64 m] w (RsPost none w) := by
  have rb := Row.new w 29 [.int .i64 S, .int .i64 T, .slice A2 n2 c2, .slice A3 n3 c3, .slice A4 n4 c4]
  have bx : Below w.heap.size w (w.alloc (.cells ([.int .i64 S, .int .i64 T, .slice A2 n2 c2, .slice A3 n3 c3, .slice A4 n4 c4] : List Value).toArray 29)) := (Below.refl _ _).alloc (Nat.le_refl _) _
  have V := Lib.hid (iValidModel_any _ S T P Q R (w.alloc (.cells ([.int .i64 S, .int .i64 T, .slice A2 n2 c2, .slice A3 n3 c3, .slice A4 n4 c4] : List Value).toArray 29)) ⟨_, _, _, _, _, _, _, _, _, rfl, (h2.below bx (Nat.le_refl _)).more bx.size, (h3.below bx (Nat.le_refl _)).more bx.size, (h4.below bx (Nat.le_refl _)).more bx.size⟩ ⟨_, _, _, _, _, _, _, _, _, _, _, rfl, k2, k2', k3, k3', k4, k4'⟩)
  have W1 := Lib.hid (iIn_any m 1 256)
  have RB := Lib.hid rb; have BX := Lib.hid bx
  clear h2 h3 h4 k2 k2' k3 k3' k4 k4' rb bx
  obtain ⟨vb, hvb⟩ : ∃ b, b = vdM S T P Q R := ⟨_, rfl⟩
  obtain ⟨ib, hib⟩ : ∃ b, b = inB m 1 256 := ⟨_, rfl⟩
  rw [← hvb] at V hno
  rw [← hib] at hno
  have W1 : Hid (∀ w, Calls Try.prog 25 #[.int .i64 m, .int .i64 1, .int .i64 256] w fun e w' => e = .returned (.bool ib) ∧ w = w') := by
    show ∀ w, _
    intro w; rw [hib]; exact W1.out w
  clear hvb hib
  obtain ⟨g, hg⟩ : ∃ g, ((FloatKind.format .f32).order near.b 0 == some .gt || (FloatKind.format .f32).order near.b 0 == some .eq) = g := ⟨_, rfl⟩
  have hlb : leastB near.b = (numB near.b && g) := by rw [leastB, ← hg]; rfl
  rw [hlb] at hno
  clear hlb
  have fin : ∀ w', Below w.heap.size w w' → RsPost none w (.returned (.tuple #[.slice none 0 0, .int .i64 0, .bool false])) w' := fun w' hb => ⟨_, rfl, RowFl.nil _ _, hb⟩
  have FIN := Lib.hid fin
  clear fin
  cases vb with
  | false =>
    clear hno hg
    go_enter Try.func8, Try.ntmps8
    go_wp2_with (first | (go_at_call 23; refine V.out.mono ?_; rintro e w1 ⟨rfl, hb1⟩; have BX1 := Lib.hid (BX.out.trans (hb1.mono BX.out.size)); clear V hb1))
    refine bodyPost_ret (v := .tuple #[.slice none 0 0, .int .i64 0, .bool false]) (by simp [results, Try.results8, go_sem]) rfl ?_
    exact FIN.out _ BX1.out
  | true =>
    cases hf : numB near.b with
    | false =>
      have F := Lib.hid (fun w => iFin_no (x := near.b) w hf)
      clear hno hg hf
      go_enter Try.func8, Try.ntmps8
      go_wp2_with (first | (go_at_call 23; refine V.out.mono ?_; rintro e w1 ⟨rfl, hb1⟩; have BX1 := Lib.hid (BX.out.trans (hb1.mono BX.out.size)); clear V hb1) | (go_at_call 24; refine (F.out _).mono ?_; rintro e w2 ⟨rfl, hw⟩; have BX2 := Lib.hid (show Below w.heap.size w w2 by rw [hw]; exact BX1.out.drew); clear F hw))
      refine bodyPost_ret (v := .tuple #[.slice none 0 0, .int .i64 0, .bool false]) (by simp [results, Try.results8, go_sem]) rfl ?_
      exact FIN.out _ BX2.out
    | true =>
      have F := Lib.hid (fun w => iFin_yes (x := near.b) w hf)
      rw [hf] at hno
      clear hf
      cases g with
      | false =>
        clear hno
        go_enter Try.func8, Try.ntmps8
        go_wp2_with (first | (go_at_call 23; refine V.out.mono ?_; rintro e w1 ⟨rfl, hb1⟩; have BX1 := Lib.hid (BX.out.trans (hb1.mono BX.out.size)); clear V hb1) | (go_at_call 24; refine (F.out _).mono ?_; rintro e w2 ⟨rfl, hw⟩; obtain rfl := hw; clear F))
        refine bodyPost_ret (v := .tuple #[.slice none 0 0, .int .i64 0, .bool false]) (by simp [results, Try.results8, go_sem]) rfl ?_
        exact FIN.out _ BX1.out
      | true =>
        obtain rfl : ib = false := by simpa using hno
        clear hno
        go_enter Try.func8, Try.ntmps8
        go_wp2_with (first | (go_at_call 23; refine V.out.mono ?_; rintro e w1 ⟨rfl, hb1⟩; have BX1 := Lib.hid (BX.out.trans (hb1.mono BX.out.size)); clear V hb1) | (go_at_call 24; refine (F.out _).mono ?_; rintro e w2 ⟨rfl, hw⟩; obtain rfl := hw; clear F) | (go_at_call 25; refine (W1.out _).mono ?_; rintro e w2 ⟨rfl, hw⟩; obtain rfl := hw; clear W1))
        refine bodyPost_ret (v := .tuple #[.slice none 0 0, .int .i64 0, .bool false]) (by simp [results, Try.results8, go_sem]) rfl ?_
        exact FIN.out _ BX1.out
theorem iRest_any (v : Value) (S T : Int) (P Q R : List F32) (near : F32) (m : Int) (w : World) (h : Md w w.heap.size v S T P Q R) (hcap : capOk v) :
    Calls Try.prog 8 #[v, .float .f32 near.b, .int .i64 m] w (RsPost (rsR S T P Q R near m) w) := by
  obtain ⟨A2, n2, c2, A3, n3, c3, A4, n4, c4, rfl, h2, h3, h4⟩ := h
  obtain ⟨S_, T_, A2_, n2_, c2_, A3_, n3_, c3_, A4_, n4_, c4_, e, k2, k2', k3, k3', k4, k4'⟩ := hcap
  simp only [Value.agg.injEq, Array.mk.injEq, List.cons.injEq, Value.slice.injEq, and_true] at e
  obtain ⟨-, -, ⟨-, e2, e3⟩, ⟨-, e4, e5⟩, ⟨-, e6, e7⟩⟩ := e
  subst e2 e3 e4 e5 e6 e7
  cases hno : vdM S T P Q R && (leastB near.b && inB m 1 256) with
  | false =>
    have e : rsR S T P Q R near m = none := by unfold rsR; rw [hno]; rfl
    rw [e]; exact iRest_no S T P Q R near m A2 n2 c2 A3 n3 c3 A4 n4 c4 w h2 h3 h4 k2 k2' k3 k3' k4 k4' hno
  | true =>
    have e : rsR S T P Q R near m = rsF Q S.toNat near m.toNat (evR S.toNat S.toNat) 0 := by unfold rsR; rw [hno]; rfl
    rw [e]
    have hb := Bool.and_eq_true_iff.1 hno
    have hc := Bool.and_eq_true_iff.1 hb.2
    obtain ⟨s, t, rfl, rfl, q1, q2, q3, q4, q5, q6, q7, q8⟩ := vdM_tb hb.1
    have hm := inB_true hc.2
    obtain ⟨mn, rfl⟩ : ∃ x : Nat, m = (x : Int) := ⟨m.toNat, by omega⟩
    have hn3 : n3 = s * s := by rw [← h3.len]; exact q6
    obtain ⟨b3, o3, rfl⟩ := slF_some h3 (by rw [hn3]; exact Nat.mul_pos q1 q1)
    simp only [Int.toNat_natCast]
    exact iRest_yes s t P Q R near mn A2 n2 c2 b3 o3 n3 c3 A4 n4 c4 w h2 h3 h4 k2 k2' k3 k3' k4 k4' hb.1 q1 q2 hn3 q8 hc.1 (by omega) (by omega)
end Go.Proofs.Ytomofghiafcefaa
