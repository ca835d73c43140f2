/- Where a change fits: both programs. -/
import Derived.Test.YtcmnhnapnnpbdaaFt
import Derived.Test.YtcmnhnapnnpbdaaVcS
import Derived.Test.YtcmnhnapnnpbdaaVcI
import Derived.Deep.QuietTactic
import Derived.BigQuiet
import Derived.Deep.RegionWith
namespace Go.Proofs.Ytcmnhnapnnpbdaa
open Go.RowKit
set_option linter.unusedVariables false
theorem CgP.below {w w' : World} {g : Nat} {L F G R : List Int} (h : CgP w g L F G R) (hb : Below w.heap.size w w') : CgP w' g L F G R := by
  obtain ⟨A0, n0, c0, A1, n1, c1, A2, n2, c2, A3, n3, c3, hr, h0, h1, h2, h3⟩ := h
  exact ⟨A0, n0, c0, A1, n1, c1, A2, n2, c2, A3, n3, c3, hr.below hb hr.lt, (h0.below hb (Nat.le_refl _)).more hb.size, (h1.below hb (Nat.le_refl _)).more hb.size, (h2.below hb (Nat.le_refl _)).more hb.size, (h3.below hb (Nat.le_refl _)).more hb.size⟩
theorem fit_comm (L F R ws : List Int) (p : Int) : fitB L F R ws p = (thB ws F p && (thB ws L (p - (L.length : Int)) && thB ws R (p + (F.length : Int)))) := by
  unfold fitB
  cases thB ws L (p - (L.length : Int)) <;> cases thB ws F p <;> rfl
theorem quiet_left' {P : Program} {f : FuncId} {args : Array Value} {w : World} {n : Nat} {v : Value}
    (h : Calls P f args (w.drewN n) fun e w' => e = .returned v ∧ ∃ q, w' = (w.drewN n).drewN q) : Calls P f args (w.drewN n) fun e w'' => e = .returned v ∧ ∃ m, w'' = w.drewN m := Calls.quiet_of h
set_option maxHeartbeats 2000000 in
theorem sFits_any (g b off n c : Nat) (L F G R ws : List Int) (p : Nat) (w : World) (h : CgP w g L F G R) (hw : SlI w w.heap.size (some ⟨b, off, none⟩) n ws) (hL : L.length ≤ 4) (hF : F.length ≤ 4) (hR : R.length ≤ 4) (hn : n ≤ 24) (hnc : n ≤ c) (hp : p ≤ 24) :
    Calls Try.prog 92 #[.pointer (some ⟨g, 0, none⟩), .slice (some ⟨b, off, none⟩) n c, .int .i64 p] w fun e w' => e = .returned (.bool (fitB L F R ws (p : Int))) ∧ Below w.heap.size w w' := by
  obtain ⟨A0, n0, c0, A1, n1, c1, A2, n2, c2, A3, n3, c3, hr, h0, h1, h2, h3⟩ := h
  have e0 := h0.len; have e1 := h1.len; have e3 := h3.len
  have hdef := fit_comm L F R ws (p : Int)
  rw [e0, e1] at hdef
  rw [e0] at hL; rw [e1] at hF; rw [e3] at hR
  have C1 := fun q => sThere_any b off n c A1 n1 c1 ws F (p : Int) w.heap.size w.heap.size (w.drewN q) (SlV.drewN hw q) (SlV.drewN h1 q) (by omega) (by omega) hnc (by omega) (by omega)
  have C0 := fun q => sThere_any b off n c A0 n0 c0 ws L ((p : Int) - (n0 : Int)) w.heap.size w.heap.size (w.drewN q) (SlV.drewN hw q) (SlV.drewN h0 q) (by omega) (by omega) hnc (by omega) (by omega)
  have C3 := fun q => sThere_any b off n c A3 n3 c3 ws R ((p : Int) + (n1 : Int)) w.heap.size w.heap.size (w.drewN q) (SlV.drewN hw q) (SlV.drewN h3 q) (by omega) (by omega) hnc (by omega) (by omega)
  obtain ⟨x1, hx1⟩ : ∃ x, x = thB ws F (p : Int) := ⟨_, rfl⟩
  obtain ⟨x0, hx0⟩ : ∃ x, x = thB ws L ((p : Int) - (n0 : Int)) := ⟨_, rfl⟩
  obtain ⟨x3, hx3⟩ : ∃ x, x = thB ws R ((p : Int) + (n1 : Int)) := ⟨_, rfl⟩
  rw [← hx1] at C1 hdef
  rw [← hx0] at C0 hdef
  rw [← hx3] at C3 hdef
  have HD := Lib.hid hdef
  have k0 := hr.cell 0
  have k1 := hr.cell 1
  have k3 := hr.cell 3
  have v1 : IntKind.i64.wrap ((p : Int) - (n0 : Int)) = (p : Int) - (n0 : Int) := IntWalk.i64_in _ (by omega)
  have v2 : IntKind.i64.wrap ((p : Int) + (n1 : Int)) = (p : Int) + (n1 : Int) := IntWalk.i64_in _ (by omega)
  clear hdef hx0 hx1 hx3 e0 e1 e3 h0 h1 h2 h3 hw hr hL hF hR hn hp
  cases x1 with
  | false =>
    go_enter Try.func92, Try.ntmps92
    go_wp2_with fail
    go_quiet ((first | (go_at_call_of 100 (Value.slice A1 n1 c1); exact Calls.quiet_of (C1 _))))
    go_wp2_with fail
    go_ret
    exact ⟨ret_bool (by rw [HD.out]; rfl), below_draws (Below.refl _ _) _⟩
  | true =>
    cases x0 with
    | false =>
      go_enter Try.func92, Try.ntmps92
      go_wp2_with fail
      go_quiet ((first | (go_at_call_of 100 (Value.slice A1 n1 c1); exact Calls.quiet_of (C1 _)) | (go_at_call_of 100 (Value.slice A0 n0 c0); exact Calls.quiet_of (C0 _))))
      go_wp2_with fail
      go_ret
      exact ⟨ret_bool (by rw [HD.out]; rfl), below_draws (Below.refl _ _) _⟩
    | true =>
      go_enter Try.func92, Try.ntmps92
      go_wp2_with fail
      go_quiet ((first | (go_at_call_of 100 (Value.slice A1 n1 c1); exact Calls.quiet_of (C1 _)) | (go_at_call_of 100 (Value.slice A0 n0 c0); exact Calls.quiet_of (C0 _)) | (go_at_call_of 100 (Value.slice A3 n3 c3); exact Calls.quiet_of (C3 _))))
      go_wp2_with fail
      go_ret
      exact ⟨ret_bool (by rw [HD.out]; rfl), below_draws (Below.refl _ _) _⟩
set_option maxHeartbeats 2000000 in
theorem iFits_any (v : Value) (b off n c : Nat) (L F G R ws : List Int) (p : Nat) (w : World) (h : Cg w w.heap.size v L F G R) (hw : SlI w w.heap.size (some ⟨b, off, none⟩) n ws) (hL : L.length ≤ 4) (hF : F.length ≤ 4) (hR : R.length ≤ 4) (hn : n ≤ 24) (hnc : n ≤ c) (hp : p ≤ 24) :
    Calls Try.prog 87 #[v, .slice (some ⟨b, off, none⟩) n c, .int .i64 p] w fun e w' => e = .returned (.bool (fitB L F R ws (p : Int))) ∧ Below w.heap.size w w' := by
  obtain ⟨A0, n0, c0, A1, n1, c1, A2, n2, c2, A3, n3, c3, rfl, h0, h1, h2, h3⟩ := h
  have e0 := h0.len; have e1 := h1.len; have e3 := h3.len
  have hdef : fitB L F R ws (p : Int) = (thB ws L ((p : Int) - (L.length : Int)) && (thB ws F (p : Int) && thB ws R ((p : Int) + (F.length : Int)))) := rfl
  rw [e0, e1] at hdef
  rw [e0] at hL; rw [e1] at hF; rw [e3] at hR
  have hb0 : Below w.heap.size w (w.alloc (.cells ([.slice A0 n0 c0, .slice A1 n1 c1, .slice A2 n2 c2, .slice A3 n3 c3] : List Value).toArray 27)) := (Below.refl _ _).alloc (Nat.le_refl _) _
  have rb := Row.new w 27 [.slice A0 n0 c0, .slice A1 n1 c1, .slice A2 n2 c2, .slice A3 n3 c3]
  have C1 := fun (x : World) (hx : Below w.heap.size w x) => iHasAt_any b off n c A1 n1 c1 ws F (p : Int) w.heap.size w.heap.size x (hw.below hx (Nat.le_refl _)) (h1.below hx (Nat.le_refl _)) (by omega) (by omega) hnc (by omega) (by omega)
  have C0 := fun (x : World) (hx : Below w.heap.size w x) => iHasAt_any b off n c A0 n0 c0 ws L ((p : Int) - (n0 : Int)) w.heap.size w.heap.size x (hw.below hx (Nat.le_refl _)) (h0.below hx (Nat.le_refl _)) (by omega) (by omega) hnc (by omega) (by omega)
  have C3 := fun (x : World) (hx : Below w.heap.size w x) => iHasAt_any b off n c A3 n3 c3 ws R ((p : Int) + (n1 : Int)) w.heap.size w.heap.size x (hw.below hx (Nat.le_refl _)) (h3.below hx (Nat.le_refl _)) (by omega) (by omega) hnc (by omega) (by omega)
  obtain ⟨x1, hx1⟩ : ∃ x, x = thB ws F (p : Int) := ⟨_, rfl⟩
  obtain ⟨x0, hx0⟩ : ∃ x, x = thB ws L ((p : Int) - (n0 : Int)) := ⟨_, rfl⟩
  obtain ⟨x3, hx3⟩ : ∃ x, x = thB ws R ((p : Int) + (n1 : Int)) := ⟨_, rfl⟩
  rw [← hx1] at C1 hdef
  rw [← hx0] at C0 hdef
  rw [← hx3] at C3 hdef
  have HD := Lib.hid hdef
  have v1 : IntKind.i64.wrap ((p : Int) - (n0 : Int)) = (p : Int) - (n0 : Int) := IntWalk.i64_in _ (by omega)
  have v2 : IntKind.i64.wrap ((p : Int) + (n1 : Int)) = (p : Int) + (n1 : Int) := IntWalk.i64_in _ (by omega)
  clear hdef hx0 hx1 hx3 e0 e1 e3 h0 h1 h2 h3 hw hL hF hR hn hp
  have RB := Lib.hid rb; clear rb
  have HB := Lib.hid hb0; clear hb0
  go_enter Try.func87, Try.ntmps87
  go_wp2_with fail
  refine (C0 _ HB.out).mono ?_; rintro e w1 ⟨rfl, q1, rfl⟩; clear C0
  cases x0 with
  | false =>
    go_wp2_with fail
    go_ret
    exact ⟨ret_bool (by rw [HD.out]; rfl), below_draws HB.out _⟩
  | true =>
    go_wp2_with fail
    refine (C1 _ (below_draws HB.out _)).mono ?_; rintro e w1 ⟨rfl, q2, rfl⟩; clear C1
    cases x1 with
    | false =>
      go_wp2_with fail
      go_ret
      exact ⟨ret_bool (by rw [HD.out]; rfl), below_draws HB.out _⟩
    | true =>
      go_wp2_with fail
      refine (C3 _ (below_draws HB.out _)).mono ?_; rintro e w1 ⟨rfl, q3, rfl⟩; clear C3
      go_wp2_with fail
      go_ret
      exact ⟨ret_bool (by rw [HD.out]; rfl), below_draws HB.out _⟩
end Go.Proofs.Ytcmnhnapnnpbdaa
