/- ValidChange of the reference. -/
import Derived.Test.YtcmnhnapnnpbdaaVcP
namespace Go.Proofs.Ytcmnhnapnnpbdaa
open Go.RowKit
set_option linter.unusedVariables false
set_option maxHeartbeats 4000000 in
theorem sIs_any (g : Nat) (L F G R : List Int) (l : Int) (w : World) (h : CgP w g L F G R) (hL : L.length ≤ 4294967296) (hF : F.length ≤ 4294967296) (hG : G.length ≤ 4294967296) (hR : R.length ≤ 4294967296) :
    Calls Try.prog 52 #[.pointer (some ⟨g, 0, none⟩), .int .i64 l] w fun e w' => e = .returned (.bool (vcB L F G R l)) ∧ w = w' := by
  obtain ⟨A0, n0, c0, A1, n1, c1, A2, n2, c2, A3, n3, c3, hr, h0, h1, h2, h3⟩ := h
  have hdef : vcB L F G R l = (decide (L.length ≤ 4) && (decide (1 ≤ F.length) && (decide (F.length ≤ 4) && (decide (G.length ≤ 4) && (decide (R.length ≤ 4) && (longB L l && (longB F l && (longB G l && longB R l)))))))) := rfl
  have e0 := h0.len; have e1 := h1.len; have e2 := h2.len; have e3 := h3.len
  rw [e0, e1, e2, e3] at hdef
  rw [e0] at hL; rw [e1] at hF; rw [e2] at hG; rw [e3] at hR
  have C0 := sLong_any A0 n0 c0 L l w.heap.size w h0 hL
  have C1 := sLong_any A1 n1 c1 F l w.heap.size w h1 hF
  have C2 := sLong_any A2 n2 c2 G l w.heap.size w h2 hG
  have C3 := sLong_any A3 n3 c3 R l w.heap.size w h3 hR
  obtain ⟨b0, hb0⟩ : ∃ b, b = longB L l := ⟨_, rfl⟩
  obtain ⟨b1, hb1⟩ : ∃ b, b = longB F l := ⟨_, rfl⟩
  obtain ⟨b2, hb2⟩ : ∃ b, b = longB G l := ⟨_, rfl⟩
  obtain ⟨b3, hb3⟩ : ∃ b, b = longB R l := ⟨_, rfl⟩
  rw [← hb0] at C0 hdef
  rw [← hb1] at C1 hdef
  rw [← hb2] at C2 hdef
  rw [← hb3] at C3 hdef
  have k0 := hr.cell 0
  have k1 := hr.cell 1
  have k2 := hr.cell 2
  have k3 := hr.cell 3
  have HD := Lib.hid hdef
  clear hdef hb0 hb1 hb2 hb3 e0 e1 e2 e3 h0 h1 h2 h3 hr hL hF hG hR
  by_cases g0 : n0 ≤ 4
  · by_cases g1 : 1 ≤ n1
    · by_cases g2 : n1 ≤ 4
      · by_cases g3 : n2 ≤ 4
        · by_cases g4 : n3 ≤ 4
          · have HE := HD.out
            rw [decide_eq_true g0, decide_eq_true g1, decide_eq_true g2, decide_eq_true g3, decide_eq_true g4, Bool.true_and, Bool.true_and, Bool.true_and, Bool.true_and, Bool.true_and] at HE
            have HE := Lib.hid HE
            go_enter Try.func52, Try.ntmps52
            go_wp2_with fail
            refine C0.mono ?_; rintro e w' ⟨rfl, hw⟩; subst hw; clear C0
            cases b0 with
            | false =>
              go_wp2_with fail
              go_ret
              exact ⟨ret_bool (by rw [HE.out]; rfl), rfl⟩
            | true =>
              go_wp2_with fail
              refine C1.mono ?_; rintro e w' ⟨rfl, hw⟩; subst hw; clear C1
              cases b1 with
              | false =>
                go_wp2_with fail
                go_ret
                exact ⟨ret_bool (by rw [HE.out]; rfl), rfl⟩
              | true =>
                go_wp2_with fail
                refine C2.mono ?_; rintro e w' ⟨rfl, hw⟩; subst hw; clear C2
                cases b2 with
                | false =>
                  go_wp2_with fail
                  go_ret
                  exact ⟨ret_bool (by rw [HE.out]; rfl), rfl⟩
                | true =>
                  go_wp2_with fail
                  refine C3.mono ?_; rintro e w' ⟨rfl, hw⟩; subst hw; clear C3
                  go_wp2_with fail
                  go_ret
                  exact ⟨ret_bool (by rw [HE.out]; rfl), rfl⟩
          · have HE : Hid (vcB L F G R l = false) := by show _ = _; rw [HD.out, decide_eq_false g4]; simp
            have g4' : 4 < n3 := by omega
            clear g4
            go_enter Try.func52, Try.ntmps52
            go_wp2_with fail
            go_ret
            exact ⟨ret_bool HE.out.symm, rfl⟩
        · have HE : Hid (vcB L F G R l = false) := by show _ = _; rw [HD.out, decide_eq_false g3]; simp
          have g3' : 4 < n2 := by omega
          clear g3
          go_enter Try.func52, Try.ntmps52
          go_wp2_with fail
          go_ret
          exact ⟨ret_bool HE.out.symm, rfl⟩
      · have HE : Hid (vcB L F G R l = false) := by show _ = _; rw [HD.out, decide_eq_false g2]; simp
        have g2' : 4 < n1 := by omega
        clear g2
        go_enter Try.func52, Try.ntmps52
        go_wp2_with fail
        go_ret
        exact ⟨ret_bool HE.out.symm, rfl⟩
    · have HE : Hid (vcB L F G R l = false) := by show _ = _; rw [HD.out, decide_eq_false g1]; simp
      obtain rfl : n1 = 0 := by omega
      go_enter Try.func52, Try.ntmps52
      go_wp2_with fail
      go_ret
      exact ⟨ret_bool HE.out.symm, rfl⟩
  · have HE : Hid (vcB L F G R l = false) := by show _ = _; rw [HD.out, decide_eq_false g0]; simp
    have g0' : 4 < n0 := by omega
    clear g0
    go_enter Try.func52, Try.ntmps52
    go_wp2_with fail
    go_ret
    exact ⟨ret_bool HE.out.symm, rfl⟩
theorem sValid_any (v : Value) (L F G R : List Int) (l : Int) (w : World) (h : Cg w w.heap.size v L F G R) (hL : L.length ≤ 4294967296) (hF : F.length ≤ 4294967296) (hG : G.length ≤ 4294967296) (hR : R.length ≤ 4294967296) :
    Calls Try.prog 19 #[v, .int .i64 l] w fun e w' => e = .returned (.bool (vcB L F G R l)) ∧ Below w.heap.size w w' := by
  have hP := h.boxed
  obtain ⟨A0, n0, c0, A1, n1, c1, A2, n2, c2, A3, n3, c3, rfl, h0, h1, h2, h3⟩ := h
  clear h0 h1 h2 h3
  obtain ⟨vs, hv, hP⟩ := hP
  injection hv with hv
  have hC := sIs_any w.heap.size L F G R l _ hP hL hF hG hR
  rw [← hv] at hC
  clear hP hv
  go_enter Try.func19, Try.ntmps19
  go_wp2_with fail
  refine hC.mono ?_; rintro e w' ⟨rfl, hw⟩; subst hw
  go_wp2_with fail
  go_ret
  exact ⟨rfl, (Below.refl _ _).alloc (Nat.le_refl _) _⟩
end Go.Proofs.Ytcmnhnapnnpbdaa
