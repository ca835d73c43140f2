/- ValidChange of the program. -/
import Derived.Test.YtcmnhnapnnpbdaaVcP
namespace Go.Proofs.Ytcmnhnapnnpbdaa
open Go.RowKit
set_option linter.unusedVariables false
set_option maxHeartbeats 4000000 in
theorem iValid_any (v : Value) (L F G R : List Int) (l : Int) (w : World) (h : Cg w w.heap.size v L F G R) (hL : L.length ≤ 4294967296) (hF : F.length ≤ 4294967296) (hG : G.length ≤ 4294967296) (hR : R.length ≤ 4294967296) :
    Calls Try.prog 20 #[v, .int .i64 l] w fun e w' => e = .returned (.bool (vcB L F G R l)) ∧ Below w.heap.size w w' := by
  obtain ⟨A0, n0, c0, A1, n1, c1, A2, n2, c2, A3, n3, c3, rfl, h0, h1, h2, h3⟩ := h
  have e1 := h1.len
  have HK : ∀ k : Nat, k < 4 → ∃ A n c X, ([.slice A0 n0 c0, .slice A1 n1 c1, .slice A2 n2 c2, .slice A3 n3 c3] : List Value)[k]? = some (.slice A n c) ∧ [L, F, G, R][k]? = some X ∧ SlI w w.heap.size A n X ∧ n ≤ 4294967296 := by
    intro k hk
    match k, hk with
    | 0, _ => exact ⟨A0, n0, c0, L, rfl, rfl, h0, by rw [← h0.len]; exact hL⟩
    | 1, _ => exact ⟨A1, n1, c1, F, rfl, rfl, h1, by rw [← h1.len]; exact hF⟩
    | 2, _ => exact ⟨A2, n2, c2, G, rfl, rfl, h2, by rw [← h2.len]; exact hG⟩
    | 3, _ => exact ⟨A3, n3, c3, R, rfl, rfl, h3, by rw [← h3.len]; exact hR⟩
  have HK := Lib.hid HK
  have E1 := Lib.hid e1
  clear h0 h1 h2 h3 e1 hL hF hG hR
  have hb2 : Below w.heap.size w ((w.alloc (.cells ([.slice A0 n0 c0, .slice A1 n1 c1, .slice A2 n2 c2, .slice A3 n3 c3] : List Value).toArray 27)).alloc (.cells ([.slice A0 n0 c0, .slice A1 n1 c1, .slice A2 n2 c2, .slice A3 n3 c3] : List Value).toArray 22)) := ((Below.refl _ _).alloc (Nat.le_refl _) _).alloc (by simp) _
  go_enter Try.func20, Try.ntmps20
  go_wp2_with fail
  obtain ⟨wb, hwb⟩ : ∃ x, x = (w.alloc (.cells ([.slice A0 n0 c0, .slice A1 n1 c1, .slice A2 n2 c2, .slice A3 n3 c3] : List Value).toArray 27)).alloc (.cells ([.slice A0 n0 c0, .slice A1 n1 c1, .slice A2 n2 c2, .slice A3 n3 c3] : List Value).toArray 22) := ⟨_, rfl⟩
  have ra := Row.new (w.alloc (.cells ([.slice A0 n0 c0, .slice A1 n1 c1, .slice A2 n2 c2, .slice A3 n3 c3] : List Value).toArray 27)) 22 [.slice A0 n0 c0, .slice A1 n1 c1, .slice A2 n2 c2, .slice A3 n3 c3]
  rw [show (w.alloc (.cells ([.slice A0 n0 c0, .slice A1 n1 c1, .slice A2 n2 c2, .slice A3 n3 c3] : List Value).toArray 27)).heap.size = w.heap.size + 1 by simp] at ra
  have rb := (Row.new w 27 [.slice A0 n0 c0, .slice A1 n1 c1, .slice A2 n2 c2, .slice A3 n3 c3]).alloc (.cells ([.slice A0 n0 c0, .slice A1 n1 c1, .slice A2 n2 c2, .slice A3 n3 c3] : List Value).toArray 22)
  rw [← hwb] at hb2 ra rb
  change Code.wp _ _ _ _ ((w.alloc (.cells ([.slice A0 n0 c0, .slice A1 n1 c1, .slice A2 n2 c2, .slice A3 n3 c3] : List Value).toArray 27)).alloc (.cells ([.slice A0 n0 c0, .slice A1 n1 c1, .slice A2 n2 c2, .slice A3 n3 c3] : List Value).toArray 22))
  rw [← hwb]
  clear hwb
  have RA := Lib.hid ra; have RB := Lib.hid rb; clear ra rb
  go_loopg [17] 4 (fun m i wr => ∃ k : Nat, i = .int .i64 k ∧ k ≤ 4 ∧ 4 ≤ m + k ∧ Hid (∀ j X, j < k → [L, F, G, R][j]? = some X → okL X l = true) ∧ wr = wb)
  case atStart => exact ⟨0, rfl, by omega, by omega, fun j X h _ => absurd h (by omega), rfl⟩
  case round =>
    obtain ⟨k, rfl, hk, hm, hall, rfl⟩ := hrel
    by_cases hlt : k < 4
    · obtain ⟨A, n, c, X, hc, hX, hsl, hn⟩ := HK.out k hlt
      have l0 : (0 : Int) ≤ (k : Int) := by omega
      have l1 : (k : Int) < 4 := by omega
      have cell := RA.out.cell k
      rw [hc] at cell
      have hL := iIsLong_any A n c X l w.heap.size _ (hsl.below hb2 (Nat.le_refl _)) hn
      have hnx := hsl.len
      have HX := Lib.hid hX
      clear hc hsl hX hn
      cases hb : longB X l with
      | false =>
        have HE := Lib.hid (vcB_no HX.out (show okL X l = false by rw [okL, hb]; rfl))
        rw [hb] at hL
        clear hb hnx
        go_wp2_with (first | (go_at_call 53; refine hL.mono ?_; rintro e w' ⟨rfl, hw⟩; subst hw; clear hL))
        go_ret
        exact ⟨ret_bool HE.out.symm, hb2⟩
      | true =>
        rw [hb] at hL
        by_cases h4 : n ≤ 4
        · have HN : Hid (∀ j Y, j < k + 1 → [L, F, G, R][j]? = some Y → okL Y l = true) := by
            intro j Y hj hY
            by_cases e : j = k
            · subst e
              rw [HX.out] at hY
              rw [← Option.some.inj hY, okL, hb, hnx, decide_eq_true h4]; rfl
            · exact hall.out j Y (by omega) hY
          clear hb hnx
          go_wp2_with (first | (go_at_call 53; refine hL.mono ?_; rintro e w' ⟨rfl, hw⟩; subst hw; clear hL))
          go_roundg (gk - 1)
          case measure => omega
          case rel => exact ⟨k + 1, by go_num, by omega, by omega, HN, rfl⟩
        · have HE := Lib.hid (vcB_no HX.out (show okL X l = false by rw [okL, hnx, decide_eq_false h4, Bool.and_false]))
          have h4' : 4 < n := by omega
          clear hb hnx h4
          go_wp2_with (first | (go_at_call 53; refine hL.mono ?_; rintro e w' ⟨rfl, hw⟩; subst hw; clear hL))
          go_ret
          exact ⟨ret_bool HE.out.symm, hb2⟩
    · obtain rfl : k = 4 := by omega
      have HE := Lib.hid (vcB_all hall.out)
      have cell := RB.out.cell 1
      rw [E1.out] at HE
      clear hm hlt
      go_wp2_with fail
      go_ret
      exact ⟨ret_bool (by rw [HE.out]; exact decide_eq_decide.2 (by omega)), hb2⟩
end Go.Proofs.Ytcmnhnapnnpbdaa
