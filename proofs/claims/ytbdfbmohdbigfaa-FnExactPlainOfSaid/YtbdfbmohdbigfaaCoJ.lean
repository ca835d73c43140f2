/- The costs of a word, in the program: first costs, steps, sums. -/
import Derived.Test.YtbdfbmohdbigfaaCoI

namespace Go.Proofs.Ytbdfbmohdbigfaa
open Go.RowKit
set_option linter.unusedVariables false
theorem rowI_of {w : World} {base g : Nat} {t : TypeId} {xs : List Int} (h : Row w g t (iv xs)) (hb : base ≤ g) (hm : xs.length ≤ maxLen) : RowI w base t (.slice (some ⟨g, 0, none⟩) xs.length xs.length) xs := by
  refine ⟨by rw [iv_length, Nat.mul_one], .inr ⟨g, xs.length, (iv xs).toArray, rfl, hb, h, Nat.le_refl _, hm, by simp [iv], ?_⟩⟩
  rw [List.toList_toArray]
  exact List.take_of_length_le (by rw [iv_length]; omega)
theorem RowI.n {w : World} {base g c n : Nat} {t : TypeId} {r : List Int} (h : RowI w base t (.slice (some ⟨g, 0, none⟩) n c) r) : r.length = n := by
  obtain ⟨vs, _, _, _, _, h, _⟩ := h.open; exact h
set_option maxRecDepth 100000 in
set_option maxHeartbeats 4000000 in
theorem iFarther_any (A : Option Addr) (n c : Nat) (P : List Int) (w : World) (h : SlI w w.heap.size A n P) (h0 : 0 < n) (hn : n ≤ 1000000) :
    Calls Try.prog 103 #[.slice A n c] w fun e w' => ∃ g c', e = .returned (.slice (some ⟨g, 0, none⟩) n c') ∧ RowI w' w.heap.size 2 (.slice (some ⟨g, 0, none⟩) n c') (frL 1099511627776 P) ∧ Below w.heap.size w w' := by
  have hl := h.len
  obtain ⟨b, off, x0, rfl, _⟩ := h.at_ h0
  subst hl
  have hC := iCloneI_any b off P.length c P w h (by omega)
  clear h
  go_enter Try.func103, Try.ntmps103
  go_wp2_with fail
  refine hC.mono ?_
  rintro e w1 ⟨A', c', rfl, hr, hb⟩
  obtain ⟨g, cc, hv, _⟩ := hr.form h0
  injection hv with e1 _ e3
  subst e1; subst e3
  have HR0 := Lib.hid hr; have HB0 := Lib.hid hb
  clear hC hr hb
  go_wp2_with fail
  go_loopg [4, 5, 10] P.length (fun m u4 u5 i wr => ∃ k : Nat, i = .int .i64 k ∧ k ≤ P.length ∧ P.length ≤ m + k ∧ Hid (RowI wr w.heap.size 2 (.slice (some ⟨g, 0, none⟩) P.length c') (frT 1099511627776 P k)) ∧ Hid (But g w1 wr))
  case atStart => exact ⟨0, rfl, by omega, by omega, by rw [frT_zero]; exact HR0.out, But.refl _ _⟩
  case round =>
    obtain ⟨k, rfl, hk, hm, HR, HB⟩ := hrel
    obtain ⟨wo, rfl⟩ : ∃ x : World, x = wr := ⟨_, rfl⟩
    by_cases hlt : k < P.length
    · obtain ⟨x, hx⟩ : ∃ x, P[k]? = some x := ⟨P[k], List.getElem?_eq_getElem hlt⟩
      have q1 : (k : Int) < (P.length : Int) := by omega
      have k1 := HR.out.cell (frT_at hx)
      have k2 := HR.out.frozen k
      by_cases hx0 : x < 0
      · have HST := Lib.hid (frT_step (F := 1099511627776) hx)
        have HX := Lib.hid hx; clear hx
        go_wp2_with fail
        go_roundg (gk - 1)
        case measure => omega
        case rel =>
          refine ⟨k + 1, by go_num, by omega, by omega, ?_, HB.out.trans (But.set _ _ _)⟩
          show RowI _ _ _ _ _
          rw [HST.out, if_pos hx0]; exact HR.out.set k _
      · have HST := Lib.hid (frT_keep (F := 1099511627776) hx hx0)
        have HX := Lib.hid hx; clear hx
        have q2 : (0 : Int) ≤ x := by omega
        clear hx0
        go_wp2_with fail
        go_roundg (gk - 1)
        case measure => omega
        case rel =>
          refine ⟨k + 1, by go_num, by omega, by omega, ?_, HB.out⟩
          show RowI _ _ _ _ _
          rw [HST.out]; exact HR.out
    · have hkk : k = P.length := by omega
      have HK := Lib.hid hkk
      have q1 : (P.length : Int) ≤ (k : Int) := by omega
      clear hkk
      go_wp2_with fail
      go_ret
      exact ⟨g, c', rfl, by have := HR.out; rw [HK.out, frT_all] at this; exact this, HB0.out.trans (HB.out.below HR0.out.lt.1 HB0.out.size)⟩
theorem lsm_zero (F : Int) (a b : List Int) : lsm F a b 0 = F := rfl
theorem lsm_succ (F : Int) (a b : List Int) (k : Nat) : lsm F a b (k + 1) = Min.min (lsm F a b k) (g0 a k + g0 b k) := rfl
theorem lsm_bd {F : Int} {a b : List Int} (hF : 0 ≤ F) (ha : Bd F a) (hb : Bd F b) : ∀ k, 0 ≤ lsm F a b k ∧ lsm F a b k ≤ F
  | 0 => ⟨hF, Int.le_refl _⟩
  | k + 1 => by
    rw [lsm_succ]
    have := lsm_bd hF ha hb k; have := ha.g0 hF k; have := hb.g0 hF k
    omega
/-- What leastSum returns. -/
def lsV (F : Int) (a b : List Int) : Int := tld F (lsm F a b a.length)
set_option maxRecDepth 100000 in
set_option maxHeartbeats 4000000 in
theorem iLeastSum_any (A : Option Addr) (n c : Nat) (a : List Int) (A' : Option Addr) (c' : Nat) (b : List Int) (w : World) (h : SlI w w.heap.size A n a) (h' : SlI w w.heap.size A' n b) (ha : Bd 1099511627776 a) (hb : Bd 1099511627776 b) (hn : n ≤ 1000000) :
    Calls Try.prog 102 #[.slice A n c, .slice A' n c'] w fun e w' => e = .returned (.int .i64 (lsV 1099511627776 a b)) ∧ Below w.heap.size w w' := by
  have hla := h.len
  have hlb := h'.len
  have hbd := lsm_bd (by omega) ha hb
  have H := Lib.hid h; have H' := Lib.hid h'; have HLA := Lib.hid hla; have HLB := Lib.hid hlb
  have HBD := Lib.hid hbd
  clear h h' hla hlb hbd
  go_enter Try.func102, Try.ntmps102
  go_wp2_with fail
  go_loopg [5, 6, 9] n (fun m s u6 i wr => ∃ k : Nat, i = .int .i64 k ∧ k ≤ n ∧ n ≤ m + k ∧ s = .int .i64 (lsm 1099511627776 a b k) ∧ Hid (Below w.heap.size w wr))
  case atStart => exact ⟨0, rfl, by omega, by omega, rfl, Below.refl _ _⟩
  case round =>
    obtain ⟨k, rfl, hk, hm, rfl, HB⟩ := hrel
    obtain ⟨wo, rfl⟩ : ∃ x : World, x = wr := ⟨_, rfl⟩
    have hs := HBD.out k
    by_cases hlt : k < n
    · have q1 : (k : Int) < (n : Int) := by omega
      obtain ⟨b1, off1, x, rfl, _, hx, cx⟩ := (H.out.below HB.out (Nat.le_refl _)).at_ hlt
      obtain ⟨b2, off2, y, rfl, _, hy, cy⟩ := (H'.out.below HB.out (Nat.le_refl _)).at_ hlt
      have bx := ha.get hx.out
      have by' := hb.get hy.out
      obtain ⟨bx0, bx1⟩ := bx; obtain ⟨by0, by1⟩ := by'
      obtain ⟨s, hs0⟩ : ∃ s, s = lsm 1099511627776 a b k := ⟨_, rfl⟩
      rw [← hs0] at hs ⊢
      obtain ⟨s0, s1⟩ := hs
      obtain ⟨m1, hm1⟩ : ∃ m, (if x + y < s then x + y else s) = m := ⟨_, rfl⟩
      have HST : Hid (lsm 1099511627776 a b (k + 1) = m1) := by
        show _ = _
        rw [lsm_succ, ← hs0, g0_get hx.out, g0_get hy.out, ← hm1]
        split <;> omega
      have e1 : IntKind.i64.wrap (x + y) = x + y := IntWalk.i64_in _ (by omega)
      have HS0 := Lib.hid hs0
      clear hs0 hx hy
      go_wp2_with fail
      go_quiet (fail)
      go_wp2_with fail
      go_roundg (gk - 1)
      case measure => omega
      case rel => exact ⟨k + 1, by go_num, by omega, by omega, by rw [HST.out], below_draws HB.out _⟩
    · have hkk : k = n := by omega
      have HK := Lib.hid hkk
      have q1 : (n : Int) ≤ (k : Int) := by omega
      obtain ⟨s, hs0⟩ : ∃ s, s = lsm 1099511627776 a b k := ⟨_, rfl⟩
      rw [← hs0] at hs ⊢
      have HS0 : Hid (lsV 1099511627776 a b = tld 1099511627776 s) := by show _ = _; rw [lsV, HLA.out, hs0, HK.out]
      clear hs0 hkk hlt
      by_cases hf : 1099511627776 ≤ s
      · have HV : Hid (lsV 1099511627776 a b = -1) := by show _ = _; rw [HS0.out, tld, if_pos hf]
        go_wp2_with fail
        go_ret
        exact ⟨by rw [HV.out]; rfl, HB.out⟩
      · have HV : Hid (lsV 1099511627776 a b = s) := by show _ = _; rw [HS0.out, tld, if_neg hf]
        have hf' : s < 1099511627776 := by omega
        clear hf
        go_wp2_with fail
        go_ret
        exact ⟨by rw [HV.out]; rfl, HB.out⟩
end Go.Proofs.Ytbdfbmohdbigfaa
