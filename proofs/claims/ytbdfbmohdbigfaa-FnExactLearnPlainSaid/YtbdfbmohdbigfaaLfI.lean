/- LeastFit of the program: to, stateOf, nextTable. -/
import Derived.Test.YtbdfbmohdbigfaaMga
import Derived.Test.YtbdfbmohdbigfaaPlainSt
import Derived.Test.YtbdfbmohdbigfaaMgd
import Derived.Test.YtbdfbmohdbigfaaMge
import Derived.Test.YtbdfbmohdbigfaaMgc
import Derived.Deep.LoopGhost
import Derived.Deep.RegionHeld3
import Derived.Deep.CutRange

namespace Go.Proofs.Ytbdfbmohdbigfaa
open Go.RowKit
set_option linter.unusedVariables false
theorem But.allocL {g : Nat} {w w' : World} (h : But g w w') (o : Obj) : But g w (w'.alloc o) := h.trans (But.of_below ((Below.refl w'.heap.size w').alloc (Nat.le_refl _) o) (Nat.le_refl _))
/-- The cells of a plain machine's box. -/
abbrev BxP (S T : Int) (A2 : Option Addr) (n2 c2 : Nat) (A3 : Option Addr) (n3 c3 : Nat) : List Value := [.int .i64 S, .int .i64 T, .slice A2 n2 c2, .slice A3 n3 c3]
abbrev agP (S T : Int) (A2 : Option Addr) (n2 c2 : Nat) (A3 : Option Addr) (n3 c3 : Nat) : Value := .agg #[.int .i64 S, .int .i64 T, .slice A2 n2 c2, .slice A3 n3 c3]
set_option maxHeartbeats 1000000 in
theorem iTo_any (S T : Int) (A2 : Option Addr) (n2 c2 : Nat) (A3 : Option Addr) (n3 c3 : Nat) (t : List Int) (s x : Int) (i : Nat) (w : World) (h : SlI w w.heap.size A2 n2 t) (hi : s * T + x = (i : Int)) (hn : i < n2) (hn2 : n2 ≤ 1000) (hs : 0 ≤ s ∧ s ≤ 1000) (hT : 0 ≤ T ∧ T ≤ 1000) (hx : 0 ≤ x ∧ x ≤ 1000) :
    Calls Try.prog 51 #[.agg #[.int .i64 S, .int .i64 T, .slice A2 n2 c2, .slice A3 n3 c3], .int .i64 s, .int .i64 x] w fun e w' => e = .returned (.int .i64 (t.getD (s * T + x).toNat 0)) ∧ Below w.heap.size w w' := by
  have rb := Row.new w 33 (BxP S T A2 n2 c2 A3 n3 c3)
  have bx : Below w.heap.size w (w.alloc (.cells (BxP S T A2 n2 c2 A3 n3 c3).toArray 33)) := (Below.refl _ _).alloc (Nat.le_refl _) _
  obtain ⟨b, off, v, rfl, hb, hv, hc⟩ := (h.below bx (Nat.le_refl _)).at_ hn
  have r1 := rb.cell 1; have r2 := rb.cell 2
  have hm : 0 ≤ s * T ∧ s * T ≤ 1000000 := ⟨Int.mul_nonneg hs.1 hT.1, by
    have := Int.mul_le_mul hs.2 hT.2 hT.1 (by omega : (0 : Int) ≤ 1000)
    omega⟩
  have HV : Hid (t.getD (s * T + x).toNat 0 = v) := by show _ = _; rw [hi, Int.toNat_natCast, List.getD_eq_getElem?_getD, hv.out]; rfl
  obtain ⟨p, hp⟩ : ∃ p, p = s * T := ⟨_, rfl⟩
  rw [← hp] at hi hm
  have w1 : IntKind.i64.wrap (s * T) = p := by rw [← hp]; exact IntWalk.i64_in _ (by omega)
  have w2 : IntKind.i64.wrap (p + x) = (i : Int) := by rw [hi]; exact IntWalk.i64_in _ (by omega)
  have l1 : (0 : Int) ≤ (i : Int) := by omega
  have l2 : (i : Int) < (n2 : Int) := by omega
  have HB := Lib.hid bx
  clear hp hi h rb bx hv
  go_enter Try.func51, Try.ntmps51
  go_wp2
  go_ret
  exact ⟨ret_int HV.out.symm, HB.out⟩
theorem word_at {xs : List Int} {T : Int} {k : Nat} {x : Int} (h : allIn xs 0 (T - 1) = true) (hx : xs[k]? = some x) : 0 ≤ x ∧ x < T := by
  unfold allIn at h
  rw [List.all_eq_true] at h
  have := inB_true (h x (List.mem_of_getElem? hx))
  omega
set_option maxHeartbeats 2000000 in
theorem iState_any (S : Nat) (T : Int) (A2 : Option Addr) (n2 c2 : Nat) (A3 : Option Addr) (n3 c3 : Nat) (t : List Int) (A : Option Addr) (n c : Nat) (xs : List Int) (w : World) (h : SlI w w.heap.size A2 n2 t) (hx : SlI w w.heap.size A n xs) (hS : 0 < S ∧ S ≤ 3) (hT : 1 ≤ T ∧ T ≤ 2) (hn2 : (n2 : Int) = (S : Int) * T) (ht : ∀ x ∈ t, 0 ≤ x ∧ x < (S : Int)) (hw : allIn xs 0 (T - 1) = true) (hn : n ≤ 1000) :
    Calls Try.prog 117 #[.agg #[.int .i64 (S : Int), .int .i64 T, .slice A2 n2 c2, .slice A3 n3 c3], .slice A n c] w fun e w' => e = .returned (.int .i64 (rnW t T xs)) ∧ Below w.heap.size w w' := by
  have rb := Row.new w 33 (BxP (S : Int) T A2 n2 c2 A3 n3 c3)
  have bx : Below w.heap.size w (w.alloc (.cells (BxP (S : Int) T A2 n2 c2 A3 n3 c3).toArray 33)) := (Below.refl _ _).alloc (Nat.le_refl _) _
  have hl := hx.len
  have H := Lib.hid h; have HX := Lib.hid hx; have RB := Lib.hid rb; have BX := Lib.hid bx; have HW := Lib.hid hw; have HL := Lib.hid hl
  have HR := Lib.hid (fun k => rnW_bd (T := T) hS.1 ht (xs.take k))
  have HN2 := Lib.hid hn2
  clear h hx rb bx hw hl ht hn2
  go_enter Try.func117, Try.ntmps117
  go_wp2_with fail
  go_loopg [5, 10] n (fun m s i wr => ∃ k : Nat, i = .int .i64 k ∧ k ≤ n ∧ n ≤ m + k ∧ s = .int .i64 (rnW t T (xs.take k)) ∧ Hid (Row wr w.heap.size 33 (BxP (S : Int) T A2 n2 c2 A3 n3 c3)) ∧ Hid (Below w.heap.size w wr))
  case atStart => exact ⟨0, rfl, by omega, by omega, rfl, RB.out, BX.out⟩
  case round =>
    clear RB BX
    obtain ⟨k, rfl, hk, hm, rfl, RB, BX⟩ := hrel
    obtain ⟨wo, rfl⟩ : ∃ x : World, x = wr := ⟨_, rfl⟩
    by_cases hlt : k < n
    · have q1 : (k : Int) < (n : Int) := by omega
      have q0 : (0 : Int) ≤ (k : Int) := by omega
      obtain ⟨b, off, x, rfl, _, hx, kx⟩ := (HX.out.below BX.out (Nat.le_refl _)).at_ hlt
      have hxb := word_at HW.out hx.out
      have hsb := HR.out k
      have HE := Lib.hid (rnW_take (t := t) (T := T) hx.out)
      obtain ⟨s, hs⟩ : ∃ s, s = rnW t T (xs.take k) := ⟨_, rfl⟩
      rw [← hs] at hsb ⊢
      have HE2 : Hid (rnW t T (xs.take (k + 1)) = t.getD (s * T + x).toNat 0) := by show _ = _; rw [HE.out, ← hs]
      have hn2 := HN2.out
      have hsT : (s + 1) * T ≤ (S : Int) * T := Int.mul_le_mul_of_nonneg_right (by omega) (by omega)
      have hsT0 : 0 ≤ s * T := Int.mul_nonneg hsb.1 (by omega)
      have hST : (S : Int) * T ≤ 3 * 2 := Int.mul_le_mul (by omega) (by omega) (by omega) (by omega)
      rw [Int.add_mul, Int.one_mul] at hsT
      have C := iTo_any (S : Int) T A2 n2 c2 A3 n3 c3 t s x (s * T + x).toNat wo ((H.out.below BX.out (Nat.le_refl _)).more BX.out.size) (by omega) (by omega) (by omega) (by omega) (by omega) (by omega)
      have r0 := RB.out.cell 0; have r1 := RB.out.cell 1; have r2 := RB.out.cell 2; have r3 := RB.out.cell 3
      clear hn2 hsT hsT0 hST hs HE
      go_wp2_with fail
      refine C.mono ?_; rintro e w1 ⟨rfl, hb1⟩
      have RB1 := Lib.hid (RB.out.below hb1 RB.out.lt)
      have BX1 : Hid (Below w.heap.size w w1) := BX.out.trans (hb1.mono BX.out.size)
      clear C hb1 r0 r1 r2 r3 kx
      go_wp2_with fail
      go_roundg (gk - 1)
      case measure => omega
      case rel => exact ⟨k + 1, by go_num, by omega, by omega, by have h9 := HE2.out; simp only [List.getD_eq_getElem?_getD] at h9 ⊢; rw [h9], RB1.out, BX1.out⟩
    · have q1 : (n : Int) ≤ (k : Int) := by omega
      have HT : Hid (rnW t T (xs.take k) = rnW t T xs) := by show _ = _; rw [List.take_of_length_le (by have := HL.out; omega)]
      go_wp2_with fail
      go_ret
      exact ⟨ret_int HT.out, BX.out⟩
/-- The last digits are carried: what the table is, and what it becomes. -/
theorem tb_step {S n M : Nat} (h : M % S + 1 < S) : tb S (n + 1) (M + 1) = (tb S (n + 1) M).set n ((M % S : Nat) + 1 : Int) := by
  unfold tb
  rw [digs_succ h, digs, List.map_append, List.map_append, List.set_append_right _ _ (by simp [digs_len]), List.length_map, digs_len, Nat.sub_self]; rfl
theorem tb_carry {S n M : Nat} (h0 : 0 < S) (h : M % S + 1 = S) : tb S (n + 1) (M + 1) = tb S n (M / S + 1) ++ [0] := by
  unfold tb
  rw [digs_carry h0 h, List.map_append]; rfl
theorem tb_last (S n M : Nat) : tb S (n + 1) M = tb S n (M / S) ++ [((M % S : Nat) : Int)] := by
  unfold tb
  rw [digs, List.map_append]; rfl
set_option maxRecDepth 100000 in
set_option maxHeartbeats 2000000 in
theorem iNext_any (g c S n N : Nat) (w : World) (h : Row w g 2 (iv (tb S n N))) (hS : 0 < S ∧ S ≤ 3) (hn : n ≤ 6) (hN : N < S ^ n) :
    Calls Try.prog 95 #[.slice (some ⟨g, 0, none⟩) n c, .int .i64 (S : Int)] w fun e w' => e = .returned (.bool (decide (N + 1 < S ^ n))) ∧ (N + 1 < S ^ n → Row w' g 2 (iv (tb S n (N + 1)))) ∧ But g w w' := by
  have H := Lib.hid h; clear h
  have HN := Lib.hid hN; clear hN
  have W1 : IntKind.i64.wrap ((n : Int) - 1) = (n : Int) - 1 := IntWalk.i64_in _ (by omega)
  go_enter Try.func95, Try.ntmps95
  go_wp2_with fail
  go_loopg [5] n (fun m i wr => ∃ (j k M : Nat), i = .int .i64 ((j : Int) - 1) ∧ j + k = n ∧ j ≤ m ∧ Hid (Row wr g 2 (iv (tb S j M ++ List.replicate k 0))) ∧ Hid (tb S n (N + 1) = tb S j (M + 1) ++ List.replicate k 0) ∧ Hid (N + 1 = (M + 1) * S ^ k) ∧ Hid (But g w wr))
  case atStart => exact ⟨n, 0, N, rfl, by omega, by omega, by show Row _ _ _ _; simpa using H.out, by show _ = _; simp, by show _ = _; simp, But.refl _ _⟩
  case round =>
    clear W1
    obtain ⟨j, k, M, rfl, hjk, hm, HR, HT, HM, HB⟩ := hrel
    obtain ⟨wo, rfl⟩ : ∃ x : World, x = wr := ⟨_, rfl⟩
    rcases Nat.eq_zero_or_pos j with h0 | h0
    · have q1 : (j : Int) - 1 < 0 := by omega
      have HD : Hid (decide (N + 1 < S ^ n) = false) := by
        show _ = _
        apply decide_eq_false
        have h1 := HM.out
        have h2 := Nat.le_mul_of_pos_left (S ^ k) (show 0 < M + 1 by omega)
        rw [show n = k by omega]
        omega
      clear h0
      go_wp2_with fail
      go_ret
      exact ⟨ret_bool HD.out.symm, fun h => absurd HD.out (by rw [decide_eq_true h]; simp), HB.out⟩
    · obtain ⟨j, rfl⟩ : ∃ x, j = x + 1 := ⟨j - 1, by omega⟩
      have q1 : ((j + 1 : Nat) : Int) - 1 = (j : Int) := by omega
      rw [q1]
      clear q1
      have q2 : (0 : Int) ≤ (j : Int) := by omega
      have q3 : (j : Int) < (n : Int) := by omega
      have HL : Hid ((iv (tb S (j + 1) M ++ List.replicate k 0))[j]? = some (.int .i64 ((M % S : Nat) : Int))) := by
        show _ = _
        rw [tb_last, List.append_assoc, iv_append, List.getElem?_append_right (by rw [iv_length, tb_len]; exact Nat.le_refl _), iv_length, tb_len, Nat.sub_self]; rfl
      have hdl : M % S < S := Nat.mod_lt _ hS.1
      have c0 := (HR.out.cell j).trans HL.out
      have f0 := HR.out.frozen j
      obtain ⟨d, hd⟩ : ∃ d, d = M % S := ⟨_, rfl⟩
      rw [← hd] at c0 hdl
      have HR1 := Lib.hid (HR.out.set_ j (.int .i64 ((d : Int) + 1)))
      have HB1 : Hid (But g w (wo.setCell ⟨g, j, none⟩ (.int .i64 ((d : Int) + 1)))) := HB.out.trans (But.set wo j _)
      have c1 : (wo.setCell ⟨g, j, none⟩ (.int .i64 ((d : Int) + 1))).cell? ⟨g, j, none⟩ = some (.int .i64 ((d : Int) + 1)) := by
        rw [HR1.out.cell, List.getElem?_set_self (by exact (List.getElem?_eq_some_iff.1 HL.out).1)]
      have f1 := HR1.out.frozen j
      have W1 : IntKind.i64.wrap ((d : Int) + 1) = (d : Int) + 1 := IntWalk.i64_in _ (by omega)
      by_cases hlt : d + 1 < S
      · have q5 : (d : Int) + 1 < (S : Int) := by omega
        have HRW : Hid (Row (wo.setCell ⟨g, j, none⟩ (.int .i64 ((d : Int) + 1))) g 2 (iv (tb S n (N + 1)))) := by
          have := HR1.out
          rw [HT.out]
          rw [hd] at hlt
          rw [tb_step hlt, iv_append, ← hd]
          rw [iv_append, List.set_append_left _ _ (by rw [iv_length, tb_len]; omega)] at this
          have e : iv ((tb S (j + 1) M).set j ((d : Nat) + 1 : Int)) = (iv (tb S (j + 1) M)).set j (.int .i64 ((d : Int) + 1)) := by simp [iv, List.map_set]
          show Row _ _ _ _
          rw [e]
          exact this
        have HD : Hid (decide (N + 1 < S ^ n) = true) := by
          show _ = _
          apply decide_eq_true
          -- M + 1 < S ^ (j + 1)
          have h1 := HM.out
          have h2 := HN.out
          have h3 : S ^ n = S ^ (j + 1) * S ^ k := by rw [← Nat.pow_add]; congr 1; omega
          have hp : 0 < S ^ k := Nat.pow_pos hS.1
          have h4 : M + 1 ≤ S ^ (j + 1) := by
            rcases Nat.lt_or_ge (S ^ (j + 1)) (M + 1) with h | h
            · exfalso
              have h7 : S ^ (j + 1) * S ^ k + S ^ k ≤ (M + 1) * S ^ k := by rw [← Nat.succ_mul]; exact Nat.mul_le_mul_right _ h
              omega
            · exact h
          have h5 : M + 1 ≠ S ^ (j + 1) := by
            intro e
            have h6 : (M + 1) % S = 0 := by rw [e, Nat.pow_succ]; exact Nat.mul_mod_left _ _
            rw [hd] at hlt
            rw [(div_succ hlt).2] at h6
            omega
          rw [h1, h3]
          exact Nat.mul_lt_mul_of_pos_right (by omega) hp
        clear hlt hd
        go_wp2_with fail
        go_ret
        exact ⟨ret_bool HD.out.symm, fun _ => HRW.out, HB1.out⟩
      · have hdS : M % S + 1 = S := by omega
        have q5 : (S : Int) ≤ (d : Int) + 1 := by omega
        have HRW : Hid (Row ((wo.setCell ⟨g, j, none⟩ (.int .i64 ((d : Int) + 1))).setCell ⟨g, j, none⟩ (.int .i64 0)) g 2 (iv (tb S j (M / S) ++ List.replicate (k + 1) 0))) := by
          have := HR1.out.set_ j (.int .i64 0)
          rw [List.set_set, tb_last, List.append_assoc, iv_append, List.set_append_right _ _ (by rw [iv_length, tb_len]; exact Nat.le_refl _), iv_length, tb_len, Nat.sub_self] at this
          rw [List.replicate_succ, iv_append]
          exact this
        have HT2 : Hid (tb S n (N + 1) = tb S j (M / S + 1) ++ List.replicate (k + 1) 0) := by
          show _ = _
          rw [HT.out, tb_carry hS.1 hdS, List.append_assoc, List.replicate_succ]; rfl
        have HM2 : Hid (N + 1 = (M / S + 1) * S ^ (k + 1)) := by
          show _ = _
          have h1 := Nat.div_add_mod M S
          have h2 : M + 1 = (M / S + 1) * S := by rw [Nat.add_mul, Nat.one_mul, Nat.mul_comm]; omega
          rw [HM.out, h2, Nat.pow_succ, Nat.mul_assoc, Nat.mul_comm S]
        have HB2 : Hid (But g w ((wo.setCell ⟨g, j, none⟩ (.int .i64 ((d : Int) + 1))).setCell ⟨g, j, none⟩ (.int .i64 0))) := HB1.out.trans (But.set _ j _)
        clear hlt hd hdS
        go_wp2_with fail
        go_roundg (gk - 1)
        case measure => omega
        case rel => exact ⟨j, k + 1, M / S, by first | rfl | go_num, by omega, by omega, HRW.out, HT2.out, HM2.out, HB2.out⟩
end Go.Proofs.Ytbdfbmohdbigfaa
