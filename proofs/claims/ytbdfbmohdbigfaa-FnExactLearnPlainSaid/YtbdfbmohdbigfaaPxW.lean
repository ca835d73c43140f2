/- Sets of states of the program: the walks (stateSet, closed, PlainOf's closures). -/
import Derived.Test.YtbdfbmohdbigfaaMgr
import Derived.Test.YtbdfbmohdbigfaaMgj
import Derived.Test.YtbdfbmohdbigfaaMgt
import Derived.Deep.LoopGhost
import Derived.Deep.QuietTactic
import Derived.BigQuiet

namespace Go.Proofs.Ytbdfbmohdbigfaa
open Go.RowKit
set_option linter.unusedVariables false
theorem mkN_yes {p : Nat → Bool} {k : Nat} (h : p k = true) : mkN p (k + 1) = mkN p k ||| 2 ^ k := by rw [mkN, if_pos h]
theorem mkN_no {p : Nat → Bool} {k : Nat} (h : p k = false) : mkN p (k + 1) = mkN p k := by rw [mkN, if_neg (by simp [h])]
theorem mkN_small (p : Nat → Bool) {k : Nat} (h : k ≤ 16) : mkN p k < 65536 := (mkN_is p k).small h
theorem shl1 {k : Nat} : (1 : Int) * 2 ^ k = 2 ^ k := by rw [Int.one_mul]
set_option maxHeartbeats 1000000 in
theorem iStateSet_any (A : Option Addr) (n c : Nat) (xs : List Int) (B : Nat) (w : World) (h : SlI w B A n xs) (hn : n ≤ 16) :
    Calls Try.prog 39 #[.slice A n c] w fun e w' => e = .returned (.int .u32 ((mkN (fun i => decide (0 ≤ g0 xs i)) n : Nat) : Int)) ∧ w = w' := by
  have hl := Lib.hid h.len
  have H := Lib.hid h; clear h
  obtain ⟨p, hp⟩ : ∃ p : Nat → Bool, p = fun i => decide (0 ≤ g0 xs i) := ⟨_, rfl⟩
  rw [← hp]
  have HP := Lib.hid hp; clear hp
  go_enter Try.func39, Try.ntmps39
  go_wp2
  go_loopg [3, 8] n (fun m v i wr => ∃ k : Nat, i = .int .i64 k ∧ v = .int .u32 ((mkN p k : Nat) : Int) ∧ k ≤ n ∧ n ≤ m + k ∧ w = wr)
  case atStart => exact ⟨0, rfl, rfl, by omega, by omega, rfl⟩
  case round =>
    obtain ⟨k, rfl, rfl, hk, hm, rfl⟩ := hrel
    by_cases hlt : k < n
    · obtain ⟨b, off, x, rfl, hb, hx, hc⟩ := H.out.at_ hlt
      have l0 : (0 : Int) ≤ (k : Int) := by omega
      have l1 : (k : Int) < (n : Int) := by omega
      have l2 : (k : Int) ≤ 32 := by omega
      have hpk : p k = decide (0 ≤ x) := by rw [HP.out]; show decide (0 ≤ g0 xs k) = _; rw [g0_get hx.out]
      have W1 : IntKind.u32.wrap (2 ^ k) = ((2 ^ k : Nat) : Int) := wrapu_pow (by omega)
      have W2 : bits .or .u32 ((mkN p k : Nat) : Int) (2 ^ k) = ((mkN p k ||| 2 ^ k : Nat) : Int) := by rw [pow_cast]; exact put_u32 (mkN_small p (show k ≤ 16 by omega)) (show k < 16 by omega)
      by_cases hx0 : 0 ≤ x
      · have HN := Lib.hid (mkN_yes (hpk.trans (decide_eq_true hx0)))
        clear hpk
        obtain ⟨q, hq⟩ : ∃ q, q = mkN p k := ⟨_, rfl⟩
        rw [← hq] at W2 HN ⊢
        clear hq
        go_wp2
        go_roundg (gk - 1)
        case measure => omega
        case rel => exact ⟨k + 1, by go_num, by rw [HN.out], by omega, by omega, rfl⟩
      · have HN := Lib.hid (mkN_no (hpk.trans (decide_eq_false hx0)))
        have hx1 : x < 0 := by omega
        clear hpk hx0 W1 W2
        go_wp2
        go_roundg (gk - 1)
        case measure => omega
        case rel => exact ⟨k + 1, by go_num, by rw [HN.out], by omega, by omega, rfl⟩
    · obtain rfl : n = k := by omega
      have l1 : (n : Int) ≤ (n : Int) := by omega
      go_wp2
      go_ret
      exact ⟨rfl, rfl⟩
theorem clS_no {v : Nat} {a : A4} (h : ¬ (a.2.2.1 < 0 ∧ v.testBit a.1.toNat = true)) : clS v a = v := if_neg h
theorem clS_yes {v : Nat} {a : A4} (h : a.2.2.1 < 0) (h' : v.testBit a.1.toNat = true) : clS v a = v ||| 2 ^ a.2.1.toNat := if_pos ⟨h, h'⟩
theorem small16 {v n : Nat} (h : v < 2 ^ n) (hn : n ≤ 16) : v < 65536 := Nat.lt_of_lt_of_le h (Nat.le_trans (Nat.pow_le_pow_right (by omega) hn) (by decide))
set_option maxRecDepth 100000 in
set_option maxHeartbeats 4000000 in
theorem iClosed_any (n : Nat) (v : Nat) (S T : Int) (A2 : Option Addr) (n2 c2 : Nat) (A3 : Option Addr) (n3 c3 : Nat) (A4' : Option Addr) (n4 c4 : Nat) (L : List A4) (w : World) (h2 : SlA w w.heap.size A2 n2 L) (hS : S = (n : Int)) (hv : v < 2 ^ n) (hL : okM n L) (hn : n ≤ 16) (hn2 : n2 ≤ 1000000) :
    Calls Try.prog 41 #[.agg #[.int .i64 S, .int .i64 T, .slice A2 n2 c2, .slice A3 n3 c3, .slice A4' n4 c4], .int .u32 ((v : Nat) : Int)] w fun e w' => e = .returned (.int .u32 ((clN L v n : Nat) : Int)) ∧ Below w.heap.size w w' := by
  subst hS
  have hln2 := Lib.hid h2.len
  have rb := Row.new w 28 (BxM (n : Int) T A2 n2 c2 A3 n3 c3 A4' n4 c4)
  have hb0 : Below w.heap.size w (w.alloc (.cells (BxM (n : Int) T A2 n2 c2 A3 n3 c3 A4' n4 c4).toArray 28)) := (Below.refl _ _).alloc (Nat.le_refl _) _
  have RB := Lib.hid rb; have HB0 := Lib.hid hb0; have H2 := Lib.hid h2; have HV := Lib.hid hv
  clear rb hb0 h2 hv
  go_enter Try.func41, Try.ntmps41
  go_wp2_with fail
  obtain ⟨w0, hw0⟩ : ∃ x, x = w.alloc (.cells (BxM (n : Int) T A2 n2 c2 A3 n3 c3 A4' n4 c4).toArray 28) := ⟨_, rfl⟩
  rw [← hw0] at RB HB0
  change Code.wp _ _ _ _ (w.alloc (.cells (BxM (n : Int) T A2 n2 c2 A3 n3 c3 A4' n4 c4).toArray 28))
  rw [← hw0]
  have HSZ : Hid (w.heap.size < w0.heap.size) := RB.out.lt
  clear hw0
  go_loopg [1, 9] n (fun m u i wr => ∃ r : Nat, i = .int .i64 r ∧ r ≤ n ∧ n ≤ m + r ∧ u = .int .u32 ((clN L v r : Nat) : Int) ∧ Hid (Below w0.heap.size w0 wr))
  case atStart => exact ⟨0, rfl, by omega, by omega, rfl, Below.refl _ _⟩
  case round =>
    obtain ⟨r, rfl, hr, hm, rfl, HB⟩ := hrel
    obtain ⟨wo, rfl⟩ : ∃ x : World, x = wr := ⟨_, rfl⟩
    by_cases hlt : r < n
    · have q1 : (r : Int) < (n : Int) := by omega
      have k2 := (RB.out.below HB.out HSZ.out).cell 2
      go_wp2_with fail
      clear k2
      obtain ⟨go, hgo⟩ : ∃ x : Nat, x = gk := ⟨_, rfl⟩
      go_loopg [1, 14] n2 (fun m u i wr => ∃ j : Nat, i = .int .i64 j ∧ j ≤ n2 ∧ n2 ≤ m + j ∧ u = .int .u32 ((clT (L.take j) (clN L v r) : Nat) : Int) ∧ Hid (Below w0.heap.size w0 wr))
      case atStart => exact ⟨0, rfl, by omega, by omega, rfl, HB.out⟩
      case round =>
        clear HB
        obtain ⟨j, rfl, hj, hm2, rfl, HB⟩ := hrel
        obtain ⟨wi, rfl⟩ : ∃ x : World, x = wr := ⟨_, rfl⟩
        by_cases hlt2 : j < n2
        · obtain ⟨b, off, a0, a1, a2, a3, rfl, hbB, hx, c0, c1, c2', c3'⟩ := ((H2.out.below HB0.out (Nat.le_refl _)).below HB.out (Nat.le_of_lt HSZ.out)).at_ hlt2
          have ha := hL _ (List.mem_of_getElem? hx.out)
          simp only at ha
          obtain ⟨⟨f0, f1⟩, ⟨t0, t1⟩, p0, p1⟩ := ha
          obtain ⟨f, rfl⟩ : ∃ x : Nat, a0 = (x : Int) := ⟨a0.toNat, by omega⟩
          obtain ⟨t, rfl⟩ : ∃ x : Nat, a1 = (x : Int) := ⟨a1.toNat, by omega⟩
          have HST := Lib.hid (clT_take (v := clN L v r) hx.out)
          have l1 : (j : Int) < (n2 : Int) := by omega
          have RA := Row.new wi 73 [.int .i64 f, .int .i64 t, .int .i64 a2, .int .i64 a3]
          have d0 := RA.cell 0; have d1 := RA.cell 1; have d2 := RA.cell 2; have d3 := RA.cell 3
          have HB1 := Lib.hid (HB.out.alloc HB.out.size (.cells ([.int .i64 f, .int .i64 t, .int .i64 a2, .int .i64 a3] : List Value).toArray 73))
          clear RA HB
          have hul := clT_take_lt (n := n) hL (clN_lt hL HV.out r) j
          have hus := small16 hul hn
          obtain ⟨u, hu⟩ : ∃ u, u = clT (L.take j) (clN L v r) := ⟨_, rfl⟩
          rw [← hu] at HST hul hus ⊢
          clear hu
          have l2 : (f : Int) ≤ 32 := by omega
          have l3 : (t : Int) ≤ 32 := by omega
          have W1 : IntKind.u32.wrap (2 ^ t) = ((2 ^ t : Nat) : Int) := wrapu_pow (by omega)
          have W2 : bits .or .u32 ((u : Nat) : Int) (2 ^ t) = ((u ||| 2 ^ t : Nat) : Int) := by rw [pow_cast]; exact put_u32 hus (by omega)
          have W3 : bits .and .u32 ((u : Int) / 2 ^ f) 1 = if u.testBit f then 1 else 0 := tst_u32 hus
          by_cases hneg : a2 < 0
          · by_cases hbit : u.testBit f = true
            · rw [hbit, if_pos rfl] at W3
              have HE : Hid (clT (L.take (j + 1)) (clN L v r) = u ||| 2 ^ t) := by show _ = _; rw [HST.out, clS_yes hneg (by simpa using hbit)]; simp
              clear hbit hul hus f1 t1 p0 p1 HST
              go_wp2_with fail
              go_roundg (gk - 1)
              case measure => omega
              case rel => exact ⟨j + 1, by go_num, by omega, by omega, by rw [HE.out], HB1.out⟩
            · have hb' : u.testBit f = false := by simpa using hbit
              rw [hb', if_neg (by simp)] at W3
              have HE : Hid (clT (L.take (j + 1)) (clN L v r) = u) := by show _ = _; rw [HST.out, clS_no (fun h => hbit (by simpa using h.2))]
              clear hbit hb' hul hus f1 t1 p0 p1 HST W1 W2
              go_wp2_with fail
              go_roundg (gk - 1)
              case measure => omega
              case rel => exact ⟨j + 1, by go_num, by omega, by omega, by rw [HE.out], HB1.out⟩
          · have HE : Hid (clT (L.take (j + 1)) (clN L v r) = u) := by show _ = _; rw [HST.out, clS_no (fun h => hneg h.1)]
            have hn0 : 0 ≤ a2 := by omega
            have hdn : decide (a2 < 0) = false := decide_eq_false hneg
            clear hul hus f1 t1 p0 p1 HST W1 W2 W3 hneg
            go_wp2_with fail
            go_roundg (gk - 1)
            case measure => omega
            case rel => exact ⟨j + 1, by go_num, by omega, by omega, by rw [HE.out], HB1.out⟩
        · have hjn : j = n2 := by omega
          have l1 : (n2 : Int) ≤ (j : Int) := by omega
          have HE : Hid (clT (L.take j) (clN L v r) = clN L v (r + 1)) := by show _ = _; rw [List.take_of_length_le (by have := hln2.out; omega)]; rfl
          go_wp2_with fail
          go_roundg (go - 1)
          case measure => omega
          case rel => exact ⟨r + 1, by go_num, by omega, by omega, by rw [HE.out], HB.out⟩
    · have hrn : r = n := by omega
      have l1 : (n : Int) ≤ (r : Int) := by omega
      have HE := Lib.hid hrn
      have dl : decide (r < n) = false := decide_eq_false hlt
      have dl2 : decide ((r : Int) < (n : Int)) = false := decide_eq_false (by omega)
      clear hrn
      go_wp2_with fail
      go_ret
      exact ⟨by rw [HE.out]; rfl, HB0.out.trans (HB.out.mono (Nat.le_of_lt HSZ.out))⟩
theorem nxS_no {l : Int} {v t : Nat} {a : A4} (h : ¬ (a.2.2.1 = l ∧ v.testBit a.1.toNat = true)) : nxS l v t a = t := if_neg h
theorem nxS_yes {l : Int} {v t : Nat} {a : A4} (h : a.2.2.1 = l) (h' : v.testBit a.1.toNat = true) : nxS l v t a = t ||| 2 ^ a.2.1.toNat := if_pos ⟨h, h'⟩
set_option maxRecDepth 100000 in
set_option maxHeartbeats 4000000 in
theorem iNxt_any (gm n v l : Nat) (S T : Int) (A2 : Option Addr) (n2 c2 : Nat) (A3 : Option Addr) (n3 c3 : Nat) (A4' : Option Addr) (n4 c4 : Nat) (L : List A4) (w : World) (hr : Row w gm 28 (BxM S T A2 n2 c2 A3 n3 c3 A4' n4 c4)) (h2 : SlA w w.heap.size A2 n2 L) (hS : S = (n : Int)) (hv : v < 65536) (hL : okM n L) (hn : n ≤ 16) (hn2 : n2 ≤ 1000000) :
    Calls Try.prog 40 #[.int .u32 ((v : Nat) : Int), .int .i64 (l : Int), .pointer (some ⟨gm, 0, none⟩)] w fun e w' => e = .returned (.int .u32 ((pxN L n v l : Nat) : Int)) ∧ Below w.heap.size w w' := by
  subst hS
  have hln2 := Lib.hid h2.len
  have RB := Lib.hid hr; have H2 := Lib.hid h2
  have k2 := hr.cell 2
  clear hr h2
  go_enter Try.func40, Try.ntmps40
  go_wp2_with fail
  clear k2
  have HGM : Hid (gm < w.heap.size) := RB.out.lt
  go_loopg [6, 12] n2 (fun m u i wr => ∃ j : Nat, i = .int .i64 j ∧ j ≤ n2 ∧ n2 ≤ m + j ∧ u = .int .u32 ((nxT (L.take j) (l : Int) v : Nat) : Int) ∧ Hid (Below w.heap.size w wr))
  case atStart => exact ⟨0, rfl, by omega, by omega, rfl, Below.refl _ _⟩
  case round =>
    obtain ⟨j, rfl, hj, hm2, rfl, HB⟩ := hrel
    obtain ⟨wi, rfl⟩ : ∃ x : World, x = wr := ⟨_, rfl⟩
    by_cases hlt2 : j < n2
    · obtain ⟨b, off, a0, a1, a2, a3, rfl, hbB, hx, c0, c1, c2', c3'⟩ := (H2.out.below HB.out (Nat.le_refl _)).at_ hlt2
      have ha := hL _ (List.mem_of_getElem? hx.out)
      simp only at ha
      obtain ⟨⟨f0, f1⟩, ⟨t0, t1⟩, p0, p1⟩ := ha
      obtain ⟨f, rfl⟩ : ∃ x : Nat, a0 = (x : Int) := ⟨a0.toNat, by omega⟩
      obtain ⟨t, rfl⟩ : ∃ x : Nat, a1 = (x : Int) := ⟨a1.toNat, by omega⟩
      have HST := Lib.hid (nxT_take (l := (l : Int)) (v := v) hx.out)
      have l1 : (j : Int) < (n2 : Int) := by omega
      have RA := Row.new wi 73 [.int .i64 f, .int .i64 t, .int .i64 a2, .int .i64 a3]
      have d0 := RA.cell 0; have d1 := RA.cell 1; have d2 := RA.cell 2; have d3 := RA.cell 3
      have HB1 := Lib.hid (HB.out.alloc HB.out.size (.cells ([.int .i64 f, .int .i64 t, .int .i64 a2, .int .i64 a3] : List Value).toArray 73))
      clear RA HB
      have hus := small16 (nxT_lt (n := n) hL (l : Int) v j) hn
      obtain ⟨u, hu⟩ : ∃ u, u = nxT (L.take j) (l : Int) v := ⟨_, rfl⟩
      rw [← hu] at HST hus ⊢
      clear hu
      have l2 : (f : Int) ≤ 32 := by omega
      have l3 : (t : Int) ≤ 32 := by omega
      have W1 : IntKind.u32.wrap (2 ^ t) = ((2 ^ t : Nat) : Int) := wrapu_pow (by omega)
      have W2 : bits .or .u32 ((u : Nat) : Int) (2 ^ t) = ((u ||| 2 ^ t : Nat) : Int) := by rw [pow_cast]; exact put_u32 hus (by omega)
      have W3 : bits .and .u32 ((v : Int) / 2 ^ f) 1 = if v.testBit f then 1 else 0 := tst_u32 hv
      by_cases hneg : a2 = (l : Int)
      · have z2 : (a2 == (l : Int)) = true := by simp [hneg]
        by_cases hbit : v.testBit f = true
        · rw [hbit, if_pos rfl] at W3
          have HE : Hid (nxT (L.take (j + 1)) (l : Int) v = u ||| 2 ^ t) := by show _ = _; rw [HST.out, nxS_yes hneg (by simpa using hbit)]; simp
          clear hbit hus f1 t1 p0 p1 HST hneg
          go_wp2_with fail
          go_roundg (gk - 1)
          case measure => omega
          case rel => exact ⟨j + 1, by go_num, by omega, by omega, by rw [HE.out], HB1.out⟩
        · have hb' : v.testBit f = false := by simpa using hbit
          rw [hb', if_neg (by simp)] at W3
          have HE : Hid (nxT (L.take (j + 1)) (l : Int) v = u) := by show _ = _; rw [HST.out, nxS_no (fun h => hbit (by simpa using h.2))]
          clear hbit hb' hus f1 t1 p0 p1 HST W1 W2 hneg
          go_wp2_with fail
          go_roundg (gk - 1)
          case measure => omega
          case rel => exact ⟨j + 1, by go_num, by omega, by omega, by rw [HE.out], HB1.out⟩
      · have HE : Hid (nxT (L.take (j + 1)) (l : Int) v = u) := by show _ = _; rw [HST.out, nxS_no (fun h => hneg h.1)]
        have z2 : (a2 == (l : Int)) = false := by simp [hneg]
        clear hus f1 t1 p0 p1 HST W1 W2 W3 hneg
        go_wp2_with fail
        go_roundg (gk - 1)
        case measure => omega
        case rel => exact ⟨j + 1, by go_num, by omega, by omega, by rw [HE.out], HB1.out⟩
    · have hjn : j = n2 := by omega
      have l1 : (n2 : Int) ≤ (j : Int) := by omega
      have HE : Hid (clN L (nxT (L.take j) (l : Int) v) n = pxN L n v l) := by show _ = _; rw [List.take_of_length_le (by have := hln2.out; omega)]; rfl
      have dl : decide (j < n2) = false := decide_eq_false hlt2
      have dl2 : decide ((j : Int) < (n2 : Int)) = false := decide_eq_false (by omega)
      have RBi := Lib.hid (RB.out.below HB.out HGM.out)
      have r0 := RBi.out.cell 0; have r1 := RBi.out.cell 1; have r2 := RBi.out.cell 2; have r3 := RBi.out.cell 3; have r4 := RBi.out.cell 4
      have CL := Lib.hid (iClosed_any n (nxT (L.take j) (l : Int) v) (n : Int) T A2 n2 c2 A3 n3 c3 A4' n4 c4 L wi ((H2.out.below HB.out (Nat.le_refl _)).more HB.out.size) rfl (nxT_lt hL (l : Int) v j) hL hn hn2)
      rw [HE.out] at CL
      clear hjn hlt2
      go_wp2_with fail
      refine CL.out.mono ?_
      rintro e w3 ⟨rfl, hb⟩
      clear r0 r1 r2 r3 r4
      go_wp2_with fail
      go_ret
      exact ⟨rfl, HB.out.trans (hb.mono HB.out.size)⟩
theorem iEnds_any (ge v e : Nat) (w : World) (hc : w.cell? ⟨ge, 0, none⟩ = some (.int .u32 ((e : Nat) : Int))) (hv : v < 65536) (he : e < 65536) :
    Calls Try.prog 43 #[.int .u32 ((v : Nat) : Int), .pointer (some ⟨ge, 0, none⟩)] w fun e' w' => e' = .returned (.bool (decide (v &&& e ≠ 0))) ∧ w = w' := by
  have W := and_u32 v e (by omega) (by omega)
  have HD : Hid ((((v &&& e : Nat) : Int) != 0) = decide (v &&& e ≠ 0)) := by
    show _ = _
    by_cases h : v &&& e = 0
    · rw [h]; rfl
    · rw [decide_eq_true h, bne_iff_ne]; omega
  go_enter Try.func43, Try.ntmps43
  go_wp2
  go_ret
  exact ⟨ret_bool (by first | exact HD.out | (rw [← HD.out]; simp)), rfl⟩
end Go.Proofs.Ytbdfbmohdbigfaa
