/- Several texts in one: Sets of states of the program: the walks (stateSet, closed, PlainOf's closures). PlainOf of the program: the whole. -/
import Derived.Test.YtbdfbmohdbigfaaMgp
import Derived.Test.YtbdfbmohdbigfaaMgh
import Derived.Test.YtbdfbmohdbigfaaMgr
import Derived.Deep.LoopGhost
import Derived.Deep.QuietTactic
import Derived.BigQuiet
import Derived.Test.YtbdfbmohdbigfaaExwU
import Derived.Test.YtbdfbmohdbigfaaMgj
import Derived.Deep.RegionHeld3
import Derived.Deep.CutRange

namespace Go.Proofs.Ytbdfbmohdbigfaa
open Go.RowKit
set_option linter.unusedVariables false
theorem mkN_yes {p : Nat → Bool} {k : Nat} (h : p k = true) : mkN p (k + 1) = mkN p k ||| 2 ^ k := by rw [mkN, if_pos h]
theorem mkN_no {p : Nat → Bool} {k : Nat} (h : p k = false) : mkN p (k + 1) = mkN p k := by rw [mkN, if_neg (by simp [h])]
theorem mkN_small (p : Nat → Bool) {k : Nat} (h : k ≤ 16) : mkN p k < 65536 := (mkN_is p k).small h
theorem shl1 {k : Nat} : (1 : Int) * 2 ^ k = 2 ^ k := by rw [Int.one_mul]
set_option maxHeartbeats 1000000 in
theorem iStateSet_any (A : Option Addr) (n c : Nat) (xs : List Int) (B : Nat) (w : World) (h : SlI w B A n xs) (hn : n ≤ 16) :
    Calls Try.prog 39 #[.slice A n c] w fun e w' => e = .returned (.int .u32 ((mkN (fun i => decide (0 ≤ g0 xs i)) n : Nat) : Int)) ∧ w = w' := by
  have hl := Lib.hid h.len
  have H := Lib.hid h; clear h
  obtain ⟨p, hp⟩ : ∃ p : Nat → Bool, p = fun i => decide (0 ≤ g0 xs i) := ⟨_, rfl⟩
  rw [← hp]
  have HP := Lib.hid hp; clear hp
  go_enter Try.func39, Try.ntmps39
  go_wp2
  go_loopg [3, 8] n (fun m v i wr => ∃ k : Nat, i = .int .i64 k ∧ v = .int .u32 ((mkN p k : Nat) : Int) ∧ k ≤ n ∧ n ≤ m + k ∧ w = wr)
  case atStart => exact ⟨0, rfl, rfl, by omega, by omega, rfl⟩
  case round =>
    obtain ⟨k, rfl, rfl, hk, hm, rfl⟩ := hrel
    by_cases hlt : k < n
    · obtain ⟨b, off, x, rfl, hb, hx, hc⟩ := H.out.at_ hlt
      have l0 : (0 : Int) ≤ (k : Int) := by omega
      have l1 : (k : Int) < (n : Int) := by omega
      have l2 : (k : Int) ≤ 32 := by omega
      have hpk : p k = decide (0 ≤ x) := by rw [HP.out]; show decide (0 ≤ g0 xs k) = _; rw [g0_get hx.out]
      have W1 : IntKind.u32.wrap (2 ^ k) = ((2 ^ k : Nat) : Int) := wrapu_pow (by omega)
      have W2 : bits .or .u32 ((mkN p k : Nat) : Int) (2 ^ k) = ((mkN p k ||| 2 ^ k : Nat) : Int) := by rw [pow_cast]; exact put_u32 (mkN_small p (show k ≤ 16 by omega)) (show k < 16 by omega)
      by_cases hx0 : 0 ≤ x
      · have HN := Lib.hid (mkN_yes (hpk.trans (decide_eq_true hx0)))
        clear hpk
        obtain ⟨q, hq⟩ : ∃ q, q = mkN p k := ⟨_, rfl⟩
        rw [← hq] at W2 HN ⊢
        clear hq
        go_wp2
        go_roundg (gk - 1)
        case measure => omega
        case rel => exact ⟨k + 1, by go_num, by rw [HN.out], by omega, by omega, rfl⟩
      · have HN := Lib.hid (mkN_no (hpk.trans (decide_eq_false hx0)))
        have hx1 : x < 0 := by omega
        clear hpk hx0 W1 W2
        go_wp2
        go_roundg (gk - 1)
        case measure => omega
        case rel => exact ⟨k + 1, by go_num, by rw [HN.out], by omega, by omega, rfl⟩
    · obtain rfl : n = k := by omega
      have l1 : (n : Int) ≤ (n : Int) := by omega
      go_wp2
      go_ret
      exact ⟨rfl, rfl⟩
theorem clS_no {v : Nat} {a : A4} (h : ¬ (a.2.2.1 < 0 ∧ v.testBit a.1.toNat = true)) : clS v a = v := if_neg h
theorem clS_yes {v : Nat} {a : A4} (h : a.2.2.1 < 0) (h' : v.testBit a.1.toNat = true) : clS v a = v ||| 2 ^ a.2.1.toNat := if_pos ⟨h, h'⟩
theorem small16 {v n : Nat} (h : v < 2 ^ n) (hn : n ≤ 16) : v < 65536 := Nat.lt_of_lt_of_le h (Nat.le_trans (Nat.pow_le_pow_right (by omega) hn) (by decide))
set_option maxRecDepth 100000 in
set_option maxHeartbeats 4000000 in
theorem iClosed_any (n : Nat) (v : Nat) (S T : Int) (A2 : Option Addr) (n2 c2 : Nat) (A3 : Option Addr) (n3 c3 : Nat) (A4' : Option Addr) (n4 c4 : Nat) (L : List A4) (w : World) (h2 : SlA w w.heap.size A2 n2 L) (hS : S = (n : Int)) (hv : v < 2 ^ n) (hL : okM n L) (hn : n ≤ 16) (hn2 : n2 ≤ 1000000) :
    Calls Try.prog 41 #[.agg #[.int .i64 S, .int .i64 T, .slice A2 n2 c2, .slice A3 n3 c3, .slice A4' n4 c4], .int .u32 ((v : Nat) : Int)] w fun e w' => e = .returned (.int .u32 ((clN L v n : Nat) : Int)) ∧ Below w.heap.size w w' := by
  subst hS
  have hln2 := Lib.hid h2.len
  have rb := Row.new w 28 (BxM (n : Int) T A2 n2 c2 A3 n3 c3 A4' n4 c4)
  have hb0 : Below w.heap.size w (w.alloc (.cells (BxM (n : Int) T A2 n2 c2 A3 n3 c3 A4' n4 c4).toArray 28)) := (Below.refl _ _).alloc (Nat.le_refl _) _
  have RB := Lib.hid rb; have HB0 := Lib.hid hb0; have H2 := Lib.hid h2; have HV := Lib.hid hv
  clear rb hb0 h2 hv
  go_enter Try.func41, Try.ntmps41
  go_wp2_with fail
  obtain ⟨w0, hw0⟩ : ∃ x, x = w.alloc (.cells (BxM (n : Int) T A2 n2 c2 A3 n3 c3 A4' n4 c4).toArray 28) := ⟨_, rfl⟩
  rw [← hw0] at RB HB0
  change Code.wp _ _ _ _ (w.alloc (.cells (BxM (n : Int) T A2 n2 c2 A3 n3 c3 A4' n4 c4).toArray 28))
  rw [← hw0]
  have HSZ : Hid (w.heap.size < w0.heap.size) := RB.out.lt
  clear hw0
  go_loopg [1, 9] n (fun m u i wr => ∃ r : Nat, i = .int .i64 r ∧ r ≤ n ∧ n ≤ m + r ∧ u = .int .u32 ((clN L v r : Nat) : Int) ∧ Hid (Below w0.heap.size w0 wr))
  case atStart => exact ⟨0, rfl, by omega, by omega, rfl, Below.refl _ _⟩
  case round =>
    obtain ⟨r, rfl, hr, hm, rfl, HB⟩ := hrel
    obtain ⟨wo, rfl⟩ : ∃ x : World, x = wr := ⟨_, rfl⟩
    by_cases hlt : r < n
    · have q1 : (r : Int) < (n : Int) := by omega
      have k2 := (RB.out.below HB.out HSZ.out).cell 2
      go_wp2_with fail
      clear k2
      obtain ⟨go, hgo⟩ : ∃ x : Nat, x = gk := ⟨_, rfl⟩
      go_loopg [1, 14] n2 (fun m u i wr => ∃ j : Nat, i = .int .i64 j ∧ j ≤ n2 ∧ n2 ≤ m + j ∧ u = .int .u32 ((clT (L.take j) (clN L v r) : Nat) : Int) ∧ Hid (Below w0.heap.size w0 wr))
      case atStart => exact ⟨0, rfl, by omega, by omega, rfl, HB.out⟩
      case round =>
        clear HB
        obtain ⟨j, rfl, hj, hm2, rfl, HB⟩ := hrel
        obtain ⟨wi, rfl⟩ : ∃ x : World, x = wr := ⟨_, rfl⟩
        by_cases hlt2 : j < n2
        · obtain ⟨b, off, a0, a1, a2, a3, rfl, hbB, hx, c0, c1, c2', c3'⟩ := ((H2.out.below HB0.out (Nat.le_refl _)).below HB.out (Nat.le_of_lt HSZ.out)).at_ hlt2
          have ha := hL _ (List.mem_of_getElem? hx.out)
          simp only at ha
          obtain ⟨⟨f0, f1⟩, ⟨t0, t1⟩, p0, p1⟩ := ha
          obtain ⟨f, rfl⟩ : ∃ x : Nat, a0 = (x : Int) := ⟨a0.toNat, by omega⟩
          obtain ⟨t, rfl⟩ : ∃ x : Nat, a1 = (x : Int) := ⟨a1.toNat, by omega⟩
          have HST := Lib.hid (clT_take (v := clN L v r) hx.out)
          have l1 : (j : Int) < (n2 : Int) := by omega
          have RA := Row.new wi 73 [.int .i64 f, .int .i64 t, .int .i64 a2, .int .i64 a3]
          have d0 := RA.cell 0; have d1 := RA.cell 1; have d2 := RA.cell 2; have d3 := RA.cell 3
          have HB1 := Lib.hid (HB.out.alloc HB.out.size (.cells ([.int .i64 f, .int .i64 t, .int .i64 a2, .int .i64 a3] : List Value).toArray 73))
          clear RA HB
          have hul := clT_take_lt (n := n) hL (clN_lt hL HV.out r) j
          have hus := small16 hul hn
          obtain ⟨u, hu⟩ : ∃ u, u = clT (L.take j) (clN L v r) := ⟨_, rfl⟩
          rw [← hu] at HST hul hus ⊢
          clear hu
          have l2 : (f : Int) ≤ 32 := by omega
          have l3 : (t : Int) ≤ 32 := by omega
          have W1 : IntKind.u32.wrap (2 ^ t) = ((2 ^ t : Nat) : Int) := wrapu_pow (by omega)
          have W2 : bits .or .u32 ((u : Nat) : Int) (2 ^ t) = ((u ||| 2 ^ t : Nat) : Int) := by rw [pow_cast]; exact put_u32 hus (by omega)
          have W3 : bits .and .u32 ((u : Int) / 2 ^ f) 1 = if u.testBit f then 1 else 0 := tst_u32 hus
          by_cases hneg : a2 < 0
          · by_cases hbit : u.testBit f = true
            · rw [hbit, if_pos rfl] at W3
              have HE : Hid (clT (L.take (j + 1)) (clN L v r) = u ||| 2 ^ t) := by show _ = _; rw [HST.out, clS_yes hneg (by simpa using hbit)]; simp
              clear hbit hul hus f1 t1 p0 p1 HST
              go_wp2_with fail
              go_roundg (gk - 1)
              case measure => omega
              case rel => exact ⟨j + 1, by go_num, by omega, by omega, by rw [HE.out], HB1.out⟩
            · have hb' : u.testBit f = false := by simpa using hbit
              rw [hb', if_neg (by simp)] at W3
              have HE : Hid (clT (L.take (j + 1)) (clN L v r) = u) := by show _ = _; rw [HST.out, clS_no (fun h => hbit (by simpa using h.2))]
              clear hbit hb' hul hus f1 t1 p0 p1 HST W1 W2
              go_wp2_with fail
              go_roundg (gk - 1)
              case measure => omega
              case rel => exact ⟨j + 1, by go_num, by omega, by omega, by rw [HE.out], HB1.out⟩
          · have HE : Hid (clT (L.take (j + 1)) (clN L v r) = u) := by show _ = _; rw [HST.out, clS_no (fun h => hneg h.1)]
            have hn0 : 0 ≤ a2 := by omega
            have hdn : decide (a2 < 0) = false := decide_eq_false hneg
            clear hul hus f1 t1 p0 p1 HST W1 W2 W3 hneg
            go_wp2_with fail
            go_roundg (gk - 1)
            case measure => omega
            case rel => exact ⟨j + 1, by go_num, by omega, by omega, by rw [HE.out], HB1.out⟩
        · have hjn : j = n2 := by omega
          have l1 : (n2 : Int) ≤ (j : Int) := by omega
          have HE : Hid (clT (L.take j) (clN L v r) = clN L v (r + 1)) := by show _ = _; rw [List.take_of_length_le (by have := hln2.out; omega)]; rfl
          go_wp2_with fail
          go_roundg (go - 1)
          case measure => omega
          case rel => exact ⟨r + 1, by go_num, by omega, by omega, by rw [HE.out], HB.out⟩
    · have hrn : r = n := by omega
      have l1 : (n : Int) ≤ (r : Int) := by omega
      have HE := Lib.hid hrn
      have dl : decide (r < n) = false := decide_eq_false hlt
      have dl2 : decide ((r : Int) < (n : Int)) = false := decide_eq_false (by omega)
      clear hrn
      go_wp2_with fail
      go_ret
      exact ⟨by rw [HE.out]; rfl, HB0.out.trans (HB.out.mono (Nat.le_of_lt HSZ.out))⟩
theorem nxS_no {l : Int} {v t : Nat} {a : A4} (h : ¬ (a.2.2.1 = l ∧ v.testBit a.1.toNat = true)) : nxS l v t a = t := if_neg h
theorem nxS_yes {l : Int} {v t : Nat} {a : A4} (h : a.2.2.1 = l) (h' : v.testBit a.1.toNat = true) : nxS l v t a = t ||| 2 ^ a.2.1.toNat := if_pos ⟨h, h'⟩
set_option maxRecDepth 100000 in
set_option maxHeartbeats 4000000 in
theorem iNxt_any (gm n v l : Nat) (S T : Int) (A2 : Option Addr) (n2 c2 : Nat) (A3 : Option Addr) (n3 c3 : Nat) (A4' : Option Addr) (n4 c4 : Nat) (L : List A4) (w : World) (hr : Row w gm 28 (BxM S T A2 n2 c2 A3 n3 c3 A4' n4 c4)) (h2 : SlA w w.heap.size A2 n2 L) (hS : S = (n : Int)) (hv : v < 65536) (hL : okM n L) (hn : n ≤ 16) (hn2 : n2 ≤ 1000000) :
    Calls Try.prog 40 #[.int .u32 ((v : Nat) : Int), .int .i64 (l : Int), .pointer (some ⟨gm, 0, none⟩)] w fun e w' => e = .returned (.int .u32 ((pxN L n v l : Nat) : Int)) ∧ Below w.heap.size w w' := by
  subst hS
  have hln2 := Lib.hid h2.len
  have RB := Lib.hid hr; have H2 := Lib.hid h2
  have k2 := hr.cell 2
  clear hr h2
  go_enter Try.func40, Try.ntmps40
  go_wp2_with fail
  clear k2
  have HGM : Hid (gm < w.heap.size) := RB.out.lt
  go_loopg [6, 12] n2 (fun m u i wr => ∃ j : Nat, i = .int .i64 j ∧ j ≤ n2 ∧ n2 ≤ m + j ∧ u = .int .u32 ((nxT (L.take j) (l : Int) v : Nat) : Int) ∧ Hid (Below w.heap.size w wr))
  case atStart => exact ⟨0, rfl, by omega, by omega, rfl, Below.refl _ _⟩
  case round =>
    obtain ⟨j, rfl, hj, hm2, rfl, HB⟩ := hrel
    obtain ⟨wi, rfl⟩ : ∃ x : World, x = wr := ⟨_, rfl⟩
    by_cases hlt2 : j < n2
    · obtain ⟨b, off, a0, a1, a2, a3, rfl, hbB, hx, c0, c1, c2', c3'⟩ := (H2.out.below HB.out (Nat.le_refl _)).at_ hlt2
      have ha := hL _ (List.mem_of_getElem? hx.out)
      simp only at ha
      obtain ⟨⟨f0, f1⟩, ⟨t0, t1⟩, p0, p1⟩ := ha
      obtain ⟨f, rfl⟩ : ∃ x : Nat, a0 = (x : Int) := ⟨a0.toNat, by omega⟩
      obtain ⟨t, rfl⟩ : ∃ x : Nat, a1 = (x : Int) := ⟨a1.toNat, by omega⟩
      have HST := Lib.hid (nxT_take (l := (l : Int)) (v := v) hx.out)
      have l1 : (j : Int) < (n2 : Int) := by omega
      have RA := Row.new wi 73 [.int .i64 f, .int .i64 t, .int .i64 a2, .int .i64 a3]
      have d0 := RA.cell 0; have d1 := RA.cell 1; have d2 := RA.cell 2; have d3 := RA.cell 3
      have HB1 := Lib.hid (HB.out.alloc HB.out.size (.cells ([.int .i64 f, .int .i64 t, .int .i64 a2, .int .i64 a3] : List Value).toArray 73))
      clear RA HB
      have hus := small16 (nxT_lt (n := n) hL (l : Int) v j) hn
      obtain ⟨u, hu⟩ : ∃ u, u = nxT (L.take j) (l : Int) v := ⟨_, rfl⟩
      rw [← hu] at HST hus ⊢
      clear hu
      have l2 : (f : Int) ≤ 32 := by omega
      have l3 : (t : Int) ≤ 32 := by omega
      have W1 : IntKind.u32.wrap (2 ^ t) = ((2 ^ t : Nat) : Int) := wrapu_pow (by omega)
      have W2 : bits .or .u32 ((u : Nat) : Int) (2 ^ t) = ((u ||| 2 ^ t : Nat) : Int) := by rw [pow_cast]; exact put_u32 hus (by omega)
      have W3 : bits .and .u32 ((v : Int) / 2 ^ f) 1 = if v.testBit f then 1 else 0 := tst_u32 hv
      by_cases hneg : a2 = (l : Int)
      · have z2 : (a2 == (l : Int)) = true := by simp [hneg]
        by_cases hbit : v.testBit f = true
        · rw [hbit, if_pos rfl] at W3
          have HE : Hid (nxT (L.take (j + 1)) (l : Int) v = u ||| 2 ^ t) := by show _ = _; rw [HST.out, nxS_yes hneg (by simpa using hbit)]; simp
          clear hbit hus f1 t1 p0 p1 HST hneg
          go_wp2_with fail
          go_roundg (gk - 1)
          case measure => omega
          case rel => exact ⟨j + 1, by go_num, by omega, by omega, by rw [HE.out], HB1.out⟩
        · have hb' : v.testBit f = false := by simpa using hbit
          rw [hb', if_neg (by simp)] at W3
          have HE : Hid (nxT (L.take (j + 1)) (l : Int) v = u) := by show _ = _; rw [HST.out, nxS_no (fun h => hbit (by simpa using h.2))]
          clear hbit hb' hus f1 t1 p0 p1 HST W1 W2 hneg
          go_wp2_with fail
          go_roundg (gk - 1)
          case measure => omega
          case rel => exact ⟨j + 1, by go_num, by omega, by omega, by rw [HE.out], HB1.out⟩
      · have HE : Hid (nxT (L.take (j + 1)) (l : Int) v = u) := by show _ = _; rw [HST.out, nxS_no (fun h => hneg h.1)]
        have z2 : (a2 == (l : Int)) = false := by simp [hneg]
        clear hus f1 t1 p0 p1 HST W1 W2 W3 hneg
        go_wp2_with fail
        go_roundg (gk - 1)
        case measure => omega
        case rel => exact ⟨j + 1, by go_num, by omega, by omega, by rw [HE.out], HB1.out⟩
    · have hjn : j = n2 := by omega
      have l1 : (n2 : Int) ≤ (j : Int) := by omega
      have HE : Hid (clN L (nxT (L.take j) (l : Int) v) n = pxN L n v l) := by show _ = _; rw [List.take_of_length_le (by have := hln2.out; omega)]; rfl
      have dl : decide (j < n2) = false := decide_eq_false hlt2
      have dl2 : decide ((j : Int) < (n2 : Int)) = false := decide_eq_false (by omega)
      have RBi := Lib.hid (RB.out.below HB.out HGM.out)
      have r0 := RBi.out.cell 0; have r1 := RBi.out.cell 1; have r2 := RBi.out.cell 2; have r3 := RBi.out.cell 3; have r4 := RBi.out.cell 4
      have CL := Lib.hid (iClosed_any n (nxT (L.take j) (l : Int) v) (n : Int) T A2 n2 c2 A3 n3 c3 A4' n4 c4 L wi ((H2.out.below HB.out (Nat.le_refl _)).more HB.out.size) rfl (nxT_lt hL (l : Int) v j) hL hn hn2)
      rw [HE.out] at CL
      clear hjn hlt2
      go_wp2_with fail
      refine CL.out.mono ?_
      rintro e w3 ⟨rfl, hb⟩
      clear r0 r1 r2 r3 r4
      go_wp2_with fail
      go_ret
      exact ⟨rfl, HB.out.trans (hb.mono HB.out.size)⟩
theorem iEnds_any (ge v e : Nat) (w : World) (hc : w.cell? ⟨ge, 0, none⟩ = some (.int .u32 ((e : Nat) : Int))) (hv : v < 65536) (he : e < 65536) :
    Calls Try.prog 43 #[.int .u32 ((v : Nat) : Int), .pointer (some ⟨ge, 0, none⟩)] w fun e' w' => e' = .returned (.bool (decide (v &&& e ≠ 0))) ∧ w = w' := by
  have W := and_u32 v e (by omega) (by omega)
  have HD : Hid ((((v &&& e : Nat) : Int) != 0) = decide (v &&& e ≠ 0)) := by
    show _ = _
    by_cases h : v &&& e = 0
    · rw [h]; rfl
    · rw [decide_eq_true h, bne_iff_ne]; omega
  go_enter Try.func43, Try.ntmps43
  go_wp2
  go_ret
  exact ⟨ret_bool (by first | exact HD.out | (rw [← HD.out]; simp)), rfl⟩
end Go.Proofs.Ytbdfbmohdbigfaa


namespace Go.Proofs.Ytbdfbmohdbigfaa
open Go.RowKit
set_option linter.unusedVariables false
section
variable (S T : Int) (L : List A4) (P E : List Int)
def poR : Option Nat := if vmB S T L P E then exAll (pxN L P.length) (pxF L P) T.toNat else none
def poN : Int := if vmB S T L P E then (exN (pxN L P.length) (pxF L P) T.toNat : Int) else 0
def poT : Int := if vmB S T L P E then (exT (pxN L P.length) (pxF L P) T.toNat : Int) else 0
def poP : List Int := if vmB S T L P E then exP (pxN L P.length) (pxF L P) T.toNat else []
def poD : List Bool := if vmB S T L P E then exD (pxN L P.length) (pxE E) (pxF L P) T.toNat else []
end
theorem plw_low {x x' : World} {b b' : Nat} {v : Value} {S T : Int} {N : List Int} {E : List Bool} (h : PlW x b v S T N E) (hb : b' ≤ b) (hs : x'.heap.size = x.heap.size) (hk : ∀ k, b ≤ k → x'.heap[k]? = x.heap[k]?) : PlW x' b' v S T N E := by
  obtain ⟨v2, v3, rfl, h2, h3, d⟩ := h
  have o2 := own_move h2.1 (w' := x') (fun k q => hk k (h2.1.lt k q).1)
  have o3 := own_move h3.1 (w' := x') (fun k q => hk k (h3.1.lt k q).1)
  exact ⟨v2, v3, rfl, OwnV.of (World.ownsRow.mono o2 hb), OwnV.of (World.ownsRow.mono o3 hb), d⟩
theorem pxN_small {L : List A4} {n v l : Nat} (hL : okM n L) (hn : n ≤ 16) : pxN L n v l < 65536 := by
  have h : nxT L (l : Int) v < 2 ^ n := by
    have := nxT_lt (n := n) hL (l : Int) v L.length
    rw [List.take_of_length_le (Nat.le_refl _)] at this
    exact this
  exact small16 (clN_lt hL h n) hn
theorem pxF_small {L : List A4} {P : List Int} (hL : okM P.length L) (hn : P.length ≤ 16) : pxF L P < 65536 := small16 (clN_lt hL (mkN_is _ _).lt _) hn
set_option maxRecDepth 100000 in
set_option maxHeartbeats 16000000 in
theorem iPlainOf_any (S T : Int) (L : List A4) (P E : List Int) (A2 : Option Addr) (n2 c2 : Nat) (A3 : Option Addr) (n3 c3 : Nat) (A4' : Option Addr) (n4 c4 : Nat) (w : World) (h2 : SlA w w.heap.size A2 n2 L) (h3 : SlI w w.heap.size A3 n3 P) (h4 : SlI w w.heap.size A4' n4 E) (b2 : n2 ≤ 4294967296) (b3 : n3 ≤ 4294967296) (b4 : n4 ≤ 4294967296) :
    Calls Try.prog 11 #[.agg #[.int .i64 S, .int .i64 T, .slice A2 n2 c2, .slice A3 n3 c3, .slice A4' n4 c4]] w fun e w' => ∃ v', e = .returned (.tuple #[v', .bool (poR S T L P E).isSome]) ∧ PlW w' w.heap.size v' (poN S T L P E) (poT S T L P E) (poP S T L P E) (poD S T L P E) ∧ Below w.heap.size w w' := by
  have e2 := h2.len; have e3 := h3.len; have e4 := h4.len
  have rb := Row.new w 28 (BxM S T A2 n2 c2 A3 n3 c3 A4' n4 c4)
  have bx : Below w.heap.size w (w.alloc (.cells (BxM S T A2 n2 c2 A3 n3 c3 A4' n4 c4).toArray 28)) := (Below.refl _ _).alloc (Nat.le_refl _) _
  have rr := Row.new (w.alloc (.cells (BxM S T A2 n2 c2 A3 n3 c3 A4' n4 c4).toArray 28)) 33 [.int .i64 0, .int .i64 0, .slice none 0 0, .slice none 0 0]
  have rb' := rb.alloc (.cells ([.int .i64 0, .int .i64 0, .slice none 0 0, .slice none 0 0] : List Value).toArray 33)
  have bx' := bx.alloc bx.size (.cells ([.int .i64 0, .int .i64 0, .slice none 0 0, .slice none 0 0] : List Value).toArray 33)
  rw [show (w.alloc (.cells (BxM S T A2 n2 c2 A3 n3 c3 A4' n4 c4).toArray 28)).heap.size = w.heap.size + 1 by simp] at rr
  obtain ⟨x0, hx0⟩ : ∃ x, x = (w.alloc (.cells (BxM S T A2 n2 c2 A3 n3 c3 A4' n4 c4).toArray 28)).alloc (.cells ([.int .i64 0, .int .i64 0, .slice none 0 0, .slice none 0 0] : List Value).toArray 33) := ⟨_, rfl⟩
  rw [← hx0] at rr rb' bx'
  have RB := Lib.hid rb'; have BX := Lib.hid bx'; have RR := Lib.hid rr; have H2 := Lib.hid h2; have H3 := Lib.hid h3; have H4 := Lib.hid h4
  have E2 := Lib.hid e2; have E3 := Lib.hid e3; have E4 := Lib.hid e4
  have hV := iValidMachine_any (.agg #[.int .i64 S, .int .i64 T, .slice A2 n2 c2, .slice A3 n3 c3, .slice A4' n4 c4]) S T L P E x0 ⟨_, _, _, _, _, _, _, _, _, rfl, (h2.below bx' (Nat.le_refl _)).more bx'.size, (h3.below bx' (Nat.le_refl _)).more bx'.size, (h4.below bx' (Nat.le_refl _)).more bx'.size⟩ (by omega) (by omega) (by omega)
  have HV := Lib.hid hV
  clear rb bx rr rb' bx' hV h2 h3 h4 e2 e3 e4
  cases hvm : vmB S T L P E with
  | false =>
    have r1 : poR S T L P E = none := by unfold poR; rw [hvm]; rfl
    have r2 : poN S T L P E = 0 := by unfold poN; rw [hvm]; rfl
    have r3 : poT S T L P E = 0 := by unfold poT; rw [hvm]; rfl
    have r4 : poP S T L P E = [] := by unfold poP; rw [hvm]; rfl
    have r5 : poD S T L P E = [] := by unfold poD; rw [hvm]; rfl
    rw [r1, r2, r3, r4, r5]
    clear r1 r2 r3 r4 r5
    rw [hvm] at HV
    clear hvm
    go_enter Try.func11, Try.ntmps11
    go_wp2_with fail
    change Calls _ _ _ ((w.alloc (.cells (BxM S T A2 n2 c2 A3 n3 c3 A4' n4 c4).toArray 28)).alloc (.cells ([.int .i64 0, .int .i64 0, .slice none 0 0, .slice none 0 0] : List Value).toArray 33)) _
    rw [← hx0]
    clear hx0
    refine HV.out.mono ?_
    rintro e w1 ⟨rfl, hb1⟩
    have RB1 := Lib.hid (RB.out.below hb1 RB.out.lt); have RR1 := Lib.hid (RR.out.below hb1 RR.out.lt); have BX1 := Lib.hid (BX.out.trans (hb1.mono BX.out.size))
    clear HV hb1 RB RR BX
    have hW1 : w.heap.size + 1 < w1.heap.size := RR1.out.lt
    have k0 := RR1.out.cell 0; have k1 := RR1.out.cell 1; have k2 := RR1.out.cell 2; have k3 := RR1.out.cell 3
    have f0 := RR1.out.frozen 0; have f1 := RR1.out.frozen 1; have f2 := RR1.out.frozen 2; have f3 := RR1.out.frozen 3
    go_wp2_with fail
    clear k0 k1 k2 k3 f0 f1 f2 f3
    have hF := ((((RR1.out.set_ 0 (.int .i64 0)).set_ 1 (.int .i64 0)).set_ 2 (.slice none 0 0)).set_ 3 (.slice none 0 0))
    refine bodyPost_ret (results_cell2 rfl _ _ (w.heap.size + 1) 33 #[.int .i64 0, .int .i64 0, .slice none 0 0, .slice none 0 0] (0, 0) _ (.bool false) rfl rfl hF Try.underlying33 rfl (by kernel_rfl)) rfl ?_
    exact ⟨_, rfl, plw_zero _ _, set4_below BX1.out (Nat.le_succ _) _ _ _ _⟩
  | true =>
  obtain ⟨hLk, -, -, hp0, hPE, hp16, hL128, hST, t1, t4⟩ := vm_okM hvm
  obtain ⟨t, rfl⟩ : ∃ t : Nat, T = (t : Int) := ⟨T.toNat, by omega⟩
  have r1 : poR S (t : Int) L P E = exAll (pxN L P.length) (pxF L P) t := by unfold poR; rw [hvm, if_pos rfl, Int.toNat_natCast]
  have r2 : poN S (t : Int) L P E = (exN (pxN L P.length) (pxF L P) t : Int) := by unfold poN; rw [hvm, if_pos rfl, Int.toNat_natCast]
  have r3 : poT S (t : Int) L P E = (exT (pxN L P.length) (pxF L P) t : Int) := by unfold poT; rw [hvm, if_pos rfl, Int.toNat_natCast]
  have r4 : poP S (t : Int) L P E = exP (pxN L P.length) (pxF L P) t := by unfold poP; rw [hvm, if_pos rfl, Int.toNat_natCast]
  have r5 : poD S (t : Int) L P E = exD (pxN L P.length) (pxE E) (pxF L P) t := by unfold poD; rw [hvm, if_pos rfl, Int.toNat_natCast]
  rw [r1, r2, r3, r4, r5]
  clear r1 r2 r3 r4 r5
  rw [hvm] at HV
  obtain ⟨k0, hk0⟩ : ∃ x, x = pxF L P := ⟨_, rfl⟩
  rw [← hk0]
  have HK00 := Lib.hid hk0
  have HST := Lib.hid hST; have HPE := Lib.hid hPE; have HP16 := Lib.hid hp16; have HL128 := Lib.hid hL128; have HT4 : Hid (t ≤ 4) := by show _ ≤ _; omega
  have HE16 : Hid (n4 ≤ 16) := by show _ ≤ _; have := E4.out; omega
  have HLK := Lib.hid hLk
  clear hvm hST hPE hp16 hL128 hp0 t1 t4 hLk hk0
  go_enter Try.func11, Try.ntmps11
  go_wp2_with fail
  change Calls _ _ _ ((w.alloc (.cells (BxM S (t : Int) A2 n2 c2 A3 n3 c3 A4' n4 c4).toArray 28)).alloc (.cells ([.int .i64 0, .int .i64 0, .slice none 0 0, .slice none 0 0] : List Value).toArray 33)) _
  rw [← hx0]
  clear hx0
  refine HV.out.mono ?_
  rintro e w1 ⟨rfl, hb1⟩
  have RB1 := Lib.hid (RB.out.below hb1 RB.out.lt); have RR1 := Lib.hid (RR.out.below hb1 RR.out.lt); have BX1 := Lib.hid (BX.out.trans (hb1.mono BX.out.size))
  clear HV hb1 RB RR BX
  have hW1 : w.heap.size + 1 < w1.heap.size := RR1.out.lt
  have k4 := RB1.out.cell 4
  have HSE := Lib.hid (iStateSet_any A4' n4 c4 E w1.heap.size w1 ((H4.out.below BX1.out (Nat.le_refl _)).more BX1.out.size) HE16.out)
  obtain ⟨me, hme⟩ : ∃ x, x = mkN (fun i => decide (0 ≤ g0 E i)) n4 := ⟨_, rfl⟩
  rw [← hme] at HSE
  have HME : Hid (me < 65536) := by show _ < _; rw [hme]; exact mkN_small _ HE16.out
  have HPX : Hid (∀ v, pxE E v = decide (v &&& me ≠ 0)) := fun v => by unfold pxE; rw [hme, E4.out]
  clear hme
  go_wp2_with fail
  refine HSE.out.mono ?_
  rintro e w2 ⟨rfl, hw2⟩
  obtain rfl := hw2
  clear HSE k4
  have RE := Row.new w1 70 [.int .u32 ((me : Nat) : Int)]
  have bz : Below w1.heap.size w1 (w1.alloc (.cells ([.int .u32 ((me : Nat) : Int)] : List Value).toArray 70)) := (Below.refl _ _).alloc (Nat.le_refl _) _
  obtain ⟨x3, hx3⟩ : ∃ x, x = w1.alloc (.cells ([.int .u32 ((me : Nat) : Int)] : List Value).toArray 70) := ⟨_, rfl⟩
  rw [← hx3] at RE bz
  obtain ⟨ge, hge⟩ : ∃ g, g = w1.heap.size := ⟨_, rfl⟩
  rw [← hge] at RE
  have RE3 := Lib.hid RE
  have RB3 := Lib.hid (RB1.out.below bz RB1.out.lt); have RR3 := Lib.hid (RR1.out.below bz RR1.out.lt); have BX3 := Lib.hid (BX1.out.trans (bz.mono BX1.out.size))
  clear RE bz RB1 RR1 BX1
  go_upto_region 5 with fail
  change Code.wp _ _ _ _ (w1.alloc (.cells ([.int .u32 ((me : Nat) : Int)] : List Value).toArray 70))
  rw [← hx3]
  try rw [← hge]
  have HGE : Hid (ge ≠ w.heap.size + 1) := by show _ ≠ _; omega
  clear hx3 hge
  obtain ⟨ms, hms⟩ : ∃ x, x = mkN (fun i => decide (0 ≤ g0 P i)) n3 := ⟨_, rfl⟩
  have HMS : Hid (ms < 2 ^ P.length) := by show _ < _; rw [hms, ← E3.out]; exact (mkN_is _ _).lt
  have HSS : Hid (∀ x : World, Lo x3.heap.size (w.heap.size + 1) x3 x → Calls Try.prog 39 #[.slice A3 n3 c3] x fun e y => e = .returned (.int .u32 ((ms : Nat) : Int)) ∧ x = y) := fun x hx => by
    have hb := BX3.out.trans (hx.bel BX3.out.size (Nat.le_succ _))
    rw [hms]
    exact iStateSet_any A3 n3 c3 P x.heap.size x ((H3.out.below hb (Nat.le_refl _)).more hb.size) (by have := E3.out; have := HP16.out; omega)
  have HK0 : Hid (clN L ms P.length = k0) := by show _ = _; rw [HK00.out, hms, ← E3.out]; rfl
  have HCL : Hid (∀ x : World, Lo x3.heap.size (w.heap.size + 1) x3 x → Calls Try.prog 41 #[.agg #[.int .i64 S, .int .i64 (t : Int), .slice A2 n2 c2, .slice A3 n3 c3, .slice A4' n4 c4], .int .u32 ((ms : Nat) : Int)] x fun e y => e = .returned (.int .u32 ((k0 : Nat) : Int)) ∧ Below x.heap.size x y) := fun x hx => by
    have hb := BX3.out.trans (hx.bel BX3.out.size (Nat.le_succ _))
    rw [← HK0.out]
    exact iClosed_any P.length ms S (t : Int) A2 n2 c2 A3 n3 c3 A4' n4 c4 L x ((H2.out.below hb (Nat.le_refl _)).more hb.size) HST.out HMS.out HLK.out HP16.out (by have := E2.out; have := HL128.out; omega)
  have HKS : Hid (okU k0) := by show k0 < 65536; rw [HK00.out]; exact pxF_small HLK.out HP16.out
  have HEX : Hid (∀ x : World, Lo x3.heap.size (w.heap.size + 1) x3 x → Calls Try.prog 42 #[.int .i64 (t : Int), .int .u32 ((k0 : Nat) : Int), .func (.func 40) #[] #[.pointer (some ⟨w.heap.size, 0, none⟩)], .func (.func 43) #[] #[.pointer (some ⟨ge, 0, none⟩)]] x fun e y => ∃ (B2 : Option Addr) (d2 : Nat) (B3 : Option Addr) (d3 : Nat), e = .returned (.tuple #[.agg #[.int .i64 (exN (pxN L P.length) k0 t : Int), .int .i64 (exT (pxN L P.length) k0 t : Int), .slice B2 (exP (pxN L P.length) k0 t).length d2, .slice B3 (exD (pxN L P.length) (pxE E) k0 t).length d3], .bool (exAll (pxN L P.length) k0 t).isSome]) ∧ PlW y x.heap.size (.agg #[.int .i64 (exN (pxN L P.length) k0 t : Int), .int .i64 (exT (pxN L P.length) k0 t : Int), .slice B2 (exP (pxN L P.length) k0 t).length d2, .slice B3 (exD (pxN L P.length) (pxE E) k0 t).length d3]) (exN (pxN L P.length) k0 t : Int) (exT (pxN L P.length) k0 t : Int) (exP (pxN L P.length) k0 t) (exD (pxN L P.length) (pxE E) k0 t) ∧ Below x.heap.size x y) := fun x hx => by
    refine (iExploreU_any (pxN L P.length) (pxE E) k0 t HT4.out w.heap.size ge x (fun y => Lo x3.heap.size (w.heap.size + 1) x3 y) hx (fun a b h1 h2 _ => h1.trans (Lo.below h2 hx.2.2.2.1)) HKS.out (fun k l hk hl => pxN_small HLK.out HP16.out) (fun y k l h1 _ hk hl => ?_) (fun y k h1 _ hk => ?_)).mono ?_
    · have hb := BX3.out.trans (h1.bel BX3.out.size (Nat.le_succ _))
      exact iNxt_any w.heap.size P.length k l S (t : Int) A2 n2 c2 A3 n3 c3 A4' n4 c4 L y (h1.row RB3.out RB3.out.lt (by omega)) ((H2.out.below hb (Nat.le_refl _)).more hb.size) HST.out hk HLK.out HP16.out (by have := E2.out; have := HL128.out; omega)
    · rw [HPX.out]
      exact iEnds_any ge k me y ((h1.row RE3.out RE3.out.lt HGE.out).cell 0) hk HME.out
    · rintro e y ⟨v, rfl, hv, hb⟩
      obtain ⟨B2, d2, B3, d3, rfl⟩ := PlO.shape hv
      exact ⟨B2, d2, B3, d3, rfl, hv, hb⟩
  have hcel : Hid (∀ x : World, Lo x3.heap.size (w.heap.size + 1) x3 x → (Lo x3.heap.size (w.heap.size + 1) x3 x ∧ x.cell? ⟨w.heap.size, 0, none⟩ = some (.int .i64 S) ∧ x.cell? ⟨w.heap.size, 1, none⟩ = some (.int .i64 (t : Int)) ∧ x.cell? ⟨w.heap.size, 2, none⟩ = some (.slice A2 n2 c2) ∧ x.cell? ⟨w.heap.size, 3, none⟩ = some (.slice A3 n3 c3) ∧ x.cell? ⟨w.heap.size, 4, none⟩ = some (.slice A4' n4 c4))) := by
    intro x hx
    have rx := hx.row RB3.out RB3.out.lt (by omega)
    exact ⟨hx, rx.cell 0, rx.cell 1, rx.cell 2, rx.cell 3, rx.cell 4⟩
  have hkeep : Hid (∀ x y : World, Lo x3.heap.size (w.heap.size + 1) x3 x → Below x.heap.size x y → (Lo x3.heap.size (w.heap.size + 1) x3 y ∧ y.cell? ⟨w.heap.size, 0, none⟩ = some (.int .i64 S) ∧ y.cell? ⟨w.heap.size, 1, none⟩ = some (.int .i64 (t : Int)) ∧ y.cell? ⟨w.heap.size, 2, none⟩ = some (.slice A2 n2 c2) ∧ y.cell? ⟨w.heap.size, 3, none⟩ = some (.slice A3 n3 c3) ∧ y.cell? ⟨w.heap.size, 4, none⟩ = some (.slice A4' n4 c4))) := fun x y h1 h2 => hcel.out y (h1.trans (Lo.below h2 h1.2.2.2.1))
  have hkeep4 : Hid (∀ (x : World) (v0 v1 v2 v3 : Value), Lo x3.heap.size (w.heap.size + 1) x3 x → (Lo x3.heap.size (w.heap.size + 1) x3 ((((x.setCell ⟨w.heap.size + 1, 0, none⟩ v0).setCell ⟨w.heap.size + 1, 1, none⟩ v1).setCell ⟨w.heap.size + 1, 2, none⟩ v2).setCell ⟨w.heap.size + 1, 3, none⟩ v3) ∧ ((((x.setCell ⟨w.heap.size + 1, 0, none⟩ v0).setCell ⟨w.heap.size + 1, 1, none⟩ v1).setCell ⟨w.heap.size + 1, 2, none⟩ v2).setCell ⟨w.heap.size + 1, 3, none⟩ v3).cell? ⟨w.heap.size, 0, none⟩ = some (.int .i64 S) ∧ ((((x.setCell ⟨w.heap.size + 1, 0, none⟩ v0).setCell ⟨w.heap.size + 1, 1, none⟩ v1).setCell ⟨w.heap.size + 1, 2, none⟩ v2).setCell ⟨w.heap.size + 1, 3, none⟩ v3).cell? ⟨w.heap.size, 1, none⟩ = some (.int .i64 (t : Int)) ∧ ((((x.setCell ⟨w.heap.size + 1, 0, none⟩ v0).setCell ⟨w.heap.size + 1, 1, none⟩ v1).setCell ⟨w.heap.size + 1, 2, none⟩ v2).setCell ⟨w.heap.size + 1, 3, none⟩ v3).cell? ⟨w.heap.size, 2, none⟩ = some (.slice A2 n2 c2) ∧ ((((x.setCell ⟨w.heap.size + 1, 0, none⟩ v0).setCell ⟨w.heap.size + 1, 1, none⟩ v1).setCell ⟨w.heap.size + 1, 2, none⟩ v2).setCell ⟨w.heap.size + 1, 3, none⟩ v3).cell? ⟨w.heap.size, 3, none⟩ = some (.slice A3 n3 c3) ∧ ((((x.setCell ⟨w.heap.size + 1, 0, none⟩ v0).setCell ⟨w.heap.size + 1, 1, none⟩ v1).setCell ⟨w.heap.size + 1, 2, none⟩ v2).setCell ⟨w.heap.size + 1, 3, none⟩ v3).cell? ⟨w.heap.size, 4, none⟩ = some (.slice A4' n4 c4))) := fun x v0 v1 v2 v3 h1 => hcel.out _ ((((h1.trans (Lo.set _ _ _ 0 v0)).trans (Lo.set _ _ _ 1 v1)).trans (Lo.set _ _ _ 2 v2)).trans (Lo.set _ _ _ 3 v3))
  have hfrom := hcel.out x3.drew (Lo.below (B := x3.heap.size) (Below.drew (Below.refl _ _)) (Nat.le_refl _))
  clear hms
  go_region_held3 (fun x => Lo x3.heap.size (w.heap.size + 1) x3 x ∧ x.cell? ⟨w.heap.size, 0, none⟩ = some (.int .i64 S) ∧ x.cell? ⟨w.heap.size, 1, none⟩ = some (.int .i64 (t : Int)) ∧ x.cell? ⟨w.heap.size, 2, none⟩ = some (.slice A2 n2 c2) ∧ x.cell? ⟨w.heap.size, 3, none⟩ = some (.slice A3 n3 c3) ∧ x.cell? ⟨w.heap.size, 4, none⟩ = some (.slice A4' n4 c4)) (first | (with_reducible assumption) | (with_reducible exact hkeep4.out _ _ _ _ _ (by first | (with_reducible assumption) | (with_reducible (apply And.left; assumption)))) | go_keep)
    (first
      | (go_at_call 39; refine (HSS.out _ (by first | (with_reducible assumption) | (with_reducible (apply And.left; assumption)))).mono ?_; rintro e y0 ⟨rfl, hy0⟩; obtain rfl := hy0)
      | (go_at_call 41; refine (HCL.out _ (by first | (with_reducible assumption) | (with_reducible (apply And.left; assumption)))).mono ?_; rintro e y1 ⟨rfl, hb1⟩; have s1 := (fun h => hkeep.out _ _ h hb1) (by first | (with_reducible assumption) | (with_reducible (apply And.left; assumption))); have RR1 := Lib.hid (Row.below (w := x3.drew) RR3.out hb1 RR3.out.lt); clear hb1)
      | (go_at_call 42; refine (HEX.out _ (by first | (with_reducible assumption) | (with_reducible (apply And.left; assumption)))).mono ?_; rintro e y2 ⟨B2, d2, B3, d3, rfl, hp2, hb2⟩; have s2 := (fun h => hkeep.out _ _ h hb2) (by first | (with_reducible assumption) | (with_reducible (apply And.left; assumption))); have HP2 := Lib.hid hp2; have HB2 := Lib.hid hb2; have rr2 := RR1.out.below hb2 RR1.out.lt; have z0 := rr2.cell 0; have z1 := rr2.cell 1; have z2 := rr2.cell 2; have z3 := rr2.cell 3; have f0 := rr2.frozen 0; have f1 := rr2.frozen 1; have f2 := rr2.frozen 2; have f3 := rr2.frozen 3; have RR2 := Lib.hid rr2; clear hp2 hb2 rr2))
  all_goals
    try clear z0 z1 z2 z3 f0 f1 f2 f3
    have hF := ((((RR2.out.set_ 0 (.int .i64 (exN (pxN L P.length) k0 t : Int))).set_ 1 (.int .i64 (exT (pxN L P.length) k0 t : Int))).set_ 2 (.slice B2 (exP (pxN L P.length) k0 t).length d2)).set_ 3 (.slice B3 (exD (pxN L P.length) (pxE E) k0 t).length d3))
    have hb2 := BX3.out.trans (s2.1.bel BX3.out.size (Nat.le_succ _))
    have hb1 := BX3.out.trans (s1.1.bel BX3.out.size (Nat.le_succ _))
    have hl1 := RR1.out.lt
    go_wp2_with fail
    refine bodyPost_ret (results_cell2 rfl _ _ (w.heap.size + 1) 33 #[.int .i64 (exN (pxN L P.length) k0 t : Int), .int .i64 (exT (pxN L P.length) k0 t : Int), .slice B2 (exP (pxN L P.length) k0 t).length d2, .slice B3 (exD (pxN L P.length) (pxE E) k0 t).length d3] (0, 0) _ (.bool (exAll (pxN L P.length) k0 t).isSome) rfl rfl hF Try.underlying33 rfl (by kernel_rfl)) rfl ?_
    refine ⟨_, rfl, ?_, set4_below hb2 (Nat.le_succ _) _ _ _ _⟩
    exact plw_low HP2.out hb1.size (set4_size _ _ _ _ _ _) (fun k hk => set4_heap _ _ _ _ _ _ _ (by omega))
end Go.Proofs.Ytbdfbmohdbigfaa
