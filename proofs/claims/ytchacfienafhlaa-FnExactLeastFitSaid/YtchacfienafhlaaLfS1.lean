/- LeastFit of the reference: l02At, l02Run, l04Fits. -/
import Derived.Test.YtchacfienafhlaaLfK
import Derived.Deep.QuietTactic
import Derived.BigQuiet
namespace Go.Proofs.Ytchacfienafhlaa
open Go.RowKit
set_option linter.unusedVariables false
set_option maxHeartbeats 4000000 in
theorem sAt_any (gm S : Nat) (T : Int) (A2 : Option Addr) (n2 c2 : Nat) (A3 : Option Addr) (n3 c3 : Nat) (t : List Int) (A : Option Addr) (n c : Nat) (xs : List Int) (w : World) (hr : Row w gm 30 (BxP (S : Int) T A2 n2 c2 A3 n3 c3)) (h : SlI w w.heap.size A2 n2 t) (hx : SlI w w.heap.size A n xs) (hS : 0 < S ∧ S ≤ 3) (hT : 1 ≤ T ∧ T ≤ 2) (hn2 : (n2 : Int) = (S : Int) * T) (ht : ∀ x ∈ t, 0 ≤ x ∧ x < (S : Int)) (hw : allIn xs 0 (T - 1) = true) (hn : n ≤ 1000) :
    Calls Try.prog 99 #[.pointer (some ⟨gm, 0, none⟩), .slice A n c] w fun e w' => e = .returned (.int .i64 (rnW t T xs)) ∧ Below w.heap.size w w' := by
  have hl := hx.len
  have H := Lib.hid h; have HX := Lib.hid hx; have RB := Lib.hid hr; have HW := Lib.hid hw; have HL := Lib.hid hl
  have HR := Lib.hid (fun k => rnW_bd (T := T) hS.1 ht (xs.take k))
  have HN2 := Lib.hid hn2
  clear h hx hr hw hl ht hn2
  have r0 := RB.out.cell 0; have r1 := RB.out.cell 1; have r2 := RB.out.cell 2; have r3 := RB.out.cell 3
  have R1 := Lib.hid r1; have R2 := Lib.hid r2
  clear r0 r1 r2 r3
  go_enter Try.func99, Try.ntmps99
  go_wp2_with fail
  go_loopg [5, 6] n (fun m s i wr => ∃ (k q : Nat), i = .int .i64 k ∧ k ≤ n ∧ n ≤ m + k ∧ s = .int .i64 (rnW t T (xs.take k)) ∧ wr = w.drewN q)
  case atStart => exact ⟨0, 0, rfl, by omega, by omega, rfl, rfl⟩
  case round =>
    obtain ⟨k, q, rfl, hk, hm, rfl, hwr⟩ := hrel
    obtain ⟨wo, rfl⟩ : ∃ x : World, x = wr := ⟨_, rfl⟩
    have BX : Hid (Below w.heap.size w wo) := by rw [hwr]; exact below_draws (Below.refl _ _) _
    have RBo : Hid (Row wo gm 30 (BxP (S : Int) T A2 n2 c2 A3 n3 c3)) := by rw [hwr]; exact RB.out
    have Ho : Hid (SlI wo wo.heap.size A2 n2 t) := by rw [hwr]; exact H.out
    have HXo : Hid (SlI wo wo.heap.size A n xs) := by rw [hwr]; exact HX.out
    have HWR := Lib.hid hwr
    clear hwr
    by_cases hlt : k < n
    · have q1 : (k : Int) < (n : Int) := by omega
      have q0 : (0 : Int) ≤ (k : Int) := by omega
      obtain ⟨b, off, x, rfl, _, hx, kx⟩ := HXo.out.at_ hlt
      have hxb := word_at HW.out hx.out
      have hsb := HR.out k
      have HE := Lib.hid (rnW_take (t := t) (T := T) hx.out)
      obtain ⟨s, hs⟩ : ∃ s, s = rnW t T (xs.take k) := ⟨_, rfl⟩
      rw [← hs] at hsb ⊢
      have hn2 := HN2.out
      have hsT : (s + 1) * T ≤ (S : Int) * T := Int.mul_le_mul_of_nonneg_right (by omega) (by omega)
      have hsT0 : 0 ≤ s * T := Int.mul_nonneg hsb.1 (by omega)
      have hST : (S : Int) * T ≤ 3 * 2 := Int.mul_le_mul (by omega) (by omega) (by omega) (by omega)
      rw [Int.add_mul, Int.one_mul] at hsT
      obtain ⟨p, hp⟩ : ∃ p, p = s * T := ⟨_, rfl⟩
      rw [← hp] at hsT hsT0
      obtain ⟨j, hj⟩ : ∃ j : Nat, p + x = (j : Int) := ⟨(p + x).toNat, by omega⟩
      have hjl : j < n2 := by omega
      obtain ⟨b2, off2, v, e2, _, hv, cv⟩ := Ho.out.at_ hjl
      obtain rfl := e2
      have HE2 : Hid (rnW t T (xs.take (k + 1)) = v) := by
        show _ = _
        rw [HE.out, ← hs, ← hp, hj, Int.toNat_natCast, List.getD_eq_getElem?_getD, hv.out]; rfl
      have w1 : IntKind.i64.wrap (s * T) = p := by rw [← hp]; exact IntWalk.i64_in _ (by omega)
      have w2 : IntKind.i64.wrap (p + x) = (j : Int) := by rw [hj]; exact IntWalk.i64_in _ (by omega)
      have l1 : (0 : Int) ≤ (j : Int) := by omega
      have l2 : (j : Int) < (n2 : Int) := by omega
      have r1 := RBo.out.cell 1; have r2 := RBo.out.cell 2
      clear hn2 hsT hsT0 hST hs HE hp hj hv hsb hxb
      go_wp2_with fail
      go_quiet (fail)
      go_wp2_with fail
      go_roundg (gk - 1)
      case measure => omega
      case rel => exact ⟨k + 1, q + nq, by go_num, by omega, by omega, by rw [HE2.out], by rw [HWR.out]; simp [World.drewN, Nat.add_assoc]⟩
    · have q1 : (n : Int) ≤ (k : Int) := by omega
      have HT : Hid (rnW t T (xs.take k) = rnW t T xs) := by show _ = _; rw [List.take_of_length_le (by have := HL.out; omega)]
      go_wp2_with fail
      go_ret
      exact ⟨ret_int HT.out, BX.out⟩
set_option maxHeartbeats 4000000 in
theorem sRun_any (gm S : Nat) (T : Int) (A2 : Option Addr) (n2 c2 : Nat) (A3 : Option Addr) (c3 : Nat) (t : List Int) (E : List Bool) (A : Option Addr) (n c : Nat) (xs : List Int) (w : World) (hr : Row w gm 30 (BxP (S : Int) T A2 n2 c2 A3 S c3)) (h : SlI w w.heap.size A2 n2 t) (h3 : SlB w w.heap.size A3 S E) (hx : SlI w w.heap.size A n xs) (hS : 0 < S ∧ S ≤ 3) (hT : 1 ≤ T ∧ T ≤ 2) (hn2 : (n2 : Int) = (S : Int) * T) (ht : ∀ x ∈ t, 0 ≤ x ∧ x < (S : Int)) (hw : allIn xs 0 (T - 1) = true) (hn : n ≤ 1000) :
    Calls Try.prog 76 #[.pointer (some ⟨gm, 0, none⟩), .slice A n c] w fun e w' => e = .returned (.bool (E.getD (rnW t T xs).toNat false)) ∧ Below w.heap.size w w' := by
  have C := sAt_any gm S T A2 n2 c2 A3 S c3 t A n c xs w.drew hr h hx hS hT hn2 ht hw hn
  have hb := rnW_bd (T := T) hS.1 ht xs
  obtain ⟨st, hst⟩ : ∃ s : Nat, rnW t T xs = (s : Int) := ⟨(rnW t T xs).toNat, by omega⟩
  rw [hst] at C hb
  have hs1 : st < S := by omega
  obtain ⟨b, off, ev, e3, hbl, hv, cv⟩ := h3.at_ hs1
  obtain rfl := e3
  have HGD : Hid (E.getD (rnW t T xs).toNat false = ev) := by show _ = _; rw [hst, Int.toNat_natCast, List.getD_eq_getElem?_getD, hv.out]; rfl
  have q2 : (0 : Int) ≤ (st : Int) := by omega
  have q3 : (st : Int) < (S : Int) := by omega
  have hgm := hr.lt
  have hfrom : w.drew.cell? ⟨gm, 3, none⟩ = some (.slice (some ⟨b, off, none⟩) S c3) ∧ w.drew.cell? ⟨b, off + st, none⟩ = some (.bool ev) := ⟨hr.cell 3, cv⟩
  have HKY : Hid (∀ x : World, Below w.heap.size w x → x.cell? ⟨gm, 3, none⟩ = some (.slice (some ⟨b, off, none⟩) S c3) ∧ x.cell? ⟨b, off + st, none⟩ = some (.bool ev)) := fun x hx => ⟨(hx.cell (p := ⟨gm, 3, none⟩) hgm).trans (hr.cell 3), (hx.cell (p := ⟨b, off + st, none⟩) hbl).trans cv⟩
  clear hst hr h h3 hx ht hw hn2 hb cv hv
  go_enter Try.func76, Try.ntmps76
  go_upto_region 1 with fail
  go_region_held3 (fun x => x.cell? ⟨gm, 3, none⟩ = some (.slice (some ⟨b, off, none⟩) S c3) ∧ x.cell? ⟨b, off + st, none⟩ = some (.bool ev)) (first | assumption | go_keep)
    (first
      | (go_at_call 99; refine C.mono ?_; rintro e wy ⟨rfl, hby⟩; have HBy : Hid (Below w.heap.size w wy) := ((Below.drew (Below.refl w.heap.size w)).trans hby); have hky := HKY.out wy HBy.out; clear hby))
  all_goals
    clear hfrom C
    go_wp2_with fail
    go_ret
    exact ⟨ret_bool HGD.out.symm, HBy.out⟩
set_option maxRecDepth 100000 in
set_option maxHeartbeats 4000000 in
theorem sFits_any (gm S : Nat) (T : Int) (A2 : Option Addr) (n2 c2 : Nat) (A3 : Option Addr) (c3 : Nat) (t : List Int) (E : List Bool) (A : Option Addr) (n c : Nat) (good : List (List Int)) (A' : Option Addr) (n' c' : Nat) (bad : List (List Int)) (w : World) (hr : Row w gm 30 (BxP (S : Int) T A2 n2 c2 A3 S c3)) (h : SlI w w.heap.size A2 n2 t) (h3 : SlB w w.heap.size A3 S E) (hg : SlL w w.heap.size A n good) (hb : SlL w w.heap.size A' n' bad) (hS : 0 < S ∧ S ≤ 3) (hT : 1 ≤ T ∧ T ≤ 2) (hn2 : (n2 : Int) = (S : Int) * T) (ht : ∀ x ∈ t, 0 ≤ x ∧ x < (S : Int)) (hwg : ∀ x ∈ good, allIn x 0 (T - 1) = true ∧ x.length ≤ 12) (hwb : ∀ x ∈ bad, allIn x 0 (T - 1) = true ∧ x.length ≤ 12) (hn : n ≤ 1000) (hn' : n' ≤ 1000) :
    Calls Try.prog 46 #[.pointer (some ⟨gm, 0, none⟩), .slice A n c, .slice A' n' c'] w fun e w' => e = .returned (.bool (fitE (fun x => (rnW t T x).toNat) E good bad)) ∧ Below w.heap.size w w' := by
  obtain ⟨f, hf⟩ : ∃ f : List Int → Nat, f = fun x => (rnW t T x).toNat := ⟨_, rfl⟩
  rw [← hf]
  have CS : Hid (∀ (x : World) (A0 : Option Addr) (c0 : Nat) (xs : List Int), Below w.heap.size w x → SlI x x.heap.size A0 xs.length xs → allIn xs 0 (T - 1) = true ∧ xs.length ≤ 12 → Calls Try.prog 76 #[.pointer (some ⟨gm, 0, none⟩), .slice A0 xs.length c0] x fun e w' => e = .returned (.bool (E.getD (f xs) false)) ∧ Below x.heap.size x w') := fun x A0 c0 xs h1 h2 h4 => by
    rw [hf]
    exact sRun_any gm S T A2 n2 c2 A3 c3 t E A0 xs.length c0 xs x (hr.below h1 hr.lt) ((h.below h1 (Nat.le_refl _)).more h1.size) ((h3.below h1 (Nat.le_refl _)).more h1.size) h2 hS hT hn2 ht h4.1 (by omega)
  have HDF : Hid (fitE f E good bad = ((good.all fun x => E.getD (f x) false) && bad.all fun x => !E.getD (f x) false)) := rfl
  have HG := Lib.hid hg; have HB := Lib.hid hb; have HWG := Lib.hid hwg; have HWB := Lib.hid hwb
  clear hf hr h h3 hg hb ht hwg hwb hn2
  go_enter Try.func46, Try.ntmps46
  go_wp2_with fail
  go_loopg [7] n (fun m i wr => ∃ k : Nat, i = .int .i64 k ∧ k ≤ n ∧ n ≤ m + k ∧ Hid ((good.take k).all (fun x => E.getD (f x) false) = true) ∧ Hid (Below w.heap.size w wr))
  case atStart => exact ⟨0, rfl, by omega, by omega, rfl, Below.refl _ _⟩
  case round =>
    obtain ⟨k, rfl, hk, hm, HA, BX⟩ := hrel
    obtain ⟨wo, rfl⟩ : ∃ x : World, x = wr := ⟨_, rfl⟩
    by_cases hlt : k < n
    · have q1 : (k : Int) < (n : Int) := by omega
      have q0 : (0 : Int) ≤ (k : Int) := by omega
      obtain ⟨b, off, A0, c0, xs, rfl, _, hx, kx, hxs, _⟩ := (HG.out.below BX.out (Nat.le_refl _)).at_ hlt
      have CSx := CS.out wo A0 c0 xs BX.out (hxs.out.more BX.out.size) (HWG.out xs (List.mem_of_getElem? hx.out))
      obtain ⟨ev, hev⟩ : ∃ v, v = E.getD (f xs) false := ⟨_, rfl⟩
      rw [← hev] at CSx
      have HEV := Lib.hid hev
      clear hev hxs
      cases ev
      · have HA2 := Lib.hid (allL_no (f := fun x => E.getD (f x) false) hx.out HEV.out.symm)
        go_wp2_with fail
        refine CSx.mono ?_; rintro e w1 ⟨rfl, hb1⟩
        have BX1 : Hid (Below w.heap.size w w1) := BX.out.trans (hb1.mono BX.out.size)
        clear CSx hb1
        go_wp2_with fail
        go_ret
        exact ⟨ret_bool (by rw [HDF.out, HA2.out]; rfl), BX1.out⟩
      · have HA2 := Lib.hid (allL_take (f := fun x => E.getD (f x) false) hx.out HA.out HEV.out.symm)
        go_wp2_with fail
        refine CSx.mono ?_; rintro e w1 ⟨rfl, hb1⟩
        have BX1 : Hid (Below w.heap.size w w1) := BX.out.trans (hb1.mono BX.out.size)
        clear CSx hb1 kx
        go_wp2_with fail
        go_roundg (gk - 1)
        case measure => omega
        case rel => exact ⟨k + 1, by go_num, by omega, by omega, HA2.out, BX1.out⟩
    · have hkk : k = n := by omega
      have q1 : (n : Int) ≤ (k : Int) := by omega
      have HA0 : Hid (good.all (fun x => E.getD (f x) false) = true) := by
        have := HA.out
        rw [List.take_of_length_le (by rw [HG.out.len]; omega)] at this
        exact this
      have q9 : decide (k < n) = false := decide_eq_false (by omega)
      clear hkk hlt HA
      go_wp2_with fail
      go_loopg [8] n' (fun m i wr => ∃ k : Nat, i = .int .i64 k ∧ k ≤ n' ∧ n' ≤ m + k ∧ Hid ((bad.take k).all (fun x => !E.getD (f x) false) = true) ∧ Hid (Below w.heap.size w wr))
      case atStart => exact ⟨0, rfl, by omega, by omega, rfl, BX.out⟩
      case round =>
        clear BX
        obtain ⟨k, rfl, hk, hm, HA, BX⟩ := hrel
        obtain ⟨wi, rfl⟩ : ∃ x : World, x = wr := ⟨_, rfl⟩
        by_cases hlt : k < n'
        · have q1 : (k : Int) < (n' : Int) := by omega
          have q0 : (0 : Int) ≤ (k : Int) := by omega
          obtain ⟨b, off, A0, c0, xs, rfl, _, hx, kx, hxs, _⟩ := (HB.out.below BX.out (Nat.le_refl _)).at_ hlt
          have CSx := CS.out wi A0 c0 xs BX.out (hxs.out.more BX.out.size) (HWB.out xs (List.mem_of_getElem? hx.out))
          obtain ⟨ev, hev⟩ : ∃ v, v = E.getD (f xs) false := ⟨_, rfl⟩
          rw [← hev] at CSx
          have HEV := Lib.hid hev
          clear hev hxs
          cases ev
          · have HA2 := Lib.hid (allL_take (f := fun x => !E.getD (f x) false) hx.out HA.out (by rw [← HEV.out]; rfl))
            go_wp2_with fail
            refine CSx.mono ?_; rintro e w1 ⟨rfl, hb1⟩
            have BX1 : Hid (Below w.heap.size w w1) := BX.out.trans (hb1.mono BX.out.size)
            clear CSx hb1 kx
            go_wp2_with fail
            go_roundg (gk - 1)
            case measure => omega
            case rel => exact ⟨k + 1, by go_num, by omega, by omega, HA2.out, BX1.out⟩
          · have HA2 := Lib.hid (allL_no (f := fun x => !E.getD (f x) false) hx.out (by rw [← HEV.out]; rfl))
            go_wp2_with fail
            refine CSx.mono ?_; rintro e w1 ⟨rfl, hb1⟩
            have BX1 : Hid (Below w.heap.size w w1) := BX.out.trans (hb1.mono BX.out.size)
            clear CSx hb1
            go_wp2_with fail
            go_ret
            exact ⟨ret_bool (by rw [HDF.out, HA2.out, Bool.and_false]), BX1.out⟩
        · have hkk : k = n' := by omega
          have q1 : (n' : Int) ≤ (k : Int) := by omega
          have HA1 : Hid (bad.all (fun x => !E.getD (f x) false) = true) := by
            have := HA.out
            rw [List.take_of_length_le (by rw [HB.out.len]; omega)] at this
            exact this
          clear hkk hlt
          go_wp2_with fail
          go_ret
          exact ⟨ret_bool (by rw [HDF.out, HA0.out, HA1.out]; rfl), BX.out⟩
end Go.Proofs.Ytchacfienafhlaa
