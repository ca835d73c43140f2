/- Several texts in one: endCosts of the program: the least costs to the ends, along all arcs. Parts of BestWord of the program: the least sum as a quiet call, the test of a row, the first row that passes it. -/
import Derived.Test.YtedbngnkkfpbeaaCoW
import Derived.Test.YtedbngnkkfpbeaaBwQ
import Derived.Test.YtedbngnkkfpbeaaRcC

namespace Go.Proofs.Ytedbngnkkfpbeaa
open Go.RowKit
set_option linter.unusedVariables false
set_option maxRecDepth 100000 in
set_option maxHeartbeats 4000000 in
theorem iEnd_any (S T : Int) (L : List A4) (E : List Int) (A2 : Option Addr) (n2 c2 : Nat) (A3 : Option Addr) (n3 c3 : Nat) (A4' : Option Addr) (n4 c4 : Nat) (w : World) (h2 : SlA w w.heap.size A2 n2 L) (h4 : SlI w w.heap.size A4' n4 E) (hE : ∀ x ∈ E, x ≤ 1000) (hL : okM E.length L) (h0 : 0 < n4) (hn : n4 ≤ 16) (hn2 : n2 ≤ 1000) :
    Calls Try.prog 33 #[.agg #[.int .i64 S, .int .i64 T, .slice A2 n2 c2, .slice A3 n3 c3, .slice A4' n4 c4]] w fun e w' => ∃ g c', e = .returned (.slice (some ⟨g, 0, none⟩) n4 c') ∧ RowI w' w.heap.size 2 (.slice (some ⟨g, 0, none⟩) n4 c') (edV 1099511627776 L E) ∧ Below w.heap.size w w' := by
  have rb := Row.new w 28 (BxM S T A2 n2 c2 A3 n3 c3 A4' n4 c4)
  have bx : Below w.heap.size w (w.alloc (.cells (BxM S T A2 n2 c2 A3 n3 c3 A4' n4 c4).toArray 28)) := (Below.refl _ _).alloc (Nat.le_refl _) _
  have hln2 := h2.len; have hen := h4.len
  have RB := Lib.hid rb; have BX := Lib.hid bx; have H2 := Lib.hid h2; have H4 := Lib.hid h4; have HLN := Lib.hid hln2; have HEN := Lib.hid hen
  have HL : Hid (∀ a ∈ L, 0 ≤ a.2.2.2) := hL.cost
  have HLb : Hid (∀ a ∈ L.map bkE, 0 ≤ a.2.2.2) := hL.bkE.cost
  have HVF : Hid (∀ x ∈ E, x ≤ 1099511627776) := fun x hx => by have := hE x hx; omega
  clear rb bx h2 h4 hln2
  go_enter Try.func33, Try.ntmps33
  have k4 := RB.out.cell 4
  go_wp2_with fail
  clear k4
  refine (iFarther_any A4' n4 c4 E _ ((H4.out.below BX.out (Nat.le_refl _)).more BX.out.size) h0 (by omega)).mono ?_
  rintro e w0 ⟨g, c, rfl, hr0, hb0⟩
  obtain ⟨hlg', hgs⟩ := hr0.lt
  have hbw : Below w.heap.size w w0 := BX.out.trans (hb0.mono BX.out.size)
  have hgw : w.heap.size < g := Nat.lt_of_lt_of_le (by simp) hlg'
  have hr1 : RowI w0 w.heap.size 2 (.slice (some ⟨g, 0, none⟩) n4 c) (frL 1099511627776 E) := World.ownsRow.mono hr0 BX.out.size
  have RB0 := Lib.hid (RB.out.below hb0 RB.out.lt)
  have H20 := Lib.hid (H2.out.below hbw (Nat.le_refl _))
  have B1 := Lib.hid hbw
  have HRA := Lib.hid hr1
  have HV : Hid (Bd 1099511627776 (frL 1099511627776 E)) := frL_bd (by omega) HVF.out
  have HVN : Hid ((frL 1099511627776 E).length = n4) := by show _ = _; rw [frL_len]; exact HEN.out
  rw [hen] at hL
  have hlg : w.heap.size ≤ g := by omega
  have hlo0 : w.heap.size ≤ w0.heap.size := hbw.size
  have HG : Hid (w.heap.size ≠ g) := by show _ ≠ _; omega
  obtain ⟨v, hvv⟩ : ∃ v, v = frL 1099511627776 E := ⟨_, rfl⟩
  rw [← hvv] at HRA HV HVN
  have HVE := Lib.hid hvv
  clear hr0 hb0 hlg' hbw hr1 RB H2 H4 BX hen hvv HVF
  have RB := RB0; have H2 := H20; clear RB0 H20
  obtain ⟨lo, hlo⟩ : ∃ lo, lo = w.heap.size := ⟨_, rfl⟩
  rw [← hlo] at HRA H2 hlg hlo0
  have HLO := Lib.hid hlo; clear hlo
  go_wp2_with fail
  go_loopg [5, 11] n4 (fun m u i wr => ∃ r : Nat, i = .int .i64 r ∧ r ≤ n4 ∧ n4 ≤ m + r ∧ Hid (RowI wr lo 2 (.slice (some ⟨g, 0, none⟩) n4 c) (relN (L.map bkE) v r)) ∧ Hid (But g w0 wr))
  case atStart => exact ⟨0, rfl, by omega, by omega, HRA.out, But.refl _ _⟩
  case round =>
    obtain ⟨r, rfl, hr, hm, HR, HB⟩ := hrel
    obtain ⟨wo, rfl⟩ : ∃ x : World, x = wr := ⟨_, rfl⟩
    by_cases hlt : r < n4
    · have q1 : (r : Int) < (n4 : Int) := by omega
      have k2 := (RB.out.but HB.out HG.out).cell 2
      go_wp2_with fail
      clear k2
      obtain ⟨go, hgo⟩ : ∃ x : Nat, x = gk := ⟨_, rfl⟩
      go_loopg [5, 16] n2 (fun m u i wr => ∃ j : Nat, i = .int .i64 j ∧ j ≤ n2 ∧ n2 ≤ m + j ∧ Hid (RowI wr lo 2 (.slice (some ⟨g, 0, none⟩) n4 c) (rel ((L.map bkE).take j) (relN (L.map bkE) v r))) ∧ Hid (But g w0 wr))
      case atStart => exact ⟨0, rfl, by omega, by omega, by rw [List.take_zero]; exact HR.out, HB.out⟩
      case round =>
        clear HR HB
        obtain ⟨j, rfl, hj, hm2, HR, HB⟩ := hrel
        obtain ⟨wi, rfl⟩ : ∃ x : World, x = wr := ⟨_, rfl⟩
        by_cases hlt2 : j < n2
        · obtain ⟨b, off, a0, a1, a2, a3, rfl, hbB, hx, c0, c1, c2', c3'⟩ := (H2.out.but HB.out hlg hlo0).at_ hlt2
          have ha := hL _ (List.mem_of_getElem? hx.out)
          simp only at ha
          obtain ⟨⟨f0, f1⟩, ⟨t0, t1⟩, p0, p1⟩ := ha
          obtain ⟨f, rfl⟩ : ∃ x : Nat, a0 = (x : Int) := ⟨a0.toNat, by omega⟩
          obtain ⟨t, rfl⟩ : ∃ x : Nat, a1 = (x : Int) := ⟨a1.toNat, by omega⟩
          have HST := Lib.hid (rel_take (v := relN (L.map bkE) v r) (L := L.map bkE) (show (L.map bkE)[j]? = some (bkE ((f : Int), (t : Int), a2, a3)) by rw [List.getElem?_map, hx.out]; rfl))
          have l1 : (j : Int) < (n2 : Int) := by omega
          have RA := Row.new wi 89 [.int .i64 f, .int .i64 t, .int .i64 a2, .int .i64 a3]
          have d0 := RA.cell 0; have d1 := RA.cell 1; have d2 := RA.cell 2; have d3 := RA.cell 3
          have HR1 := Lib.hid (HR.out.alloc (.cells ([.int .i64 f, .int .i64 t, .int .i64 a2, .int .i64 a3] : List Value).toArray 89))
          have HB1 := Lib.hid (HB.out.alloc (.cells ([.int .i64 f, .int .i64 t, .int .i64 a2, .int .i64 a3] : List Value).toArray 89))
          clear RA
          have hlen : (rel ((L.map bkE).take j) (relN (L.map bkE) v r)).length = n4 := by rw [rel_len, relN_len]; exact HVN.out
          have hbd : Bd 1099511627776 (rel ((L.map bkE).take j) (relN (L.map bkE) v r)) := Bd.relT (by omega) (Bd.relN (by omega) HV.out HLb.out r) (fun a ha => HLb.out a (List.mem_of_mem_take ha))
          obtain ⟨u, hu⟩ : ∃ u, u = rel ((L.map bkE).take j) (relN (L.map bkE) v r) := ⟨_, rfl⟩
          rw [← hu] at HR1 HST hlen hbd
          have HU := Lib.hid hu; clear hu HR HB
          have hxf := g0_some (show t < u.length by omega)
          have hxt := g0_some (show f < u.length by omega)
          have bf := hbd.get hxf
          have bt := hbd.get hxt
          obtain ⟨x2, hx2⟩ : ∃ x, x = g0 u t := ⟨_, rfl⟩
          obtain ⟨x1, hx1⟩ : ∃ x, x = g0 u f := ⟨_, rfl⟩
          rw [← hx2] at hxf bf
          rw [← hx1] at hxt bt
          have k1 := HR1.out.cell hxf
          have k2 := HR1.out.cell hxt
          have kf := HR1.out.frozen f
          obtain ⟨m1, hm1⟩ : ∃ m, (if x2 + a3 < x1 then x2 + a3 else x1) = m := ⟨_, rfl⟩
          have HST2 : Hid (rel ((L.map bkE).take (j + 1)) (relN (L.map bkE) v r) = u.set f m1) := by
            show _ = _
            rw [HST.out, rel1, if_pos (show (bkE ((f : Int), (t : Int), a2, a3)).2.2.1 < 0 by show (-1 : Int) < 0; omega)]
            show u.set (Int.toNat (f : Int)) (Min.min (g0 u (Int.toNat (f : Int))) (g0 u (Int.toNat (t : Int)) + a3)) = _
            rw [Int.toNat_natCast, Int.toNat_natCast, ← hx1, ← hx2, ← hm1]
            congr 1
            split <;> omega
          have e1 : IntKind.i64.wrap (x2 + a3) = x2 + a3 := IntWalk.i64_in _ (by omega)
          obtain ⟨bf0, bf1⟩ := bf; obtain ⟨bt0, bt1⟩ := bt
          have HST0 := HST2
          clear hx1 hx2 HST hxf hxt
          go_wp2_with fail
          clear p0 p1
          refine wp_tail 18 (by kernel_rfl) (by kernel_rfl) (fun y hy => ?_)
          have y0 : y.cell? ⟨wi.heap.size, 0, none⟩ = some (.int .i64 f) := by rw [hy]; exact d0
          have y1 : y.cell? ⟨wi.heap.size, 1, none⟩ = some (.int .i64 t) := by rw [hy]; exact d1
          have y3 : y.cell? ⟨wi.heap.size, 3, none⟩ = some (.int .i64 a3) := by rw [hy]; exact d3
          have y4 : y.cell? ⟨g, t, none⟩ = some (.int .i64 x2) := by rw [hy]; exact k1
          have y5 : y.cell? ⟨g, f, none⟩ = some (.int .i64 x1) := by rw [hy]; exact k2
          have y6 : y.frozen? ⟨g, f, none⟩ = false := by rw [hy]; exact kf
          have HRy : Hid (RowI y lo 2 (.slice (some ⟨g, 0, none⟩) n4 c) u) := by rw [hy]; exact HR1.out
          have HBy : Hid (But g w0 y) := by rw [hy]; exact HB1.out
          clear hy k1 k2 kf d0 d1 d2 d3 HR1 HB1
          simp only [List.take_succ_cons, List.take_zero, List.drop_succ_cons, List.drop_zero]
          repeat still_step
          refine wpStill_nil ?_
          go_wp2
          go_roundg (gk - 1)
          case measure => omega
          case rel =>
            refine ⟨j + 1, by go_num, by omega, by omega, ?_, HBy.out.trans (But.set _ _ _)⟩
            show RowI _ _ _ _ _
            rw [HST2.out]; exact HRy.out.set f m1
        · obtain rfl : j = n2 := by omega
          go_wp2_with fail
          go_roundg (go - 1)
          case measure => omega
          case rel =>
            refine ⟨r + 1, by go_num, by omega, by omega, ?_, HB.out⟩
            have e := HR.out
            rw [← HLN.out, show L.length = (L.map bkE).length by simp, List.take_length] at e
            exact e
    · obtain rfl : r = n4 := by omega
      go_wp2_with fail
      go_ret
      refine ⟨g, c, rfl, ?_, B1.out.trans (HB.out.below (B := w.heap.size) (by have := HLO.out; omega) (by have := HLO.out; omega))⟩
      unfold edV
      rw [HEN.out, ← HVE.out]
      exact World.ownsRow.mono HR.out (by rw [HLO.out]; exact Nat.le_refl _)
end Go.Proofs.Ytedbngnkkfpbeaa


namespace Go.Proofs.Ytedbngnkkfpbeaa
open Go.RowKit
set_option linter.unusedVariables false
set_option maxRecDepth 100000 in
set_option maxHeartbeats 4000000 in
theorem iLeastSumQ_any (A : Option Addr) (n c : Nat) (a : List Int) (A' : Option Addr) (c' : Nat) (b : List Int) (w : World) (h : SlI w w.heap.size A n a) (h' : SlI w w.heap.size A' n b) (ha : Bd 1099511627776 a) (hb : Bd 1099511627776 b) (hn : n ≤ 1000000) :
    Calls Try.prog 32 #[.slice A n c, .slice A' n c'] w fun e w' => e = .returned (.int .i64 (lsV 1099511627776 a b)) ∧ ∃ d, w' = w.drewN d := by
  have hla := h.len
  have hlb := h'.len
  have hbd := lsm_bd (by omega) ha hb
  have H := Lib.hid h; have H' := Lib.hid h'; have HLA := Lib.hid hla; have HLB := Lib.hid hlb
  have HBD := Lib.hid hbd
  clear h h' hla hlb hbd
  go_enter Try.func32, Try.ntmps32
  go_wp2_with fail
  go_loopg [5, 6, 9] n (fun m s u6 i wr => ∃ k : Nat, i = .int .i64 k ∧ k ≤ n ∧ n ≤ m + k ∧ s = .int .i64 (lsm 1099511627776 a b k) ∧ Hid (∃ d, wr = w.drewN d))
  case atStart => exact ⟨0, rfl, by omega, by omega, rfl, ⟨0, rfl⟩⟩
  case round =>
    obtain ⟨k, rfl, hk, hm, rfl, HD⟩ := hrel
    obtain ⟨wo, rfl⟩ : ∃ x : World, x = wr := ⟨_, rfl⟩
    have HB : Hid (Below w.heap.size w wo) := by obtain ⟨d, hd⟩ := HD.out; show Below _ _ _; rw [hd]; exact below_draws (Below.refl _ _) d
    have hs := HBD.out k
    by_cases hlt : k < n
    · have q1 : (k : Int) < (n : Int) := by omega
      obtain ⟨b1, off1, x, rfl, _, hx, cx⟩ := (H.out.below HB.out (Nat.le_refl _)).at_ hlt
      obtain ⟨b2, off2, y, rfl, _, hy, cy⟩ := (H'.out.below HB.out (Nat.le_refl _)).at_ hlt
      have bx := ha.get hx.out
      have by' := hb.get hy.out
      obtain ⟨bx0, bx1⟩ := bx; obtain ⟨by0, by1⟩ := by'
      obtain ⟨s, hs0⟩ : ∃ s, s = lsm 1099511627776 a b k := ⟨_, rfl⟩
      rw [← hs0] at hs ⊢
      obtain ⟨s0, s1⟩ := hs
      obtain ⟨m1, hm1⟩ : ∃ m, (if x + y < s then x + y else s) = m := ⟨_, rfl⟩
      have HST : Hid (lsm 1099511627776 a b (k + 1) = m1) := by
        show _ = _
        rw [lsm_succ, ← hs0, g0_get hx.out, g0_get hy.out, ← hm1]
        split <;> omega
      have e1 : IntKind.i64.wrap (x + y) = x + y := IntWalk.i64_in _ (by omega)
      have HS0 := Lib.hid hs0
      clear hs0 hx hy
      go_wp2_with fail
      go_quiet (fail)
      go_wp2_with fail
      go_roundg (gk - 1)
      case measure => omega
      case rel => exact ⟨k + 1, by go_num, by omega, by omega, by rw [HST.out], by obtain ⟨d, hd⟩ := HD.out; rw [hd]; exact ⟨_, World.drewN_drewN _ _ _⟩⟩
    · have hkk : k = n := by omega
      have HK := Lib.hid hkk
      have q1 : (n : Int) ≤ (k : Int) := by omega
      obtain ⟨s, hs0⟩ : ∃ s, s = lsm 1099511627776 a b k := ⟨_, rfl⟩
      rw [← hs0] at hs ⊢
      have HS0 : Hid (lsV 1099511627776 a b = tld 1099511627776 s) := by show _ = _; rw [lsV, HLA.out, hs0, HK.out]
      clear hs0 hkk hlt
      by_cases hf : 1099511627776 ≤ s
      · have HV : Hid (lsV 1099511627776 a b = -1) := by show _ = _; rw [HS0.out, tld, if_pos hf]
        go_wp2_with fail
        go_ret
        exact ⟨by rw [HV.out]; rfl, HD.out⟩
      · have HV : Hid (lsV 1099511627776 a b = s) := by show _ = _; rw [HS0.out, tld, if_neg hf]
        have hf' : s < 1099511627776 := by omega
        clear hf
        go_wp2_with fail
        go_ret
        exact ⟨by rw [HV.out]; rfl, HD.out⟩
abbrev fnHit (g5 g6 : Nat) : Value := .func (.func 36) #[] #[.pointer (some ⟨g5, 0, none⟩), .pointer (some ⟨g6, 0, none⟩)]
set_option maxRecDepth 100000 in
set_option maxHeartbeats 4000000 in
theorem iHit_any (g5 g6 : Nat) (A' : Option Addr) (c' : Nat) (a : List Int) (best : Int) (A : Option Addr) (n c : Nat) (b : List Int) (w : World) (k5 : w.cell? ⟨g5, 0, none⟩ = some (.slice A' n c')) (k6 : w.cell? ⟨g6, 0, none⟩ = some (.int .i64 best)) (h' : SlI w w.heap.size A' n a) (h : SlI w w.heap.size A n b) (ha : Bd 1099511627776 a) (hb : Bd 1099511627776 b) (hn : n ≤ 1000000) :
    Calls Try.prog 36 #[.slice A n c, .pointer (some ⟨g5, 0, none⟩), .pointer (some ⟨g6, 0, none⟩)] w fun e w' => e = .returned (.bool (decide (lsV 1099511627776 a b = best))) ∧ ∃ d, w' = w.drewN d := by
  obtain ⟨x, hx⟩ : ∃ x, x = lsV 1099511627776 a b := ⟨_, rfl⟩
  have hQ : Hid (∀ q, Calls Try.prog 32 #[.slice A' n c', .slice A n c] (w.drewN q) fun e w' => e = .returned (.int .i64 x) ∧ ∃ m, w' = (w.drewN q).drewN m) := by
    intro q; rw [hx]; exact iLeastSumQ_any A' n c' a A c b (w.drewN q) h' h ha hb hn
  rw [← hx]
  clear hx h h' ha hb
  go_enter Try.func36, Try.ntmps36
  go_wp2_with fail
  go_quiet ((go_at_call 32; exact Calls.quiet_of (hQ.out _)))
  go_wp2_with fail
  go_ret
  exact ⟨ret_bool (by rfl), ⟨_, rfl⟩⟩
theorem fstT_none {p : Nat → Bool} : ∀ {f l : Nat}, (∀ j, l ≤ j → j < l + f → p j = false) → fstT p f l = l + f
  | 0, l, _ => rfl
  | f + 1, l, h => by
    show (if p l then l else fstT p f (l + 1)) = _
    rw [if_neg (by rw [h l (Nat.le_refl _) (by omega)]; simp), fstT_none (fun j h1 h2 => h j (by omega) (by omega))]
    omega
theorem fstT_hit {p : Nat → Bool} {f k : Nat} (h : ∀ j, j < k → p j = false) (hk : k < f) (hp : p k = true) : fstT p f 0 = k := by
  obtain ⟨a, _, c, _⟩ := fstT_spec (p := p) (f := f) (l := 0) (m := k) (by omega) (by omega) hp
  rcases Nat.lt_or_ge (fstT p f 0) k with h1 | h1
  · rw [h _ h1] at a; cases a
  · omega
/-- The place of the first one, or -1. -/
def ixV (p : Nat → Bool) (f : Nat) : Int := if fstT p f 0 < f then (fstT p f 0 : Int) else -1
set_option maxRecDepth 100000 in
set_option maxHeartbeats 4000000 in
theorem iIndex_any (base gt ct m : Nat) (R : List (List Int)) (g5 g6 : Nat) (A' : Option Addr) (n c' : Nat) (a : List Int) (best : Int) (w : World) (hT : TabI w base 26 (.slice (some ⟨gt, 0, none⟩) m ct) R) (hR : R.length = m) (hm : m ≤ 1000) (hRn : ∀ r ∈ R, r.length = n) (hRb : ∀ r ∈ R, Bd 1099511627776 r) (k5 : w.cell? ⟨g5, 0, none⟩ = some (.slice A' n c')) (k6 : w.cell? ⟨g6, 0, none⟩ = some (.int .i64 best)) (h' : SlI w w.heap.size A' n a) (ha : Bd 1099511627776 a) (hn : n ≤ 1000000) :
    Calls Try.prog 35 #[.slice (some ⟨gt, 0, none⟩) m ct, fnHit g5 g6] w fun e w' => e = .returned (.int .i64 (ixV (fun r => decide (lsV 1099511627776 a (R.getD r []) = best)) m)) ∧ ∃ d, w' = w.drewN d := by
  have HT := Lib.hid hT; have HR := Lib.hid hR; have HRN := Lib.hid hRn; have HRB := Lib.hid hRb; have K5 := Lib.hid k5; have K6 := Lib.hid k6; have H' := Lib.hid h'
  obtain ⟨p, hp⟩ : ∃ p, p = fun r => decide (lsV 1099511627776 a (R.getD r []) = best) := ⟨_, rfl⟩
  rw [← hp]
  have HP := Lib.hid hp
  clear hT hR hRn hRb k5 k6 h' hp
  go_enter Try.func35, Try.ntmps35
  go_wp2_with fail
  go_loopg [5, 8] m (fun q u5 i wr => ∃ k : Nat, i = .int .i64 k ∧ k ≤ m ∧ m ≤ q + k ∧ Hid (∀ j, j < k → p j = false) ∧ Hid (∃ d, wr = w.drewN d))
  case atStart => exact ⟨0, rfl, by omega, by omega, fun j h => by omega, ⟨0, rfl⟩⟩
  case round =>
    obtain ⟨k, rfl, hk, hq, HN, HD⟩ := hrel
    obtain ⟨wo, rfl⟩ : ∃ x : World, x = wr := ⟨_, rfl⟩
    obtain ⟨d, hd⟩ := HD.out
    subst hd
    by_cases hlt : k < m
    · have l0 : (0 : Int) ≤ (k : Int) := by omega
      have l1 : (k : Int) < (m : Int) := by omega
      obtain ⟨r, hr⟩ : ∃ r, R[k]? = some r := ⟨_, List.getElem?_eq_getElem (show k < R.length by have := HR.out; omega)⟩
      obtain ⟨gt', ct', gr, cr, hv, _, _, _, hck, _, _, hgr, _, hcells⟩ := HT.out.at_ hr
      injection hv with e1 e2 e3
      clear e2 e3
      injection e1 with e1
      injection e1 with e1 _ _
      subst e1
      have hrn : r.length = n := HRN.out r (List.mem_of_getElem? hr)
      rw [hrn] at hck
      have hsl : SlI w w.heap.size (some ⟨gr, 0, none⟩) n r := ⟨by rw [iv_length]; exact hrn, fun _ => ⟨gr, 0, rfl, hgr, fun j u hu => by
        obtain ⟨y, hy, rfl⟩ := iv_get hu
        rw [Nat.zero_add]; exact hcells j y hy⟩⟩
      have hH := iHit_any g5 g6 A' c' a best (some ⟨gr, 0, none⟩) n cr r (w.drewN d) K5.out K6.out H'.out hsl ha (HRB.out r (List.mem_of_getElem? hr)) hn
      have hpk : p k = decide (lsV 1099511627776 a r = best) := by
        rw [HP.out]
        show decide (lsV 1099511627776 a (R.getD k []) = best) = _
        rw [List.getD_eq_getElem?_getD, hr]; rfl
      rw [← hpk] at hH
      have HH := Lib.hid hH
      have hck' : (w.drewN d).cell? ⟨gt, k, none⟩ = some (.slice (some ⟨gr, 0, none⟩) n cr) := hck
      clear hcells hsl hH hpk hck hr HD hrn
      cases hpb : p k with
      | true =>
        have HX := Lib.hid (fstT_hit (f := m) HN.out hlt hpb)
        rw [hpb] at HH
        clear hpb
        go_wp2_with fail
        refine HH.out.mono ?_
        rintro e w' ⟨rfl, d2, rfl⟩
        go_wp2_with fail
        go_ret
        exact ⟨ret_int (by rw [ixV, HX.out, if_pos hlt]), ⟨_, rfl⟩⟩
      | false =>
        have HN2 : Hid (∀ j, j < k + 1 → p j = false) := fun j hj => by
          by_cases e : j = k
          · rw [e]; exact hpb
          · exact HN.out j (by omega)
        rw [hpb] at HH
        clear hpb
        go_wp2_with fail
        refine HH.out.mono ?_
        rintro e w' ⟨rfl, d2, rfl⟩
        go_wp2_with fail
        go_roundg (gk - 1)
        case measure => omega
        case rel => exact ⟨k + 1, by go_num, by omega, by omega, HN2.out, ⟨_, rfl⟩⟩
    · have hkk : k = m := by omega
      have l1 : (m : Int) ≤ (k : Int) := by omega
      have HX : Hid (fstT p m 0 = m) := by
        have := fstT_none (p := p) (f := m) (l := 0) (fun j _ h2 => HN.out j (by omega))
        show _ = _
        omega
      clear hkk hlt
      go_wp2_with fail
      go_ret
      exact ⟨ret_int (by rw [ixV, HX.out, if_neg (by omega)]), ⟨_, rfl⟩⟩
end Go.Proofs.Ytedbngnkkfpbeaa
