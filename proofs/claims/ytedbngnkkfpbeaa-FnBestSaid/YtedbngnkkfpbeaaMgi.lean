/- Several texts in one: The costs of a word, in the program: first costs, steps, sums. The costs of a word, in the program: a step, the costs of starts. -/
import Derived.Test.YtedbngnkkfpbeaaMgh

namespace Go.Proofs.Ytedbngnkkfpbeaa
open Go.RowKit
set_option linter.unusedVariables false
theorem rowI_of {w : World} {base g : Nat} {t : TypeId} {xs : List Int} (h : Row w g t (iv xs)) (hb : base ≤ g) (hm : xs.length ≤ maxLen) : RowI w base t (.slice (some ⟨g, 0, none⟩) xs.length xs.length) xs := by
  refine ⟨by rw [iv_length, Nat.mul_one], .inr ⟨g, xs.length, (iv xs).toArray, rfl, hb, h, Nat.le_refl _, hm, by simp [iv], ?_⟩⟩
  rw [List.toList_toArray]
  exact List.take_of_length_le (by rw [iv_length]; omega)
theorem RowI.n {w : World} {base g c n : Nat} {t : TypeId} {r : List Int} (h : RowI w base t (.slice (some ⟨g, 0, none⟩) n c) r) : r.length = n := by
  obtain ⟨vs, _, _, _, _, h, _⟩ := h.open; exact h
set_option maxRecDepth 100000 in
set_option maxHeartbeats 4000000 in
theorem iFarther_any (A : Option Addr) (n c : Nat) (P : List Int) (w : World) (h : SlI w w.heap.size A n P) (h0 : 0 < n) (hn : n ≤ 1000000) :
    Calls Try.prog 31 #[.slice A n c] w fun e w' => ∃ g c', e = .returned (.slice (some ⟨g, 0, none⟩) n c') ∧ RowI w' w.heap.size 2 (.slice (some ⟨g, 0, none⟩) n c') (frL 1099511627776 P) ∧ Below w.heap.size w w' := by
  have hl := h.len
  obtain ⟨b, off, x0, rfl, _⟩ := h.at_ h0
  subst hl
  have hC := iCloneI_any b off P.length c P w h (by omega)
  clear h
  go_enter Try.func31, Try.ntmps31
  go_wp2_with fail
  refine hC.mono ?_
  rintro e w1 ⟨A', c', rfl, hr, hb⟩
  obtain ⟨g, cc, hv, _⟩ := hr.form h0
  injection hv with e1 _ e3
  subst e1; subst e3
  have HR0 := Lib.hid hr; have HB0 := Lib.hid hb
  clear hC hr hb
  go_wp2_with fail
  go_loopg [4, 5, 10] P.length (fun m u4 u5 i wr => ∃ k : Nat, i = .int .i64 k ∧ k ≤ P.length ∧ P.length ≤ m + k ∧ Hid (RowI wr w.heap.size 2 (.slice (some ⟨g, 0, none⟩) P.length c') (frT 1099511627776 P k)) ∧ Hid (But g w1 wr))
  case atStart => exact ⟨0, rfl, by omega, by omega, by rw [frT_zero]; exact HR0.out, But.refl _ _⟩
  case round =>
    obtain ⟨k, rfl, hk, hm, HR, HB⟩ := hrel
    obtain ⟨wo, rfl⟩ : ∃ x : World, x = wr := ⟨_, rfl⟩
    by_cases hlt : k < P.length
    · obtain ⟨x, hx⟩ : ∃ x, P[k]? = some x := ⟨P[k], List.getElem?_eq_getElem hlt⟩
      have q1 : (k : Int) < (P.length : Int) := by omega
      have k1 := HR.out.cell (frT_at hx)
      have k2 := HR.out.frozen k
      by_cases hx0 : x < 0
      · have HST := Lib.hid (frT_step (F := 1099511627776) hx)
        have HX := Lib.hid hx; clear hx
        go_wp2_with fail
        go_roundg (gk - 1)
        case measure => omega
        case rel =>
          refine ⟨k + 1, by go_num, by omega, by omega, ?_, HB.out.trans (But.set _ _ _)⟩
          show RowI _ _ _ _ _
          rw [HST.out, if_pos hx0]; exact HR.out.set k _
      · have HST := Lib.hid (frT_keep (F := 1099511627776) hx hx0)
        have HX := Lib.hid hx; clear hx
        have q2 : (0 : Int) ≤ x := by omega
        clear hx0
        go_wp2_with fail
        go_roundg (gk - 1)
        case measure => omega
        case rel =>
          refine ⟨k + 1, by go_num, by omega, by omega, ?_, HB.out⟩
          show RowI _ _ _ _ _
          rw [HST.out]; exact HR.out
    · have hkk : k = P.length := by omega
      have HK := Lib.hid hkk
      have q1 : (P.length : Int) ≤ (k : Int) := by omega
      clear hkk
      go_wp2_with fail
      go_ret
      exact ⟨g, c', rfl, by have := HR.out; rw [HK.out, frT_all] at this; exact this, HB0.out.trans (HB.out.below HR0.out.lt.1 HB0.out.size)⟩
theorem lsm_zero (F : Int) (a b : List Int) : lsm F a b 0 = F := rfl
theorem lsm_succ (F : Int) (a b : List Int) (k : Nat) : lsm F a b (k + 1) = Min.min (lsm F a b k) (g0 a k + g0 b k) := rfl
theorem lsm_bd {F : Int} {a b : List Int} (hF : 0 ≤ F) (ha : Bd F a) (hb : Bd F b) : ∀ k, 0 ≤ lsm F a b k ∧ lsm F a b k ≤ F
  | 0 => ⟨hF, Int.le_refl _⟩
  | k + 1 => by
    rw [lsm_succ]
    have := lsm_bd hF ha hb k; have := ha.g0 hF k; have := hb.g0 hF k
    omega
/-- What leastSum returns. -/
def lsV (F : Int) (a b : List Int) : Int := tld F (lsm F a b a.length)
set_option maxRecDepth 100000 in
set_option maxHeartbeats 4000000 in
theorem iLeastSum_any (A : Option Addr) (n c : Nat) (a : List Int) (A' : Option Addr) (c' : Nat) (b : List Int) (w : World) (h : SlI w w.heap.size A n a) (h' : SlI w w.heap.size A' n b) (ha : Bd 1099511627776 a) (hb : Bd 1099511627776 b) (hn : n ≤ 1000000) :
    Calls Try.prog 32 #[.slice A n c, .slice A' n c'] w fun e w' => e = .returned (.int .i64 (lsV 1099511627776 a b)) ∧ Below w.heap.size w w' := by
  have hla := h.len
  have hlb := h'.len
  have hbd := lsm_bd (by omega) ha hb
  have H := Lib.hid h; have H' := Lib.hid h'; have HLA := Lib.hid hla; have HLB := Lib.hid hlb
  have HBD := Lib.hid hbd
  clear h h' hla hlb hbd
  go_enter Try.func32, Try.ntmps32
  go_wp2_with fail
  go_loopg [5, 6, 9] n (fun m s u6 i wr => ∃ k : Nat, i = .int .i64 k ∧ k ≤ n ∧ n ≤ m + k ∧ s = .int .i64 (lsm 1099511627776 a b k) ∧ Hid (Below w.heap.size w wr))
  case atStart => exact ⟨0, rfl, by omega, by omega, rfl, Below.refl _ _⟩
  case round =>
    obtain ⟨k, rfl, hk, hm, rfl, HB⟩ := hrel
    obtain ⟨wo, rfl⟩ : ∃ x : World, x = wr := ⟨_, rfl⟩
    have hs := HBD.out k
    by_cases hlt : k < n
    · have q1 : (k : Int) < (n : Int) := by omega
      obtain ⟨b1, off1, x, rfl, _, hx, cx⟩ := (H.out.below HB.out (Nat.le_refl _)).at_ hlt
      obtain ⟨b2, off2, y, rfl, _, hy, cy⟩ := (H'.out.below HB.out (Nat.le_refl _)).at_ hlt
      have bx := ha.get hx.out
      have by' := hb.get hy.out
      obtain ⟨bx0, bx1⟩ := bx; obtain ⟨by0, by1⟩ := by'
      obtain ⟨s, hs0⟩ : ∃ s, s = lsm 1099511627776 a b k := ⟨_, rfl⟩
      rw [← hs0] at hs ⊢
      obtain ⟨s0, s1⟩ := hs
      obtain ⟨m1, hm1⟩ : ∃ m, (if x + y < s then x + y else s) = m := ⟨_, rfl⟩
      have HST : Hid (lsm 1099511627776 a b (k + 1) = m1) := by
        show _ = _
        rw [lsm_succ, ← hs0, g0_get hx.out, g0_get hy.out, ← hm1]
        split <;> omega
      have e1 : IntKind.i64.wrap (x + y) = x + y := IntWalk.i64_in _ (by omega)
      have HS0 := Lib.hid hs0
      clear hs0 hx hy
      go_wp2_with fail
      go_quiet (fail)
      go_wp2_with fail
      go_roundg (gk - 1)
      case measure => omega
      case rel => exact ⟨k + 1, by go_num, by omega, by omega, by rw [HST.out], below_draws HB.out _⟩
    · have hkk : k = n := by omega
      have HK := Lib.hid hkk
      have q1 : (n : Int) ≤ (k : Int) := by omega
      obtain ⟨s, hs0⟩ : ∃ s, s = lsm 1099511627776 a b k := ⟨_, rfl⟩
      rw [← hs0] at hs ⊢
      have HS0 : Hid (lsV 1099511627776 a b = tld 1099511627776 s) := by show _ = _; rw [lsV, HLA.out, hs0, HK.out]
      clear hs0 hkk hlt
      by_cases hf : 1099511627776 ≤ s
      · have HV : Hid (lsV 1099511627776 a b = -1) := by show _ = _; rw [HS0.out, tld, if_pos hf]
        go_wp2_with fail
        go_ret
        exact ⟨by rw [HV.out]; rfl, HB.out⟩
      · have HV : Hid (lsV 1099511627776 a b = s) := by show _ = _; rw [HS0.out, tld, if_neg hf]
        have hf' : s < 1099511627776 := by omega
        clear hf
        go_wp2_with fail
        go_ret
        exact ⟨by rw [HV.out]; rfl, HB.out⟩
end Go.Proofs.Ytedbngnkkfpbeaa


namespace Go.Proofs.Ytedbngnkkfpbeaa
open Go.RowKit
set_option linter.unusedVariables false
/-- The costs behind a letter; those behind no letter. -/
def stV (F : Int) (L : List A4) (l : Int) (v : List Int) : List Int := relN L (stpT F L l v L.length) v.length
def fiV (F : Int) (L : List A4) (P : List Int) : List Int := relN L (frL F P) P.length
theorem stV_len (F : Int) (L : List A4) (l : Int) (v : List Int) : (stV F L l v).length = v.length := by unfold stV; rw [relN_len, stpT_len]
theorem fiV_len (F : Int) (L : List A4) (P : List Int) : (fiV F L P).length = P.length := by unfold fiV; rw [relN_len, frL_len]
theorem stV_bd {F : Int} (hF : 0 ≤ F) {L : List A4} {l : Int} {v : List Int} (hv : Bd F v) (hL : ∀ a ∈ L, 0 ≤ a.2.2.2) : Bd F (stV F L l v) := Bd.relN hF (Bd.stpT hv hF hL _) hL _
theorem fiV_bd {F : Int} (hF : 0 ≤ F) {L : List A4} {P : List Int} (hP : ∀ x ∈ P, x ≤ F) (hL : ∀ a ∈ L, 0 ≤ a.2.2.2) : Bd F (fiV F L P) := Bd.relN hF (frL_bd hF hP) hL _
theorem okM.cost {n : Nat} {L : List A4} (h : okM n L) : ∀ a ∈ L, 0 ≤ a.2.2.2 := fun a ha => (h a ha).2.2.1
set_option maxRecDepth 100000 in
set_option maxHeartbeats 4000000 in
theorem iStep_any (A : Option Addr) (n c : Nat) (v : List Int) (l : Int) (S T : Int) (A2 : Option Addr) (n2 c2 : Nat) (A3 : Option Addr) (n3 c3 : Nat) (A4' : Option Addr) (n4 c4 : Nat) (L : List A4) (w : World) (h2 : SlA w w.heap.size A2 n2 L) (hv : SlI w w.heap.size A n v) (hb : Bd 1099511627776 v) (hL : okM n L) (h0 : 0 < n) (hn : n ≤ 1000000) (hn2 : n2 ≤ 1000000) :
    Calls Try.prog 38 #[.agg #[.int .i64 S, .int .i64 T, .slice A2 n2 c2, .slice A3 n3 c3, .slice A4' n4 c4], .slice A n c, .int .i64 l] w fun e w' => ∃ g c', e = .returned (.slice (some ⟨g, 0, none⟩) n c') ∧ RowI w' w.heap.size 2 (.slice (some ⟨g, 0, none⟩) n c') (stV 1099511627776 L l v) ∧ Below w.heap.size w w' := by
  have hvn := hv.len
  have hln2 := h2.len
  have rb := (Row.new w 28 (BxM S T A2 n2 c2 A3 n3 c3 A4' n4 c4)).alloc (.cells ([.int .i64 1099511627776] : List Value).toArray 2)
  have bx : Below w.heap.size w ((w.alloc (.cells (BxM S T A2 n2 c2 A3 n3 c3 A4' n4 c4).toArray 28)).alloc (.cells ([.int .i64 1099511627776] : List Value).toArray 2)) := ((Below.refl _ _).alloc (Nat.le_refl _) _).alloc (by simp) _
  have rf := Row.new (w.alloc (.cells (BxM S T A2 n2 c2 A3 n3 c3 A4' n4 c4).toArray 28)) 2 [.int .i64 1099511627776]
  rw [show (w.alloc (.cells (BxM S T A2 n2 c2 A3 n3 c3 A4' n4 c4).toArray 28)).heap.size = w.heap.size + 1 by simp] at rf
  have hR := iRepeat1_any (w.heap.size + 1) 1 1099511627776 n _ (rf.cell 0) h0 (by omega)
  have RB := Lib.hid rb; have BX := Lib.hid bx; have H2 := Lib.hid h2; have HV := Lib.hid hv; have HVN := Lib.hid hvn; have HLN := Lib.hid hln2
  have HL := Lib.hid hL.cost
  clear rb bx rf h2 hv hvn hln2
  go_enter Try.func38, Try.ntmps38
  go_wp2_with fail
  refine hR.mono ?_
  rintro e w1 ⟨g, rfl, hg, hrow, hb1⟩
  have RB1 := Lib.hid (RB.out.below hb1 RB.out.lt)
  have HGB : Hid (w.heap.size < g) := by show _ < _; have := RB.out.lt; omega
  have HB1 := Lib.hid (BX.out.trans (hb1.mono BX.out.size))
  have HR1 : Hid (RowI w1 w.heap.size 2 (.slice (some ⟨g, 0, none⟩) n n) (List.replicate n 1099511627776)) := by
    have := rowI_of hrow (show w.heap.size ≤ g by have := HGB.out; omega) (by rw [List.length_replicate]; unfold maxLen; omega)
    rw [List.length_replicate] at this
    exact this
  have hlo1 : w.heap.size ≤ w1.heap.size := HB1.out.size
  have H21 := Lib.hid (H2.out.below HB1.out (Nat.le_refl _))
  have HV1 := Lib.hid (HV.out.below HB1.out (Nat.le_refl _))
  have hgl : w.heap.size ≤ g := by have := HGB.out; omega
  clear hR hrow hb1 hg H2 HV
  have k2 := RB1.out.cell 2
  go_wp2_with fail
  clear k2
  go_loopg [9, 17] n2 (fun m u i wr => ∃ j : Nat, i = .int .i64 j ∧ j ≤ n2 ∧ n2 ≤ m + j ∧ Hid (RowI wr w.heap.size 2 (.slice (some ⟨g, 0, none⟩) n n) (stpT 1099511627776 L l v j)) ∧ Hid (But g w1 wr))
  case atStart => exact ⟨0, rfl, by omega, by omega, by have := HR1.out; unfold stpT; rw [HVN.out]; exact this, But.refl _ _⟩
  case round =>
    obtain ⟨j, rfl, hj, hm2, HR, HB⟩ := hrel
    obtain ⟨wi, rfl⟩ : ∃ x : World, x = wr := ⟨_, rfl⟩
    by_cases hlt2 : j < n2
    · obtain ⟨b, off, a0, a1, a2, a3, rfl, hbB, hx, c0, c1, c2', c3'⟩ := (H21.out.but HB.out hgl hlo1).at_ hlt2
      have ha := hL _ (List.mem_of_getElem? hx.out)
      simp only at ha
      obtain ⟨⟨f0, f1⟩, ⟨t0, t1⟩, p0, p1⟩ := ha
      obtain ⟨f, rfl⟩ : ∃ x : Nat, a0 = (x : Int) := ⟨a0.toNat, by omega⟩
      obtain ⟨t, rfl⟩ : ∃ x : Nat, a1 = (x : Int) := ⟨a1.toNat, by omega⟩
      have HST := Lib.hid (stpT_succ (far := 1099511627776) (l := l) (v := v) hx.out)
      have l1 : (j : Int) < (n2 : Int) := by omega
      have RA := Row.new wi 89 [.int .i64 f, .int .i64 t, .int .i64 a2, .int .i64 a3]
      have d0 := RA.cell 0; have d1 := RA.cell 1; have d2 := RA.cell 2; have d3 := RA.cell 3
      have HR1 := Lib.hid (HR.out.alloc (.cells ([.int .i64 f, .int .i64 t, .int .i64 a2, .int .i64 a3] : List Value).toArray 89))
      have HB1 := Lib.hid (HB.out.alloc (.cells ([.int .i64 f, .int .i64 t, .int .i64 a2, .int .i64 a3] : List Value).toArray 89))
      clear RA
      have hlen : (stpT 1099511627776 L l v j).length = n := by rw [stpT_len]; exact HVN.out
      have hbd : Bd 1099511627776 (stpT 1099511627776 L l v j) := Bd.stpT hb (by omega) HL.out j
      obtain ⟨u, hu⟩ : ∃ u, u = stpT 1099511627776 L l v j := ⟨_, rfl⟩
      rw [← hu] at HR1 HST hlen hbd
      have HU := Lib.hid hu; clear hu HR HB
      by_cases hneg : a2 = l
      · subst hneg
        obtain ⟨bv, ov, x2, rfl, hbv, hxf, kv⟩ := (HV1.out.but HB1.out hgl hlo1).at_ (show f < n by omega)
        have hxt := g0_some (show t < u.length by omega)
        have bf := hb.get hxf.out
        have bt := hbd.get hxt
        obtain ⟨x1, hx1⟩ : ∃ x, x = g0 u t := ⟨_, rfl⟩
        rw [← hx1] at hxt bt
        have k2 := HR1.out.cell hxt
        have kf := HR1.out.frozen t
        obtain ⟨m1, hm1⟩ : ∃ m, (if x2 + a3 < x1 then x2 + a3 else x1) = m := ⟨_, rfl⟩
        have HST2 : Hid (stpT 1099511627776 L a2 v (j + 1) = u.set t m1) := by
          show _ = _
          rw [HST.out, stp1, if_pos rfl]
          show u.set (Int.toNat (t : Int)) (Min.min (g0 u (Int.toNat (t : Int))) (g0 v (Int.toNat (f : Int)) + a3)) = _
          rw [Int.toNat_natCast, Int.toNat_natCast, ← hx1, g0_get hxf.out, ← hm1]
          congr 1
          split <;> omega
        have e1 : IntKind.i64.wrap (x2 + a3) = x2 + a3 := IntWalk.i64_in _ (by omega)
        obtain ⟨bf0, bf1⟩ := bf; obtain ⟨bt0, bt1⟩ := bt
        clear hx1 HST hxf hxt
        go_wp2_with fail
        clear p0 p1
        refine wp_tail 18 (by kernel_rfl) (by kernel_rfl) (fun y hy => ?_)
        have y0 : y.cell? ⟨wi.heap.size, 0, none⟩ = some (.int .i64 f) := by rw [hy]; exact d0
        have y1 : y.cell? ⟨wi.heap.size, 1, none⟩ = some (.int .i64 t) := by rw [hy]; exact d1
        have y3 : y.cell? ⟨wi.heap.size, 3, none⟩ = some (.int .i64 a3) := by rw [hy]; exact d3
        have y4 : y.cell? ⟨bv, ov + f, none⟩ = some (.int .i64 x2) := by rw [hy]; exact kv
        have y5 : y.cell? ⟨g, t, none⟩ = some (.int .i64 x1) := by rw [hy]; exact k2
        have y6 : y.frozen? ⟨g, t, none⟩ = false := by rw [hy]; exact kf
        have HRy : Hid (RowI y w.heap.size 2 (.slice (some ⟨g, 0, none⟩) n n) u) := by rw [hy]; exact HR1.out
        have HBy : Hid (But g w1 y) := by rw [hy]; exact HB1.out
        clear hy kv k2 kf d0 d1 d2 d3 HR1 HB1
        simp only [List.take_succ_cons, List.take_zero, List.drop_succ_cons, List.drop_zero]
        repeat still_step
        refine wpStill_nil ?_
        go_wp2
        go_roundg (gk - 1)
        case measure => omega
        case rel =>
          refine ⟨j + 1, by go_num, by omega, by omega, ?_, HBy.out.trans (But.set _ _ _)⟩
          show RowI _ _ _ _ _
          rw [HST2.out]; exact HRy.out.set t m1
      · have HST2 : Hid (stpT 1099511627776 L l v (j + 1) = u) := by
          show _ = _
          rw [HST.out, stp1, if_neg hneg]
        have q3 : (a2 == l) = false := by rw [beq_eq_false_iff_ne]; exact hneg
        clear HST d0 d1 d3 hneg
        go_wp2_with fail
        go_roundg (gk - 1)
        case measure => omega
        case rel =>
          refine ⟨j + 1, by go_num, by omega, by omega, ?_, HB1.out⟩
          show RowI _ _ _ _ _
          rw [HST2.out]; exact HR1.out
    · have hjj : j = n2 := by omega
      have HJ := Lib.hid hjj
      have q1 : (n2 : Int) ≤ (j : Int) := by omega
      clear hjj
      have RBi := RB1.out.but HB.out (by have := HGB.out; omega)
      have r0 := RBi.cell 0; have r1 := RBi.cell 1; have r2 := RBi.cell 2; have r3 := RBi.cell 3; have r4 := RBi.cell 4
      have HRB := Lib.hid RBi; clear RBi
      go_wp2_with fail
      clear r0 r1 r2 r3 r4
      have hbd : Bd 1099511627776 (stpT 1099511627776 L l v j) := Bd.stpT hb (by omega) HL.out j
      refine (iRelax_any w.heap.size g n n (stpT 1099511627776 L l v j) S T A2 n2 c2 A3 n3 c3 A4' n4 c4 L _ (H21.out.but HB.out hgl hlo1) HR.out (Nat.le_trans hlo1 HB.out.2.2.2.1) hbd hL hn hn2).mono ?_
      rintro e w2 ⟨rfl, hr2, hb2⟩
      have HR2 := Lib.hid hr2; have HB2 := Lib.hid hb2
      clear hr2 hb2
      go_wp2_with fail
      go_ret
      refine ⟨g, n, rfl, ?_, HB1.out.trans ((HB.out.trans HB2.out).below hgl hlo1)⟩
      have e := HR2.out
      rw [HJ.out, ← HLN.out] at e
      unfold stV
      rw [HVN.out]
      exact e
end Go.Proofs.Ytedbngnkkfpbeaa
