/- PlainOf of the reference: the whole. -/
import Derived.Test.YtbdfbmohdbigfaaPxI
import Derived.Test.YtbdfbmohdbigfaaPxS
import Derived.Test.YtbdfbmohdbigfaaMgk
import Derived.Test.YtbdfbmohdbigfaaBwS1
import Derived.Deep.RegionHeld3
import Derived.Deep.CutRange

namespace Go.Proofs.Ytbdfbmohdbigfaa
open Go.RowKit
set_option linter.unusedVariables false
def zc (L : List Nat) : List Int := L.map fun (q : Nat) => (q : Int)
theorem zc_len (L : List Nat) : (zc L).length = L.length := by simp [zc]
theorem zc_mem {L : List Nat} {x : Nat} : (x : Int) ∈ zc L ↔ x ∈ L := by
  unfold zc
  rw [List.mem_map]
  constructor
  · rintro ⟨y, hy, e⟩; rw [show x = y by omega]; exact hy
  · intro h; exact ⟨x, h, rfl⟩
theorem zc_add (L : List Nat) (x : Nat) : addL (zc L) (x : Int) = zc (addL L x) := by
  by_cases h : x ∈ L
  · rw [addL_in h, addL_in (zc_mem.2 h)]
  · rw [addL_new h, addL_new (fun m => h (zc_mem.1 m))]; simp [zc]
theorem zc_idx : ∀ (L : List Nat) (x : Nat), (zc L).idxOf (x : Int) = L.idxOf x
  | [], x => rfl
  | a :: L, x => by
    show ((a : Int) :: zc L).idxOf (x : Int) = _
    rw [List.idxOf_cons, List.idxOf_cons, zc_idx L x]
    by_cases h : a = x
    · subst h; simp
    · rw [beq_false_of_ne h, beq_false_of_ne (show (a : Int) ≠ (x : Int) by omega)]
theorem zc_get {L : List Nat} {k x : Nat} (h : L[k]? = some x) : (zc L)[k]? = some (x : Int) := by simp [zc, h]
theorem xc_end {x0 w x' : World} {lo g : Nat} {t4 : TypeId} {z4 : Nat} {a b v2 v3 v4 : Value} {n2 n3 n4 : Nat} {Nx : List Int} {E : List Bool} {X4 : List Value} (h : Xc x0 w lo g 33 2 4 t4 z4 a b v2 v3 v4 n2 n3 n4 (iv Nx) (bv E) X4) (hn2 : n2 = Nx.length) (hn : n3 = E.length)
    {b' : Nat} (hb : b' ≤ lo) (hs : x'.heap.size = w.heap.size) (hk : ∀ k, lo ≤ k → k ≠ g → x'.heap[k]? = w.heap[k]?) (S T : Int) : PlW x' b' (.agg #[.int .i64 S, .int .i64 T, v2, v3]) S T Nx E := by
  subst hn hn2
  have o2 : x'.ownsRow lo 2 1 v2 Nx.length (iv Nx) := own_move h.o2 (fun k q => hk k (h.o2.lt k q).1 (h.d2 k q).1)
  have o3 : x'.ownsRow lo 4 1 v3 E.length (bv E) := own_move h.o3 (fun k q => hk k (h.o3.lt k q).1 (h.d3 k q).1)
  exact ⟨v2, v3, rfl, OwnV.of (World.ownsRow.mono o2 hb), OwnV.of (World.ownsRow.mono o3 hb), fun k q => (h.d2 k q).2.1⟩
set_option maxRecDepth 100000 in
set_option maxHeartbeats 16000000 in
theorem sPlainOf_any (S T : Int) (L : List A4) (P E : List Int) (A2 : Option Addr) (C2 : Nat) (A3 : Option Addr) (C3 : Nat) (A4 : Option Addr) (C4 : Nat) (w : World) (h2 : SlA w w.heap.size A2 L.length L) (h3 : SlI w w.heap.size A3 P.length P) (h4 : SlI w w.heap.size A4 E.length E) (b2 : L.length ≤ 4294967296) (b3 : P.length ≤ 4294967296) (b4 : E.length ≤ 4294967296) :
    Calls Try.prog 20 #[.agg #[.int .i64 S, .int .i64 T, .slice A2 L.length C2, .slice A3 P.length C3, .slice A4 E.length C4]] w fun e w' => ∃ v', e = .returned (.tuple #[v', .bool (poR S T L P E).isSome]) ∧ PlW w' w.heap.size v' (poN S T L P E) (poT S T L P E) (poP S T L P E) (poD S T L P E) ∧ Below w.heap.size w w' := by
  have rb := Row.new w 28 [.int .i64 S, .int .i64 T, .slice A2 L.length C2, .slice A3 P.length C3, .slice A4 E.length C4]
  have bx : Below w.heap.size w (w.alloc (.cells ([.int .i64 S, .int .i64 T, .slice A2 L.length C2, .slice A3 P.length C3, .slice A4 E.length C4] : List Value).toArray 28)) := (Below.refl _ _).alloc (Nat.le_refl _) _
  have rr := Row.new (w.alloc (.cells ([.int .i64 S, .int .i64 T, .slice A2 L.length C2, .slice A3 P.length C3, .slice A4 E.length C4] : List Value).toArray 28)) 33 [.int .i64 0, .int .i64 0, .slice none 0 0, .slice none 0 0]
  have rb' := rb.alloc (.cells ([.int .i64 0, .int .i64 0, .slice none 0 0, .slice none 0 0] : List Value).toArray 33)
  have bx' := bx.alloc bx.size (.cells ([.int .i64 0, .int .i64 0, .slice none 0 0, .slice none 0 0] : List Value).toArray 33)
  rw [show (w.alloc (.cells ([.int .i64 S, .int .i64 T, .slice A2 L.length C2, .slice A3 P.length C3, .slice A4 E.length C4] : List Value).toArray 28)).heap.size = w.heap.size + 1 by simp] at rr
  obtain ⟨x0, hx0⟩ : ∃ x, x = (w.alloc (.cells ([.int .i64 S, .int .i64 T, .slice A2 L.length C2, .slice A3 P.length C3, .slice A4 E.length C4] : List Value).toArray 28)).alloc (.cells ([.int .i64 0, .int .i64 0, .slice none 0 0, .slice none 0 0] : List Value).toArray 33) := ⟨_, rfl⟩
  rw [← hx0] at rr rb' bx'
  have RB := Lib.hid rb'; have BX := Lib.hid bx'; have RR := Lib.hid rr
  have H2 := Lib.hid ((h2.below bx' (Nat.le_refl _)).more bx'.size); have H3 := Lib.hid ((h3.below bx' (Nat.le_refl _)).more bx'.size); have H4 := Lib.hid ((h4.below bx' (Nat.le_refl _)).more bx'.size)
  have HM : Hid (Mp x0 w.heap.size S T L P E) := ⟨_, _, _, _, _, _, RB.out, H2.out, H3.out, H4.out⟩
  clear rb bx rr rb' bx' h2 h3 h4
  go_enter Try.func20, Try.ntmps20
  go_wp2_with fail
  change Calls _ _ _ ((w.alloc (.cells ([.int .i64 S, .int .i64 T, .slice A2 L.length C2, .slice A3 P.length C3, .slice A4 E.length C4] : List Value).toArray 28)).alloc (.cells ([.int .i64 0, .int .i64 0, .slice none 0 0, .slice none 0 0] : List Value).toArray 33)) _
  rw [← hx0]
  clear hx0
  refine (sIs_any w.heap.size S T L P E A2 L.length C2 A3 P.length C3 A4 E.length C4 x0.heap.size x0 RB.out (Nat.le_refl _) H2.out H3.out H4.out (by omega) (by omega) (by omega)).mono ?_
  rintro e w1 ⟨rfl, hb1⟩
  have HM1 := Lib.hid (HM.out.below hb1 (Nat.le_refl _))
  have BX1 := Lib.hid (BX.out.trans (hb1.mono BX.out.size))
  have RB1 := Lib.hid (RB.out.below hb1 RB.out.lt); have RR1 := Lib.hid (RR.out.below hb1 RR.out.lt)
  have H41 := Lib.hid ((H4.out.below hb1 (Nat.le_refl _)).more hb1.size)
  clear hb1 HM H2 H3 H4 RB BX RR
  obtain ⟨ok, hok⟩ : ∃ ok, ok = vmB S T L P E := ⟨_, rfl⟩
  rw [← hok]
  have HOK := Lib.hid hok; clear hok
  cases ok with
  | false =>
    have k0 := RR1.out.cell 0; have k1 := RR1.out.cell 1; have k2 := RR1.out.cell 2; have k3 := RR1.out.cell 3
    have f0 := RR1.out.frozen 0; have f1 := RR1.out.frozen 1; have f2 := RR1.out.frozen 2; have f3 := RR1.out.frozen 3
    go_wp2_with fail
    clear k0 k1 k2 k3 f0 f1 f2 f3
    have hF := ((((RR1.out.set_ 0 (.int .i64 0)).set_ 1 (.int .i64 0)).set_ 2 (.slice none 0 0)).set_ 3 (.slice none 0 0))
    refine bodyPost_ret (results_cell2 rfl _ _ (w.heap.size + 1) 33 #[.int .i64 0, .int .i64 0, .slice none 0 0, .slice none 0 0] (0, 0) _ (.bool false) rfl rfl hF Try.underlying33 rfl (by kernel_rfl)) rfl ?_
    have hvm := HOK.out.symm
    have r1 : poR S T L P E = none := by unfold poR; rw [hvm]; rfl
    have r2 : poN S T L P E = 0 := by unfold poN; rw [hvm]; rfl
    have r3 : poT S T L P E = 0 := by unfold poT; rw [hvm]; rfl
    have r4 : poP S T L P E = [] := by unfold poP; rw [hvm]; rfl
    have r5 : poD S T L P E = [] := by unfold poD; rw [hvm]; rfl
    rw [r1, r2, r3, r4, r5]
    exact ⟨_, rfl, plw_zero _ _, set4_below BX1.out (Nat.le_succ _) _ _ _ _⟩
  | true =>
  obtain ⟨hLk, hP1, hE1, h0, hPE, hPn, hLn, hS, hT1, hT4⟩ := vm_okM HOK.out.symm
  obtain ⟨t, ht⟩ : ∃ t : Nat, T = (t : Int) := ⟨T.toNat, by omega⟩
  have ht4 : t ≤ 4 := by omega
  have HLK := Lib.hid hLk; have HP1 := Lib.hid hP1; have HPN := Lib.hid hPn
  have HTT := Lib.hid ht; have HSN := Lib.hid hS; have HPE := Lib.hid hPE
  have HTN : Hid (T.toNat = t) := by show _ = _; omega
  clear hLk hP1 hE1 hPE hS ht hT1 hT4
  have hCl := sClosed_any w.heap.size S T L P E P.length w1 HM1.out HSN.out HLK.out h0 (by omega) (by omega)
  go_wp2_with fail
  refine hCl.mono ?_
  rintro e w2 ⟨gt, ct, C, rfl, hT2, hC, hb2⟩
  clear hCl
  have HC := Lib.hid hC
  have HT2 : Hid (TabR w2 gt P.length C) := hT2.r hC.1.1 hC.1.2
  have HM2 := Lib.hid (HM1.out.below hb2 (Nat.le_refl _))
  have BX2 := Lib.hid (BX1.out.trans (hb2.mono BX1.out.size))
  have RB2 := Lib.hid (RB1.out.below hb2 RB1.out.lt); have RR2 := Lib.hid (RR1.out.below hb2 RR1.out.lt)
  have H42 := Lib.hid ((H41.out.below hb2 (Nat.le_refl _)).more hb2.size)
  clear hT2 hC hb2 HM1 BX1 RB1 RR1 H41
  have hAl := sAll_any w.heap.size S T L P E gt P.length ct t C w2 HM2.out HT2.out HSN.out HTT.out ht4 HLK.out HC.out.2.1 (by omega) (by omega)
  go_wp2_with fail
  refine hAl.mono ?_
  rintro e w3 ⟨gA, cA, rfl, hA3, hb3⟩
  clear hAl
  have HA3 := Lib.hid hA3
  have HT3 := Lib.hid (HT2.out.below hb3 (Nat.le_refl _)); have HM3 := Lib.hid (HM2.out.below hb3 (Nat.le_refl _))
  have BX3 := Lib.hid (BX2.out.trans (hb3.mono BX2.out.size))
  have RB3 := Lib.hid (RB2.out.below hb3 RB2.out.lt); have RR3 := Lib.hid (RR2.out.below hb3 RR2.out.lt)
  have H43 := Lib.hid ((H42.out.below hb3 (Nat.le_refl _)).more hb3.size)
  clear hA3 hb3 HT2 HM2 BX2 RB2 RR2 H42
  have hFi := sFirst_any w.heap.size S T L P E w3 HM3.out HSN.out (by omega)
  go_wp2_with fail
  refine hFi.mono ?_
  rintro e w4 ⟨Af, cf, rfl, hf, hb4⟩
  clear hFi
  have HT4 := Lib.hid (HT3.out.below hb4 (Nat.le_refl _)); have HA4 := Lib.hid (HA3.out.below hb4 (Nat.le_refl _))
  have BX4 := Lib.hid (BX3.out.trans (hb4.mono BX3.out.size))
  have RB4 := Lib.hid (RB3.out.below hb4 RB3.out.lt); have RR4 := Lib.hid (RR3.out.below hb4 RR3.out.lt)
  have H44 := Lib.hid ((H43.out.below hb4 (Nat.le_refl _)).more hb4.size)
  have hSe := sSet_any Af P.length cf (frL 1000000000 P) gt ct C w4 (hf.sl (frL_len _ _)) HT4.out hPn
  rw [stM_first HLK.out hPn HP1.out HC.out] at hSe
  clear hf hb4 HT3 HA3 BX3 RB3 RR3 H43 HM3
  obtain ⟨k0, hk0⟩ : ∃ k, k = pxF L P := ⟨_, rfl⟩
  rw [← hk0] at hSe
  have HK0 := Lib.hid hk0
  clear hk0
  have k1 := (RB4.out.alloc (.cells ([.int .i64 ((k0 : Nat) : Int)] : List Value).toArray 2)).cell 1
  have HSE := Lib.hid hSe; clear hSe
  go_wp2_with fail
  refine HSE.out.mono ?_
  rintro e w5 ⟨rfl, hw5⟩
  obtain rfl := hw5
  clear HSE
  go_wp2_with fail

  clear k1
  obtain ⟨w5, hw5⟩ : ∃ x, x = (w4.alloc (.cells ([.int .i64 ((k0 : Nat) : Int)] : List Value).toArray 2)).alloc (.cells ([.int .i64 0, .int .i64 T, .slice none 0 0, .slice none 0 0] : List Value).toArray 33) := ⟨_, rfl⟩
  have XC5 : Hid (Xc w4 w5 w4.heap.size (w4.heap.size + 1) 33 2 4 2 1 (.int .i64 0) (.int .i64 T) (.slice none 0 0) (.slice none 0 0) (.slice (some ⟨w4.heap.size, 0, none⟩) 1 1) 0 0 1 (iv []) (bv []) (iv (zc [k0]))) := by
    have q1 := Row.new w4 2 [.int .i64 ((k0 : Nat) : Int)]
    have q2 := Row.new (w4.alloc (.cells ([.int .i64 ((k0 : Nat) : Int)] : List Value).toArray 2)) 33 [.int .i64 0, .int .i64 T, .slice none 0 0, .slice none 0 0]
    rw [show (w4.alloc (.cells ([.int .i64 ((k0 : Nat) : Int)] : List Value).toArray 2)).heap.size = w4.heap.size + 1 by simp] at q2
    subst hw5
    exact ⟨q2, ((Below.refl _ _).alloc (Nat.le_refl _) _).alloc (by simp) _, by omega, Nat.le_refl _, own_none _ _ _ _, own_none _ _ _ _, own_rowX (q1.alloc _) (Nat.le_refl _) rfl (by unfold maxLen; omega), (fun k h => by cases h), (fun k h => by cases h), (fun k hk => by simp [Value.ownBlock] at hk; omega)⟩
  change Code.wp _ _ _ _ ((w4.alloc (.cells ([.int .i64 ((k0 : Nat) : Int)] : List Value).toArray 2)).alloc (.cells ([.int .i64 0, .int .i64 T, .slice none 0 0, .slice none 0 0] : List Value).toArray 33))
  rw [← hw5]
  clear hw5
  have HSZ4 : Hid (w.heap.size + 1 < w4.heap.size) := RR4.out.lt
  have hpn := HPN.out
  clear h0 hPn hLn
  obtain ⟨nx, hnx⟩ : ∃ nx : Nat → Nat → Nat, nx = pxN L P.length := ⟨_, rfl⟩
  have HNX := Lib.hid hnx; clear hnx
  obtain ⟨N, hN⟩ : ∃ N, N = P.length := ⟨_, rfl⟩
  rw [← hN] at hpn
  have HNN := Lib.hid hN; clear hN
  have HCK0 : Hid (Clsd P.length L k0) := by rw [HK0.out]; exact pxF_clsd HLK.out

  go_loopg [6, 8] 65 (fun m l i wr => ∃ (n : Nat) (Al : Option Addr) (c4 : Nat) (v2 v3 : Value), l = .slice Al (exA nx k0 t n).1.length c4 ∧ i = .int .i64 n ∧ Hid (m + n = 65) ∧ Hid (n ≤ (exA nx k0 t n).1.length ∧ n ≤ 64) ∧ Hid (((exA nx k0 t n).1.length ≤ 64 ∧ exE nx k0 t m n = exAll nx k0 t) ∨ (64 < (exA nx k0 t n).1.length ∧ exAll nx k0 t = none)) ∧ Hid (∀ y ∈ (exA nx k0 t n).1, Clsd P.length L y) ∧ Hid (Xc w4 wr w4.heap.size (w4.heap.size + 1) 33 2 4 2 1 (.int .i64 0) (.int .i64 T) v2 v3 (.slice Al (exA nx k0 t n).1.length c4) (exA nx k0 t n).2.length n (exA nx k0 t n).1.length (iv (exA nx k0 t n).2) (bv (((exA nx k0 t n).1.take n).map (pxE E))) (iv (zc (exA nx k0 t n).1))))
  case atStart => exact ⟨0, some ⟨w4.heap.size, 0, none⟩, 1, .slice none 0 0, .slice none 0 0, rfl, rfl, rfl, ⟨Nat.zero_le _, Nat.zero_le _⟩, .inl ⟨by show 1 ≤ 64; omega, rfl⟩, (fun y hy => by rw [show y = k0 from by simpa [exA] using hy]; exact HCK0.out), XC5.out⟩
  case round =>
    clear XC5
    obtain ⟨n, Al, c4, v2, v3, rfl, rfl, hmn, HNL, HE, HKS, HX⟩ := hrel
    obtain ⟨wo, rfl⟩ : ∃ x : World, x = wr := ⟨_, rfl⟩
    obtain ⟨gq, hgq⟩ : ∃ g : Nat, g = gk := ⟨_, rfl⟩
    rw [← hgq] at hmn HE
    obtain ⟨st, hst⟩ : ∃ s, s = exA nx k0 t n := ⟨_, rfl⟩
    rw [← hst] at HNL HE HKS HX ⊢
    have HST := Lib.hid hst
    have INV : Hid (ExI nx k0 t st n 0) := by rw [hst]; exact exA_inv n (by rw [← hst]; exact HNL.out.1)
    clear hst
    have j0 : (0 : Int) ≤ (n : Int) := by omega
    have HSZ := Lib.hid HX.out.size
    have RBo := Lib.hid (RB4.out.below HX.out.bel RB4.out.lt); have RRo := Lib.hid (RR4.out.below HX.out.bel RR4.out.lt)
    by_cases hlt : n < st.1.length
    · have l1 : (n : Int) < (st.1.length : Int) := by omega
      by_cases h64 : 64 < st.1.length
      · have h64' : (64 : Int) < (st.1.length : Int) := by omega
        have HNONE : Hid (exAll nx k0 t = none) := by
          rcases HE.out with h | h
          · have := h.1; omega
          · exact h.2
        have k0' := RRo.out.cell 0; have k1' := RRo.out.cell 1; have k2' := RRo.out.cell 2; have k3' := RRo.out.cell 3
        have f0 := RRo.out.frozen 0; have f1 := RRo.out.frozen 1; have f2 := RRo.out.frozen 2; have f3 := RRo.out.frozen 3
        have HBL := Lib.hid (BX4.out.trans (HX.out.bel.mono BX4.out.size))
        clear h64 HX HKS HE INV
        go_wp2_with fail
        clear k0' k1' k2' k3' f0 f1 f2 f3
        have hF := ((((RRo.out.set_ 0 (.int .i64 0)).set_ 1 (.int .i64 0)).set_ 2 (.slice none 0 0)).set_ 3 (.slice none 0 0))
        refine bodyPost_ret (results_cell2 rfl _ _ (w.heap.size + 1) 33 #[.int .i64 0, .int .i64 0, .slice none 0 0, .slice none 0 0] (0, 0) _ (.bool false) rfl rfl hF Try.underlying33 rfl (by kernel_rfl)) rfl ?_
        have hvm := HOK.out.symm
        have hnone : exAll (pxN L P.length) (pxF L P) T.toNat = none := by rw [← HNX.out, ← HK0.out, HTN.out]; exact HNONE.out
        have r1 : poR S T L P E = none := by unfold poR; rw [hvm, if_pos rfl]; exact hnone
        have r2 : poN S T L P E = 0 := by unfold poN exN; rw [hvm, if_pos rfl, hnone]; rfl
        have r3 : poT S T L P E = 0 := by unfold poT exT; rw [hvm, if_pos rfl, hnone]; rfl
        have r4 : poP S T L P E = [] := by unfold poP exP; rw [hvm, if_pos rfl, hnone]
        have r5 : poD S T L P E = [] := by unfold poD exD; rw [hvm, if_pos rfl, hnone]
        rw [r1, r2, r3, r4, r5]
        exact ⟨_, rfl, plw_zero _ _, set4_below HBL.out (Nat.le_succ _) _ _ _ _⟩
      · have h64' : (st.1.length : Int) ≤ 64 := by omega
        have HL64 : Hid (st.1.length ≤ 64) := by show _ ≤ _; omega
        have HEE : Hid (exE nx k0 t gq n = exAll nx k0 t) := by
          rcases HE.out with h | h
          · exact h.2
          · have := h.1; omega
        obtain ⟨k, hk⟩ : ∃ k, st.1[n]? = some k := ⟨_, List.getElem?_eq_getElem hlt⟩
        have HK := Lib.hid hk
        have HCK : Hid (Clsd P.length L k) := HKS.out k (List.mem_of_getElem? hk)
        have HKB : Hid (k < 65536) := small16 HCK.out.1 HPN.out
        clear h64 HE hk
        have hsl := own_sl HX.out.o4
        have HSL : Hid (SlI wo wo.heap.size Al st.1.length (zc st.1)) := hsl
        clear hsl
        obtain ⟨bl, ol, xl, rfl, -, hxl, c0⟩ := HSL.out.at_ hlt
        have hxk : xl = (k : Int) := by have := hxl.out; rw [zc_get HK.out] at this; injection this with this; exact this.symm
        rw [hxk] at c0
        clear hxk hxl
        have cS := RBo.out.cell 0
        have cE := RBo.out.cell 4
        have HE4 := Lib.hid (H44.out.below HX.out.bel (Nat.le_refl _))
        go_wp2_with fail
        go_loopg [9, 10] P.length (fun m e i wr => ∃ q : Nat, i = .int .i64 q ∧ q ≤ P.length ∧ P.length ≤ m + q ∧ e = .bool (enB E k q) ∧ wo = wr)
        case atStart => exact ⟨0, rfl, by omega, by omega, rfl, rfl⟩
        case round =>
          obtain ⟨q, rfl, hq, hm2, rfl, rfl⟩ := hrel
          by_cases hlt2 : q < P.length
          · have l2 : (q : Int) < S := by have := HSN.out; omega
            have q0 : (0 : Int) ≤ (q : Int) := by omega
            have l3 : (q : Int) < (E.length : Int) := by have := HPE.out; omega
            obtain ⟨b5, o5, y, rfl, -, hy, cy⟩ := HE4.out.at_ (show q < E.length by have := HPE.out; omega)
            have HES := Lib.hid (enB_succ E k q)
            have HGY : Hid (g0 E q = y) := g0_get hy.out
            have CH := Lib.hid (sHeld_any k q HKB.out (by have := HPN.out; omega) wo)
            cases hen : enB E k q with
            | true =>
              have HR : Hid (enB E k (q + 1) = true) := by show _ = _; rw [HES.out, hen]; rfl
              go_wp2_with (go_at_call 63; refine CH.out.mono ?_; rintro e w' ⟨rfl, hw⟩; obtain rfl := hw)
              go_roundg (gk - 1)
              case measure => omega
              case rel => exact ⟨q + 1, by go_num, by omega, by omega, by rw [HR.out], rfl⟩
            | false =>
              cases htb : k.testBit q with
              | false =>
                rw [htb] at CH
                have HR : Hid (enB E k (q + 1) = false) := by show _ = _; rw [HES.out, hen, htb]; rfl
                go_wp2_with (go_at_call 63; refine CH.out.mono ?_; rintro e w' ⟨rfl, hw⟩; obtain rfl := hw)
                go_roundg (gk - 1)
                case measure => omega
                case rel => exact ⟨q + 1, by go_num, by omega, by omega, by rw [HR.out], rfl⟩
              | true =>
                rw [htb] at CH
                have HR : Hid (enB E k (q + 1) = decide (0 ≤ y)) := by show _ = _; rw [HES.out, hen, htb, HGY.out]; rfl
                go_wp2_with (go_at_call 63; refine CH.out.mono ?_; rintro e w' ⟨rfl, hw⟩; obtain rfl := hw)
                go_roundg (gk - 1)
                case measure => omega
                case rel => exact ⟨q + 1, by go_num, by omega, by omega, by rw [HR.out], rfl⟩
          · have hqn : q = P.length := by omega
            have l2 : S ≤ (q : Int) := by have := HSN.out; omega
            have dl : decide ((q : Int) < S) = false := decide_eq_false (by omega)
            have HEN : Hid (enB E k q = pxE E k) := by show _ = _; rw [hqn, HPE.out]; exact enB_pxE
            obtain ⟨e, he⟩ : ∃ e, e = enB E k q := ⟨_, rfl⟩
            rw [← he] at HEN ⊢
            have e3 := HX.out.row.cell 3
            have LN : Hid (n + 1 ≤ 4294967296) := by show _ ≤ _; have := HL64.out; omega
            have HTE : Hid (bv ((st.1.take n).map (pxE E)) ++ [.bool e] = bv ((st.1.take (n + 1)).map (pxE E))) := by
              show _ = _
              obtain ⟨hh, hk'⟩ := List.getElem?_eq_some_iff.1 HK.out
              rw [List.take_succ_eq_append_getElem hh, List.map_append, bv_append, hk', HEN.out]; rfl
            clear hqn hlt2 hq hm2 he
            go_wp2_with (first | (at_builtin; refine wpList_push wo rfl (.tmp 62) (.tmp 64) _ rfl w4.heap.size 4 (.bool false) 1 Try.underlying31 infoBU rfl v3 n (bv ((st.1.take n).map (pxE E))) rfl HX.out.o3 (.bool e) rfl rfl LN.out (by omega) HSZ.out ?_; intro g6 c6 wv hown hgr hat hlt6 hcap6; have hrow := HX.out.row.grown hgr (fun e => (HX.out.d3 _ e.symm).1 rfl); have y3 := hrow.cell 3; have f3 := hrow.frozen 3; have HP := Lib.hid (HX.out.push3 (Y := bv ((st.1.take (n + 1)).map (pxE E))) (by rw [← HTE.out]; exact hown) hgr (at_push hat)); clear hrow hown hgr hat hlt6 hcap6))
            try clear e3
            try clear y3
            try clear f3
            obtain ⟨wa, hwa⟩ : ∃ x, x = wv.setCell ⟨w4.heap.size + 1, 3, none⟩ (.slice (some ⟨g6, 0, none⟩) (n + 1) c6) := ⟨_, rfl⟩
            rw [← hwa] at HP ⊢
            clear hwa c0 cS cE
            go_loopg [6, 11] t (fun m l j wr => ∃ (i : Nat) (A5 : Option Addr) (c5 : Nat) (u2 : Value), l = .slice A5 (exR nx k st i).1.length c5 ∧ j = .int .i64 i ∧ i ≤ t ∧ t ≤ m + i ∧ Hid (ExI nx k0 t (exR nx k st i) n i) ∧ Hid (∀ y ∈ (exR nx k st i).1, Clsd P.length L y) ∧ Hid (Xc w4 wr w4.heap.size (w4.heap.size + 1) 33 2 4 2 1 (.int .i64 0) (.int .i64 T) u2 (.slice (some ⟨g6, 0, none⟩) (n + 1) c6) (.slice A5 (exR nx k st i).1.length c5) (exR nx k st i).2.length (n + 1) (exR nx k st i).1.length (iv (exR nx k st i).2) (bv ((st.1.take (n + 1)).map (pxE E))) (iv (zc (exR nx k st i).1))))
            case atStart => exact ⟨0, some ⟨bl, ol, none⟩, c4, v2, rfl, rfl, by omega, by omega, INV.out, HKS.out, HP.out⟩
            case round =>
              clear HP HX HSL HE4 RBo RRo
              obtain ⟨i, A5, c5, u2, rfl, rfl, hit, hmi, HV, HKi, HX⟩ := hrel
              obtain ⟨wi, rfl⟩ : ∃ x : World, x = wr := ⟨_, rfl⟩
              obtain ⟨gi, hgi⟩ : ∃ g : Nat, g = gk := ⟨_, rfl⟩
              rw [← hgi] at hmi
              have hlen := exR_len nx k st i
              have hlen2 := HV.out.len
              have hb64 := HL64.out
              have HKI : Hid ((exR nx k st i).1[n]? = some k) := by
                obtain ⟨r, hr⟩ := exR_app nx k st i
                show _ = _
                rw [hr, List.getElem?_append_left (List.getElem?_eq_some_iff.1 HK.out).1]; exact HK.out
              obtain ⟨si, hsi⟩ : ∃ s, s = exR nx k st i := ⟨_, rfl⟩
              rw [← hsi] at HV HKi HX hlen hlen2 HKI ⊢
              have HSI := Lib.hid hsi
              clear hsi
              have hnT : n * t ≤ 64 * 4 := Nat.mul_le_mul (by omega) ht4
              have i0 : (0 : Int) ≤ (i : Int) := by omega
              have LN2 : Hid (si.2.length + 1 ≤ 4294967296) := by show _ ≤ _; omega
              have HL68 : Hid (si.1.length ≤ 68) := by show _ ≤ _; omega
              have HNI : Hid (n < si.1.length) := (List.getElem?_eq_some_iff.1 HKI.out).1
              have RBi := Lib.hid (RB4.out.below HX.out.bel RB4.out.lt); have RRi := Lib.hid (RR4.out.below HX.out.bel RR4.out.lt)
              have cT := RBi.out.cell 1
              clear hlen hlen2 hb64 hnT
              by_cases hlt3 : i < t
              · have l4 : (i : Int) < T := by have := HTT.out; omega
                have hslI := own_sl HX.out.o4
                have HSLI : Hid (SlI wi wi.heap.size A5 si.1.length (zc si.1)) := hslI
                clear hslI
                obtain ⟨b6, o6, x6, rfl, hb6, hx6, cL⟩ := HSLI.out.at_ HNI.out
                have hxk : x6 = (k : Int) := by have := hx6.out; rw [zc_get HKI.out] at this; injection this with this; exact this.symm
                rw [hxk] at cL
                clear hxk hx6
                obtain ⟨gR, cR, cA1, hgA, hTR⟩ := (HA4.out.below HX.out.bel (Nat.le_refl _)) i _ (alV_at hlt3)
                have HTR := Lib.hid hTR
                have HGA := Lib.hid hgA
                have cS1 := RBi.out.cell 0
                have HT4i := Lib.hid (HT4.out.below HX.out.bel (Nat.le_refl _))
                clear hTR hgA
                have hcel : Hid (∀ x : World, Below wi.heap.size wi x → (Below wi.heap.size wi x ∧ x.cell? ⟨b6, o6 + n, none⟩ = some (.int .i64 (k : Int)) ∧ x.cell? ⟨w.heap.size, 0, none⟩ = some (.int .i64 S) ∧ x.cell? ⟨gA, i, none⟩ = some (.slice (some ⟨gR, 0, none⟩) P.length cR))) := by
                  intro x hx
                  exact ⟨hx, (hx.cell (p := ⟨b6, o6 + n, none⟩) hb6).trans cL, (RBi.out.below hx RBi.out.lt).cell 0, (hx.cell (p := ⟨gA, i, none⟩) HGA.out).trans cA1⟩
                have hkeep : Hid (∀ x y : World, Below wi.heap.size wi x → Below x.heap.size x y → (Below wi.heap.size wi y ∧ y.cell? ⟨b6, o6 + n, none⟩ = some (.int .i64 (k : Int)) ∧ y.cell? ⟨w.heap.size, 0, none⟩ = some (.int .i64 S) ∧ y.cell? ⟨gA, i, none⟩ = some (.slice (some ⟨gR, 0, none⟩) P.length cR))) := fun x y h1 h2 => hcel.out y (h1.trans (h2.mono h1.size))
                have hfrom := hcel.out wi.drew (Below.drew (Below.refl _ _))
                have HCO : Hid (∀ x : World, Below wi.heap.size wi x → Calls Try.prog 65 #[.int .i64 (k : Int), .int .i64 S] x fun e y => ∃ A c, e = .returned (.slice A P.length c) ∧ RowI y wi.heap.size 2 (.slice A P.length c) (vOf 1000000000 P.length k) ∧ Below x.heap.size x y) := fun x hx => by
                  have h := sCosts2_any k P.length HKB.out HPN.out x
                  rw [← HSN.out] at h
                  refine h.mono ?_
                  rintro e y ⟨A, c, rfl, h1, h2⟩
                  exact ⟨A, c, rfl, World.ownsRow.mono h1 hx.size, h2⟩
                obtain ⟨mv, hmv⟩ : ∃ v, v = mvV 1000000000 (vOf 1000000000 P.length k) (spV 1000000000 L (i : Int) C) := ⟨_, rfl⟩
                have HMLen : Hid (mv.length = P.length) := by show _ = _; rw [hmv, mvV_len, vOf_len]
                have HMV : Hid (∀ (x : World) (A : Option Addr) (c : Nat), Below wi.heap.size wi x → RowI x wi.heap.size 2 (.slice A P.length c) (vOf 1000000000 P.length k) → Calls Try.prog 64 #[.slice A P.length c, .slice (some ⟨gR, 0, none⟩) P.length cR] x fun e y => ∃ A' c', e = .returned (.slice A' P.length c') ∧ RowI y wi.heap.size 2 (.slice A' P.length c') mv ∧ Below x.heap.size x y) := fun x A c hx hr => by
                  rw [hmv]
                  have hbv : Bd 1000000000 (vOf 1000000000 P.length k) := fun y hy => by
                    unfold vOf at hy
                    obtain ⟨j, -, rfl⟩ := List.mem_map.1 hy
                    split <;> omega
                  refine (sMove_any A P.length c (vOf 1000000000 P.length k) gR cR (spV 1000000000 L (i : Int) C) x (hr.sl (vOf_len _ _ _)) (HTR.out.below hx (Nat.le_refl _)) hbv (spV_bd (by omega) HC.out.2.1 HLK.out.cost) (by have := HPN.out; omega)).mono ?_
                  rintro e y ⟨A', c', rfl, h1, h2⟩
                  exact ⟨A', c', rfl, World.ownsRow.mono h1 hx.size, h2⟩
                have HMVQ := Lib.hid hmv
                clear hmv
                have l5 : (n : Int) < (si.1.length : Int) := by have := HNI.out; omega
                have l6 : (i : Int) < (t : Int) := by omega
                go_upto_region 21 with fail
                go_cut [12] from 73 to 84 (fun p wx => ∃ (Am : Option Addr) (cm : Nat), p = .slice Am P.length cm ∧ Hid (RowI wx wi.heap.size 2 (.slice Am P.length cm) mv) ∧ Hid (Below wi.heap.size wi wx))
                case first =>
                  go_region_held3 (fun x => Below wi.heap.size wi x ∧ x.cell? ⟨b6, o6 + n, none⟩ = some (.int .i64 (k : Int)) ∧ x.cell? ⟨w.heap.size, 0, none⟩ = some (.int .i64 S) ∧ x.cell? ⟨gA, i, none⟩ = some (.slice (some ⟨gR, 0, none⟩) P.length cR)) (first | (with_reducible assumption) | go_keep)
                    (first
                      | (go_at_call 65; refine (HCO.out _ (by first | (with_reducible assumption) | (with_reducible (apply And.left; assumption)))).mono ?_; rintro e y1 ⟨Ac, cc, rfl, hr1, hb1⟩; have s1 := (fun h => hkeep.out _ _ h hb1) (by first | (with_reducible assumption) | (with_reducible (apply And.left; assumption))); have HR1 := Lib.hid hr1; clear hr1 hb1)
                      | (go_at_call 64; refine (HMV.out _ Ac cc (by first | (with_reducible assumption) | (with_reducible (apply And.left; assumption))) HR1.out).mono ?_; rintro e y2 ⟨Am, cm, rfl, hr2, hb2⟩; have s2 := (fun h => hkeep.out _ _ h hb2) (by first | (with_reducible assumption) | (with_reducible (apply And.left; assumption))); have HR2 := Lib.hid hr2; clear hr2 hb2))
                  all_goals
                    try go_wp2_with fail
                    go_meet
                    exact ⟨Am, cm, rfl, HR2.out, s2.1⟩
                case rest =>
                obtain ⟨Am, cm, rfl, HRm, HBm⟩ := hcut
                obtain ⟨w6, rfl⟩ : ∃ x : World, x = wc := ⟨_, rfl⟩
                have HX6 := Lib.hid (HX.out.call HBm.out (Nat.le_refl _))
                obtain ⟨x, hx⟩ : ∃ x, x = nx k i := ⟨_, rfl⟩
                have HSE := sSet_any Am P.length cm mv gt ct C w6 (HRm.out.sl HMLen.out) (HT4i.out.below HBm.out (Nat.le_refl _)) HPN.out
                rw [HMVQ.out, stM_next HLK.out HPN.out HC.out HCK.out, ← HNX.out, ← hx] at HSE
                have HSE' := Lib.hid HSE
                have HRL : RowI w6 w4.heap.size 2 (.slice (some ⟨b6, o6, none⟩) si.1.length c5) (zc si.1) := by
                  have := HX6.out.o4
                  show World.ownsRow _ _ _ _ _ (zc si.1).length _
                  rw [zc_len]; exact this
                have HIX := sIndex_any w4.heap.size (some ⟨b6, o6, none⟩) si.1.length c5 (zc si.1) (x : Int) w6 HRL (zc_len _) HX6.out.size (by have := HL68.out; omega)
                rw [zc_add, zc_idx, zc_len] at HIX
                have HIX' := Lib.hid HIX
                have HRN : Hid (exR nx k st (i + 1) = (addL si.1 x, si.2 ++ [(((addL si.1 x).idxOf x : Nat) : Int)])) := by show _ = _; rw [exR, ← HSI.out, hx]
                have HVN : Hid (ExI nx k0 t (addL si.1 x, si.2 ++ [(((addL si.1 x).idxOf x : Nat) : Int)]) n (i + 1)) := by
                  rw [hx]; exact HV.out.step HKI.out hlt3
                have HCX : Hid (Clsd P.length L x) := by rw [hx, HNX.out]; exact pxN_clsd HLK.out
                clear l5 l6 HSE HIX HRL hx hfrom cL cA1 cS1 cT HMVQ hcel hkeep HCO HMV
                go_wp2_with fail
                refine HSE'.out.mono ?_
                rintro e w7 ⟨rfl, hw7⟩
                obtain rfl := hw7
                go_wp2_with fail
                refine HIX'.out.mono ?_
                rintro e w8 ⟨A8, c8, rfl, hown8, hgr8, hat8⟩
                have HX8 := Lib.hid (HX6.out.push4 (Y := iv (zc (addL si.1 x))) (m := (addL si.1 x).length) (u := .slice A8 (addL si.1 x).length c8) (by have h := hown8; unfold RowI at h; rw [zc_len] at h; exact h) hgr8 hat8)
                have e2 := HX8.out.row.cell 2
                clear hown8 hgr8 hat8 HSE' HIX' HX6 HX
                obtain ⟨ix, hix⟩ : ∃ q, q = (addL si.1 x).idxOf x := ⟨_, rfl⟩
                rw [← hix] at HRN HVN ⊢
                clear hix
                go_wp2_with (first | (at_builtin; refine wpList_int_push w8 rfl (.tmp 95) (.tmp 97) _ rfl w4.heap.size 2 Try.underlying26 infoQ u2 si.2 rfl HX8.out.o2 (ix : Int) rfl LN2.out HX8.out.size ?_; intro g9 c9 w9 hown hbl hat hgr; have hrow := HX8.out.row.grown hgr (fun e => (HX8.out.d2 _ e.symm).1 rfl); have y2 := hrow.cell 2; have f2 := hrow.frozen 2; have HX9 := Lib.hid (HX8.out.push2 hown hgr (at_push hat)); clear hrow hown hbl hat hgr))
                try clear e2
                try clear y2
                try clear f2
                go_roundg (gi - 1)
                case measure => omega
                case rel =>
                  refine ⟨i + 1, A8, c8, .slice (some ⟨g9, 0, none⟩) (si.2.length + 1) c9, by rw [HRN.out], by go_num, by omega, by omega, ?_⟩
                  rw [HRN.out]
                  refine ⟨HVN.out, fun y hy => ?_, ?_⟩
                  · by_cases hin : x ∈ si.1
                    · rw [addL_in hin] at hy; exact HKi.out y hy
                    · rw [addL_new hin] at hy
                      rcases List.mem_append.1 hy with h | h
                      · exact HKi.out y h
                      · rw [show y = x from by simpa using h]; exact HCX.out
                  · have := HX9.out
                    simp only [List.length_append, List.length_cons, List.length_nil] at this ⊢
                    exact this
              · have hT' : i = t := by omega
                have l4 : T ≤ (i : Int) := by have := HTT.out; omega
                have dl3 : decide ((i : Int) < T) = false := decide_eq_false (by omega)
                have hn63 : n + 1 ≤ 64 := by have := HL64.out; omega
                have WN : IntKind.i64.wrap ((n : Int) + 1) = (n : Int) + 1 := IntWalk.i64_in _ (by omega)
                have HN64 := Lib.hid hn63
                have HEX : Hid (exA nx k0 t (n + 1) = si) := by show _ = _; rw [exA_succ nx k0 t (by rw [← HST.out]; exact HK.out), ← HST.out, HSI.out, hT']
                clear hT' hlt3 hn63
                go_wp2_with fail
                go_roundg (gq - 1)
                case measure => have := hmn.out; have := HN64.out; omega
                case rel =>
                  have hge : n + 1 ≤ si.1.length := HNI.out
                  have hEE : ((si.1.length ≤ 64 ∧ exE nx k0 t (gq - 1) (n + 1) = exAll nx k0 t) ∨ (64 < si.1.length ∧ exAll nx k0 t = none)) := by
                    have h := HEE.out
                    obtain ⟨f, hf⟩ : ∃ f, gq = f + 1 := ⟨gq - 1, by have := hmn.out; have := HN64.out; omega⟩
                    rw [hf, exE, ← HST.out, if_pos hlt, HEX.out] at h
                    by_cases h6 : 64 < si.1.length
                    · rw [if_pos h6] at h
                      exact .inr ⟨h6, h.symm⟩
                    · rw [if_neg h6] at h
                      exact .inl ⟨by omega, by rw [hf]; exact h⟩
                  have hte : (st.1.take (n + 1)).map (pxE E) = (si.1.take (n + 1)).map (pxE E) := by
                    obtain ⟨r, hr⟩ := exR_app nx k st i
                    rw [← HSI.out] at hr
                    rw [hr, List.take_append_of_le_length (by omega)]
                  have hX := HX.out
                  rw [hte] at hX
                  have hn64 := HN64.out
                  refine ⟨n + 1, A5, c5, u2, (.slice (some ⟨g6, 0, none⟩) (n + 1) c6), by rw [HEX.out], by go_num, ?_, ?_⟩
                  · have q1 := hmn.out
                    show _ + _ = 65
                    omega
                  rw [HEX.out]
                  exact ⟨⟨hge, hn64⟩, hEE, HKi.out, hX⟩
    · have hnl : n = st.1.length := by have := HNL.out.1; omega
      have l1 : (st.1.length : Int) ≤ (n : Int) := by omega
      have HSOME : Hid (exAll nx k0 t = some n) := by
        show _ = _
        rcases HE.out with h | h
        · rw [← h.2]
          obtain ⟨f, hf⟩ : ∃ f, gq = f + 1 := ⟨gq - 1, by have := hmn.out; have := HNL.out.2; omega⟩
          rw [hf, exE, ← HST.out, if_neg hlt]
        · have := HNL.out.2; omega
      have HG := HX.out.row
      have b0 := HG.cell 0; have b1 := HG.cell 1; have b2 := HG.cell 2; have b3 := HG.cell 3; have z0 := HG.frozen 0
      have q0 := RRo.out.cell 0; have q1 := RRo.out.cell 1; have q2 := RRo.out.cell 2; have q3 := RRo.out.cell 3
      have f0 := RRo.out.frozen 0; have f1 := RRo.out.frozen 1; have f2 := RRo.out.frozen 2; have f3 := RRo.out.frozen 3
      obtain ⟨A6, c6, hv2, -⟩ := own_form HX.out.o2
      obtain ⟨A7, c7, hv3, -⟩ := own_form HX.out.o3
      have HLE : Hid (((st.1.take n).map (pxE E)).length = n) := by show _ = _; rw [List.length_map, List.length_take]; omega
      have HNE := Lib.hid hnl
      have HBL := Lib.hid (BX4.out.trans (HX.out.bel.mono BX4.out.size))
      have hne : w.heap.size + 1 ≠ w4.heap.size + 1 := by have := HSZ4.out; omega
      clear HG hlt hnl
      subst hv2; subst hv3
      have RR2 := Lib.hid (RRo.out.far (p := ⟨w4.heap.size + 1, 0, none⟩) hne (.int .i64 (st.1.length : Int)))
      go_wp2_with fail
      clear b0 b1 b2 b3 z0 q0 q1 q2 q3 f0 f1 f2 f3
      have hF := ((((RR2.out.set_ 0 (.int .i64 (st.1.length : Int))).set_ 1 (.int .i64 T)).set_ 2 (.slice A6 st.2.length c6)).set_ 3 (.slice A7 n c7))
      refine bodyPost_ret (results_cell2 rfl _ _ (w.heap.size + 1) 33 #[.int .i64 (st.1.length : Int), .int .i64 T, .slice A6 st.2.length c6, .slice A7 n c7] (0, 0) _ (.bool true) rfl rfl hF Try.underlying33 rfl (by kernel_rfl)) rfl ?_
      have hvm := HOK.out.symm
      have hsome : exAll (pxN L P.length) (pxF L P) T.toNat = some n := by rw [← HNX.out, ← HK0.out, HTN.out]; exact HSOME.out
      have hst : exA (pxN L P.length) (pxF L P) T.toNat n = st := by rw [← HNX.out, ← HK0.out, HTN.out]; exact HST.out.symm
      have r1 : poR S T L P E = some n := by unfold poR; rw [hvm, if_pos rfl]; exact hsome
      have r2 : poN S T L P E = (n : Int) := by unfold poN exN; rw [hvm, if_pos rfl, hsome]; rfl
      have r3 : poT S T L P E = T := by unfold poT exT; rw [hvm, if_pos rfl, hsome]; show ((T.toNat : Nat) : Int) = T; rw [HTN.out, HTT.out]
      have r4 : poP S T L P E = st.2 := by unfold poP exP; rw [hvm, if_pos rfl, hsome]; show (exA _ _ _ n).2 = _; rw [hst]
      have r5 : poD S T L P E = (st.1.take n).map (pxE E) := by unfold poD exD; rw [hvm, if_pos rfl, hsome]; show (exA _ _ _ n).1.map _ = _; rw [hst, List.take_of_length_le (by have := HNE.out; omega)]
      rw [r1, r2, r3, r4, r5, show (n : Int) = (st.1.length : Int) by rw [← HNE.out]]
      refine ⟨_, rfl, ?_, set4_below (HBL.out.setCell (p := ⟨w4.heap.size + 1, 0, none⟩) (by have := HSZ4.out; show _ ≤ w4.heap.size + 1; omega) _) (Nat.le_succ _) _ _ _ _⟩
      refine xc_end HX.out rfl HLE.out.symm (by have := HSZ4.out; omega) ?_ (fun k h1 h2 => ?_) _ _
      · rw [set4_size]; simp [World.setCell]
      · rw [set4_heap _ _ _ _ _ _ _ (by have := HSZ4.out; omega), Below.heap_setCell _ _ _ _ h2]
end Go.Proofs.Ytbdfbmohdbigfaa
