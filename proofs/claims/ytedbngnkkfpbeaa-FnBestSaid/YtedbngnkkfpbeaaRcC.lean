/- restCosts of the program: the least costs to the end, by the number of letters. -/
import Derived.Test.YtedbngnkkfpbeaaBk
import Derived.Test.YtedbngnkkfpbeaaBwQ
import Derived.Test.YtedbngnkkfpbeaaSsl
import Derived.Deep.RegionHeld3

namespace Go.Proofs.Ytedbngnkkfpbeaa
open Go.RowKit
set_option linter.unusedVariables false
/-- A row of least numbers while it is lowered: the letters below l are done, and l at the first i places. -/
def nxV (F : Int) (f : Nat → Nat → Int) (n l i : Nat) : List Int := (List.range n).map fun j => mins F (fun l => f l j) (if j < i then l + 1 else l)
theorem nxV_len (F : Int) (f : Nat → Nat → Int) (n l i : Nat) : (nxV F f n l i).length = n := by simp [nxV]
theorem nxV_zero (F : Int) (f : Nat → Nat → Int) (n : Nat) : nxV F f n 0 0 = List.replicate n F := by
  unfold nxV
  rw [List.eq_replicate_iff]
  refine ⟨by simp, fun x hx => ?_⟩
  simp only [List.mem_map] at hx
  obtain ⟨j, _, rfl⟩ := hx
  rfl
theorem nxV_row (F : Int) (f : Nat → Nat → Int) (n l : Nat) : nxV F f n l n = nxV F f n (l + 1) 0 := by
  unfold nxV
  refine List.map_congr_left fun j hj => ?_
  rw [List.mem_range] at hj
  rw [if_pos hj, if_neg (by omega)]
theorem nxV_at {F : Int} {f : Nat → Nat → Int} {n l i : Nat} (h : i < n) : (nxV F f n l i)[i]? = some (mins F (fun l => f l i) l) := by
  simp [nxV, h]
theorem nxV_step {F : Int} {f : Nat → Nat → Int} {n l i : Nat} (h : i < n) : nxV F f n l (i + 1) = (nxV F f n l i).set i (min (mins F (fun l => f l i) l) (f l i)) := by
  refine List.ext_getElem? fun j => ?_
  rw [List.getElem?_set]
  by_cases e : i = j
  · subst e
    rw [if_pos rfl, nxV_len, if_pos h]
    simp [nxV, h]
    rfl
  · rw [if_neg e]
    by_cases hj : j < n
    · simp only [nxV, List.getElem?_map, List.getElem?_range hj, Option.map_some]
      by_cases h2 : j < i
      · rw [if_pos h2, if_pos (by omega)]
      · rw [if_neg h2, if_neg (by omega)]
    · rw [List.getElem?_eq_none (by rw [nxV_len]; omega), List.getElem?_eq_none (by rw [nxV_len]; omega)]
theorem mins_bd' {F : Int} {f : Nat → Int} (hF : 0 ≤ F) (hf : ∀ i, 0 ≤ f i) : ∀ k, 0 ≤ mins F f k ∧ mins F f k ≤ F
  | 0 => ⟨hF, Int.le_refl _⟩
  | k + 1 => by
    have := mins_bd' hF hf k; have := hf k
    show 0 ≤ Min.min (mins F f k) (f k) ∧ Min.min (mins F f k) (f k) ≤ F
    omega
theorem nxV_bd {F : Int} {f : Nat → Nat → Int} {n : Nat} (hF : 0 ≤ F) (hf : ∀ l i, 0 ≤ f l i) (l i : Nat) : Bd F (nxV F f n l i) := fun x hx => by
  simp only [nxV, List.mem_map] at hx
  obtain ⟨j, _, rfl⟩ := hx
  exact mins_bd' hF (fun l => hf l j) _
theorem rsV_bd {F : Int} (hF : 0 ≤ F) {T : Nat} {L : List A4} {E : List Int} (hE : ∀ x ∈ E, x ≤ F) (hL : ∀ a ∈ L.map bkA, 0 ≤ a.2.2.2) : ∀ r, Bd F (rsV F T L E r)
  | 0 => Bd.relN hF (frL_bd hF hE) hL _
  | r + 1 => fun x hx => by
    simp only [rsV, List.mem_map] at hx
    obtain ⟨j, _, rfl⟩ := hx
    exact mins_bd' hF (fun l => ((stV_bd hF (rsV_bd hF hE hL r) hL).g0 hF j).1) _
theorem rsV_nx (F : Int) (T : Nat) (L : List A4) (E : List Int) (r : Nat) : rsV F T L E (r + 1) = nxV F (fun l i => g0 (stV F (L.map bkA) (l : Int) (rsV F T L E r)) i) E.length T 0 := by
  unfold nxV
  rw [rsV]
  refine List.map_congr_left fun j _ => ?_
  rw [if_neg (by omega)]
theorem tabI_one (w : World) (base g n c : Nat) (TT T : TypeId) (r : List Int) (h : RowI w base T (.slice (some ⟨g, 0, none⟩) n c) r) : TabI (w.alloc (.cells #[.slice (some ⟨g, 0, none⟩) n c] TT)) base TT (.slice (some ⟨w.heap.size, 0, none⟩) 1 1) [r] := by
  obtain ⟨hb, hlt⟩ := h.lt
  obtain ⟨us, _, _, _, _, hl, hc, _⟩ := h.open
  subst hl
  refine ⟨[.slice (some ⟨g, 0, none⟩) r.length c], Row.own (cap := 0) (Row.new w TT [.slice (some ⟨g, 0, none⟩) r.length c]) (by omega) (by simp [maxLen]), fun j r' hj => ?_⟩
  have hj0 : j = 0 := by
    rcases Nat.eq_zero_or_pos j with h | h
    · exact h
    · rw [List.getElem?_eq_none (by simp; omega)] at hj; cases hj
  subst hj0
  simp at hj
  subst hj
  refine ⟨g, c, rfl, hb, by simp; omega, ?_, hc, fun k x hx => ?_⟩
  · intro e; simp [Value.ownBlock] at e; omega
  · exact (h.alloc _).cell hx
theorem grown_low {lo : Nat} {x y : World} {row : Option Nat} (h : x.grownBy y row) (hr : ∀ k, row = some k → lo ≤ k) (hs : lo ≤ x.heap.size) : Below lo x y :=
  ⟨h.os, h.tape, h.output, h.size, fun k hk => h.block k (by omega) (fun e => by have := hr k e.symm; omega)⟩
theorem info2I : (Try.prog.info? 26).map (fun i => (i.zero, i.size, i.bytes)) = some (some (.slice none 0 0), 1, 24) := by kernel_rfl
theorem rsT_succ (F : Int) (T : Nat) (L : List A4) (E : List Int) (k : Nat) : (List.range (k + 1)).map (rsV F T L E) = (List.range k).map (rsV F T L E) ++ [rsV F T L E k] := by rw [List.range_succ, List.map_append]; rfl
set_option maxRecDepth 100000 in
set_option maxHeartbeats 8000000 in
theorem iRest_any (S T : Int) (L : List A4) (P E : List Int) (p2 o2 p3 o3 p4 o4 C2 C3 C4 : Nat) (w : World)
    (h2 : SlA w w.heap.size (some ⟨p2, o2, none⟩) L.length L) (h3 : SlI w w.heap.size (some ⟨p3, o3, none⟩) P.length P) (h4 : SlI w w.heap.size (some ⟨p4, o4, none⟩) E.length E)
    (hok : vmB S T L P E = true) :
    Calls Try.prog 34 #[.agg #[.int .i64 S, .int .i64 T, .slice (some ⟨p2, o2, none⟩) L.length C2, .slice (some ⟨p3, o3, none⟩) P.length C3, .slice (some ⟨p4, o4, none⟩) E.length C4]] w fun e w' => ∃ gt ct, e = .returned (.slice (some ⟨gt, 0, none⟩) 13 ct) ∧ TabI w' w.heap.size 26 (.slice (some ⟨gt, 0, none⟩) 13 ct) ((List.range 13).map (rsV 1099511627776 T.toNat L E)) ∧ Below w.heap.size w w' := by
  obtain ⟨hLk, hP1, hE1, h0, hPE, hPn, hLn, hS, hT1, hT4⟩ := vm_okM hok
  obtain ⟨t, ht⟩ : ∃ t : Nat, T = (t : Int) := ⟨T.toNat, by omega⟩
  have htn : T.toNat = t := by omega
  have ht4 : t ≤ 4 := by omega
  rw [htn]
  have HTT := Lib.hid ht; clear ht htn
  have hEL : okM E.length (L.map bkA) := by rw [← hPE]; exact hLk.bkA
  have HLc : Hid (∀ a ∈ L.map bkA, 0 ≤ a.2.2.2) := hEL.cost
  have HEF : Hid (∀ x ∈ E, x ≤ 1099511627776) := fun x hx => by have := hE1 x hx; omega
  have hE0 : 0 < E.length := by omega
  have hEn : E.length ≤ 16 := by omega
  have hSE : S = (E.length : Int) := by omega
  have rb := Row.new w 28 [.int .i64 S, .int .i64 T, .slice (some ⟨p2, o2, none⟩) L.length C2, .slice (some ⟨p3, o3, none⟩) P.length C3, .slice (some ⟨p4, o4, none⟩) E.length C4]
  have bx : Below w.heap.size w (w.alloc (.cells ([.int .i64 S, .int .i64 T, .slice (some ⟨p2, o2, none⟩) L.length C2, .slice (some ⟨p3, o3, none⟩) P.length C3, .slice (some ⟨p4, o4, none⟩) E.length C4] : List Value).toArray 28)) := (Below.refl _ _).alloc (Nat.le_refl _) _
  have RB := Lib.hid rb; have BX := Lib.hid bx
  have HBk := iBack_any S T L P E p2 o2 p3 o3 p4 o4 C2 C3 C4 _ ((h2.below bx (Nat.le_refl _)).more bx.size) ((h3.below bx (Nat.le_refl _)).more bx.size) ((h4.below bx (Nat.le_refl _)).more bx.size) hok
  have HSE := Lib.hid hSE; have HPE := Lib.hid hPE; have HLK := Lib.hid hEL; have HE1 := Lib.hid hE1
  have HRB := Lib.hid (rsV_bd (F := 1099511627776) (T := t) (L := L) (E := E) (by omega) HEF.out HLc.out)
  clear rb bx h2 h3 h4 hok hLk hP1 hS hPE hSE hEL hE1 hPn h0
  have a0 := RB.out.cell 0; have a1 := RB.out.cell 1; have a2 := RB.out.cell 2; have a3 := RB.out.cell 3; have a4 := RB.out.cell 4
  go_enter Try.func34, Try.ntmps34
  go_wp2_with fail
  clear a0 a1 a2 a3 a4
  refine HBk.mono ?_
  rintro e w1 ⟨v', rfl, hm, hb1⟩
  clear HBk
  obtain ⟨A2, n2, c2, A3, n3, c3, A4, n4, c4, rfl, m2, m3, m4⟩ := hm
  have e2 := m2.len; have e3 := m3.len; have e4 := m4.len
  rw [List.length_map] at e2
  subst e2 e3 e4
  have M2 := Lib.hid m2; have M3 := Lib.hid m3; have HB1 := Lib.hid (BX.out.trans (hb1.mono BX.out.size)); have RB1 := Lib.hid (RB.out.below hb1 RB.out.lt)
  clear m2 m3 m4 hb1
  have rm := Row.new w1 28 [.int .i64 S, .int .i64 T, .slice A2 L.length c2, .slice A3 E.length c3, .slice A4 P.length c4]
  have bm : Below w1.heap.size w1 (w1.alloc (.cells ([.int .i64 S, .int .i64 T, .slice A2 L.length c2, .slice A3 E.length c3, .slice A4 P.length c4] : List Value).toArray 28)) := (Below.refl _ _).alloc (Nat.le_refl _) _
  have RM := Lib.hid rm; have BM := Lib.hid bm
  clear rm bm
  have d0 := RM.out.cell 0; have d1 := RM.out.cell 1; have d2 := RM.out.cell 2; have d3 := RM.out.cell 3; have d4 := RM.out.cell 4
  go_wp2_with fail
  clear d0 d1 d2 d3 d4
  obtain ⟨x1, hx1⟩ : ∃ x, x = w1.alloc (.cells ([.int .i64 S, .int .i64 T, .slice A2 L.length c2, .slice A3 E.length c3, .slice A4 P.length c4] : List Value).toArray 28) := ⟨_, rfl⟩
  obtain ⟨g3, hg3⟩ : ∃ x, x = w1.heap.size := ⟨_, rfl⟩
  rw [← hx1] at RM BM
  rw [← hg3] at RM BM M2 M3
  change Calls _ _ _ (w1.alloc (.cells ([.int .i64 S, .int .i64 T, .slice A2 L.length c2, .slice A3 E.length c3, .slice A4 P.length c4] : List Value).toArray 28)) _
  rw [← hx1, ← hg3]
  have HM2 := Lib.hid ((M2.out.below BM.out (by rw [hg3]; exact Nat.le_refl _)).more (show g3 ≤ x1.heap.size from Nat.le_of_lt RM.out.lt))
  have HM3 := Lib.hid ((M3.out.below BM.out (by rw [hg3]; exact Nat.le_refl _)).more (show g3 ≤ x1.heap.size from Nat.le_of_lt RM.out.lt))
  have HBX := Lib.hid (HB1.out.trans (show Below w.heap.size w1 x1 from BM.out.mono (by rw [hg3]; exact HB1.out.size)))
  have RBX := Lib.hid (RB1.out.below BM.out (by rw [hg3]; exact RB1.out.lt))
  clear hx1 hg3 BM RB1 HB1 RB BX
  refine (iFirst_any S T A2 L.length c2 A3 E.length c3 A4 P.length c4 (L.map bkA) E x1 HM2.out HM3.out HE1.out HLK.out hE0 (by omega) (by omega)).mono ?_
  rintro e w2 ⟨gf, cf, rfl, hr, hb2⟩
  have HTB := Lib.hid (tabI_one w2 w.heap.size gf E.length cf 26 2 _ (World.ownsRow.mono hr HBX.out.size))
  have HB2 : Hid (Below w2.heap.size w2 (w2.alloc (.cells #[.slice (some ⟨gf, 0, none⟩) E.length cf] 26))) := (Below.refl _ _).alloc (Nat.le_refl _) _
  have HM22 := Lib.hid ((HM2.out.below hb2 (Nat.le_refl _)).more hb2.size)
  have RM2 := Lib.hid (RM.out.below hb2 RM.out.lt); have RB2 := Lib.hid (RBX.out.below hb2 RBX.out.lt)
  have HBW := Lib.hid (HBX.out.trans (hb2.mono HBX.out.size))
  clear hr hb2 HM2 HM3 RM RBX HBX
  go_wp2_with fail
  go_loopg [5, 6, 7, 8, 9, 10, 19] 12 (fun q o u6 u7 u8 u9 u10 i wr => ∃ (k gt ct : Nat), i = .int .i64 k ∧ k ≤ 12 ∧ 12 ≤ q + k ∧ o = .slice (some ⟨gt, 0, none⟩) (k + 1) ct ∧ Hid (w2.heap.size ≤ gt) ∧ Hid (TabI wr w.heap.size 26 (.slice (some ⟨gt, 0, none⟩) (k + 1) ct) ((List.range (k + 1)).map (rsV 1099511627776 t L E))) ∧ Hid (Below w2.heap.size w2 wr))
  case atStart => exact ⟨0, w2.heap.size, 1, rfl, by omega, by omega, rfl, Nat.le_refl _, HTB.out, HB2.out⟩
  case round =>
    clear HTB HB2
    obtain ⟨k, gt, ct, rfl, hk, hm, rfl, HG, HT, HB⟩ := hrel
    obtain ⟨wo, rfl⟩ : ∃ x : World, x = wr := ⟨_, rfl⟩
    obtain ⟨gz, hgz⟩ : ∃ g : Nat, g = gk := ⟨_, rfl⟩
    by_cases hlt : k < 12
    · have q1 : (k : Int) < 12 := by omega
      have rr := RB2.out.below HB.out RB2.out.lt
      have r0 := (rr.alloc (.cells ([.int .i64 1099511627776] : List Value).toArray 2)).cell 0
      rw [HSE.out] at r0
      have hc := (Row.new wo 2 [.int .i64 1099511627776]).cell 0
      have hR := iRepeat1_any wo.heap.size 1 1099511627776 E.length _ hc hE0 (by omega)
      have HRR := Lib.hid rr
      clear rr
      go_wp2_with fail
      refine hR.mono ?_
      rintro e w3 ⟨gn, rfl, hgn, hrow, hb3⟩
      clear hR hc r0
      have hal : Below wo.heap.size wo (wo.alloc (.cells ([.int .i64 1099511627776] : List Value).toArray 2)) := (Below.refl _ _).alloc (Nat.le_refl _) _
      have hb03 : Below wo.heap.size wo w3 := hal.trans (hb3.mono hal.size)
      have hgn' : wo.heap.size ≤ gn := Nat.le_trans hal.size hgn
      have hrn : RowI w3 wo.heap.size 2 (.slice (some ⟨gn, 0, none⟩) E.length E.length) (nxV 1099511627776 (fun l i => g0 (stV 1099511627776 (L.map bkA) (l : Int) (rsV 1099511627776 t L E k)) i) E.length 0 0) := by
        rw [nxV_zero]
        have := rowI_of hrow hgn' (by rw [List.length_replicate]; unfold maxLen; omega)
        rw [List.length_replicate] at this
        exact this
      have HR0 := Lib.hid hrn; have HB3 := Lib.hid hb03; have HGN := Lib.hid hgn'
      clear hal hb3 hrow hgn hgn' hrn hb03
      have r1 := (HRR.out.below HB3.out HRR.out.lt).cell 1
      rw [HTT.out] at r1
      obtain ⟨fz, hfz⟩ : ∃ f, f = fun l i => g0 (stV 1099511627776 (L.map bkA) ((l : Nat) : Int) (rsV 1099511627776 t L E k)) i := ⟨_, rfl⟩
      rw [← hfz] at HR0
      have HFZ := Lib.hid hfz
      have HFN : Hid (∀ l i, 0 ≤ fz l i) := by
        intro l i; rw [hfz]; exact ((stV_bd (by omega) (HRB.out k) HLc.out).g0 (by omega) i).1
      clear hfz
      go_wp2_with fail
      clear r1
      go_loopg [8, 9, 10, 28] t (fun q u8 u9 u10 i wr => ∃ (l : Nat), i = .int .i64 l ∧ l ≤ t ∧ t ≤ q + l ∧ Hid (RowI wr wo.heap.size 2 (.slice (some ⟨gn, 0, none⟩) E.length E.length) (nxV 1099511627776 fz E.length l 0)) ∧ Hid (Below wo.heap.size wo wr))
      case atStart => exact ⟨0, rfl, by omega, by omega, HR0.out, HB3.out⟩
      case round =>
        clear HR0 HB3
        obtain ⟨l, rfl, hl, hm2, HR, HBi⟩ := hrel
        obtain ⟨wi, rfl⟩ : ∃ x : World, x = wr := ⟨_, rfl⟩
        obtain ⟨gy, hgy⟩ : ∃ g : Nat, g = gk := ⟨_, rfl⟩
        by_cases hlt2 : l < t
        · have q2 : (l : Int) < (t : Int) := by omega
          have hTI := HT.out.keep HBi.out (Nat.le_refl _)
          have hxk : ((List.range (k + 1)).map (rsV 1099511627776 t L E))[k]? = some (rsV 1099511627776 t L E k) := by simp
          obtain ⟨gt', ct', gr, cr, hv, _, _, _, hck, _, _, hgr, _, hcells⟩ := hTI.at_ hxk
          injection hv with e1 e2 e3
          clear e2 e3
          injection e1 with e1
          injection e1 with e1 _ _
          subst e1
          rw [rsV_len] at hck
          have hsl : SlI wi wi.heap.size (some ⟨gr, 0, none⟩) E.length (rsV 1099511627776 t L E k) := ⟨by rw [iv_length]; exact rsV_len _ _ _ _ _, fun _ => ⟨gr, 0, rfl, hgr, fun j u hu => by
            obtain ⟨y, hy, rfl⟩ := iv_get hu
            rw [Nat.zero_add]; exact hcells j y hy⟩⟩
          have hbw : Below w2.heap.size w2 wi := HB.out.trans (HBi.out.mono HB.out.size)
          have rm := RM2.out.below hbw RM2.out.lt
          have r0 := rm.cell 0; have r1 := rm.cell 1; have r2 := rm.cell 2; have r3 := rm.cell 3; have r4 := rm.cell 4
          have HSL := Lib.hid hsl
          have HMM := Lib.hid ((HM22.out.below hbw (Nat.le_refl _)).more hbw.size)
          have hglt : gt < wi.heap.size := Nat.lt_of_lt_of_le (HT.out.block gt rfl).2 HBi.out.size
          have hg3lt : g3 < wi.heap.size := rm.lt
          have hSt : Hid (∀ x : World, Below wi.heap.size wi x → Calls Try.prog 38 #[.agg #[.int .i64 S, .int .i64 T, .slice A2 L.length c2, .slice A3 E.length c3, .slice A4 P.length c4], .slice (some ⟨gr, 0, none⟩) E.length cr, .int .i64 (l : Int)] x fun e y => ∃ gs cs, e = .returned (.slice (some ⟨gs, 0, none⟩) E.length cs) ∧ RowI y wi.heap.size 2 (.slice (some ⟨gs, 0, none⟩) E.length cs) (stV 1099511627776 (L.map bkA) (l : Int) (rsV 1099511627776 t L E k)) ∧ Below x.heap.size x y) := by
            intro x hx
            refine (iStep_any (some ⟨gr, 0, none⟩) E.length cr (rsV 1099511627776 t L E k) (l : Int) S T A2 L.length c2 A3 E.length c3 A4 P.length c4 (L.map bkA) x ((HMM.out.below hx (Nat.le_refl _)).more hx.size) ((HSL.out.below hx (Nat.le_refl _)).more hx.size) (HRB.out k) HLK.out hE0 (by omega) (by omega)).mono ?_
            rintro e y ⟨gs, cs, rfl, h1, h2⟩
            exact ⟨gs, cs, rfl, World.ownsRow.mono h1 hx.size, h2⟩
          have hcel : Hid (∀ x : World, Below wi.heap.size wi x → (Below wi.heap.size wi x ∧ x.cell? ⟨g3, 0, none⟩ = some (.int .i64 S) ∧ x.cell? ⟨g3, 1, none⟩ = some (.int .i64 T) ∧ x.cell? ⟨g3, 2, none⟩ = some (.slice A2 L.length c2) ∧ x.cell? ⟨g3, 3, none⟩ = some (.slice A3 E.length c3) ∧ x.cell? ⟨g3, 4, none⟩ = some (.slice A4 P.length c4) ∧ x.cell? ⟨gt, k, none⟩ = some (.slice (some ⟨gr, 0, none⟩) E.length cr))) := by
            intro x hx
            have rx := rm.below hx hg3lt
            exact ⟨hx, rx.cell 0, rx.cell 1, rx.cell 2, rx.cell 3, rx.cell 4, (hx.cell (p := ⟨gt, k, none⟩) hglt).trans hck⟩
          have hkeep : Hid (∀ x y : World, Below wi.heap.size wi x → Below x.heap.size x y → (Below wi.heap.size wi y ∧ y.cell? ⟨g3, 0, none⟩ = some (.int .i64 S) ∧ y.cell? ⟨g3, 1, none⟩ = some (.int .i64 T) ∧ y.cell? ⟨g3, 2, none⟩ = some (.slice A2 L.length c2) ∧ y.cell? ⟨g3, 3, none⟩ = some (.slice A3 E.length c3) ∧ y.cell? ⟨g3, 4, none⟩ = some (.slice A4 P.length c4) ∧ y.cell? ⟨gt, k, none⟩ = some (.slice (some ⟨gr, 0, none⟩) E.length cr))) := fun x y h1 h2 => hcel.out y (h1.trans (h2.mono h1.size))
          have l0 : (0 : Int) ≤ (k : Int) := by omega
          have l1 : (k : Int) < (k : Int) + 1 := by omega
          have hfrom := hcel.out wi.drew (Below.drew (Below.refl _ _))
          have HRi := Lib.hid HR.out
          have HCK := Lib.hid hck
          clear hxk hcells hsl hbw rm r0 r1 r2 r3 r4 hTI hck
          go_wp2_with fail
          go_region_held3 (fun x => Below wi.heap.size wi x ∧ x.cell? ⟨g3, 0, none⟩ = some (.int .i64 S) ∧ x.cell? ⟨g3, 1, none⟩ = some (.int .i64 T) ∧ x.cell? ⟨g3, 2, none⟩ = some (.slice A2 L.length c2) ∧ x.cell? ⟨g3, 3, none⟩ = some (.slice A3 E.length c3) ∧ x.cell? ⟨g3, 4, none⟩ = some (.slice A4 P.length c4) ∧ x.cell? ⟨gt, k, none⟩ = some (.slice (some ⟨gr, 0, none⟩) E.length cr)) (first | (with_reducible assumption) | go_keep)
            (first
              | (go_at_call 38; refine (hSt.out _ (by first | (with_reducible assumption) | (with_reducible (apply And.left; assumption)))).mono ?_; rintro e wj ⟨gs, cs, rfl, hr2, hb2⟩; have s2 := (fun h => hkeep.out _ _ h hb2) (by first | (with_reducible assumption) | (with_reducible (apply And.left; assumption)))))
          obtain ⟨hbj, -, -, -, -, -, -⟩ := s2
          have HBj := Lib.hid hbj; have HS := Lib.hid hr2
          clear hbj hr2 hb2 hfrom hcel hkeep hSt
          have HRj := Lib.hid (RowI.keep HRi.out HBj.out (Nat.le_refl _))
          have HGS : Hid (gs ≠ gn) := by show _ ≠ _; have := HS.out.lt.1; have := HRi.out.lt.2; omega
          have HWJ : Hid (Below wo.heap.size wo wj) := HBi.out.trans (HBj.out.mono HBi.out.size)
          have HFI : Hid (∀ i, g0 (stV 1099511627776 (L.map bkA) (l : Int) (rsV 1099511627776 t L E k)) i = fz l i) := fun i => by rw [HFZ.out]
          have HSB := Lib.hid (stV_bd (F := 1099511627776) (L := L.map bkA) (l := (l : Int)) (by omega) (HRB.out k) HLc.out)
          obtain ⟨sv, hsv⟩ : ∃ v, v = stV 1099511627776 (L.map bkA) (l : Int) (rsV 1099511627776 t L E k) := ⟨_, rfl⟩
          rw [← hsv] at HS HFI HSB
          clear hsv HRi HR
          go_wp2_with fail
          go_loopg [9, 10, 39] E.length (fun q u9 u10 i wr => ∃ (j : Nat), i = .int .i64 j ∧ j ≤ E.length ∧ E.length ≤ q + j ∧ Hid (RowI wr wo.heap.size 2 (.slice (some ⟨gn, 0, none⟩) E.length E.length) (nxV 1099511627776 fz E.length l j)) ∧ Hid (But gn wj wr))
          case atStart => exact ⟨0, rfl, by omega, by omega, HRj.out, But.refl _ _⟩
          case round =>
            obtain ⟨j, rfl, hj, hm3, HR, HBt⟩ := hrel
            obtain ⟨wx, rfl⟩ : ∃ x : World, x = wr := ⟨_, rfl⟩
            by_cases hlt3 : j < E.length
            · have q3 : (j : Int) < (E.length : Int) := by omega
              have hsn : sv.length = E.length := HS.out.n
              have hxs := g0_some (show j < sv.length by omega)
              have bs := HSB.out.get hxs
              have hSx : RowI wx wi.heap.size 2 (.slice (some ⟨gs, 0, none⟩) E.length cs) sv := own_move HS.out (fun q hq => by
                simp [Value.ownBlock] at hq; subst hq
                exact HBt.out.2.2.2.2 _ HS.out.lt.2 HGS.out)
              have kx := hSx.cell hxs
              have k1 := HR.out.cell (nxV_at hlt3)
              have kf := HR.out.frozen j
              have HST := Lib.hid (nxV_step (F := 1099511627776) (f := fz) (l := l) hlt3)
              have hmb := mins_bd' (F := 1099511627776) (f := fun l => fz l j) (by omega) (fun l => HFN.out l j) l
              have hfe := HFI.out j
              obtain ⟨x1, hx1⟩ : ∃ x, x = mins 1099511627776 (fun l => fz l j) l := ⟨_, rfl⟩
              obtain ⟨x2, hx2⟩ : ∃ x, x = g0 sv j := ⟨_, rfl⟩
              rw [← hx1] at k1 hmb HST
              rw [← hx2] at kx bs hfe
              rw [← hfe] at HST
              obtain ⟨m1, hm1⟩ : ∃ m, (if x2 < x1 then x2 else x1) = m := ⟨_, rfl⟩
              have HST2 : Hid (nxV 1099511627776 fz E.length l (j + 1) = (nxV 1099511627776 fz E.length l j).set j m1) := by
                show _ = _
                rw [HST.out, ← hm1]
                congr 1
                split <;> omega
              obtain ⟨bs0, bs1⟩ := bs; obtain ⟨bm0, bm1⟩ := hmb
              clear hx1 hx2 hxs hSx HST hfe hsn
              go_wp2_with fail
              go_roundg (gk - 1)
              case measure => omega
              case rel =>
                refine ⟨j + 1, by go_num, by omega, by omega, ?_, HBt.out.trans (But.set _ _ _)⟩
                show RowI _ _ _ _ _
                rw [HST2.out]; exact HR.out.set j m1
            · have hjj : j = E.length := by omega
              have q3 : (E.length : Int) ≤ (j : Int) := by omega
              have HJ := Lib.hid hjj
              clear hjj hlt3
              go_wp2_with fail
              go_roundg (gy - 1)
              case measure => omega
              case rel =>
                refine ⟨l + 1, by go_num, by omega, by omega, ?_, HWJ.out.trans (HBt.out.below HGN.out HWJ.out.size)⟩
                have := HR.out
                rw [HJ.out, nxV_row] at this
                exact this
        · have hll : l = t := by omega
          have q2 : (t : Int) ≤ (l : Int) := by omega
          have HRE : Hid (RowI wi wo.heap.size 2 (.slice (some ⟨gn, 0, none⟩) E.length E.length) (rsV 1099511627776 t L E (k + 1))) := by
            have := HR.out
            rw [hll, HFZ.out, ← rsV_nx] at this
            exact this
          have HTI := Lib.hid (HT.out.keep HBi.out (Nat.le_refl _))
          have hgl : w.heap.size ≤ gn := Nat.le_trans (Nat.le_trans HBW.out.size HB.out.size) HGN.out
          have hnl : gn < wi.heap.size := HRE.out.lt.2
          have hgb : gt < wo.heap.size := (HT.out.block gt rfl).2
          have hne : (Value.slice (some ⟨gt, 0, none⟩) (k + 1) ct).ownBlock ≠ some gn := by intro e; simp [Value.ownBlock] at e; have := HGN.out; omega
          have hcl : Hid (∀ q x, (rsV 1099511627776 t L E (k + 1))[q]? = some x → wi.cell? ⟨gn, q, none⟩ = some (.int .i64 x)) := fun q x hx => HRE.out.cell hx
          have hlen : Hid (((List.range (k + 1)).map (rsV 1099511627776 t L E)).length + 1 ≤ 4294967296) := by show _ ≤ _; simp; omega
          have hbs : w.heap.size ≤ wi.heap.size := Nat.le_trans (Nat.le_trans HBW.out.size HB.out.size) HBi.out.size
          have HLEN : Hid (((List.range (k + 1)).map (rsV 1099511627776 t L E)).length = k + 1) := by show _ = _; simp
          clear hll hlt2 HR
          go_wp2_with (first | (at_builtin; refine wpList_tab_push wi rfl (.tmp 55) (.tmp 57) _ rfl w.heap.size 26 Try.underlying35 info2I (.slice (some ⟨gt, 0, none⟩) (k + 1) ct) ((List.range (k + 1)).map (rsV 1099511627776 t L E)) rfl HTI.out gn E.length E.length (rsV 1099511627776 t L E (k + 1)) (rsV_len _ _ _ _ _) rfl hgl hnl hne (Nat.le_refl _) hcl.out hlen.out hbs ?_; intro g' cap w' htab hgrw hbl hat; have HTW := Lib.hid htab; have HGW := Lib.hid hgrw; have HAT := Lib.hid hat; clear htab hgrw hbl hat))
          go_roundg (gz - 1)
          case measure => omega
          case rel =>
            have hlo : w2.heap.size ≤ wi.heap.size := Nat.le_trans HB.out.size HBi.out.size
            have hg0 : ∀ q, (Value.slice (some ⟨gt, 0, none⟩) (k + 1) ct).ownBlock = some q → w2.heap.size ≤ q := fun q hq => by simp [Value.ownBlock] at hq; have := HG.out; omega
            refine ⟨k + 1, g', cap, by go_num, by omega, by omega, rfl, ?_, ?_, (HB.out.trans (HBi.out.mono HB.out.size)).trans (grown_low HGW.out hg0 hlo)⟩
            · show _ ≤ _
              rcases HAT.out with e | e
              · exact hg0 _ e
              · omega
            · show TabI _ _ _ _ _
              rw [rsT_succ _ _ _ _ (k + 1)]
              have := HTW.out
              rw [HLEN.out] at this
              exact this
    · have hkk : k = 12 := by omega
      subst hkk
      go_wp2_with fail
      go_ret
      exact ⟨gt, ct, rfl, HT.out, HBW.out.trans (HB.out.mono HBW.out.size)⟩
end Go.Proofs.Ytedbngnkkfpbeaa
