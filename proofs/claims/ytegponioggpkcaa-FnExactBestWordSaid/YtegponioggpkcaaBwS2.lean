/- BestWord of the reference: the least costs to the end, by the number of letters. -/
import Derived.Test.YtegponioggpkcaaBwS1

namespace Go.Proofs.Ytegponioggpkcaa
open Go.RowKit
set_option linter.unusedVariables false
theorem reV_bd {F : Int} (hF : 0 ≤ F) {T : Nat} {L : List A4} {E : List Int} {C : List (List Int)} (hC : BdR F C) (hL : ∀ a ∈ L, 0 ≤ a.2.2.2) : ∀ r, Bd F (reV F T L E C r)
  | 0 => enV_bd hF _ hC
  | r + 1 => fun x hx => by
    simp only [reV, List.mem_map] at hx
    obtain ⟨i, _, rfl⟩ := hx
    refine mins_bd' hF (fun l => ?_) _
    have hb : Bd F ((spV F L (l : Int) C).getD i []) := by
      rw [List.getD_eq_getElem?_getD]
      cases hx : (spV F L (l : Int) C)[i]? with
      | none => intro x hx; cases hx
      | some r => exact spV_bd hF hC hL r (List.mem_of_getElem? hx)
    exact (lsm_bd hF hb (reV_bd hF hC hL r) _).1
/-- What l02Rest lowers: for letter l at state i. -/
def ref (F : Int) (T : Nat) (L : List A4) (E : List Int) (C : List (List Int)) (r i l : Nat) : Int := lsm F ((spV F L (l : Int) C).getD i []) (reV F T L E C r) E.length
theorem reV_take {F : Int} {T : Nat} {L : List A4} {E : List Int} {C : List (List Int)} {r i : Nat} (h : i < E.length) : (reV F T L E C (r + 1)).take (i + 1) = (reV F T L E C (r + 1)).take i ++ [mins F (ref F T L E C r i) T] := map_range_take _ _ _ h
theorem reT_succ (F : Int) (T : Nat) (L : List A4) (E : List Int) (C : List (List Int)) (k : Nat) : (List.range (k + 1)).map (reV F T L E C) = (List.range k).map (reV F T L E C) ++ [reV F T L E C k] := by rw [List.range_succ, List.map_append]; rfl
set_option maxRecDepth 100000 in
set_option maxHeartbeats 8000000 in
theorem sRest_any (gm : Nat) (S T : Int) (L : List A4) (P E : List Int) (gt n ct gA cA t : Nat) (C : List (List Int)) (w : World) (h : Mp w gm S T L P E) (hC : TabR w gt n C) (hA : Al3 w gA n (alV L C t)) (hS : S = (n : Int)) (hT : T = (t : Int)) (ht : t ≤ 4) (hL : ∀ a ∈ L, 0 ≤ a.2.2.2) (hCb : BdR 1000000000 C) (hE : E.length = n) (hEb : ∀ x ∈ E, x ≤ 1000) (h0 : 0 < n) (hn : n ≤ 1000) :
    Calls Try.prog 53 #[.pointer (some ⟨gm, 0, none⟩), .slice (some ⟨gt, 0, none⟩) n ct, .slice (some ⟨gA, 0, none⟩) t cA] w fun e w' => ∃ gr cr, e = .returned (.slice (some ⟨gr, 0, none⟩) 13 cr) ∧ TabI w' w.heap.size 26 (.slice (some ⟨gr, 0, none⟩) 13 cr) ((List.range 13).map (reV 1000000000 t L E C)) ∧ Below w.heap.size w w' := by
  have HM := Lib.hid h; have HC := Lib.hid hC; have HA := Lib.hid hA
  have HSh : Hid (Shp n C) := ⟨hC.1, hC.2.1⟩
  have HRB := Lib.hid (reV_bd (F := 1000000000) (T := t) (L := L) (E := E) (by omega) hCb hL)
  have HSB := Lib.hid (fun l : Nat => spV_bd (F := 1000000000) (L := L) (l := (l : Int)) (by omega) hCb hL)
  have HEN := Lib.hid hE
  have HEs := sEnds_any gm S T L P E gt n ct C w h hC hS hE hEb hCb (by omega)
  subst hT
  subst hS
  clear h hC hA
  go_enter Try.func53, Try.ntmps53
  go_wp2_with fail
  refine HEs.mono ?_
  rintro e w1 ⟨A0, c0, rfl, hr1, hb1⟩
  clear HEs
  obtain ⟨g0', cc0, hv, _⟩ := hr1.form (by rw [enV_len]; exact h0)
  rw [enV_len] at hv
  injection hv with e1 e2 e3
  clear e2
  subst e1 e3
  have hr1' : RowI w1 w.heap.size 2 (.slice (some ⟨g0', 0, none⟩) n c0) (reV 1000000000 t L E C 0) := by
    rw [reV, hE]; exact hr1
  have HTB := Lib.hid (tabI_one w1 w.heap.size g0' n c0 26 2 _ hr1')
  have HB2 : Hid (Below w1.heap.size w1 (w1.alloc (.cells #[.slice (some ⟨g0', 0, none⟩) n c0] 26))) := (Below.refl _ _).alloc (Nat.le_refl _) _
  have HM1 := Lib.hid (HM.out.below hb1 (Nat.le_refl _)); have HA1 := Lib.hid (HA.out.below hb1 (Nat.le_refl _))
  have HBW := Lib.hid hb1
  clear hr1 hr1' hb1 HM HC HA hE
  go_wp2_with fail
  go_loopg [7, 8, 9, 10, 11, 12] 13 (fun q o i u9 u10 u11 u12 wr => ∃ (k gr cr : Nat), i = .int .i64 ((k : Int) + 1) ∧ k ≤ 12 ∧ 13 ≤ q + k ∧ o = .slice (some ⟨gr, 0, none⟩) (k + 1) cr ∧ Hid (w1.heap.size ≤ gr) ∧ Hid (TabI wr w.heap.size 26 (.slice (some ⟨gr, 0, none⟩) (k + 1) cr) ((List.range (k + 1)).map (reV 1000000000 t L E C))) ∧ Hid (Below w1.heap.size w1 wr))
  case atStart => exact ⟨0, w1.heap.size, 1, rfl, by omega, by omega, rfl, Nat.le_refl _, HTB.out, HB2.out⟩
  case round =>
    clear HTB HB2
    obtain ⟨k, gr, cr, rfl, hk, hm, rfl, HG, HT, HB⟩ := hrel
    obtain ⟨wo, rfl⟩ : ∃ x : World, x = wr := ⟨_, rfl⟩
    obtain ⟨gz, hgz⟩ : ∃ g : Nat, g = gk := ⟨_, rfl⟩
    by_cases hlt : k < 12
    · have q1 : (k : Int) + 1 ≤ 12 := by omega
      go_wp2_with fail
      have HWO : Hid (w1.heap.size ≤ wo.heap.size) := HB.out.size
      have HGR : Hid (gr < wo.heap.size) := (HT.out.block gr rfl).2
      go_loopg [9, 10, 11, 12] n (fun q o i u11 u12 wr => ∃ (j : Nat) (A : Option Addr) (c : Nat), i = .int .i64 j ∧ j ≤ n ∧ n ≤ q + j ∧ o = .slice A j c ∧ Hid (RowI wr wo.heap.size 2 (.slice A j c) ((reV 1000000000 t L E C (k + 1)).take j)) ∧ Hid (Below wo.heap.size wo wr))
      case atStart => exact ⟨0, _, _, rfl, by omega, by omega, rfl, RowI.made _ _ _ (Nat.le_refl _), (Below.refl _ _).alloc (Nat.le_refl _) _⟩
      case round =>
        obtain ⟨j, A, c, rfl, hj, hm2, rfl, HR, HBi⟩ := hrel
        obtain ⟨wi, rfl⟩ : ∃ x : World, x = wr := ⟨_, rfl⟩
        obtain ⟨gy, hgy⟩ : ∃ g : Nat, g = gk := ⟨_, rfl⟩
        have hb1i : Hid (Below w1.heap.size w1 wi) := HB.out.trans (HBi.out.mono HB.out.size)
        obtain ⟨A2, c2, A3, c3, A4', c4, hr, _, _, _⟩ := HM1.out.below hb1i.out (Nat.le_refl _)
        have r0 := hr.cell 0
        clear hr
        by_cases hlt2 : j < n
        · have q2 : (j : Int) < (n : Int) := by omega
          go_wp2_with fail
          clear r0
          go_loopg [11, 12] t (fun q s i wr => ∃ (l : Nat), i = .int .i64 l ∧ l ≤ t ∧ t ≤ q + l ∧ s = .int .i64 (mins 1000000000 (ref 1000000000 t L E C k j) l) ∧ Hid (∃ d, wr = wi.drewN d))
          case atStart => exact ⟨0, rfl, by omega, by omega, rfl, ⟨0, rfl⟩⟩
          case round =>
            obtain ⟨l, rfl, hl, hm3, rfl, HD⟩ := hrel
            obtain ⟨wx, rfl⟩ : ∃ x : World, x = wr := ⟨_, rfl⟩
            obtain ⟨d, hd⟩ := HD.out
            have hbx : Hid (Below wi.heap.size wi wx) := by show Below _ _ _; rw [hd]; exact below_draws (Below.refl _ _) d
            have hb1x : Hid (Below w1.heap.size w1 wx) := hb1i.out.trans (hbx.out.mono hb1i.out.size)
            obtain ⟨A2, c2, A3, c3, A4', c4, hr, _, _, _⟩ := HM1.out.below hb1x.out (Nat.le_refl _)
            have r1 := hr.cell 1
            clear hr hd
            by_cases hlt3 : l < t
            · have q3 : (l : Int) < (t : Int) := by omega
              obtain ⟨ga, ca, ka, _, hTA⟩ := (HA1.out.below hb1x.out (Nat.le_refl _)) l _ (alV_at hlt3)
              obtain ⟨row, hrow⟩ : ∃ r, (spV 1000000000 L (l : Int) C)[j]? = some r := ⟨_, List.getElem?_eq_getElem (by rw [spV_len, HSh.out.1]; exact hlt2)⟩
              obtain ⟨gb, cb, kb, _, hgb, hcb⟩ := hTA.2.2 j row hrow
              have hrl : row.length = n := hTA.2.1 row (List.mem_of_getElem? hrow)
              have hTI := HT.out.keep (HBi.out.trans (hbx.out.mono HBi.out.size)) (Nat.le_refl _)
              have hxk : ((List.range (k + 1)).map (reV 1000000000 t L E C))[k]? = some (reV 1000000000 t L E C k) := by simp
              obtain ⟨gt', ct', gq, cq, hv, _, _, _, hck, _, _, hgq, _, hcells⟩ := hTI.at_ hxk
              injection hv with e1 e2 e3
              clear e2 e3
              injection e1 with e1
              injection e1 with e1 _ _
              subst e1
              have hel : (reV 1000000000 t L E C k).length = n := by rw [reV_len]; exact HEN.out
              rw [hel] at hck
              have hs1 : SlI wx wx.heap.size (some ⟨gb, 0, none⟩) n row := ⟨by rw [iv_length]; exact hrl, fun _ => ⟨gb, 0, rfl, hgb, fun q u hu => by
                obtain ⟨y, hy, rfl⟩ := iv_get hu
                rw [Nat.zero_add]; exact hcb q y hy⟩⟩
              have hs2 : SlI wx wx.heap.size (some ⟨gq, 0, none⟩) n (reV 1000000000 t L E C k) := ⟨by rw [iv_length]; exact hel, fun _ => ⟨gq, 0, rfl, hgq, fun q u hu => by
                obtain ⟨y, hy, rfl⟩ := iv_get hu
                rw [Nat.zero_add]; exact hcells q y hy⟩⟩
              have hbr : Bd 1000000000 row := HSB.out l row (List.mem_of_getElem? hrow)
              have hfe : ref 1000000000 t L E C k j l = lsm 1000000000 row (reV 1000000000 t L E C k) row.length := by
                unfold ref; rw [HEN.out, hrl, List.getD_eq_getElem?_getD, hrow]; rfl
              have hMB := mins_bd' (F := 1000000000) (f := ref 1000000000 t L E C k j) (by omega) (fun l => by
                unfold ref
                refine (lsm_bd (by omega) ?_ (HRB.out k) _).1
                rw [List.getD_eq_getElem?_getD]
                cases hx : (spV 1000000000 L (l : Int) C)[j]? with
                | none => intro x hx; cases hx
                | some r => exact HSB.out l r (List.mem_of_getElem? hx)) l
              obtain ⟨y, hy⟩ : ∃ y, y = ref 1000000000 t L E C k j l := ⟨_, rfl⟩
              have hQ : Hid (∀ q, Calls Try.prog 55 #[.slice (some ⟨gb, 0, none⟩) n cb, .slice (some ⟨gq, 0, none⟩) n cq] (wx.drewN q) fun e w' => e = .returned (.int .i64 y) ∧ ∃ m, w' = (wx.drewN q).drewN m) := by
                intro q; rw [hy, hfe]
                exact sSumQ_any (some ⟨gb, 0, none⟩) n cb row (some ⟨gq, 0, none⟩) cq (reV 1000000000 t L E C k) (wx.drewN q) hs1 hs2 hbr (HRB.out k) (by omega)
              obtain ⟨s, hs0⟩ : ∃ s, s = mins 1000000000 (ref 1000000000 t L E C k j) l := ⟨_, rfl⟩
              have HST : Hid (mins 1000000000 (ref 1000000000 t L E C k j) (l + 1) = min s y) := by
                show Min.min (mins 1000000000 (ref 1000000000 t L E C k j) l) (ref 1000000000 t L E C k j l) = _
                rw [← hs0, ← hy]
              rw [← hs0]
              have hMC := sMinC s y
              have ew : IntKind.i64.wrap ((k : Int) + 1 - 1) = (k : Int) := by rw [IntWalk.i64_in _ (by omega)]; omega
              have i1 : (0 : Int) ≤ (k : Int) := by omega
              have i2 : (k : Int) < (k : Int) + 1 := by omega
              clear hs0 hy hxk hcells hs1 hs2 hTI hrow hrl hel hTA hgb hcb hbr hfe hMB
              go_wp2_with fail
              go_quiet (first | (go_at_call 55; exact Calls.quiet_of (hQ.out _)) | (go_at_call 84; exact quietL (hMC _)))
              go_wp2_with fail
              go_roundg (gk - 1)
              case measure => omega
              case rel => exact ⟨l + 1, by go_num, by omega, by omega, by rw [HST.out], by obtain ⟨d, hd⟩ := HD.out; rw [hd]; exact ⟨_, World.drewN_drewN _ _ _⟩⟩
            · have hll : l = t := by omega
              have q3 : (t : Int) ≤ (l : Int) := by omega
              have hs : wo.heap.size ≤ wx.heap.size := Nat.le_trans HBi.out.size hbx.out.size
              have HRx : Hid (RowI wx wo.heap.size 2 (.slice A j c) ((reV 1000000000 t L E C (k + 1)).take j)) := RowI.keep HR.out hbx.out (Nat.le_refl _)
              have hlk : Hid (((reV 1000000000 t L E C (k + 1)).take j).length = j) := by show _ = _; rw [List.length_take, reV_len, HEN.out]; omega
              have hlen : Hid (((reV 1000000000 t L E C (k + 1)).take j).length + 1 ≤ 4294967296) := by show _ ≤ _; rw [hlk.out]; omega
              obtain ⟨s, hs0⟩ : ∃ s, s = mins 1000000000 (ref 1000000000 t L E C k j) l := ⟨_, rfl⟩
              have HST : Hid ((reV 1000000000 t L E C (k + 1)).take (j + 1) = (reV 1000000000 t L E C (k + 1)).take j ++ [s]) := by show _ = _; rw [reV_take (by rw [HEN.out]; exact hlt2), hs0, hll]
              rw [← hs0]
              clear hs0 hll hlt3
              go_wp2_with (first | (at_builtin; refine wpList_int_push wx rfl (.tmp 53) (.tmp 55) _ rfl wo.heap.size 2 Try.underlying26 infoQ (.slice A j c) ((reV 1000000000 t L E C (k + 1)).take j) rfl HRx.out s rfl hlen.out hs ?_; intro g' cap w' hown hbl hat hgr; clear hat hgr; have HOW := Lib.hid hown; have HBL := Lib.hid hbl; clear hown hbl))
              go_roundg (gy - 1)
              case measure => omega
              case rel =>
                refine ⟨j + 1, some ⟨g', 0, none⟩, cap, by go_num, by omega, by omega, by first | rfl | (rw [hlk.out]) | (rw [reV_len, HEN.out, Nat.min_eq_left (by omega)]), ?_, (HBi.out.trans (hbx.out.mono HBi.out.size)).trans HBL.out⟩
                show RowI _ _ _ _ _
                rw [HST.out]
                have := HOW.out
                rw [hlk.out] at this
                exact this
        · have hjj : j = n := by omega
          have q2 : (n : Int) ≤ (j : Int) := by omega
          have hfull : (reV 1000000000 t L E C (k + 1)).take j = reV 1000000000 t L E C (k + 1) := List.take_of_length_le (by rw [reV_len, HEN.out]; omega)
          have hRj := HR.out
          rw [hfull, hjj] at hRj
          have hel : (reV 1000000000 t L E C (k + 1)).length = n := by rw [reV_len]; exact HEN.out
          obtain ⟨gn, cn, hv, hcn, hgn, hgl, hcl⟩ := hRj.form (by omega)
          rw [hel] at hv hcn
          injection hv with e1 e2 e3
          clear e2
          subst e1 e3
          have HTI := Lib.hid (HT.out.keep HBi.out (Nat.le_refl _))
          have hgw : w.heap.size ≤ gn := Nat.le_trans (Nat.le_trans HBW.out.size HWO.out) hgn
          have hne : (Value.slice (some ⟨gr, 0, none⟩) (k + 1) cr).ownBlock ≠ some gn := by intro e; simp [Value.ownBlock] at e; have := HGR.out; omega
          have HCL := Lib.hid hcl
          have hlen : Hid (((List.range (k + 1)).map (reV 1000000000 t L E C)).length + 1 ≤ 4294967296) := by show _ ≤ _; simp; omega
          have hbs : w.heap.size ≤ wi.heap.size := Nat.le_trans HBW.out.size hb1i.out.size
          have HLEN : Hid (((List.range (k + 1)).map (reV 1000000000 t L E C)).length = k + 1) := by show _ = _; simp
          have HEL := Lib.hid hel
          have hj2 := hjj
          subst hj2
          clear hcl hRj hfull hjj hlt2 HR hel
          go_wp2_with (first | (at_builtin; refine wpList_tab_push wi rfl (.tmp 57) (.tmp 59) _ rfl w.heap.size 26 Try.underlying41 info2I (.slice (some ⟨gr, 0, none⟩) (k + 1) cr) ((List.range (k + 1)).map (reV 1000000000 t L E C)) rfl HTI.out gn _ j (reV 1000000000 t L E C (k + 1)) HEL.out rfl hgw hgl hne hcn HCL.out hlen.out hbs ?_; intro g' cap w' htab hgrw hbl hat; have HTW := Lib.hid htab; have HGW := Lib.hid hgrw; have HAT := Lib.hid hat; clear htab hgrw hbl hat))
          go_roundg (gz - 1)
          case measure => omega
          case rel =>
            have hg0 : ∀ q, (Value.slice (some ⟨gr, 0, none⟩) (k + 1) cr).ownBlock = some q → w1.heap.size ≤ q := fun q hq => by simp [Value.ownBlock] at hq; have := HG.out; omega
            refine ⟨k + 1, g', cap, by go_num, by omega, by omega, rfl, ?_, ?_, hb1i.out.trans (grown_low HGW.out hg0 hb1i.out.size)⟩
            · show _ ≤ _
              rcases HAT.out with e | e
              · exact hg0 _ e
              · have := hb1i.out.size; omega
            · show TabI _ _ _ _ _
              rw [reT_succ _ _ _ _ _ (k + 1)]
              have := HTW.out
              rw [HLEN.out] at this
              exact this
    · have hkk : k = 12 := by omega
      subst hkk
      go_wp2_with fail
      go_ret
      exact ⟨gr, cr, rfl, HT.out, HBW.out.trans (HB.out.mono HBW.out.size)⟩
end Go.Proofs.Ytegponioggpkcaa
