/- Common texts: the table of the reference. -/
import Derived.Test.YtdpaldiomijijaaTxtB
import Derived.Test.YtdpaldiomijijaaTab
import Derived.Test.YtdpaldiomijijaaCmP
import Derived.Deep.QuietTactic
import Derived.BigQuiet
import Derived.RegionTactic
import Derived.Deep.RegionLaw
namespace Go.Proofs.Ytdpaldiomijijaa
open Go.RowKit Go.PlainAid
set_option linter.unusedVariables false
theorem infoI6 : (Try.prog.info? 2).map (fun i => (i.zero, i.size, i.bytes)) = some (some (.int .i64 0), 1, 8) := by kernel_rfl
theorem infoS6 : (Try.prog.info? 26).map (fun i => (i.zero, i.size, i.bytes)) = some (some (.slice none 0 0), 1, 24) := by kernel_rfl
theorem bx6 {x y : Int} (h : x = y) : (x == y) = true := by simp [h]
theorem by6 {x y : Int} (h : x ≠ y) : (x == y) = false := by simp [h]
theorem sMax6 (x y : Int) (w : World) :
    Calls Try.prog 59 #[.int .i64 x, .int .i64 y] w fun e w' => e = .returned (.int .i64 (max x y)) ∧ w = w' := by
  by_cases h : y < x
  · go_enter Try.func59, Try.ntmps59
    go_wp2
    go_ret
    exact ⟨ret_int (by omega), rfl⟩
  · have h' : x ≤ y := by omega
    clear h
    go_enter Try.func59, Try.ntmps59
    go_wp2
    go_ret
    exact ⟨ret_int (by omega), rfl⟩
theorem push_val6 {w : World} {b : Nat} {t : TypeId} {v : Value} {r : List Int} {x y : Int} (h : RowI w b t v (r ++ [x])) (e : y = x) : RowI w b t v (r ++ [y]) := e ▸ h

set_option maxRecDepth 100000 in
set_option maxHeartbeats 8000000 in
theorem sCommons_any (a b : ByteArray) (ha : a.size ≤ 48) (hb : b.size ≤ 48) (w : World) :
    Calls Try.prog 64 #[.string a, .string b] w fun e w' => ∃ v, e = .returned v ∧ TabI w' w.heap.size 26 v (rowsOf (cm a b) (a.size + 1) (b.size + 1)) ∧ Below w.heap.size w w' := by
  go_enter Try.func64, Try.ntmps64
  go_wp2
  go_loopw [5, 6] (fun t i wr => ∃ k : Nat, k ≤ a.size + 1 ∧ i = .int .i64 k ∧ TabI wr w.heap.size 26 t (rowsOf (cm a b) k (b.size + 1)) ∧ Below w.heap.size w wr) (fun t i wr => a.size + 1 - (intOf i).toNat)
  case atStart => exact ⟨0, by omega, rfl, TabI.made _ _ _ (Nat.le_refl _), (Below.refl _ _).alloc (Nat.le_refl _) _⟩
  case round =>
    obtain ⟨i, hi, rfl, htab, hbel⟩ := hrel
    have HT := Lib.hid htab; clear htab
    obtain ⟨wo, rfl⟩ : ∃ wo : World, wo = wr := ⟨_, rfl⟩
    by_cases hlt : i < a.size + 1
    · have hdi : decide (i ≤ a.size) = true := decide_eq_true (by omega)
      go_wp2
      have hbase : w.heap.size ≤ wo.heap.size := hbel.size
      have hrow0 := RowI.made wo wo.heap.size 2 (Nat.le_refl _)
      go_loopw [7, 8] (fun rv kk wr => ∃ k : Nat, k ≤ b.size + 1 ∧ kk = .int .i64 k ∧ RowI wr wo.heap.size 2 rv (rowOf (cm a b i) k) ∧ Below wo.heap.size wo wr) (fun rv kk wr => b.size + 1 - (intOf kk).toNat)
      case atStart => exact ⟨0, by omega, rfl, hrow0, (Below.refl _ _).alloc (Nat.le_refl _) _⟩
      case round =>
        obtain ⟨k, hk, rfl, hr, hb2⟩ := hrel
        have HR := Lib.hid hr; clear hr hrow0
        have hs2 := hb2.size
        by_cases hkl : k < b.size + 1
        · have hdk : decide (k ≤ b.size) = true := decide_eq_true (by omega)
          by_cases h0 : i = 0 ∨ k = 0
          · have hv0 := Lib.hid (show cm a b i k = 0 by rcases h0 with rfl | rfl; · rw [cm_row0]
                                                        · rw [cm_col0])
            rcases Nat.eq_zero_or_pos i with h1 | h1
            · have z1 : ((i : Int) == 0) = true := bx6 (by omega)
              clear h0 h1
              go_wp2_with (at_builtin; refine wpList_int_push _ rfl (.tmp 47) (.tmp 48) _ rfl wo.heap.size 2 Try.underlying26 infoI6 _ (rowOf (cm a b i) k) rfl HR.out _ rfl (by rw [rowOf_length]; omega) hs2 ?_; intro g' cap w' hown hbl hat hgr)
              rw [rowOf_length] at hown ⊢
              first
                | exact ⟨⟨k + 1, by omega, by go_num, by rw [rowOf_succ, hv0.out]; exact hown, hb2.trans hbl⟩, by simp [intOf]; omega⟩
                | (refine ⟨?_, by simp [intOf]; omega⟩; (repeat apply Exists.intro); exact ⟨⟨k + 1, by omega, by go_num, by rw [rowOf_succ, hv0.out]; exact hown, hb2.trans hbl⟩, rfl⟩)
            · have z1 : ((i : Int) == 0) = false := by6 (by omega)
              have z2 : ((k : Int) == 0) = true := bx6 (by omega)
              clear h0 h1
              go_wp2_with (at_builtin; refine wpList_int_push _ rfl (.tmp 47) (.tmp 48) _ rfl wo.heap.size 2 Try.underlying26 infoI6 _ (rowOf (cm a b i) k) rfl HR.out _ rfl (by rw [rowOf_length]; omega) hs2 ?_; intro g' cap w' hown hbl hat hgr)
              rw [rowOf_length] at hown ⊢
              first
                | exact ⟨⟨k + 1, by omega, by go_num, by rw [rowOf_succ, hv0.out]; exact hown, hb2.trans hbl⟩, by simp [intOf]; omega⟩
                | (refine ⟨?_, by simp [intOf]; omega⟩; (repeat apply Exists.intro); exact ⟨⟨k + 1, by omega, by go_num, by rw [rowOf_succ, hv0.out]; exact hown, hb2.trans hbl⟩, rfl⟩)
          · have h1 : 0 < i := by omega
            have h2 : 0 < k := by omega
            clear h0
            obtain ⟨i, rfl⟩ : ∃ j, i = j + 1 := ⟨i - 1, by omega⟩
            obtain ⟨k, rfl⟩ : ∃ j, k = j + 1 := ⟨k - 1, by omega⟩
            have hi1 : ((i : Int) + 1 == 0) = false := by6 (by omega)
            have hk1 : ((k : Int) + 1 == 0) = false := by6 (by omega)
            obtain ⟨gt, ct, g, cc, hv, hct, hgt, hgtl, hch, hcc, hg, hgl, hne, hcs⟩ := HT.out.at_ (rowsOf_get (cm a b) (j := i) (n := b.size + 1) (Nat.lt_succ_self i))
            rw [rowOf_length] at hch hcc
            rw [rowsOf_length] at hct hv
            subst hv
            obtain ⟨gr, cr, hv, hcr, hgr1, hgr2, hrs⟩ := HR.out.form (by rw [rowOf_length]; omega)
            rw [rowOf_length] at hv hcr
            subst hv
            have hch' := (hb2.cell (p := ⟨gt, i, none⟩) hgtl).trans hch
            have hx1 := (hb2.cell (p := ⟨g, k, none⟩) hgl).trans (hcs k _ (rowOf_get _ (by omega)))
            have hx2 := (hb2.cell (p := ⟨g, k + 1, none⟩) hgl).trans (hcs (k + 1) _ (rowOf_get _ (by omega)))
            have hx3 := hrs k _ (rowOf_get _ (Nat.lt_succ_self k))
            clear hcs hch hrs
            have b1 := cm_bd a b i k
            have b2 := cm_bd a b i (k + 1)
            have b3 := cm_bd a b (i + 1) k
            have hE : Hid (bt a i = bt b k → cm a b (i + 1) (k + 1) = cm a b i k + 1) := fun h => cm_eq a b h
            have hN : Hid (¬ bt a i = bt b k → cm a b (i + 1) (k + 1) = max (cm a b i (k + 1)) (cm a b (i + 1) k)) := fun h => cm_ne a b h
            obtain ⟨x1, e1⟩ : ∃ x, x = cm a b i k := ⟨_, rfl⟩
            obtain ⟨x2, e2⟩ : ∃ x, x = cm a b i (k + 1) := ⟨_, rfl⟩
            obtain ⟨x3, e3⟩ : ∃ x, x = cm a b (i + 1) k := ⟨_, rfl⟩
            rw [← e1] at hx1 b1
            rw [← e2] at hx2 b2
            rw [← e3] at hx3 b3
            have E1 := Lib.hid e1; have E2 := Lib.hid e2; have E3 := Lib.hid e3
            clear e1 e2 e3
            have hba := get_bt a
            have hbb := get_bt b
            have l1 : (0 : Int) ≤ (i : Int) := by omega
            have l2 : (i : Int) < (a.size : Int) := by omega
            have l2' : (i : Int) < (i : Int) + 1 := by omega
            have l3 : (0 : Int) ≤ (k : Int) := by omega
            have l4 : (k : Int) < (b.size : Int) := by omega
            have l4' : (k : Int) < (k : Int) + 1 := by omega
            have l5 : (0 : Int) ≤ (k : Int) + 1 := by omega
            have l6 : (k : Int) + 1 < (b.size : Int) + 1 := by omega
            have n1 : ((k : Int) + 1).toNat = k + 1 := by omega
            have w1 : IntKind.i64.wrap (i : Int) = (i : Int) := IntWalk.i64_in _ (by omega)
            have w2 : IntKind.i64.wrap (k : Int) = (k : Int) := IntWalk.i64_in _ (by omega)
            by_cases hq : bt a i = bt b k
            · have q1 : (bt a i == bt b k) = true := bx6 hq
              have HM : Hid (cm a b (i + 1) (k + 1) = x1 + 1) := by
                show _ = x1 + 1
                rw [hE.out hq, ← E1.out]
              clear hq
              go_wp2
              go_quiet (fail)
              clear w1 w2
              go_wp2_with (at_builtin; refine wpList_int_push _ rfl (.tmp 60) (.tmp 71) _ rfl wo.heap.size 2 Try.underlying26 infoI6 _ (rowOf (cm a b (i + 1)) (k + 1)) (by rfl) (HR.out.drewN _) _ rfl (by rw [rowOf_length]; omega) hs2 ?_; intro g' cap w' hown hbl hat hgr)
              rw [rowOf_length] at hown ⊢
              first
                | exact ⟨⟨k + 1 + 1, by omega, by go_num, by rw [rowOf_succ, HM.out]; exact hown, (below_draws hb2 _).trans hbl⟩, by simp [intOf]; omega⟩
                | (refine ⟨?_, by simp [intOf]; omega⟩; (repeat apply Exists.intro); exact ⟨⟨k + 1 + 1, by omega, by go_num, by rw [rowOf_succ, HM.out]; exact hown, (below_draws hb2 _).trans hbl⟩, rfl⟩)
            · have q1 : (bt a i == bt b k) = false := by6 hq
              have HM : Hid (cm a b (i + 1) (k + 1) = max x2 x3) := by
                show _ = max x2 x3
                rw [hN.out hq, ← E2.out, ← E3.out]
              clear hq
              go_wp2
              go_quiet (fail)
              go_wp2
              obtain ⟨v2, hv2⟩ : ∃ v2 : World, v2 = wr.drewN nq := ⟨_, rfl⟩
              have g1 : v2.cell? ⟨gt, i, none⟩ = some (.slice (some ⟨g, 0, none⟩) (b.size + 1) cc) := by rw [hv2]; exact hch'
              have g2 : v2.cell? ⟨g, k + 1, none⟩ = some (.int .i64 x2) := by rw [hv2]; exact hx2
              have g3 : v2.cell? ⟨gr, k, none⟩ = some (.int .i64 x3) := by rw [hv2]; exact hx3
              have HRv : Hid (RowI v2 wo.heap.size 2 (.slice (some ⟨gr, 0, none⟩) (k + 1) cr) (rowOf (cm a b (i + 1)) (k + 1))) := by rw [hv2]; exact HR.out.drewN _
              have hbv : Hid (Below wo.heap.size wo v2) := by rw [hv2]; exact below_draws hb2 _
              rw [← hv2]
              clear hv2 hch' hx1 hx2 hx3
              have hsv := hbv.out.size
              go_region_law (first
                | (go_simp; go_at_call 59; refine (sMax6 _ _ _).mono ?_; rintro e w' ⟨rfl, rfl⟩)
                | (refine step_int_push _ (by rfl) (.tmp 23) (.tmp 38) _ (by rfl) wo.heap.size 2 Try.underlying26 infoI6 _ (rowOf (cm a b (i + 1)) (k + 1)) (by rfl) (HRv.out.keep (B := v2.heap.size) ((Below.drew (Below.refl _ _)).alloc (by simp) _) (Nat.le_refl _)) v2.heap.size (max x2 x3) (by rfl) (by simp) (by rw [rowOf_length]; omega) (by simp; omega) ?_; intro g' cap w' hown hbl))
              all_goals go_wp2
              all_goals rw [rowOf_length] at hown ⊢
              all_goals have hpre : Below wo.heap.size wo w' := Below.trans (hbv.out.trans (by first | exact Below.drew ((Below.refl _ _).alloc hsv _) | exact (Below.drew (Below.refl _ _)).alloc hsv _ | exact (Below.refl _ _).alloc hsv _)) hbl
              all_goals
                first
                  | exact ⟨⟨k + 1 + 1, by omega, by go_num, by rw [rowOf_succ, HM.out]; exact hown, hpre⟩, by simp [intOf]; omega⟩
                  | (refine ⟨?_, by simp [intOf]; omega⟩; (repeat apply Exists.intro); exact ⟨⟨k + 1 + 1, by omega, by go_num, by rw [rowOf_succ, HM.out]; exact hown, hpre⟩, rfl⟩)
        · obtain rfl : k = b.size + 1 := by omega
          obtain ⟨gr, cr, hv, hcr, hgr1, hgr2, hrs⟩ := HR.out.form (by rw [rowOf_length]; omega)
          rw [rowOf_length] at hv hcr
          subst hv
          have HC := Lib.hid hrs; clear hrs
          have hne : u5.ownBlock ≠ some gr := fun e => by have := (HT.out.block _ e).2; omega
          have HNE := Lib.hid hne; clear hne
          go_wp2_with (at_builtin; refine wpList_tab_push _ rfl (.tmp 73) (.tmp 75) _ rfl w.heap.size 26 Try.underlying51 infoS6 _ (rowsOf (cm a b) i (b.size + 1)) rfl (HT.out.keep hb2 (Nat.le_refl _)) gr cr (b.size + 1) (rowOf (cm a b i) (b.size + 1)) (rowOf_length _ _) rfl (by omega) hgr2 HNE.out hcr HC.out (by rw [rowsOf_length]; omega) (by omega) ?_; intro g' cap w' htab' hgr hbl hat)
          rw [rowsOf_length] at htab'
          exact ⟨⟨i + 1, by omega, by go_num, by rw [rowsOf_length, rowsOf_succ]; exact htab', hbel.trans ((hb2.mono hbase).trans hbl)⟩, by simp [intOf]; omega⟩
    · obtain rfl : i = a.size + 1 := by omega
      go_wp2
      go_ret
      exact ⟨_, rfl, HT.out, hbel⟩
end Go.Proofs.Ytdpaldiomijijaa
