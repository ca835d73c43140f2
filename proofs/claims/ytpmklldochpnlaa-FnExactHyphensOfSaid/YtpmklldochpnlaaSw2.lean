/- Least edits with swaps: the table of the reference. -/
import Derived.Test.YtpmklldochpnlaaTxt
import Derived.Test.YtpmklldochpnlaaTab
import Derived.Test.YtpmklldochpnlaaSwP
import Derived.Deep.QuietTactic
import Derived.BigQuiet
import Derived.Deep.Cut
namespace Go.Proofs.Ytpmklldochpnlaa
open Go.RowKit Go.PlainAid
set_option linter.unusedVariables false
theorem infoI4 : (Try.prog.info? 2).map (fun i => (i.zero, i.size, i.bytes)) = some (some (.int .i64 0), 1, 8) := by kernel_rfl
theorem infoS4 : (Try.prog.info? 37).map (fun i => (i.zero, i.size, i.bytes)) = some (some (.slice none 0 0), 1, 24) := by kernel_rfl
theorem bx2 {x y : Int} (h : x = y) : (x == y) = true := by simp [h]
theorem by2 {x y : Int} (h : x ≠ y) : (x == y) = false := by simp [h]
theorem sMin_sw (x y : Int) (w : World) :
    Calls Try.prog 101 #[.int .i64 x, .int .i64 y] w fun e w' => e = .returned (.int .i64 (min x y)) ∧ w = w' := by
  by_cases h : x < y
  · go_enter Try.func101, Try.ntmps101
    go_wp2
    go_ret
    exact ⟨ret_int (by omega), rfl⟩
  · have h' : y ≤ x := by omega
    clear h
    go_enter Try.func101, Try.ntmps101
    go_wp2
    go_ret
    exact ⟨ret_int (by omega), rfl⟩

theorem push_val {w : World} {b : Nat} {t : TypeId} {v : Value} {r : List Int} {x y : Int} (h : RowI w b t v (r ++ [x])) (e : y = x) : RowI w b t v (r ++ [y]) := e ▸ h
theorem wp_gen2 {P : Program} {c : Code} {Q : Exit → Act → World → Prop} {a : Act} {w : World} (I : World → Prop) (h : I w) (k : ∀ w', I w' → Code.wp P c Q a w') : Code.wp P c Q a w := k w h

set_option maxRecDepth 100000 in
set_option maxHeartbeats 8000000 in
theorem sSwap_any (a b : ByteArray) (ha : a.size ≤ 48) (hb : b.size ≤ 48) (w : World) :
    Calls Try.prog 87 #[.string a, .string b] w fun e w' => e = .returned (.int .i64 (sw a b a.size b.size)) ∧ Below w.heap.size w w' := by
  go_enter Try.func87, Try.ntmps87
  go_wp2
  go_loopw [5, 6] (fun t i wr => ∃ k : Nat, k ≤ a.size + 1 ∧ i = .int .i64 k ∧ TabI wr w.heap.size 37 t (rowsOf (sw a b) k (b.size + 1)) ∧ Below w.heap.size w wr) (fun t i wr => a.size + 1 - (intOf i).toNat)
  case atStart => exact ⟨0, by omega, rfl, TabI.made _ _ _ (Nat.le_refl _), (Below.refl _ _).alloc (Nat.le_refl _) _⟩
  case round =>
    obtain ⟨i, hi, rfl, htab, hbel⟩ := hrel
    have HT := Lib.hid htab; clear htab
    obtain ⟨wo, rfl⟩ : ∃ wo : World, wo = wr := ⟨_, rfl⟩
    by_cases hlt : i < a.size + 1
    · have hdi : decide (i ≤ a.size) = true := decide_eq_true (by omega)
      go_wp2
      have hbase : w.heap.size ≤ wo.heap.size := hbel.size
      have hrow0 := RowI.made wo wo.heap.size 2 (Nat.le_refl _)
      go_loopw [7, 8] (fun rv kk wr => ∃ k : Nat, k ≤ b.size + 1 ∧ kk = .int .i64 k ∧ RowI wr wo.heap.size 2 rv (rowOf (sw a b i) k) ∧ Below wo.heap.size wo wr) (fun rv kk wr => b.size + 1 - (intOf kk).toNat)
      case atStart => exact ⟨0, by omega, rfl, hrow0, (Below.refl _ _).alloc (Nat.le_refl _) _⟩
      case round =>
        obtain ⟨k, hk, rfl, hr, hb2⟩ := hrel
        have HR := Lib.hid hr; clear hr hrow0
        have hs2 := hb2.size
        by_cases hkl : k < b.size + 1
        · by_cases h0 : i = 0 ∨ k = 0
          · have hv0 := Lib.hid (show sw a b i k = (i : Int) + k by rcases h0 with rfl | rfl; · rw [sw_row0]; omega
                                                                    · rw [sw_col0]; omega)
            rcases Nat.eq_zero_or_pos i with h1 | h1
            · have z1 : ((i : Int) == 0) = true := bx2 (by omega)
              clear h0 h1
              go_wp2_with (at_builtin; refine wpList_int_push _ rfl (.tmp 30) (.tmp 34) _ rfl wo.heap.size 2 Try.underlying37 infoI4 _ (rowOf (sw a b i) k) rfl HR.out _ rfl (by rw [rowOf_length]; omega) hs2 ?_; intro g' cap w' hown hbl hat hgr)
              rw [rowOf_length] at hown ⊢
              first
                | exact ⟨⟨k + 1, by omega, by go_num, by rw [rowOf_succ, hv0.out]; exact hown, hb2.trans hbl⟩, by simp [intOf]; omega⟩
                | (refine ⟨?_, by simp [intOf]; omega⟩; (repeat apply Exists.intro); exact ⟨⟨k + 1, by omega, by go_num, by rw [rowOf_succ, hv0.out]; exact hown, hb2.trans hbl⟩, rfl⟩)
            · have z1 : ((i : Int) == 0) = false := by2 (by omega)
              have z2 : ((k : Int) == 0) = true := bx2 (by omega)
              clear h0 h1
              go_wp2_with (at_builtin; refine wpList_int_push _ rfl (.tmp 30) (.tmp 34) _ rfl wo.heap.size 2 Try.underlying37 infoI4 _ (rowOf (sw a b i) k) rfl HR.out _ rfl (by rw [rowOf_length]; omega) hs2 ?_; intro g' cap w' hown hbl hat hgr)
              rw [rowOf_length] at hown ⊢
              first
                | exact ⟨⟨k + 1, by omega, by go_num, by rw [rowOf_succ, hv0.out]; exact hown, hb2.trans hbl⟩, by simp [intOf]; omega⟩
                | (refine ⟨?_, by simp [intOf]; omega⟩; (repeat apply Exists.intro); exact ⟨⟨k + 1, by omega, by go_num, by rw [rowOf_succ, hv0.out]; exact hown, hb2.trans hbl⟩, rfl⟩)
          · have h1 : 0 < i := by omega
            have h2 : 0 < k := by omega
            clear h0
            obtain ⟨i, rfl⟩ : ∃ j, i = j + 1 := ⟨i - 1, by omega⟩
            obtain ⟨k, rfl⟩ : ∃ j, k = j + 1 := ⟨k - 1, by omega⟩
            have hi1 : ((i : Int) + 1 == 0) = false := by2 (by omega)
            have hk1 : ((k : Int) + 1 == 0) = false := by2 (by omega)
            obtain ⟨gt, ct, g, cc, hv, hct, hgt, hgtl, hch, hcc, hg, hgl, hne, hcs⟩ := HT.out.at_ (rowsOf_get (sw a b) (j := i) (n := b.size + 1) (Nat.lt_succ_self i))
            rw [rowOf_length] at hch hcc
            rw [rowsOf_length] at hct hv
            subst hv
            obtain ⟨gr, cr, hv, hcr, hgr1, hgr2, hrs⟩ := HR.out.form (by rw [rowOf_length]; omega)
            rw [rowOf_length] at hv hcr
            subst hv
            have hch' := (hb2.cell (p := ⟨gt, i, none⟩) hgtl).trans hch
            have hx1 := (hb2.cell (p := ⟨g, k, none⟩) hgl).trans (hcs k _ (rowOf_get _ (by omega)))
            have hx2 := (hb2.cell (p := ⟨g, k + 1, none⟩) hgl).trans (hcs (k + 1) _ (rowOf_get _ (by omega)))
            have hx3 := hrs k _ (rowOf_get _ (Nat.lt_succ_self k))
            clear hcs hch hrs
            have h3 := Lib.hid (show sw3 a b i k = min (min (sw a b i k + if bt a i = bt b k then 0 else 1) (sw a b i (k + 1) + 1)) (sw a b (i + 1) k + 1) from rfl)
            have b1 := sw_bd a b _ i k (Nat.le_refl _)
            have b2 := sw_bd a b _ i (k + 1) (Nat.le_refl _)
            have b3 := sw_bd a b _ (i + 1) k (Nat.le_refl _)
            obtain ⟨x1, e1⟩ : ∃ x, x = sw a b i k := ⟨_, rfl⟩
            obtain ⟨x2, e2⟩ : ∃ x, x = sw a b i (k + 1) := ⟨_, rfl⟩
            obtain ⟨x3, e3⟩ : ∃ x, x = sw a b (i + 1) k := ⟨_, rfl⟩
            rw [← e1] at hx1 b1
            rw [← e2] at hx2 b2
            rw [← e3] at hx3 b3
            have E1 := Lib.hid e1; have E2 := Lib.hid e2; have E3 := Lib.hid e3
            clear e1 e2 e3
            have hba := get_bt a
            have hbb := get_bt b
            have l1 : (0 : Int) ≤ (i : Int) := by omega
            have l2 : (i : Int) < (a.size : Int) := by omega
            have l3 : (0 : Int) ≤ (k : Int) := by omega
            have l4 : (k : Int) < (b.size : Int) := by omega
            have w1 : IntKind.i64.wrap (i : Int) = (i : Int) := IntWalk.i64_in _ (by omega)
            have w2 : IntKind.i64.wrap (k : Int) = (k : Int) := IntWalk.i64_in _ (by omega)
            by_cases hq : bt a i = bt b k
            · have q1 : (bt a i == bt b k) = true := bx2 hq
              have HQ := Lib.hid hq; clear hq
              have hM : Hid (sw3 a b i k = min (min (x1) (x2 + 1)) (x3 + 1)) := by
                show sw3 a b i k = _
                rw [h3.out, if_pos HQ.out, ← E1.out, ← E2.out, ← E3.out]; simp
              go_wp2
              go_quiet (fail)
              go_upto_region 16 with (first | (go_at_call 101; refine (sMin_sw _ _ _).mono ?_; rintro e w' ⟨rfl, rfl⟩))
              refine wp_gen2 (fun v3 : World => RowI v3 wo.heap.size 2 (.slice (some ⟨gr, 0, none⟩) (k + 1) cr) (rowOf (sw a b (i + 1)) (k + 1)) ∧ Below wo.heap.size wo v3) ⟨HR.out.drewN _, below_draws hb2 _⟩ (fun v3 hI => ?_)
              obtain ⟨HRo, hbw⟩ := hI
              have HRw := Lib.hid HRo; clear HRo
              have hs3 := hbw.size
              by_cases hi2 : 1 ≤ i
              · by_cases hk2 : 1 ≤ k
                · obtain ⟨i, rfl⟩ : ∃ j, i = j + 1 := ⟨i - 1, by omega⟩
                  obtain ⟨k, rfl⟩ : ∃ j, k = j + 1 := ⟨k - 1, by omega⟩
                  clear w1 w2 l1 l2 l3 l4
                  have u1 : (1 : Int) < (i : Int) + 1 + 1 := by omega
                  have u2 : (1 : Int) < (k : Int) + 1 + 1 := by omega
                  have l1 : (0 : Int) ≤ (i : Int) + 1 := by omega
                  have l2 : (i : Int) + 1 < (a.size : Int) := by omega
                  have l1' : (0 : Int) ≤ (i : Int) := by omega
                  have l2' : (i : Int) < (a.size : Int) := by omega
                  have l3 : (0 : Int) ≤ (k : Int) + 1 := by omega
                  have l4 : (k : Int) + 1 < (b.size : Int) := by omega
                  have l3' : (0 : Int) ≤ (k : Int) := by omega
                  have l4' : (k : Int) < (b.size : Int) := by omega
                  have n1 : ((i : Int) + 1).toNat = i + 1 := by omega
                  have n2 : ((k : Int) + 1).toNat = k + 1 := by omega
                  have w1 : IntKind.i64.wrap ((i : Int) + 1) = (i : Int) + 1 := IntWalk.i64_in _ (by omega)
                  have w2 : IntKind.i64.wrap ((k : Int) + 1) = (k : Int) + 1 := IntWalk.i64_in _ (by omega)
                  have w1' : IntKind.i64.wrap (i : Int) = (i : Int) := IntWalk.i64_in _ (by omega)
                  have w2' : IntKind.i64.wrap (k : Int) = (k : Int) := IntWalk.i64_in _ (by omega)
                  have w1'' : IntKind.i64.wrap ((i : Int) + 1 + 1 - 2) = (i : Int) := by rw [show (i : Int) + 1 + 1 - 2 = i from by omega]; exact IntWalk.i64_in _ (by omega)
                  have w2'' : IntKind.i64.wrap ((k : Int) + 1 + 1 - 2) = (k : Int) := by rw [show (k : Int) + 1 + 1 - 2 = k from by omega]; exact IntWalk.i64_in _ (by omega)
                  by_cases hA : bt a (i + 1) = bt b k
                  · have hA1 := bx2 hA
                    by_cases hB : bt a i = bt b (k + 1)
                    · have hB1 := bx2 hB
                      have hyes := Lib.hid (sw_yes a b (i := i + 1) (k := k + 1) ⟨hi2, hk2, hA, hB⟩)
                      clear hA hB
                      go_quiet (fail)
                      obtain ⟨gt2, ct2, g2, cc2, hv2, hct2, hgt2, hgtl2, hch2, hcc2, hg2, hgl2, hne2, hcs2⟩ := HT.out.at_ (rowsOf_get (sw a b) (j := i) (n := b.size + 1) (show i < i + 1 + 1 by omega))
                      rw [rowOf_length] at hch2 hcc2
                      rw [rowsOf_length] at hv2
                      simp only [Value.slice.injEq, Option.some.injEq, Addr.mk.injEq, and_true, true_and] at hv2
                      obtain ⟨hv2, hv3⟩ := hv2
                      subst hv2; subst hv3
                      have hy := (hbw.cell (p := ⟨g2, k, none⟩) hgl2).trans (hcs2 k _ (rowOf_get _ (by omega)))
                      have hh := (hbw.cell (p := ⟨gt, i, none⟩) hgtl).trans hch2
                      have by1 := sw_bd a b _ i k (Nat.le_refl _)
                      obtain ⟨y, ey⟩ : ∃ x, x = sw a b i k := ⟨_, rfl⟩
                      rw [← ey] at hy by1
                      have EY := Lib.hid ey
                      clear ey hcs2 hch2
                      clear w1 w2 w1' w2' w1'' w2''
                      have HM3 : Hid (sw a b (i + 1 + 1) (k + 1 + 1) = min (min (min (x1) (x2 + 1)) (x3 + 1)) (y + 1)) := by
                        show sw a b (i + 1 + 1) (k + 1 + 1) = min (min (min (x1) (x2 + 1)) (x3 + 1)) (y + 1)
                        rw [hyes.out, hM.out, show i + 1 - 1 = i from rfl, show k + 1 - 1 = k from rfl, ← EY.out]
                      go_wp2_with (first | (go_at_call 101; refine (sMin_sw _ _ _).mono ?_; rintro e w' ⟨rfl, rfl⟩) | (at_builtin; refine wpList_int_push _ rfl (.tmp 115) (.tmp 117) _ rfl wo.heap.size 2 Try.underlying37 infoI4 _ (rowOf (sw a b (i + 1 + 1)) (k + 1 + 1)) (by rfl) (HRw.out.drewN _) _ rfl (by rw [rowOf_length]; omega) hs3 ?_; intro g' cap w' hown hbl hat hgr))
                      rw [rowOf_length] at hown ⊢
                      first
                        | exact ⟨⟨k + 1 + 1 + 1, by omega, by go_num, by rw [rowOf_succ]; exact push_val hown (by rw [HM3.out]; omega), (below_draws hbw _).trans hbl⟩, by simp [intOf]; omega⟩
                        | (refine ⟨?_, by simp [intOf]; omega⟩; (repeat apply Exists.intro); exact ⟨⟨k + 1 + 1 + 1, by omega, by go_num, by rw [rowOf_succ]; exact push_val hown (by rw [HM3.out]; omega), (below_draws hbw _).trans hbl⟩, rfl⟩)
                    · have hB1 := by2 hB
                      have hno := Lib.hid (sw_no a b (i := i + 1) (k := k + 1) (fun h => hB h.2.2.2))
                      clear hA hB
                      go_quiet (fail)
                      clear w1 w2 w1' w2' w1'' w2''
                      go_wp2_with (first | (at_builtin; refine wpList_int_push _ rfl (.tmp 115) (.tmp 117) _ rfl wo.heap.size 2 Try.underlying37 infoI4 _ (rowOf (sw a b (i + 1 + 1)) (k + 1 + 1)) (by rfl) (HRw.out.drewN _) _ rfl (by rw [rowOf_length]; omega) hs3 ?_; intro g' cap w' hown hbl hat hgr))
                      rw [rowOf_length] at hown ⊢
                      first
                        | exact ⟨⟨k + 1 + 1 + 1, by omega, by go_num, by rw [rowOf_succ]; exact push_val hown (by rw [hno.out, hM.out]; omega), (below_draws hbw _).trans hbl⟩, by simp [intOf]; omega⟩
                        | (refine ⟨?_, by simp [intOf]; omega⟩; (repeat apply Exists.intro); exact ⟨⟨k + 1 + 1 + 1, by omega, by go_num, by rw [rowOf_succ]; exact push_val hown (by rw [hno.out, hM.out]; omega), (below_draws hbw _).trans hbl⟩, rfl⟩)
                  · have hA1 := by2 hA
                    have hno := Lib.hid (sw_no a b (i := i + 1) (k := k + 1) (fun h => hA h.2.2.1))
                    clear hA
                    go_quiet (fail)
                    clear w1 w2 w1' w2' w1'' w2''
                    go_wp2_with (first | (at_builtin; refine wpList_int_push _ rfl (.tmp 115) (.tmp 117) _ rfl wo.heap.size 2 Try.underlying37 infoI4 _ (rowOf (sw a b (i + 1 + 1)) (k + 1 + 1)) (by rfl) (HRw.out.drewN _) _ rfl (by rw [rowOf_length]; omega) hs3 ?_; intro g' cap w' hown hbl hat hgr))
                    rw [rowOf_length] at hown ⊢
                    first
                      | exact ⟨⟨k + 1 + 1 + 1, by omega, by go_num, by rw [rowOf_succ]; exact push_val hown (by rw [hno.out, hM.out]; omega), (below_draws hbw _).trans hbl⟩, by simp [intOf]; omega⟩
                      | (refine ⟨?_, by simp [intOf]; omega⟩; (repeat apply Exists.intro); exact ⟨⟨k + 1 + 1 + 1, by omega, by go_num, by rw [rowOf_succ]; exact push_val hown (by rw [hno.out, hM.out]; omega), (below_draws hbw _).trans hbl⟩, rfl⟩)
                · have t1 : ¬ (1 : Int) < (k : Int) + 1 := by omega
                  have u1 : (1 : Int) < (i : Int) + 1 := by omega
                  have hno := Lib.hid (sw_no a b (i := i) (k := k) (fun h => hk2 h.2.1))
                  clear hk2
                  go_quiet (fail)
                  clear t1 w1 w2
                  go_wp2_with (first | (at_builtin; refine wpList_int_push _ rfl (.tmp 115) (.tmp 117) _ rfl wo.heap.size 2 Try.underlying37 infoI4 _ (rowOf (sw a b (i + 1)) (k + 1)) (by rfl) (HRw.out.drewN _) _ rfl (by rw [rowOf_length]; omega) hs3 ?_; intro g' cap w' hown hbl hat hgr))
                  rw [rowOf_length] at hown ⊢
                  first
                    | exact ⟨⟨k + 1 + 1, by omega, by go_num, by rw [rowOf_succ]; exact push_val hown (by rw [hno.out, hM.out]; omega), (below_draws hbw _).trans hbl⟩, by simp [intOf]; omega⟩
                    | (refine ⟨?_, by simp [intOf]; omega⟩; (repeat apply Exists.intro); exact ⟨⟨k + 1 + 1, by omega, by go_num, by rw [rowOf_succ]; exact push_val hown (by rw [hno.out, hM.out]; omega), (below_draws hbw _).trans hbl⟩, rfl⟩)
              · have t1 : ¬ (1 : Int) < (i : Int) + 1 := by omega
                have hno := Lib.hid (sw_no a b (i := i) (k := k) (fun h => hi2 h.1))
                clear hi2
                go_quiet (fail)
                clear t1 w1 w2
                go_wp2_with (first | (at_builtin; refine wpList_int_push _ rfl (.tmp 115) (.tmp 117) _ rfl wo.heap.size 2 Try.underlying37 infoI4 _ (rowOf (sw a b (i + 1)) (k + 1)) (by rfl) (HRw.out.drewN _) _ rfl (by rw [rowOf_length]; omega) hs3 ?_; intro g' cap w' hown hbl hat hgr))
                rw [rowOf_length] at hown ⊢
                first
                  | exact ⟨⟨k + 1 + 1, by omega, by go_num, by rw [rowOf_succ]; exact push_val hown (by rw [hno.out, hM.out]; omega), (below_draws hbw _).trans hbl⟩, by simp [intOf]; omega⟩
                  | (refine ⟨?_, by simp [intOf]; omega⟩; (repeat apply Exists.intro); exact ⟨⟨k + 1 + 1, by omega, by go_num, by rw [rowOf_succ]; exact push_val hown (by rw [hno.out, hM.out]; omega), (below_draws hbw _).trans hbl⟩, rfl⟩)
            · have q1 : (bt a i == bt b k) = false := by2 hq
              have HQ := Lib.hid hq; clear hq
              have hM : Hid (sw3 a b i k = min (min (x1 + 1) (x2 + 1)) (x3 + 1)) := by
                show sw3 a b i k = _
                rw [h3.out, if_neg HQ.out, ← E1.out, ← E2.out, ← E3.out]
              go_wp2
              go_quiet (fail)
              go_upto_region 16 with (first | (go_at_call 101; refine (sMin_sw _ _ _).mono ?_; rintro e w' ⟨rfl, rfl⟩))
              refine wp_gen2 (fun v3 : World => RowI v3 wo.heap.size 2 (.slice (some ⟨gr, 0, none⟩) (k + 1) cr) (rowOf (sw a b (i + 1)) (k + 1)) ∧ Below wo.heap.size wo v3) ⟨HR.out.drewN _, below_draws hb2 _⟩ (fun v3 hI => ?_)
              obtain ⟨HRo, hbw⟩ := hI
              have HRw := Lib.hid HRo; clear HRo
              have hs3 := hbw.size
              by_cases hi2 : 1 ≤ i
              · by_cases hk2 : 1 ≤ k
                · obtain ⟨i, rfl⟩ : ∃ j, i = j + 1 := ⟨i - 1, by omega⟩
                  obtain ⟨k, rfl⟩ : ∃ j, k = j + 1 := ⟨k - 1, by omega⟩
                  clear w1 w2 l1 l2 l3 l4
                  have u1 : (1 : Int) < (i : Int) + 1 + 1 := by omega
                  have u2 : (1 : Int) < (k : Int) + 1 + 1 := by omega
                  have l1 : (0 : Int) ≤ (i : Int) + 1 := by omega
                  have l2 : (i : Int) + 1 < (a.size : Int) := by omega
                  have l1' : (0 : Int) ≤ (i : Int) := by omega
                  have l2' : (i : Int) < (a.size : Int) := by omega
                  have l3 : (0 : Int) ≤ (k : Int) + 1 := by omega
                  have l4 : (k : Int) + 1 < (b.size : Int) := by omega
                  have l3' : (0 : Int) ≤ (k : Int) := by omega
                  have l4' : (k : Int) < (b.size : Int) := by omega
                  have n1 : ((i : Int) + 1).toNat = i + 1 := by omega
                  have n2 : ((k : Int) + 1).toNat = k + 1 := by omega
                  have w1 : IntKind.i64.wrap ((i : Int) + 1) = (i : Int) + 1 := IntWalk.i64_in _ (by omega)
                  have w2 : IntKind.i64.wrap ((k : Int) + 1) = (k : Int) + 1 := IntWalk.i64_in _ (by omega)
                  have w1' : IntKind.i64.wrap (i : Int) = (i : Int) := IntWalk.i64_in _ (by omega)
                  have w2' : IntKind.i64.wrap (k : Int) = (k : Int) := IntWalk.i64_in _ (by omega)
                  have w1'' : IntKind.i64.wrap ((i : Int) + 1 + 1 - 2) = (i : Int) := by rw [show (i : Int) + 1 + 1 - 2 = i from by omega]; exact IntWalk.i64_in _ (by omega)
                  have w2'' : IntKind.i64.wrap ((k : Int) + 1 + 1 - 2) = (k : Int) := by rw [show (k : Int) + 1 + 1 - 2 = k from by omega]; exact IntWalk.i64_in _ (by omega)
                  by_cases hA : bt a (i + 1) = bt b k
                  · have hA1 := bx2 hA
                    by_cases hB : bt a i = bt b (k + 1)
                    · have hB1 := bx2 hB
                      have hyes := Lib.hid (sw_yes a b (i := i + 1) (k := k + 1) ⟨hi2, hk2, hA, hB⟩)
                      clear hA hB
                      go_quiet (fail)
                      obtain ⟨gt2, ct2, g2, cc2, hv2, hct2, hgt2, hgtl2, hch2, hcc2, hg2, hgl2, hne2, hcs2⟩ := HT.out.at_ (rowsOf_get (sw a b) (j := i) (n := b.size + 1) (show i < i + 1 + 1 by omega))
                      rw [rowOf_length] at hch2 hcc2
                      rw [rowsOf_length] at hv2
                      simp only [Value.slice.injEq, Option.some.injEq, Addr.mk.injEq, and_true, true_and] at hv2
                      obtain ⟨hv2, hv3⟩ := hv2
                      subst hv2; subst hv3
                      have hy := (hbw.cell (p := ⟨g2, k, none⟩) hgl2).trans (hcs2 k _ (rowOf_get _ (by omega)))
                      have hh := (hbw.cell (p := ⟨gt, i, none⟩) hgtl).trans hch2
                      have by1 := sw_bd a b _ i k (Nat.le_refl _)
                      obtain ⟨y, ey⟩ : ∃ x, x = sw a b i k := ⟨_, rfl⟩
                      rw [← ey] at hy by1
                      have EY := Lib.hid ey
                      clear ey hcs2 hch2
                      clear w1 w2 w1' w2' w1'' w2''
                      have HM3 : Hid (sw a b (i + 1 + 1) (k + 1 + 1) = min (min (min (x1 + 1) (x2 + 1)) (x3 + 1)) (y + 1)) := by
                        show sw a b (i + 1 + 1) (k + 1 + 1) = min (min (min (x1 + 1) (x2 + 1)) (x3 + 1)) (y + 1)
                        rw [hyes.out, hM.out, show i + 1 - 1 = i from rfl, show k + 1 - 1 = k from rfl, ← EY.out]
                      go_wp2_with (first | (go_at_call 101; refine (sMin_sw _ _ _).mono ?_; rintro e w' ⟨rfl, rfl⟩) | (at_builtin; refine wpList_int_push _ rfl (.tmp 115) (.tmp 117) _ rfl wo.heap.size 2 Try.underlying37 infoI4 _ (rowOf (sw a b (i + 1 + 1)) (k + 1 + 1)) (by rfl) (HRw.out.drewN _) _ rfl (by rw [rowOf_length]; omega) hs3 ?_; intro g' cap w' hown hbl hat hgr))
                      rw [rowOf_length] at hown ⊢
                      first
                        | exact ⟨⟨k + 1 + 1 + 1, by omega, by go_num, by rw [rowOf_succ]; exact push_val hown (by rw [HM3.out]; omega), (below_draws hbw _).trans hbl⟩, by simp [intOf]; omega⟩
                        | (refine ⟨?_, by simp [intOf]; omega⟩; (repeat apply Exists.intro); exact ⟨⟨k + 1 + 1 + 1, by omega, by go_num, by rw [rowOf_succ]; exact push_val hown (by rw [HM3.out]; omega), (below_draws hbw _).trans hbl⟩, rfl⟩)
                    · have hB1 := by2 hB
                      have hno := Lib.hid (sw_no a b (i := i + 1) (k := k + 1) (fun h => hB h.2.2.2))
                      clear hA hB
                      go_quiet (fail)
                      clear w1 w2 w1' w2' w1'' w2''
                      go_wp2_with (first | (at_builtin; refine wpList_int_push _ rfl (.tmp 115) (.tmp 117) _ rfl wo.heap.size 2 Try.underlying37 infoI4 _ (rowOf (sw a b (i + 1 + 1)) (k + 1 + 1)) (by rfl) (HRw.out.drewN _) _ rfl (by rw [rowOf_length]; omega) hs3 ?_; intro g' cap w' hown hbl hat hgr))
                      rw [rowOf_length] at hown ⊢
                      first
                        | exact ⟨⟨k + 1 + 1 + 1, by omega, by go_num, by rw [rowOf_succ]; exact push_val hown (by rw [hno.out, hM.out]; omega), (below_draws hbw _).trans hbl⟩, by simp [intOf]; omega⟩
                        | (refine ⟨?_, by simp [intOf]; omega⟩; (repeat apply Exists.intro); exact ⟨⟨k + 1 + 1 + 1, by omega, by go_num, by rw [rowOf_succ]; exact push_val hown (by rw [hno.out, hM.out]; omega), (below_draws hbw _).trans hbl⟩, rfl⟩)
                  · have hA1 := by2 hA
                    have hno := Lib.hid (sw_no a b (i := i + 1) (k := k + 1) (fun h => hA h.2.2.1))
                    clear hA
                    go_quiet (fail)
                    clear w1 w2 w1' w2' w1'' w2''
                    go_wp2_with (first | (at_builtin; refine wpList_int_push _ rfl (.tmp 115) (.tmp 117) _ rfl wo.heap.size 2 Try.underlying37 infoI4 _ (rowOf (sw a b (i + 1 + 1)) (k + 1 + 1)) (by rfl) (HRw.out.drewN _) _ rfl (by rw [rowOf_length]; omega) hs3 ?_; intro g' cap w' hown hbl hat hgr))
                    rw [rowOf_length] at hown ⊢
                    first
                      | exact ⟨⟨k + 1 + 1 + 1, by omega, by go_num, by rw [rowOf_succ]; exact push_val hown (by rw [hno.out, hM.out]; omega), (below_draws hbw _).trans hbl⟩, by simp [intOf]; omega⟩
                      | (refine ⟨?_, by simp [intOf]; omega⟩; (repeat apply Exists.intro); exact ⟨⟨k + 1 + 1 + 1, by omega, by go_num, by rw [rowOf_succ]; exact push_val hown (by rw [hno.out, hM.out]; omega), (below_draws hbw _).trans hbl⟩, rfl⟩)
                · have t1 : ¬ (1 : Int) < (k : Int) + 1 := by omega
                  have u1 : (1 : Int) < (i : Int) + 1 := by omega
                  have hno := Lib.hid (sw_no a b (i := i) (k := k) (fun h => hk2 h.2.1))
                  clear hk2
                  go_quiet (fail)
                  clear t1 w1 w2
                  go_wp2_with (first | (at_builtin; refine wpList_int_push _ rfl (.tmp 115) (.tmp 117) _ rfl wo.heap.size 2 Try.underlying37 infoI4 _ (rowOf (sw a b (i + 1)) (k + 1)) (by rfl) (HRw.out.drewN _) _ rfl (by rw [rowOf_length]; omega) hs3 ?_; intro g' cap w' hown hbl hat hgr))
                  rw [rowOf_length] at hown ⊢
                  first
                    | exact ⟨⟨k + 1 + 1, by omega, by go_num, by rw [rowOf_succ]; exact push_val hown (by rw [hno.out, hM.out]; omega), (below_draws hbw _).trans hbl⟩, by simp [intOf]; omega⟩
                    | (refine ⟨?_, by simp [intOf]; omega⟩; (repeat apply Exists.intro); exact ⟨⟨k + 1 + 1, by omega, by go_num, by rw [rowOf_succ]; exact push_val hown (by rw [hno.out, hM.out]; omega), (below_draws hbw _).trans hbl⟩, rfl⟩)
              · have t1 : ¬ (1 : Int) < (i : Int) + 1 := by omega
                have hno := Lib.hid (sw_no a b (i := i) (k := k) (fun h => hi2 h.1))
                clear hi2
                go_quiet (fail)
                clear t1 w1 w2
                go_wp2_with (first | (at_builtin; refine wpList_int_push _ rfl (.tmp 115) (.tmp 117) _ rfl wo.heap.size 2 Try.underlying37 infoI4 _ (rowOf (sw a b (i + 1)) (k + 1)) (by rfl) (HRw.out.drewN _) _ rfl (by rw [rowOf_length]; omega) hs3 ?_; intro g' cap w' hown hbl hat hgr))
                rw [rowOf_length] at hown ⊢
                first
                  | exact ⟨⟨k + 1 + 1, by omega, by go_num, by rw [rowOf_succ]; exact push_val hown (by rw [hno.out, hM.out]; omega), (below_draws hbw _).trans hbl⟩, by simp [intOf]; omega⟩
                  | (refine ⟨?_, by simp [intOf]; omega⟩; (repeat apply Exists.intro); exact ⟨⟨k + 1 + 1, by omega, by go_num, by rw [rowOf_succ]; exact push_val hown (by rw [hno.out, hM.out]; omega), (below_draws hbw _).trans hbl⟩, rfl⟩)
        · obtain rfl : k = b.size + 1 := by omega
          obtain ⟨gr, cr, hv, hcr, hgr1, hgr2, hrs⟩ := HR.out.form (by rw [rowOf_length]; omega)
          rw [rowOf_length] at hv hcr
          subst hv
          have HC := Lib.hid hrs; clear hrs
          have hne : u5.ownBlock ≠ some gr := fun e => by have := (HT.out.block _ e).2; omega
          have HNE := Lib.hid hne; clear hne
          go_wp2_with (at_builtin; refine wpList_tab_push _ rfl (.tmp 119) (.tmp 121) _ rfl w.heap.size 37 Try.underlying58 infoS4 _ (rowsOf (sw a b) i (b.size + 1)) rfl (HT.out.keep hb2 (Nat.le_refl _)) gr cr (b.size + 1) (rowOf (sw a b i) (b.size + 1)) (rowOf_length _ _) rfl (by omega) hgr2 HNE.out hcr HC.out (by rw [rowsOf_length]; omega) (by omega) ?_; intro g' cap w' htab' hgr hbl hat)
          rw [rowsOf_length] at htab'
          exact ⟨⟨i + 1, by omega, by go_num, by rw [rowsOf_length, rowsOf_succ]; exact htab', hbel.trans ((hb2.mono hbase).trans hbl)⟩, by simp [intOf]; omega⟩
    · obtain rfl : i = a.size + 1 := by omega
      obtain ⟨gt, ct, g, cc, hv, hct, hgt, hgtl, hch, hcc, hg, hgl, hne, hcs⟩ := HT.out.at_ (rowsOf_get (sw a b) (j := a.size) (n := b.size + 1) (Nat.lt_succ_self _))
      rw [rowOf_length] at hch hcc
      rw [rowsOf_length] at hct hv
      subst hv
      have hx1 := hcs b.size _ (rowOf_get _ (Nat.lt_succ_self _))
      clear hcs
      go_wp2
      go_ret
      exact ⟨rfl, hbel⟩
end Go.Proofs.Ytpmklldochpnlaa
