/- Least edits with swaps: the table of the program. -/
import Derived.Test.YtkfmjnefbimecaaMga
import Derived.Test.YtkfmjnefbimecaaTab
import Derived.Test.YtkfmjnefbimecaaMgc
import Derived.Deep.QuietTactic
import Derived.BigQuiet

namespace Go.Proofs.Ytkfmjnefbimecaa
open Go.RowKit Go.PlainAid
set_option linter.unusedVariables false
theorem infoI3 : (Try.prog.info? 2).map (fun i => (i.zero, i.size, i.bytes)) = some (some (.int .i64 0), 1, 8) := by kernel_rfl
theorem infoS3 : (Try.prog.info? 26).map (fun i => (i.zero, i.size, i.bytes)) = some (some (.slice none 0 0), 1, 24) := by kernel_rfl
theorem bx {x y : Int} (h : x = y) : (x == y) = true := by simp [h]
theorem by_ {x y : Int} (h : x ≠ y) : (x == y) = false := by simp [h]

/-- At any place of a walk the world may be forgotten but for what is said of it. -/
theorem wp_gen' {P : Program} {c : Code} {Q : Exit → Act → World → Prop} {a : Act} {w : World} (I : World → Prop) (h : I w) (k : ∀ w', I w' → Code.wp P c Q a w') : Code.wp P c Q a w := k w h

set_option maxRecDepth 100000 in
set_option maxHeartbeats 8000000 in
theorem iSwap_any (a b : ByteArray) (ha : a.size ≤ 48) (hb : b.size ≤ 48) (w : World) :
    Calls Try.prog 84 #[.string a, .string b] w fun e w' => e = .returned (.int .i64 (sw a b a.size b.size)) ∧ Below w.heap.size w w' := by
  have hmk := run_make_row' (P := Try.prog) 26 2 (.int .i64 0) 8 Try.underlying26 infoI3 rfl .i64 .i64 (b.size + 1) (by omega) (by omega)
  rw [show ((b.size + 1 : Nat) : Int) = (b.size : Int) + 1 from by omega] at hmk
  go_enter Try.func84, Try.ntmps84
  go_wp2
  go_loopw [5, 14] (fun t i wr => ∃ k : Nat, k ≤ a.size + 1 ∧ i = .int .i64 k ∧ TabI wr w.heap.size 26 t (rowsOf (sw a b) k (b.size + 1)) ∧ Below w.heap.size w wr) (fun t i wr => a.size + 1 - (intOf i).toNat)
  case atStart => exact ⟨0, by omega, rfl, TabI.made _ _ _ (Nat.le_refl _), (Below.refl _ _).alloc (Nat.le_refl _) _⟩
  case round =>
    obtain ⟨i, hi, rfl, htab, hbel⟩ := hrel
    have HT := Lib.hid htab; clear htab
    obtain ⟨wo, rfl⟩ : ∃ wo : World, wo = wr := ⟨_, rfl⟩
    by_cases hlt : i < a.size + 1
    · have hdi : decide ((i : Int) < (a.size : Int) + 1) = true := decide_eq_true (by omega)
      go_wp2
      clear hmk
      have hbase : w.heap.size ≤ wo.heap.size := hbel.size
      have hrow0 := Row.made wo (.int .i64 0) (b.size + 1) 2
      go_loopw [23] (fun kk wr => ∃ k : Nat, k ≤ b.size + 1 ∧ kk = .int .i64 k ∧ Row wr wo.heap.size 2 (fill (iv (rowOf (sw a b i) k)) (b.size + 1) (.int .i64 0)) ∧ Below wo.heap.size wo wr) (fun kk wr => b.size + 1 - (intOf kk).toNat)
      case atStart => exact ⟨0, by omega, rfl, by rw [show iv (rowOf (sw a b i) 0) = [] from rfl, fill_nil]; exact hrow0, (Below.refl _ _).alloc (Nat.le_refl _) _⟩
      case round =>
        obtain ⟨k, hk, rfl, hr, hb2⟩ := hrel
        have HR := Lib.hid hr; clear hr hrow0
        by_cases hkl : k < b.size + 1
        · have hc0 := row_zero HR.out hkl
          have hf0 := HR.out.frozen k
          rcases Nat.eq_zero_or_pos i with h0 | h0
          · subst h0
            go_wp2
            go_roundw
            case rel => exact ⟨k + 1, by omega, by go_num, row_step HR.out hkl rfl, hb2.setCell (Nat.le_refl _) _⟩
            case measure => simp [intOf]; omega
          · have hi1 : ((i : Int) == 0) = false := by rw [beq_eq_false_iff_ne]; omega
            rcases Nat.eq_zero_or_pos k with k0 | k0
            · subst k0
              go_wp2
              go_roundw
              case rel => exact ⟨1, by omega, by go_num, row_step HR.out hkl (sw_col0 a b i), hb2.setCell (Nat.le_refl _) _⟩
              case measure => simp [intOf]
            · have hk1 : ((k : Int) == 0) = false := by rw [beq_eq_false_iff_ne]; omega
              obtain ⟨i, rfl⟩ : ∃ j, i = j + 1 := ⟨i - 1, by omega⟩
              obtain ⟨k, rfl⟩ : ∃ j, k = j + 1 := ⟨k - 1, by omega⟩
              obtain ⟨gt, ct, g, cc, hv, hct, hgt, hgtl, hch, hcc, hg, hgl, hne, hcs⟩ := HT.out.at_ (rowsOf_get (sw a b) (j := i) (n := b.size + 1) (Nat.lt_succ_self i))
              rw [rowOf_length] at hch hcc
              rw [rowsOf_length] at hct hv
              subst hv
              have hch' := (hb2.cell (p := ⟨gt, i, none⟩) hgtl).trans hch
              have hx1 := (hb2.cell (p := ⟨g, k, none⟩) hgl).trans (hcs k _ (rowOf_get _ (by omega)))
              have hx2 := (hb2.cell (p := ⟨g, k + 1, none⟩) hgl).trans (hcs (k + 1) _ (rowOf_get _ (by omega)))
              have hx3 := row_prev HR.out (Nat.lt_succ_self k)
              have HCS := Lib.hid hcs; clear hcs hch
              have h3 := Lib.hid (show sw3 a b i k = min (min (sw a b i k + if bt a i = bt b k then 0 else 1) (sw a b i (k + 1) + 1)) (sw a b (i + 1) k + 1) from rfl)
              have b1 := sw_bd a b _ i k (Nat.le_refl _)
              have b2 := sw_bd a b _ i (k + 1) (Nat.le_refl _)
              have b3 := sw_bd a b _ (i + 1) k (Nat.le_refl _)
              have b4 : Hid (∀ x, sw a b (i - 1) (k - 1) = x → 0 ≤ x ∧ x ≤ 1000) := by
                intro x hx; have := sw_bd a b _ (i - 1) (k - 1) (Nat.le_refl _); omega
              obtain ⟨x1, e1⟩ : ∃ x, x = sw a b i k := ⟨_, rfl⟩
              obtain ⟨x2, e2⟩ : ∃ x, x = sw a b i (k + 1) := ⟨_, rfl⟩
              obtain ⟨x3, e3⟩ : ∃ x, x = sw a b (i + 1) k := ⟨_, rfl⟩
              rw [← e1] at hx1 b1
              rw [← e2] at hx2 b2
              rw [← e3] at hx3 b3
              have E1 := Lib.hid e1; have E2 := Lib.hid e2; have E3 := Lib.hid e3
              clear e1 e2 e3
              have hba := get_bt a
              have hbb := get_bt b
              have l1 : (0 : Int) ≤ (i : Int) := by omega
              have l2 : (i : Int) < (a.size : Int) := by omega
              have l3 : (0 : Int) ≤ (k : Int) := by omega
              have l4 : (k : Int) < (b.size : Int) := by omega
              have w1 : IntKind.i64.wrap (i : Int) = (i : Int) := IntWalk.i64_in _ (by omega)
              have w2 : IntKind.i64.wrap (k : Int) = (k : Int) := IntWalk.i64_in _ (by omega)
              have w3 : IntKind.i64.wrap (x2 + 1) = x2 + 1 := IntWalk.i64_in _ (by omega)
              have w4 : IntKind.i64.wrap (x3 + 1) = x3 + 1 := IntWalk.i64_in _ (by omega)
              have l5 : (0 : Int) ≤ (k : Int) + 1 := by omega
              have l6 : (k : Int) + 1 < (b.size : Int) + 1 := by omega
              have l7 : (i : Int) < (i : Int) + 1 := by omega
              have l8 : (k : Int) < (b.size : Int) + 1 := by omega
              have n1 : ((k : Int) + 1).toNat = k + 1 := by omega
              by_cases hq : bt a i = bt b k
              · have q1 : (bt a i == bt b k) = true := bx hq
                have HQ := Lib.hid hq; clear hq
                obtain ⟨m1, hm1⟩ : ∃ m, (if x2 + 1 < x1 then x2 + 1 else x1) = m := ⟨_, rfl⟩
                obtain ⟨m2, hm2⟩ : ∃ m, (if x3 + 1 < m1 then x3 + 1 else m1) = m := ⟨_, rfl⟩
                have hM : Hid (sw3 a b i k = m2 ∧ 0 ≤ m2 ∧ m2 ≤ 1000) := by
                  show sw3 a b i k = m2 ∧ 0 ≤ m2 ∧ m2 ≤ 1000
                  rw [h3.out, if_pos HQ.out, ← E1.out, ← E2.out, ← E3.out, ← hm2, ← hm1]
                  split <;> split <;> omega
                have bm := hM.out.2

                go_wp2
                go_quiet (fail)
                go_wp2
                refine wp_tail 20 (by kernel_rfl) (by kernel_rfl) (fun v2 hv2 => ?_)
                have g1 : v2.cell? ⟨gt, i, none⟩ = some (.slice (some ⟨g, 0, none⟩) (b.size + 1) cc) := by rw [hv2]; exact hch'
                have g2 : v2.cell? ⟨g, k + 1, none⟩ = some (.int .i64 x2) := by rw [hv2]; exact hx2
                have g3 : v2.cell? ⟨wo.heap.size, k, none⟩ = some (.int .i64 x3) := by rw [hv2]; exact hx3
                have g4 : v2.cell? ⟨wo.heap.size, k + 1, none⟩ = some (.int .i64 0) := by rw [hv2]; exact hc0
                have g5 : v2.frozen? ⟨wo.heap.size, k + 1, none⟩ = false := by rw [hv2]; exact hf0
                have HRv : Hid (Row v2 wo.heap.size 2 (fill (iv (rowOf (sw a b (i + 1)) (k + 1))) (b.size + 1) (.int .i64 0))) := by rw [hv2]; exact HR.out
                have hBv : Hid (Below wo.heap.size wo v2) := by rw [hv2]; exact below_draws (below_draws hb2 _) _
                clear hv2
                simp only [List.take_succ_cons, List.take_zero, List.drop_succ_cons, List.drop_zero]
                repeat still_step
                refine wpStill_nil ?_
                clear hm1 hm2
                go_wp2
                refine wp_gen' (fun v3 : World => Row v3 wo.heap.size 2 (fill (iv (rowOf (sw a b (i + 1)) (k + 1)) ++ [.int .i64 m2]) (b.size + 1) (.int .i64 0)) ∧ Below wo.heap.size wo v3) ⟨row_put HRv.out hkl, hBv.out.setCell (Nat.le_refl _) _⟩ (fun v3 hI => ?_)
                obtain ⟨HRo, hBo⟩ := hI
                have HRO := Lib.hid HRo; clear HRo
                by_cases hi2 : 1 ≤ i
                · by_cases hk2 : 1 ≤ k
                  · obtain ⟨i, rfl⟩ : ∃ j, i = j + 1 := ⟨i - 1, by omega⟩
                    obtain ⟨k, rfl⟩ : ∃ j, k = j + 1 := ⟨k - 1, by omega⟩
                    clear w1 w2 l1 l2 l3 l4 l5 l6 l7 l8 n1
                    have u1 : (1 : Int) < (i : Int) + 1 + 1 := by omega
                    have u2 : (1 : Int) < (k : Int) + 1 + 1 := by omega
                    have l1 : (0 : Int) ≤ (i : Int) + 1 := by omega
                    have l2 : (i : Int) + 1 < (a.size : Int) := by omega
                    have l1' : (0 : Int) ≤ (i : Int) := by omega
                    have l2' : (i : Int) < (a.size : Int) := by omega
                    have l3 : (0 : Int) ≤ (k : Int) + 1 := by omega
                    have l4 : (k : Int) + 1 < (b.size : Int) := by omega
                    have l3' : (0 : Int) ≤ (k : Int) := by omega
                    have l4' : (k : Int) < (b.size : Int) := by omega
                    have n1 : ((i : Int) + 1).toNat = i + 1 := by omega
                    have n2 : ((k : Int) + 1).toNat = k + 1 := by omega
                    have w1 : IntKind.i64.wrap ((i : Int) + 1) = (i : Int) + 1 := IntWalk.i64_in _ (by omega)
                    have w2 : IntKind.i64.wrap ((k : Int) + 1) = (k : Int) + 1 := IntWalk.i64_in _ (by omega)
                    have w1' : IntKind.i64.wrap (i : Int) = (i : Int) := IntWalk.i64_in _ (by omega)
                    have w2' : IntKind.i64.wrap (k : Int) = (k : Int) := IntWalk.i64_in _ (by omega)
                    have w1'' : IntKind.i64.wrap ((i : Int) + 1 + 1 - 2) = (i : Int) := by rw [show (i : Int) + 1 + 1 - 2 = i from by omega]; exact IntWalk.i64_in _ (by omega)
                    have w2'' : IntKind.i64.wrap ((k : Int) + 1 + 1 - 2) = (k : Int) := by rw [show (k : Int) + 1 + 1 - 2 = k from by omega]; exact IntWalk.i64_in _ (by omega)
                    by_cases hA : bt a (i + 1) = bt b k
                    · have hA1 := bx hA
                      by_cases hB : bt a i = bt b (k + 1)
                      · have hB1 := bx hB
                        have hyes := Lib.hid (sw_yes a b (i := i + 1) (k := k + 1) ⟨hi2, hk2, hA, hB⟩)
                        clear hA hB
                        go_quiet (fail)
                        go_wp2
                        obtain ⟨gt2, ct2, g2, cc2, hv2, hct2, hgt2, hgtl2, hch2, hcc2, hg2, hgl2, hne2, hcs2⟩ := HT.out.at_ (rowsOf_get (sw a b) (j := i) (n := b.size + 1) (show i < i + 1 + 1 by omega))
                        rw [rowOf_length] at hch2 hcc2
                        rw [rowsOf_length] at hv2
                        simp only [Value.slice.injEq, Option.some.injEq, Addr.mk.injEq, and_true, true_and] at hv2
                        obtain ⟨hv2, hv3⟩ := hv2
                        subst hv2; subst hv3
                        have hy := (hBo.cell (p := ⟨g2, k, none⟩) hgl2).trans (hcs2 k _ (rowOf_get _ (by omega)))
                        have hh := (hBo.cell (p := ⟨gt, i, none⟩) hgtl).trans hch2
                        have by1 := sw_bd a b _ i k (Nat.le_refl _)
                        obtain ⟨y, ey⟩ : ∃ x, x = sw a b i k := ⟨_, rfl⟩
                        rw [← ey] at hy by1
                        have EY := Lib.hid ey
                        clear ey hcs2 hch2
                        obtain ⟨m3, hm3⟩ : ∃ m, (if y + 1 < m2 then y + 1 else m2) = m := ⟨_, rfl⟩
                        have HM3 : Hid (sw a b (i + 1 + 1) (k + 1 + 1) = m3) := by
                          show sw a b (i + 1 + 1) (k + 1 + 1) = m3
                          rw [hyes.out, hM.out.1, ← hm3, show i + 1 - 1 = i from rfl, show k + 1 - 1 = k from rfl, ← EY.out]
                          split <;> omega
                        have w7 : IntKind.i64.wrap (y + 1) = y + 1 := IntWalk.i64_in _ (by omega)
                        have d1 : (0 : Int) ≤ (k : Int) + 1 + 1 := by omega
                        have d2 : (k : Int) + 1 + 1 < (b.size : Int) + 1 := by omega
                        have d3 : (i : Int) < (i : Int) + 1 + 1 := by omega
                        have d4 : (k : Int) < (b.size : Int) + 1 := by omega
                        have d5 : ((k : Int) + 1 + 1).toNat = k + 1 + 1 := by omega
                        refine wp_tail 18 (by kernel_rfl) (by kernel_rfl) (fun v4 hv4 => ?_)
                        have f1 : v4.cell? ⟨gt, i, none⟩ = some (.slice (some ⟨g2, 0, none⟩) (b.size + 1) cc2) := by rw [hv4]; exact hh
                        have f2 : v4.cell? ⟨g2, k, none⟩ = some (.int .i64 y) := by rw [hv4]; exact hy
                        have f3 : v4.cell? ⟨wo.heap.size, k + 1 + 1, none⟩ = some (.int .i64 m2) := by rw [hv4]; exact row_last HRO.out
                        have f4 : v4.frozen? ⟨wo.heap.size, k + 1 + 1, none⟩ = false := by rw [hv4]; exact HRO.out.frozen _
                        have HR4 : Hid (Row v4 wo.heap.size 2 (fill (iv (rowOf (sw a b (i + 1 + 1)) (k + 1 + 1)) ++ [.int .i64 m2]) (b.size + 1) (.int .i64 0))) := by rw [hv4]; exact HRO.out
                        have HB4 : Hid (Below wo.heap.size wo v4) := by rw [hv4]; exact below_draws (below_draws hBo _) _
                        clear hv4
                        simp only [List.take_succ_cons, List.take_zero, List.drop_succ_cons, List.drop_zero]
                        repeat still_step
                        refine wpStill_nil ?_
                        clear hm3
                        go_wp2
                        have HRo := row_put_again (y := m3) HR4.out
                        first
                          | exact ⟨⟨k + 1 + 1 + 1, by omega, by go_num, row_done HRo (HM3.out), HB4.out.setCell (Nat.le_refl _) _⟩, by simp [intOf]; omega⟩
                          | (refine ⟨?_, by simp [intOf]; omega⟩; (repeat apply Exists.intro); exact ⟨⟨k + 1 + 1 + 1, by omega, by go_num, row_done HRo (HM3.out), HB4.out.setCell (Nat.le_refl _) _⟩, rfl⟩)
                      · have hB1 := by_ hB
                        have hno := Lib.hid (sw_no a b (i := i + 1) (k := k + 1) (fun h => hB h.2.2.2))
                        clear hA hB
                        go_quiet (fail)
                        go_wp2
                        have HRo := HRO.out
                        first
                          | exact ⟨⟨k + 1 + 1 + 1, by omega, by go_num, row_done HRo (by rw [hno.out, hM.out.1]), below_draws hBo _⟩, by simp [intOf]; omega⟩
                          | (refine ⟨?_, by simp [intOf]; omega⟩; (repeat apply Exists.intro); exact ⟨⟨k + 1 + 1 + 1, by omega, by go_num, row_done HRo (by rw [hno.out, hM.out.1]), below_draws hBo _⟩, rfl⟩)
                    · have hA1 := by_ hA
                      have hno := Lib.hid (sw_no a b (i := i + 1) (k := k + 1) (fun h => hA h.2.2.1))
                      clear hA
                      go_quiet (fail)
                      go_wp2
                      have HRo := HRO.out
                      first
                        | exact ⟨⟨k + 1 + 1 + 1, by omega, by go_num, row_done HRo (by rw [hno.out, hM.out.1]), below_draws hBo _⟩, by simp [intOf]; omega⟩
                        | (refine ⟨?_, by simp [intOf]; omega⟩; (repeat apply Exists.intro); exact ⟨⟨k + 1 + 1 + 1, by omega, by go_num, row_done HRo (by rw [hno.out, hM.out.1]), below_draws hBo _⟩, rfl⟩)
                  · have t1 : ¬ (1 : Int) < (k : Int) + 1 := by omega
                    have u1 : (1 : Int) < (i : Int) + 1 := by omega
                    have hno := Lib.hid (sw_no a b (i := i) (k := k) (fun h => hk2 h.2.1))
                    clear hk2
                    go_quiet (fail)
                    clear t1
                    go_wp2
                    have HRo := HRO.out
                    first
                      | exact ⟨⟨k + 1 + 1, by omega, by go_num, row_done HRo (by rw [hno.out, hM.out.1]), below_draws hBo _⟩, by simp [intOf]; omega⟩
                      | (refine ⟨?_, by simp [intOf]; omega⟩; (repeat apply Exists.intro); exact ⟨⟨k + 1 + 1, by omega, by go_num, row_done HRo (by rw [hno.out, hM.out.1]), below_draws hBo _⟩, rfl⟩)
                · have t1 : ¬ (1 : Int) < (i : Int) + 1 := by omega
                  have hno := Lib.hid (sw_no a b (i := i) (k := k) (fun h => hi2 h.1))
                  clear hi2
                  go_quiet (fail)
                  clear t1
                  go_wp2
                  have HRo := HRO.out
                  first
                    | exact ⟨⟨k + 1 + 1, by omega, by go_num, row_done HRo (by rw [hno.out, hM.out.1]), below_draws hBo _⟩, by simp [intOf]; omega⟩
                    | (refine ⟨?_, by simp [intOf]; omega⟩; (repeat apply Exists.intro); exact ⟨⟨k + 1 + 1, by omega, by go_num, row_done HRo (by rw [hno.out, hM.out.1]), below_draws hBo _⟩, rfl⟩)
              · have q1 : (bt a i == bt b k) = false := by_ hq
                have HQ := Lib.hid hq; clear hq
                obtain ⟨m1, hm1⟩ : ∃ m, (if x2 < x1 then x2 + 1 else x1 + 1) = m := ⟨_, rfl⟩
                obtain ⟨m2, hm2⟩ : ∃ m, (if x3 + 1 < m1 then x3 + 1 else m1) = m := ⟨_, rfl⟩
                have hM : Hid (sw3 a b i k = m2 ∧ 0 ≤ m2 ∧ m2 ≤ 1000) := by
                  show sw3 a b i k = m2 ∧ 0 ≤ m2 ∧ m2 ≤ 1000
                  rw [h3.out, if_neg HQ.out, ← E1.out, ← E2.out, ← E3.out, ← hm2, ← hm1]
                  split <;> split <;> omega
                have bm := hM.out.2
                have w5 : IntKind.i64.wrap (x1 + 1) = x1 + 1 := IntWalk.i64_in _ (by omega)
                go_wp2
                go_quiet (fail)
                go_wp2
                refine wp_tail 20 (by kernel_rfl) (by kernel_rfl) (fun v2 hv2 => ?_)
                have g1 : v2.cell? ⟨gt, i, none⟩ = some (.slice (some ⟨g, 0, none⟩) (b.size + 1) cc) := by rw [hv2]; exact hch'
                have g2 : v2.cell? ⟨g, k + 1, none⟩ = some (.int .i64 x2) := by rw [hv2]; exact hx2
                have g3 : v2.cell? ⟨wo.heap.size, k, none⟩ = some (.int .i64 x3) := by rw [hv2]; exact hx3
                have g4 : v2.cell? ⟨wo.heap.size, k + 1, none⟩ = some (.int .i64 0) := by rw [hv2]; exact hc0
                have g5 : v2.frozen? ⟨wo.heap.size, k + 1, none⟩ = false := by rw [hv2]; exact hf0
                have HRv : Hid (Row v2 wo.heap.size 2 (fill (iv (rowOf (sw a b (i + 1)) (k + 1))) (b.size + 1) (.int .i64 0))) := by rw [hv2]; exact HR.out
                have hBv : Hid (Below wo.heap.size wo v2) := by rw [hv2]; exact below_draws (below_draws hb2 _) _
                clear hv2
                simp only [List.take_succ_cons, List.take_zero, List.drop_succ_cons, List.drop_zero]
                repeat still_step
                refine wpStill_nil ?_
                clear hm1 hm2
                go_wp2
                refine wp_gen' (fun v3 : World => Row v3 wo.heap.size 2 (fill (iv (rowOf (sw a b (i + 1)) (k + 1)) ++ [.int .i64 m2]) (b.size + 1) (.int .i64 0)) ∧ Below wo.heap.size wo v3) ⟨row_put HRv.out hkl, hBv.out.setCell (Nat.le_refl _) _⟩ (fun v3 hI => ?_)
                obtain ⟨HRo, hBo⟩ := hI
                have HRO := Lib.hid HRo; clear HRo
                by_cases hi2 : 1 ≤ i
                · by_cases hk2 : 1 ≤ k
                  · obtain ⟨i, rfl⟩ : ∃ j, i = j + 1 := ⟨i - 1, by omega⟩
                    obtain ⟨k, rfl⟩ : ∃ j, k = j + 1 := ⟨k - 1, by omega⟩
                    clear w1 w2 l1 l2 l3 l4 l5 l6 l7 l8 n1
                    have u1 : (1 : Int) < (i : Int) + 1 + 1 := by omega
                    have u2 : (1 : Int) < (k : Int) + 1 + 1 := by omega
                    have l1 : (0 : Int) ≤ (i : Int) + 1 := by omega
                    have l2 : (i : Int) + 1 < (a.size : Int) := by omega
                    have l1' : (0 : Int) ≤ (i : Int) := by omega
                    have l2' : (i : Int) < (a.size : Int) := by omega
                    have l3 : (0 : Int) ≤ (k : Int) + 1 := by omega
                    have l4 : (k : Int) + 1 < (b.size : Int) := by omega
                    have l3' : (0 : Int) ≤ (k : Int) := by omega
                    have l4' : (k : Int) < (b.size : Int) := by omega
                    have n1 : ((i : Int) + 1).toNat = i + 1 := by omega
                    have n2 : ((k : Int) + 1).toNat = k + 1 := by omega
                    have w1 : IntKind.i64.wrap ((i : Int) + 1) = (i : Int) + 1 := IntWalk.i64_in _ (by omega)
                    have w2 : IntKind.i64.wrap ((k : Int) + 1) = (k : Int) + 1 := IntWalk.i64_in _ (by omega)
                    have w1' : IntKind.i64.wrap (i : Int) = (i : Int) := IntWalk.i64_in _ (by omega)
                    have w2' : IntKind.i64.wrap (k : Int) = (k : Int) := IntWalk.i64_in _ (by omega)
                    have w1'' : IntKind.i64.wrap ((i : Int) + 1 + 1 - 2) = (i : Int) := by rw [show (i : Int) + 1 + 1 - 2 = i from by omega]; exact IntWalk.i64_in _ (by omega)
                    have w2'' : IntKind.i64.wrap ((k : Int) + 1 + 1 - 2) = (k : Int) := by rw [show (k : Int) + 1 + 1 - 2 = k from by omega]; exact IntWalk.i64_in _ (by omega)
                    by_cases hA : bt a (i + 1) = bt b k
                    · have hA1 := bx hA
                      by_cases hB : bt a i = bt b (k + 1)
                      · have hB1 := bx hB
                        have hyes := Lib.hid (sw_yes a b (i := i + 1) (k := k + 1) ⟨hi2, hk2, hA, hB⟩)
                        clear hA hB
                        go_quiet (fail)
                        go_wp2
                        obtain ⟨gt2, ct2, g2, cc2, hv2, hct2, hgt2, hgtl2, hch2, hcc2, hg2, hgl2, hne2, hcs2⟩ := HT.out.at_ (rowsOf_get (sw a b) (j := i) (n := b.size + 1) (show i < i + 1 + 1 by omega))
                        rw [rowOf_length] at hch2 hcc2
                        rw [rowsOf_length] at hv2
                        simp only [Value.slice.injEq, Option.some.injEq, Addr.mk.injEq, and_true, true_and] at hv2
                        obtain ⟨hv2, hv3⟩ := hv2
                        subst hv2; subst hv3
                        have hy := (hBo.cell (p := ⟨g2, k, none⟩) hgl2).trans (hcs2 k _ (rowOf_get _ (by omega)))
                        have hh := (hBo.cell (p := ⟨gt, i, none⟩) hgtl).trans hch2
                        have by1 := sw_bd a b _ i k (Nat.le_refl _)
                        obtain ⟨y, ey⟩ : ∃ x, x = sw a b i k := ⟨_, rfl⟩
                        rw [← ey] at hy by1
                        have EY := Lib.hid ey
                        clear ey hcs2 hch2
                        obtain ⟨m3, hm3⟩ : ∃ m, (if y + 1 < m2 then y + 1 else m2) = m := ⟨_, rfl⟩
                        have HM3 : Hid (sw a b (i + 1 + 1) (k + 1 + 1) = m3) := by
                          show sw a b (i + 1 + 1) (k + 1 + 1) = m3
                          rw [hyes.out, hM.out.1, ← hm3, show i + 1 - 1 = i from rfl, show k + 1 - 1 = k from rfl, ← EY.out]
                          split <;> omega
                        have w7 : IntKind.i64.wrap (y + 1) = y + 1 := IntWalk.i64_in _ (by omega)
                        have d1 : (0 : Int) ≤ (k : Int) + 1 + 1 := by omega
                        have d2 : (k : Int) + 1 + 1 < (b.size : Int) + 1 := by omega
                        have d3 : (i : Int) < (i : Int) + 1 + 1 := by omega
                        have d4 : (k : Int) < (b.size : Int) + 1 := by omega
                        have d5 : ((k : Int) + 1 + 1).toNat = k + 1 + 1 := by omega
                        refine wp_tail 18 (by kernel_rfl) (by kernel_rfl) (fun v4 hv4 => ?_)
                        have f1 : v4.cell? ⟨gt, i, none⟩ = some (.slice (some ⟨g2, 0, none⟩) (b.size + 1) cc2) := by rw [hv4]; exact hh
                        have f2 : v4.cell? ⟨g2, k, none⟩ = some (.int .i64 y) := by rw [hv4]; exact hy
                        have f3 : v4.cell? ⟨wo.heap.size, k + 1 + 1, none⟩ = some (.int .i64 m2) := by rw [hv4]; exact row_last HRO.out
                        have f4 : v4.frozen? ⟨wo.heap.size, k + 1 + 1, none⟩ = false := by rw [hv4]; exact HRO.out.frozen _
                        have HR4 : Hid (Row v4 wo.heap.size 2 (fill (iv (rowOf (sw a b (i + 1 + 1)) (k + 1 + 1)) ++ [.int .i64 m2]) (b.size + 1) (.int .i64 0))) := by rw [hv4]; exact HRO.out
                        have HB4 : Hid (Below wo.heap.size wo v4) := by rw [hv4]; exact below_draws (below_draws hBo _) _
                        clear hv4
                        simp only [List.take_succ_cons, List.take_zero, List.drop_succ_cons, List.drop_zero]
                        repeat still_step
                        refine wpStill_nil ?_
                        clear hm3
                        go_wp2
                        have HRo := row_put_again (y := m3) HR4.out
                        first
                          | exact ⟨⟨k + 1 + 1 + 1, by omega, by go_num, row_done HRo (HM3.out), HB4.out.setCell (Nat.le_refl _) _⟩, by simp [intOf]; omega⟩
                          | (refine ⟨?_, by simp [intOf]; omega⟩; (repeat apply Exists.intro); exact ⟨⟨k + 1 + 1 + 1, by omega, by go_num, row_done HRo (HM3.out), HB4.out.setCell (Nat.le_refl _) _⟩, rfl⟩)
                      · have hB1 := by_ hB
                        have hno := Lib.hid (sw_no a b (i := i + 1) (k := k + 1) (fun h => hB h.2.2.2))
                        clear hA hB
                        go_quiet (fail)
                        go_wp2
                        have HRo := HRO.out
                        first
                          | exact ⟨⟨k + 1 + 1 + 1, by omega, by go_num, row_done HRo (by rw [hno.out, hM.out.1]), below_draws hBo _⟩, by simp [intOf]; omega⟩
                          | (refine ⟨?_, by simp [intOf]; omega⟩; (repeat apply Exists.intro); exact ⟨⟨k + 1 + 1 + 1, by omega, by go_num, row_done HRo (by rw [hno.out, hM.out.1]), below_draws hBo _⟩, rfl⟩)
                    · have hA1 := by_ hA
                      have hno := Lib.hid (sw_no a b (i := i + 1) (k := k + 1) (fun h => hA h.2.2.1))
                      clear hA
                      go_quiet (fail)
                      go_wp2
                      have HRo := HRO.out
                      first
                        | exact ⟨⟨k + 1 + 1 + 1, by omega, by go_num, row_done HRo (by rw [hno.out, hM.out.1]), below_draws hBo _⟩, by simp [intOf]; omega⟩
                        | (refine ⟨?_, by simp [intOf]; omega⟩; (repeat apply Exists.intro); exact ⟨⟨k + 1 + 1 + 1, by omega, by go_num, row_done HRo (by rw [hno.out, hM.out.1]), below_draws hBo _⟩, rfl⟩)
                  · have t1 : ¬ (1 : Int) < (k : Int) + 1 := by omega
                    have u1 : (1 : Int) < (i : Int) + 1 := by omega
                    have hno := Lib.hid (sw_no a b (i := i) (k := k) (fun h => hk2 h.2.1))
                    clear hk2
                    go_quiet (fail)
                    clear t1
                    go_wp2
                    have HRo := HRO.out
                    first
                      | exact ⟨⟨k + 1 + 1, by omega, by go_num, row_done HRo (by rw [hno.out, hM.out.1]), below_draws hBo _⟩, by simp [intOf]; omega⟩
                      | (refine ⟨?_, by simp [intOf]; omega⟩; (repeat apply Exists.intro); exact ⟨⟨k + 1 + 1, by omega, by go_num, row_done HRo (by rw [hno.out, hM.out.1]), below_draws hBo _⟩, rfl⟩)
                · have t1 : ¬ (1 : Int) < (i : Int) + 1 := by omega
                  have hno := Lib.hid (sw_no a b (i := i) (k := k) (fun h => hi2 h.1))
                  clear hi2
                  go_quiet (fail)
                  clear t1
                  go_wp2
                  have HRo := HRO.out
                  first
                    | exact ⟨⟨k + 1 + 1, by omega, by go_num, row_done HRo (by rw [hno.out, hM.out.1]), below_draws hBo _⟩, by simp [intOf]; omega⟩
                    | (refine ⟨?_, by simp [intOf]; omega⟩; (repeat apply Exists.intro); exact ⟨⟨k + 1 + 1, by omega, by go_num, row_done HRo (by rw [hno.out, hM.out.1]), below_draws hBo _⟩, rfl⟩)
        · obtain rfl : k = b.size + 1 := by omega
          have hcells : ∀ (k : Nat) (x : Int), (rowOf (sw a b i) (b.size + 1))[k]? = some x → wr.cell? ⟨wo.heap.size, k, none⟩ = some (.int .i64 x) := fun k x hx => by
            have hkl := (List.getElem?_eq_some_iff.1 hx).1
            rw [rowOf_length] at hkl
            rw [rowOf_get _ hkl] at hx
            rw [← Option.some.inj hx]
            exact row_prev HR.out hkl
          have HC := Lib.hid hcells; clear hcells
          have hl1 : wo.heap.size < wr.heap.size := HR.out.lt
          have hne : u5.ownBlock ≠ some wo.heap.size := fun e => by have := (HT.out.block _ e).2; omega
          have HNE := Lib.hid hne; clear hne
          go_wp2_with (at_builtin; refine wpList_tab_push _ rfl (.tmp 127) (.tmp 129) _ rfl w.heap.size 26 Try.underlying45 infoS3 _ (rowsOf (sw a b) i (b.size + 1)) rfl (HT.out.keep hb2 (Nat.le_refl _)) wo.heap.size (b.size + 1) (b.size + 1) (rowOf (sw a b i) (b.size + 1)) (rowOf_length _ _) rfl hbase hl1 HNE.out (Nat.le_refl _) HC.out (by rw [rowsOf_length]; omega) (by omega) ?_; intro g' cap w' htab' hgr hbl hat)
          rw [rowsOf_length] at htab'
          exact ⟨⟨i + 1, by omega, by go_num, by rw [rowsOf_length, rowsOf_succ]; exact htab', hbel.trans ((hb2.mono hbase).trans hbl)⟩, by simp [intOf]; omega⟩
    · obtain rfl : i = a.size + 1 := by omega
      clear hmk
      obtain ⟨gt, ct, g, cc, hv, hct, hgt, hgtl, hch, hcc, hg, hgl, hne, hcs⟩ := HT.out.at_ (rowsOf_get (sw a b) (j := a.size) (n := b.size + 1) (Nat.lt_succ_self _))
      rw [rowOf_length] at hch hcc
      rw [rowsOf_length] at hct hv
      subst hv
      have hx1 := hcs b.size _ (rowOf_get _ (Nat.lt_succ_self _))
      clear hcs
      go_wp2
      go_ret
      exact ⟨rfl, hbel⟩
end Go.Proofs.Ytkfmjnefbimecaa
