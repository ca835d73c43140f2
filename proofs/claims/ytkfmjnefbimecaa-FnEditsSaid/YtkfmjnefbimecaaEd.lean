/- Least edits: the tables of the program. -/
import Derived.Test.YtkfmjnefbimecaaMga
import Derived.Test.YtkfmjnefbimecaaTab
import Derived.Test.YtkfmjnefbimecaaEdP
import Derived.Deep.QuietTactic
import Derived.BigQuiet
import Derived.StillTailTactics

namespace Go.Proofs.Ytkfmjnefbimecaa
open Go.RowKit Go.PlainAid
set_option linter.unusedVariables false
theorem infoI : (Try.prog.info? 2).map (fun i => (i.zero, i.size, i.bytes)) = some (some (.int .i64 0), 1, 8) := by kernel_rfl
theorem infoS : (Try.prog.info? 26).map (fun i => (i.zero, i.size, i.bytes)) = some (some (.slice none 0 0), 1, 24) := by kernel_rfl

set_option maxRecDepth 100000 in
set_option maxHeartbeats 4000000 in
theorem iEditTable_any (a b : ByteArray) (p o c : Int) (ha : a.size ≤ 48) (hb : b.size ≤ 48) (hp : 0 ≤ p ∧ p ≤ 1000) (ho : 0 ≤ o ∧ o ≤ 1000) (hc : 0 ≤ c ∧ c ≤ 1000) (w : World) :
    Calls Try.prog 81 #[.string a, .string b, .int .i64 p, .int .i64 o, .int .i64 c] w fun e w' => ∃ v, e = .returned v ∧ TabI w' w.heap.size 26 v (rowsOf (ed a b p o c) (a.size + 1) (b.size + 1)) ∧ Below w.heap.size w w' := by
  have hmk := run_make_row' (P := Try.prog) 26 2 (.int .i64 0) 8 Try.underlying26 infoI rfl .i64 .i64 (b.size + 1) (by omega) (by omega)
  rw [show ((b.size + 1 : Nat) : Int) = (b.size : Int) + 1 from by omega] at hmk
  go_enter Try.func81, Try.ntmps81
  go_wp2
  go_loopw [11, 20] (fun t i wr => ∃ k : Nat, k ≤ a.size + 1 ∧ i = .int .i64 k ∧ TabI wr w.heap.size 26 t (rowsOf (ed a b p o c) k (b.size + 1)) ∧ Below w.heap.size w wr) (fun t i wr => a.size + 1 - (intOf i).toNat)
  case atStart => exact ⟨0, by omega, rfl, TabI.made _ _ _ (Nat.le_refl _), (Below.refl _ _).alloc (Nat.le_refl _) _⟩
  case round =>
    obtain ⟨i, hi, rfl, htab, hbel⟩ := hrel
    have HT := Lib.hid htab; clear htab
    obtain ⟨wo, rfl⟩ : ∃ wo : World, wo = wr := ⟨_, rfl⟩
    by_cases hlt : i < a.size + 1
    · go_wp2
      have hbase : w.heap.size ≤ wo.heap.size := hbel.size
      clear hmk
      have hrow0 := Row.made wo (.int .i64 0) (b.size + 1) 2
      go_loopw [29] (fun kk wr => ∃ k : Nat, k ≤ b.size + 1 ∧ kk = .int .i64 k ∧ Row wr wo.heap.size 2 (fill (iv (rowOf (ed a b p o c i) k)) (b.size + 1) (.int .i64 0)) ∧ Below wo.heap.size wo wr) (fun kk wr => b.size + 1 - (intOf kk).toNat)
      case atStart => exact ⟨0, by omega, rfl, by rw [show iv (rowOf (ed a b p o c i) 0) = [] from rfl, fill_nil]; exact hrow0, (Below.refl _ _).alloc (Nat.le_refl _) _⟩
      case round =>
        obtain ⟨k, hk, rfl, hr, hb2⟩ := hrel
        have HR := Lib.hid hr; clear hr hrow0
        by_cases hkl : k < b.size + 1
        · have hc0 := row_zero HR.out hkl
          have hf0 := HR.out.frozen k
          rcases Nat.eq_zero_or_pos i with h0 | h0
          · subst h0
            have hm := mul_bd (k := k) hp.1 hp.2
            go_wp2
            go_roundw
            case rel => exact ⟨k + 1, by omega, by go_num, row_step HR.out hkl rfl, hb2.setCell (Nat.le_refl _) _⟩
            case measure => simp [intOf]; omega
          · have hi1 : ((i : Int) == 0) = false := by rw [beq_eq_false_iff_ne]; omega
            rcases Nat.eq_zero_or_pos k with k0 | k0
            · subst k0
              have hm := mul_bd (k := i) ho.1 ho.2
              go_wp2
              go_roundw
              case rel => exact ⟨1, by omega, by go_num, row_step HR.out hkl (ed_col0 a b p o c i), hb2.setCell (Nat.le_refl _) _⟩
              case measure => simp [intOf]
            · have hk1 : ((k : Int) == 0) = false := by rw [beq_eq_false_iff_ne]; omega
              obtain ⟨i, rfl⟩ : ∃ j, i = j + 1 := ⟨i - 1, by omega⟩
              obtain ⟨k, rfl⟩ : ∃ j, k = j + 1 := ⟨k - 1, by omega⟩
              obtain ⟨gt, ct, g, cc, hv, hct, hgt, hgtl, hch, hcc, hg, hgl, hne, hcs⟩ := HT.out.at_ (rowsOf_get (ed a b p o c) (j := i) (n := b.size + 1) (Nat.lt_succ_self i))
              rw [rowOf_length] at hch hcc
              rw [rowsOf_length] at hct hv
              subst hv
              have hch' := (hb2.cell (p := ⟨gt, i, none⟩) hgtl).trans hch
              have hx1 := (hb2.cell (p := ⟨g, k, none⟩) hgl).trans (hcs k _ (rowOf_get _ (by omega)))
              have hx2 := (hb2.cell (p := ⟨g, k + 1, none⟩) hgl).trans (hcs (k + 1) _ (rowOf_get _ (by omega)))
              have hx3 := row_prev HR.out (Nat.lt_succ_self k)
              have HCS := Lib.hid hcs; clear hcs hch
              have hst := Lib.hid (ed_step a b p o c i k)
              have b1 := ed_bd a b hp ho hc.1 i k
              have b2 := ed_bd a b hp ho hc.1 i (k + 1)
              have b3 := ed_bd a b hp ho hc.1 (i + 1) k
              obtain ⟨x1, e1⟩ : ∃ x, x = ed a b p o c i k := ⟨_, rfl⟩
              obtain ⟨x2, e2⟩ : ∃ x, x = ed a b p o c i (k + 1) := ⟨_, rfl⟩
              obtain ⟨x3, e3⟩ : ∃ x, x = ed a b p o c (i + 1) k := ⟨_, rfl⟩
              rw [← e1] at hx1 b1
              rw [← e2] at hx2 b2
              rw [← e3] at hx3 b3
              have E1 := Lib.hid e1; have E2 := Lib.hid e2; have E3 := Lib.hid e3
              clear e1 e2 e3
              have hba := get_bt a
              have hbb := get_bt b
              have l1 : (0 : Int) ≤ (i : Int) := by omega
              have l2 : (i : Int) < (a.size : Int) := by omega
              have l3 : (0 : Int) ≤ (k : Int) := by omega
              have l4 : (k : Int) < (b.size : Int) := by omega
              have w1 : IntKind.i64.wrap (i : Int) = (i : Int) := IntWalk.i64_in _ (by omega)
              have w2 : IntKind.i64.wrap (k : Int) = (k : Int) := IntWalk.i64_in _ (by omega)
              have w3 : IntKind.i64.wrap (x2 + o) = x2 + o := IntWalk.i64_in _ (by omega)
              have w4 : IntKind.i64.wrap (x3 + p) = x3 + p := IntWalk.i64_in _ (by omega)
              have l5 : (0 : Int) ≤ (k : Int) + 1 := by omega
              have l6 : (k : Int) + 1 < (b.size : Int) + 1 := by omega
              have l7 : (i : Int) < (i : Int) + 1 := by omega
              have l8 : (k : Int) < (b.size : Int) + 1 := by omega
              have n1 : ((k : Int) + 1).toNat = k + 1 := by omega
              by_cases hq : bt a i = bt b k
              · have q1 : (bt a i == bt b k) = true := by simp [hq]
                have HQ := Lib.hid hq; clear hq
                go_wp2
                go_quiet (fail)
                go_wp2
                refine wp_tail 22 (by kernel_rfl) (by kernel_rfl) (fun v2 hv2 => ?_)
                have g1 : v2.cell? ⟨gt, i, none⟩ = some (.slice (some ⟨g, 0, none⟩) (b.size + 1) cc) := by rw [hv2]; exact hch'
                have g2 : v2.cell? ⟨g, k + 1, none⟩ = some (.int .i64 x2) := by rw [hv2]; exact hx2
                have g3 : v2.cell? ⟨wo.heap.size, k, none⟩ = some (.int .i64 x3) := by rw [hv2]; exact hx3
                have g4 : v2.cell? ⟨wo.heap.size, k + 1, none⟩ = some (.int .i64 0) := by rw [hv2]; exact hc0
                have g5 : v2.frozen? ⟨wo.heap.size, k + 1, none⟩ = false := by rw [hv2]; exact hf0
                have HRv : Hid (Row v2 wo.heap.size 2 (fill (iv (rowOf (ed a b p o c (i + 1)) (k + 1))) (b.size + 1) (.int .i64 0))) := by rw [hv2]; exact HR.out
                have hBv : Hid (Below wo.heap.size wo v2) := by rw [hv2]; exact below_draws (below_draws hb2 _) _
                clear hv2
                simp only [List.take_succ_cons, List.take_zero, List.drop_succ_cons, List.drop_zero]
                repeat still_step
                refine wpStill_nil ?_
                go_wp2
                all_goals
                  refine ⟨⟨_, _, _, ⟨k + 1 + 1, by omega, rfl, row_step HRv.out hkl ?_, hBv.out.setCell (Nat.le_refl _) _⟩, rfl, rfl, by go_num⟩, by simp [intOf]; omega⟩
                  rw [hst.out, if_pos HQ.out, ← E1.out, ← E2.out, ← E3.out]
                  first | omega | (split at * <;> omega)
              · have q1 : (bt a i == bt b k) = false := by simp [hq]
                have w5 : IntKind.i64.wrap (x1 + c) = x1 + c := IntWalk.i64_in _ (by omega)
                have HQ := Lib.hid hq; clear hq
                go_wp2
                go_quiet (fail)
                go_wp2
                refine wp_tail 22 (by kernel_rfl) (by kernel_rfl) (fun v2 hv2 => ?_)
                have g1 : v2.cell? ⟨gt, i, none⟩ = some (.slice (some ⟨g, 0, none⟩) (b.size + 1) cc) := by rw [hv2]; exact hch'
                have g2 : v2.cell? ⟨g, k + 1, none⟩ = some (.int .i64 x2) := by rw [hv2]; exact hx2
                have g3 : v2.cell? ⟨wo.heap.size, k, none⟩ = some (.int .i64 x3) := by rw [hv2]; exact hx3
                have g4 : v2.cell? ⟨wo.heap.size, k + 1, none⟩ = some (.int .i64 0) := by rw [hv2]; exact hc0
                have g5 : v2.frozen? ⟨wo.heap.size, k + 1, none⟩ = false := by rw [hv2]; exact hf0
                have HRv : Hid (Row v2 wo.heap.size 2 (fill (iv (rowOf (ed a b p o c (i + 1)) (k + 1))) (b.size + 1) (.int .i64 0))) := by rw [hv2]; exact HR.out
                have hBv : Hid (Below wo.heap.size wo v2) := by rw [hv2]; exact below_draws (below_draws hb2 _) _
                clear hv2
                simp only [List.take_succ_cons, List.take_zero, List.drop_succ_cons, List.drop_zero]
                repeat still_step
                refine wpStill_nil ?_
                go_wp2
                all_goals
                  refine ⟨⟨_, _, _, ⟨k + 1 + 1, by omega, rfl, row_step HRv.out hkl ?_, hBv.out.setCell (Nat.le_refl _) _⟩, rfl, rfl, by go_num⟩, by simp [intOf]; omega⟩
                  rw [hst.out, if_neg HQ.out, ← E1.out, ← E2.out, ← E3.out]
                  first | omega | (split at * <;> omega)
        · obtain rfl : k = b.size + 1 := by omega
          have hcells : ∀ (k : Nat) (x : Int), (rowOf (ed a b p o c i) (b.size + 1))[k]? = some x → wr.cell? ⟨wo.heap.size, k, none⟩ = some (.int .i64 x) := fun k x hx => by
            have hkl := (List.getElem?_eq_some_iff.1 hx).1
            rw [rowOf_length] at hkl
            rw [rowOf_get _ hkl] at hx
            rw [← Option.some.inj hx]
            exact row_prev HR.out hkl
          have HC := Lib.hid hcells; clear hcells
          have hl1 : wo.heap.size < wr.heap.size := HR.out.lt
          have hne : u11.ownBlock ≠ some wo.heap.size := fun e => by have := (HT.out.block _ e).2; omega
          have HNE := Lib.hid hne; clear hne
          go_wp2_with (at_builtin; refine wpList_tab_push _ rfl (.tmp 94) (.tmp 96) _ rfl w.heap.size 26 Try.underlying45 infoS _ (rowsOf (ed a b p o c) i (b.size + 1)) rfl (HT.out.keep hb2 (Nat.le_refl _)) wo.heap.size (b.size + 1) (b.size + 1) (rowOf (ed a b p o c i) (b.size + 1)) (rowOf_length _ _) rfl hbase hl1 HNE.out (Nat.le_refl _) HC.out (by rw [rowsOf_length]; omega) (by omega) ?_; intro g' cap w' htab' hgr hbl hat)
          rw [rowsOf_length] at htab'
          exact ⟨⟨i + 1, by omega, by go_num, by rw [rowsOf_length, rowsOf_succ]; exact htab', hbel.trans ((hb2.mono hbase).trans hbl)⟩, by simp [intOf]; omega⟩
    · obtain rfl : i = a.size + 1 := by omega
      go_wp2
      go_ret
      exact ⟨_, rfl, HT.out, hbel⟩
end Go.Proofs.Ytkfmjnefbimecaa
