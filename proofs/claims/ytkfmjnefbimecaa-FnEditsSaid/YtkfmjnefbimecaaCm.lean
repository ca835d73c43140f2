/- Common texts: the table of the program. -/
import Derived.Test.YtkfmjnefbimecaaMga
import Derived.Test.YtkfmjnefbimecaaTab
import Derived.Test.YtkfmjnefbimecaaMgd
import Derived.Deep.QuietTactic
import Derived.BigQuiet

namespace Go.Proofs.Ytkfmjnefbimecaa
open Go.RowKit Go.PlainAid
set_option linter.unusedVariables false
theorem infoN : (Try.prog.info? 3).map (fun i => (i.zero, i.size, i.bytes)) = some (some (.int .i64 0), 1, 8) := by kernel_rfl
theorem infoNs : (Try.prog.info? 112).map (fun i => (i.zero, i.size, i.bytes)) = some (some (.slice none 0 0), 1, 24) := by kernel_rfl
theorem cm_row0s (a b : ByteArray) (n : Nat) : iv (rowOf (cm a b 0) n) = List.replicate n (.int .i64 0) := by
  simp only [iv, rowOf, List.map_map]
  rw [List.eq_replicate_iff]
  exact ⟨by simp, fun x hx => by simp at hx; obtain ⟨y, _, rfl⟩ := hx; rfl⟩
theorem fill_one2 {n : Nat} : fill (iv [0]) (n + 1) (.int .i64 0) = List.replicate (n + 1) (.int .i64 0) := by simp [fill, iv, List.replicate_succ]
theorem rowOf_one2 {f : Nat → Int} (h : f 0 = 0) : rowOf f 1 = [0] := by simp [rowOf, h]
/-- A table of one row. -/
theorem TabI.one (w : World) (base g n : Nat) (TT T : TypeId) (r : List Int) (h : Row w g T (iv r)) (hb : base ≤ g) (hn : r.length = n) : TabI (w.alloc (.cells #[.slice (some ⟨g, 0, none⟩) n n] TT)) base TT (.slice (some ⟨w.heap.size, 0, none⟩) 1 1) [r] := by
  subst hn
  have hlt := h.lt
  refine ⟨[.slice (some ⟨g, 0, none⟩) r.length r.length], Row.own (cap := 0) (Row.new w TT [.slice (some ⟨g, 0, none⟩) r.length r.length]) (by omega) (by simp [maxLen]), fun j r' hj => ?_⟩
  have hj0 : j = 0 := by
    rcases Nat.eq_zero_or_pos j with h | h
    · exact h
    · rw [List.getElem?_eq_none (by simp; omega)] at hj; cases hj
  subst hj0
  simp at hj
  subst hj
  refine ⟨g, r.length, rfl, hb, by simp; omega, ?_, Nat.le_refl _, fun k x hx => ?_⟩
  · intro e; simp [Value.ownBlock] at e; omega
  · rw [(h.alloc _).cell]; simp [iv, hx]

set_option maxRecDepth 100000 in
set_option maxHeartbeats 4000000 in
theorem iCommon_any (a b : ByteArray) (ha : a.size ≤ 48) (hb : b.size ≤ 48) (w : World) :
    Calls Try.prog 85 #[.string a, .string b] w fun e w' => ∃ v, e = .returned v ∧ TabI w' w.heap.size 112 v (rowsOf (cm a b) (a.size + 1) (b.size + 1)) ∧ Below w.heap.size w w' := by
  have hmk := run_make_row' (P := Try.prog) 112 3 (.int .i64 0) 8 Try.underlying112 infoN rfl .i64 .i64 (b.size + 1) (by omega) (by omega)
  rw [show ((b.size + 1 : Nat) : Int) = (b.size : Int) + 1 from by omega] at hmk
  go_enter Try.func85, Try.ntmps85
  go_wp2
  have hr00 := Row.made w (.int .i64 0) (b.size + 1) 3
  rw [← cm_row0s a b] at hr00
  have ht0 := TabI.one _ w.heap.size w.heap.size (b.size + 1) 112 3 (rowOf (cm a b 0) (b.size + 1)) hr00 (Nat.le_refl _) (rowOf_length _ _)
  have hbl0 := ((Below.refl w.heap.size w).alloc (Nat.le_refl _) (.cells (madeCells #[.int .i64 0] (b.size + 1)) 3)).alloc (by simp) (.cells #[.slice (some ⟨w.heap.size, 0, none⟩) (b.size + 1) (b.size + 1)] 112)
  go_loopw [5, 16] (fun t i wr => ∃ k : Nat, k ≤ a.size ∧ i = .int .i64 k ∧ TabI wr w.heap.size 112 t (rowsOf (cm a b) (k + 1) (b.size + 1)) ∧ Below w.heap.size w wr) (fun t i wr => a.size - (intOf i).toNat)
  case atStart => exact ⟨0, by omega, rfl, by rw [show rowsOf (cm a b) (0 + 1) (b.size + 1) = [rowOf (cm a b 0) (b.size + 1)] from rfl]; simpa using ht0, hbl0⟩
  case round =>
    obtain ⟨i, hi, rfl, htab, hbel⟩ := hrel
    have HT := Lib.hid htab; clear htab ht0 hr00
    obtain ⟨wo, rfl⟩ : ∃ wo : World, wo = wr := ⟨_, rfl⟩
    by_cases hlt : i < a.size
    · have hdi : decide ((i : Int) < (a.size : Int)) = true := decide_eq_true (by omega)
      go_wp2
      clear hmk
      have hbase : w.heap.size ≤ wo.heap.size := hbel.size
      have hrow0 := Row.made wo (.int .i64 0) (b.size + 1) 3
      go_loopw [25] (fun kk wr => ∃ k : Nat, k ≤ b.size ∧ kk = .int .i64 k ∧ Row wr wo.heap.size 3 (fill (iv (rowOf (cm a b (i + 1)) (k + 1))) (b.size + 1) (.int .i64 0)) ∧ Below wo.heap.size wo wr) (fun kk wr => b.size - (intOf kk).toNat)
      case atStart => exact ⟨0, by omega, rfl, by rw [rowOf_one2 (cm_col0 a b (i + 1)), fill_one2]; exact hrow0, (Below.refl _ _).alloc (Nat.le_refl _) _⟩
      case round =>
        obtain ⟨k, hk, rfl, hr, hb2⟩ := hrel
        have HR := Lib.hid hr; clear hr hrow0
        by_cases hkl : k < b.size
        · have hc0 := row_zero HR.out (show k + 1 < b.size + 1 by omega)
          have hf0 := HR.out.frozen (k + 1)
          obtain ⟨gt, ct, g, cc, hv, hct, hgt, hgtl, hch, hcc, hg, hgl, hne, hcs⟩ := HT.out.at_ (rowsOf_get (cm a b) (j := i) (n := b.size + 1) (Nat.lt_succ_self i))
          rw [rowOf_length] at hch hcc
          rw [rowsOf_length] at hct hv
          subst hv
          have hch' := (hb2.cell (p := ⟨gt, i, none⟩) hgtl).trans hch
          have hx1 := (hb2.cell (p := ⟨g, k, none⟩) hgl).trans (hcs k _ (rowOf_get _ (by omega)))
          have hx2 := (hb2.cell (p := ⟨g, k + 1, none⟩) hgl).trans (hcs (k + 1) _ (rowOf_get _ (by omega)))
          have hx3 := row_prev HR.out (Nat.lt_succ_self k)
          clear hcs hch
          have b1 := cm_bd a b i k
          have b2 := cm_bd a b i (k + 1)
          have b3 := cm_bd a b (i + 1) k
          have hE : Hid (bt a i = bt b k → cm a b (i + 1) (k + 1) = cm a b i k + 1) := fun h => cm_eq a b h
          have hN : Hid (¬ bt a i = bt b k → cm a b (i + 1) (k + 1) = max (cm a b i (k + 1)) (cm a b (i + 1) k)) := fun h => cm_ne a b h
          obtain ⟨x1, e1⟩ : ∃ x, x = cm a b i k := ⟨_, rfl⟩
          obtain ⟨x2, e2⟩ : ∃ x, x = cm a b i (k + 1) := ⟨_, rfl⟩
          obtain ⟨x3, e3⟩ : ∃ x, x = cm a b (i + 1) k := ⟨_, rfl⟩
          rw [← e1] at hx1 b1
          rw [← e2] at hx2 b2
          rw [← e3] at hx3 b3
          have E1 := Lib.hid e1; have E2 := Lib.hid e2; have E3 := Lib.hid e3
          clear e1 e2 e3
          have hba := get_bt a
          have hbb := get_bt b
          have l1 : (0 : Int) ≤ (i : Int) := by omega
          have l2 : (i : Int) < (a.size : Int) := by omega
          have l2' : (i : Int) < (i : Int) + 1 := by omega
          have l3 : (0 : Int) ≤ (k : Int) := by omega
          have l4 : (k : Int) < (b.size : Int) := by omega
          have l4' : (k : Int) < (b.size : Int) + 1 := by omega
          have l5 : (0 : Int) ≤ (k : Int) + 1 := by omega
          have l6 : (k : Int) + 1 < (b.size : Int) + 1 := by omega
          have n1 : ((k : Int) + 1).toNat = k + 1 := by omega
          by_cases hq : bt a i = bt b k
          · have q1 : (bt a i == bt b k) = true := by simp [hq]
            have HQ := Lib.hid hq; clear hq
            have HM : Hid (cm a b (i + 1) (k + 1) = x1 + 1) := by
              show _ = x1 + 1
              rw [hE.out HQ.out, ← E1.out]
            go_wp2
            go_quiet (fail)
            have HRo : Hid (Row (wr.drewN nq) wo.heap.size 3 (fill (iv (rowOf (cm a b (i + 1)) (k + 1))) (b.size + 1) (.int .i64 0))) := HR.out.drewN _
            go_wp2
            first
              | exact ⟨⟨k + 1, by omega, by go_num, row_step HRo.out (by omega) HM.out, (below_draws hb2 _).setCell (Nat.le_refl _) _⟩, by simp [intOf]; omega⟩
              | (refine ⟨?_, by simp [intOf]; omega⟩; (repeat apply Exists.intro); exact ⟨⟨k + 1, by omega, by go_num, row_step HRo.out (by omega) HM.out, (below_draws hb2 _).setCell (Nat.le_refl _) _⟩, rfl⟩)
          · have q1 : (bt a i == bt b k) = false := by simp [hq]
            have HQ := Lib.hid hq; clear hq
            have w1 : IntKind.i64.wrap ((k : Int) + 1) = (k : Int) + 1 := IntWalk.i64_in _ (by omega)
            obtain ⟨m1, hm1⟩ : ∃ m, (if x2 < x3 then x3 else x2) = m := ⟨_, rfl⟩
            have HM : Hid (cm a b (i + 1) (k + 1) = m1) := by
              show _ = m1
              rw [hN.out HQ.out, ← E2.out, ← E3.out, ← hm1]
              split <;> omega
            go_wp2
            go_quiet (fail)
            go_wp2
            refine wp_tail 17 (by kernel_rfl) (by kernel_rfl) (fun v2 hv2 => ?_)
            have g1 : v2.cell? ⟨gt, i, none⟩ = some (.slice (some ⟨g, 0, none⟩) (b.size + 1) cc) := by rw [hv2]; exact hch'
            have g2 : v2.cell? ⟨g, k + 1, none⟩ = some (.int .i64 x2) := by rw [hv2]; exact hx2
            have g3 : v2.cell? ⟨wo.heap.size, k, none⟩ = some (.int .i64 x3) := by rw [hv2]; exact hx3
            have g4 : v2.cell? ⟨wo.heap.size, k + 1, none⟩ = some (.int .i64 0) := by rw [hv2]; exact hc0
            have g5 : v2.frozen? ⟨wo.heap.size, k + 1, none⟩ = false := by rw [hv2]; exact hf0
            have HRv : Hid (Row v2 wo.heap.size 3 (fill (iv (rowOf (cm a b (i + 1)) (k + 1))) (b.size + 1) (.int .i64 0))) := by rw [hv2]; exact HR.out
            have hBv : Hid (Below wo.heap.size wo v2) := by rw [hv2]; exact below_draws (below_draws hb2 _) _
            clear hv2
            simp only [List.take_succ_cons, List.take_zero, List.drop_succ_cons, List.drop_zero]
            repeat still_step
            refine wpStill_nil ?_
            clear hm1
            go_wp2
            first
              | exact ⟨⟨k + 1, by omega, by go_num, row_step HRv.out (by omega) HM.out, hBv.out.setCell (Nat.le_refl _) _⟩, by simp [intOf]; omega⟩
              | (refine ⟨?_, by simp [intOf]; omega⟩; (repeat apply Exists.intro); exact ⟨⟨k + 1, by omega, by go_num, row_step HRv.out (by omega) HM.out, hBv.out.setCell (Nat.le_refl _) _⟩, rfl⟩)
        · obtain rfl : k = b.size := by omega
          have hcells : ∀ (k : Nat) (x : Int), (rowOf (cm a b (i + 1)) (b.size + 1))[k]? = some x → wr.cell? ⟨wo.heap.size, k, none⟩ = some (.int .i64 x) := fun k x hx => by
            have hkl := (List.getElem?_eq_some_iff.1 hx).1
            rw [rowOf_length] at hkl
            rw [rowOf_get _ hkl] at hx
            rw [← Option.some.inj hx]
            exact row_prev HR.out hkl
          have HC := Lib.hid hcells; clear hcells
          have hl1 : wo.heap.size < wr.heap.size := HR.out.lt
          have hne : u5.ownBlock ≠ some wo.heap.size := fun e => by have := (HT.out.block _ e).2; omega
          have HNE := Lib.hid hne; clear hne
          go_wp2_with (at_builtin; refine wpList_tab_push _ rfl (.tmp 65) (.tmp 67) _ rfl w.heap.size 112 Try.underlying110 infoNs _ (rowsOf (cm a b) (i + 1) (b.size + 1)) rfl (HT.out.keep hb2 (Nat.le_refl _)) wo.heap.size (b.size + 1) (b.size + 1) (rowOf (cm a b (i + 1)) (b.size + 1)) (rowOf_length _ _) rfl hbase hl1 HNE.out (Nat.le_refl _) HC.out (by rw [rowsOf_length]; omega) (by omega) ?_; intro g' cap w' htab' hgr hbl hat)
          rw [rowsOf_length] at htab'
          exact ⟨⟨i + 1, by omega, by go_num, by rw [rowsOf_length, rowsOf_succ]; exact htab', hbel.trans ((hb2.mono hbase).trans hbl)⟩, by simp [intOf]; omega⟩
    · obtain rfl : i = a.size := by omega
      go_wp2
      go_ret
      exact ⟨_, rfl, HT.out, hbel⟩
end Go.Proofs.Ytkfmjnefbimecaa
