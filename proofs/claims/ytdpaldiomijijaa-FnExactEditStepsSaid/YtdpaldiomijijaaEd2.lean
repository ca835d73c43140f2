/- Least edits: the table of the reference. -/
import Derived.Test.YtdpaldiomijijaaTxt
import Derived.Test.YtdpaldiomijijaaTab
import Derived.Test.YtdpaldiomijijaaEdP
import Derived.Deep.QuietTactic
import Derived.BigQuiet
namespace Go.Proofs.Ytdpaldiomijijaa
open Go.RowKit Go.PlainAid
set_option linter.unusedVariables false
theorem infoI2 : (Try.prog.info? 2).map (fun i => (i.zero, i.size, i.bytes)) = some (some (.int .i64 0), 1, 8) := by kernel_rfl
theorem infoS2 : (Try.prog.info? 26).map (fun i => (i.zero, i.size, i.bytes)) = some (some (.slice none 0 0), 1, 24) := by kernel_rfl
theorem sMin_any (x y : Int) (w : World) :
    Calls Try.prog 72 #[.int .i64 x, .int .i64 y] w fun e w' => e = .returned (.int .i64 (min x y)) ∧ w = w' := by
  by_cases h : x < y
  · go_enter Try.func72, Try.ntmps72
    go_wp2
    go_ret
    exact ⟨ret_int (by omega), rfl⟩
  · have h' : y ≤ x := by omega
    go_enter Try.func72, Try.ntmps72
    go_wp2
    go_ret
    exact ⟨ret_int (by omega), rfl⟩

set_option maxRecDepth 100000 in
set_option maxHeartbeats 4000000 in
theorem sEdits_any (a b : ByteArray) (p o c : Int) (ha : a.size ≤ 48) (hb : b.size ≤ 48) (hp : 0 ≤ p ∧ p ≤ 1000) (ho : 0 ≤ o ∧ o ≤ 1000) (hc : 0 ≤ c ∧ c ≤ 1000) (w : World) :
    Calls Try.prog 62 #[.string a, .string b, .int .i64 p, .int .i64 o, .int .i64 c] w fun e w' => ∃ v, e = .returned v ∧ TabI w' w.heap.size 26 v (rowsOf (ed a b p o c) (a.size + 1) (b.size + 1)) ∧ Below w.heap.size w w' := by
  go_enter Try.func62, Try.ntmps62
  go_wp2
  go_loopw [11, 12] (fun t i wr => ∃ k : Nat, k ≤ a.size + 1 ∧ i = .int .i64 k ∧ TabI wr w.heap.size 26 t (rowsOf (ed a b p o c) k (b.size + 1)) ∧ Below w.heap.size w wr) (fun t i wr => a.size + 1 - (intOf i).toNat)
  case atStart => exact ⟨0, by omega, rfl, TabI.made _ _ _ (Nat.le_refl _), (Below.refl _ _).alloc (Nat.le_refl _) _⟩
  case round =>
    obtain ⟨i, hi, rfl, htab, hbel⟩ := hrel
    have HT := Lib.hid htab; clear htab
    obtain ⟨wo, rfl⟩ : ∃ wo : World, wo = wr := ⟨_, rfl⟩
    by_cases hlt : i < a.size + 1
    · have hdi : decide (i ≤ a.size) = true := decide_eq_true (by omega)
      go_wp2
      have hbase : w.heap.size ≤ wo.heap.size := hbel.size
      have hrow0 := RowI.made wo wo.heap.size 2 (Nat.le_refl _)
      go_loopw [13, 14] (fun rv kk wr => ∃ k : Nat, k ≤ b.size + 1 ∧ kk = .int .i64 k ∧ RowI wr wo.heap.size 2 rv (rowOf (ed a b p o c i) k) ∧ Below wo.heap.size wo wr) (fun rv kk wr => b.size + 1 - (intOf kk).toNat)
      case atStart => exact ⟨0, by omega, rfl, hrow0, (Below.refl _ _).alloc (Nat.le_refl _) _⟩
      case round =>
        obtain ⟨k, hk, rfl, hr, hb2⟩ := hrel
        have HR := Lib.hid hr; clear hr hrow0
        have hs2 := hb2.size
        by_cases hkl : k < b.size + 1
        · rcases Nat.eq_zero_or_pos i with h0 | h0
          · subst h0
            have hm := mul_bd (k := k) hp.1 hp.2
            go_wp2_with (at_builtin; refine wpList_int_push _ rfl (.tmp 78) (.tmp 82) _ rfl wo.heap.size 2 Try.underlying26 infoI2 _ (rowOf (ed a b p o c 0) k) rfl HR.out _ rfl (by rw [rowOf_length]; omega) hs2 ?_; intro g' cap w' hown hbl hat hgr)
            rw [rowOf_length] at hown ⊢
            refine ⟨?_, by simp [intOf]; omega⟩
            (repeat apply Exists.intro)
            exact ⟨⟨k + 1, by omega, by go_num, by rw [rowOf_succ]; exact hown, hb2.trans hbl⟩, rfl⟩
          · have hi1 : ((i : Int) == 0) = false := by rw [beq_eq_false_iff_ne]; omega
            rcases Nat.eq_zero_or_pos k with k0 | k0
            · subst k0
              have hm := mul_bd (k := i) ho.1 ho.2
              go_wp2_with (at_builtin; refine wpList_int_push _ rfl (.tmp 87) (.tmp 91) _ rfl wo.heap.size 2 Try.underlying26 infoI2 _ (rowOf (ed a b p o c i) 0) rfl HR.out _ rfl (by rw [rowOf_length]; omega) hs2 ?_; intro g' cap w' hown hbl hat hgr)
              rw [rowOf_length] at hown ⊢
              exact ⟨⟨1, by omega, by go_num, by rw [rowOf_succ, ed_col0]; exact hown, hb2.trans hbl⟩, by simp [intOf]⟩
            · have hk1 : ((k : Int) == 0) = false := by rw [beq_eq_false_iff_ne]; omega
              obtain ⟨i, rfl⟩ : ∃ j, i = j + 1 := ⟨i - 1, by omega⟩
              obtain ⟨k, rfl⟩ : ∃ j, k = j + 1 := ⟨k - 1, by omega⟩
              obtain ⟨gt, ct, g, cc, hv, hct, hgt, hgtl, hch, hcc, hg, hgl, hne, hcs⟩ := HT.out.at_ (rowsOf_get (ed a b p o c) (j := i) (n := b.size + 1) (Nat.lt_succ_self i))
              rw [rowOf_length] at hch hcc
              rw [rowsOf_length] at hct hv
              subst hv
              obtain ⟨gr, cr, hv, hcr, hgr1, hgr2, hrs⟩ := HR.out.form (by rw [rowOf_length]; omega)
              rw [rowOf_length] at hv hcr
              subst hv
              have hch' := (hb2.cell (p := ⟨gt, i, none⟩) hgtl).trans hch
              have hx1 := (hb2.cell (p := ⟨g, k, none⟩) hgl).trans (hcs k _ (rowOf_get _ (by omega)))
              have hx2 := (hb2.cell (p := ⟨g, k + 1, none⟩) hgl).trans (hcs (k + 1) _ (rowOf_get _ (by omega)))
              have hx3 := hrs k _ (rowOf_get _ (Nat.lt_succ_self k))
              clear hcs hch hrs
              have hst := Lib.hid (ed_step a b p o c i k)
              have b1 := ed_bd a b hp ho hc.1 i k
              have b2 := ed_bd a b hp ho hc.1 i (k + 1)
              have b3 := ed_bd a b hp ho hc.1 (i + 1) k
              obtain ⟨x1, e1⟩ : ∃ x, x = ed a b p o c i k := ⟨_, rfl⟩
              obtain ⟨x2, e2⟩ : ∃ x, x = ed a b p o c i (k + 1) := ⟨_, rfl⟩
              obtain ⟨x3, e3⟩ : ∃ x, x = ed a b p o c (i + 1) k := ⟨_, rfl⟩
              rw [← e1] at hx1 b1
              rw [← e2] at hx2 b2
              rw [← e3] at hx3 b3
              have E1 := Lib.hid e1; have E2 := Lib.hid e2; have E3 := Lib.hid e3
              clear e1 e2 e3
              have hba := get_bt a
              have hbb := get_bt b
              have l1 : (0 : Int) ≤ (i : Int) := by omega
              have l2 : (i : Int) < (a.size : Int) := by omega
              have l3 : (0 : Int) ≤ (k : Int) := by omega
              have l4 : (k : Int) < (b.size : Int) := by omega
              have w1 : IntKind.i64.wrap (i : Int) = (i : Int) := IntWalk.i64_in _ (by omega)
              have w2 : IntKind.i64.wrap (k : Int) = (k : Int) := IntWalk.i64_in _ (by omega)
              by_cases hq : bt a i = bt b k
              · have q1 : (bt a i == bt b k) = true := by simp [hq]
                have HQ := Lib.hid hq; clear hq
                go_wp2
                go_quiet (fail)
                clear w1 w2
                go_wp2_with (first
                  | (go_at_call 72; refine (sMin_any _ _ _).mono ?_; rintro e w' ⟨rfl, rfl⟩)
                  | (at_builtin; refine wpList_int_push _ rfl (.tmp 63) (.tmp 73) _ rfl wo.heap.size 2 Try.underlying26 infoI2 _ (rowOf (ed a b p o c (i + 1)) (k + 1)) (by rfl) (HR.out.drewN _) _ rfl (by rw [rowOf_length]; omega) hs2 ?_; intro g' cap w' hown hbl hat hgr))
                rw [rowOf_length] at hown ⊢
                refine ⟨?_, by simp [intOf]; omega⟩
                (repeat apply Exists.intro)
                refine ⟨⟨k + 1 + 1, by omega, by go_num, ?_, (below_draws hb2 _).trans hbl⟩, rfl⟩
                rw [rowOf_succ, hst.out, if_pos HQ.out, ← E1.out, ← E2.out, ← E3.out]
                first | exact hown | simpa using hown
              · have q1 : (bt a i == bt b k) = false := by simp [hq]
                have HQ := Lib.hid hq; clear hq
                go_wp2
                go_quiet (fail)
                clear w1 w2
                go_wp2_with (first
                  | (go_at_call 72; refine (sMin_any _ _ _).mono ?_; rintro e w' ⟨rfl, rfl⟩)
                  | (at_builtin; refine wpList_int_push _ rfl (.tmp 63) (.tmp 73) _ rfl wo.heap.size 2 Try.underlying26 infoI2 _ (rowOf (ed a b p o c (i + 1)) (k + 1)) (by rfl) (HR.out.drewN _) _ rfl (by rw [rowOf_length]; omega) hs2 ?_; intro g' cap w' hown hbl hat hgr))
                rw [rowOf_length] at hown ⊢
                refine ⟨?_, by simp [intOf]; omega⟩
                (repeat apply Exists.intro)
                refine ⟨⟨k + 1 + 1, by omega, by go_num, ?_, (below_draws hb2 _).trans hbl⟩, rfl⟩
                rw [rowOf_succ, hst.out, if_neg HQ.out, ← E1.out, ← E2.out, ← E3.out]
                first | exact hown | simpa using hown
        · obtain rfl : k = b.size + 1 := by omega
          obtain ⟨gr, cr, hv, hcr, hgr1, hgr2, hrs⟩ := HR.out.form (by rw [rowOf_length]; omega)
          rw [rowOf_length] at hv hcr
          subst hv
          have HC := Lib.hid hrs; clear hrs
          have hne : u11.ownBlock ≠ some gr := fun e => by have := (HT.out.block _ e).2; omega
          have HNE := Lib.hid hne; clear hne
          go_wp2_with (at_builtin; refine wpList_tab_push _ rfl (.tmp 93) (.tmp 95) _ rfl w.heap.size 26 Try.underlying51 infoS2 _ (rowsOf (ed a b p o c) i (b.size + 1)) rfl (HT.out.keep hb2 (Nat.le_refl _)) gr cr (b.size + 1) (rowOf (ed a b p o c i) (b.size + 1)) (rowOf_length _ _) rfl (by omega) hgr2 HNE.out hcr HC.out (by rw [rowsOf_length]; omega) (by omega) ?_; intro g' cap w' htab' hgr hbl hat)
          rw [rowsOf_length] at htab'
          exact ⟨⟨i + 1, by omega, by go_num, by rw [rowsOf_length, rowsOf_succ]; exact htab', hbel.trans ((hb2.mono hbase).trans hbl)⟩, by simp [intOf]; omega⟩
    · obtain rfl : i = a.size + 1 := by omega
      go_wp2
      go_ret
      exact ⟨_, rfl, HT.out, hbel⟩
end Go.Proofs.Ytdpaldiomijijaa
