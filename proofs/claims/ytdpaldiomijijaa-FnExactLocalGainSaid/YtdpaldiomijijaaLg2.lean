/- Best parts: the reference. -/
import Derived.Test.YtdpaldiomijijaaLg
namespace Go.Proofs.Ytdpaldiomijijaa
open Go.RowKit Go.PlainAid
set_option linter.unusedVariables false
theorem sMaxW (x y : Int) (w : World) :
    Calls Try.prog 59 #[.int .i64 x, .int .i64 y] w fun e w' => e = .returned (.int .i64 (max x y)) ∧ w = w' := by
  by_cases h : y < x
  · go_enter Try.func59, Try.ntmps59
    go_wp2
    go_ret
    exact ⟨ret_int (by omega), rfl⟩
  · have h' : x ≤ y := by omega
    clear h
    go_enter Try.func59, Try.ntmps59
    go_wp2
    go_ret
    exact ⟨ret_int (by omega), rfl⟩
theorem sMaxQ (x y : Int) (w : World) :
    Calls Try.prog 59 #[.int .i64 x, .int .i64 y] w fun e w' => e = .returned (.int .i64 (max x y)) ∧ w' = w := (sMaxW x y w).mono fun _ _ h => ⟨h.1, h.2.symm⟩
theorem quiet_more {P : Program} {f : FuncId} {args : Array Value} {w : World} {a n : Nat} {v : Value}
    (h : Calls P f args (w.drewN (a + n)) fun e w' => e = .returned v ∧ w' = w.drewN (a + n)) : Calls P f args (w.drewN (a + n)) fun e w'' => e = .returned v ∧ ∃ m, w'' = w.drewN (a + m) :=
  h.mono fun _ _ ⟨he, hm⟩ => ⟨he, n, hm⟩
/-- The first n cells of block g read as f. -/
def RowC (w : World) (g : Nat) (f : Nat → Int) (n : Nat) : Prop := ∀ j, j < n → w.cell? ⟨g, j, none⟩ = some (.int .i64 (f j))
theorem RowC.below {w w' : World} {g B : Nat} {f : Nat → Int} {n : Nat} (h : RowC w g f n) (hb : Below B w w') (hg : g < B) : RowC w' g f n := fun j hj => (hb.cell (p := ⟨g, j, none⟩) hg).trans (h j hj)

set_option maxRecDepth 100000 in
set_option maxHeartbeats 4000000 in
theorem sLocal_any (a b : ByteArray) (s d g : Int) (wa : a.size ≤ maxLen) (wb : b.size ≤ maxLen) (w : World) :
    Calls Try.prog 33 #[.string a, .string b, .int .i64 s, .int .i64 d, .int .i64 g] w fun e w' => e = .returned (.tuple #[.int .i64 (lgV a b s d g), .bool (lgOk a b s d g)]) ∧ Below w.heap.size w w' := by
  by_cases h12 : (txtB a && txtB b) = true
  · have h1 : txtB a = true := by simp at h12; exact h12.1
    have h2 : txtB b = true := by simp at h12; exact h12.2
    by_cases h3 : allIn [s, d, g] 0 1000 = true
    · have hB := Lib.hid (show lgOk a b s d g = true by simp [lgOk, h1, h2, h3])
      have hV := Lib.hid (show lgV a b s d g = lgB a b s d g b.size a.size by simp [lgV, lgOk, h1, h2, h3])
      have ha := txtB_true h1
      have hb := txtB_true h2
      obtain ⟨hs, hd, hg⟩ := lgc3 h3
      have hmk := run_make_row' (P := Try.prog) 26 2 (.int .i64 0) 8 Try.underlying26 infoI5 rfl .i64 .i64 (b.size + 1) (by omega) (by omega)
      rw [show ((b.size + 1 : Nat) : Int) = (b.size : Int) + 1 from by omega] at hmk
      go_enter Try.func33, Try.ntmps33
      go_wp2_with (first | (go_at_call 48; refine (sTwo_any _ _ (by assumption) (by assumption) _).mono ?_; rintro e w' ⟨rfl, rfl⟩) | (go_at_call 58; refine (sCosts_any (some ⟨w.heap.size, 0, none⟩) 3 3 [s, d, g] (w.heap.size + 1) _ (by have := (Row.new w 2 (iv [s, d, g])).sl; simp at this; exact this) (by omega)).mono ?_; rintro e w' ⟨rfl, rfl⟩))
      clear hmk
      have hrow := Row.made (w.alloc (.cells #[.int .i64 s, .int .i64 d, .int .i64 g] 2)) (.int .i64 0) (b.size + 1) 2
      have hbel0 := ((Below.refl w.heap.size w).alloc (Nat.le_refl _) (.cells #[.int .i64 s, .int .i64 d, .int .i64 g] 2)).alloc (by simp) (.cells (madeCells #[.int .i64 0] (b.size + 1)) 2)
      go_loopw [12, 13, 14] (fun be ab i wr => ∃ (k ga c : Nat), k ≤ a.size ∧ i = .int .i64 ((k : Int) + 1) ∧ be = .int .i64 (lgB a b s d g b.size k) ∧ ab = .slice (some ⟨ga, 0, none⟩) (b.size + 1) c ∧ w.heap.size ≤ ga ∧ ga < wr.heap.size ∧ b.size + 1 ≤ c ∧ RowC wr ga (lg a b s d g k) (b.size + 1) ∧ Below w.heap.size w wr) (fun be ab i wr => a.size + 1 - (intOf i).toNat)
      case atStart =>
        refine ⟨0, w.heap.size + 1, b.size + 1, by omega, rfl, rfl, by simp, by omega, by simp, by omega, ?_, hbel0⟩
        intro j hj
        have hc := hrow.cell j
        rw [List.getElem?_replicate, if_pos hj] at hc
        rw [lg_row0]
        simpa using hc
      case round =>
        obtain ⟨i, ga, ca, hi, rfl, rfl, rfl, hga, hgal, hca, hrow, hbel⟩ := hrel
        have HP := Lib.hid hrow; clear hrow
        obtain ⟨wo, rfl⟩ : ∃ wo : World, wo = wr := ⟨_, rfl⟩
        have hbb := lgB_bd a b hs hd hg.1 b.size a.size i hi
        obtain ⟨bs, ebs⟩ : ∃ x, x = lgB a b s d g b.size i := ⟨_, rfl⟩
        rw [← ebs] at hbb ⊢
        have EBS := Lib.hid ebs; clear ebs
        by_cases hlt : i < a.size
        · have hdi : decide ((i : Int) + 1 ≤ (a.size : Int)) = true := decide_eq_true (by omega)
          go_wp2
          have hbase : w.heap.size ≤ wo.heap.size := hbel.size
          have hrow0 : RowI (wo.alloc (.cells #[.int .i64 0] 2)) wo.heap.size 2 (.slice (some ⟨wo.heap.size, 0, none⟩) 1 1) [0] := Row.own (cap := 0) (Row.new wo 2 (iv [0])) (Nat.le_refl _) (by simp [iv, maxLen])
          go_loopw [12, 15, 16] (fun be rv kk wr => ∃ k : Nat, k ≤ b.size ∧ kk = .int .i64 ((k : Int) + 1) ∧ be = .int .i64 (lgRow bs (lg a b s d g (i + 1)) k) ∧ RowI wr wo.heap.size 2 rv (rowOf (lg a b s d g (i + 1)) (k + 1)) ∧ Below wo.heap.size wo wr) (fun be rv kk wr => b.size + 1 - (intOf kk).toNat)
          case atStart => exact ⟨0, by omega, rfl, rfl, by rw [rowOf_one (lg_col0 a b s d g (i + 1))]; exact hrow0, (Below.refl _ _).alloc (Nat.le_refl _) _⟩
          case round =>
            obtain ⟨k, hk, rfl, rfl, hr, hb2⟩ := hrel
            have HR := Lib.hid hr; clear hr hrow0
            have hs2 := hb2.size
            have hrb := lgRow_bd (row := lg a b s d g (i + 1)) hbb k (fun j hj => by have := lg_bd a b hs hd hg.1 (i + 1) j; omega)
            obtain ⟨be, ebe⟩ : ∃ x, x = lgRow bs (lg a b s d g (i + 1)) k := ⟨_, rfl⟩
            rw [← ebe] at hrb ⊢
            have EBE := Lib.hid ebe; clear ebe
            obtain ⟨gr, cr, hv, hcr, hgr1, hgr2, hrs⟩ := HR.out.form (by rw [rowOf_length]; omega)
            rw [rowOf_length] at hv hcr
            subst hv
            by_cases hkl : k < b.size
            · have hdk : decide ((k : Int) + 1 ≤ (b.size : Int)) = true := decide_eq_true (by omega)
              have hcell := HP.out.below hb2 hgal
              have hx1 := hcell k (by omega)
              have hx2 := hcell (k + 1) (by omega)
              have hx3 := hrs k _ (rowOf_get _ (Nat.lt_succ_self k))
              clear hcell hrs
              have hst := Lib.hid (lg_step a b s d g i k)
              have b1 := lg_bd a b hs hd hg.1 i k
              have b2 := lg_bd a b hs hd hg.1 i (k + 1)
              have b3 := lg_bd a b hs hd hg.1 (i + 1) k
              obtain ⟨x1, e1⟩ : ∃ x, x = lg a b s d g i k := ⟨_, rfl⟩
              obtain ⟨x2, e2⟩ : ∃ x, x = lg a b s d g i (k + 1) := ⟨_, rfl⟩
              obtain ⟨x3, e3⟩ : ∃ x, x = lg a b s d g (i + 1) k := ⟨_, rfl⟩
              rw [← e1] at hx1 b1
              rw [← e2] at hx2 b2
              rw [← e3] at hx3 b3
              have E1 := Lib.hid e1; have E2 := Lib.hid e2; have E3 := Lib.hid e3
              clear e1 e2 e3
              have hba := get_bt a
              have hbb2 := get_bt b
              have l1 : (0 : Int) ≤ (i : Int) := by omega
              have l2 : (i : Int) < (a.size : Int) := by omega
              have l3 : (0 : Int) ≤ (k : Int) := by omega
              have l4 : (k : Int) < (b.size : Int) := by omega
              have l4' : (k : Int) < (b.size : Int) + 1 := by omega
              have l4'' : (k : Int) < (k : Int) + 1 := by omega
              have l5 : (0 : Int) ≤ (k : Int) + 1 := by omega
              have l6 : (k : Int) + 1 < (b.size : Int) + 1 := by omega
              have n1 : ((k : Int) + 1).toNat = k + 1 := by omega
              have w1 : IntKind.i64.wrap (k : Int) = (k : Int) := IntWalk.i64_in _ (by omega)
              have w1' : IntKind.i64.wrap (i : Int) = (i : Int) := IntWalk.i64_in _ (by omega)
              have w3 : IntKind.i64.wrap (x2 - g) = x2 - g := IntWalk.i64_in _ (by omega)
              have w4 : IntKind.i64.wrap (x3 - g) = x3 - g := IntWalk.i64_in _ (by omega)
              by_cases hq : bt a i = bt b k
              · have q1 : (bt a i == bt b k) = true := by simp [hq]
                have hpg := Lib.hid (show pg (bt a i) (bt b k) s d = s from if_pos hq)
                have HQ := Lib.hid hq; clear hq
                have w2 : IntKind.i64.wrap (x1 + s) = x1 + s := IntWalk.i64_in _ (by omega)
                have HM : Hid (lg a b s d g (i + 1) (k + 1) = max (max (x1 + s) 0) (max (x2 - g) (x3 - g))) := by
                  show _ = max (max (x1 + s) 0) (max (x2 - g) (x3 - g))
                  rw [hst.out, ← E1.out, ← E2.out, ← E3.out, hpg.out]; try omega
                go_wp2
                go_quiet (fail)
                go_wp2
                go_quiet ((go_at_call 59; first | exact Calls.quiet_of_same (sMaxQ _ _ _) | exact quiet_more (sMaxQ _ _ _)))
                have bm : 0 ≤ max (max (x1 + s) 0) (max (x2 - g) (x3 - g)) ∧ max (max (x1 + s) 0) (max (x2 - g) (x3 - g)) ≤ 1000000 := by omega
                generalize max (max (x1 + s) 0) (max (x2 - g) (x3 - g)) = m3 at *
                have HM4 : Hid (lgRow bs (lg a b s d g (i + 1)) (k + 1) = max be m3) := by
                  show max (lgRow bs (lg a b s d g (i + 1)) k) (lg a b s d g (i + 1) (k + 1)) = max be m3
                  rw [← EBE.out, HM.out]
                clear w1 w1' w2 w3 w4
                go_wp2_with (first
                  | (go_at_call 59; refine (sMaxW _ _ _).mono ?_; rintro e w' ⟨rfl, rfl⟩)
                  | (at_builtin; refine wpList_int_push _ rfl (.tmp 84) (.tmp 86) _ rfl wo.heap.size 2 Try.underlying26 infoI5 _ (rowOf (lg a b s d g (i + 1)) (k + 1)) (by rfl) (HR.out.drewN _) _ rfl (by rw [rowOf_length]; omega) hs2 ?_; intro g' cap v3 hown hbl hat hgr))
                rw [rowOf_length] at hown ⊢
                first
                  | exact ⟨⟨k + 1, by omega, by go_num, by rw [HM4.out], by rw [rowOf_succ, HM.out]; exact hown, (below_draws hb2 _).trans hbl⟩, by simp [intOf]; omega⟩
                  | (refine ⟨?_, by simp [intOf]; omega⟩; (repeat apply Exists.intro); exact ⟨⟨k + 1, by omega, by go_num, by rw [HM4.out], by rw [rowOf_succ, HM.out]; exact hown, (below_draws hb2 _).trans hbl⟩, rfl⟩)
              · have q1 : (bt a i == bt b k) = false := by simp [hq]
                have hpg := Lib.hid (show pg (bt a i) (bt b k) s d = -d from if_neg hq)
                have HQ := Lib.hid hq; clear hq
                have w2 : IntKind.i64.wrap (x1 - d) = x1 - d := IntWalk.i64_in _ (by omega)
                have HM : Hid (lg a b s d g (i + 1) (k + 1) = max (max (x1 - d) 0) (max (x2 - g) (x3 - g))) := by
                  show _ = max (max (x1 - d) 0) (max (x2 - g) (x3 - g))
                  rw [hst.out, ← E1.out, ← E2.out, ← E3.out, hpg.out]; try omega
                go_wp2
                go_quiet (fail)
                go_wp2
                go_quiet ((go_at_call 59; first | exact Calls.quiet_of_same (sMaxQ _ _ _) | exact quiet_more (sMaxQ _ _ _)))
                have bm : 0 ≤ max (max (x1 - d) 0) (max (x2 - g) (x3 - g)) ∧ max (max (x1 - d) 0) (max (x2 - g) (x3 - g)) ≤ 1000000 := by omega
                generalize max (max (x1 - d) 0) (max (x2 - g) (x3 - g)) = m3 at *
                have HM4 : Hid (lgRow bs (lg a b s d g (i + 1)) (k + 1) = max be m3) := by
                  show max (lgRow bs (lg a b s d g (i + 1)) k) (lg a b s d g (i + 1) (k + 1)) = max be m3
                  rw [← EBE.out, HM.out]
                clear w1 w1' w2 w3 w4
                go_wp2_with (first
                  | (go_at_call 59; refine (sMaxW _ _ _).mono ?_; rintro e w' ⟨rfl, rfl⟩)
                  | (at_builtin; refine wpList_int_push _ rfl (.tmp 84) (.tmp 86) _ rfl wo.heap.size 2 Try.underlying26 infoI5 _ (rowOf (lg a b s d g (i + 1)) (k + 1)) (by rfl) (HR.out.drewN _) _ rfl (by rw [rowOf_length]; omega) hs2 ?_; intro g' cap v3 hown hbl hat hgr))
                rw [rowOf_length] at hown ⊢
                first
                  | exact ⟨⟨k + 1, by omega, by go_num, by rw [HM4.out], by rw [rowOf_succ, HM.out]; exact hown, (below_draws hb2 _).trans hbl⟩, by simp [intOf]; omega⟩
                  | (refine ⟨?_, by simp [intOf]; omega⟩; (repeat apply Exists.intro); exact ⟨⟨k + 1, by omega, by go_num, by rw [HM4.out], by rw [rowOf_succ, HM.out]; exact hown, (below_draws hb2 _).trans hbl⟩, rfl⟩)
            · obtain rfl : k = b.size := by omega
              have HC : Hid (RowC wr gr (lg a b s d g (i + 1)) (b.size + 1)) := fun j hj => hrs j _ (rowOf_get _ hj)
              clear hrs
              go_wp2
              exact ⟨⟨i + 1, gr, cr, by omega, by go_num, by rw [EBE.out, EBS.out]; rfl, rfl, by omega, hgr2, hcr, HC.out, hbel.trans (hb2.mono hbase)⟩, by simp [intOf]; omega⟩
        · obtain rfl : i = a.size := by omega
          go_wp2
          go_ret2
          exact ⟨by rw [hV.out, hB.out, ← EBS.out]; rfl, hbel⟩
    · have h3' : allIn [s, d, g] 0 1000 = false := by simpa using h3
      have hB := Lib.hid (show lgOk a b s d g = false by simp [lgOk, h3'])
      have hV := Lib.hid (show lgV a b s d g = 0 by simp [lgV, lgOk, h3'])
      go_enter Try.func33, Try.ntmps33
      go_wp2_with (first | (go_at_call 48; refine (sTwo_any _ _ (by assumption) (by assumption) _).mono ?_; rintro e w' ⟨rfl, rfl⟩) | (go_at_call 58; refine (sCosts_any (some ⟨w.heap.size, 0, none⟩) 3 3 [s, d, g] (w.heap.size + 1) _ (by have := (Row.new w 2 (iv [s, d, g])).sl; simp at this; exact this) (by omega)).mono ?_; rintro e w' ⟨rfl, rfl⟩))
      go_ret2
      exact ⟨by rw [hV.out, hB.out]; rfl, (Below.refl _ _).alloc (Nat.le_refl _) _⟩
  · have h12' : (txtB a && txtB b) = false := by simpa using h12
    have hB := Lib.hid (show lgOk a b s d g = false by simp only [lgOk, h12', Bool.false_and])
    have hV := Lib.hid (show lgV a b s d g = 0 by simp only [lgV, hB.out]; rfl)
    go_enter Try.func33, Try.ntmps33
    go_wp2_with (first | (go_at_call 48; refine (sTwo_any _ _ (by assumption) (by assumption) _).mono ?_; rintro e w' ⟨rfl, rfl⟩))
    go_ret2
    exact ⟨by rw [hV.out, hB.out]; rfl, Below.refl _ _⟩
end Go.Proofs.Ytdpaldiomijijaa
