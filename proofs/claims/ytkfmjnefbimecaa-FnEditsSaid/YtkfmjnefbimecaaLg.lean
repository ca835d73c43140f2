/- Best parts: the program. -/
import Derived.Test.YtkfmjnefbimecaaMga
import Derived.Test.YtkfmjnefbimecaaTab
import Derived.Test.YtkfmjnefbimecaaMgg
import Derived.Deep.QuietTactic
import Derived.BigQuiet

namespace Go.Proofs.Ytkfmjnefbimecaa
open Go.RowKit Go.PlainAid
set_option linter.unusedVariables false
theorem infoI5 : (Try.prog.info? 2).map (fun i => (i.zero, i.size, i.bytes)) = some (some (.int .i64 0), 1, 8) := by kernel_rfl
theorem iPair_any (x y s d : Int) (hd : 0 ≤ d ∧ d ≤ 1000) (w : World) :
    Calls Try.prog 89 #[.int .u8 x, .int .u8 y, .int .i64 s, .int .i64 d] w fun e w' => e = .returned (.int .i64 (pg x y s d)) ∧ w' = w := by
  by_cases h : x = y
  · have h1 : (x == y) = true := by simp [h]
    have H := Lib.hid h; clear h
    go_enter Try.func89, Try.ntmps89
    go_wp2
    go_ret
    exact ⟨ret_int (if_pos H.out).symm, rfl⟩
  · have h1 : (x == y) = false := by simp [h]
    have H := Lib.hid h; clear h
    go_enter Try.func89, Try.ntmps89
    go_wp2
    go_ret
    exact ⟨ret_int (if_neg H.out).symm, rfl⟩
theorem run_max4 {P : Program} (w : World) (ats : Array TypeId) (ty : TypeId) (k : IntKind) (a b c d : Int) :
    (Builtin.max_ ats ty #[.int k a, .int k b, .int k c, .int k d]).run P w = .ok (.int k (max (max (max a b) c) d)) w := by
  have h : ∀ x y : Int, (if x < y then y else x) = max x y := fun x y => by split <;> omega
  simp [Builtin.max_, Builtin.max2, h]
attribute [local go_sem] run_max4
def lgOk (a b : ByteArray) (s d g : Int) : Bool := txtB a && txtB b && allIn [s, d, g] 0 1000
def lgV (a b : ByteArray) (s d g : Int) : Int := if lgOk a b s d g then lgB a b s d g b.size a.size else 0
theorem lgc3 {p o c : Int} (h : allIn [p, o, c] 0 1000 = true) : (0 ≤ p ∧ p ≤ 1000) ∧ (0 ≤ o ∧ o ≤ 1000) ∧ (0 ≤ c ∧ c ≤ 1000) := by
  simp only [allIn, List.all_cons, List.all_nil, Bool.and_true, Bool.and_eq_true] at h
  exact ⟨inB_true h.1, inB_true h.2.1, inB_true h.2.2⟩

set_option maxRecDepth 100000 in
set_option maxHeartbeats 4000000 in
theorem iLocal_any (a b : ByteArray) (s d g : Int) (wa : a.size ≤ maxLen) (wb : b.size ≤ maxLen) (w : World) :
    Calls Try.prog 38 #[.string a, .string b, .int .i64 s, .int .i64 d, .int .i64 g] w fun e w' => e = .returned (.tuple #[.int .i64 (lgV a b s d g), .bool (lgOk a b s d g)]) ∧ Below w.heap.size w w' := by
  by_cases h1 : txtB a = true
  · by_cases h2 : txtB b = true
    · by_cases h3 : allIn [s, d, g] 0 1000 = true
      · have hB := Lib.hid (show lgOk a b s d g = true by simp [lgOk, h1, h2, h3])
        have hV := Lib.hid (show lgV a b s d g = lgB a b s d g b.size a.size by simp [lgV, lgOk, h1, h2, h3])
        have ha := txtB_true h1
        have hb := txtB_true h2
        obtain ⟨hs, hd, hg⟩ := lgc3 h3
        have hmk := run_make_row' (P := Try.prog) 26 2 (.int .i64 0) 8 Try.underlying26 infoI5 rfl .i64 .i64 (b.size + 1) (by omega) (by omega)
        rw [show ((b.size + 1 : Nat) : Int) = (b.size : Int) + 1 from by omega] at hmk
        go_enter Try.func38, Try.ntmps38
        go_wp2_with (first | (go_at_call 79; refine (iIsText_any _ (by assumption) _).mono ?_; rintro e w' ⟨rfl, rfl⟩) | (go_at_call 80; refine (iCosts_any (some ⟨w.heap.size, 0, none⟩) 3 3 [s, d, g] (w.heap.size + 1) _ (by have := (Row.new w 2 (iv [s, d, g])).sl; simp at this; exact this) (by omega)).mono ?_; rintro e w' ⟨rfl, rfl⟩))
        have hrow := Row.made (w.alloc (.cells #[.int .i64 s, .int .i64 d, .int .i64 g] 2)) (.int .i64 0) (b.size + 1) 2
        have hbel0 := ((Below.refl w.heap.size w).alloc (Nat.le_refl _) (.cells #[.int .i64 s, .int .i64 d, .int .i64 g] 2)).alloc (by simp) (.cells (madeCells #[.int .i64 0] (b.size + 1)) 2)
        go_loopw [12, 13, 39] (fun be ab i wr => ∃ (k ga : Nat), k ≤ a.size ∧ i = .int .i64 k ∧ be = .int .i64 (lgB a b s d g b.size k) ∧ ab = .slice (some ⟨ga, 0, none⟩) (b.size + 1) (b.size + 1) ∧ w.heap.size ≤ ga ∧ Row wr ga 2 (iv (rowOf (lg a b s d g k) (b.size + 1))) ∧ Below w.heap.size w wr) (fun be ab i wr => a.size - (intOf i).toNat)
        case atStart =>
          refine ⟨0, w.heap.size + 1, by omega, rfl, rfl, by simp, by omega, ?_, hbel0⟩
          have e : iv (rowOf (lg a b s d g 0) (b.size + 1)) = List.replicate (b.size + 1) (.int .i64 0) := by
            simp only [iv, rowOf, List.map_map]
            rw [List.eq_replicate_iff]
            exact ⟨by simp, fun x hx => by simp at hx; obtain ⟨y, _, rfl⟩ := hx; rfl⟩
          rw [e]
          simpa using hrow
        case round =>
          obtain ⟨i, ga, hi, rfl, rfl, rfl, hga, hrow, hbel⟩ := hrel
          have HP := Lib.hid hrow; clear hrow
          obtain ⟨wo, rfl⟩ : ∃ wo : World, wo = wr := ⟨_, rfl⟩
          have hbb := lgB_bd a b hs hd hg.1 b.size a.size i hi
          obtain ⟨bs, ebs⟩ : ∃ x, x = lgB a b s d g b.size i := ⟨_, rfl⟩
          rw [← ebs] at hbb ⊢
          have EBS := Lib.hid ebs; clear ebs
          by_cases hlt : i < a.size
          · have hdi : decide ((i : Int) < (a.size : Int)) = true := decide_eq_true (by omega)
            go_wp2
            clear hmk
            have hgl : ga < wo.heap.size := HP.out.lt
            have hbase : w.heap.size ≤ wo.heap.size := hbel.size
            have hrow0 := Row.made wo (.int .i64 0) (b.size + 1) 2
            go_loopw [12, 48] (fun be kk wr => ∃ k : Nat, k ≤ b.size ∧ kk = .int .i64 k ∧ be = .int .i64 (lgRow bs (lg a b s d g (i + 1)) k) ∧ Row wr wo.heap.size 2 (fill (iv (rowOf (lg a b s d g (i + 1)) (k + 1))) (b.size + 1) (.int .i64 0)) ∧ Below wo.heap.size wo wr) (fun be kk wr => b.size - (intOf kk).toNat)
            case atStart => exact ⟨0, by omega, rfl, rfl, by rw [rowOf_one (lg_col0 a b s d g (i + 1)), fill_one]; exact hrow0, (Below.refl _ _).alloc (Nat.le_refl _) _⟩
            case round =>
              obtain ⟨k, hk, rfl, rfl, hr, hb2⟩ := hrel
              have HR := Lib.hid hr; clear hr hrow0
              have hrb := lgRow_bd (row := lg a b s d g (i + 1)) hbb k (fun j hj => by have := lg_bd a b hs hd hg.1 (i + 1) j; omega)
              obtain ⟨be, ebe⟩ : ∃ x, x = lgRow bs (lg a b s d g (i + 1)) k := ⟨_, rfl⟩
              rw [← ebe] at hrb ⊢
              have EBE := Lib.hid ebe; clear ebe
              by_cases hkl : k < b.size
              · have hc0 := row_zero HR.out (show k + 1 < b.size + 1 by omega)
                have hf0 := HR.out.frozen (k + 1)
                have hcell : ∀ j, j < b.size + 1 → wo.cell? ⟨ga, j, none⟩ = some (.int .i64 (lg a b s d g i j)) := fun j hj => by
                  rw [HP.out.cell]; simp [iv, rowOf_get _ hj]
                have hx1 := (hb2.cell (p := ⟨ga, k, none⟩) hgl).trans (hcell k (by omega))
                have hx2 := (hb2.cell (p := ⟨ga, k + 1, none⟩) hgl).trans (hcell (k + 1) (by omega))
                have hx3 := row_prev HR.out (Nat.lt_succ_self k)
                clear hcell
                have hst := Lib.hid (lg_step a b s d g i k)
                have b1 := lg_bd a b hs hd hg.1 i k
                have b2 := lg_bd a b hs hd hg.1 i (k + 1)
                have b3 := lg_bd a b hs hd hg.1 (i + 1) k
                have b4 := pg_bd (x := bt a i) (y := bt b k) hs hd
                obtain ⟨x1, e1⟩ : ∃ x, x = lg a b s d g i k := ⟨_, rfl⟩
                obtain ⟨x2, e2⟩ : ∃ x, x = lg a b s d g i (k + 1) := ⟨_, rfl⟩
                obtain ⟨x3, e3⟩ : ∃ x, x = lg a b s d g (i + 1) k := ⟨_, rfl⟩
                rw [← e1] at hx1 b1
                rw [← e2] at hx2 b2
                rw [← e3] at hx3 b3
                have E1 := Lib.hid e1; have E2 := Lib.hid e2; have E3 := Lib.hid e3
                clear e1 e2 e3
                have hba := get_bt a
                have hbb2 := get_bt b
                have l1 : (0 : Int) ≤ (i : Int) := by omega
                have l2 : (i : Int) < (a.size : Int) := by omega
                have l3 : (0 : Int) ≤ (k : Int) := by omega
                have l4 : (k : Int) < (b.size : Int) := by omega
                have l4' : (k : Int) < (b.size : Int) + 1 := by omega
                have l5 : (0 : Int) ≤ (k : Int) + 1 := by omega
                have l6 : (k : Int) + 1 < (b.size : Int) + 1 := by omega
                have n1 : ((k : Int) + 1).toNat = k + 1 := by omega
                have w1 : IntKind.i64.wrap ((k : Int) + 1) = (k : Int) + 1 := IntWalk.i64_in _ (by omega)
                have w2 : IntKind.i64.wrap (x1 + pg (bt a i) (bt b k) s d) = x1 + pg (bt a i) (bt b k) s d := IntWalk.i64_in _ (by omega)
                have w3 : IntKind.i64.wrap (x2 - g) = x2 - g := IntWalk.i64_in _ (by omega)
                have w4 : IntKind.i64.wrap (x3 - g) = x3 - g := IntWalk.i64_in _ (by omega)
                obtain ⟨m3, hm3⟩ : ∃ m, max 0 (max (x1 + pg (bt a i) (bt b k) s d) (max (x2 - g) (x3 - g))) = m := ⟨_, rfl⟩
                obtain ⟨m4, hm4⟩ : ∃ m, (if be < m3 then m3 else be) = m := ⟨_, rfl⟩
                have HM : Hid (lg a b s d g (i + 1) (k + 1) = m3) := by
                  show _ = m3
                  rw [hst.out, ← E1.out, ← E2.out, ← E3.out, ← hm3]
                  omega
                have HM4 : Hid (lgRow bs (lg a b s d g (i + 1)) (k + 1) = m4) := by
                  show max (lgRow bs (lg a b s d g (i + 1)) k) (lg a b s d g (i + 1) (k + 1)) = m4
                  rw [← EBE.out, HM.out, ← hm4]
                  split <;> omega
                go_wp2
                refine wp_tail 32 (by kernel_rfl) (by kernel_rfl) (fun v2 hv2 => ?_)
                have g1 : v2.cell? ⟨ga, k, none⟩ = some (.int .i64 x1) := by rw [hv2]; exact hx1
                have g2 : v2.cell? ⟨ga, k + 1, none⟩ = some (.int .i64 x2) := by rw [hv2]; exact hx2
                have g3 : v2.cell? ⟨wo.heap.size, k, none⟩ = some (.int .i64 x3) := by rw [hv2]; exact hx3
                have g4 : v2.cell? ⟨wo.heap.size, k + 1, none⟩ = some (.int .i64 0) := by rw [hv2]; exact hc0
                have g5 : v2.frozen? ⟨wo.heap.size, k + 1, none⟩ = false := by rw [hv2]; exact hf0
                have HRv : Hid (Row v2 wo.heap.size 2 (fill (iv (rowOf (lg a b s d g (i + 1)) (k + 1))) (b.size + 1) (.int .i64 0))) := by rw [hv2]; exact HR.out
                have hBv : Hid (Below wo.heap.size wo v2) := by rw [hv2]; exact below_draws hb2 _
                clear hv2
                simp only [List.take_succ_cons, List.take_zero, List.drop_succ_cons, List.drop_zero]
                repeat (first | still_step | still_call (iPair_any _ _ _ _ hd _))
                refine wpStill_nil ?_
                clear hm3
                go_wp2
                exact ⟨⟨k + 1, by omega, by go_num, by rw [HM4.out], row_step HRv.out (by omega) HM.out, hBv.out.setCell (Nat.le_refl _) _⟩, by simp [intOf]; omega⟩
              · obtain rfl : k = b.size := by omega
                go_wp2
                have hR := HR.out
                rw [fill_full (by rw [iv_length, rowOf_length])] at hR
                exact ⟨⟨i + 1, wo.heap.size, by omega, by go_num, by rw [EBE.out, EBS.out]; rfl, rfl, hbase, hR, hbel.trans (hb2.mono hbase)⟩, by simp [intOf]; omega⟩
          · obtain rfl : i = a.size := by omega
            clear hmk
            go_wp2
            go_ret2
            exact ⟨by rw [hV.out, hB.out, ← EBS.out]; rfl, hbel⟩
      · have h3' : allIn [s, d, g] 0 1000 = false := by simpa using h3
        have hB := Lib.hid (show lgOk a b s d g = false by simp [lgOk, h3'])
        have hV := Lib.hid (show lgV a b s d g = 0 by simp [lgV, lgOk, h3'])
        go_enter Try.func38, Try.ntmps38
        go_wp2_with (first | (go_at_call 79; refine (iIsText_any _ (by assumption) _).mono ?_; rintro e w' ⟨rfl, rfl⟩) | (go_at_call 80; refine (iCosts_any (some ⟨w.heap.size, 0, none⟩) 3 3 [s, d, g] (w.heap.size + 1) _ (by have := (Row.new w 2 (iv [s, d, g])).sl; simp at this; exact this) (by omega)).mono ?_; rintro e w' ⟨rfl, rfl⟩))
        go_ret2
        exact ⟨by rw [hV.out, hB.out]; rfl, (Below.refl _ _).alloc (Nat.le_refl _) _⟩
    · have h2' : txtB b = false := by simpa using h2
      have hB := Lib.hid (show lgOk a b s d g = false by simp [lgOk, h2'])
      have hV := Lib.hid (show lgV a b s d g = 0 by simp [lgV, lgOk, h2'])
      go_enter Try.func38, Try.ntmps38
      go_wp2_with (first | (go_at_call 79; refine (iIsText_any _ (by assumption) _).mono ?_; rintro e w' ⟨rfl, rfl⟩))
      go_ret2
      exact ⟨by rw [hV.out, hB.out]; rfl, Below.refl _ _⟩
  · have h1' : txtB a = false := by simpa using h1
    have hB := Lib.hid (show lgOk a b s d g = false by simp [lgOk, h1'])
    have hV := Lib.hid (show lgV a b s d g = 0 by simp [lgV, lgOk, h1'])
    go_enter Try.func38, Try.ntmps38
    go_wp2_with (first | (go_at_call 79; refine (iIsText_any _ (by assumption) _).mono ?_; rintro e w' ⟨rfl, rfl⟩))
    go_ret2
    exact ⟨by rw [hV.out, hB.out]; rfl, Below.refl _ _⟩
end Go.Proofs.Ytkfmjnefbimecaa
