/- LeastFit of the reference, whole. -/
import Derived.Test.YtchacfienafhlaaLfS3
namespace Go.Proofs.Ytchacfienafhlaa
open Go.RowKit
set_option linter.unusedVariables false
theorem lfF_lt {T S N : Nat} (hS : 0 < S) (x : List Int) : lfF T S N x < S := by
  have := rnW_bd (T := (T : Int)) hS (tb_bd hS (S * T) N) x
  unfold lfF; omega

set_option maxRecDepth 100000 in
set_option maxHeartbeats 8000000 in
theorem sLeast_any (T : Int) (A : Option Addr) (n c : Nat) (good : List (List Int)) (A' : Option Addr) (n' c' : Nat) (bad : List (List Int)) (w : World) (hg : SlL w w.heap.size A n good) (hb : SlL w w.heap.size A' n' bad) (hn : n ≤ 1048576) (hn' : n' ≤ 1048576) (hm : ∀ r ∈ good, r.length ≤ 4294967296) (hm' : ∀ r ∈ bad, r.length ≤ 4294967296) :
    Calls Try.prog 10 #[.int .i64 T, .slice A n c, .slice A' n' c'] w fun e w' => ∃ v', e = .returned (.tuple #[v', .bool (lfRes T good bad).isSome]) ∧ LfO w' w.heap.size v' T good bad ∧ Below w.heap.size w w' := by
  have W1 := Lib.hid (sIn_any T 1 2)
  have RR0 := Row.new w 30 [.int .i64 0, .int .i64 0, .slice none 0 0, .slice none 0 0]
  have BX0 : Below w.heap.size w (w.alloc (.cells ([.int .i64 0, .int .i64 0, .slice none 0 0, .slice none 0 0] : List Value).toArray 30)) := (Below.refl _ _).alloc (Nat.le_refl _) _
  obtain ⟨x0, hx0⟩ : ∃ x, x = w.alloc (.cells ([.int .i64 0, .int .i64 0, .slice none 0 0, .slice none 0 0] : List Value).toArray 30) := ⟨_, rfl⟩
  rw [← hx0] at RR0 BX0
  have RR := Lib.hid RR0; have BX := Lib.hid BX0
  have HG := Lib.hid hg; have HB := Lib.hid hb; have HM := Lib.hid hm; have HM' := Lib.hid hm'
  have elg := hg.len; have elb := hb.len
  clear RR0 BX0 hg hb hm hm'
  have HPD : Hid (lfPre T good bad = (inB T 1 2 && ((decide (good.length ≤ 24) && (good.all fun xs => wordB xs T)) && (decide (bad.length ≤ 24) && (bad.all fun xs => wordB xs T))))) := by
    show _ = _
    unfold lfPre
    cases inB T 1 2 <;> cases decide (good.length ≤ 24) <;> cases decide (bad.length ≤ 24) <;> cases (good.all fun xs => wordB xs T) <;> cases (bad.all fun xs => wordB xs T) <;> rfl
  have HRN : Hid (lfPre T good bad = false → lfRes T good bad = none) := fun h => by unfold lfRes; rw [h]; rfl
  go_enter Try.func10, Try.ntmps10
  go_upto_region 1 with fail
  rw [show (w.alloc (.cells #[.int .i64 0, .int .i64 0, .slice none 0 0, .slice none 0 0] 30)) = x0 from hx0.symm]
  clear hx0
  cases q1 : inB T 1 2 with
  | false =>
    rw [q1] at W1
    have HN : Hid (lfRes T good bad = none) := HRN.out (by rw [HPD.out, q1]; rfl)
    have k0 := RR.out.cell 0; have k1 := RR.out.cell 1; have k2 := RR.out.cell 2; have k3 := RR.out.cell 3
    have f0 := RR.out.frozen 0; have f1 := RR.out.frozen 1; have f2 := RR.out.frozen 2; have f3 := RR.out.frozen 3
    clear q1
    go_wp2_with (first | (go_at_call 42; refine (W1.out _).mono ?_; rintro e w' ⟨rfl, hw⟩; obtain rfl := hw; clear W1))
    clear k0 k1 k2 k3 f0 f1 f2 f3
    have hF := ((((RR.out.set_ 0 (.int .i64 0)).set_ 1 (.int .i64 0)).set_ 2 (.slice none 0 0)).set_ 3 (.slice none 0 0))
    refine bodyPost_ret (results_cell2 rfl _ _ w.heap.size 30 #[.int .i64 0, .int .i64 0, .slice none 0 0, .slice none 0 0] (0, 0) _ (.bool false) rfl rfl hF Try.underlying30 rfl (by kernel_rfl)) rfl ?_
    exact ⟨_, by rw [HN.out]; rfl, LfO_none HN.out, (((BX.out.setCell (p := ⟨w.heap.size, 0, none⟩) (Nat.le_refl _) _).setCell (p := ⟨w.heap.size, 1, none⟩) (Nat.le_refl _) _).setCell (p := ⟨w.heap.size, 2, none⟩) (Nat.le_refl _) _).setCell (p := ⟨w.heap.size, 3, none⟩) (Nat.le_refl _) _⟩
  | true =>
  rw [q1] at W1
  obtain ⟨t1, t2⟩ := inB_true q1
  have CG := sSamples_any A n c good T x0 ((HG.out.below BX.out (Nat.le_refl _)).more BX.out.size) (by omega) HM.out ⟨t1, by omega⟩
  obtain ⟨sg, hsg⟩ : ∃ b, b = (decide (good.length ≤ 24) && (good.all fun xs => wordB xs T)) := ⟨_, rfl⟩
  rw [← hsg] at CG
  have HSG := Lib.hid hsg; clear hsg
  cases sg with
  | false =>
    have HN : Hid (lfRes T good bad = none) := HRN.out (by rw [HPD.out, q1, ← HSG.out]; rfl)
    clear q1
    go_wp2_with (first | (go_at_call 42; refine (W1.out _).mono ?_; rintro e w' ⟨rfl, hw⟩; obtain rfl := hw; clear W1))
    refine CG.mono ?_; rintro e w1 ⟨rfl, hb1⟩
    have RR1 := Lib.hid (RR.out.below hb1 RR.out.lt)
    have BX1 : Hid (Below w.heap.size w w1) := BX.out.trans (hb1.mono BX.out.size)
    clear CG hb1
    have k0 := RR1.out.cell 0; have k1 := RR1.out.cell 1; have k2 := RR1.out.cell 2; have k3 := RR1.out.cell 3
    have f0 := RR1.out.frozen 0; have f1 := RR1.out.frozen 1; have f2 := RR1.out.frozen 2; have f3 := RR1.out.frozen 3
    go_wp2_with fail
    clear k0 k1 k2 k3 f0 f1 f2 f3
    have hF := ((((RR1.out.set_ 0 (.int .i64 0)).set_ 1 (.int .i64 0)).set_ 2 (.slice none 0 0)).set_ 3 (.slice none 0 0))
    refine bodyPost_ret (results_cell2 rfl _ _ w.heap.size 30 #[.int .i64 0, .int .i64 0, .slice none 0 0, .slice none 0 0] (0, 0) _ (.bool false) rfl rfl hF Try.underlying30 rfl (by kernel_rfl)) rfl ?_
    exact ⟨_, by rw [HN.out]; rfl, LfO_none HN.out, (((BX1.out.setCell (p := ⟨w.heap.size, 0, none⟩) (Nat.le_refl _) _).setCell (p := ⟨w.heap.size, 1, none⟩) (Nat.le_refl _) _).setCell (p := ⟨w.heap.size, 2, none⟩) (Nat.le_refl _) _).setCell (p := ⟨w.heap.size, 3, none⟩) (Nat.le_refl _) _⟩
  | true =>
  go_wp2_with (first | (go_at_call 42; refine (W1.out _).mono ?_; rintro e w' ⟨rfl, hw⟩; obtain rfl := hw; clear W1))
  refine CG.mono ?_; rintro e w1 ⟨rfl, hb1⟩
  have RR1 := Lib.hid (RR.out.below hb1 RR.out.lt)
  have BX1 : Hid (Below w.heap.size w w1) := BX.out.trans (hb1.mono BX.out.size)
  clear CG hb1 RR BX
  have CB := sSamples_any A' n' c' bad T w1 ((HB.out.below BX1.out (Nat.le_refl _)).more BX1.out.size) (by omega) HM'.out ⟨t1, by omega⟩
  obtain ⟨sb, hsb⟩ : ∃ b, b = (decide (bad.length ≤ 24) && (bad.all fun xs => wordB xs T)) := ⟨_, rfl⟩
  rw [← hsb] at CB
  have HSB := Lib.hid hsb; clear hsb
  cases sb with
  | false =>
    have HN : Hid (lfRes T good bad = none) := HRN.out (by rw [HPD.out, q1, ← HSG.out, ← HSB.out]; rfl)
    clear q1
    go_wp2_with fail
    refine CB.mono ?_; rintro e w2 ⟨rfl, hb1⟩
    have RR2 := Lib.hid (RR1.out.below hb1 RR1.out.lt)
    have BX2 : Hid (Below w.heap.size w w2) := BX1.out.trans (hb1.mono BX1.out.size)
    clear CB hb1
    have k0 := RR2.out.cell 0; have k1 := RR2.out.cell 1; have k2 := RR2.out.cell 2; have k3 := RR2.out.cell 3
    have f0 := RR2.out.frozen 0; have f1 := RR2.out.frozen 1; have f2 := RR2.out.frozen 2; have f3 := RR2.out.frozen 3
    go_wp2_with fail
    clear k0 k1 k2 k3 f0 f1 f2 f3
    have hF := ((((RR2.out.set_ 0 (.int .i64 0)).set_ 1 (.int .i64 0)).set_ 2 (.slice none 0 0)).set_ 3 (.slice none 0 0))
    refine bodyPost_ret (results_cell2 rfl _ _ w.heap.size 30 #[.int .i64 0, .int .i64 0, .slice none 0 0, .slice none 0 0] (0, 0) _ (.bool false) rfl rfl hF Try.underlying30 rfl (by kernel_rfl)) rfl ?_
    exact ⟨_, by rw [HN.out]; rfl, LfO_none HN.out, (((BX2.out.setCell (p := ⟨w.heap.size, 0, none⟩) (Nat.le_refl _) _).setCell (p := ⟨w.heap.size, 1, none⟩) (Nat.le_refl _) _).setCell (p := ⟨w.heap.size, 2, none⟩) (Nat.le_refl _) _).setCell (p := ⟨w.heap.size, 3, none⟩) (Nat.le_refl _) _⟩
  | true =>
  go_wp2_with fail
  refine CB.mono ?_; rintro e w2 ⟨rfl, hb1⟩
  have RR2 := Lib.hid (RR1.out.below hb1 RR1.out.lt)
  have BX2 : Hid (Below w.heap.size w w2) := BX1.out.trans (hb1.mono BX1.out.size)
  clear CB hb1 RR1 BX1
  obtain ⟨tN, rfl⟩ : ∃ k : Nat, T = (k : Int) := ⟨T.toNat, by omega⟩
  have HPRE : Hid (lfPre (tN : Int) good bad = true) := by show _ = _; rw [HPD.out, q1, ← HSG.out, ← HSB.out]; rfl
  have HRF : Hid (lfRes (tN : Int) good bad = lfFind tN good bad) := by show _ = _; unfold lfRes; rw [HPRE.out, if_pos rfl, Int.toNat_natCast]
  obtain ⟨_, h24, h24', q4, q5⟩ := lfPre_true HPRE.out
  have HWG := Lib.hid (words_ok q4); have HWB := Lib.hid (words_ok q5)
  have ht1 : 1 ≤ tN := by omega
  have ht2 : tN ≤ 2 := by omega
  have hn24 : n ≤ 24 := by omega
  have hn24' : n' ≤ 24 := by omega
  clear q1 q4 q5 t1 t2 HRN HPD HPRE h24 h24'
  go_wp2_with fail
  go_loopg [8] 4 (fun q s wr => ∃ S : Nat, s = .int .i64 S ∧ 1 ≤ S ∧ S ≤ 4 ∧ 4 ≤ q + S ∧ Hid (∀ R, 1 ≤ R → R < S → lfM tN good bad R = none) ∧ Hid (Row wr w.heap.size 30 [.int .i64 0, .int .i64 0, .slice none 0 0, .slice none 0 0]) ∧ Hid (Below w.heap.size w wr))
  case atStart => exact ⟨1, rfl, by omega, by omega, by omega, fun R h1 h2 => by omega, RR2.out, BX2.out⟩
  case round =>
    clear RR2 BX2
    obtain ⟨S, rfl, hS1, hS4, hq, HNO, RR, BX⟩ := hrel
    obtain ⟨wo, rfl⟩ : ∃ x : World, x = wr := ⟨_, rfl⟩
    obtain ⟨go, hgo⟩ : ∃ g : Nat, g = gk := ⟨_, rfl⟩
    by_cases hlt : S ≤ 3
    · have q1 : (S : Int) ≤ 3 := by omega
      have q1' : (1 : Int) ≤ (S : Int) := by omega
      obtain ⟨m, hm⟩ : ∃ m, m = S * tN := ⟨_, rfl⟩
      have hm6 : m ≤ 6 := by rw [hm]; exact Nat.mul_le_mul hlt ht2
      have hmi : (m : Int) = (S : Int) * (tN : Int) := by rw [hm]; simp
      have CN := sNumber_any S tN m hm ⟨hS1, hlt⟩ hm6 ht2 wo
      have hpw := pow_729 ⟨(by omega : 0 < S), hlt⟩ hm6
      have h2p : 2 ^ S ≤ 8 := Nat.le_trans (Nat.pow_le_pow_right (by omega) hlt) (by decide)
      have hNN : S ^ m * 2 ^ S ≤ 5832 := Nat.le_trans (Nat.mul_le_mul hpw h2p) (by decide)
      obtain ⟨K, hK⟩ : ∃ K, K = S ^ m * 2 ^ S := ⟨_, rfl⟩
      rw [← hK] at CN hNN
      have CM := Lib.hid (fun (k : Nat) (h : k < 5832) (x : World) => sMachine_any S tN m k hm ⟨hS1, hlt⟩ hm6 ht2 h x)
      have HMM := Lib.hid hm; have HK := Lib.hid hK; have HMI := Lib.hid hmi
      clear hm hK hpw h2p hmi
      go_wp2_with fail
      refine CN.mono ?_; rintro e w3 ⟨rfl, hw⟩; obtain rfl := hw
      clear CN
      go_wp2_with fail
      go_loopg [10] K (fun q nn wr => ∃ k : Nat, nn = .int .i64 (k : Int) ∧ k ≤ K ∧ K ≤ q + k ∧ Hid (∀ j, j < k → fitE (lfF tN S (j / 2 ^ S)) (eb S j) good bad = false) ∧ Hid (Row wr w.heap.size 30 [.int .i64 0, .int .i64 0, .slice none 0 0, .slice none 0 0]) ∧ Hid (Below w.heap.size w wr))
      case atStart => exact ⟨0, rfl, by omega, by omega, fun j h => by omega, RR.out, BX.out⟩
      case round =>
        clear RR BX
        obtain ⟨k, rfl, hk, hqk, HNF, RR, BX⟩ := hrel
        obtain ⟨wi, rfl⟩ : ∃ x : World, x = wr := ⟨_, rfl⟩
        have hzx := RR.out.lt
        by_cases hkl : k < K
        · have q2 : (k : Int) < (K : Int) := by omega
          have CMx := CM.out k (by omega) wi
          go_wp2_with fail
          refine CMx.mono ?_
          rintro e w4 ⟨g2, g3, rfl, hr2, hr3, hne, hb2, hb3, hb4⟩
          have R2 := Lib.hid hr2; have R3 := Lib.hid hr3
          have RR4 := Lib.hid (RR.out.below hb4 hzx)
          have BX4 : Hid (Below w.heap.size w w4) := BX.out.trans (hb4.mono BX.out.size)
          have hsz4 := hb4.size
          clear CMx hr2 hr3 hb4
          obtain ⟨N, hN⟩ : ∃ N, N = k / 2 ^ S := ⟨_, rfl⟩
          rw [← hN] at R2
          have HNN := Lib.hid hN; clear hN
          have RB := Row.new w4 30 (BxP (S : Int) (tN : Int) (some ⟨g2, 0, none⟩) m m (some ⟨g3, 0, none⟩) S S)
          have bB : Below w4.heap.size w4 (w4.alloc (.cells (BxP (S : Int) (tN : Int) (some ⟨g2, 0, none⟩) m m (some ⟨g3, 0, none⟩) S S).toArray 30)) := (Below.refl _ _).alloc (Nat.le_refl _) _
          obtain ⟨wb, hwb⟩ : ∃ x, x = w4.alloc (.cells (BxP (S : Int) (tN : Int) (some ⟨g2, 0, none⟩) m m (some ⟨g3, 0, none⟩) S S).toArray 30) := ⟨_, rfl⟩
          rw [← hwb] at RB bB
          have R2b := Lib.hid (R2.out.below bB R2.out.lt); have R3b := Lib.hid (R3.out.below bB R3.out.lt); have RRb := Lib.hid (RR4.out.below bB RR4.out.lt)
          have BXb : Hid (Below w.heap.size w wb) := BX4.out.trans (bB.mono BX4.out.size)
          have HS2 : Hid (SlI wb wb.heap.size (some ⟨g2, 0, none⟩) m (tb S m N)) := by
            have := R2b.out.sl
            rw [iv_length, tb_len] at this
            exact this
          have HS3 : Hid (SlB wb wb.heap.size (some ⟨g3, 0, none⟩) S (eb S k)) := by
            have := R3b.out.sl
            rw [bv_length, eb_len] at this
            exact this
          have CF := Lib.hid (sFits_any w4.heap.size S (tN : Int) (some ⟨g2, 0, none⟩) m m (some ⟨g3, 0, none⟩) S (tb S m N) (eb S k) A n c good A' n' c' bad wb RB HS2.out HS3.out ((HG.out.below BXb.out (Nat.le_refl _)).more BXb.out.size) ((HB.out.below BXb.out (Nat.le_refl _)).more BXb.out.size) ⟨by omega, hlt⟩ ⟨by omega, by omega⟩ HMI.out (tb_bd (by omega) _ _) HWG.out HWB.out (by omega) (by omega))
          have HFF : Hid ((fun x => (rnW (tb S m N) (tN : Int) x).toNat) = lfF tN S N) := by show _ = _; rw [HMM.out]; rfl
          have HWB4 := Lib.hid hwb; have HRB := Lib.hid RB
          clear hwb RB bB R2 R3 RR4 HS2 HS3
          go_wp2_with fail
          change Calls _ _ _ (w4.alloc (.cells (BxP (S : Int) (tN : Int) (some ⟨g2, 0, none⟩) m m (some ⟨g3, 0, none⟩) S S).toArray 30)) _
          rw [← HWB4.out]
          refine CF.out.mono ?_
          rintro e w5 ⟨rfl, hb5⟩
          rw [HFF.out]
          have R25 := Lib.hid (R2b.out.below hb5 R2b.out.lt); have R35 := Lib.hid (R3b.out.below hb5 R3b.out.lt); have RR5 := Lib.hid (RRb.out.below hb5 RRb.out.lt); have RB5 := Lib.hid (HRB.out.below hb5 HRB.out.lt)
          have BX5 : Hid (Below w.heap.size w w5) := BXb.out.trans (hb5.mono BXb.out.size)
          clear hb5 CF R2b R3b RRb HRB HWB4 HFF
          cases hfit : fitE (lfF tN S N) (eb S k) good bad with
          | true =>
            have hrs := ref_some (f := lfF tN S) (S := S) (good := good) (bad := bad) (n := k) (fun N x _ => lfF_lt (by omega) x) (by rw [← HNN.out]; exact hfit) HNF.out
            rw [← HNN.out] at hrs
            have hNl : N < S ^ m := by
              rw [HNN.out]
              rw [HK.out, Nat.mul_comm] at hkl
              exact Nat.div_lt_of_lt_mul hkl
            have HFI : Hid (lfRes (tN : Int) good bad = some (S, N)) := by
              show _ = _
              rw [HRF.out]
              refine lfFind_some hS1 hlt HNO.out ?_
              unfold lfM
              rw [← HMM.out]
              exact lfN_some hNl hrs.1 hrs.2.2
            have HEB := Lib.hid hrs.2.1
            have k0 := RB5.out.cell 0; have k1 := RB5.out.cell 1; have k2 := RB5.out.cell 2; have k3 := RB5.out.cell 3
            have s0 := RR5.out.cell 0; have s1 := RR5.out.cell 1; have s2 := RR5.out.cell 2; have s3 := RR5.out.cell 3
            have f0 := RR5.out.frozen 0; have f1 := RR5.out.frozen 1; have f2 := RR5.out.frozen 2; have f3 := RR5.out.frozen 3
            clear hfit hrs hNl
            go_wp2_with fail
            clear k0 k1 k2 k3 s0 s1 s2 s3 f0 f1 f2 f3
            have hF := ((((RR5.out.set_ 0 (.int .i64 (S : Int))).set_ 1 (.int .i64 (tN : Int))).set_ 2 (.slice (some ⟨g2, 0, none⟩) m m)).set_ 3 (.slice (some ⟨g3, 0, none⟩) S S))
            refine bodyPost_ret (results_cell2 rfl _ _ w.heap.size 30 #[.int .i64 (S : Int), .int .i64 (tN : Int), .slice (some ⟨g2, 0, none⟩) m m, .slice (some ⟨g3, 0, none⟩) S S] (0, 0) _ (.bool true) rfl rfl hF Try.underlying30 rfl (by kernel_rfl)) rfl ?_
            refine ⟨_, by rw [HFI.out]; rfl, LfO_some HFI.out HMM.out ((heap_set4L _ _ _ _ _ _ _ (by omega)).trans R25.out) ((heap_set4L _ _ _ _ _ _ _ (by omega)).trans (by rw [HEB.out]; exact R35.out)) hne (by omega) (by omega) ⟨hlt, hm6⟩, ?_⟩
            exact (((BX5.out.setCell (p := ⟨w.heap.size, 0, none⟩) (Nat.le_refl _) _).setCell (p := ⟨w.heap.size, 1, none⟩) (Nat.le_refl _) _).setCell (p := ⟨w.heap.size, 2, none⟩) (Nat.le_refl _) _).setCell (p := ⟨w.heap.size, 3, none⟩) (Nat.le_refl _) _
          | false =>
            have HNF2 : Hid (∀ j, j < k + 1 → fitE (lfF tN S (j / 2 ^ S)) (eb S j) good bad = false) := fun j h => by
              rcases Nat.lt_or_ge j k with h1 | h1
              · exact HNF.out j h1
              · obtain rfl : j = k := by omega
                rw [← HNN.out]; exact hfit
            clear hfit
            go_wp2_with fail
            go_roundg (gk - 1)
            case measure => omega
            case rel => exact ⟨k + 1, by go_num, by omega, by omega, HNF2.out, RR5.out, BX5.out⟩
        · have q2 : (K : Int) ≤ (k : Int) := by omega
          have hkk : k = S ^ m * 2 ^ S := by rw [← HK.out]; omega
          have HNO2 : Hid (∀ R, 1 ≤ R → R < S + 1 → lfM tN good bad R = none) := fun R h1 h2 => by
            rcases Nat.lt_or_ge R S with h3 | h3
            · exact HNO.out R h1 h3
            · obtain rfl : R = S := by omega
              unfold lfM
              rw [← HMM.out]
              exact lfN_none (ref_none (f := lfF tN R) (S := R) (fun N x _ => lfF_lt (by omega) x) (by rw [← hkk]; exact HNF.out))
          clear hkk
          go_wp2_with fail
          go_roundg (go - 1)
          case measure => omega
          case rel => exact ⟨S + 1, by go_num, by omega, by omega, by omega, HNO2.out, RR.out, BX.out⟩
    · have hS : S = 4 := by omega
      have q1 : (3 : Int) < (S : Int) := by omega
      have HN : Hid (lfRes (tN : Int) good bad = none) := by
        show _ = _
        rw [HRF.out]
        exact lfFind_none (fun R h1 h2 => HNO.out R h1 (by omega))
      clear hS
      have k0 := RR.out.cell 0; have k1 := RR.out.cell 1; have k2 := RR.out.cell 2; have k3 := RR.out.cell 3
      have f0 := RR.out.frozen 0; have f1 := RR.out.frozen 1; have f2 := RR.out.frozen 2; have f3 := RR.out.frozen 3
      go_wp2_with fail
      clear k0 k1 k2 k3 f0 f1 f2 f3
      have hF := ((((RR.out.set_ 0 (.int .i64 0)).set_ 1 (.int .i64 0)).set_ 2 (.slice none 0 0)).set_ 3 (.slice none 0 0))
      refine bodyPost_ret (results_cell2 rfl _ _ w.heap.size 30 #[.int .i64 0, .int .i64 0, .slice none 0 0, .slice none 0 0] (0, 0) _ (.bool false) rfl rfl hF Try.underlying30 rfl (by kernel_rfl)) rfl ?_
      exact ⟨_, by rw [HN.out]; rfl, LfO_none HN.out, (((BX.out.setCell (p := ⟨w.heap.size, 0, none⟩) (Nat.le_refl _) _).setCell (p := ⟨w.heap.size, 1, none⟩) (Nat.le_refl _) _).setCell (p := ⟨w.heap.size, 2, none⟩) (Nat.le_refl _) _).setCell (p := ⟨w.heap.size, 3, none⟩) (Nat.le_refl _) _⟩
end Go.Proofs.Ytchacfienafhlaa
