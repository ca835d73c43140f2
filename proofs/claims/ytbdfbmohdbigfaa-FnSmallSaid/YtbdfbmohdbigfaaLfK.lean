/- LeastFit of the program, whole. -/
import Derived.Test.YtbdfbmohdbigfaaLfJ
import Derived.Test.YtbdfbmohdbigfaaMgv

namespace Go.Proofs.Ytbdfbmohdbigfaa
open Go.RowKit
set_option linter.unusedVariables false
/-- How a table with a number runs. -/
def lfF (T : Nat) (S N : Nat) (x : List Int) : Nat := (rnW (tb S (S * T) N) (T : Int) x).toNat
def lfM (T : Nat) (good bad : List (List Int)) (S : Nat) : Option Nat := lfN (lfF T) S (S ^ (S * T)) good bad
def lfFind (T : Nat) (good bad : List (List Int)) : Option (Nat × Nat) :=
  match lfM T good bad 1 with
  | some N => some (1, N)
  | none => match lfM T good bad 2 with
    | some N => some (2, N)
    | none => match lfM T good bad 3 with
      | some N => some (3, N)
      | none => none
def lfPre (T : Int) (good bad : List (List Int)) : Bool := inB T 1 2 && (decide (good.length ≤ 24) && (decide (bad.length ≤ 24) && ((good.all fun xs => wordB xs T) && (bad.all fun xs => wordB xs T))))
def lfRes (T : Int) (good bad : List (List Int)) : Option (Nat × Nat) := if lfPre T good bad then lfFind T.toNat good bad else none
def lfS : Option (Nat × Nat) → Int
  | some q => (q.1 : Int)
  | none => 0
def lfT (T : Int) : Option (Nat × Nat) → Int
  | some _ => T
  | none => 0
def lfP (T : Int) : Option (Nat × Nat) → List Int
  | some q => tb q.1 (q.1 * T.toNat) q.2
  | none => []
def lfE (T : Int) (good : List (List Int)) : Option (Nat × Nat) → List Bool
  | some q => frcW (lfF T.toNat q.1 q.2) q.1 good
  | none => []
theorem lfFind_some {T S N : Nat} {good bad : List (List Int)} (h1 : 1 ≤ S) (h3 : S ≤ 3) (hn : ∀ R, 1 ≤ R → R < S → lfM T good bad R = none) (h : lfM T good bad S = some N) : lfFind T good bad = some (S, N) := by
  unfold lfFind
  have hS : S = 1 ∨ S = 2 ∨ S = 3 := by omega
  rcases hS with rfl | rfl | rfl
  · rw [h]
  · rw [hn 1 (by omega) (by omega), h]
  · rw [hn 1 (by omega) (by omega), hn 2 (by omega) (by omega), h]
theorem lfFind_none {T : Nat} {good bad : List (List Int)} (hn : ∀ R, 1 ≤ R → R < 4 → lfM T good bad R = none) : lfFind T good bad = none := by
  unfold lfFind
  rw [hn 1 (by omega) (by omega), hn 2 (by omega) (by omega), hn 3 (by omega) (by omega)]
theorem lfPre_true {T : Int} {good bad : List (List Int)} (h : lfPre T good bad = true) : (1 ≤ T ∧ T ≤ 2) ∧ good.length ≤ 24 ∧ bad.length ≤ 24 ∧ (good.all fun xs => wordB xs T) = true ∧ (bad.all fun xs => wordB xs T) = true := by
  unfold lfPre at h
  simp only [Bool.and_eq_true, decide_eq_true_eq] at h
  exact ⟨inB_true h.1, h.2.1, h.2.2.1, h.2.2.2.1, h.2.2.2.2⟩
theorem words_ok {T : Int} {ws : List (List Int)} (h : (ws.all fun xs => wordB xs T) = true) : ∀ x ∈ ws, allIn x 0 (T - 1) = true ∧ x.length ≤ 12 := by
  intro x hx
  rw [List.all_eq_true] at h
  have h1 := h x hx
  have h2 := wordB_len h1
  unfold wordB at h1
  simp only [Bool.and_eq_true] at h1
  exact ⟨h1.2.2, h2⟩
/-- A plain machine handed out. -/
def LfO (w : World) (base : Nat) (v : Value) (T : Int) (good bad : List (List Int)) : Prop := PlW w base v (lfS (lfRes T good bad)) (lfT T (lfRes T good bad)) (lfP T (lfRes T good bad)) (lfE T good (lfRes T good bad))
theorem LfO_none {w : World} {base : Nat} {T : Int} {good bad : List (List Int)} (h : lfRes T good bad = none) : LfO w base (.agg #[.int .i64 0, .int .i64 0, .slice none 0 0, .slice none 0 0]) T good bad := by
  unfold LfO
  rw [h]
  exact ⟨_, _, rfl, OwnV.nil _ _ _ _ _, OwnV.nil _ _ _ _ _, fun k hk => by simp [Value.ownBlock] at hk⟩
theorem LfO_some {w : World} {base S T N g2 g3 n : Nat} {good bad : List (List Int)} (h : lfRes (T : Int) good bad = some (S, N)) (hn : n = S * T) (h2 : Row w g2 2 (iv (tb S n N))) (h3 : Row w g3 4 (bv (frcW (lfF T S N) S good))) (hne : g2 ≠ g3) (hb2 : base ≤ g2) (hb3 : base ≤ g3) (hs : S ≤ 3 ∧ n ≤ 6) :
    LfO w base (.agg #[.int .i64 (S : Int), .int .i64 (T : Int), .slice (some ⟨g2, 0, none⟩) n n, .slice (some ⟨g3, 0, none⟩) S S]) (T : Int) good bad := by
  unfold LfO
  rw [h]
  have e2 := tb_len S n N
  have e3 := frcW_len (lfF T S N) S good
  have o2 := h2.own (base := base) (cap := 0) hb2 (by rw [iv_length, e2]; unfold maxLen; omega)
  have o3 := h3.own (base := base) (cap := 0) hb3 (by rw [bv_length, e3]; unfold maxLen; omega)
  rw [iv_length, e2] at o2
  rw [bv_length, e3] at o3
  refine ⟨.slice (some ⟨g2, 0, none⟩) n n, .slice (some ⟨g3, 0, none⟩) S S, rfl, ?_, ?_, ?_⟩
  · have := OwnV.of o2
    show OwnV _ _ _ _ _ _ (tb S (S * T) N).length (iv (tb S (S * T) N))
    rw [← hn, e2]
    exact this
  · have := OwnV.of o3
    show OwnV _ _ _ _ _ _ (frcW (lfF T S N) S good).length (bv (frcW (lfF T S N) S good))
    rw [e3]
    exact this
  · intro k h1 h2
    simp [Value.ownBlock] at h1 h2
    omega
theorem heap_set4L (w : World) (r g : Nat) (v0 v1 v2 v3 : Value) (h : g ≠ r) : ((((w.setCell ⟨r, 0, none⟩ v0).setCell ⟨r, 1, none⟩ v1).setCell ⟨r, 2, none⟩ v2).setCell ⟨r, 3, none⟩ v3).heap[g]? = w.heap[g]? := by
  rw [Below.heap_setCell _ _ _ _ h, Below.heap_setCell _ _ _ _ h, Below.heap_setCell _ _ _ _ h, Below.heap_setCell _ _ _ _ h]
theorem pow_729 {S n : Nat} (hS : 0 < S ∧ S ≤ 3) (hn : n ≤ 6) : S ^ n ≤ 729 := Nat.le_trans (Nat.pow_le_pow_left hS.2 n) (Nat.le_trans (Nat.pow_le_pow_right (by omega) hn) (by decide))

theorem infoLf : (Try.prog.info? 2).map (fun i => (i.zero, i.size, i.bytes)) = some (some (.int .i64 0), 1, 8) := by kernel_rfl
theorem infoLb : (Try.prog.info? 4).map (fun i => (i.zero, i.size, i.bytes)) = some (some (.bool false), 1, 1) := by kernel_rfl
set_option maxRecDepth 100000 in
set_option maxHeartbeats 8000000 in
theorem iLeast_any (T : Int) (A : Option Addr) (n c : Nat) (good : List (List Int)) (A' : Option Addr) (n' c' : Nat) (bad : List (List Int)) (w : World) (hg : SlL w w.heap.size A n good) (hb : SlL w w.heap.size A' n' bad) (hn : n ≤ 1048576) (hn' : n' ≤ 1048576) (hm : ∀ r ∈ good, r.length ≤ 4294967296) (hm' : ∀ r ∈ bad, r.length ≤ 4294967296) :
    Calls Try.prog 34 #[.int .i64 T, .slice A n c, .slice A' n' c'] w fun e w' => ∃ v', e = .returned (.tuple #[v', .bool (lfRes T good bad).isSome]) ∧ LfO w' w.heap.size v' T good bad ∧ Below w.heap.size w w' := by
  have W1 := Lib.hid (iIn_any T 1 2)
  have RR0 := Row.new w 33 [.int .i64 0, .int .i64 0, .slice none 0 0, .slice none 0 0]
  have BX0 : Below w.heap.size w (w.alloc (.cells ([.int .i64 0, .int .i64 0, .slice none 0 0, .slice none 0 0] : List Value).toArray 33)) := (Below.refl _ _).alloc (Nat.le_refl _) _
  obtain ⟨x0, hx0⟩ : ∃ x, x = w.alloc (.cells ([.int .i64 0, .int .i64 0, .slice none 0 0, .slice none 0 0] : List Value).toArray 33) := ⟨_, rfl⟩
  rw [← hx0] at RR0 BX0
  have RR := Lib.hid RR0; have BX := Lib.hid BX0
  have CG := Lib.hid (iAreWords_any A n c good T x0 ((hg.below BX0 (Nat.le_refl _)).more BX0.size) (by omega) hm)
  have CB := Lib.hid (iAreWords_any A' n' c' bad T x0 ((hb.below BX0 (Nat.le_refl _)).more BX0.size) (by omega) hm')
  have HG := Lib.hid hg; have HB := Lib.hid hb
  have elg := hg.len; have elb := hb.len
  clear RR0 BX0 hg hb hm hm'
  have HPD : Hid (lfPre T good bad = (inB T 1 2 && (decide (good.length ≤ 24) && (decide (bad.length ≤ 24) && ((good.all fun xs => wordB xs T) && (bad.all fun xs => wordB xs T)))))) := rfl
  have HRN : Hid (lfPre T good bad = false → lfRes T good bad = none) := fun h => by unfold lfRes; rw [h]; rfl
  go_enter Try.func34, Try.ntmps34
  go_upto_region 1 with fail
  rw [show (w.alloc (.cells #[.int .i64 0, .int .i64 0, .slice none 0 0, .slice none 0 0] 33)) = x0 from hx0.symm]
  clear hx0
  cases q1 : inB T 1 2 with
  | false =>
    rw [q1] at W1
    have HN : Hid (lfRes T good bad = none) := HRN.out (by rw [HPD.out, q1]; simp)
    have k0 := RR.out.cell 0; have k1 := RR.out.cell 1; have k2 := RR.out.cell 2; have k3 := RR.out.cell 3
    have f0 := RR.out.frozen 0; have f1 := RR.out.frozen 1; have f2 := RR.out.frozen 2; have f3 := RR.out.frozen 3
    clear q1
    go_wp2_with (first | (go_at_call 54; refine (W1.out _).mono ?_; rintro e w' ⟨rfl, hw⟩; obtain rfl := hw; clear W1))
    clear k0 k1 k2 k3 f0 f1 f2 f3
    have hF := ((((RR.out.set_ 0 (.int .i64 0)).set_ 1 (.int .i64 0)).set_ 2 (.slice none 0 0)).set_ 3 (.slice none 0 0))
    refine bodyPost_ret (results_cell2 rfl _ _ w.heap.size 33 #[.int .i64 0, .int .i64 0, .slice none 0 0, .slice none 0 0] (0, 0) _ (.bool false) rfl rfl hF Try.underlying33 rfl (by kernel_rfl)) rfl ?_
    exact ⟨_, by rw [HN.out]; rfl, LfO_none HN.out, (((BX.out.setCell (p := ⟨w.heap.size, 0, none⟩) (Nat.le_refl _) _).setCell (p := ⟨w.heap.size, 1, none⟩) (Nat.le_refl _) _).setCell (p := ⟨w.heap.size, 2, none⟩) (Nat.le_refl _) _).setCell (p := ⟨w.heap.size, 3, none⟩) (Nat.le_refl _) _⟩
  | true =>
  rw [q1] at W1
  rcases Nat.lt_or_ge 24 n with q2 | q2
  · have z2 : (24 : Int) < (n : Int) := by omega
    have HN : Hid (lfRes T good bad = none) := HRN.out (by rw [HPD.out, show decide (good.length ≤ 24) = false from decide_eq_false (by omega)]; simp)
    have k0 := RR.out.cell 0; have k1 := RR.out.cell 1; have k2 := RR.out.cell 2; have k3 := RR.out.cell 3
    have f0 := RR.out.frozen 0; have f1 := RR.out.frozen 1; have f2 := RR.out.frozen 2; have f3 := RR.out.frozen 3
    clear q1 q2
    go_wp2_with (first | (go_at_call 54; refine (W1.out _).mono ?_; rintro e w' ⟨rfl, hw⟩; obtain rfl := hw; clear W1))
    clear k0 k1 k2 k3 f0 f1 f2 f3
    have hF := ((((RR.out.set_ 0 (.int .i64 0)).set_ 1 (.int .i64 0)).set_ 2 (.slice none 0 0)).set_ 3 (.slice none 0 0))
    refine bodyPost_ret (results_cell2 rfl _ _ w.heap.size 33 #[.int .i64 0, .int .i64 0, .slice none 0 0, .slice none 0 0] (0, 0) _ (.bool false) rfl rfl hF Try.underlying33 rfl (by kernel_rfl)) rfl ?_
    exact ⟨_, by rw [HN.out]; rfl, LfO_none HN.out, (((BX.out.setCell (p := ⟨w.heap.size, 0, none⟩) (Nat.le_refl _) _).setCell (p := ⟨w.heap.size, 1, none⟩) (Nat.le_refl _) _).setCell (p := ⟨w.heap.size, 2, none⟩) (Nat.le_refl _) _).setCell (p := ⟨w.heap.size, 3, none⟩) (Nat.le_refl _) _⟩
  have z2 : (n : Int) ≤ 24 := by omega
  have z2' : decide ((24 : Int) < (n : Int)) = false := decide_eq_false (by omega)
  rcases Nat.lt_or_ge 24 n' with q3 | q3
  · have z3 : (24 : Int) < (n' : Int) := by omega
    have HN : Hid (lfRes T good bad = none) := HRN.out (by rw [HPD.out, show decide (bad.length ≤ 24) = false from decide_eq_false (by omega)]; simp)
    have k0 := RR.out.cell 0; have k1 := RR.out.cell 1; have k2 := RR.out.cell 2; have k3 := RR.out.cell 3
    have f0 := RR.out.frozen 0; have f1 := RR.out.frozen 1; have f2 := RR.out.frozen 2; have f3 := RR.out.frozen 3
    clear q1 q2 q3
    go_wp2_with (first | (go_at_call 54; refine (W1.out _).mono ?_; rintro e w' ⟨rfl, hw⟩; obtain rfl := hw; clear W1))
    clear k0 k1 k2 k3 f0 f1 f2 f3
    have hF := ((((RR.out.set_ 0 (.int .i64 0)).set_ 1 (.int .i64 0)).set_ 2 (.slice none 0 0)).set_ 3 (.slice none 0 0))
    refine bodyPost_ret (results_cell2 rfl _ _ w.heap.size 33 #[.int .i64 0, .int .i64 0, .slice none 0 0, .slice none 0 0] (0, 0) _ (.bool false) rfl rfl hF Try.underlying33 rfl (by kernel_rfl)) rfl ?_
    exact ⟨_, by rw [HN.out]; rfl, LfO_none HN.out, (((BX.out.setCell (p := ⟨w.heap.size, 0, none⟩) (Nat.le_refl _) _).setCell (p := ⟨w.heap.size, 1, none⟩) (Nat.le_refl _) _).setCell (p := ⟨w.heap.size, 2, none⟩) (Nat.le_refl _) _).setCell (p := ⟨w.heap.size, 3, none⟩) (Nat.le_refl _) _⟩
  have z3 : (n' : Int) ≤ 24 := by omega
  have z3' : decide ((24 : Int) < (n' : Int)) = false := decide_eq_false (by omega)
  cases q4 : (good.all fun xs => wordB xs T) with
  | false =>
    rw [q4] at CG
    have HN : Hid (lfRes T good bad = none) := HRN.out (by rw [HPD.out, q4]; simp)
    have k0 := RR.out.cell 0; have k1 := RR.out.cell 1; have k2 := RR.out.cell 2; have k3 := RR.out.cell 3
    have f0 := RR.out.frozen 0; have f1 := RR.out.frozen 1; have f2 := RR.out.frozen 2; have f3 := RR.out.frozen 3
    clear q1 q2 q3 q4
    go_wp2_with (first | (go_at_call 54; refine (W1.out _).mono ?_; rintro e w' ⟨rfl, hw⟩; obtain rfl := hw; clear W1) | (go_at_call 94; (first | (refine CG.out.mono ?_; rintro e w' ⟨rfl, hw⟩; obtain rfl := hw; clear CG) | (refine CB.out.mono ?_; rintro e w' ⟨rfl, hw⟩; obtain rfl := hw; clear CB))))
    clear k0 k1 k2 k3 f0 f1 f2 f3
    have hF := ((((RR.out.set_ 0 (.int .i64 0)).set_ 1 (.int .i64 0)).set_ 2 (.slice none 0 0)).set_ 3 (.slice none 0 0))
    refine bodyPost_ret (results_cell2 rfl _ _ w.heap.size 33 #[.int .i64 0, .int .i64 0, .slice none 0 0, .slice none 0 0] (0, 0) _ (.bool false) rfl rfl hF Try.underlying33 rfl (by kernel_rfl)) rfl ?_
    exact ⟨_, by rw [HN.out]; rfl, LfO_none HN.out, (((BX.out.setCell (p := ⟨w.heap.size, 0, none⟩) (Nat.le_refl _) _).setCell (p := ⟨w.heap.size, 1, none⟩) (Nat.le_refl _) _).setCell (p := ⟨w.heap.size, 2, none⟩) (Nat.le_refl _) _).setCell (p := ⟨w.heap.size, 3, none⟩) (Nat.le_refl _) _⟩
  | true =>
  rw [q4] at CG
  cases q5 : (bad.all fun xs => wordB xs T) with
  | false =>
    rw [q5] at CB
    have HN : Hid (lfRes T good bad = none) := HRN.out (by rw [HPD.out, q5]; simp)
    have k0 := RR.out.cell 0; have k1 := RR.out.cell 1; have k2 := RR.out.cell 2; have k3 := RR.out.cell 3
    have f0 := RR.out.frozen 0; have f1 := RR.out.frozen 1; have f2 := RR.out.frozen 2; have f3 := RR.out.frozen 3
    clear q1 q2 q3 q4 q5
    go_wp2_with (first | (go_at_call 54; refine (W1.out _).mono ?_; rintro e w' ⟨rfl, hw⟩; obtain rfl := hw; clear W1) | (go_at_call 94; (first | (refine CG.out.mono ?_; rintro e w' ⟨rfl, hw⟩; obtain rfl := hw; clear CG) | (refine CB.out.mono ?_; rintro e w' ⟨rfl, hw⟩; obtain rfl := hw; clear CB))))
    clear k0 k1 k2 k3 f0 f1 f2 f3
    have hF := ((((RR.out.set_ 0 (.int .i64 0)).set_ 1 (.int .i64 0)).set_ 2 (.slice none 0 0)).set_ 3 (.slice none 0 0))
    refine bodyPost_ret (results_cell2 rfl _ _ w.heap.size 33 #[.int .i64 0, .int .i64 0, .slice none 0 0, .slice none 0 0] (0, 0) _ (.bool false) rfl rfl hF Try.underlying33 rfl (by kernel_rfl)) rfl ?_
    exact ⟨_, by rw [HN.out]; rfl, LfO_none HN.out, (((BX.out.setCell (p := ⟨w.heap.size, 0, none⟩) (Nat.le_refl _) _).setCell (p := ⟨w.heap.size, 1, none⟩) (Nat.le_refl _) _).setCell (p := ⟨w.heap.size, 2, none⟩) (Nat.le_refl _) _).setCell (p := ⟨w.heap.size, 3, none⟩) (Nat.le_refl _) _⟩
  | true =>
  rw [q5] at CB
  obtain ⟨t1, t2⟩ := inB_true q1
  obtain ⟨tN, rfl⟩ : ∃ k : Nat, T = (k : Int) := ⟨T.toNat, by omega⟩
  have HPRE : Hid (lfPre (tN : Int) good bad = true) := by show _ = _; rw [HPD.out, q1, q4, q5, decide_eq_true (show good.length ≤ 24 by omega), decide_eq_true (show bad.length ≤ 24 by omega)]; rfl
  have HRF : Hid (lfRes (tN : Int) good bad = lfFind tN good bad) := by show _ = _; unfold lfRes; rw [HPRE.out, if_pos rfl, Int.toNat_natCast]
  have HWG := Lib.hid (words_ok q4); have HWB := Lib.hid (words_ok q5)
  have ht1 : 1 ≤ tN := by omega
  have ht2 : tN ≤ 2 := by omega
  clear q1 q2 q3 q4 q5 t1 t2 HRN HPD HPRE
  go_wp2_with (first | (go_at_call 54; refine (W1.out _).mono ?_; rintro e w' ⟨rfl, hw⟩; obtain rfl := hw; clear W1) | (go_at_call 94; (first | (refine CG.out.mono ?_; rintro e w' ⟨rfl, hw⟩; obtain rfl := hw; clear CG) | (refine CB.out.mono ?_; rintro e w' ⟨rfl, hw⟩; obtain rfl := hw; clear CB))))
  have hzx := RR.out.lt
  go_loopg [8] 4 (fun q s wr => ∃ S : Nat, s = .int .i64 S ∧ 1 ≤ S ∧ S ≤ 4 ∧ 4 ≤ q + S ∧ Hid (∀ R, 1 ≤ R → R < S → lfM tN good bad R = none) ∧ Hid (Row wr w.heap.size 33 [.int .i64 0, .int .i64 0, .slice none 0 0, .slice none 0 0]) ∧ Hid (Below w.heap.size w wr))
  case atStart => exact ⟨1, rfl, by omega, by omega, by omega, fun R h1 h2 => by omega, RR.out, BX.out⟩
  case round =>
    clear RR BX hzx
    obtain ⟨S, rfl, hS1, hS4, hq, HNO, RR, BX⟩ := hrel
    obtain ⟨wo, rfl⟩ : ∃ x : World, x = wr := ⟨_, rfl⟩
    obtain ⟨go, hgo⟩ : ∃ g : Nat, g = gk := ⟨_, rfl⟩
    have hzx := RR.out.lt
    by_cases hlt : S ≤ 3
    · have q1 : (S : Int) ≤ 3 := by omega
      have q1' : (1 : Int) ≤ (S : Int) := by omega
      obtain ⟨m, hm⟩ : ∃ m, m = S * tN := ⟨_, rfl⟩
      have hm6 : m ≤ 6 := by rw [hm]; exact Nat.mul_le_mul hlt ht2
      have hmi : (S : Int) * (tN : Int) = (m : Int) := by rw [hm]; simp
      have wmi : IntKind.i64.wrap ((S : Int) * (tN : Int)) = (m : Int) := by rw [hmi]; exact IntWalk.i64_in _ (by omega)
      have wm : IntKind.i64.wrap (m : Int) = (m : Int) := IntWalk.i64_in _ (by omega)
      have HMI := Lib.hid hmi
      have hmk := run_make_row' (P := Try.prog) 26 2 (.int .i64 0) 8 Try.underlying26 infoLf rfl .i64 .i64 m (by omega) (by omega)
      have hmb := run_make_row' (P := Try.prog) 31 4 (.bool false) 1 Try.underlying31 infoLb rfl .i64 .i64 S (by omega) (by omega)
      have R0 : Hid (Row (wo.alloc (.cells (madeCells #[.int .i64 0] m) 2)) wo.heap.size 2 (iv (tb S m 0))) := by
        have := Row.made wo (.int .i64 0) m 2
        have e : iv (tb S m 0) = List.replicate m (.int .i64 0) := by unfold tb; rw [digs_zero]; simp [iv]
        show Row _ _ _ _
        rw [e]; exact this
      have RRa := Lib.hid (RR.out.alloc (.cells (madeCells #[.int .i64 0] m) 2))
      have BXa : Hid (Below w.heap.size w (wo.alloc (.cells (madeCells #[.int .i64 0] m) 2))) := BX.out.alloc BX.out.size _
      have HM := Lib.hid hm; clear hm
      have hp0 : 0 < S ^ m := Nat.pow_pos (by omega)
      have hsz1 : (wo.alloc (.cells (madeCells #[.int .i64 0] m) 2)).heap.size = wo.heap.size + 1 := by simp
      go_wp2_with fail
      clear hmk hmi wmi wm
      go_loopg [10] (S ^ m + 1) (fun q fl wr => Hid (Row wr w.heap.size 33 [.int .i64 0, .int .i64 0, .slice none 0 0, .slice none 0 0]) ∧ Hid (Below w.heap.size w wr) ∧ wo.heap.size < wr.heap.size ∧ ((∃ N : Nat, fl = .bool true ∧ N < S ^ m ∧ S ^ m + 1 ≤ q + N ∧ Hid (Row wr wo.heap.size 2 (iv (tb S m N))) ∧ Hid (∀ M, M < N → fitF (lfF tN S M) S good bad = false)) ∨ (fl = .bool false ∧ Hid (∀ M, M < S ^ m → fitF (lfF tN S M) S good bad = false))))
      case atStart => exact ⟨RRa.out, BXa.out, by omega, .inl ⟨0, rfl, hp0, by omega, R0.out, fun M h => by omega⟩⟩
      case round =>
        clear RRa BXa R0 hsz1
        obtain ⟨RR, BX, hsl, hcase⟩ := hrel
        obtain ⟨wi, rfl⟩ : ∃ x : World, x = wr := ⟨_, rfl⟩
        rcases hcase with ⟨N, rfl, hN, hqN, RT, HNF⟩ | ⟨rfl, HNF⟩
        · have RE : Hid (Row (wi.alloc (.cells (madeCells #[.bool false] S) 4)) wi.heap.size 4 (bv (List.replicate S false))) := by
            have := Row.made wi (.bool false) S 4
            have e : bv (List.replicate S false) = List.replicate S (.bool false) := by simp [bv]
            show Row _ _ _ _
            rw [e]; exact this
          obtain ⟨wa, hwa⟩ : ∃ x, x = wi.alloc (.cells (madeCells #[.bool false] S) 4) := ⟨_, rfl⟩
          have hza : wa.heap.size = wi.heap.size + 1 := by rw [hwa]; simp
          have RTa : Hid (Row wa wo.heap.size 2 (iv (tb S m N))) := by rw [hwa]; exact RT.out.alloc _
          have RRa : Hid (Row wa w.heap.size 33 [.int .i64 0, .int .i64 0, .slice none 0 0, .slice none 0 0]) := by rw [hwa]; exact RR.out.alloc _
          have BXa : Hid (Below w.heap.size w wa) := by rw [hwa]; exact BX.out.alloc BX.out.size _
          rw [← hwa] at RE
          have RB := Row.new wa 33 (BxP (S : Int) (tN : Int) (some ⟨wo.heap.size, 0, none⟩) m m (some ⟨wi.heap.size, 0, none⟩) S S)
          obtain ⟨wb, hwb⟩ : ∃ x, x = wa.alloc (.cells (BxP (S : Int) (tN : Int) (some ⟨wo.heap.size, 0, none⟩) m m (some ⟨wi.heap.size, 0, none⟩) S S).toArray 33) := ⟨_, rfl⟩
          rw [← hwb] at RB
          have RTb : Hid (Row wb wo.heap.size 2 (iv (tb S m N))) := by rw [hwb]; exact RTa.out.alloc _
          have REb : Hid (Row wb wi.heap.size 4 (bv (List.replicate S false))) := by rw [hwb]; exact RE.out.alloc _
          have RRb : Hid (Row wb w.heap.size 33 [.int .i64 0, .int .i64 0, .slice none 0 0, .slice none 0 0]) := by rw [hwb]; exact RRa.out.alloc _
          have BXb : Hid (Below w.heap.size w wb) := by rw [hwb]; exact BXa.out.alloc BXa.out.size _
          have C := Lib.hid (iForced_any S (tN : Int) wo.heap.size m m wi.heap.size S (tb S m N) A n c good A' n' c' bad w.heap.size wb RTb.out REb.out (HG.out.below BXb.out (Nat.le_refl _)) (HB.out.below BXb.out (Nat.le_refl _)) (by omega) (by omega) (by omega) (by omega) (by omega) HMI.out.symm (tb_len _ _ _) (tb_bd (by omega) _ _) HWG.out HWB.out (by omega) (by omega))
          have HFF : Hid ((fun x => (rnW (tb S m N) (tN : Int) x).toNat) = lfF tN S N) := by show _ = _; rw [HM.out]; rfl
          have r0 := RB.cell 0; have r1 := RB.cell 1; have r2 := RB.cell 2; have r3 := RB.cell 3
          rw [hza] at r0 r1 r2 r3
          have hwab : wb = (wi.alloc (.cells (madeCells #[.bool false] S) 4)).alloc (.cells (BxP (S : Int) (tN : Int) (some ⟨wo.heap.size, 0, none⟩) m m (some ⟨wi.heap.size, 0, none⟩) S S).toArray 33) := by rw [hwb, hwa]
          rw [hwab] at r0 r1 r2 r3
          have HWAB := Lib.hid hwab
          have HRB := Lib.hid RB
          clear hwab hwa hwb RB RE RTa RRa BXa
          go_wp2_with fail
          clear r0 r1 r2 r3
          change Calls _ _ _ ((wi.alloc (.cells (madeCells #[.bool false] S) 4)).alloc (.cells (BxP (S : Int) (tN : Int) (some ⟨wo.heap.size, 0, none⟩) m m (some ⟨wi.heap.size, 0, none⟩) S S).toArray 33)) _
          rw [← HWAB.out]
          rw [hza] at HRB
          refine C.out.mono ?_
          rintro e w2 ⟨rfl, hre, hbut⟩
          rw [HFF.out] at hre ⊢
          have RE2 := Lib.hid hre
          have RT2 : Hid (Row w2 wo.heap.size 2 (iv (tb S m N))) := (hbut.2.2.2.2 _ RTb.out.lt (by omega)).trans RTb.out
          have RR2 : Hid (Row w2 w.heap.size 33 [.int .i64 0, .int .i64 0, .slice none 0 0, .slice none 0 0]) := (hbut.2.2.2.2 _ RRb.out.lt (by omega)).trans RRb.out
          have RB2 : Hid (Row w2 (wi.heap.size + 1) 33 (BxP (S : Int) (tN : Int) (some ⟨wo.heap.size, 0, none⟩) m m (some ⟨wi.heap.size, 0, none⟩) S S)) := (hbut.2.2.2.2 _ HRB.out.lt (by omega)).trans HRB.out
          have BX2 : Hid (Below w.heap.size w w2) := BXb.out.trans (hbut.below (by omega) BXb.out.size)
          have HS2 : Hid (wo.heap.size < w2.heap.size) := RT2.out.lt
          clear hre hbut C RTb REb RRb BXb HRB HFF HWAB hza RR BX RT
          cases hfit : fitF (lfF tN S N) S good bad with
          | true =>
            have HFI : Hid (lfRes (tN : Int) good bad = some (S, N)) := by
              show _ = _
              rw [HRF.out]
              refine lfFind_some hS1 hlt HNO.out ?_
              unfold lfM
              rw [← HM.out]
              exact lfN_some hN hfit HNF.out
            have k0 := RB2.out.cell 0; have k1 := RB2.out.cell 1; have k2 := RB2.out.cell 2; have k3 := RB2.out.cell 3
            have s0 := RR2.out.cell 0; have s1 := RR2.out.cell 1; have s2 := RR2.out.cell 2; have s3 := RR2.out.cell 3
            have f0 := RR2.out.frozen 0; have f1 := RR2.out.frozen 1; have f2 := RR2.out.frozen 2; have f3 := RR2.out.frozen 3
            clear hfit
            go_wp2_with fail
            clear k0 k1 k2 k3 s0 s1 s2 s3 f0 f1 f2 f3
            have hF := ((((RR2.out.set_ 0 (.int .i64 (S : Int))).set_ 1 (.int .i64 (tN : Int))).set_ 2 (.slice (some ⟨wo.heap.size, 0, none⟩) m m)).set_ 3 (.slice (some ⟨wi.heap.size, 0, none⟩) S S))
            refine bodyPost_ret (results_cell2 rfl _ _ w.heap.size 33 #[.int .i64 (S : Int), .int .i64 (tN : Int), .slice (some ⟨wo.heap.size, 0, none⟩) m m, .slice (some ⟨wi.heap.size, 0, none⟩) S S] (0, 0) _ (.bool true) rfl rfl hF Try.underlying33 rfl (by kernel_rfl)) rfl ?_
            refine ⟨_, by rw [HFI.out]; rfl, LfO_some HFI.out HM.out ((heap_set4L _ _ _ _ _ _ _ (by omega)).trans RT2.out) ((heap_set4L _ _ _ _ _ _ _ (by omega)).trans RE2.out) (by omega) (by omega) (by omega) ⟨hlt, hm6⟩, ?_⟩
            exact (((BX2.out.setCell (p := ⟨w.heap.size, 0, none⟩) (Nat.le_refl _) _).setCell (p := ⟨w.heap.size, 1, none⟩) (Nat.le_refl _) _).setCell (p := ⟨w.heap.size, 2, none⟩) (Nat.le_refl _) _).setCell (p := ⟨w.heap.size, 3, none⟩) (Nat.le_refl _) _
          | false =>
            have HNF2 : Hid (∀ M, M < N + 1 → fitF (lfF tN S M) S good bad = false) := fun M h => by
              rcases Nat.lt_or_ge M N with h1 | h1
              · exact HNF.out M h1
              · rw [show M = N by omega]; exact hfit
            have C := Lib.hid (iNext_any wo.heap.size m S m N w2 RT2.out ⟨by omega, by omega⟩ hm6 hN)
            clear hfit
            go_wp2_with fail
            refine C.out.mono ?_
            rintro e w3 ⟨rfl, hre, hbut⟩
            have RR3 : Hid (Row w3 w.heap.size 33 [.int .i64 0, .int .i64 0, .slice none 0 0, .slice none 0 0]) := (hbut.2.2.2.2 _ RR2.out.lt (by omega)).trans RR2.out
            have BX3 : Hid (Below w.heap.size w w3) := BX2.out.trans (hbut.below (by omega) BX2.out.size)
            have HS3 : Hid (wo.heap.size < w3.heap.size) := Nat.lt_of_lt_of_le HS2.out hbut.2.2.2.1
            have HRE := Lib.hid hre
            clear hre hbut C
            obtain ⟨bn, hbn⟩ : ∃ b, b = decide (N + 1 < S ^ m) := ⟨_, rfl⟩
            rw [← hbn]
            have HBN := Lib.hid hbn; clear hbn
            go_wp2_with fail
            go_roundg (gk - 1)
            case measure => omega
            case rel =>
              refine ⟨RR3.out, BX3.out, HS3.out, ?_⟩
              rcases Nat.lt_or_ge (N + 1) (S ^ m) with h | h
              · exact .inl ⟨N + 1, by rw [HBN.out, decide_eq_true h], h, by omega, HRE.out h, HNF2.out⟩
              · exact .inr ⟨by rw [HBN.out, decide_eq_false (by omega)], fun M hM => HNF2.out M (by omega)⟩
        · have HNO2 : Hid (∀ R, 1 ≤ R → R < S + 1 → lfM tN good bad R = none) := fun R h1 h2 => by
            rcases Nat.lt_or_ge R S with h3 | h3
            · exact HNO.out R h1 h3
            · obtain rfl : R = S := by omega
              unfold lfM
              rw [← HM.out]
              exact lfN_none HNF.out
          go_wp2_with fail
          go_roundg (go - 1)
          case measure => omega
          case rel => exact ⟨S + 1, by go_num, by omega, by omega, by omega, HNO2.out, RR.out, BX.out⟩
    · have hS : S = 4 := by omega
      have q1 : (3 : Int) < (S : Int) := by omega
      have HN : Hid (lfRes (tN : Int) good bad = none) := by
        show _ = _
        rw [HRF.out]
        exact lfFind_none (fun R h1 h2 => HNO.out R h1 (by omega))
      clear hS
      have k0 := RR.out.cell 0; have k1 := RR.out.cell 1; have k2 := RR.out.cell 2; have k3 := RR.out.cell 3
      have f0 := RR.out.frozen 0; have f1 := RR.out.frozen 1; have f2 := RR.out.frozen 2; have f3 := RR.out.frozen 3
      go_wp2_with fail
      clear k0 k1 k2 k3 f0 f1 f2 f3
      have hF := ((((RR.out.set_ 0 (.int .i64 0)).set_ 1 (.int .i64 0)).set_ 2 (.slice none 0 0)).set_ 3 (.slice none 0 0))
      refine bodyPost_ret (results_cell2 rfl _ _ w.heap.size 33 #[.int .i64 0, .int .i64 0, .slice none 0 0, .slice none 0 0] (0, 0) _ (.bool false) rfl rfl hF Try.underlying33 rfl (by kernel_rfl)) rfl ?_
      exact ⟨_, by rw [HN.out]; rfl, LfO_none HN.out, (((BX.out.setCell (p := ⟨w.heap.size, 0, none⟩) (Nat.le_refl _) _).setCell (p := ⟨w.heap.size, 1, none⟩) (Nat.le_refl _) _).setCell (p := ⟨w.heap.size, 2, none⟩) (Nat.le_refl _) _).setCell (p := ⟨w.heap.size, 3, none⟩) (Nat.le_refl _) _⟩
end Go.Proofs.Ytbdfbmohdbigfaa
