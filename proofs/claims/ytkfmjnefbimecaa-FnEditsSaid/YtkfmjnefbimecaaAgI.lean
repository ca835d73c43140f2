/- Alignments: rows of three numbers each, and slices.Repeat of one of them. -/
import Derived.Test.YtkfmjnefbimecaaMgj
import Derived.Test.YtkfmjnefbimecaaRowS
import Derived.Test.YtkfmjnefbimecaaOwn
import Derived.Test.YtkfmjnefbimecaaAgP
import Derived.Deep.LoopGhost

namespace Go.Proofs.Ytkfmjnefbimecaa
open Go.RowKit
set_option linter.unusedVariables false
/-- The cells of triples. -/
def ft : List Tri → List Value
  | [] => []
  | p :: ps => .int .i64 p.1 :: .int .i64 p.2.1 :: .int .i64 p.2.2 :: ft ps
theorem ft_append (ps qs : List Tri) : ft (ps ++ qs) = ft ps ++ ft qs := by
  induction ps with
  | nil => rfl
  | cons p ps ih => simp [ft, ih]
theorem ft_len (ps : List Tri) : (ft ps).length = ps.length * 3 := by
  induction ps with
  | nil => rfl
  | cons p ps ih => simp [ft, ih]; omega
theorem ft_get {ps : List Tri} {j : Nat} {p : Tri} (h : ps[j]? = some p) : (ft ps)[j * 3]? = some (.int .i64 p.1) ∧ (ft ps)[j * 3 + 1]? = some (.int .i64 p.2.1) ∧ (ft ps)[j * 3 + 2]? = some (.int .i64 p.2.2) := by
  induction ps generalizing j with
  | nil => simp at h
  | cons b ps ih =>
    cases j with
    | zero => simp at h; subst h; simp [ft]
    | succ j =>
      simp at h
      have := ih h
      rw [show (j + 1) * 3 = j * 3 + 1 + 1 + 1 from by omega]
      simpa [ft] using this
theorem ft_one (ps : List Tri) : ∀ u ∈ ft ps, u.oneCell' = true := by
  induction ps with
  | nil => intro u hu; cases hu
  | cons p ps ih => intro u hu; simp [ft] at hu; rcases hu with rfl | rfl | rfl | h; rfl; rfl; rfl; exact ih u h
theorem ft_set0 (A B : List Tri) (v : Tri) (x : Int) {i : Nat} (hi : A.length = i) : (ft (A ++ v :: B)).set (i * 3) (.int .i64 x) = ft (A ++ (x, v.2.1, v.2.2) :: B) := by
  subst hi
  rw [ft_append, ft_append, List.set_append_right _ _ (by rw [ft_len]; omega), ft_len, Nat.sub_self]; rfl
theorem ft_set1 (A B : List Tri) (v : Tri) (x : Int) {i : Nat} (hi : A.length = i) : (ft (A ++ v :: B)).set (i * 3 + 1) (.int .i64 x) = ft (A ++ (v.1, x, v.2.2) :: B) := by
  subst hi
  rw [ft_append, ft_append, List.set_append_right _ _ (by rw [ft_len]; omega), ft_len, Nat.add_sub_cancel_left]; rfl
theorem ft_set2 (A B : List Tri) (v : Tri) (x : Int) {i : Nat} (hi : A.length = i) : (ft (A ++ v :: B)).set (i * 3 + 2) (.int .i64 x) = ft (A ++ (v.1, v.2.1, x) :: B) := by
  subst hi
  rw [ft_append, ft_append, List.set_append_right _ _ (by rw [ft_len]; omega), ft_len, Nat.add_sub_cancel_left]; rfl
/-- k times x, then zeros up to n. -/
def rpT (x : Tri) (k n : Nat) : List Value := ft (List.replicate k x ++ List.replicate (n - k) (0, 0, 0))
theorem rpT_len {x : Tri} {k n : Nat} (h : k ≤ n) : (rpT x k n).length = n * 3 := by unfold rpT; rw [ft_len]; simp; omega
def rvT (x : Tri) (m : Nat) : List Value := ft (List.replicate m x)
theorem rvT_len (x : Tri) (m : Nat) : (rvT x m).length = m * 3 := by unfold rvT; rw [ft_len]; simp
theorem rpT_splice {x : Tri} {k m n : Nat} (h : k + m ≤ n) : splice (rpT x k n) (k * 3) (rvT x m) = rpT x (k + m) n := by
  unfold splice rpT rvT
  have e1 : (ft (List.replicate k x)).length = k * 3 := by rw [ft_len]; simp
  have e2 : (ft (List.replicate m x)).length = m * 3 := by rw [ft_len]; simp
  have e3 : List.replicate (n - k) ((0, 0, 0) : Tri) = List.replicate m (0, 0, 0) ++ List.replicate (n - (k + m)) (0, 0, 0) := by rw [List.replicate_append_replicate]; congr 1; omega
  have e4 : (ft (List.replicate m ((0, 0, 0) : Tri))).length = m * 3 := by rw [ft_len]; simp
  rw [e3, ft_append, ft_append, e2]
  rw [List.take_append_of_le_length (by omega), List.take_of_length_le (by omega)]
  rw [List.drop_append, e1, List.drop_eq_nil_of_le (by omega), List.nil_append, List.drop_append, e4]
  rw [show k * 3 + m * 3 - k * 3 = m * 3 from by omega, List.drop_eq_nil_of_le (by omega), List.nil_append, Nat.sub_self, List.drop_zero, ← List.append_assoc, ← ft_append, List.replicate_append_replicate, ← ft_append]
theorem rpT_get {x : Tri} {k n m j : Nat} {v : Value} (hk : m ≤ k) (h : (rvT x m)[j]? = some v) : (rpT x k n)[j]? = some v := by
  unfold rvT at h
  unfold rpT
  rw [show k = m + (k - m) from by omega, ← List.replicate_append_replicate, List.append_assoc, ft_append]
  have hj := (List.getElem?_eq_some_iff.1 h).1
  rw [List.getElem?_append_left hj]
  exact h
theorem rpT_full (x : Tri) (n : Nat) : rpT x n n = ft (List.replicate n x) := by unfold rpT; simp
theorem ft_zero (n : Nat) : ft (List.replicate n (0, 0, 0)) = List.replicate (n * 3) (.int .i64 0) := by
  induction n with
  | zero => rfl
  | succ n ih => rw [List.replicate_succ, show (n + 1) * 3 = n * 3 + 1 + 1 + 1 from by omega, List.replicate_succ, List.replicate_succ, List.replicate_succ, ← ih]; rfl
theorem made3 (n : Nat) : madeCells (Value.agg #[.int .i64 0, .int .i64 0, .int .i64 0]).cells (n * 3) = (ft (List.replicate n (0, 0, 0))).toArray := by
  rw [ft_zero]
  apply Array.ext
  · simp [size_madeCells]
  · intro i h1 h2
    have h3 : i % 3 < 3 := Nat.mod_lt _ (by omega)
    have h4 : i % 3 = 0 ∨ i % 3 = 1 ∨ i % 3 = 2 := by omega
    rcases h4 with h4 | h4 | h4 <;> simp [madeCells, Value.cells, h4]
theorem run_make3 {P : Program} (t e : TypeId) (ht : P.underlying t = some (.slice e)) (hinfo : (P.info? e).map (fun i => (i.zero, i.size, i.bytes)) = some (some (.agg #[.int .i64 0, .int .i64 0, .int .i64 0]), 3, 24))
    (n : Nat) (hn : n ≤ 4294967296) (w : World) :
    (Instr.makeSlice t (.int .i64 (n : Int)) (.int .i64 (n : Int))).run P w = .ok (.slice (some ⟨w.heap.size, 0, none⟩) n n) (w.alloc (.cells (ft (List.replicate n (0, 0, 0))).toArray e)) := by
  obtain ⟨i, hi, hzz⟩ := Option.map_eq_some_iff.1 hinfo
  simp only [Prod.mk.injEq] at hzz
  obtain ⟨hz, hs, hb⟩ := hzz
  have hr := run_make (P := P) w t e i _ ht hi hz .i64 .i64 n n (by omega) (Int.le_refl _) (by rw [hb]; omega) (by omega)
  simp only [Int.toNat_natCast, hs, made3] at hr
  exact hr
theorem infoT3 : (Try.prog.info? 118).map (fun i => (i.zero, i.size, i.bytes)) = some (some (.agg #[.int .i64 0, .int .i64 0, .int .i64 0]), 3, 24) := by kernel_rfl
set_option maxRecDepth 100000 in
set_option maxHeartbeats 4000000 in
theorem iRepeatT_any (g c : Nat) (x : Tri) (n : Nat) (w : World) (hx : Row w g 118 (ft [x])) (h0 : 0 < n) (hn : n ≤ 1048576) :
    Calls Try.prog 87 #[.slice (some ⟨g, 0, none⟩) 1 c, .int .i64 n] w fun e w' => e = .returned (.slice (some ⟨w.heap.size, 0, none⟩) n n) ∧ Row w' w.heap.size 118 (ft (List.replicate n x)) ∧ Below w.heap.size w w' := by
  have hM := Try.bits_Mul 1 n (by omega) (by omega) w
  rw [Nat.one_mul, Nat.div_eq_of_lt (show n < 18446744073709551616 by omega), Nat.mod_eq_of_lt (show n < 18446744073709551616 by omega)] at hM
  have hmk := run_make3 (P := Try.prog) 115 118 Try.underlying115 infoT3 n (by omega)
  have u1 : IntKind.u64.wrap (n : Int) = (n : Int) := IntWalk.u64_in _ (by omega)
  have u2 : IntKind.i64.wrap (n : Int) = (n : Int) := IntWalk.i64_in _ (by omega)
  have u3 : (0 : Int) ≤ (n : Int) := by omega
  have u4 : (n : Int) ≤ 9223372036854775807 := by omega
  go_enter Try.func87, Try.ntmps87
  have hgl := hx.lt
  have HX := Lib.hid hx; clear hx
  have hrow : Hid (∀ y : World, Row (y.alloc (.cells (ft (List.replicate n (0, 0, 0))).toArray 118)) y.heap.size 118 (rpT x 0 n)) := by
    intro y
    have := Row.new y 118 (ft (List.replicate n (0, 0, 0)))
    unfold rpT; simpa using this
  have hcs : Hid ((1 : Nat) = Nat.min 1 n) := by show _ = _; simp [Nat.min_def]; omega
  have hln1 : Hid ((rvT x 1).length = 1 * 3) := rvT_len x 1
  have hfit : Hid (0 + (rvT x 1).length ≤ (rpT x 0 n).length) := by show _ ≤ _; rw [rpT_len (by omega), rvT_len]; omega
  have hsrc : Hid (∀ j v, (rvT x 1)[j]? = some v → (w.alloc (.cells (ft (List.replicate n (0, 0, 0))).toArray 118)).cell? ((⟨g, 0, none⟩ : Addr).add j) = some v) := by
    intro j v hj
    have ea : (⟨g, 0, none⟩ : Addr).add j = ⟨g, j, none⟩ := by unfold Addr.add; by_cases h : j = 0 <;> simp [h]
    rw [ea]
    exact ((HX.out.alloc _).cell j).trans hj
  have hb0 : Hid (Below w.heap.size w (w.alloc (.cells (ft (List.replicate n (0, 0, 0))).toArray 118))) := (Below.refl _ _).alloc (Nat.le_refl _) _
  have hsz1 : (Try.prog.info? 118).map (·.size) = some 3 := by kernel_rfl
  have HS1 := Lib.hid hsz1; clear hsz1
  have hone := Lib.hid (ft_one (List.replicate 1 x))
  go_wp2_with (first | (go_at_call 104; refine hM.mono ?_; rintro e w' ⟨rfl, hw⟩; obtain rfl : w = w' := hw.symm; clear hM) | (refine wpList_copyN (o := ⟨some 33, _, _, _, _, _⟩) rfl (.tmp 31) (.tmp 32) 115 115 rfl 118 Try.underlying115 3 1 HS1.out w.heap.size 0 n n ⟨g, 0, none⟩ 1 c rfl rfl (rpT x 0 n) 118 (hrow.out w) (rvT x 1) hcs.out hln1.out hsrc.out hfit.out hone.out w.heap.size w hb0.out (Nat.le_refl _) ?_; intro w2 hg2 hb2))
  have HG : Hid (Row w2 w.heap.size 118 (rpT x 1 n)) := by
    have := hg2.out
    rw [show (0 : Nat) = 0 * 3 from rfl, rpT_splice (by omega)] at this
    exact this
  have HB := Lib.hid hb2
  clear hg2 hb2 hcs hfit hsrc hb0 hrow hmk hone hln1
  go_loopg [8] n (fun m t wr => ∃ k : Nat, t = .int .i64 k ∧ 0 < k ∧ k ≤ n ∧ n ≤ m + k ∧ Hid (Row wr w.heap.size 118 (rpT x k n)) ∧ Hid (Below w.heap.size w wr))
  case atStart => exact ⟨1, rfl, by omega, by omega, by omega, HG.out, HB.out⟩
  case round =>
    obtain ⟨k, rfl, hk0, hk, hm, HR, HBr⟩ := hrel
    by_cases hlt : k < n
    · obtain ⟨m, hm'⟩ : ∃ m, m = Nat.min k (n - k) := ⟨_, rfl⟩
      have hmle : k + m ≤ n := by rw [hm']; simp only [Nat.min_def]; split <;> omega
      have hmpos : 0 < m := by rw [hm']; simp only [Nat.min_def]; split <;> omega
      have hmk : m ≤ k := by rw [hm']; exact Nat.min_le_left _ _
      have hcs := Lib.hid hm'
      have hln : Hid ((rvT x m).length = m * 3) := rvT_len x m
      have hfit : Hid (k * 3 + (rvT x m).length ≤ (rpT x k n).length) := by show _ ≤ _; rw [rpT_len hk, rvT_len]; omega
      have hone := Lib.hid (ft_one (List.replicate m x))
      clear hm'
      have w1 : IntKind.i64.wrap ((k : Int) + (m : Int)) = (k : Int) + (m : Int) := IntWalk.i64_in _ (by omega)
      have l0 : (0 : Int) ≤ (k : Int) := by omega
      have l1 : (k : Int) ≤ (n : Int) := by omega
      have l2 : (k : Int) < (n : Int) := by omega
      have hne : ¬ n = k := by omega
      have hsrc : Hid (∀ j v, (rvT x m)[j]? = some v → wr.drew.cell? ((⟨w.heap.size, 0, none⟩ : Addr).add j) = some v) := by
        intro j v hj
        have ea : (⟨w.heap.size, 0, none⟩ : Addr).add j = ⟨w.heap.size, j, none⟩ := by unfold Addr.add; by_cases h : j = 0 <;> simp [h]
        rw [ea]
        exact (HR.out.cell j).trans (rpT_get hmk hj)
      go_wp2_with fail
      go_region_law (refine step_copyN rfl (.tmp 41) (.tmp 44) 115 115 rfl 118 Try.underlying115 3 m HS1.out w.heap.size (k * 3) (n - k) (n - k) ⟨w.heap.size, 0, none⟩ k n ?_ ?_ (rpT x k n) 118 HR.out.drew (rvT x m) hcs.out hln.out hsrc.out hfit.out hone.out w.heap.size w (Below.drew HBr.out) (Nat.le_refl _) ?_; (first | rfl | simp [Act.eval, Act.put, hne]); (first | rfl | simp [Act.eval, Act.put, hne]); intro w4 hg4 hb4)
      all_goals
        go_wp2_with fail
        go_roundg (gk - m)
        case measure => omega
        case rel =>
          have hrow := hg4.out
          rw [rpT_splice hmle] at hrow
          exact ⟨k + m, by go_num, by omega, hmle, by omega, hrow, hb4⟩
    · obtain rfl : n = k := by omega
      go_wp2_with fail
      go_ret
      refine ⟨rfl, ?_, HBr.out⟩
      rw [← rpT_full]; exact HR.out
end Go.Proofs.Ytkfmjnefbimecaa
