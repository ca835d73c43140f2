/- Several texts in one: math/bits.Mul: the contract of the shelf, laid at this program by the kit's lay-shelf and lay-plain. slices.Repeat of one float. -/
import Derived.Shelf.Bits.Mul64
import Derived.Test.YtomofghiafcefaaRows
import Derived.Test.YtomofghiafcefaaMem
import Derived.Test.YtomofghiafcefaaMgc
import Derived.Test.YtomofghiafcefaaOwn
import Derived.Test.YtomofghiafcefaaFl
import Derived.Laws.CopyOwn
import Derived.Deep.RegionLaw

namespace Go.Proofs
open Go.Shelf
def Try.lays212_ren : Go.Shelf.Ren := ⟨fun | 212 => 39 | 263 => 46 | 264 => 47 | n => n, fun | 46 => 56 | 51 => 61 | 146 => 62 | 53 => 64 | 148 => 65 | n => n, fun | n => n⟩
theorem Try.lays212 : Go.Proofs.Lays.n212 Try.prog Try.lays212_ren := {
  mixed := by kernel_rfl
  f212 := Try.func39.trans (congrArg some (by kernel_rfl))
  f263 := Try.func46.trans (congrArg some (by kernel_rfl))
  f264 := Try.func47.trans (congrArg some (by kernel_rfl))
  t46 := Try.underlying56
  a46 := Try.isAgg56
  z46 := Try.sizeOf56
  v46 := Try.zeroValue56
  t51 := Try.underlying61
  a51 := Try.isAgg61
  z51 := Try.sizeOf61
  v51 := Try.zeroValue61
  t53 := Try.underlying64
  a53 := Try.isAgg64
  z53 := Try.sizeOf64
  v53 := Try.zeroValue64
  t146 := Try.underlying62
  a146 := Try.isAgg62
  z146 := Try.sizeOf62
  v146 := Try.zeroValue62
  t148 := Try.underlying65
  a148 := Try.isAgg65
  z148 := Try.sizeOf65
  v148 := Try.zeroValue65 }
open Go.RowKit Go.Lib in
theorem Try.bits_Mul (x y : Nat) (hx : x < 18446744073709551616) (hy : y < 18446744073709551616) (w : World) :
    Calls Try.prog 39 #[.int .u64 x, .int .u64 y] w fun e w' => e = .returned (.tuple #[.int .u64 ((x * y / 18446744073709551616 : Nat) : Int), .int .u64 ((x * y % 18446744073709551616 : Nat) : Int)]) ∧ w' = w := Any.bits_Mul Try.lays212 x y hx hy w
end Go.Proofs


namespace Go.Proofs.Ytomofghiafcefaa
open Go.RowKit
set_option linter.unusedVariables false
/-- k times x, then zeros up to n. -/
def rptF (x : F32) (k n : Nat) : List Value := fill (List.replicate k (.float .f32 x.b)) n (.float .f32 0)
/-- m times x, as cells. -/
def rvF (x : F32) (m : Nat) : List Value := List.replicate m (.float .f32 x.b)
theorem rvF_len (x : F32) (m : Nat) : (rvF x m).length = m := by simp [rvF]
theorem rvF_get {x : F32} {m j : Nat} {v : Value} (h : (rvF x m)[j]? = some v) : j < m ∧ v = .float .f32 x.b := by
  unfold rvF at h
  rw [List.getElem?_replicate] at h
  split at h
  · rename_i hj; exact ⟨hj, (Option.some.inj h).symm⟩
  · cases h
theorem rvF_one (x : F32) (m : Nat) : ∀ v ∈ rvF x m, v.oneCell' = true := by
  intro v hv; unfold rvF at hv; rw [List.mem_replicate] at hv; rw [hv.2]; rfl
theorem rptF_len {x : F32} {k n : Nat} (h : k ≤ n) : (rptF x k n).length = n := fill_length (by simp; omega)
theorem rptF_splice {x : F32} {k m n : Nat} (h : k + m ≤ n) : splice (rptF x k n) k (rvF x m) = rptF x (k + m) n := by
  unfold splice rptF fill rvF
  simp only [List.length_replicate]
  rw [List.take_append_of_le_length (by simp), List.take_of_length_le (by simp)]
  rw [List.drop_append, List.length_replicate, List.drop_eq_nil_of_le (by simp), List.nil_append, List.drop_replicate, ← List.append_assoc, List.replicate_append_replicate]
  congr 2
  omega
theorem rptF_get {x : F32} {k n j : Nat} (h : j < k) : (rptF x k n)[j]? = some (.float .f32 x.b) := by
  unfold rptF; rw [fill_old (by simpa using h), List.getElem?_replicate, if_pos h]
theorem rptF_full (x : F32) (n : Nat) : rptF x n n = fv (List.replicate n x) := by
  unfold rptF; rw [fill_full (by simp)]; simp [fv]
set_option maxRecDepth 100000 in
set_option maxHeartbeats 4000000 in
theorem iRepeatF_any (g c : Nat) (x : F32) (n : Nat) (w : World) (hx : w.cell? ⟨g, 0, none⟩ = some (.float .f32 x.b)) (h0 : 0 < n) (hn : n ≤ 1048576) :
    Calls Try.prog 26 #[.slice (some ⟨g, 0, none⟩) 1 c, .int .i64 n] w fun e w' => ∃ g', e = .returned (.slice (some ⟨g', 0, none⟩) n n) ∧ w.heap.size ≤ g' ∧ Row w' g' 25 (fv (List.replicate n x)) ∧ Below w.heap.size w w' := by
  have hM := Try.bits_Mul 1 n (by omega) (by omega) w
  rw [Nat.one_mul, Nat.div_eq_of_lt (show n < 18446744073709551616 by omega), Nat.mod_eq_of_lt (show n < 18446744073709551616 by omega)] at hM
  have hmk := run_make_row' (P := Try.prog) 22 25 (.float .f32 0) 4 Try.underlying22 infoF32 rfl .i64 .i64 n (by omega) (by omega)
  have u1 : IntKind.u64.wrap (n : Int) = (n : Int) := IntWalk.u64_in _ (by omega)
  have u2 : IntKind.i64.wrap (n : Int) = (n : Int) := IntWalk.i64_in _ (by omega)
  have u3 : (0 : Int) ≤ (n : Int) := by omega
  have u4 : (n : Int) ≤ 9223372036854775807 := by omega
  go_enter Try.func26, Try.ntmps26
  have HX := Lib.hid hx; clear hx
  have hrow : Hid (∀ y : World, Row (y.alloc (.cells (madeCells #[.float .f32 0] n) 25)) y.heap.size 25 (rptF x 0 n)) := by
    intro y
    have := Row.made y (.float .f32 0) n 25
    unfold rptF; rw [List.replicate_zero, fill_nil]; exact this
  have hcs : Hid ((rvF x 1).length = Nat.min 1 n) := by show _ = _; rw [rvF_len]; simp [Nat.min_def]; omega
  have hfit : Hid (0 + (rvF x 1).length ≤ (rptF x 0 n).length) := by show _ ≤ _; rw [rptF_len (by omega), rvF_len]; omega
  have hsrc : Hid (∀ j v, (rvF x 1)[j]? = some v → (w.alloc (.cells (madeCells #[.float .f32 0] n) 25)).cell? ((⟨g, 0, none⟩ : Addr).add j) = some v) := by
    intro j v hj
    obtain ⟨h1, rfl⟩ := rvF_get hj
    obtain rfl : j = 0 := by omega
    have ea : (⟨g, 0, none⟩ : Addr).add 0 = ⟨g, 0, none⟩ := by simp [Addr.add]
    rw [ea]
    exact (World.cell?_alloc_lt w _ ⟨g, 0, none⟩ (World.block_lt_of_cell? _ _ HX.out)).trans HX.out
  have hb0 : Hid (Below w.heap.size w (w.alloc (.cells (madeCells #[.float .f32 0] n) 25))) := (Below.refl _ _).alloc (Nat.le_refl _) _
  have hsz1 : (Try.prog.info? 25).map (·.size) = some 1 := by kernel_rfl
  have HS1 := Lib.hid hsz1; clear hsz1
  have hl1 := Lib.hid (rvF_len x 1)
  obtain ⟨q1, hq1⟩ : ∃ q, q = (rvF x 1).length := ⟨_, rfl⟩
  go_wp2_with (first | (go_at_call 39; refine hM.mono ?_; rintro e w' ⟨rfl, hw⟩; obtain rfl : w = w' := hw.symm; clear hM) | (refine wpList_copy_splice (o := ⟨some 33, _, _, _, _, _⟩) rfl (.tmp 31) (.tmp 32) 22 22 rfl 25 Try.underlying22 HS1.out (some ⟨w.heap.size, 0, none⟩) (some ⟨g, 0, none⟩) n n 1 c rfl rfl w.heap.size 0 (rptF x 0 n) 25 (hrow.out w) (rvF x 1) hcs.out (fun _ => ⟨rfl, _, rfl, hsrc.out⟩) hfit.out (rvF_one x 1) w.heap.size w hb0.out (Nat.le_refl _) ?_; rw [show goInt (rvF x 1).length = .int .i64 1 from by rw [rvF_len]; rfl]; intro w2 hg2 hb2))
  have HG : Hid (Row w2 w.heap.size 25 (rptF x 1 n)) := by
    have := hg2.out
    rw [rptF_splice (by omega)] at this
    exact this
  have HB := Lib.hid hb2
  clear hg2 hb2 hcs hfit hsrc hb0 hrow hmk hl1 hq1
  go_loopg [8] n (fun m t wr => ∃ k : Nat, t = .int .i64 k ∧ 0 < k ∧ k ≤ n ∧ n ≤ m + k ∧ Hid (Row wr w.heap.size 25 (rptF x k n)) ∧ Hid (Below w.heap.size w wr))
  case atStart => exact ⟨1, rfl, by omega, by omega, by omega, HG.out, HB.out⟩
  case round =>
    obtain ⟨k, rfl, hk0, hk, hm, HR, HBr⟩ := hrel
    by_cases hlt : k < n
    · obtain ⟨m, hm'⟩ : ∃ m, m = Nat.min k (n - k) := ⟨_, rfl⟩
      have hmle : k + m ≤ n := by rw [hm']; simp only [Nat.min_def]; split <;> omega
      have hmpos : 0 < m := by rw [hm']; simp only [Nat.min_def]; split <;> omega
      have hmk : m ≤ k := by rw [hm']; exact Nat.min_le_left _ _
      have hcs : Hid ((rvF x m).length = Nat.min k (n - k)) := by show _ = _; rw [rvF_len, hm']
      have hfit : Hid (k + (rvF x m).length ≤ (rptF x k n).length) := by show _ ≤ _; rw [rptF_len hk, rvF_len]; exact hmle
      clear hm'
      have w1 : IntKind.i64.wrap ((k : Int) + (m : Int)) = (k : Int) + (m : Int) := IntWalk.i64_in _ (by omega)
      have l0 : (0 : Int) ≤ (k : Int) := by omega
      have l1 : (k : Int) ≤ (n : Int) := by omega
      have l2 : (k : Int) < (n : Int) := by omega
      have hne : ¬ n = k := by omega
      have hsrc : Hid (∀ j v, (rvF x m)[j]? = some v → wr.drew.cell? ((⟨w.heap.size, 0, none⟩ : Addr).add j) = some v) := by
        intro j v hj
        obtain ⟨h1, rfl⟩ := rvF_get hj
        have ea : (⟨w.heap.size, 0, none⟩ : Addr).add j = ⟨w.heap.size, j, none⟩ := by unfold Addr.add; by_cases h : j = 0 <;> simp [h]
        rw [ea]
        exact (HR.out.cell j).trans (rptF_get (by omega))
      have hgo : goInt (rvF x m).length = .int .i64 (m : Int) := by rw [rvF_len]; rfl
      have HGO := Lib.hid hgo; clear hgo
      go_wp2_with fail
      go_region_law (refine step_copy_splice rfl (.tmp 41) (.tmp 44) 22 22 rfl 25 Try.underlying22 HS1.out (some ⟨w.heap.size, k, none⟩) (some ⟨w.heap.size, 0, none⟩) (n - k) (n - k) k n ?_ ?_ w.heap.size k (rptF x k n) 25 HR.out.drew (rvF x m) hcs.out (fun _ => ⟨rfl, _, rfl, hsrc.out⟩) hfit.out (rvF_one x m) w.heap.size w (Below.drew HBr.out) (Nat.le_refl _) ?_; (first | rfl | simp [Act.eval, Act.put, hne]); (first | rfl | simp [Act.eval, Act.put, hne]); rw [HGO.out]; intro w4 hg4 hb4)
      all_goals
        go_wp2_with fail
        go_roundg (gk - m)
        case measure => omega
        case rel =>
          have hrow := hg4.out
          rw [rptF_splice hmle] at hrow
          exact ⟨k + m, by go_num, by omega, hmle, by omega, hrow, hb4⟩
    · obtain rfl : n = k := by omega
      go_wp2_with fail
      go_ret
      refine ⟨_, rfl, Nat.le_refl _, ?_, HBr.out⟩
      rw [← rptF_full]; exact HR.out
end Go.Proofs.Ytomofghiafcefaa
