/- Several texts in one: math/bits.Mul: the contract of the shelf, laid at this program by the kit's lay-shelf and lay-plain. slices.Repeat of one number. Machines: what is given back if it is valid; arcs with later states; lists of -1. -/
import Derived.Shelf.Bits.Mul64
import Derived.Test.YtedbngnkkfpbeaaRows
import Derived.Test.YtedbngnkkfpbeaaMem
import Derived.Test.YtedbngnkkfpbeaaMgd
import Derived.Laws.CopyOwn
import Derived.Deep.RegionLaw
import Derived.Test.YtedbngnkkfpbeaaVm
import Derived.Test.YtedbngnkkfpbeaaMachineOw
import Derived.Test.YtedbngnkkfpbeaaStO
import Derived.Test.YtedbngnkkfpbeaaTab

namespace Go.Proofs
open Go.Shelf
def Try.lays212_ren : Go.Shelf.Ren := ⟨fun | 212 => 77 | 263 => 80 | 264 => 81 | n => n, fun | 46 => 105 | 51 => 111 | 146 => 112 | 53 => 85 | 148 => 114 | n => n, fun | n => n⟩
theorem Try.lays212 : Go.Proofs.Lays.n212 Try.prog Try.lays212_ren := {
  mixed := by kernel_rfl
  f212 := Try.func77.trans (congrArg some (by kernel_rfl))
  f263 := Try.func80.trans (congrArg some (by kernel_rfl))
  f264 := Try.func81.trans (congrArg some (by kernel_rfl))
  t46 := Try.underlying105
  a46 := Try.isAgg105
  z46 := Try.sizeOf105
  v46 := Try.zeroValue105
  t51 := Try.underlying111
  a51 := Try.isAgg111
  z51 := Try.sizeOf111
  v51 := Try.zeroValue111
  t53 := Try.underlying85
  a53 := Try.isAgg85
  z53 := Try.sizeOf85
  v53 := Try.zeroValue85
  t146 := Try.underlying112
  a146 := Try.isAgg112
  z146 := Try.sizeOf112
  v146 := Try.zeroValue112
  t148 := Try.underlying114
  a148 := Try.isAgg114
  z148 := Try.sizeOf114
  v148 := Try.zeroValue114 }
open Go.RowKit Go.Lib in
theorem Try.bits_Mul (x y : Nat) (hx : x < 18446744073709551616) (hy : y < 18446744073709551616) (w : World) :
    Calls Try.prog 77 #[.int .u64 x, .int .u64 y] w fun e w' => e = .returned (.tuple #[.int .u64 ((x * y / 18446744073709551616 : Nat) : Int), .int .u64 ((x * y % 18446744073709551616 : Nat) : Int)]) ∧ w' = w := Any.bits_Mul Try.lays212 x y hx hy w
end Go.Proofs


namespace Go.Proofs.Ytedbngnkkfpbeaa
open Go.RowKit
set_option linter.unusedVariables false
/-- k times x, then zeros up to n. -/
def rpt (x : Int) (k n : Nat) : List Value := fill (List.replicate k (.int .i64 x)) n (.int .i64 0)
/-- m times x, as cells. -/
def rv (x : Int) (m : Nat) : List Value := List.replicate m (.int .i64 x)
theorem rv_len (x : Int) (m : Nat) : (rv x m).length = m := by simp [rv]
theorem rv_get {x : Int} {m j : Nat} {v : Value} (h : (rv x m)[j]? = some v) : j < m ∧ v = .int .i64 x := by
  unfold rv at h
  rw [List.getElem?_replicate] at h
  split at h
  · rename_i hj; exact ⟨hj, (Option.some.inj h).symm⟩
  · cases h
theorem rv_one (x : Int) (m : Nat) : ∀ v ∈ rv x m, v.oneCell' = true := by
  intro v hv; unfold rv at hv; rw [List.mem_replicate] at hv; rw [hv.2]; rfl
theorem rpt_len {x : Int} {k n : Nat} (h : k ≤ n) : (rpt x k n).length = n := fill_length (by simp; omega)
theorem rpt_splice {x : Int} {k m n : Nat} (h : k + m ≤ n) : splice (rpt x k n) k (rv x m) = rpt x (k + m) n := by
  unfold splice rpt fill rv
  simp only [List.length_replicate]
  rw [List.take_append_of_le_length (by simp), List.take_of_length_le (by simp)]
  rw [List.drop_append, List.length_replicate, List.drop_eq_nil_of_le (by simp), List.nil_append, List.drop_replicate, ← List.append_assoc, List.replicate_append_replicate]
  congr 2
  omega
theorem rpt_get {x : Int} {k n j : Nat} (h : j < k) : (rpt x k n)[j]? = some (.int .i64 x) := by
  unfold rpt; rw [fill_old (by simpa using h), List.getElem?_replicate, if_pos h]
theorem rpt_full (x : Int) (n : Nat) : rpt x n n = iv (List.replicate n x) := by
  unfold rpt; rw [fill_full (by simp)]; simp [iv]
set_option maxRecDepth 100000 in
set_option maxHeartbeats 4000000 in
theorem iRepeat1_any (g c : Nat) (x : Int) (n : Nat) (w : World) (hx : w.cell? ⟨g, 0, none⟩ = some (.int .i64 x)) (h0 : 0 < n) (hn : n ≤ 1048576) :
    Calls Try.prog 63 #[.slice (some ⟨g, 0, none⟩) 1 c, .int .i64 n] w fun e w' => ∃ g', e = .returned (.slice (some ⟨g', 0, none⟩) n n) ∧ w.heap.size ≤ g' ∧ Row w' g' 2 (iv (List.replicate n x)) ∧ Below w.heap.size w w' := by
  have hM := Try.bits_Mul 1 n (by omega) (by omega) w
  rw [Nat.one_mul, Nat.div_eq_of_lt (show n < 18446744073709551616 by omega), Nat.mod_eq_of_lt (show n < 18446744073709551616 by omega)] at hM
  have hmk := run_make_row' (P := Try.prog) 26 2 (.int .i64 0) 8 Try.underlying26 infoQ rfl .i64 .i64 n (by omega) (by omega)
  have u1 : IntKind.u64.wrap (n : Int) = (n : Int) := IntWalk.u64_in _ (by omega)
  have u2 : IntKind.i64.wrap (n : Int) = (n : Int) := IntWalk.i64_in _ (by omega)
  have u3 : (0 : Int) ≤ (n : Int) := by omega
  have u4 : (n : Int) ≤ 9223372036854775807 := by omega
  go_enter Try.func63, Try.ntmps63
  have HX := Lib.hid hx; clear hx
  have hrow : Hid (∀ y : World, Row (y.alloc (.cells (madeCells #[.int .i64 0] n) 2)) y.heap.size 2 (rpt x 0 n)) := by
    intro y
    have := Row.made y (.int .i64 0) n 2
    unfold rpt; rw [List.replicate_zero, fill_nil]; exact this
  have hcs : Hid ((rv x 1).length = Nat.min 1 n) := by show _ = _; rw [rv_len]; simp [Nat.min_def]; omega
  have hfit : Hid (0 + (rv x 1).length ≤ (rpt x 0 n).length) := by show _ ≤ _; rw [rpt_len (by omega), rv_len]; omega
  have hsrc : Hid (∀ j v, (rv x 1)[j]? = some v → (w.alloc (.cells (madeCells #[.int .i64 0] n) 2)).cell? ((⟨g, 0, none⟩ : Addr).add j) = some v) := by
    intro j v hj
    obtain ⟨h1, rfl⟩ := rv_get hj
    obtain rfl : j = 0 := by omega
    have ea : (⟨g, 0, none⟩ : Addr).add 0 = ⟨g, 0, none⟩ := by simp [Addr.add]
    rw [ea]
    exact (World.cell?_alloc_lt w _ ⟨g, 0, none⟩ (World.block_lt_of_cell? _ _ HX.out)).trans HX.out
  have hb0 : Hid (Below w.heap.size w (w.alloc (.cells (madeCells #[.int .i64 0] n) 2))) := (Below.refl _ _).alloc (Nat.le_refl _) _
  have hsz1 : (Try.prog.info? 2).map (·.size) = some 1 := by kernel_rfl
  have HS1 := Lib.hid hsz1; clear hsz1
  have hl1 := Lib.hid (rv_len x 1)
  obtain ⟨q1, hq1⟩ : ∃ q, q = (rv x 1).length := ⟨_, rfl⟩
  go_wp2_with (first | (go_at_call 77; refine hM.mono ?_; rintro e w' ⟨rfl, hw⟩; obtain rfl : w = w' := hw.symm; clear hM) | (refine wpList_copy_splice (o := ⟨some 33, _, _, _, _, _⟩) rfl (.tmp 31) (.tmp 32) 26 26 rfl 2 Try.underlying26 HS1.out (some ⟨w.heap.size, 0, none⟩) (some ⟨g, 0, none⟩) n n 1 c rfl rfl w.heap.size 0 (rpt x 0 n) 2 (hrow.out w) (rv x 1) hcs.out (fun _ => ⟨rfl, _, rfl, hsrc.out⟩) hfit.out (rv_one x 1) w.heap.size w hb0.out (Nat.le_refl _) ?_; rw [show goInt (rv x 1).length = .int .i64 1 from by rw [rv_len]; rfl]; intro w2 hg2 hb2))
  have HG : Hid (Row w2 w.heap.size 2 (rpt x 1 n)) := by
    have := hg2.out
    rw [rpt_splice (by omega)] at this
    exact this
  have HB := Lib.hid hb2
  clear hg2 hb2 hcs hfit hsrc hb0 hrow hmk hl1 hq1
  go_loopg [8] n (fun m t wr => ∃ k : Nat, t = .int .i64 k ∧ 0 < k ∧ k ≤ n ∧ n ≤ m + k ∧ Hid (Row wr w.heap.size 2 (rpt x k n)) ∧ Hid (Below w.heap.size w wr))
  case atStart => exact ⟨1, rfl, by omega, by omega, by omega, HG.out, HB.out⟩
  case round =>
    obtain ⟨k, rfl, hk0, hk, hm, HR, HBr⟩ := hrel
    by_cases hlt : k < n
    · obtain ⟨m, hm'⟩ : ∃ m, m = Nat.min k (n - k) := ⟨_, rfl⟩
      have hmle : k + m ≤ n := by rw [hm']; simp only [Nat.min_def]; split <;> omega
      have hmpos : 0 < m := by rw [hm']; simp only [Nat.min_def]; split <;> omega
      have hmk : m ≤ k := by rw [hm']; exact Nat.min_le_left _ _
      have hcs : Hid ((rv x m).length = Nat.min k (n - k)) := by show _ = _; rw [rv_len, hm']
      have hfit : Hid (k + (rv x m).length ≤ (rpt x k n).length) := by show _ ≤ _; rw [rpt_len hk, rv_len]; exact hmle
      clear hm'
      have w1 : IntKind.i64.wrap ((k : Int) + (m : Int)) = (k : Int) + (m : Int) := IntWalk.i64_in _ (by omega)
      have l0 : (0 : Int) ≤ (k : Int) := by omega
      have l1 : (k : Int) ≤ (n : Int) := by omega
      have l2 : (k : Int) < (n : Int) := by omega
      have hne : ¬ n = k := by omega
      have hsrc : Hid (∀ j v, (rv x m)[j]? = some v → wr.drew.cell? ((⟨w.heap.size, 0, none⟩ : Addr).add j) = some v) := by
        intro j v hj
        obtain ⟨h1, rfl⟩ := rv_get hj
        have ea : (⟨w.heap.size, 0, none⟩ : Addr).add j = ⟨w.heap.size, j, none⟩ := by unfold Addr.add; by_cases h : j = 0 <;> simp [h]
        rw [ea]
        exact (HR.out.cell j).trans (rpt_get (by omega))
      have hgo : goInt (rv x m).length = .int .i64 (m : Int) := by rw [rv_len]; rfl
      have HGO := Lib.hid hgo; clear hgo
      go_wp2_with fail
      go_region_law (refine step_copy_splice rfl (.tmp 41) (.tmp 44) 26 26 rfl 2 Try.underlying26 HS1.out (some ⟨w.heap.size, k, none⟩) (some ⟨w.heap.size, 0, none⟩) (n - k) (n - k) k n ?_ ?_ w.heap.size k (rpt x k n) 2 HR.out.drew (rv x m) hcs.out (fun _ => ⟨rfl, _, rfl, hsrc.out⟩) hfit.out (rv_one x m) w.heap.size w (Below.drew HBr.out) (Nat.le_refl _) ?_; (first | rfl | simp [Act.eval, Act.put, hne]); (first | rfl | simp [Act.eval, Act.put, hne]); rw [HGO.out]; intro w4 hg4 hb4)
      all_goals
        go_wp2_with fail
        go_roundg (gk - m)
        case measure => omega
        case rel =>
          have hrow := hg4.out
          rw [rpt_splice hmle] at hrow
          exact ⟨k + m, by go_num, by omega, hmle, by omega, hrow, hb4⟩
    · obtain rfl : n = k := by omega
      go_wp2_with fail
      go_ret
      refine ⟨_, rfl, Nat.le_refl _, ?_, HBr.out⟩
      rw [← rpt_full]; exact HR.out
end Go.Proofs.Ytedbngnkkfpbeaa


namespace Go.Proofs.Ytedbngnkkfpbeaa
open Go.RowKit
set_option linter.unusedVariables false
def ckV (ok : Bool) (v : Value) : Value := if ok then v else .agg #[.int .i64 0, .int .i64 0, .slice none 0 0, .slice none 0 0, .slice none 0 0]
def ckI (ok : Bool) (x : Int) : Int := if ok then x else 0
def ckL {α : Type} (ok : Bool) (xs : List α) : List α := if ok then xs else []
theorem ckL_len {α : Type} {ok : Bool} {xs : List α} {n : Nat} (h : ok = true → xs.length ≤ n) : (ckL ok xs).length ≤ n := by
  cases ok
  · exact Nat.zero_le _
  · exact h rfl
/-- What is handed out of a machine that has been looked at. -/
theorem ckO {w : World} {lo hi : Nat} {v : Value} {S T : Int} {L : List A4} {P E : List Int} (ok : Bool) (h : McO w lo hi v S T L P E) : McO w lo hi (ckV ok v) (ckI ok S) (ckI ok T) (ckL ok L) (ckL ok P) (ckL ok E) := by
  cases ok
  · exact ⟨_, _, _, rfl, OwnV.nil _ _ _ _ _, OwnV.nil _ _ _ _ _, OwnV.nil _ _ _ _ _, fun k hk => by simp [Value.ownBlock] at hk, fun k hk => by simp [Value.ownBlock] at hk, fun k hk => by simp [Value.ownBlock] at hk⟩
  · exact h
/-- Arcs with later states. -/
def mvA (by' : Int) (a : A4) : A4 := (a.1 + by', a.2.1 + by', a.2.2.1, a.2.2.2)
theorem mv_succ {L : List A4} {k : Nat} {a : A4} {d : Int} (h : L[k]? = some a) : fa ((L.take (k + 1)).map (mvA d)) = fa ((L.take k).map (mvA d)) ++ [.int .i64 (a.1 + d), .int .i64 (a.2.1 + d), .int .i64 a.2.2.1, .int .i64 a.2.2.2] := by
  obtain ⟨hk, rfl⟩ := List.getElem?_eq_some_iff.1 h
  rw [List.take_succ_eq_append_getElem hk, List.map_append, fa_append]; rfl
end Go.Proofs.Ytedbngnkkfpbeaa
