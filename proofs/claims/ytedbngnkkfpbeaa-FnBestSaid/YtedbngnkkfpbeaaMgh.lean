/- Several texts in one: math/bits.Mul: the contract of the shelf, laid at this program by the kit's lay-shelf and lay-plain. slices.Repeat of one number. Machines: what is given back if it is valid; arcs with later states; lists of -1. The costs of a word, in the program: its helper functions. -/
import Derived.Shelf.Bits.Mul64
import Derived.Test.YtedbngnkkfpbeaaRows
import Derived.Test.YtedbngnkkfpbeaaMga
import Derived.Test.YtedbngnkkfpbeaaMge
import Derived.Test.YtedbngnkkfpbeaaMgf
import Derived.Laws.CopyOwn
import Derived.Deep.RegionLaw
import Derived.Test.YtedbngnkkfpbeaaVm
import Derived.Test.YtedbngnkkfpbeaaMgg
import Derived.Test.YtedbngnkkfpbeaaStO
import Derived.Test.YtedbngnkkfpbeaaTab

namespace Go.Proofs
open Go.Shelf
def Try.lays212_ren : Go.Shelf.Ren := ⟨fun | 212 => 77 | 263 => 80 | 264 => 81 | n => n, fun | 46 => 105 | 51 => 111 | 146 => 112 | 53 => 85 | 148 => 114 | n => n, fun | n => n⟩
theorem Try.lays212 : Go.Proofs.Lays.n212 Try.prog Try.lays212_ren := {
  mixed := by kernel_rfl
  f212 := Try.func77.trans (congrArg some (by kernel_rfl))
  f263 := Try.func80.trans (congrArg some (by kernel_rfl))
  f264 := Try.func81.trans (congrArg some (by kernel_rfl))
  t46 := Try.underlying105
  a46 := Try.isAgg105
  z46 := Try.sizeOf105
  v46 := Try.zeroValue105
  t51 := Try.underlying111
  a51 := Try.isAgg111
  z51 := Try.sizeOf111
  v51 := Try.zeroValue111
  t53 := Try.underlying85
  a53 := Try.isAgg85
  z53 := Try.sizeOf85
  v53 := Try.zeroValue85
  t146 := Try.underlying112
  a146 := Try.isAgg112
  z146 := Try.sizeOf112
  v146 := Try.zeroValue112
  t148 := Try.underlying114
  a148 := Try.isAgg114
  z148 := Try.sizeOf114
  v148 := Try.zeroValue114 }
open Go.RowKit Go.Lib in
theorem Try.bits_Mul (x y : Nat) (hx : x < 18446744073709551616) (hy : y < 18446744073709551616) (w : World) :
    Calls Try.prog 77 #[.int .u64 x, .int .u64 y] w fun e w' => e = .returned (.tuple #[.int .u64 ((x * y / 18446744073709551616 : Nat) : Int), .int .u64 ((x * y % 18446744073709551616 : Nat) : Int)]) ∧ w' = w := Any.bits_Mul Try.lays212 x y hx hy w
end Go.Proofs


namespace Go.Proofs.Ytedbngnkkfpbeaa
open Go.RowKit
set_option linter.unusedVariables false
/-- k times x, then zeros up to n. -/
def rpt (x : Int) (k n : Nat) : List Value := fill (List.replicate k (.int .i64 x)) n (.int .i64 0)
/-- m times x, as cells. -/
def rv (x : Int) (m : Nat) : List Value := List.replicate m (.int .i64 x)
theorem rv_len (x : Int) (m : Nat) : (rv x m).length = m := by simp [rv]
theorem rv_get {x : Int} {m j : Nat} {v : Value} (h : (rv x m)[j]? = some v) : j < m ∧ v = .int .i64 x := by
  unfold rv at h
  rw [List.getElem?_replicate] at h
  split at h
  · rename_i hj; exact ⟨hj, (Option.some.inj h).symm⟩
  · cases h
theorem rv_one (x : Int) (m : Nat) : ∀ v ∈ rv x m, v.oneCell' = true := by
  intro v hv; unfold rv at hv; rw [List.mem_replicate] at hv; rw [hv.2]; rfl
theorem rpt_len {x : Int} {k n : Nat} (h : k ≤ n) : (rpt x k n).length = n := fill_length (by simp; omega)
theorem rpt_splice {x : Int} {k m n : Nat} (h : k + m ≤ n) : splice (rpt x k n) k (rv x m) = rpt x (k + m) n := by
  unfold splice rpt fill rv
  simp only [List.length_replicate]
  rw [List.take_append_of_le_length (by simp), List.take_of_length_le (by simp)]
  rw [List.drop_append, List.length_replicate, List.drop_eq_nil_of_le (by simp), List.nil_append, List.drop_replicate, ← List.append_assoc, List.replicate_append_replicate]
  congr 2
  omega
theorem rpt_get {x : Int} {k n j : Nat} (h : j < k) : (rpt x k n)[j]? = some (.int .i64 x) := by
  unfold rpt; rw [fill_old (by simpa using h), List.getElem?_replicate, if_pos h]
theorem rpt_full (x : Int) (n : Nat) : rpt x n n = iv (List.replicate n x) := by
  unfold rpt; rw [fill_full (by simp)]; simp [iv]
set_option maxRecDepth 100000 in
set_option maxHeartbeats 4000000 in
theorem iRepeat1_any (g c : Nat) (x : Int) (n : Nat) (w : World) (hx : w.cell? ⟨g, 0, none⟩ = some (.int .i64 x)) (h0 : 0 < n) (hn : n ≤ 1048576) :
    Calls Try.prog 63 #[.slice (some ⟨g, 0, none⟩) 1 c, .int .i64 n] w fun e w' => ∃ g', e = .returned (.slice (some ⟨g', 0, none⟩) n n) ∧ w.heap.size ≤ g' ∧ Row w' g' 2 (iv (List.replicate n x)) ∧ Below w.heap.size w w' := by
  have hM := Try.bits_Mul 1 n (by omega) (by omega) w
  rw [Nat.one_mul, Nat.div_eq_of_lt (show n < 18446744073709551616 by omega), Nat.mod_eq_of_lt (show n < 18446744073709551616 by omega)] at hM
  have hmk := run_make_row' (P := Try.prog) 26 2 (.int .i64 0) 8 Try.underlying26 infoQ rfl .i64 .i64 n (by omega) (by omega)
  have u1 : IntKind.u64.wrap (n : Int) = (n : Int) := IntWalk.u64_in _ (by omega)
  have u2 : IntKind.i64.wrap (n : Int) = (n : Int) := IntWalk.i64_in _ (by omega)
  have u3 : (0 : Int) ≤ (n : Int) := by omega
  have u4 : (n : Int) ≤ 9223372036854775807 := by omega
  go_enter Try.func63, Try.ntmps63
  have HX := Lib.hid hx; clear hx
  have hrow : Hid (∀ y : World, Row (y.alloc (.cells (madeCells #[.int .i64 0] n) 2)) y.heap.size 2 (rpt x 0 n)) := by
    intro y
    have := Row.made y (.int .i64 0) n 2
    unfold rpt; rw [List.replicate_zero, fill_nil]; exact this
  have hcs : Hid ((rv x 1).length = Nat.min 1 n) := by show _ = _; rw [rv_len]; simp [Nat.min_def]; omega
  have hfit : Hid (0 + (rv x 1).length ≤ (rpt x 0 n).length) := by show _ ≤ _; rw [rpt_len (by omega), rv_len]; omega
  have hsrc : Hid (∀ j v, (rv x 1)[j]? = some v → (w.alloc (.cells (madeCells #[.int .i64 0] n) 2)).cell? ((⟨g, 0, none⟩ : Addr).add j) = some v) := by
    intro j v hj
    obtain ⟨h1, rfl⟩ := rv_get hj
    obtain rfl : j = 0 := by omega
    have ea : (⟨g, 0, none⟩ : Addr).add 0 = ⟨g, 0, none⟩ := by simp [Addr.add]
    rw [ea]
    exact (World.cell?_alloc_lt w _ ⟨g, 0, none⟩ (World.block_lt_of_cell? _ _ HX.out)).trans HX.out
  have hb0 : Hid (Below w.heap.size w (w.alloc (.cells (madeCells #[.int .i64 0] n) 2))) := (Below.refl _ _).alloc (Nat.le_refl _) _
  have hsz1 : (Try.prog.info? 2).map (·.size) = some 1 := by kernel_rfl
  have HS1 := Lib.hid hsz1; clear hsz1
  have hl1 := Lib.hid (rv_len x 1)
  obtain ⟨q1, hq1⟩ : ∃ q, q = (rv x 1).length := ⟨_, rfl⟩
  go_wp2_with (first | (go_at_call 77; refine hM.mono ?_; rintro e w' ⟨rfl, hw⟩; obtain rfl : w = w' := hw.symm; clear hM) | (refine wpList_copy_splice (o := ⟨some 33, _, _, _, _, _⟩) rfl (.tmp 31) (.tmp 32) 26 26 rfl 2 Try.underlying26 HS1.out (some ⟨w.heap.size, 0, none⟩) (some ⟨g, 0, none⟩) n n 1 c rfl rfl w.heap.size 0 (rpt x 0 n) 2 (hrow.out w) (rv x 1) hcs.out (fun _ => ⟨rfl, _, rfl, hsrc.out⟩) hfit.out (rv_one x 1) w.heap.size w hb0.out (Nat.le_refl _) ?_; rw [show goInt (rv x 1).length = .int .i64 1 from by rw [rv_len]; rfl]; intro w2 hg2 hb2))
  have HG : Hid (Row w2 w.heap.size 2 (rpt x 1 n)) := by
    have := hg2.out
    rw [rpt_splice (by omega)] at this
    exact this
  have HB := Lib.hid hb2
  clear hg2 hb2 hcs hfit hsrc hb0 hrow hmk hl1 hq1
  go_loopg [8] n (fun m t wr => ∃ k : Nat, t = .int .i64 k ∧ 0 < k ∧ k ≤ n ∧ n ≤ m + k ∧ Hid (Row wr w.heap.size 2 (rpt x k n)) ∧ Hid (Below w.heap.size w wr))
  case atStart => exact ⟨1, rfl, by omega, by omega, by omega, HG.out, HB.out⟩
  case round =>
    obtain ⟨k, rfl, hk0, hk, hm, HR, HBr⟩ := hrel
    by_cases hlt : k < n
    · obtain ⟨m, hm'⟩ : ∃ m, m = Nat.min k (n - k) := ⟨_, rfl⟩
      have hmle : k + m ≤ n := by rw [hm']; simp only [Nat.min_def]; split <;> omega
      have hmpos : 0 < m := by rw [hm']; simp only [Nat.min_def]; split <;> omega
      have hmk : m ≤ k := by rw [hm']; exact Nat.min_le_left _ _
      have hcs : Hid ((rv x m).length = Nat.min k (n - k)) := by show _ = _; rw [rv_len, hm']
      have hfit : Hid (k + (rv x m).length ≤ (rpt x k n).length) := by show _ ≤ _; rw [rpt_len hk, rv_len]; exact hmle
      clear hm'
      have w1 : IntKind.i64.wrap ((k : Int) + (m : Int)) = (k : Int) + (m : Int) := IntWalk.i64_in _ (by omega)
      have l0 : (0 : Int) ≤ (k : Int) := by omega
      have l1 : (k : Int) ≤ (n : Int) := by omega
      have l2 : (k : Int) < (n : Int) := by omega
      have hne : ¬ n = k := by omega
      have hsrc : Hid (∀ j v, (rv x m)[j]? = some v → wr.drew.cell? ((⟨w.heap.size, 0, none⟩ : Addr).add j) = some v) := by
        intro j v hj
        obtain ⟨h1, rfl⟩ := rv_get hj
        have ea : (⟨w.heap.size, 0, none⟩ : Addr).add j = ⟨w.heap.size, j, none⟩ := by unfold Addr.add; by_cases h : j = 0 <;> simp [h]
        rw [ea]
        exact (HR.out.cell j).trans (rpt_get (by omega))
      have hgo : goInt (rv x m).length = .int .i64 (m : Int) := by rw [rv_len]; rfl
      have HGO := Lib.hid hgo; clear hgo
      go_wp2_with fail
      go_region_law (refine step_copy_splice rfl (.tmp 41) (.tmp 44) 26 26 rfl 2 Try.underlying26 HS1.out (some ⟨w.heap.size, k, none⟩) (some ⟨w.heap.size, 0, none⟩) (n - k) (n - k) k n ?_ ?_ w.heap.size k (rpt x k n) 2 HR.out.drew (rv x m) hcs.out (fun _ => ⟨rfl, _, rfl, hsrc.out⟩) hfit.out (rv_one x m) w.heap.size w (Below.drew HBr.out) (Nat.le_refl _) ?_; (first | rfl | simp [Act.eval, Act.put, hne]); (first | rfl | simp [Act.eval, Act.put, hne]); rw [HGO.out]; intro w4 hg4 hb4)
      all_goals
        go_wp2_with fail
        go_roundg (gk - m)
        case measure => omega
        case rel =>
          have hrow := hg4.out
          rw [rpt_splice hmle] at hrow
          exact ⟨k + m, by go_num, by omega, hmle, by omega, hrow, hb4⟩
    · obtain rfl : n = k := by omega
      go_wp2_with fail
      go_ret
      refine ⟨_, rfl, Nat.le_refl _, ?_, HBr.out⟩
      rw [← rpt_full]; exact HR.out
end Go.Proofs.Ytedbngnkkfpbeaa


namespace Go.Proofs.Ytedbngnkkfpbeaa
open Go.RowKit
set_option linter.unusedVariables false
def ckV (ok : Bool) (v : Value) : Value := if ok then v else .agg #[.int .i64 0, .int .i64 0, .slice none 0 0, .slice none 0 0, .slice none 0 0]
def ckI (ok : Bool) (x : Int) : Int := if ok then x else 0
def ckL {α : Type} (ok : Bool) (xs : List α) : List α := if ok then xs else []
theorem ckL_len {α : Type} {ok : Bool} {xs : List α} {n : Nat} (h : ok = true → xs.length ≤ n) : (ckL ok xs).length ≤ n := by
  cases ok
  · exact Nat.zero_le _
  · exact h rfl
/-- What is handed out of a machine that has been looked at. -/
theorem ckO {w : World} {lo hi : Nat} {v : Value} {S T : Int} {L : List A4} {P E : List Int} (ok : Bool) (h : McO w lo hi v S T L P E) : McO w lo hi (ckV ok v) (ckI ok S) (ckI ok T) (ckL ok L) (ckL ok P) (ckL ok E) := by
  cases ok
  · exact ⟨_, _, _, rfl, OwnV.nil _ _ _ _ _, OwnV.nil _ _ _ _ _, OwnV.nil _ _ _ _ _, fun k hk => by simp [Value.ownBlock] at hk, fun k hk => by simp [Value.ownBlock] at hk, fun k hk => by simp [Value.ownBlock] at hk⟩
  · exact h
/-- Arcs with later states. -/
def mvA (by' : Int) (a : A4) : A4 := (a.1 + by', a.2.1 + by', a.2.2.1, a.2.2.2)
theorem mv_succ {L : List A4} {k : Nat} {a : A4} {d : Int} (h : L[k]? = some a) : fa ((L.take (k + 1)).map (mvA d)) = fa ((L.take k).map (mvA d)) ++ [.int .i64 (a.1 + d), .int .i64 (a.2.1 + d), .int .i64 a.2.2.1, .int .i64 a.2.2.2] := by
  obtain ⟨hk, rfl⟩ := List.getElem?_eq_some_iff.1 h
  rw [List.take_succ_eq_append_getElem hk, List.map_append, fa_append]; rfl
end Go.Proofs.Ytedbngnkkfpbeaa


namespace Go.Proofs.Ytedbngnkkfpbeaa
open Go.RowKit
set_option linter.unusedVariables false
abbrev BxM (S T : Int) (A2 : Option Addr) (n2 c2 : Nat) (A3 : Option Addr) (n3 c3 : Nat) (A4 : Option Addr) (n4 c4 : Nat) : List Value := [.int .i64 S, .int .i64 T, .slice A2 n2 c2, .slice A3 n3 c3, .slice A4 n4 c4]
theorem SlA.but {w w' : World} {B n g : Nat} {A : Option Addr} {L : List A4} (h : SlA w B A n L) (hb : But g w w') (hB : B ≤ g) (hs : B ≤ w.heap.size) : SlA w' B A n L := h.below (hb.below hB hs) (Nat.le_refl _)
theorem SlI.but {w w' : World} {B n g : Nat} {A : Option Addr} {L : List Int} (h : SlI w B A n L) (hb : But g w w') (hB : B ≤ g) (hs : B ≤ w.heap.size) : SlI w' B A n L := h.below (hb.below hB hs) (Nat.le_refl _)
theorem Row.but {w w' : World} {g b : Nat} {t : TypeId} {vs : List Value} (h : Row w b t vs) (hb : But g w w') (hg : b ≠ g) : Row w' b t vs := (hb.2.2.2.2 b h.lt hg).trans h
theorem RowI.lt {w : World} {base g c n : Nat} {t : TypeId} {r : List Int} (h : RowI w base t (.slice (some ⟨g, 0, none⟩) n c) r) : base ≤ g ∧ g < w.heap.size := by
  obtain ⟨vs, hr, _, _, _, _, _, hb⟩ := h.open; exact ⟨hb, hr.lt⟩
theorem But.alloc {g : Nat} {w w' : World} (h : But g w w') (o : Obj) : But g w (w'.alloc o) := h.trans (But.of_below ((Below.refl w'.heap.size w').alloc (Nat.le_refl _) o) (Nat.le_refl _))
theorem RowI.alloc {w : World} {base : Nat} {t : TypeId} {v : Value} {r : List Int} (h : RowI w base t v r) (o : Obj) : RowI (w.alloc o) base t v r := h.keep ((Below.refl w.heap.size w).alloc (Nat.le_refl _) o) (Nat.le_refl _)
set_option maxRecDepth 100000 in
set_option maxHeartbeats 4000000 in
theorem iRelax_any (lo g n c : Nat) (v : List Int) (S T : Int) (A2 : Option Addr) (n2 c2 : Nat) (A3 : Option Addr) (n3 c3 : Nat) (A4' : Option Addr) (n4 c4 : Nat) (L : List A4) (w : World) (h2 : SlA w lo A2 n2 L) (hr : RowI w lo 2 (.slice (some ⟨g, 0, none⟩) n c) v) (hlo : lo ≤ w.heap.size) (hv : Bd 1099511627776 v) (hL : okM n L) (hn : n ≤ 1000000) (hn2 : n2 ≤ 1000000) :
    Calls Try.prog 64 #[.agg #[.int .i64 S, .int .i64 T, .slice A2 n2 c2, .slice A3 n3 c3, .slice A4' n4 c4], .slice (some ⟨g, 0, none⟩) n c] w fun e w' => e = .returned (.tuple #[]) ∧ RowI w' lo 2 (.slice (some ⟨g, 0, none⟩) n c) (relN L v n) ∧ But g w w' := by
  have hvn : v.length = n := by obtain ⟨vs, _, _, _, _, h, _⟩ := hr.open; exact h
  obtain ⟨hlg, hgs⟩ := hr.lt
  have hln2 := h2.len
  have rb := Row.new w 28 (BxM S T A2 n2 c2 A3 n3 c3 A4' n4 c4)
  have hra := hr.alloc (.cells (BxM S T A2 n2 c2 A3 n3 c3 A4' n4 c4).toArray 28)
  have hba := (But.refl g w).alloc (.cells (BxM S T A2 n2 c2 A3 n3 c3 A4' n4 c4).toArray 28)
  have h2a := h2.but hba hlg hlo
  have RB := Lib.hid rb; have HRA := Lib.hid hra; have HBA := Lib.hid hba; have H2 := Lib.hid h2a; have HV := Lib.hid hv; have HLN := Lib.hid hln2; have HVN := Lib.hid hvn
  have HL : Hid (∀ a ∈ L, 0 ≤ a.2.2.2) := fun a ha => (hL a ha).2.2.1
  have HG : Hid (w.heap.size ≠ g) := by show _ ≠ _; omega
  clear rb hra hba h2a h2 hr hv hln2 hvn
  go_enter Try.func64, Try.ntmps64
  go_wp2_with fail
  obtain ⟨w0, hw0⟩ : ∃ x, x = w.alloc (.cells (BxM S T A2 n2 c2 A3 n3 c3 A4' n4 c4).toArray 28) := ⟨_, rfl⟩
  rw [← hw0] at RB HRA HBA H2
  change Code.wp _ _ _ _ (w.alloc (.cells (BxM S T A2 n2 c2 A3 n3 c3 A4' n4 c4).toArray 28))
  rw [← hw0]
  have hlo0 : lo ≤ w0.heap.size := Nat.le_trans hlo HBA.out.2.2.2.1
  clear hw0
  go_loopg [5, 8] n (fun m u i wr => ∃ r : Nat, i = .int .i64 r ∧ r ≤ n ∧ n ≤ m + r ∧ Hid (RowI wr lo 2 (.slice (some ⟨g, 0, none⟩) n c) (relN L v r)) ∧ Hid (But g w0 wr))
  case atStart => exact ⟨0, rfl, by omega, by omega, HRA.out, But.refl _ _⟩
  case round =>
    obtain ⟨r, rfl, hr, hm, HR, HB⟩ := hrel
    obtain ⟨wo, rfl⟩ : ∃ x : World, x = wr := ⟨_, rfl⟩
    by_cases hlt : r < n
    · have q1 : (r : Int) < (n : Int) := by omega
      have k2 := (RB.out.but HB.out HG.out).cell 2
      go_wp2_with fail
      clear k2
      obtain ⟨go, hgo⟩ : ∃ x : Nat, x = gk := ⟨_, rfl⟩
      go_loopg [5, 13] n2 (fun m u i wr => ∃ j : Nat, i = .int .i64 j ∧ j ≤ n2 ∧ n2 ≤ m + j ∧ Hid (RowI wr lo 2 (.slice (some ⟨g, 0, none⟩) n c) (rel (L.take j) (relN L v r))) ∧ Hid (But g w0 wr))
      case atStart => exact ⟨0, rfl, by omega, by omega, by rw [List.take_zero]; exact HR.out, HB.out⟩
      case round =>
        clear HR HB
        obtain ⟨j, rfl, hj, hm2, HR, HB⟩ := hrel
        obtain ⟨wi, rfl⟩ : ∃ x : World, x = wr := ⟨_, rfl⟩
        by_cases hlt2 : j < n2
        · obtain ⟨b, off, a0, a1, a2, a3, rfl, hbB, hx, c0, c1, c2', c3'⟩ := (H2.out.but HB.out hlg hlo0).at_ hlt2
          have ha := hL _ (List.mem_of_getElem? hx.out)
          simp only at ha
          obtain ⟨⟨f0, f1⟩, ⟨t0, t1⟩, p0, p1⟩ := ha
          obtain ⟨f, rfl⟩ : ∃ x : Nat, a0 = (x : Int) := ⟨a0.toNat, by omega⟩
          obtain ⟨t, rfl⟩ : ∃ x : Nat, a1 = (x : Int) := ⟨a1.toNat, by omega⟩
          have HST := Lib.hid (rel_take (v := relN L v r) hx.out)
          have l1 : (j : Int) < (n2 : Int) := by omega
          have RA := Row.new wi 89 [.int .i64 f, .int .i64 t, .int .i64 a2, .int .i64 a3]
          have d0 := RA.cell 0; have d1 := RA.cell 1; have d2 := RA.cell 2; have d3 := RA.cell 3
          have HR1 := Lib.hid (HR.out.alloc (.cells ([.int .i64 f, .int .i64 t, .int .i64 a2, .int .i64 a3] : List Value).toArray 89))
          have HB1 := Lib.hid (HB.out.alloc (.cells ([.int .i64 f, .int .i64 t, .int .i64 a2, .int .i64 a3] : List Value).toArray 89))
          clear RA
          have hlen : (rel (L.take j) (relN L v r)).length = n := by rw [rel_len, relN_len]; exact HVN.out
          have hbd : Bd 1099511627776 (rel (L.take j) (relN L v r)) := Bd.relT (by omega) (Bd.relN (by omega) HV.out HL.out r) (fun a ha => HL.out a (List.mem_of_mem_take ha))
          obtain ⟨u, hu⟩ : ∃ u, u = rel (L.take j) (relN L v r) := ⟨_, rfl⟩
          rw [← hu] at HR1 HST hlen hbd
          have HU := Lib.hid hu; clear hu HR HB
          by_cases hneg : a2 < 0
          · have hxf := g0_some (show f < u.length by omega)
            have hxt := g0_some (show t < u.length by omega)
            have bf := hbd.get hxf
            have bt := hbd.get hxt
            obtain ⟨x2, hx2⟩ : ∃ x, x = g0 u f := ⟨_, rfl⟩
            obtain ⟨x1, hx1⟩ : ∃ x, x = g0 u t := ⟨_, rfl⟩
            rw [← hx2] at hxf bf
            rw [← hx1] at hxt bt
            have k1 := HR1.out.cell hxf
            have k2 := HR1.out.cell hxt
            have kf := HR1.out.frozen t
            obtain ⟨m1, hm1⟩ : ∃ m, (if x2 + a3 < x1 then x2 + a3 else x1) = m := ⟨_, rfl⟩
            have HST2 : Hid (rel (L.take (j + 1)) (relN L v r) = u.set t m1) := by
              show _ = _
              rw [HST.out, rel1, if_pos hneg]
              show u.set (Int.toNat (t : Int)) (Min.min (g0 u (Int.toNat (t : Int))) (g0 u (Int.toNat (f : Int)) + a3)) = _
              rw [Int.toNat_natCast, Int.toNat_natCast, ← hx1, ← hx2, ← hm1]
              congr 1
              split <;> omega
            have e1 : IntKind.i64.wrap (x2 + a3) = x2 + a3 := IntWalk.i64_in _ (by omega)
            obtain ⟨bf0, bf1⟩ := bf; obtain ⟨bt0, bt1⟩ := bt
            have HST0 := HST2
            clear hx1 hx2 HST hxf hxt
            go_wp2_with fail
            clear p0 p1
            refine wp_tail 18 (by kernel_rfl) (by kernel_rfl) (fun y hy => ?_)
            have y0 : y.cell? ⟨wi.heap.size, 0, none⟩ = some (.int .i64 f) := by rw [hy]; exact d0
            have y1 : y.cell? ⟨wi.heap.size, 1, none⟩ = some (.int .i64 t) := by rw [hy]; exact d1
            have y3 : y.cell? ⟨wi.heap.size, 3, none⟩ = some (.int .i64 a3) := by rw [hy]; exact d3
            have y4 : y.cell? ⟨g, f, none⟩ = some (.int .i64 x2) := by rw [hy]; exact k1
            have y5 : y.cell? ⟨g, t, none⟩ = some (.int .i64 x1) := by rw [hy]; exact k2
            have y6 : y.frozen? ⟨g, t, none⟩ = false := by rw [hy]; exact kf
            have HRy : Hid (RowI y lo 2 (.slice (some ⟨g, 0, none⟩) n c) u) := by rw [hy]; exact HR1.out
            have HBy : Hid (But g w0 y) := by rw [hy]; exact HB1.out
            clear hy k1 k2 kf d0 d1 d2 d3 HR1 HB1
            simp only [List.take_succ_cons, List.take_zero, List.drop_succ_cons, List.drop_zero]
            repeat still_step
            refine wpStill_nil ?_
            go_wp2
            go_roundg (gk - 1)
            case measure => omega
            case rel =>
              refine ⟨j + 1, by go_num, by omega, by omega, ?_, HBy.out.trans (But.set _ _ _)⟩
              show RowI _ _ _ _ _
              rw [HST2.out]; exact HRy.out.set t m1
          · have HST2 : Hid (rel (L.take (j + 1)) (relN L v r) = u) := by
              show _ = _
              rw [HST.out, rel1, if_neg hneg]
            clear HST d0 d1 d3
            have q3 : (0 : Int) ≤ a2 := by omega
            go_wp2_with fail
            go_roundg (gk - 1)
            case measure => omega
            case rel =>
              refine ⟨j + 1, by go_num, by omega, by omega, ?_, HB1.out⟩
              show RowI _ _ _ _ _
              rw [HST2.out]; exact HR1.out
        · obtain rfl : j = n2 := by omega
          go_wp2_with fail
          go_roundg (go - 1)
          case measure => omega
          case rel =>
            refine ⟨r + 1, by go_num, by omega, by omega, ?_, HB.out⟩
            have e := HR.out
            rw [← HLN.out, List.take_length] at e
            exact e
    · obtain rfl : r = n := by omega
      go_wp2_with fail
      go_end0
      exact ⟨rfl, HR.out, HBA.out.trans HB.out⟩
end Go.Proofs.Ytedbngnkkfpbeaa
