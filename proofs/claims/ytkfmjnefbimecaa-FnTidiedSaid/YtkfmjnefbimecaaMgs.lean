/- Several texts in one: slices.SortFunc at arcs, cmp.Compare: the contracts of the shelf, laid at this program by the kit's lay-plain. tidy of the program, the first part: cmp.Or, the closure that compares two arcs, slices.SortFunc at arcs of the call's own. -/
import Derived.Shelf.SlSortCmp.NoneTotal
import Derived.Shelf.SlicesG.Cmp
import Derived.Test.YtkfmjnefbimecaaRows
import Derived.Test.YtkfmjnefbimecaaMga
import Derived.Test.YtkfmjnefbimecaaMgc
import Derived.Test.YtkfmjnefbimecaaMgl
import Derived.Deep.RegionHeld3
import Derived.Deep.CutRange
import Derived.Deep.LoopGhost


namespace Go.Proofs
open Go.Shelf
def Try.laysSlC25_f94_ren : Go.Shelf.Ren := ⟨fun | 5 => 101 | 7 => 126 | n => n, fun | 22 => 2 | 3 => 3 | 4 => 4 | n => n, fun | n => n⟩
theorem Try.laysSlC25_f94 : Go.Proofs.SlLaysC2.n5 Try.prog Try.laysSlC25_f94_ren := {
  mixed := by kernel_rfl
  f5 := ⟨Try.f101.name, by decide, Try.func101.trans (congrArg some (by kernel_rfl))⟩
  f7 := ⟨Try.f126.name, by decide, Try.func126.trans (congrArg some (by kernel_rfl))⟩
  t3 := Try.underlying3
  a3 := Try.isAgg3
  z3 := Try.sizeOf3
  v3 := Try.zeroValue3
  t4 := Try.underlying4
  a4 := Try.isAgg4
  z4 := Try.sizeOf4
  v4 := Try.zeroValue4
  t22 := Try.underlying2
  a22 := Try.isAgg2
  z22 := Try.sizeOf2
  v22 := Try.zeroValue2 }
def Try.laysSlF06_f91_ren : Go.Shelf.Ren := ⟨fun | 6 => 98 | 15 => 125 | 14 => 124 | 28 => 149 | 29 => 150 | 20 => 141 | 21 => 142 | 22 => 143 | 23 => 144 | 24 => 145 | 25 => 146 | 26 => 147 | 27 => 148 | 46 => 154 | 47 => 155 | 48 => 156 | 49 => 157 | 50 => 158 | 57 => 160 | n => n, fun | 22 => 25 | 24 => 39 | 25 => 132 | 3 => 3 | 39 => 135 | 0 => 0 | 53 => 152 | 55 => 124 | 4 => 4 | 46 => 166 | 45 => 165 | 50 => 170 | 5 => 5 | 9 => 9 | 66 => 176 | 70 => 180 | 76 => 183 | 77 => 184 | n => n, fun | n => n⟩
theorem Try.laysSlF06_f91 : Go.Proofs.SlLaysF0.n6 Try.prog Try.laysSlF06_f91_ren := {
  mixed := by kernel_rfl
  f6 := ⟨Try.f98.name, by decide, Try.func98.trans (congrArg some (by kernel_rfl))⟩
  f14 := ⟨Try.f124.name, by decide, Try.func124.trans (congrArg some (by kernel_rfl))⟩
  f15 := Try.func125.trans (congrArg some (by kernel_rfl))
  f20 := ⟨Try.f141.name, by decide, Try.func141.trans (congrArg some (by kernel_rfl))⟩
  f21 := ⟨Try.f142.name, by decide, Try.func142.trans (congrArg some (by kernel_rfl))⟩
  f22 := ⟨Try.f143.name, by decide, Try.func143.trans (congrArg some (by kernel_rfl))⟩
  f23 := ⟨Try.f144.name, by decide, Try.func144.trans (congrArg some (by kernel_rfl))⟩
  f24 := ⟨Try.f145.name, by decide, Try.func145.trans (congrArg some (by kernel_rfl))⟩
  f25 := ⟨Try.f146.name, by decide, Try.func146.trans (congrArg some (by kernel_rfl))⟩
  f26 := ⟨Try.f147.name, by decide, Try.func147.trans (congrArg some (by kernel_rfl))⟩
  f27 := ⟨Try.f148.name, by decide, Try.func148.trans (congrArg some (by kernel_rfl))⟩
  f28 := Try.func149.trans (congrArg some (by kernel_rfl))
  f29 := Try.func150.trans (congrArg some (by kernel_rfl))
  f46 := ⟨Try.f154.name, by decide, Try.func154.trans (congrArg some (by kernel_rfl))⟩
  f47 := Try.func155.trans (congrArg some (by kernel_rfl))
  f48 := Try.func156.trans (congrArg some (by kernel_rfl))
  f49 := ⟨Try.f157.name, by decide, Try.func157.trans (congrArg some (by kernel_rfl))⟩
  f50 := ⟨Try.f158.name, by decide, Try.func158.trans (congrArg some (by kernel_rfl))⟩
  f57 := ⟨Try.f160.name, by decide, Try.func160.trans (congrArg some (by kernel_rfl))⟩
  t0 := Try.underlying0
  a0 := Try.isAgg0
  z0 := Try.sizeOf0
  v0 := Try.zeroValue0
  t3 := Try.underlying3
  a3 := Try.isAgg3
  z3 := Try.sizeOf3
  v3 := Try.zeroValue3
  t4 := Try.underlying4
  a4 := Try.isAgg4
  z4 := Try.sizeOf4
  v4 := Try.zeroValue4
  t5 := Try.underlying5
  a5 := Try.isAgg5
  z5 := Try.sizeOf5
  v5 := Try.zeroValue5
  t9 := Try.underlying9
  a9 := Try.isAgg9
  z9 := Try.sizeOf9
  v9 := Try.zeroValue9
  t22 := Try.underlying25
  a22 := Try.isAgg25
  z22 := Try.sizeOf25
  v22 := Try.zeroValue25
  t25 := Try.underlying132
  a25 := Try.isAgg132
  z25 := Try.sizeOf132
  v25 := Try.zeroValue132
  t39 := Try.underlying135
  a39 := Try.isAgg135
  z39 := Try.sizeOf135
  v39 := Try.zeroValue135
  t45 := Try.underlying165
  a45 := Try.isAgg165
  z45 := Try.sizeOf165
  v45 := Try.zeroValue165
  t46 := Try.underlying166
  a46 := Try.isAgg166
  z46 := Try.sizeOf166
  v46 := Try.zeroValue166
  t50 := Try.underlying170
  a50 := Try.isAgg170
  z50 := Try.sizeOf170
  v50 := Try.zeroValue170
  t53 := Try.underlying152
  a53 := Try.isAgg152
  z53 := Try.sizeOf152
  v53 := Try.zeroValue152
  t55 := Try.underlying124
  a55 := Try.isAgg124
  z55 := Try.sizeOf124
  v55 := Try.zeroValue124
  t66 := Try.underlying176
  a66 := Try.isAgg176
  z66 := Try.sizeOf176
  v66 := Try.zeroValue176
  t70 := Try.underlying180
  a70 := Try.isAgg180
  z70 := Try.sizeOf180
  v70 := Try.zeroValue180
  t76 := Try.underlying183
  a76 := Try.isAgg183
  z76 := Try.sizeOf183
  v76 := Try.zeroValue183
  t77 := Try.underlying184
  a77 := Try.isAgg184
  z77 := Try.sizeOf184
  v77 := Try.zeroValue184 }
end Go.Proofs



namespace Go.Proofs.Ytkfmjnefbimecaa
open Go.RowKit Go.Sort Go.Lib
set_option linter.unusedVariables false
/-- The first number that is not 0; 0 if there is none. -/
def orI : List Int → Int
  | [] => 0
  | a :: l => if a = 0 then orI l else a
theorem orI_step {xs : List Int} {k : Nat} {x : Int} (h : xs[k]? = some x) (h0 : x = 0) : orI (xs.drop k) = orI (xs.drop (k + 1)) := by
  obtain ⟨hk, rfl⟩ := List.getElem?_eq_some_iff.1 h
  rw [List.drop_eq_getElem_cons hk, orI, if_pos h0]
theorem orI_stop {xs : List Int} {k : Nat} {x : Int} (h : xs[k]? = some x) (h0 : x ≠ 0) : orI (xs.drop k) = x := by
  obtain ⟨hk, rfl⟩ := List.getElem?_eq_some_iff.1 h
  rw [List.drop_eq_getElem_cons hk, orI, if_neg h0]
set_option maxHeartbeats 1000000 in
theorem iOr_any (A : Option Addr) (n c : Nat) (xs : List Int) (w : World) (h : SlI w w.heap.size A n xs) (hn : n ≤ 1000) :
    Calls Try.prog 100 #[.slice A n c] w fun e w' => e = .returned (.int .i64 (orI xs)) ∧ w = w' := by
  have hl := Lib.hid h.len
  have H := Lib.hid h; clear h
  go_enter Try.func100, Try.ntmps100
  go_wp2_with fail
  go_loopg [5, 8] n (fun q u i wr => ∃ k : Nat, i = .int .i64 k ∧ k ≤ n ∧ n ≤ q + k ∧ Hid (orI (xs.drop k) = orI xs) ∧ wr = w)
  case atStart => exact ⟨0, rfl, by omega, by omega, by show _ = _; rw [List.drop_zero], rfl⟩
  case round =>
    obtain ⟨k, rfl, hk, hm, HO, rfl⟩ := hrel
    by_cases hlt : k < n
    · obtain ⟨b, off, x, rfl, hbB, hx, hc⟩ := H.out.at_ hlt
      have l0 : (0 : Int) ≤ (k : Int) := by omega
      have l1 : (k : Int) < (n : Int) := by omega
      by_cases hz : x = 0
      · have HS := Lib.hid (orI_step hx hz)
        subst hz
        clear hx
        go_wp2_with fail
        go_roundg (gk - 1)
        case measure => omega
        case rel => exact ⟨k + 1, by go_num, by omega, by omega, HS.out.symm.trans HO.out, rfl⟩
      · have HS := Lib.hid (orI_stop hx hz)
        clear hx
        go_wp2_with fail
        go_ret
        exact ⟨ret_int (HS.out.symm.trans HO.out), rfl⟩
    · obtain rfl : n = k := by omega
      have HZ : Hid (orI xs = 0) := by show _ = _; rw [← HO.out, List.drop_of_length_le (by rw [hl.out]; exact Nat.le_refl _)]; rfl
      go_wp2_with fail
      go_ret
      exact ⟨ret_int HZ.out.symm, rfl⟩
/-- The cells of an arc; how the program compares two arcs. -/
def encA (x : A4) : List Value := [.int .i64 x.1, .int .i64 x.2.1, .int .i64 x.2.2.1, .int .i64 x.2.2.2]
def cmpA (x y : A4) : Int := orI [Lib.compareInt x.1 y.1, Lib.compareInt x.2.2.1 y.2.2.1, Lib.compareInt x.2.1 y.2.1, Lib.compareInt x.2.2.2 y.2.2.2]
theorem cmp_cases (x y : Int) : (x < y ∧ Lib.compareInt x y = -1) ∨ (x = y ∧ Lib.compareInt x y = 0) ∨ (y < x ∧ Lib.compareInt x y = 1) := by
  unfold Lib.compareInt
  by_cases h1 : x < y
  · exact .inl ⟨h1, by simp [h1]⟩
  · by_cases h2 : y < x
    · exact .inr (.inr ⟨h2, by simp [h1, h2]⟩)
    · exact .inr (.inl ⟨by omega, by simp [h1, h2]⟩)
theorem cmpA_lt : ltOf cmpA = arLt := by
  funext x y
  have : ∀ u v : Bool, (u = true ↔ v = true) → u = v := by decide
  refine this _ _ ?_
  rw [arLt_iff]
  unfold ltOf cmpA
  rw [decide_eq_true_eq]
  rcases cmp_cases x.1 y.1 with ⟨h1, e1⟩ | ⟨h1, e1⟩ | ⟨h1, e1⟩ <;> rcases cmp_cases x.2.2.1 y.2.2.1 with ⟨h2, e2⟩ | ⟨h2, e2⟩ | ⟨h2, e2⟩ <;> rcases cmp_cases x.2.1 y.2.1 with ⟨h3, e3⟩ | ⟨h3, e3⟩ | ⟨h3, e3⟩ <;> rcases cmp_cases x.2.2.2 y.2.2.2 with ⟨h4, e4⟩ | ⟨h4, e4⟩ | ⟨h4, e4⟩ <;> rw [e1, e2, e3, e4] <;> simp [orI] <;> omega
set_option maxRecDepth 100000 in
set_option maxHeartbeats 4000000 in
theorem iCmpA_any (x y : A4) (W : World) :
    Calls Try.prog 99 #[.agg (encA x).toArray, .agg (encA y).toArray] W fun e w' => e = .returned (.int .i64 (cmpA x y)) ∧ ∃ q os', w' = grow (W.drewN q) os' := by
  obtain ⟨x0, x1, x2, x3⟩ := x
  obtain ⟨y0, y1, y2, y3⟩ := y
  have hC : ∀ (a b : Int) (w : World), Calls Try.prog 101 #[.int .i64 a, .int .i64 b] w fun e w' => e = .returned (.int .i64 (Lib.compareInt a b)) ∧ w' = w := fun a b w => AnyG.cmp_Compare_int Try.laysSlC25_f94 a b w
  obtain ⟨r0, hr0⟩ : ∃ r, r = Lib.compareInt x0 y0 := ⟨_, rfl⟩
  obtain ⟨r1, hr1⟩ : ∃ r, r = Lib.compareInt x1 y1 := ⟨_, rfl⟩
  obtain ⟨r2, hr2⟩ : ∃ r, r = Lib.compareInt x2 y2 := ⟨_, rfl⟩
  obtain ⟨r3, hr3⟩ : ∃ r, r = Lib.compareInt x3 y3 := ⟨_, rfl⟩
  have h0 := hC x0 y0; have h1 := hC x1 y1; have h2 := hC x2 y2; have h3 := hC x3 y3
  rw [← hr0] at h0; rw [← hr1] at h1; rw [← hr2] at h2; rw [← hr3] at h3
  have HV : Hid (cmpA (x0, x1, x2, x3) (y0, y1, y2, y3) = orI [r0, r2, r1, r3]) := by show orI _ = _; rw [hr0, hr1, hr2, hr3]
  obtain ⟨v, hv⟩ : ∃ v, v = orI [r0, r2, r1, r3] := ⟨_, rfl⟩
  have HE : Hid (cmpA (x0, x1, x2, x3) (y0, y1, y2, y3) = v) := HV.out.trans hv.symm
  have HOr : Hid (∀ (w : World) (g : Nat), Row w g 3 [.int .i64 r0, .int .i64 r2, .int .i64 r1, .int .i64 r3] → Calls Try.prog 100 #[.slice (some ⟨g, 0, none⟩) 4 4] w fun e w' => e = .returned (.int .i64 v) ∧ w' = w) := by
    intro w g hr
    have h := iOr_any (some ⟨g, 0, none⟩) 4 4 [r0, r2, r1, r3] w hr.sl (by omega)
    rw [← hv] at h
    exact h.mono fun e w' ⟨h1, h2⟩ => ⟨h1, h2.symm⟩
  have H0 := Lib.hid h0; have H1 := Lib.hid h1; have H2 := Lib.hid h2; have H3 := Lib.hid h3
  clear hC hr0 hr1 hr2 hr3 h0 h1 h2 h3 HV hv
  have ra := (Row.new W 39 [.int .i64 x0, .int .i64 x1, .int .i64 x2, .int .i64 x3]).alloc (.cells ([.int .i64 y0, .int .i64 y1, .int .i64 y2, .int .i64 y3] : List Value).toArray 39)
  have rb := Row.new (W.alloc (.cells ([.int .i64 x0, .int .i64 x1, .int .i64 x2, .int .i64 x3] : List Value).toArray 39)) 39 [.int .i64 y0, .int .i64 y1, .int .i64 y2, .int .i64 y3]
  rw [show (W.alloc (.cells ([.int .i64 x0, .int .i64 x1, .int .i64 x2, .int .i64 x3] : List Value).toArray 39)).heap.size = W.heap.size + 1 by simp] at rb
  have RA := Lib.hid ra; have RB := Lib.hid rb; clear ra rb
  obtain ⟨wb, hwb⟩ : ∃ x, x = ((W.alloc (.cells ([.int .i64 x0, .int .i64 x1, .int .i64 x2, .int .i64 x3] : List Value).toArray 39)).alloc (.cells ([.int .i64 y0, .int .i64 y1, .int .i64 y2, .int .i64 y3] : List Value).toArray 39)) := ⟨_, rfl⟩
  obtain ⟨g, hg⟩ : ∃ x, x = W.heap.size := ⟨_, rfl⟩
  rw [← hwb, ← hg] at RA RB
  have HWB : Hid (∃ os', wb = grow W os') := ⟨_, by rw [hwb, alloc_eq_grow, alloc_eq_grow, grow_grow]⟩
  go_enter Try.func99, Try.ntmps99
  go_wp2_with fail
  change Code.wp _ _ _ _ ((W.alloc (.cells ([.int .i64 x0, .int .i64 x1, .int .i64 x2, .int .i64 x3] : List Value).toArray 39)).alloc (.cells ([.int .i64 y0, .int .i64 y1, .int .i64 y2, .int .i64 y3] : List Value).toArray 39))
  rw [← hwb, ← hg]
  clear hwb hg
  have hcel : Hid (∀ x : World, Below wb.heap.size wb x → (Below wb.heap.size wb x ∧ x.cell? ⟨g, 0, none⟩ = some (.int .i64 x0) ∧ x.cell? ⟨g, 1, none⟩ = some (.int .i64 x1) ∧ x.cell? ⟨g, 2, none⟩ = some (.int .i64 x2) ∧ x.cell? ⟨g, 3, none⟩ = some (.int .i64 x3) ∧ x.cell? ⟨g + 1, 0, none⟩ = some (.int .i64 y0) ∧ x.cell? ⟨g + 1, 1, none⟩ = some (.int .i64 y1) ∧ x.cell? ⟨g + 1, 2, none⟩ = some (.int .i64 y2) ∧ x.cell? ⟨g + 1, 3, none⟩ = some (.int .i64 y3))) := fun x hx => ⟨hx, (RA.out.below hx RA.out.lt).cell 0, (RA.out.below hx RA.out.lt).cell 1, (RA.out.below hx RA.out.lt).cell 2, (RA.out.below hx RA.out.lt).cell 3, (RB.out.below hx RB.out.lt).cell 0, (RB.out.below hx RB.out.lt).cell 1, (RB.out.below hx RB.out.lt).cell 2, (RB.out.below hx RB.out.lt).cell 3⟩
  have hkeepA : Hid (∀ (ob : Obj), (Below wb.heap.size wb (wb.alloc ob).drew ∧ (wb.alloc ob).drew.cell? ⟨g, 0, none⟩ = some (.int .i64 x0) ∧ (wb.alloc ob).drew.cell? ⟨g, 1, none⟩ = some (.int .i64 x1) ∧ (wb.alloc ob).drew.cell? ⟨g, 2, none⟩ = some (.int .i64 x2) ∧ (wb.alloc ob).drew.cell? ⟨g, 3, none⟩ = some (.int .i64 x3) ∧ (wb.alloc ob).drew.cell? ⟨g + 1, 0, none⟩ = some (.int .i64 y0) ∧ (wb.alloc ob).drew.cell? ⟨g + 1, 1, none⟩ = some (.int .i64 y1) ∧ (wb.alloc ob).drew.cell? ⟨g + 1, 2, none⟩ = some (.int .i64 y2) ∧ (wb.alloc ob).drew.cell? ⟨g + 1, 3, none⟩ = some (.int .i64 y3))) := fun ob => hcel.out _ (Below.drew ((Below.refl _ _).alloc (Nat.le_refl _) ob))
  have hfrom := hcel.out wb.drew (Below.drew (Below.refl _ _))
  clear RA RB
  go_cut [4] from 5 to 27 (fun v4 wx => v4 = .int .i64 v ∧ ∃ os', wx = grow wb.drew os')
  case first =>
    go_region_held3 (fun x => Below wb.heap.size wb x ∧ x.cell? ⟨g, 0, none⟩ = some (.int .i64 x0) ∧ x.cell? ⟨g, 1, none⟩ = some (.int .i64 x1) ∧ x.cell? ⟨g, 2, none⟩ = some (.int .i64 x2) ∧ x.cell? ⟨g, 3, none⟩ = some (.int .i64 x3) ∧ x.cell? ⟨g + 1, 0, none⟩ = some (.int .i64 y0) ∧ x.cell? ⟨g + 1, 1, none⟩ = some (.int .i64 y1) ∧ x.cell? ⟨g + 1, 2, none⟩ = some (.int .i64 y2) ∧ x.cell? ⟨g + 1, 3, none⟩ = some (.int .i64 y3)) (first | (with_reducible assumption) | (with_reducible exact hkeepA.out _) | go_keep)
      (first
        | (go_at_call 101; (first | (with_reducible refine (H0.out _).mono ?_) | (with_reducible refine (H1.out _).mono ?_) | (with_reducible refine (H2.out _).mono ?_) | (with_reducible refine (H3.out _).mono ?_)); rintro e w' ⟨rfl, rfl⟩)
        | (go_at_call 100; refine (HOr.out _ _ ?_).mono ?_; (exact Row.drew (Row.new _ _ _)); rintro e w' ⟨rfl, rfl⟩))
    try go_wp2_with fail
    go_meet
    exact ⟨rfl, _, (congrArg World.drew (alloc_eq_grow _ _)).trans (drew_grow _ _)⟩
  case rest =>
  obtain ⟨rfl, os1, hwx⟩ := hcut
  subst hwx
  go_wp2_with fail
  go_ret
  obtain ⟨os2, h2⟩ := HWB.out
  subst h2
  exact ⟨ret_int HE.out.symm, 1, os2 ++ os1, by rw [drew_grow, grow_grow]; rfl⟩
end Go.Proofs.Ytkfmjnefbimecaa
