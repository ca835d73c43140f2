/- The costs of a word, in the program: its helper functions. -/
import Derived.Test.YtedbngnkkfpbeaaMgi
import Derived.Test.YtedbngnkkfpbeaaMge
import Derived.Test.YtedbngnkkfpbeaaMgj

namespace Go.Proofs.Ytedbngnkkfpbeaa
open Go.RowKit
set_option linter.unusedVariables false
abbrev BxM (S T : Int) (A2 : Option Addr) (n2 c2 : Nat) (A3 : Option Addr) (n3 c3 : Nat) (A4 : Option Addr) (n4 c4 : Nat) : List Value := [.int .i64 S, .int .i64 T, .slice A2 n2 c2, .slice A3 n3 c3, .slice A4 n4 c4]
theorem SlA.but {w w' : World} {B n g : Nat} {A : Option Addr} {L : List A4} (h : SlA w B A n L) (hb : But g w w') (hB : B ≤ g) (hs : B ≤ w.heap.size) : SlA w' B A n L := h.below (hb.below hB hs) (Nat.le_refl _)
theorem SlI.but {w w' : World} {B n g : Nat} {A : Option Addr} {L : List Int} (h : SlI w B A n L) (hb : But g w w') (hB : B ≤ g) (hs : B ≤ w.heap.size) : SlI w' B A n L := h.below (hb.below hB hs) (Nat.le_refl _)
theorem Row.but {w w' : World} {g b : Nat} {t : TypeId} {vs : List Value} (h : Row w b t vs) (hb : But g w w') (hg : b ≠ g) : Row w' b t vs := (hb.2.2.2.2 b h.lt hg).trans h
theorem RowI.lt {w : World} {base g c n : Nat} {t : TypeId} {r : List Int} (h : RowI w base t (.slice (some ⟨g, 0, none⟩) n c) r) : base ≤ g ∧ g < w.heap.size := by
  obtain ⟨vs, hr, _, _, _, _, _, hb⟩ := h.open; exact ⟨hb, hr.lt⟩
theorem But.alloc {g : Nat} {w w' : World} (h : But g w w') (o : Obj) : But g w (w'.alloc o) := h.trans (But.of_below ((Below.refl w'.heap.size w').alloc (Nat.le_refl _) o) (Nat.le_refl _))
theorem RowI.alloc {w : World} {base : Nat} {t : TypeId} {v : Value} {r : List Int} (h : RowI w base t v r) (o : Obj) : RowI (w.alloc o) base t v r := h.keep ((Below.refl w.heap.size w).alloc (Nat.le_refl _) o) (Nat.le_refl _)
set_option maxRecDepth 100000 in
set_option maxHeartbeats 4000000 in
theorem iRelax_any (lo g n c : Nat) (v : List Int) (S T : Int) (A2 : Option Addr) (n2 c2 : Nat) (A3 : Option Addr) (n3 c3 : Nat) (A4' : Option Addr) (n4 c4 : Nat) (L : List A4) (w : World) (h2 : SlA w lo A2 n2 L) (hr : RowI w lo 2 (.slice (some ⟨g, 0, none⟩) n c) v) (hlo : lo ≤ w.heap.size) (hv : Bd 1099511627776 v) (hL : okM n L) (hn : n ≤ 1000000) (hn2 : n2 ≤ 1000000) :
    Calls Try.prog 64 #[.agg #[.int .i64 S, .int .i64 T, .slice A2 n2 c2, .slice A3 n3 c3, .slice A4' n4 c4], .slice (some ⟨g, 0, none⟩) n c] w fun e w' => e = .returned (.tuple #[]) ∧ RowI w' lo 2 (.slice (some ⟨g, 0, none⟩) n c) (relN L v n) ∧ But g w w' := by
  have hvn : v.length = n := by obtain ⟨vs, _, _, _, _, h, _⟩ := hr.open; exact h
  obtain ⟨hlg, hgs⟩ := hr.lt
  have hln2 := h2.len
  have rb := Row.new w 28 (BxM S T A2 n2 c2 A3 n3 c3 A4' n4 c4)
  have hra := hr.alloc (.cells (BxM S T A2 n2 c2 A3 n3 c3 A4' n4 c4).toArray 28)
  have hba := (But.refl g w).alloc (.cells (BxM S T A2 n2 c2 A3 n3 c3 A4' n4 c4).toArray 28)
  have h2a := h2.but hba hlg hlo
  have RB := Lib.hid rb; have HRA := Lib.hid hra; have HBA := Lib.hid hba; have H2 := Lib.hid h2a; have HV := Lib.hid hv; have HLN := Lib.hid hln2; have HVN := Lib.hid hvn
  have HL : Hid (∀ a ∈ L, 0 ≤ a.2.2.2) := fun a ha => (hL a ha).2.2.1
  have HG : Hid (w.heap.size ≠ g) := by show _ ≠ _; omega
  clear rb hra hba h2a h2 hr hv hln2 hvn
  go_enter Try.func64, Try.ntmps64
  go_wp2_with fail
  obtain ⟨w0, hw0⟩ : ∃ x, x = w.alloc (.cells (BxM S T A2 n2 c2 A3 n3 c3 A4' n4 c4).toArray 28) := ⟨_, rfl⟩
  rw [← hw0] at RB HRA HBA H2
  change Code.wp _ _ _ _ (w.alloc (.cells (BxM S T A2 n2 c2 A3 n3 c3 A4' n4 c4).toArray 28))
  rw [← hw0]
  have hlo0 : lo ≤ w0.heap.size := Nat.le_trans hlo HBA.out.2.2.2.1
  clear hw0
  go_loopg [5, 8] n (fun m u i wr => ∃ r : Nat, i = .int .i64 r ∧ r ≤ n ∧ n ≤ m + r ∧ Hid (RowI wr lo 2 (.slice (some ⟨g, 0, none⟩) n c) (relN L v r)) ∧ Hid (But g w0 wr))
  case atStart => exact ⟨0, rfl, by omega, by omega, HRA.out, But.refl _ _⟩
  case round =>
    obtain ⟨r, rfl, hr, hm, HR, HB⟩ := hrel
    obtain ⟨wo, rfl⟩ : ∃ x : World, x = wr := ⟨_, rfl⟩
    by_cases hlt : r < n
    · have q1 : (r : Int) < (n : Int) := by omega
      have k2 := (RB.out.but HB.out HG.out).cell 2
      go_wp2_with fail
      clear k2
      obtain ⟨go, hgo⟩ : ∃ x : Nat, x = gk := ⟨_, rfl⟩
      go_loopg [5, 13] n2 (fun m u i wr => ∃ j : Nat, i = .int .i64 j ∧ j ≤ n2 ∧ n2 ≤ m + j ∧ Hid (RowI wr lo 2 (.slice (some ⟨g, 0, none⟩) n c) (rel (L.take j) (relN L v r))) ∧ Hid (But g w0 wr))
      case atStart => exact ⟨0, rfl, by omega, by omega, by rw [List.take_zero]; exact HR.out, HB.out⟩
      case round =>
        clear HR HB
        obtain ⟨j, rfl, hj, hm2, HR, HB⟩ := hrel
        obtain ⟨wi, rfl⟩ : ∃ x : World, x = wr := ⟨_, rfl⟩
        by_cases hlt2 : j < n2
        · obtain ⟨b, off, a0, a1, a2, a3, rfl, hbB, hx, c0, c1, c2', c3'⟩ := (H2.out.but HB.out hlg hlo0).at_ hlt2
          have ha := hL _ (List.mem_of_getElem? hx.out)
          simp only at ha
          obtain ⟨⟨f0, f1⟩, ⟨t0, t1⟩, p0, p1⟩ := ha
          obtain ⟨f, rfl⟩ : ∃ x : Nat, a0 = (x : Int) := ⟨a0.toNat, by omega⟩
          obtain ⟨t, rfl⟩ : ∃ x : Nat, a1 = (x : Int) := ⟨a1.toNat, by omega⟩
          have HST := Lib.hid (rel_take (v := relN L v r) hx.out)
          have l1 : (j : Int) < (n2 : Int) := by omega
          have RA := Row.new wi 89 [.int .i64 f, .int .i64 t, .int .i64 a2, .int .i64 a3]
          have d0 := RA.cell 0; have d1 := RA.cell 1; have d2 := RA.cell 2; have d3 := RA.cell 3
          have HR1 := Lib.hid (HR.out.alloc (.cells ([.int .i64 f, .int .i64 t, .int .i64 a2, .int .i64 a3] : List Value).toArray 89))
          have HB1 := Lib.hid (HB.out.alloc (.cells ([.int .i64 f, .int .i64 t, .int .i64 a2, .int .i64 a3] : List Value).toArray 89))
          clear RA
          have hlen : (rel (L.take j) (relN L v r)).length = n := by rw [rel_len, relN_len]; exact HVN.out
          have hbd : Bd 1099511627776 (rel (L.take j) (relN L v r)) := Bd.relT (by omega) (Bd.relN (by omega) HV.out HL.out r) (fun a ha => HL.out a (List.mem_of_mem_take ha))
          obtain ⟨u, hu⟩ : ∃ u, u = rel (L.take j) (relN L v r) := ⟨_, rfl⟩
          rw [← hu] at HR1 HST hlen hbd
          have HU := Lib.hid hu; clear hu HR HB
          by_cases hneg : a2 < 0
          · have hxf := g0_some (show f < u.length by omega)
            have hxt := g0_some (show t < u.length by omega)
            have bf := hbd.get hxf
            have bt := hbd.get hxt
            obtain ⟨x2, hx2⟩ : ∃ x, x = g0 u f := ⟨_, rfl⟩
            obtain ⟨x1, hx1⟩ : ∃ x, x = g0 u t := ⟨_, rfl⟩
            rw [← hx2] at hxf bf
            rw [← hx1] at hxt bt
            have k1 := HR1.out.cell hxf
            have k2 := HR1.out.cell hxt
            have kf := HR1.out.frozen t
            obtain ⟨m1, hm1⟩ : ∃ m, (if x2 + a3 < x1 then x2 + a3 else x1) = m := ⟨_, rfl⟩
            have HST2 : Hid (rel (L.take (j + 1)) (relN L v r) = u.set t m1) := by
              show _ = _
              rw [HST.out, rel1, if_pos hneg]
              show u.set (Int.toNat (t : Int)) (Min.min (g0 u (Int.toNat (t : Int))) (g0 u (Int.toNat (f : Int)) + a3)) = _
              rw [Int.toNat_natCast, Int.toNat_natCast, ← hx1, ← hx2, ← hm1]
              congr 1
              split <;> omega
            have e1 : IntKind.i64.wrap (x2 + a3) = x2 + a3 := IntWalk.i64_in _ (by omega)
            obtain ⟨bf0, bf1⟩ := bf; obtain ⟨bt0, bt1⟩ := bt
            have HST0 := HST2
            clear hx1 hx2 HST hxf hxt
            go_wp2_with fail
            clear p0 p1
            refine wp_tail 18 (by kernel_rfl) (by kernel_rfl) (fun y hy => ?_)
            have y0 : y.cell? ⟨wi.heap.size, 0, none⟩ = some (.int .i64 f) := by rw [hy]; exact d0
            have y1 : y.cell? ⟨wi.heap.size, 1, none⟩ = some (.int .i64 t) := by rw [hy]; exact d1
            have y3 : y.cell? ⟨wi.heap.size, 3, none⟩ = some (.int .i64 a3) := by rw [hy]; exact d3
            have y4 : y.cell? ⟨g, f, none⟩ = some (.int .i64 x2) := by rw [hy]; exact k1
            have y5 : y.cell? ⟨g, t, none⟩ = some (.int .i64 x1) := by rw [hy]; exact k2
            have y6 : y.frozen? ⟨g, t, none⟩ = false := by rw [hy]; exact kf
            have HRy : Hid (RowI y lo 2 (.slice (some ⟨g, 0, none⟩) n c) u) := by rw [hy]; exact HR1.out
            have HBy : Hid (But g w0 y) := by rw [hy]; exact HB1.out
            clear hy k1 k2 kf d0 d1 d2 d3 HR1 HB1
            simp only [List.take_succ_cons, List.take_zero, List.drop_succ_cons, List.drop_zero]
            repeat still_step
            refine wpStill_nil ?_
            go_wp2
            go_roundg (gk - 1)
            case measure => omega
            case rel =>
              refine ⟨j + 1, by go_num, by omega, by omega, ?_, HBy.out.trans (But.set _ _ _)⟩
              show RowI _ _ _ _ _
              rw [HST2.out]; exact HRy.out.set t m1
          · have HST2 : Hid (rel (L.take (j + 1)) (relN L v r) = u) := by
              show _ = _
              rw [HST.out, rel1, if_neg hneg]
            clear HST d0 d1 d3
            have q3 : (0 : Int) ≤ a2 := by omega
            go_wp2_with fail
            go_roundg (gk - 1)
            case measure => omega
            case rel =>
              refine ⟨j + 1, by go_num, by omega, by omega, ?_, HB1.out⟩
              show RowI _ _ _ _ _
              rw [HST2.out]; exact HR1.out
        · obtain rfl : j = n2 := by omega
          go_wp2_with fail
          go_roundg (go - 1)
          case measure => omega
          case rel =>
            refine ⟨r + 1, by go_num, by omega, by omega, ?_, HB.out⟩
            have e := HR.out
            rw [← HLN.out, List.take_length] at e
            exact e
    · obtain rfl : r = n := by omega
      go_wp2_with fail
      go_end0
      exact ⟨rfl, HR.out, HBA.out.trans HB.out⟩
end Go.Proofs.Ytedbngnkkfpbeaa
