/- The costs of a word, in the program: CostOf. -/
import Derived.Test.YtedbngnkkfpbeaaMgi
import Derived.Test.YtedbngnkkfpbeaaMge

namespace Go.Proofs.Ytedbngnkkfpbeaa
open Go.RowKit
set_option linter.unusedVariables false
set_option maxRecDepth 100000 in
set_option maxHeartbeats 2000000 in
theorem iFirst_any (S T : Int) (A2 : Option Addr) (n2 c2 : Nat) (A3 : Option Addr) (n3 c3 : Nat) (A4' : Option Addr) (n4 c4 : Nat) (L : List A4) (P : List Int) (w : World) (h2 : SlA w w.heap.size A2 n2 L) (h3 : SlI w w.heap.size A3 n3 P) (hP : ∀ x ∈ P, x ≤ 1000) (hL : okM n3 L) (h0 : 0 < n3) (hn : n3 ≤ 1000000) (hn2 : n2 ≤ 1000000) :
    Calls Try.prog 37 #[.agg #[.int .i64 S, .int .i64 T, .slice A2 n2 c2, .slice A3 n3 c3, .slice A4' n4 c4]] w fun e w' => ∃ g c', e = .returned (.slice (some ⟨g, 0, none⟩) n3 c') ∧ RowI w' w.heap.size 2 (.slice (some ⟨g, 0, none⟩) n3 c') (fiV 1099511627776 L P) ∧ Below w.heap.size w w' := by
  have hln := h3.len
  have rb := Row.new w 28 (BxM S T A2 n2 c2 A3 n3 c3 A4' n4 c4)
  have bx : Below w.heap.size w (w.alloc (.cells (BxM S T A2 n2 c2 A3 n3 c3 A4' n4 c4).toArray 28)) := (Below.refl _ _).alloc (Nat.le_refl _) _
  have hs0 : (w.alloc (.cells (BxM S T A2 n2 c2 A3 n3 c3 A4' n4 c4).toArray 28)).heap.size = w.heap.size + 1 := by simp
  have hF := iFarther_any A3 n3 c3 P _ ((h3.below bx (Nat.le_refl _)).more bx.size) h0 hn
  rw [hs0] at hF
  have RB := Lib.hid rb; have BX := Lib.hid bx; have H2 := Lib.hid h2; have H3 := Lib.hid h3; have HLN := Lib.hid hln; have HS0 := Lib.hid hs0
  clear rb bx h2 h3 hln hs0
  have k3 := RB.out.cell 3
  go_enter Try.func37, Try.ntmps37
  go_wp2_with fail
  clear k3
  refine hF.mono ?_
  rintro e w1 ⟨g, c', rfl, hr, hb⟩
  have hb' : Below (w.heap.size + 1) (w.alloc (.cells (BxM S T A2 n2 c2 A3 n3 c3 A4' n4 c4).toArray 28)) w1 := hb
  have HB1 := Lib.hid (BX.out.trans (hb'.mono (by omega)))
  have HR1 := Lib.hid hr
  have HG : Hid (w.heap.size < g) := by show _ < _; have := hr.lt.1; omega
  have RB1 := Lib.hid (RB.out.below hb' (by omega))
  have hRI : RowI w1 w.heap.size 2 (.slice (some ⟨g, 0, none⟩) n3 c') (frL 1099511627776 P) := by
    obtain ⟨q1, q2⟩ := hr
    exact World.ownsRow.mono ⟨q1, q2⟩ (by omega)
  have HRI := Lib.hid hRI
  clear hF hr hb hb' hRI
  have r0 := RB1.out.cell 0; have r1 := RB1.out.cell 1; have r2 := RB1.out.cell 2; have r3 := RB1.out.cell 3; have r4 := RB1.out.cell 4
  go_wp2_with fail
  clear r0 r1 r2 r3 r4
  refine (iRelax_any w.heap.size g n3 c' (frL 1099511627776 P) S T A2 n2 c2 A3 n3 c3 A4' n4 c4 L _ (H2.out.below HB1.out (Nat.le_refl _)) HRI.out HB1.out.size (frL_bd (by omega) (fun x hx => by have := hP x hx; omega)) hL hn hn2).mono ?_
  rintro e w2 ⟨rfl, hr2, hb2⟩
  have HR2 := Lib.hid hr2; have HB2 := Lib.hid hb2
  clear hr2 hb2
  go_wp2_with fail
  go_ret
  refine ⟨g, c', rfl, ?_, HB1.out.trans (HB2.out.below (by have := HG.out; omega) HB1.out.size)⟩
  unfold fiV
  rw [HLN.out]
  exact HR2.out
/-- The costs behind the first k letters. -/
def woV (F : Int) (L : List A4) (P : List Int) (xs : List Int) : Nat → List Int
  | 0 => fiV F L P
  | k + 1 => stV F L (g0 xs k) (woV F L P xs k)
theorem woV_len (F : Int) (L : List A4) (P xs : List Int) (k : Nat) : (woV F L P xs k).length = P.length := by
  induction k with
  | zero => exact fiV_len F L P
  | succ k ih => rw [woV, stV_len, ih]
theorem woV_bd {F : Int} (hF : 0 ≤ F) {L : List A4} {P : List Int} (hP : ∀ x ∈ P, x ≤ F) (hL : ∀ a ∈ L, 0 ≤ a.2.2.2) (xs : List Int) (k : Nat) : Bd F (woV F L P xs k) := by
  induction k with
  | zero => exact fiV_bd hF hP hL
  | succ k ih => exact stV_bd hF ih hL
/-- What the program tells of a word. -/
def coV (F : Int) (L : List A4) (P E xs : List Int) : Int := lsV F (woV F L P xs xs.length) (frL F E)
set_option maxRecDepth 100000 in
set_option maxHeartbeats 4000000 in
theorem iCostOf0_any (v : Value) (S T : Int) (L : List A4) (P E : List Int) (A : Option Addr) (n c : Nat) (xs : List Int) (w : World) (h : Mc w w.heap.size v S T L P E) (hx : SlI w w.heap.size A n xs) (hP : ∀ x ∈ P, x ≤ 1000) (hE : ∀ x ∈ E, x ≤ 1000) (hL : okM P.length L) (h0 : 0 < P.length) (hPE : P.length = E.length) (hPn : P.length ≤ 1000000) (hLn : L.length ≤ 1000000) (hn : n ≤ 1000000) :
    Calls Try.prog 30 #[v, .slice A n c] w fun e w' => e = .returned (.int .i64 (coV 1099511627776 L P E xs)) ∧ Below w.heap.size w w' := by
  obtain ⟨A2, n2, c2, A3, n3, c3, A4', n4, c4, rfl, h2, h3, h4⟩ := h
  have e2 := h2.len; have e3 := h3.len; have e4 := h4.len; have ex := hx.len
  subst e2 e3 e4
  have rb := Row.new w 28 (BxM S T A2 L.length c2 A3 P.length c3 A4' E.length c4)
  have bx : Below w.heap.size w (w.alloc (.cells (BxM S T A2 L.length c2 A3 P.length c3 A4' E.length c4).toArray 28)) := (Below.refl _ _).alloc (Nat.le_refl _) _
  have HX := Lib.hid ((hx.below bx (Nat.le_refl _)).more bx.size)
  have H2 := Lib.hid ((h2.below bx (Nat.le_refl _)).more bx.size); have H3 := Lib.hid ((h3.below bx (Nat.le_refl _)).more bx.size); have H4 := Lib.hid ((h4.below bx (Nat.le_refl _)).more bx.size)
  have RB := Lib.hid rb; have BX := Lib.hid bx; have EX := Lib.hid ex; have HPE := Lib.hid hPE
  have HPF : Hid (∀ x ∈ P, x ≤ 1099511627776) := fun x hx => by have := hP x hx; omega
  have HEF : Hid (∀ x ∈ E, x ≤ 1099511627776) := fun x hx => by have := hE x hx; omega
  clear h2 h3 h4 rb bx hx ex hPE
  have r0 := RB.out.cell 0; have r1 := RB.out.cell 1; have r2 := RB.out.cell 2; have r3 := RB.out.cell 3; have r4 := RB.out.cell 4
  go_enter Try.func30, Try.ntmps30
  go_wp2_with fail
  clear r0 r1 r2 r3 r4
  obtain ⟨w0, hw0⟩ : ∃ x, x = w.alloc (.cells (BxM S T A2 L.length c2 A3 P.length c3 A4' E.length c4).toArray 28) := ⟨_, rfl⟩
  rw [← hw0] at HX H2 H3 H4 RB BX
  change Calls _ _ _ (w.alloc (.cells (BxM S T A2 L.length c2 A3 P.length c3 A4' E.length c4).toArray 28)) _
  rw [← hw0]
  clear hw0
  refine (iFirst_any S T A2 L.length c2 A3 P.length c3 A4' E.length c4 L P w0 H2.out H3.out hP hL h0 hPn hLn).mono ?_
  rintro e w1 ⟨g, c', rfl, hr, hb⟩
  have HR0 := Lib.hid hr; have HB0 := Lib.hid hb
  clear hr hb
  go_wp2_with fail
  go_loopg [5, 7, 12] n (fun m s u7 i wr => ∃ (k g c' : Nat), i = .int .i64 k ∧ k ≤ n ∧ n ≤ m + k ∧ s = .slice (some ⟨g, 0, none⟩) P.length c' ∧ Hid (RowI wr w0.heap.size 2 (.slice (some ⟨g, 0, none⟩) P.length c') (woV 1099511627776 L P xs k)) ∧ Hid (Below w0.heap.size w0 wr))
  case atStart => exact ⟨0, g, c', rfl, by omega, by omega, rfl, HR0.out, HB0.out⟩
  case round =>
    clear HR0 HB0
    obtain ⟨k, g, c', rfl, hk, hm, rfl, HR, HB⟩ := hrel
    obtain ⟨wo, rfl⟩ : ∃ x : World, x = wr := ⟨_, rfl⟩
    have RBo := RB.out.below HB.out RB.out.lt
    by_cases hlt : k < n
    · obtain ⟨b, off, x, rfl, _, hxk, kx⟩ := (HX.out.below HB.out (Nat.le_refl _)).at_ hlt
      have q1 : (k : Int) < (n : Int) := by omega
      have r0 := RBo.cell 0; have r1 := RBo.cell 1; have r2 := RBo.cell 2; have r3 := RBo.cell 3; have r4 := RBo.cell 4
      have HRB := Lib.hid RBo; clear RBo
      go_wp2_with fail
      clear r0 r1 r2 r3 r4
      have hsl : SlI wo wo.heap.size (some ⟨g, 0, none⟩) P.length (woV 1099511627776 L P xs k) := HR.out.sl HR.out.n
      refine (iStep_any (some ⟨g, 0, none⟩) P.length c' (woV 1099511627776 L P xs k) x S T A2 L.length c2 A3 P.length c3 A4' E.length c4 L wo ((H2.out.below HB.out (Nat.le_refl _)).more HB.out.size) hsl (woV_bd (by omega) HPF.out hL.cost xs k) hL h0 hPn hLn).mono ?_
      rintro e w2 ⟨g2, c2', rfl, hr2, hb2⟩
      have HR2 := Lib.hid hr2; have HB2 := Lib.hid hb2
      clear hr2 hb2 hsl
      go_wp2_with fail
      go_roundg (gk - 1)
      case measure => omega
      case rel =>
        refine ⟨k + 1, g2, c2', by go_num, by omega, by omega, rfl, ?_, HB.out.trans (HB2.out.mono HB.out.size)⟩
        have e : woV 1099511627776 L P xs (k + 1) = stV 1099511627776 L x (woV 1099511627776 L P xs k) := by rw [woV, g0_get hxk.out]
        show RowI _ _ _ _ _
        rw [e]
        exact World.ownsRow.mono HR2.out HB.out.size
    · have hkk : k = n := by omega
      have HK := Lib.hid hkk
      have q1 : (n : Int) ≤ (k : Int) := by omega
      clear hkk
      have r4 := RBo.cell 4
      have HRB := Lib.hid RBo; clear RBo
      go_wp2_with fail
      clear r4
      refine (iFarther_any A4' E.length c4 E wo ((H4.out.below HB.out (Nat.le_refl _)).more HB.out.size) (by have := HPE.out; omega) (by have := HPE.out; omega)).mono ?_
      rintro e w2 ⟨g2, c2', rfl, hr2, hb2⟩
      have HR2 := Lib.hid hr2; have HB2 := Lib.hid hb2
      clear hr2 hb2
      go_wp2_with fail
      have hs1 : SlI w2 w2.heap.size (some ⟨g, 0, none⟩) P.length (woV 1099511627776 L P xs k) := (HR.out.keep HB2.out (Nat.le_refl _)).sl HR.out.n
      have hs2 : SlI w2 w2.heap.size (some ⟨g2, 0, none⟩) P.length (frL 1099511627776 E) := by
        have := HR2.out.sl HR2.out.n
        rw [← HPE.out] at this; exact this
      have hEl : E.length = P.length := HPE.out.symm
      rw [hEl]
      clear hEl
      refine (iLeastSum_any (some ⟨g, 0, none⟩) P.length c' (woV 1099511627776 L P xs k) (some ⟨g2, 0, none⟩) c2' (frL 1099511627776 E) w2 hs1 hs2 (woV_bd (by omega) HPF.out hL.cost xs k) (frL_bd (by omega) HEF.out) hPn).mono ?_
      rintro e w3 ⟨rfl, hb3⟩
      have HB3 := Lib.hid hb3
      clear hb3 hs1 hs2
      go_wp2_with fail
      go_ret
      refine ⟨ret_int ?_, BX.out.trans ((HB.out.trans ((HB2.out.trans (HB3.out.mono HB2.out.size)).mono HB.out.size)).mono BX.out.size)⟩
      unfold coV
      rw [EX.out, HK.out]
end Go.Proofs.Ytedbngnkkfpbeaa
