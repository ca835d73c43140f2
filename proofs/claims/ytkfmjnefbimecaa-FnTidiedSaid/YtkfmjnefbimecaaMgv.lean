/- Several texts in one: SameMachine of the program, where both have equal parts. EndCosts plainly, and the least cost of all ways as the law reckons it. EndCosts of the program: the least cost from each state to an end, -1 where there is none. -/
import Derived.Test.YtkfmjnefbimecaaMge
import Derived.Test.YtkfmjnefbimecaaMgh
import Derived.Deep.LoopGhost
import Derived.BigQuiet
import Derived.Test.YtkfmjnefbimecaaTdV
import Derived.Test.YtkfmjnefbimecaaMgu


namespace Go.Proofs.Ytkfmjnefbimecaa
open Go.RowKit
set_option linter.unusedVariables false
set_option maxRecDepth 100000 in
set_option maxHeartbeats 4000000 in
theorem iEqI_same (A A' : Option Addr) (n c c' : Nat) (xs : List Int) (w : World) (h : SlI w w.heap.size A n xs) (h' : SlI w w.heap.size A' n xs) (hn : n ≤ 1000000) :
    Calls Try.prog 56 #[.slice A n c, .slice A' n c'] w fun e w' => e = .returned (.bool true) ∧ ∃ q, w' = w.drewN q := by
  have H := Lib.hid h; have H' := Lib.hid h'; clear h h'
  go_enter Try.func56, Try.ntmps56
  go_wp2_with fail
  go_loopg [5, 13] n (fun m u5 i wr => ∃ k : Nat, i = .int .i64 k ∧ k ≤ n ∧ n ≤ m + k ∧ Hid (∃ d, wr = w.drewN d))
  case atStart => exact ⟨0, rfl, by omega, by omega, ⟨0, rfl⟩⟩
  case round =>
    obtain ⟨k, rfl, hk, hm, HD⟩ := hrel
    obtain ⟨wo, rfl⟩ : ∃ x : World, x = wr := ⟨_, rfl⟩
    obtain ⟨d, hd⟩ := HD.out
    have HB : Hid (Below w.heap.size w wo) := by show Below _ _ _; rw [hd]; exact below_draws (Below.refl _ _) d
    clear hd
    by_cases hlt : k < n
    · have q1 : (k : Int) < (n : Int) := by omega
      have q0 : (0 : Int) ≤ (k : Int) := by omega
      obtain ⟨b1, off1, x, rfl, _, hx, cx⟩ := (H.out.below HB.out (Nat.le_refl _)).at_ hlt
      obtain ⟨b2, off2, y, rfl, _, hy, cy⟩ := (H'.out.below HB.out (Nat.le_refl _)).at_ hlt
      obtain rfl : x = y := Option.some.inj (hx.out.symm.trans hy.out)
      clear hx hy
      go_wp2_with fail
      go_quiet (fail)
      go_wp2_with fail
      go_roundg (gk - 1)
      case measure => omega
      case rel => exact ⟨k + 1, by go_num, by omega, by omega, by obtain ⟨d, hd⟩ := HD.out; rw [hd]; exact ⟨_, World.drewN_drewN _ _ _⟩⟩
    · have q1 : ¬ (k : Int) < (n : Int) := by omega
      go_wp2_with fail
      go_ret
      exact ⟨rfl, HD.out⟩
set_option maxRecDepth 100000 in
set_option maxHeartbeats 4000000 in
theorem iEqA_same (A A' : Option Addr) (n c c' : Nat) (L : List A4) (w : World) (h : SlA w w.heap.size A n L) (h' : SlA w w.heap.size A' n L) (hn : n ≤ 1000000) :
    Calls Try.prog 55 #[.slice A n c, .slice A' n c'] w fun e w' => e = .returned (.bool true) ∧ ∃ q, w' = w.drewN q := by
  have H := Lib.hid h; have H' := Lib.hid h'; clear h h'
  go_enter Try.func55, Try.ntmps55
  go_wp2_with fail
  go_loopg [5, 13] n (fun m u5 i wr => ∃ k : Nat, i = .int .i64 k ∧ k ≤ n ∧ n ≤ m + k ∧ Hid (∃ d, wr = w.drewN d))
  case atStart => exact ⟨0, rfl, by omega, by omega, ⟨0, rfl⟩⟩
  case round =>
    obtain ⟨k, rfl, hk, hm, HD⟩ := hrel
    obtain ⟨wo, rfl⟩ : ∃ x : World, x = wr := ⟨_, rfl⟩
    obtain ⟨d, hd⟩ := HD.out
    have HB : Hid (Below w.heap.size w wo) := by show Below _ _ _; rw [hd]; exact below_draws (Below.refl _ _) d
    clear hd
    by_cases hlt : k < n
    · have q1 : (k : Int) < (n : Int) := by omega
      have q0 : (0 : Int) ≤ (k : Int) := by omega
      obtain ⟨b1, off1, a0, a1, a2, a3, rfl, _, hx, c0, c1, c2, c3⟩ := (H.out.below HB.out (Nat.le_refl _)).at_ hlt
      obtain ⟨b2, off2, e0, e1, e2, e3, rfl, _, hy, d0, d1, d2, d3⟩ := (H'.out.below HB.out (Nat.le_refl _)).at_ hlt
      have he := Option.some.inj (hx.out.symm.trans hy.out)
      injection he with he0 he
      injection he with he1 he
      injection he with he2 he3
      subst he0 he1 he2 he3
      clear hx hy
      go_wp2_with fail
      go_quiet (fail)
      go_wp2_with fail
      go_roundg (gk - 1)
      case measure => omega
      case rel => exact ⟨k + 1, by go_num, by omega, by omega, by obtain ⟨d, hd⟩ := HD.out; rw [hd]; exact ⟨_, World.drewN_drewN _ _ _⟩⟩
    · have q1 : ¬ (k : Int) < (n : Int) := by omega
      go_wp2_with fail
      go_ret
      exact ⟨rfl, HD.out⟩
set_option maxRecDepth 100000 in
set_option maxHeartbeats 4000000 in
theorem iSame_same (S T : Int) (L : List A4) (P E : List Int) (A2 A3 A4 B2 B3 B4 : Option Addr) (n2 n3 n4 c2 c3 c4 d2 d3 d4 : Nat) (w : World) (h2 : SlA w w.heap.size A2 n2 L) (h3 : SlI w w.heap.size A3 n3 P) (h4 : SlI w w.heap.size A4 n4 E) (k2 : SlA w w.heap.size B2 n2 L) (k3 : SlI w w.heap.size B3 n3 P) (k4 : SlI w w.heap.size B4 n4 E) (hn2 : n2 ≤ 1000000) (hn3 : n3 ≤ 1000000) (hn4 : n4 ≤ 1000000) :
    Calls Try.prog 14 #[.agg #[.int .i64 S, .int .i64 T, .slice A2 n2 c2, .slice A3 n3 c3, .slice A4 n4 c4], .agg #[.int .i64 S, .int .i64 T, .slice B2 n2 d2, .slice B3 n3 d3, .slice B4 n4 d4]] w fun e w' => e = .returned (.bool true) ∧ Below w.heap.size w w' := by
  have ra := (Row.new w 28 [.int .i64 S, .int .i64 T, .slice A2 n2 c2, .slice A3 n3 c3, .slice A4 n4 c4]).alloc (.cells ([.int .i64 S, .int .i64 T, .slice B2 n2 d2, .slice B3 n3 d3, .slice B4 n4 d4] : List Value).toArray 28)
  have rb := Row.new (w.alloc (.cells ([.int .i64 S, .int .i64 T, .slice A2 n2 c2, .slice A3 n3 c3, .slice A4 n4 c4] : List Value).toArray 28)) 28 [.int .i64 S, .int .i64 T, .slice B2 n2 d2, .slice B3 n3 d3, .slice B4 n4 d4]
  rw [show (w.alloc (.cells ([.int .i64 S, .int .i64 T, .slice A2 n2 c2, .slice A3 n3 c3, .slice A4 n4 c4] : List Value).toArray 28)).heap.size = w.heap.size + 1 by simp] at rb
  have bx : Below w.heap.size w ((w.alloc (.cells ([.int .i64 S, .int .i64 T, .slice A2 n2 c2, .slice A3 n3 c3, .slice A4 n4 c4] : List Value).toArray 28)).alloc (.cells ([.int .i64 S, .int .i64 T, .slice B2 n2 d2, .slice B3 n3 d3, .slice B4 n4 d4] : List Value).toArray 28)) := ((Below.refl _ _).alloc (Nat.le_refl _) _).alloc (by simp) _
  have H2 := Lib.hid h2; have H3 := Lib.hid h3; have H4 := Lib.hid h4; have K2 := Lib.hid k2; have K3 := Lib.hid k3; have K4 := Lib.hid k4
  have RA := Lib.hid ra; have RB := Lib.hid rb; have BX := Lib.hid bx
  clear ra rb bx h2 h3 h4 k2 k3 k4
  have a0 := RA.out.cell 0; have a1 := RA.out.cell 1; have a2 := RA.out.cell 2
  have b0 := RB.out.cell 0; have b1 := RB.out.cell 1; have b2 := RB.out.cell 2
  go_enter Try.func14, Try.ntmps14
  go_wp2_with fail
  clear a0 a1 a2 b0 b1 b2
  obtain ⟨x0, hx0⟩ : ∃ x, x = ((w.alloc (.cells ([.int .i64 S, .int .i64 T, .slice A2 n2 c2, .slice A3 n3 c3, .slice A4 n4 c4] : List Value).toArray 28)).alloc (.cells ([.int .i64 S, .int .i64 T, .slice B2 n2 d2, .slice B3 n3 d3, .slice B4 n4 d4] : List Value).toArray 28)) := ⟨_, rfl⟩
  rw [← hx0] at RA RB BX
  change Calls _ _ _ ((w.alloc (.cells ([.int .i64 S, .int .i64 T, .slice A2 n2 c2, .slice A3 n3 c3, .slice A4 n4 c4] : List Value).toArray 28)).alloc (.cells ([.int .i64 S, .int .i64 T, .slice B2 n2 d2, .slice B3 n3 d3, .slice B4 n4 d4] : List Value).toArray 28)) _
  rw [← hx0]
  clear hx0
  refine (iEqA_same A2 B2 n2 c2 d2 L x0 ((H2.out.below BX.out (Nat.le_refl _)).more BX.out.size) ((K2.out.below BX.out (Nat.le_refl _)).more BX.out.size) hn2).mono ?_
  rintro e w1 ⟨rfl, q1, hw1⟩
  have a3 := RA.out.cell 3; have b3 := RB.out.cell 3; have a4 := RA.out.cell 4; have b4 := RB.out.cell 4
  have hb1 : Below x0.heap.size x0 w1 := by rw [hw1]; exact below_draws (Below.refl _ _) q1
  have BX1 := Lib.hid (BX.out.trans (hb1.mono BX.out.size))
  have RA1 := Lib.hid (RA.out.below hb1 RA.out.lt)
  have RB1 := Lib.hid (RB.out.below hb1 RB.out.lt)
  clear a3 b3 a4 b4 hb1 hw1
  have a3 := RA1.out.cell 3; have b3 := RB1.out.cell 3
  go_wp2_with fail
  clear a3 b3
  refine (iEqI_same A3 B3 n3 c3 d3 P w1 ((H3.out.below BX1.out (Nat.le_refl _)).more BX1.out.size) ((K3.out.below BX1.out (Nat.le_refl _)).more BX1.out.size) hn3).mono ?_
  rintro e w2 ⟨rfl, q2, hw2⟩
  have hb2 : Below w1.heap.size w1 w2 := by rw [hw2]; exact below_draws (Below.refl _ _) q2
  have BX2 := Lib.hid (BX1.out.trans (hb2.mono BX1.out.size))
  have RA2 := Lib.hid (RA1.out.below hb2 RA1.out.lt)
  have RB2 := Lib.hid (RB1.out.below hb2 RB1.out.lt)
  clear hb2 hw2
  have a4 := RA2.out.cell 4; have b4 := RB2.out.cell 4
  go_wp2_with fail
  clear a4 b4
  refine (iEqI_same A4 B4 n4 c4 d4 E w2 ((H4.out.below BX2.out (Nat.le_refl _)).more BX2.out.size) ((K4.out.below BX2.out (Nat.le_refl _)).more BX2.out.size) hn4).mono ?_
  rintro e w3 ⟨rfl, q3, hw3⟩
  have hb3 : Below w2.heap.size w2 w3 := by rw [hw3]; exact below_draws (Below.refl _ _) q3
  have BX3 := Lib.hid (BX2.out.trans (hb3.mono BX2.out.size))
  clear hb3 hw3
  go_wp2_with fail
  go_ret
  exact ⟨rfl, BX3.out⟩
end Go.Proofs.Ytkfmjnefbimecaa



namespace Go.Proofs.Ytkfmjnefbimecaa
open Go.RowKit
set_option linter.unusedVariables false
def edT (L : List A4) (E : List Int) : List Int := (edV 1099511627776 L E).map (tld 1099511627776)
def leV (L : List A4) (P E : List Int) : Nat → Int := dpL fun i => r8A (g0 P i) (g0 (edT L E) i)
section
variable {t : Nat} {L : List A4} {P E w : List Int}
theorem edT_len (L : List A4) (E : List Int) : (edT L E).length = E.length := by
  unfold edT edV
  rw [List.length_map, relN_len, frL_len]
theorem an_short {n i k : Nat} (hL : okM n L) (hn : n ≤ 16) (hi : i < n) {c : Int} (h : Wy (An L) i k c) : ∃ c', c' ≤ c ∧ c' ≤ 16000 ∧ Wy (An L) i k c' := by
  obtain ⟨l, c', g1, g2, g3, g4⟩ := h.short (b := 1000) (fun _ _ _ he => (hL.an he).2.2.1) (fun _ _ _ he => (hL.an he).2.2.2) (fun _ _ _ he => (hL.an he).2.1) (by omega) hi
  exact ⟨c', g2, by omega, g1.way⟩
theorem al_nonneg {n : Nat} (hL : okM n L) {i : Nat} {c : Int} (h : Al n L E i c) : 0 ≤ c := by
  obtain ⟨k, c1, c2, hk, h1, h2, e⟩ := h
  have := h1.nonneg (fun _ _ _ he => (hL.an he).2.2.1)
  have := h2.2
  omega
theorem cv_ed (ho : Okw t L P E) {i : Nat} (hi : i < P.length) : Cv (g0 (edT L E) i) (Al P.length L E i) := by
  have hn := ho.n
  have hL : okM E.length L := by rw [ho.len]; exact ho.arcs
  have h1 := rep_ed (F := 1099511627776) hL (fun x hx => by have := ho.en x hx; omega)
  rw [ho.len] at h1
  obtain ⟨x, hx, h2⟩ := h1.get hi
  have h3 : g0 (edT L E) i = tld 1099511627776 x := g0_get (by unfold edT; rw [List.getElem?_map, hx]; rfl)
  rw [h3]
  refine Cv.of_lst h2 (fun c h => al_nonneg ho.arcs h) ?_
  rintro c ⟨k, c1, c2, hk, g1, g2, e⟩
  obtain ⟨c', f1, f2, f3⟩ := an_short ho.arcs hn hi g1
  have := ho.en c2 (List.mem_of_getElem? g2.1)
  exact ⟨c' + c2, ⟨k, c', c2, hk, f3, g2, rfl⟩, by omega⟩
/-- An end costs no more than itself. -/
theorem ed_end (ho : Okw t L P E) {i : Nat} {e : Int} (he : E[i]? = some e) (h0 : 0 ≤ e) : 0 ≤ g0 (edT L E) i ∧ g0 (edT L E) i ≤ e := by
  have hi : i < P.length := by have := (List.getElem?_eq_some_iff.1 he).1; rwa [ho.len] at this
  have hq : Al P.length L E i e := ⟨i, 0, e, hi, .refl i, ⟨he, h0⟩, by omega⟩
  rcases cv_ed ho hi with ⟨_, h⟩ | ⟨p, _, h⟩
  · exact (h e hq).elim
  · exact ⟨p, h e hq⟩
theorem cv_stt {i : Nat} {x : Int} (hx : P[i]? = some x) (h1 : -1 ≤ x) : Cv x (Stt P i) := by
  by_cases h0 : 0 ≤ x
  · refine .inr ⟨h0, ⟨hx, h0⟩, fun c hc => ?_⟩
    have := hc.1.symm.trans hx
    rw [Option.some.inj this]; exact Int.le_refl _
  · refine .inl ⟨by omega, fun c hc => ?_⟩
    have := Option.some.inj (hc.1.symm.trans hx)
    have := hc.2
    omega
theorem cv_least (ho : Okw t L P E) (hP : ∀ x ∈ P, -1 ≤ x) : Cv (leV L P E P.length) (Bst P.length L P E) := by
  unfold leV
  refine (dpL_cv (Q := fun i c => ∃ c1 c2, Stt P i c1 ∧ Al P.length L E i c2 ∧ c = c1 + c2) (fun i hi => ?_)).congr (fun c => ⟨?_, ?_⟩)
  · have h1 := List.getElem?_eq_getElem hi
    exact (g0_get h1 ▸ cv_stt h1 (hP _ (List.getElem_mem hi))).add (cv_ed ho hi)
  · rintro ⟨i, hi, c1, c2, h⟩; exact ⟨i, c1, c2, hi, h⟩
  · rintro ⟨i, c1, c2, hi, h⟩; exact ⟨i, hi, c1, c2, h⟩
/-- A word costs no less than the least cost of all ways. -/
theorem le_word (ho : Okw t L P E) (hP : ∀ x ∈ P, -1 ≤ x) (hw : w.length ≤ 12) (h0 : 0 ≤ cst L P E w) : 0 ≤ leV L P E P.length ∧ leV L P E P.length ≤ cst L P E w := by
  have h1 : Wc L P E w (cst L P E w) := by
    rcases cv_co ho hw with ⟨e, _⟩ | ⟨_, h, _⟩
    · exact absurd h0 (by show ¬ 0 ≤ coV _ L P E w; omega)
    · exact h
  obtain ⟨i, k, c0, c1, c2, g1, g2, g3, e⟩ := h1
  have hb : Bst P.length L P E (cst L P E w) := ⟨i, c0, c1 + c2, g1.lt, g1, ⟨k, c1, c2, by have := g3.lt; rwa [ho.len] at this, g2.an, g3, rfl⟩, by omega⟩
  rcases cv_least ho hP with ⟨_, h⟩ | ⟨p, _, h⟩
  · exact (h _ hb).elim
  · exact ⟨p, h _ hb⟩
/-- TrimOf is done just where some way leads from a start to an end. -/
theorem le_trim (ho : Okw t L P E) (hP : ∀ x ∈ P, -1 ≤ x) : decide (1 ≤ tmS L P E) = decide (0 ≤ leV L P E P.length) := by
  rcases cv_least ho hP with ⟨e, h⟩ | ⟨p, q, _⟩
  · rw [decide_eq_false (fun h' => by obtain ⟨c, hc⟩ := (tmS_pos ho).1 h'; exact h c hc), decide_eq_false (by omega)]
  · rw [decide_eq_true ((tmS_pos ho).2 ⟨_, q⟩), decide_eq_true p]
theorem leV_step (k : Nat) : leV L P E (k + 1) = r8L (leV L P E k) (r8A (g0 P k) (g0 (edT L E) k)) := rfl
theorem leV_ge (k : Nat) : -1 ≤ leV L P E k := dpL_ge (fun _ => r8A_ge) k
end
end Go.Proofs.Ytkfmjnefbimecaa



namespace Go.Proofs.Ytkfmjnefbimecaa
open Go.RowKit
set_option linter.unusedVariables false
/-- The first k numbers are told. -/
def tlT (F : Int) (v : List Int) (k : Nat) : List Int := (v.take k).map (tld F) ++ v.drop k
theorem tlT_zero (F : Int) (v : List Int) : tlT F v 0 = v := by simp [tlT]
theorem tlT_all (F : Int) (v : List Int) : tlT F v v.length = v.map (tld F) := by simp [tlT]
theorem tlT_at {F : Int} {v : List Int} {k : Nat} {x : Int} (h : v[k]? = some x) : (tlT F v k)[k]? = some x := by
  obtain ⟨hk, rfl⟩ := List.getElem?_eq_some_iff.1 h
  unfold tlT
  have hl : ((v.take k).map (tld F)).length = k := by rw [List.length_map, List.length_take]; omega
  rw [List.getElem?_append_right (by omega), hl, Nat.sub_self, List.getElem?_drop, Nat.add_zero, List.getElem?_eq_getElem hk]
theorem tlT_step {F : Int} {v : List Int} {k : Nat} {x : Int} (h : v[k]? = some x) : tlT F v (k + 1) = (tlT F v k).set k (tld F x) := by
  obtain ⟨hk, rfl⟩ := List.getElem?_eq_some_iff.1 h
  unfold tlT
  have hl : ((v.take k).map (tld F)).length = k := by rw [List.length_map, List.length_take]; omega
  rw [List.set_append_right _ _ (by omega), hl, Nat.sub_self, List.drop_eq_getElem_cons hk, List.set_cons_zero, List.take_succ_eq_append_getElem hk, List.map_append, List.append_assoc]; rfl
theorem tlT_keep {F : Int} {v : List Int} {k : Nat} {x : Int} (h : v[k]? = some x) (hx : x < F) : tlT F v (k + 1) = tlT F v k := by
  rw [tlT_step h]
  unfold tld
  rw [if_neg (by omega)]
  have := tlT_at (F := F) h
  obtain ⟨hk, e⟩ := List.getElem?_eq_some_iff.1 this
  rw [← e, List.set_getElem_self]
set_option maxRecDepth 100000 in
set_option maxHeartbeats 4000000 in
theorem fEnds (S T : Int) (L : List A4) (P E : List Int) (A2 : Option Addr) (n2 c2 : Nat) (A3 : Option Addr) (n3 c3 : Nat) (A4 : Option Addr) (n4 c4 : Nat) (w : World) (h2 : SlA w w.heap.size A2 n2 L) (h3 : SlI w w.heap.size A3 n3 P) (h4 : SlI w w.heap.size A4 n4 E) (v1 : vmB S T L P E = true) :
    Calls Try.prog 13 #[.agg #[.int .i64 S, .int .i64 T, .slice A2 n2 c2, .slice A3 n3 c3, .slice A4 n4 c4]] w fun e w' => ∃ g c', e = .returned (.tuple #[.slice (some ⟨g, 0, none⟩) n4 c', .bool true]) ∧ RowI w' w.heap.size 2 (.slice (some ⟨g, 0, none⟩) n4 c') (edT L E) ∧ Below w.heap.size w w' := by
  obtain ⟨hLk, hP1, hE1, hn0, hPE, hPn, hLn, hS, hT1, hT4⟩ := vm_okM v1
  have e2 := h2.len; have e3 := h3.len; have e4 := h4.len
  have b4 : n4 ≤ 16 ∧ 0 < n4 ∧ n2 ≤ 128 ∧ L.length ≤ 128 ∧ P.length ≤ 128 ∧ E.length ≤ 128 := by omega
  have HE4 := Lib.hid e4
  have hLE : okM E.length L := by rw [← hPE]; exact hLk
  have rb := Row.new w 28 [.int .i64 S, .int .i64 T, .slice A2 n2 c2, .slice A3 n3 c3, .slice A4 n4 c4]
  have bx : Below w.heap.size w (w.alloc (.cells ([.int .i64 S, .int .i64 T, .slice A2 n2 c2, .slice A3 n3 c3, .slice A4 n4 c4] : List Value).toArray 28)) := (Below.refl _ _).alloc (Nat.le_refl _) _
  have RB := Lib.hid rb; have BX := Lib.hid bx; have H2 := Lib.hid h2; have H3 := Lib.hid h3; have H4 := Lib.hid h4; have V1 := Lib.hid v1
  have HLE := Lib.hid hLE; have HE1 := Lib.hid hE1
  clear rb bx h2 h3 h4 v1 hLE hE1 hLk hP1 e2 e3 e4 hS hPE hPn hLn hn0 hT1 hT4
  go_enter Try.func13, Try.ntmps13
  go_wp2_with fail
  obtain ⟨x0, hx0⟩ : ∃ x, x = (w.alloc (.cells ([.int .i64 S, .int .i64 T, .slice A2 n2 c2, .slice A3 n3 c3, .slice A4 n4 c4] : List Value).toArray 28)) := ⟨_, rfl⟩
  rw [← hx0] at RB BX
  change Calls _ _ _ (w.alloc (.cells ([.int .i64 S, .int .i64 T, .slice A2 n2 c2, .slice A3 n3 c3, .slice A4 n4 c4] : List Value).toArray 28)) _
  rw [← hx0]
  clear hx0
  refine (iValidMachine_any _ S T L P E x0 ⟨_, _, _, _, _, _, _, _, _, rfl, (H2.out.below BX.out (Nat.le_refl _)).more BX.out.size, (H3.out.below BX.out (Nat.le_refl _)).more BX.out.size, (H4.out.below BX.out (Nat.le_refl _)).more BX.out.size⟩ (by omega) (by omega) (by omega)).mono ?_
  rintro e w1 ⟨rfl, hb1⟩
  have BX1 := Lib.hid (BX.out.trans (hb1.mono BX.out.size))
  have RB1 := Lib.hid (RB.out.below hb1 RB.out.lt)
  clear hb1
  rw [V1.out]
  have k0 := RB1.out.cell 0; have k1 := RB1.out.cell 1; have k2 := RB1.out.cell 2; have k3 := RB1.out.cell 3; have k4 := RB1.out.cell 4
  go_wp2_with fail
  clear k0 k1 k2 k3 k4
  refine (iEnd_any S T L E A2 n2 c2 A3 n3 c3 A4 n4 c4 _ ((H2.out.below BX1.out (Nat.le_refl _)).more BX1.out.size) ((H4.out.below BX1.out (Nat.le_refl _)).more BX1.out.size) HE1.out HLE.out (by omega) (by omega) (by omega)).mono ?_
  rintro e w2 ⟨g, c', rfl, hr, hb2⟩
  have hlt0 := hr.lt
  have HV : Hid ((edV 1099511627776 L E).length = n4) := by show _ = _; unfold edV; rw [relN_len, frL_len]; exact HE4.out
  obtain ⟨v, hv⟩ : ∃ v, v = edV 1099511627776 L E := ⟨_, rfl⟩
  rw [← hv] at hr HV
  have HVE := Lib.hid hv
  have HR0 := Lib.hid hr; have HB0 := Lib.hid (BX1.out.trans (hb2.mono BX1.out.size))
  have HG : Hid (w.heap.size ≤ g) := Nat.le_trans BX1.out.size hlt0.1
  clear hr hb2 hv hlt0
  go_wp2_with fail
  go_loopg [5, 6, 14] n4 (fun m u5 u6 i wr => ∃ k : Nat, i = .int .i64 k ∧ k ≤ n4 ∧ n4 ≤ m + k ∧ Hid (RowI wr w1.heap.size 2 (.slice (some ⟨g, 0, none⟩) n4 c') (tlT 1099511627776 v k)) ∧ Hid (But g w2 wr))
  case atStart => exact ⟨0, rfl, by omega, by omega, by rw [tlT_zero]; exact HR0.out, But.refl _ _⟩
  case round =>
    obtain ⟨k, rfl, hk, hm, HR, HB⟩ := hrel
    obtain ⟨wo, rfl⟩ : ∃ x : World, x = wr := ⟨_, rfl⟩
    by_cases hlt : k < n4
    · obtain ⟨x, hx⟩ : ∃ x, v[k]? = some x := ⟨v[k]'(by rw [HV.out]; exact hlt), List.getElem?_eq_getElem _⟩
      have q1 : (k : Int) < (n4 : Int) := by omega
      have k1 := HR.out.cell (tlT_at hx)
      have k2 := HR.out.frozen k
      by_cases hx0 : x < 1099511627776
      · have HST := Lib.hid (tlT_keep hx hx0)
        clear hx
        go_wp2_with fail
        go_roundg (gk - 1)
        case measure => omega
        case rel =>
          refine ⟨k + 1, by go_num, by omega, by omega, ?_, HB.out⟩
          show RowI _ _ _ _ _
          rw [HST.out]; exact HR.out
      · have HST := Lib.hid (tlT_step (F := 1099511627776) hx)
        have q2 : (1099511627776 : Int) ≤ x := by omega
        have HTL : Hid (tld 1099511627776 x = -1) := by show _ = _; unfold tld; rw [if_pos q2]
        clear hx hx0
        go_wp2_with fail
        go_roundg (gk - 1)
        case measure => omega
        case rel =>
          refine ⟨k + 1, by go_num, by omega, by omega, ?_, HB.out.trans (But.set _ _ _)⟩
          show RowI _ _ _ _ _
          rw [HST.out, HTL.out]; exact HR.out.set k _
    · have hkk : k = n4 := by omega
      have HK := Lib.hid hkk
      have q1 : (n4 : Int) ≤ (k : Int) := by omega
      clear hkk
      go_wp2_with fail
      go_ret2
      refine ⟨g, c', rfl, ?_, HB0.out.trans (HB.out.below HG.out HB0.out.size)⟩
      have hT : tlT 1099511627776 v n4 = edT L E := by
        have h := tlT_all 1099511627776 v
        rw [HV.out] at h
        unfold edT; rw [← HVE.out]; exact h
      have := HR.out
      rw [HK.out, hT] at this
      exact World.ownsRow.mono this BX1.out.size
end Go.Proofs.Ytkfmjnefbimecaa
