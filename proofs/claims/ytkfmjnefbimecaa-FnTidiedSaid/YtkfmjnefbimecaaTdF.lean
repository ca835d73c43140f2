/- The contracts as FnTidied's walk wants them. -/
import Derived.Test.YtkfmjnefbimecaaTdY
import Derived.Test.YtkfmjnefbimecaaMgv
import Derived.Test.YtkfmjnefbimecaaMgw


namespace Go.Proofs.Ytkfmjnefbimecaa
open Go.RowKit
set_option linter.unusedVariables false
/-- A machine in a block, with the places of its lists. -/
def Mb (w : World) (g : Nat) (A2 : Option Addr) (c2 : Nat) (A3 : Option Addr) (c3 : Nat) (D4 : Option Addr) (c4 : Nat) (S T : Int) (L : List A4) (P E : List Int) : Prop := Row w g 28 [.int .i64 S, .int .i64 T, .slice A2 L.length c2, .slice A3 P.length c3, .slice D4 E.length c4] ∧ SlA w w.heap.size A2 L.length L ∧ SlI w w.heap.size A3 P.length P ∧ SlI w w.heap.size D4 E.length E
theorem Mb.below {w w' : World} {g B c2 c3 c4 : Nat} {A2 A3 D4 : Option Addr} {S T : Int} {L : List A4} {P E : List Int} (h : Mb w g A2 c2 A3 c3 D4 c4 S T L P E) (hb : Below B w w') (hB : w.heap.size ≤ B) : Mb w' g A2 c2 A3 c3 D4 c4 S T L P E := by
  obtain ⟨hr, h2, h3, h4⟩ := h
  exact ⟨hr.below hb (Nat.lt_of_lt_of_le hr.lt hB), (h2.below hb hB).more hb.size, (h3.below hb hB).more hb.size, (h4.below hb hB).more hb.size⟩
theorem Mb.new {w : World} {S T : Int} {L : List A4} {P E : List Int} {c2 c3 c4 : Nat} {A2 A3 D4 : Option Addr} (h2 : SlA w w.heap.size A2 L.length L) (h3 : SlI w w.heap.size A3 P.length P) (h4 : SlI w w.heap.size D4 E.length E) : Mb (w.alloc (.cells ([.int .i64 S, .int .i64 T, .slice A2 L.length c2, .slice A3 P.length c3, .slice D4 E.length c4] : List Value).toArray 28)) w.heap.size A2 c2 A3 c3 D4 c4 S T L P E := by
  have hb : Below w.heap.size w (w.alloc (.cells ([.int .i64 S, .int .i64 T, .slice A2 L.length c2, .slice A3 P.length c3, .slice D4 E.length c4] : List Value).toArray 28)) := (Below.refl _ _).alloc (Nat.le_refl _) _
  exact ⟨Row.new _ _ _, (h2.below hb (Nat.le_refl _)).more hb.size, (h3.below hb (Nat.le_refl _)).more hb.size, (h4.below hb (Nat.le_refl _)).more hb.size⟩
theorem mcW_out {w : World} {base : Nat} {v : Value} {S T : Int} {L : List A4} {P E : List Int} (h : McW w base v S T L P E) : ∃ A2 c2 A3 c3 D4 c4, v = .agg #[.int .i64 S, .int .i64 T, .slice A2 L.length c2, .slice A3 P.length c3, .slice D4 E.length c4] ∧ PlA A2 ∧ PlA A3 ∧ PlA D4 ∧ SlA w w.heap.size A2 L.length L ∧ SlI w w.heap.size A3 P.length P ∧ SlI w w.heap.size D4 E.length E := by
  obtain ⟨v2, v3, v4, rfl, h2, h3, h4, -, -, -⟩ := h
  obtain ⟨A2, c2, rfl, _, _⟩ := h2.form
  obtain ⟨A3, c3, rfl, _, _⟩ := h3.form
  obtain ⟨D4, c4, rfl, _, _⟩ := h4.form
  exact ⟨A2, c2, A3, c3, D4, c4, rfl, ownA_pl h2.1, ownA_pl h3.1, ownA_pl h4.1, ow_slA h2.1 rfl, own_sl h3.1, own_sl h4.1⟩
/-- What a call that builds a machine gives. -/
def GivesM (S T : Int) (L : List A4) (P E : List Int) (ok : Bool) (x : World) (e : Ending) (y : World) : Prop := ∃ A2 c2 A3 c3 D4 c4, e = .returned (.tuple #[.agg #[.int .i64 S, .int .i64 T, .slice A2 L.length c2, .slice A3 P.length c3, .slice D4 E.length c4], .bool ok]) ∧ PlA A2 ∧ PlA A3 ∧ PlA D4 ∧ SlA y y.heap.size A2 L.length L ∧ SlI y y.heap.size A3 P.length P ∧ SlI y y.heap.size D4 E.length E ∧ Below x.heap.size x y
theorem gives_of {S T : Int} {L : List A4} {P E : List Int} {ok : Bool} {x y : World} {e : Ending} (h : ∃ v', e = .returned (.tuple #[v', .bool ok]) ∧ McW y x.heap.size v' S T L P E ∧ Below x.heap.size x y) : GivesM S T L P E ok x e y := by
  obtain ⟨v', rfl, hm, hb⟩ := h
  obtain ⟨A2, c2, A3, c3, D4, c4, rfl, p2, p3, p4, s2, s3, s4⟩ := mcW_out hm
  exact ⟨A2, c2, A3, c3, D4, c4, rfl, p2, p3, p4, s2, s3, s4, hb⟩
theorem fTidy (S T : Int) (L : List A4) (P E : List Int) (A2 A3 D4 : Option Addr) (c2 c3 c4 : Nat) (x : World) (hp2 : PlA A2) (hp3 : PlA A3) (hp4 : PlA D4) (h2 : SlA x x.heap.size A2 L.length L) (h3 : SlI x x.heap.size A3 P.length P) (h4 : SlI x x.heap.size D4 E.length E) (v1 : vmB S T L P E = true) :
    Calls Try.prog 10 #[.agg #[.int .i64 S, .int .i64 T, .slice A2 L.length c2, .slice A3 P.length c3, .slice D4 E.length c4]] x (GivesM S T (tdy L) P E true x) := by
  obtain ⟨_, _, _, _, hPE, hPn, hLn, _, _, _⟩ := vm_okM v1
  have h := iTidyOf_any S T L P E A2 A3 D4 c2 c3 c4 x hp2 hp3 hp4 h2 h3 h4 (by omega) (by omega) (by omega)
  rw [v1] at h
  exact h.mono fun e y h => gives_of h
theorem fClear (s : Nat) (T : Int) (L : List A4) (P E : List Int) (p2 p3 p4 c2 c3 c4 : Nat) (x : World) (h2 : SlA x x.heap.size (some ⟨p2, 0, none⟩) L.length L) (h3 : SlI x x.heap.size (some ⟨p3, 0, none⟩) P.length P) (h4 : SlI x x.heap.size (some ⟨p4, 0, none⟩) E.length E) (v1 : vmB s T L P E = true) (v2 : vmB s T (weA 1099511627776 L P.length) P (weE 1099511627776 L E P.length) = true) :
    Calls Try.prog 11 #[.agg #[.int .i64 (s : Int), .int .i64 T, .slice (some ⟨p2, 0, none⟩) L.length c2, .slice (some ⟨p3, 0, none⟩) P.length c3, .slice (some ⟨p4, 0, none⟩) E.length c4]] x (GivesM (s : Int) T (tdy (weA 1099511627776 L P.length)) P (weE 1099511627776 L E P.length) true x) := by
  obtain ⟨_, _, _, _, hPE, hPn, hLn, hs, _, _⟩ := vm_okM v1
  have e : P.length = s := by omega
  rw [e] at v2
  have h := iClear_any s T L P E p2 p3 p4 c2 c3 c4 x h2 h3 h4 v1 v2
  rw [e]
  rw [e] at h
  exact h.mono fun e y h => gives_of h
theorem fTrim (s : Nat) (T : Int) (L : List A4) (P E : List Int) (p2 p3 p4 c2 c3 c4 : Nat) (x : World) (h2 : SlA x x.heap.size (some ⟨p2, 0, none⟩) L.length L) (h3 : SlI x x.heap.size (some ⟨p3, 0, none⟩) P.length P) (h4 : SlI x x.heap.size (some ⟨p4, 0, none⟩) E.length E) (v1 : vmB s T L P E = true) (ok : Bool) (hok : ok = decide (1 ≤ tmS L P E)) :
    Calls Try.prog 16 #[.agg #[.int .i64 (s : Int), .int .i64 T, .slice (some ⟨p2, 0, none⟩) L.length c2, .slice (some ⟨p3, 0, none⟩) P.length c3, .slice (some ⟨p4, 0, none⟩) E.length c4]] x (GivesM (ckI ok (tmS L P E)) (ckI ok T) (ckL ok (tdy (tmL L P E))) (ckL ok (tmPp L P E)) (ckL ok (tmEe L P E)) ok x) := by
  have e : tmOk s T L P E = ok := by rw [hok]; unfold tmOk; rw [v1]; rfl
  have h := iTrim_true s T L P E p2 p3 p4 c2 c3 c4 x h2 h3 h4 v1
  rw [e] at h
  exact h.mono fun e y h => gives_of h
/-- Fewer arcs. -/
theorem vm_sub {S T : Int} {L M : List A4} {P E : List Int} (h : vmB S T L P E = true) (hl : M.length ≤ L.length) (hm : ∀ a ∈ M, a ∈ L) : vmB S T M P E = true := by
  obtain ⟨qS, qT, qL, qA, qP, qE⟩ := vmB_true h
  obtain ⟨qP1, qP2⟩ := mkB_true qP
  obtain ⟨qE1, qE2⟩ := mkB_true qE
  exact vmB_mk qS qT (by omega) (fun a ha => by have := okAm_true (qA a (hm a ha)); omega) qP1 qP2 qE1 qE2
theorem vm_tdy {S T : Int} {L : List A4} {P E : List Int} (h : vmB S T L P E = true) : vmB S T (tdy L) P E = true := vm_sub h (tdy_len L) (fun a ha => tdy_mem ha)
theorem edT_lt (L : List A4) (E : List Int) (k : Nat) : g0 (edT L E) k < 1099511627776 := by
  rcases Nat.lt_or_ge k (edT L E).length with h | h
  · have e := List.getElem?_eq_getElem h
    rw [g0_get e]
    have : ∀ x ∈ edT L E, x < 1099511627776 := by
      intro x hx
      unfold edT at hx
      obtain ⟨y, _, rfl⟩ := List.mem_map.1 hx
      unfold tld
      split <;> omega
    exact this _ (List.getElem_mem h)
  · unfold g0
    rw [List.getD_eq_getElem?_getD, List.getElem?_eq_none h]; decide
theorem edT_ge {t : Nat} {L : List A4} {P E : List Int} (ho : Okw t L P E) {k : Nat} (hk : k < P.length) : -1 ≤ g0 (edT L E) k := by
  rcases cv_ed ho hk with ⟨e, _⟩ | ⟨h, _⟩ <;> omega
theorem clear_ok {F : Int} {L : List A4} {n : Nat} {b : A4} (h : b ∈ tdy (weA F L n)) : 0 ≤ b.2.2.1 := by
  obtain ⟨i, k, a, _, _, _, _, h2, _, rfl⟩ := weA_mem.1 (tdy_mem h)
  exact h2
theorem lePick {L : List A4} {P E : List Int} (hP : ∀ x ∈ P, x ≤ 1000) (k : Nat) : leV L P E k ≤ 1099511628776 := by
  unfold leV
  refine dpL_le (by omega) (fun i _ => ?_)
  unfold r8A
  split
  · have h1 := edT_lt L E i
    have h2 : g0 P i ≤ 1000 := by
      rcases Nat.lt_or_ge i P.length with h | h
      · rw [g0_get (List.getElem?_eq_getElem h)]; exact hP _ (List.getElem_mem h)
      · unfold g0; rw [List.getD_eq_getElem?_getD, List.getElem?_eq_none h]; decide
    omega
  · omega
theorem r8Less_q (x y v : Int) (w : World) (hv : r8L x y = v) : Calls Try.prog 15 #[.int .i64 x, .int .i64 y] w fun e w' => e = .returned (.int .i64 v) ∧ ∃ m, w' = w.drewN m := by
  subst hv
  refine (r8Less_any x y w).mono ?_
  rintro e w' ⟨rfl, hw⟩
  exact ⟨rfl, 0, hw.symm⟩
theorem r8Less_e (x y v : Int) (w : World) (hv : r8L x y = v) : Calls Try.prog 15 #[.int .i64 x, .int .i64 y] w fun e w' => e = .returned (.int .i64 v) ∧ w = w' := by
  subst hv
  exact r8Less_any x y w
theorem fEndsN (S T : Int) (L : List A4) (P E : List Int) (A2 A3 D4 : Option Addr) (c2 c3 c4 : Nat) (n : Nat) (x : World) (h2 : SlA x x.heap.size A2 L.length L) (h3 : SlI x x.heap.size A3 P.length P) (h4 : SlI x x.heap.size D4 E.length E) (v1 : vmB S T L P E = true) (hn : E.length = n) :
    Calls Try.prog 13 #[.agg #[.int .i64 S, .int .i64 T, .slice A2 L.length c2, .slice A3 P.length c3, .slice D4 E.length c4]] x fun e y => ∃ g c', e = .returned (.tuple #[.slice (some ⟨g, 0, none⟩) n c', .bool true]) ∧ RowI y x.heap.size 2 (.slice (some ⟨g, 0, none⟩) n c') (edT L E) ∧ Below x.heap.size x y := by
  subst hn
  exact fEnds S T L P E A2 _ c2 A3 _ c3 D4 _ c4 x h2 h3 h4 v1
theorem drew2 {w x y : World} {a : Nat} (h : ∃ d, x = w.drewN d) (hy : y = x.drewN a) : ∃ d, y = w.drewN d := by
  obtain ⟨d, rfl⟩ := h
  exact ⟨_, hy.trans (World.drewN_drewN _ _ _)⟩
theorem drew3 {w x y : World} {a b : Nat} (h : ∃ d, x = w.drewN d) (hy : y = (x.drewN a).drewN b) : ∃ d, y = w.drewN d := drew2 (drew2 h rfl) hy
def Mq (w : World) (g : Nat) (A2 : Option Addr) (n2 c2 : Nat) (A3 : Option Addr) (n3 c3 : Nat) (D4 : Option Addr) (n4 c4 : Nat) (S T : Int) (L : List A4) (P E : List Int) : Prop := Row w g 28 [.int .i64 S, .int .i64 T, .slice A2 n2 c2, .slice A3 n3 c3, .slice D4 n4 c4] ∧ SlA w w.heap.size A2 n2 L ∧ SlI w w.heap.size A3 n3 P ∧ SlI w w.heap.size D4 n4 E
theorem Mq.below {w w' : World} {g B n2 n3 n4 c2 c3 c4 : Nat} {A2 A3 D4 : Option Addr} {S T : Int} {L : List A4} {P E : List Int} (h : Mq w g A2 n2 c2 A3 n3 c3 D4 n4 c4 S T L P E) (hb : Below B w w') (hB : w.heap.size ≤ B) : Mq w' g A2 n2 c2 A3 n3 c3 D4 n4 c4 S T L P E := by
  obtain ⟨hr, h2, h3, h4⟩ := h
  exact ⟨hr.below hb (Nat.lt_of_lt_of_le hr.lt hB), (h2.below hb hB).more hb.size, (h3.below hb hB).more hb.size, (h4.below hb hB).more hb.size⟩
theorem mx_new {w : World} {S T : Int} {L : List A4} {P E : List Int} {V2 V3 V4 : Option Addr} {e2 e3 e4 v2 v3 v4 : Nat} (h2 : SlA w w.heap.size V2 e2 L) (h3 : SlI w w.heap.size V3 e3 P) (h4 : SlI w w.heap.size V4 e4 E) : Mq (w.alloc (.cells ([.int .i64 S, .int .i64 T, .slice V2 e2 v2, .slice V3 e3 v3, .slice V4 e4 v4] : List Value).toArray 28)) w.heap.size V2 e2 v2 V3 e3 v3 V4 e4 v4 S T L P E := by
  have hb : Below w.heap.size w (w.alloc (.cells ([.int .i64 S, .int .i64 T, .slice V2 e2 v2, .slice V3 e3 v3, .slice V4 e4 v4] : List Value).toArray 28)) := (Below.refl _ _).alloc (Nat.le_refl _) _
  exact ⟨Row.new _ _ _, (h2.below hb (Nat.le_refl _)).more hb.size, (h3.below hb (Nat.le_refl _)).more hb.size, (h4.below hb (Nat.le_refl _)).more hb.size⟩
end Go.Proofs.Ytkfmjnefbimecaa
