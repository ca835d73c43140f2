/- slices.CompactFunc of the program at arcs of the call's own: of arcs that lead alike the first one. -/
import Derived.Test.YtkfmjnefbimecaaTiS


namespace Go.Proofs.Ytkfmjnefbimecaa
open Go.RowKit Go.Sort Go.Lib
set_option linter.unusedVariables false
set_option maxHeartbeats 1000000 in
theorem iEqA_any (x y : A4) (W : World) :
    Calls Try.prog 103 #[.agg (encA x).toArray, .agg (encA y).toArray] W fun e w' => e = .returned (.bool (arEq x y)) ∧ Below W.heap.size W w' := by
  obtain ⟨x0, x1, x2, x3⟩ := x
  obtain ⟨y0, y1, y2, y3⟩ := y
  change Calls _ _ #[.agg #[.int .i64 x0, .int .i64 x1, .int .i64 x2, .int .i64 x3], .agg #[.int .i64 y0, .int .i64 y1, .int .i64 y2, .int .i64 y3]] _ _
  have hb : Below W.heap.size W ((W.alloc (.cells ([.int .i64 x0, .int .i64 x1, .int .i64 x2, .int .i64 x3] : List Value).toArray 39)).alloc (.cells ([.int .i64 y0, .int .i64 y1, .int .i64 y2, .int .i64 y3] : List Value).toArray 39)) := ((Below.refl _ _).alloc (Nat.le_refl _) _).alloc (by simp) _
  have HB := Lib.hid hb; clear hb
  have HV : Hid (arEq (x0, x1, x2, x3) (y0, y1, y2, y3) = (decide (x0 = y0) && decide (x2 = y2) && decide (x1 = y1))) := rfl
  by_cases h0 : x0 = y0
  · have HE0 := Lib.hid h0
    subst h0
    by_cases h2 : x2 = y2
    · subst h2
      by_cases h1 : x1 = y1
      · subst h1
        go_enter Try.func103, Try.ntmps103
        go_wp2_with fail
        go_ret
        exact ⟨ret_bool (by rw [HV.out]; simp), HB.out⟩
      · go_enter Try.func103, Try.ntmps103
        go_wp2_with fail
        go_ret
        exact ⟨ret_bool (by rw [HV.out]; simp [h1]), HB.out⟩
    · go_enter Try.func103, Try.ntmps103
      go_wp2_with fail
      go_ret
      exact ⟨ret_bool (by rw [HV.out]; simp [h2]), HB.out⟩
  · go_enter Try.func103, Try.ntmps103
    go_wp2_with fail
    go_ret
    exact ⟨ret_bool (by rw [HV.out]; simp [h0]), HB.out⟩
/-- What the row holds behind the first j arcs: those that are kept, then the rest as it was. -/
def cmT (X : List A4) (j : Nat) : List A4 := pG X j ++ X.drop (pG X j).length
theorem cmT_len {X : List A4} {j : Nat} (h : j ≤ X.length) : (cmT X j).length = X.length := by
  have := pG_len X j
  unfold cmT
  rw [List.length_append, List.length_drop]; omega
theorem cmT_at {X : List A4} {j q : Nat} (h : (pG X j).length ≤ q) : (cmT X j)[q]? = X[q]? := by
  unfold cmT
  rw [List.getElem?_append_right h, List.getElem?_drop]
  congr 1; omega
theorem cmT_skip {X : List A4} {j : Nat} (h : kpA X j = false) : cmT X (j + 1) = cmT X j := by
  unfold cmT; rw [pG_step_neg h]
theorem cmT_keep {X : List A4} {j : Nat} {a : A4} (h : kpA X j = true) (ha : X[j]? = some a) : cmT X (j + 1) = (cmT X j).set (pG X j).length a := by
  have hj := (List.getElem?_eq_some_iff.1 ha).1
  have hp := pG_len X j
  have e : X.getD j default = a := by rw [List.getD_eq_getElem?_getD, ha]; rfl
  unfold cmT
  rw [pG_step_pos h, e, List.set_append_right _ _ (Nat.le_refl _), Nat.sub_self, List.length_append, List.drop_eq_getElem_cons (show (pG X j).length < X.length by omega), List.set_cons_zero, List.append_assoc]
  rfl
theorem cmT_full {X : List A4} {j : Nat} (h : pG X j = X.take j) (hj : j ≤ X.length) : cmT X j = X := by
  unfold cmT; rw [h, List.length_take, Nat.min_eq_left hj, List.take_append_drop]
theorem pG_take {X : List A4} {j : Nat} {a : A4} (h : pG X j = X.take j) (hk : kpA X j = true) (ha : X[j]? = some a) : pG X (j + 1) = X.take (j + 1) := by
  obtain ⟨hj, rfl⟩ := List.getElem?_eq_some_iff.1 ha
  rw [pG_step_pos hk, h, List.take_succ_eq_append_getElem hj, List.getD_eq_getElem?_getD, List.getElem?_eq_getElem hj]
  rfl
theorem kpA_at {X : List A4} {j : Nat} {a b : A4} (ha : X[j + 1]? = some a) (hb : X[j]? = some b) : kpA X (j + 1) = !arEq a b := by
  show (!arEq (X.getD (j + 1) default) (X.getD j default)) = _
  rw [List.getD_eq_getElem?_getD, List.getD_eq_getElem?_getD, ha, hb]; rfl
theorem ow_set {w : World} {base g n c i sz : Nat} {t : TypeId} {X : List Value} {u : Value} (h : w.ownsRow base t sz (.slice (some ⟨g, 0, none⟩) n c) n X) (hi : i < X.length) : (w.setCell ⟨g, i, none⟩ u).ownsRow base t sz (.slice (some ⟨g, 0, none⟩) n c) n (X.set i u) := by
  obtain ⟨h1, h2⟩ := h
  refine ⟨by simpa using h1, ?_⟩
  rcases h2 with ⟨e, -⟩ | ⟨g', cap, cur, e, hb, hg, hnc, hm, hs, ht⟩
  · cases e
  · injection e with e1 _ e3
    injection e1 with e1
    injection e1 with e1 _ _
    subst e1 e3
    refine .inr ⟨g, c, cur.setIfInBounds i u, rfl, hb, ?_, hnc, hm, by simpa using hs, ?_⟩
    · simp [World.setCell, Array.getElem?_modify, hg]
    · rw [Array.toList_setIfInBounds, List.take_set, ht]
abbrev AT := 39
theorem ow_keep {w w' : World} {base B n sz : Nat} {t : TypeId} {v : Value} {X : List Value} (h : w.ownsRow base t sz v n X) (hb : Below B w w') (hB : w.heap.size ≤ B) : w'.ownsRow base t sz v n X :=
  own_move h fun g hg => hb.block g (Nat.lt_of_lt_of_le (h.lt g hg).2 hB)
theorem ow_cells4 {w : World} {base g n c : Nat} {t : TypeId} {X : List A4} (h : w.ownsRow base t 4 (.slice (some ⟨g, 0, none⟩) n c) n (fa X)) {j : Nat} {a : A4} (hj : X[j]? = some a) :
    w.cell? ⟨g, j * 4, none⟩ = some (.int .i64 a.1) ∧ w.cell? ⟨g, j * 4 + 1, none⟩ = some (.int .i64 a.2.1) ∧ w.cell? ⟨g, j * 4 + 2, none⟩ = some (.int .i64 a.2.2.1) ∧ w.cell? ⟨g, j * 4 + 3, none⟩ = some (.int .i64 a.2.2.2) := by
  obtain ⟨e0, e1, e2, e3⟩ := fa_get hj
  exact ⟨(ow_cell h e0).1, (ow_cell h e1).1, (ow_cell h e2).1, (ow_cell h e3).1⟩
theorem ow_setCells {base g n c sz : Nat} {t : TypeId} : ∀ (vs : List Value) (o : Nat) (w : World) (X : List Value), w.ownsRow base t sz (.slice (some ⟨g, 0, none⟩) n c) n X → o + vs.length ≤ X.length → ∃ X', (w.setCells g o vs).ownsRow base t sz (.slice (some ⟨g, 0, none⟩) n c) n X' ∧ X'.take o = X.take o ∧ Below base w (w.setCells g o vs)
  | [], o, w, X, h, _ => ⟨X, h, rfl, Below.refl _ _⟩
  | v :: r, o, w, X, h, hl => by
    simp only [List.length_cons] at hl
    have hb : base ≤ g := (h.lt g rfl).1
    obtain ⟨X', h1, h2, h3⟩ := ow_setCells r (o + 1) (w.setCell ⟨g, o, none⟩ v) (X.set o v) (ow_set h (by omega)) (by rw [List.length_set]; omega)
    refine ⟨X', h1, ?_, ((Below.refl _ _).setCell (p := ⟨g, o, none⟩) hb v).trans h3⟩
    have h4 : (X'.take (o + 1)).take o = ((X.set o v).take (o + 1)).take o := by rw [h2]
    rw [List.take_take, List.take_take, Nat.min_eq_left (Nat.le_succ o), List.take_set_of_le (Nat.le_refl o)] at h4
    exact h4
theorem ow_short {w : World} {base g n c m sz : Nat} {t : TypeId} {X : List Value} (h : w.ownsRow base t sz (.slice (some ⟨g, 0, none⟩) n c) n X) (hm : m ≤ n) : w.ownsRow base t sz (.slice (some ⟨g, 0, none⟩) m c) m (X.take (m * sz)) := by
  obtain ⟨h1, h2⟩ := h
  have hmn : m * sz ≤ n * sz := Nat.mul_le_mul_right sz hm
  refine ⟨by rw [List.length_take]; omega, ?_⟩
  rcases h2 with ⟨e, -⟩ | ⟨g', cap, cur, e, hb, hg, hnc, hmx, hs, ht⟩
  · cases e
  · injection e with e1 _ e3
    injection e1 with e1
    injection e1 with e1 _ _
    subst e1 e3
    exact .inr ⟨g, c, cur, rfl, hb, hg, by omega, hmx, hs, by rw [← ht, List.take_take, Nat.min_eq_left hmn]⟩
theorem run_clearN {P : Program} (w : World) (t e ty : TypeId) (z : Value) (ht : P.underlying t = some (.slice e)) (hv : ∀ w, (zeroValue e).run P w = .ok z w) (b o n c : Nat) (hn : 0 < n) (h1 : ∀ v ∈ (Builtin.zeroCells z.cells n).toList, v.oneCell' = true)
    (hc : ∀ j, j < (Builtin.zeroCells z.cells n).toList.length → (w.cell? ⟨b, o + j, none⟩).isSome = true) (hf : ∀ j, j < (Builtin.zeroCells z.cells n).toList.length → w.frozen? ⟨b, o + j, none⟩ = false) :
    (Builtin.clear_ #[t] ty #[.slice (some ⟨b, o, none⟩) n c]).run P w = .ok (.tuple #[]) (w.setCells b o (Builtin.zeroCells z.cells n).toList) := by
  have hst := run_storeCells_cells (P := P) b o (Builtin.zeroCells z.cells n).toList 0 w (by simpa using hc) (by simpa using hf) h1
  simp only [Nat.add_zero] at hst
  obtain ⟨m, rfl⟩ : ∃ m, n = m + 1 := ⟨n - 1, by omega⟩
  simp [Builtin.clear_, run_underlying ht, hv, hst]
theorem zero4_len (n : Nat) : (Builtin.zeroCells (Value.agg #[.int .i64 0, .int .i64 0, .int .i64 0, .int .i64 0]).cells n).toList.length = n * 4 := by simp [Builtin.zeroCells, Value.cells]
theorem zero4_one (n : Nat) : ∀ v ∈ (Builtin.zeroCells (Value.agg #[.int .i64 0, .int .i64 0, .int .i64 0, .int .i64 0]).cells n).toList, v.oneCell' = true := by
  intro v hv
  simp only [Builtin.zeroCells, Value.cells, Array.toList_map, List.mem_map] at hv
  obtain ⟨a, -, rfl⟩ := hv
  have h4 : a % 4 = 0 ∨ a % 4 = 1 ∨ a % 4 = 2 ∨ a % 4 = 3 := by omega
  rcases h4 with h4 | h4 | h4 | h4 <;> simp [h4, Value.oneCell']
theorem And.assoc_ {a b c d P : Prop} (h : a ∧ b ∧ c ∧ d) (p : P) : a ∧ b ∧ c ∧ d ∧ P := ⟨h.1, h.2.1, h.2.2.1, h.2.2.2, p⟩
set_option maxRecDepth 100000 in
set_option maxHeartbeats 4000000 in
theorem iCompact_any (base g n c : Nat) (X : List A4) (w : World) (hO : w.ownsRow base 39 4 (.slice (some ⟨g, 0, none⟩) n c) n (fa X)) (hl : X.length = n) (hn : n ≤ 1048576) (hbw : base ≤ w.heap.size) :
    Calls Try.prog 102 #[.slice (some ⟨g, 0, none⟩) n c, .func (.func 103) #[] #[]] w fun e w' => e = .returned (.slice (some ⟨g, 0, none⟩) (pG X n).length c) ∧ w'.ownsRow base 39 4 (.slice (some ⟨g, 0, none⟩) (pG X n).length c) (pG X n).length (fa (pG X n)) ∧ Below base w w' := by
  obtain ⟨A, cc, hv, hnc, hcm⟩ := own_form hO
  injection hv with e1 _ e3
  subst e3
  clear e1
  have HO := Lib.hid hO; have HL := Lib.hid hl; clear hO hl
  by_cases h2 : n < 2
  · have hp : pG X n = X := by
      have := HL.out
      match n, X, this with
      | 0, [], _ => rfl
      | 1, [a], _ => rfl
      | n + 2, _, _ => omega
    have HP := Lib.hid hp; clear hp
    have l2 : (n : Int) < 2 := by omega
    go_enter Try.func102, Try.ntmps102
    go_wp2_with fail
    go_ret
    rw [HP.out, HL.out]
    exact ⟨rfl, HO.out, Below.refl _ _⟩
  · have l2 : (2 : Int) ≤ (n : Int) := by omega
    have h3 : 2 ≤ n := by omega
    clear h2
    go_enter Try.func102, Try.ntmps102
    go_wp2_with fail
    go_loopg [5] n (fun q i wr => ∃ j : Nat, i = .int .i64 ((j : Int) + 1) ∧ j + 1 ≤ n ∧ n ≤ q + j + 1 ∧ Hid (pG X (j + 1) = X.take (j + 1)) ∧ Hid (World.ownsRow wr base 39 4 (.slice (some ⟨g, 0, none⟩) n c) n (fa X)) ∧ Hid (Below base w wr))
    case atStart => exact ⟨0, by go_num, by omega, by omega, by show pG X 1 = _; exact pG_take (j := 0) (a := X[0]'(by rw [HL.out]; omega)) rfl rfl (List.getElem?_eq_getElem _), HO.out, Below.refl _ _⟩
    case round =>
      obtain ⟨j, rfl, hj, hm, HP, HR, HB⟩ := hrel
      obtain ⟨wo, rfl⟩ : ∃ x : World, x = wr := ⟨_, rfl⟩
      by_cases hlt : j + 1 < n
      · obtain ⟨a, ha⟩ : ∃ a, X[j + 1]? = some a := ⟨_, List.getElem?_eq_getElem (by rw [HL.out]; exact hlt)⟩
        obtain ⟨b, hb⟩ : ∃ b, X[j]? = some b := ⟨_, List.getElem?_eq_getElem (by rw [HL.out]; omega)⟩
        have hkp := kpA_at ha hb
        have hpt := fun h => pG_take HP.out h ha
        obtain ⟨r, hr⟩ : ∃ r, r = arEq a b := ⟨_, rfl⟩
        rw [← hr] at hkp
        have hEQ := iEqA_any a b
        rw [← hr] at hEQ
        have HCL : Hid (∀ x : World, Below wo.heap.size wo x → _) := fun x hx => ((And.assoc_ (ow_cells4 (ow_keep HR.out hx (Nat.le_refl _)) ha) (ow_cells4 (ow_keep HR.out hx (Nat.le_refl _)) hb)))
        obtain ⟨a0, a1, a2, a3⟩ := a
        obtain ⟨b0, b1, b2, b3⟩ := b
        have HA := Lib.hid ha; have HBb := Lib.hid hb; have HKP := Lib.hid hkp; have HPT := Lib.hid hpt; have HEQ := Lib.hid hEQ
        clear ha hb hkp hpt hEQ hr
        have i0 : (0 : Int) ≤ (j : Int) + 1 := by omega
        have i1 : (j : Int) + 1 < (n : Int) := by omega
        have i2 : (0 : Int) ≤ (j : Int) := by omega
        have i3 : (j : Int) < (n : Int) := by omega
        have t1 : ((j : Int) + 1).toNat = j + 1 := by omega
        have e1 : IntKind.i64.wrap ((j : Int) + 1 - 1) = (j : Int) := by rw [IntWalk.i64_in _ (by omega)]; omega
        have e2 : IntKind.i64.wrap (j : Int) = (j : Int) := IntWalk.i64_in _ (by omega)
        have t2 : (j : Int).toNat = j := by omega
        have i4 : (j : Int) ≤ (n : Int) := by omega
        go_wp2_with fail
        have hcel : Hid (∀ x : World, Below wo.heap.size wo x → (Below wo.heap.size wo x ∧ x.cell? ⟨g, (j + 1) * 4, none⟩ = some (.int .i64 a0) ∧ x.cell? ⟨g, (j + 1) * 4 + 1, none⟩ = some (.int .i64 a1) ∧ x.cell? ⟨g, (j + 1) * 4 + 2, none⟩ = some (.int .i64 a2) ∧ x.cell? ⟨g, (j + 1) * 4 + 3, none⟩ = some (.int .i64 a3) ∧ x.cell? ⟨g, j * 4, none⟩ = some (.int .i64 b0) ∧ x.cell? ⟨g, j * 4 + 1, none⟩ = some (.int .i64 b1) ∧ x.cell? ⟨g, j * 4 + 2, none⟩ = some (.int .i64 b2) ∧ x.cell? ⟨g, j * 4 + 3, none⟩ = some (.int .i64 b3))) := fun x hx => ⟨hx, HCL.out x hx⟩
        have hkeep : Hid (∀ x y : World, Below wo.heap.size wo x → Below x.heap.size x y → (Below wo.heap.size wo y ∧ y.cell? ⟨g, (j + 1) * 4, none⟩ = some (.int .i64 a0) ∧ y.cell? ⟨g, (j + 1) * 4 + 1, none⟩ = some (.int .i64 a1) ∧ y.cell? ⟨g, (j + 1) * 4 + 2, none⟩ = some (.int .i64 a2) ∧ y.cell? ⟨g, (j + 1) * 4 + 3, none⟩ = some (.int .i64 a3) ∧ y.cell? ⟨g, j * 4, none⟩ = some (.int .i64 b0) ∧ y.cell? ⟨g, j * 4 + 1, none⟩ = some (.int .i64 b1) ∧ y.cell? ⟨g, j * 4 + 2, none⟩ = some (.int .i64 b2) ∧ y.cell? ⟨g, j * 4 + 3, none⟩ = some (.int .i64 b3))) := fun x y h1 h2 => hcel.out y (h1.trans (h2.mono h1.size))
        have hfrom := hcel.out wo.drew (Below.drew (Below.refl _ _))
        go_cut [28] from 18 to 29 (fun v wx => v = .bool r ∧ Hid (Below wo.heap.size wo wx))
        case first =>
          go_region_held3 (fun x => Below wo.heap.size wo x ∧ x.cell? ⟨g, (j + 1) * 4, none⟩ = some (.int .i64 a0) ∧ x.cell? ⟨g, (j + 1) * 4 + 1, none⟩ = some (.int .i64 a1) ∧ x.cell? ⟨g, (j + 1) * 4 + 2, none⟩ = some (.int .i64 a2) ∧ x.cell? ⟨g, (j + 1) * 4 + 3, none⟩ = some (.int .i64 a3) ∧ x.cell? ⟨g, j * 4, none⟩ = some (.int .i64 b0) ∧ x.cell? ⟨g, j * 4 + 1, none⟩ = some (.int .i64 b1) ∧ x.cell? ⟨g, j * 4 + 2, none⟩ = some (.int .i64 b2) ∧ x.cell? ⟨g, j * 4 + 3, none⟩ = some (.int .i64 b3)) (first | (with_reducible assumption) | go_keep)
            (first
              | (go_at_call 103; refine (HEQ.out _).mono ?_; rintro e wq ⟨rfl, hbq⟩; have sq := (fun h => hkeep.out _ _ h hbq) (by first | (with_reducible assumption) | (with_reducible (apply And.left; assumption)))))
          try go_wp2_with fail
          go_meet
          exact ⟨rfl, sq.1⟩
        case rest =>
        obtain ⟨rfl, HBq⟩ := hcut
        obtain ⟨wq, rfl⟩ : ∃ x : World, x = wc := ⟨_, rfl⟩
        clear hcel hkeep hfrom HCL
        clear i2 i3
        have HRq := Lib.hid (ow_keep HR.out HBq.out (Nat.le_refl _))
        have HBw := Lib.hid (HB.out.trans (HBq.out.mono (Nat.le_trans hbw HB.out.size)))
        cases r with
        | false =>
          have HP2 := Lib.hid (HPT.out HKP.out)
          go_wp2_with fail
          go_roundg (gk - 1)
          case measure => omega
          case rel => exact ⟨j + 1, by go_num, by omega, by omega, HP2.out, HRq.out, HBw.out⟩
        | true =>
          obtain ⟨J, hJ⟩ : ∃ J, J = j + 1 := ⟨_, rfl⟩
          have HK0 : Hid (pG X (J + 1) = pG X J) := by subst hJ; exact pG_step_neg HKP.out
          have HPJ : Hid (pG X J = X.take J) := by subst hJ; exact HP.out
          have hcJ : (c = J) = False := eq_false (by omega)
          have hJ1 : J < n := by omega
          have hJ0 : 1 ≤ J := by omega
          have hJc : (J : Int) ≤ (c : Int) := by omega
          have hJi : (j : Int) + 1 = (J : Int) := by omega
          rw [hJi]
          rw [hJi] at i0 i1
          have hJn : (J : Int) ≤ (n : Int) := by omega
          have hnci : (n : Int) ≤ (c : Int) := by omega
          clear t1 t2 e1 e2 i4 HA HBb HKP HPT hlt hm hj hJ hJi
          have HKJ : Hid (cmT X (J + 1) = X) := by
            show _ = _
            unfold cmT
            rw [HK0.out]
            exact cmT_full HPJ.out (by rw [HL.out]; omega)
          have HPL : Hid (J = (pG X (J + 1)).length) := by show _ = _; rw [HK0.out, HPJ.out, List.length_take, HL.out]; omega
          go_wp2_with fail
          obtain ⟨d, hd⟩ : ∃ d, d = n - J := ⟨_, rfl⟩
          obtain ⟨ce, hce⟩ : ∃ d, d = c - J := ⟨_, rfl⟩
          rw [← hd, ← hce]
          have hnd : n = J + d := by omega
          have HND := Lib.hid hnd
          have HCE := Lib.hid hce
          have hd1 : 1 ≤ d := by omega
          have hdn : d ≤ 1048576 := by omega
          clear hd hce hnd i0 i1 hcJ hJ1 hJc hJn hnci
          have HJ0 := Lib.hid hJ0; clear hJ0
          go_loopg [5, 7] d (fun q i k wr => ∃ m p : Nat, k = .int .i64 ((m : Int) + 1) ∧ m + 1 ≤ d ∧ d ≤ q + m + 1 ∧ i = .int .i64 (p : Int) ∧ Hid (p = (pG X (J + m + 1)).length) ∧ Hid (p ≤ J + m) ∧ Hid (World.ownsRow wr base 39 4 (.slice (some ⟨g, 0, none⟩) n c) n (fa (cmT X (J + m + 1)))) ∧ Hid (Below base w wr))
          case atStart => exact ⟨0, J, by go_num, by omega, by omega, rfl, HPL.out, Nat.le_refl _, by show World.ownsRow _ _ _ _ _ _ _; rw [show J + 0 + 1 = J + 1 from rfl, HKJ.out]; exact HRq.out, HBw.out⟩
          case round =>
            clear HKJ HPL HK0 HPJ HRq HBw
            obtain ⟨m, p, rfl, hm1, hq1, rfl, HPm, HPb, HR2, HB2⟩ := hrel
            obtain ⟨wo, rfl⟩ : ∃ x : World, x = wr := ⟨_, rfl⟩
            by_cases hlt : m + 1 < d
            · obtain ⟨a, ha⟩ : ∃ a, X[J + m + 1]? = some a := ⟨_, List.getElem?_eq_getElem (by rw [HL.out, HND.out]; omega)⟩
              obtain ⟨b, hb⟩ : ∃ b, X[J + m]? = some b := ⟨_, List.getElem?_eq_getElem (by rw [HL.out, HND.out]; omega)⟩
              have ha' : (cmT X (J + m + 1))[J + m + 1]? = some a := (cmT_at (by rw [← HPm.out]; have := HPb.out; omega)).trans ha
              have hb' : (cmT X (J + m + 1))[J + m]? = some b := (cmT_at (by rw [← HPm.out]; exact HPb.out)).trans hb
              have hkp := kpA_at ha hb
              have hks := fun h => cmT_keep h ha
              obtain ⟨r, hr⟩ : ∃ r, r = arEq a b := ⟨_, rfl⟩
              rw [← hr] at hkp
              have hEQ := iEqA_any a b
              rw [← hr] at hEQ
              have HCL : Hid (∀ x : World, Below wo.heap.size wo x → _) := fun x hx => ((And.assoc_ (ow_cells4 (ow_keep HR2.out hx (Nat.le_refl _)) ha') (ow_cells4 (ow_keep HR2.out hx (Nat.le_refl _)) hb')))
              rw [show (J + m + 1) * 4 = J * 4 + (m + 1) * 4 by omega, show (J + m) * 4 = J * 4 + m * 4 by omega] at HCL
              obtain ⟨a0, a1, a2, a3⟩ := a
              obtain ⟨b0, b1, b2, b3⟩ := b
              have HEQ := Lib.hid hEQ; have HKP := Lib.hid hkp; have HKS := Lib.hid hks; have HA := Lib.hid ha'
              clear ha hb ha' hb' hkp hEQ hks hr
              have i0 : (0 : Int) ≤ (m : Int) + 1 := by omega
              have i1 : (m : Int) + 1 < (d : Int) := by omega
              have i2 : (0 : Int) ≤ (m : Int) := by omega
              have i3 : (m : Int) < (d : Int) := by omega
              have t1 : ((m : Int) + 1).toNat = m + 1 := by omega
              have e1 : IntKind.i64.wrap ((m : Int) + 1 - 1) = (m : Int) := by rw [IntWalk.i64_in _ (by omega)]; omega
              have e2 : IntKind.i64.wrap (m : Int) = (m : Int) := IntWalk.i64_in _ (by omega)
              have t2 : (m : Int).toNat = m := by omega
              have i4 : (m : Int) ≤ (d : Int) := by omega
              go_wp2_with fail
              have hcel : Hid (∀ x : World, Below wo.heap.size wo x → (Below wo.heap.size wo x ∧ x.cell? ⟨g, J * 4 + (m + 1) * 4, none⟩ = some (.int .i64 a0) ∧ x.cell? ⟨g, J * 4 + (m + 1) * 4 + 1, none⟩ = some (.int .i64 a1) ∧ x.cell? ⟨g, J * 4 + (m + 1) * 4 + 2, none⟩ = some (.int .i64 a2) ∧ x.cell? ⟨g, J * 4 + (m + 1) * 4 + 3, none⟩ = some (.int .i64 a3) ∧ x.cell? ⟨g, J * 4 + m * 4, none⟩ = some (.int .i64 b0) ∧ x.cell? ⟨g, J * 4 + m * 4 + 1, none⟩ = some (.int .i64 b1) ∧ x.cell? ⟨g, J * 4 + m * 4 + 2, none⟩ = some (.int .i64 b2) ∧ x.cell? ⟨g, J * 4 + m * 4 + 3, none⟩ = some (.int .i64 b3))) := fun x hx => ⟨hx, HCL.out x hx⟩
              have hkeep : Hid (∀ x y : World, Below wo.heap.size wo x → Below x.heap.size x y → (Below wo.heap.size wo y ∧ y.cell? ⟨g, J * 4 + (m + 1) * 4, none⟩ = some (.int .i64 a0) ∧ y.cell? ⟨g, J * 4 + (m + 1) * 4 + 1, none⟩ = some (.int .i64 a1) ∧ y.cell? ⟨g, J * 4 + (m + 1) * 4 + 2, none⟩ = some (.int .i64 a2) ∧ y.cell? ⟨g, J * 4 + (m + 1) * 4 + 3, none⟩ = some (.int .i64 a3) ∧ y.cell? ⟨g, J * 4 + m * 4, none⟩ = some (.int .i64 b0) ∧ y.cell? ⟨g, J * 4 + m * 4 + 1, none⟩ = some (.int .i64 b1) ∧ y.cell? ⟨g, J * 4 + m * 4 + 2, none⟩ = some (.int .i64 b2) ∧ y.cell? ⟨g, J * 4 + m * 4 + 3, none⟩ = some (.int .i64 b3))) := fun x y h1 h2 => hcel.out y (h1.trans (h2.mono h1.size))
              have hfrom := hcel.out wo.drew (Below.drew (Below.refl _ _))
              go_cut [49] from 38 to 50 (fun v wx => v = .bool (!r) ∧ Hid (Below wo.heap.size wo wx))
              case first =>
                go_region_held3 (fun x => Below wo.heap.size wo x ∧ x.cell? ⟨g, J * 4 + (m + 1) * 4, none⟩ = some (.int .i64 a0) ∧ x.cell? ⟨g, J * 4 + (m + 1) * 4 + 1, none⟩ = some (.int .i64 a1) ∧ x.cell? ⟨g, J * 4 + (m + 1) * 4 + 2, none⟩ = some (.int .i64 a2) ∧ x.cell? ⟨g, J * 4 + (m + 1) * 4 + 3, none⟩ = some (.int .i64 a3) ∧ x.cell? ⟨g, J * 4 + m * 4, none⟩ = some (.int .i64 b0) ∧ x.cell? ⟨g, J * 4 + m * 4 + 1, none⟩ = some (.int .i64 b1) ∧ x.cell? ⟨g, J * 4 + m * 4 + 2, none⟩ = some (.int .i64 b2) ∧ x.cell? ⟨g, J * 4 + m * 4 + 3, none⟩ = some (.int .i64 b3)) (first | (with_reducible assumption) | go_keep)
                  (first
                    | (go_at_call 103; refine (HEQ.out _).mono ?_; rintro e wq ⟨rfl, hbq⟩; have sq := (fun h => hkeep.out _ _ h hbq) (by first | (with_reducible assumption) | (with_reducible (apply And.left; assumption)))))
                try go_wp2_with fail
                go_meet
                exact ⟨rfl, sq.1⟩
              case rest =>
              obtain ⟨rfl, HBq⟩ := hcut
              obtain ⟨wq, rfl⟩ : ∃ x : World, x = wc := ⟨_, rfl⟩
              clear hcel hkeep hfrom HCL
              clear i2 i3 e1 e2 t2 i4
              have HRq := Lib.hid (ow_keep HR2.out HBq.out (Nat.le_refl _))
              have HBw := Lib.hid (HB2.out.trans (HBq.out.mono (Nat.le_trans hbw HB2.out.size)))
              cases r with
              | true =>
                have HS1 : Hid (pG X (J + (m + 1) + 1) = pG X (J + m + 1)) := pG_step_neg HKP.out
                have HS2 : Hid (cmT X (J + (m + 1) + 1) = cmT X (J + m + 1)) := cmT_skip HKP.out
                go_wp2_with fail
                go_roundg (gk - 1)
                case measure => omega
                case rel => exact ⟨m + 1, p, by go_num, by omega, by omega, rfl, by show _ = _; rw [HS1.out]; exact HPm.out, by have := HPb.out; show _ ≤ _; omega, by show World.ownsRow _ _ _ _ _ _ _; rw [HS2.out]; exact HRq.out, HBw.out⟩
              | false =>
                have HS1 : Hid (p + 1 = (pG X (J + (m + 1) + 1)).length) := by show p + 1 = (pG X (J + m + 1 + 1)).length; rw [pG_step_pos HKP.out, List.length_append, ← HPm.out]; rfl
                have HS2 := Lib.hid (HKS.out HKP.out)
                have HFA := Lib.hid (fa_set (l := cmT X (J + m + 1)) (j := p) (by rw [cmT_len (by rw [HL.out, HND.out]; omega), HL.out, HND.out]; have := HPb.out; omega) a0 a1 a2 a3)
                obtain ⟨x, hx⟩ : ∃ x, (cmT X (J + m + 1))[p]? = some x := ⟨_, List.getElem?_eq_getElem (by rw [cmT_len (by rw [HL.out, HND.out]; omega), HL.out, HND.out]; have := HPb.out; omega)⟩
                obtain ⟨x0, x1, x2, x3⟩ := x
                obtain ⟨f0, f1, f2, f3⟩ := fa_get hx
                obtain ⟨c0, q0⟩ := ow_cell HRq.out f0
                obtain ⟨c1, q1⟩ := ow_cell HRq.out f1
                obtain ⟨c2, q2⟩ := ow_cell HRq.out f2
                obtain ⟨c3, q3⟩ := ow_cell HRq.out f3
                have HX := Lib.hid hx
                obtain ⟨s0, s1, s2, s3⟩ := ow_cells4 HRq.out HA.out
                rw [show (J + m + 1) * 4 = J * 4 + (m + 1) * 4 by omega] at s0 s1 s2 s3
                have p0 : (0 : Int) ≤ (p : Int) := by omega
                have p1 : (p : Int) < (n : Int) := by have := HPb.out; have := HND.out; omega
                clear f0 f1 f2 f3 hx
                go_wp2_with fail
                have hbg := (HRq.out.lt g rfl).1
                have hfl : p * 4 + 3 < (fa (cmT X (J + m + 1))).length := by rw [fa_length, cmT_len (by rw [HL.out, HND.out]; omega), HL.out, HND.out]; have := HPb.out; omega
                go_roundg (gk - 1)
                case measure => omega
                case rel =>
                  refine ⟨m + 1, p + 1, by go_num, by omega, by omega, by go_num, HS1.out, by have := HPb.out; show _ ≤ _; omega, ?_, (((HBw.out.setCell hbg _).setCell hbg _).setCell hbg _).setCell hbg _⟩
                  show World.ownsRow _ _ _ _ _ _ (fa (cmT X (J + m + 1 + 1)))
                  rw [HS2.out, ← HPm.out, ← HFA.out]
                  exact ow_set (ow_set (ow_set (ow_set HRq.out (by omega)) (by rw [List.length_set]; omega)) (by rw [List.length_set, List.length_set]; omega)) (by rw [List.length_set, List.length_set, List.length_set]; omega)
            · have hJm : J + m + 1 = n := by have := HND.out; omega
              have hm' : m + 1 = d := by omega
              have HPn : Hid (p = (pG X n).length) := by show _ = _; rw [HPm.out, hJm]
              have HRn : Hid (World.ownsRow wo base 39 4 (.slice (some ⟨g, 0, none⟩) n c) n (fa (cmT X n))) := by have := HR2.out; rw [hJm] at this; exact this
              have hpn : p < n := by have := HPb.out; omega
              have hflen : (fa (cmT X n)).length = n * 4 := by rw [fa_length, cmT_len (by rw [HL.out]; exact Nat.le_refl _), HL.out]; omega
              have hzl := zero4_len (n - p)
              have hclr := fun ty => run_clearN (P := Try.prog) wo 25 39 ty (Value.agg #[.int .i64 0, .int .i64 0, .int .i64 0, .int .i64 0]) Try.underlying25 Try.zeroValue39 g (p * 4) (n - p) (c - p) (by omega) (zero4_one _)
                (fun j hj => by
                  rw [hzl] at hj
                  obtain ⟨u, hu⟩ : ∃ u, (fa (cmT X n))[p * 4 + j]? = some u := ⟨_, List.getElem?_eq_getElem (by rw [hflen]; omega)⟩
                  rw [(ow_cell HRn.out hu).1]; rfl)
                (fun j hj => by
                  rw [hzl] at hj
                  obtain ⟨u, hu⟩ : ∃ u, (fa (cmT X n))[p * 4 + j]? = some u := ⟨_, List.getElem?_eq_getElem (by rw [hflen]; omega)⟩
                  exact (ow_cell HRn.out hu).2)
              have HSC := Lib.hid (ow_setCells (Builtin.zeroCells (Value.agg #[.int .i64 0, .int .i64 0, .int .i64 0, .int .i64 0]).cells (n - p)).toList (p * 4) wo (fa (cmT X n)) HRn.out (by rw [hzl, hflen]; omega))
              obtain ⟨Z, hZ⟩ : ∃ Z, Z = (Builtin.zeroCells (Value.agg #[.int .i64 0, .int .i64 0, .int .i64 0, .int .i64 0]).cells (n - p)).toList := ⟨_, rfl⟩
              rw [← hZ] at hclr HSC
              have n1 : ¬ (m : Int) + 1 < (d : Int) := by omega
              have hcp : (c = p) = False := eq_false (by omega)
              have p0 : (0 : Int) ≤ (p : Int) := by omega
              have p1 : (p : Int) ≤ (n : Int) := by omega
              have p2 : (p : Int) ≤ (c : Int) := by omega
              clear hlt hJm hm' hpn hflen hzl hZ
              go_wp2_with fail
              go_ret
              obtain ⟨X', h1, h2, h3⟩ := HSC.out
              have hX : X'.take (p * 4) = fa (pG X n) := by
                rw [h2]
                unfold cmT
                rw [fa_append, List.take_left' (by rw [fa_length, ← HPn.out]; omega)]
              have h4 := ow_short (m := p) h1 (by omega)
              rw [hX] at h4
              rw [← HPn.out]
              exact ⟨rfl, h4, HB2.out.trans h3⟩
      · have hjn : j + 1 = n := by omega
        have HPn : Hid (pG X n = X) := by show _ = _; rw [← hjn, HP.out]; exact List.take_of_length_le (by rw [HL.out]; omega)
        have n1 : ¬ (j : Int) + 1 < (n : Int) := by omega
        clear hlt hjn
        go_wp2_with fail
        go_ret
        rw [HPn.out, HL.out]
        exact ⟨rfl, HR.out, HB.out⟩
end Go.Proofs.Ytkfmjnefbimecaa
