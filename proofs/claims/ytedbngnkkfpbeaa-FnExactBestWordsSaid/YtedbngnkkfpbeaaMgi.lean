/- Several texts in one: Bounds of costs while they are relaxed; what both programs' helper functions need, plainly. ArcS: marks and what is held against them. Int64S: marks and what is held against them. -/
import Derived.Test.YtedbngnkkfpbeaaCoQ
import Derived.Test.YtedbngnkkfpbeaaVm
import Derived.Test.YtedbngnkkfpbeaaMgd

namespace Go.Proofs.Ytedbngnkkfpbeaa
set_option linter.unusedVariables false
def Bd (F : Int) (u : List Int) : Prop := ∀ x ∈ u, 0 ≤ x ∧ x ≤ F
section
variable {F : Int} {u : List Int}
theorem Bd.set (h : Bd F u) {k : Nat} {x : Int} (hx : 0 ≤ x ∧ x ≤ F) : Bd F (u.set k x) := fun y hy => by
  rcases List.mem_or_eq_of_mem_set hy with h1 | rfl
  · exact h y h1
  · exact hx
theorem Bd.get (h : Bd F u) {k : Nat} {x : Int} (hx : u[k]? = some x) : 0 ≤ x ∧ x ≤ F := h x (List.mem_of_getElem? hx)
theorem Bd.g0 (h : Bd F u) (hF : 0 ≤ F) (k : Nat) : 0 ≤ g0 u k ∧ g0 u k ≤ F := by
  unfold Go.Proofs.Ytedbngnkkfpbeaa.g0
  rw [List.getD_eq_getElem?_getD]
  cases hx : u[k]? with
  | none => exact ⟨Int.le_refl _, hF⟩
  | some x => exact h.get hx
theorem Bd.rel1 (h : Bd F u) (hF : 0 ≤ F) {a : A4} (ha : 0 ≤ a.2.2.2) : Bd F (rel1 u a) := by
  unfold Go.Proofs.Ytedbngnkkfpbeaa.rel1
  split
  · refine h.set ?_
    have := h.g0 hF a.2.1.toNat; have := h.g0 hF a.1.toNat
    omega
  · exact h
theorem Bd.relT (hF : 0 ≤ F) : ∀ {L : List A4} {u : List Int}, Bd F u → (∀ a ∈ L, 0 ≤ a.2.2.2) → Bd F (rel L u)
  | [], _, h, _ => h
  | a :: L, u, h, hL => show Bd F (rel L (Go.Proofs.Ytedbngnkkfpbeaa.rel1 u a)) from Bd.relT hF (h.rel1 hF (hL a (List.mem_cons_self ..))) (fun x hx => hL x (List.mem_cons_of_mem _ hx))
theorem Bd.relN (hF : 0 ≤ F) {L : List A4} (h : Bd F u) (hL : ∀ a ∈ L, 0 ≤ a.2.2.2) : ∀ r, Bd F (relN L u r)
  | 0 => h
  | r + 1 => Bd.relT hF (Bd.relN hF h hL r) hL
theorem Bd.stp1 {v : List Int} (h : Bd F u) (hv : Bd F v) (hF : 0 ≤ F) {l : Int} {a : A4} (ha : 0 ≤ a.2.2.2) : Bd F (stp1 l v u a) := by
  unfold Go.Proofs.Ytedbngnkkfpbeaa.stp1
  split
  · refine h.set ?_
    have := h.g0 hF a.2.1.toNat; have := hv.g0 hF a.1.toNat
    omega
  · exact h
theorem Bd.rep (hF : 0 ≤ F) (n : Nat) : Bd F (List.replicate n F) := fun x hx => by
  rw [List.eq_of_mem_replicate hx]; exact ⟨hF, Int.le_refl _⟩
theorem Bd.stpT {v : List Int} (hv : Bd F v) (hF : 0 ≤ F) {L : List A4} {l : Int} (hL : ∀ a ∈ L, 0 ≤ a.2.2.2) (j : Nat) : Bd F (stpT F L l v j) := by
  induction j with
  | zero => exact Bd.rep hF _
  | succ j ih =>
    cases hx : L[j]? with
    | none =>
      have : L.length ≤ j := by simpa using hx
      have e : Go.Proofs.Ytedbngnkkfpbeaa.stpT F L l v (j + 1) = Go.Proofs.Ytedbngnkkfpbeaa.stpT F L l v j := by unfold Go.Proofs.Ytedbngnkkfpbeaa.stpT; rw [List.take_of_length_le (by omega), List.take_of_length_le (by omega)]
      rw [e]; exact ih
    | some a => rw [stpT_succ hx]; exact ih.stp1 hv hF (hL a (List.mem_of_getElem? hx))
end
/-- Costs with 'far' where there is none. -/
def frL (F : Int) (P : List Int) : List Int := P.map fun x => if x < 0 then F else x
theorem frL_len (F : Int) (P : List Int) : (frL F P).length = P.length := by simp [frL]
theorem frL_bd {F : Int} {P : List Int} (hF : 0 ≤ F) (hP : ∀ x ∈ P, x ≤ F) : Bd F (frL F P) := fun y hy => by
  simp only [frL, List.mem_map] at hy
  obtain ⟨x, hx, rfl⟩ := hy
  have := hP x hx
  split <;> omega
theorem frL_get {F : Int} {P : List Int} {k : Nat} {x : Int} (h : P[k]? = some x) : (frL F P)[k]? = some (if x < 0 then F else x) := by
  simp [frL, h]
/-- The first k have been turned. -/
def frT (F : Int) (P : List Int) (k : Nat) : List Int := frL F (P.take k) ++ P.drop k
theorem frT_len (F : Int) (P : List Int) (k : Nat) : (frT F P k).length = P.length := by
  unfold frT; rw [List.length_append, frL_len, List.length_take, List.length_drop]; omega
theorem frT_zero (F : Int) (P : List Int) : frT F P 0 = P := by simp [frT, frL]
theorem frT_all (F : Int) (P : List Int) : frT F P P.length = frL F P := by simp [frT]
theorem frT_at {F : Int} {P : List Int} {k : Nat} {x : Int} (h : P[k]? = some x) : (frT F P k)[k]? = some x := by
  obtain ⟨hk, rfl⟩ := List.getElem?_eq_some_iff.1 h
  unfold frT
  have hl : (frL F (P.take k)).length = k := by rw [frL_len, List.length_take]; omega
  rw [List.getElem?_append_right (by omega), hl, Nat.sub_self, List.getElem?_drop, Nat.add_zero, List.getElem?_eq_getElem hk]
theorem frT_step {F : Int} {P : List Int} {k : Nat} {x : Int} (h : P[k]? = some x) : frT F P (k + 1) = (frT F P k).set k (if x < 0 then F else x) := by
  obtain ⟨hk, rfl⟩ := List.getElem?_eq_some_iff.1 h
  unfold frT
  have hl : (frL F (P.take k)).length = k := by rw [frL_len, List.length_take]; omega
  rw [List.set_append_right _ _ (by omega), hl, Nat.sub_self, List.drop_eq_getElem_cons hk, List.set_cons_zero, List.take_succ_eq_append_getElem hk]
  show List.map _ (P.take k ++ [P[k]]) ++ _ = _
  rw [List.map_append, List.append_assoc]; rfl
theorem frT_keep {F : Int} {P : List Int} {k : Nat} {x : Int} (h : P[k]? = some x) (hx : ¬ x < 0) : frT F P (k + 1) = frT F P k := by
  rw [frT_step h, if_neg hx]
  have := frT_at (F := F) h
  obtain ⟨hk, e⟩ := List.getElem?_eq_some_iff.1 this
  rw [← e, List.set_getElem_self]
/-- The least sum. -/
def lsm (F : Int) (a b : List Int) : Nat → Int := mins F fun i => g0 a i + g0 b i
end Go.Proofs.Ytedbngnkkfpbeaa


namespace Go.Proofs.Ytedbngnkkfpbeaa
open Go.RowKit
set_option linter.unusedVariables false
set_option maxHeartbeats 1000000 in
theorem markGArcS (g n m c : Nat) (k : Int) (w : World) (h : RowN w g 89 (m * 4)) (hnm : n ≤ m) (hn : n ≤ 1048576) (hk0 : 0 ≤ k) (hk1 : k ≤ 1000000000) :
    Calls Try.prog 57 #[.slice (some ⟨g, 0, none⟩) n c, .int .i64 k] w fun e w' => e = .returned (.int .i64 (k + 4 * (n : Int))) ∧ (∀ q : Nat, q < (n * 4) → w'.cell? ⟨g, q, none⟩ = some ((Value.int .i64) (k + q))) ∧ But g w w' := by
  go_enter Try.func57, Try.ntmps57
  go_wp2_with fail
  go_loopg [1, 5] n (fun p z i wr => ∃ j : Nat, z = .int .i64 (k + 4 * (j : Int)) ∧ i = .int .i64 j ∧ j ≤ n ∧ n ≤ p + j ∧ Hid (RowN wr g 89 (m * 4)) ∧ Hid (∀ q : Nat, q < j * 4 → wr.cell? ⟨g, q, none⟩ = some ((Value.int .i64) (k + q))) ∧ But g w wr)
  case atStart => exact ⟨0, by simp, rfl, by omega, by omega, h, fun q hq => by omega, But.refl _ _⟩
  case round =>
    obtain ⟨j, rfl, rfl, hj, hm, HR, HQ, hb⟩ := hrel
    by_cases hlt : j < n
    · have l1 : (0 : Int) ≤ (j : Int) := by omega
      obtain ⟨u0, hc0, hf0⟩ := HR.out.cell (k := j * 4 + 0) (show j * 4 + 0 < m * 4 by omega)
      obtain ⟨u1, hc1, hf1⟩ := HR.out.cell (k := j * 4 + 1) (show j * 4 + 1 < m * 4 by omega)
      obtain ⟨u2, hc2, hf2⟩ := HR.out.cell (k := j * 4 + 2) (show j * 4 + 2 < m * 4 by omega)
      obtain ⟨u3, hc3, hf3⟩ := HR.out.cell (k := j * 4 + 3) (show j * 4 + 3 < m * 4 by omega)
      rw [Nat.add_zero] at hc0 hf0
      go_wp2_with fail
      go_roundg (gk - 1)
      case measure => omega
      case rel =>
        refine ⟨j + 1, by simp; omega, by go_num, by omega, by omega, (((HR.out.set _ _).set _ _).set _ _).set _ _, fun q hq => ?_, (((hb.trans (But.set _ _ _)).trans (But.set _ _ _)).trans (But.set _ _ _)).trans (But.set _ _ _)⟩
        obtain ⟨vs, hn', hrow⟩ := HR.out
        have hcell : ∀ q, wr.cell? ⟨g, q, none⟩ = vs[q]? := hrow.cell
        rw [((((hrow.set_ (j * 4) _).set_ (j * 4 + 1) _).set_ (j * 4 + 2) _).set_ (j * 4 + 3) _).cell, set4_get (by omega)]
        by_cases h0 : q = j * 4
        · subst h0; rw [if_pos rfl]; congr 2; push_cast; omega
        by_cases h1 : q = j * 4 + 1
        · subst h1; rw [if_neg (by omega), if_pos rfl]; congr 2; push_cast; omega
        by_cases h2 : q = j * 4 + 2
        · subst h2; rw [if_neg (by omega), if_neg (by omega), if_pos rfl]; congr 2; push_cast; omega
        by_cases h3 : q = j * 4 + 3
        · subst h3; rw [if_neg (by omega), if_neg (by omega), if_neg (by omega), if_pos rfl]; congr 2; push_cast; omega
        rw [if_neg h0, if_neg h1, if_neg h2, if_neg h3, ← hcell]
        exact HQ.out q (by omega)
    · obtain rfl : n = j := by omega
      go_wp2_with fail
      go_ret
      exact ⟨rfl, HQ.out, hb⟩
theorem markNArcS (k : Int) (w : World) :
    Calls Try.prog 57 #[.slice none 0 0, .int .i64 k] w fun e w' => e = .returned (.int .i64 k) ∧ w = w' := by
  go_enter Try.func57, Try.ntmps57
  go_wp2_with fail
  go_loopg [1, 5] 0 (fun p z i wr => z = .int .i64 k ∧ i = .int .i64 0 ∧ wr = w)
  case atStart => exact ⟨rfl, rfl, rfl⟩
  case round =>
    obtain ⟨rfl, rfl, rfl⟩ := hrel
    go_wp2_with fail
    go_ret
    exact ⟨rfl, rfl⟩
theorem markVArcS (lo hi : Nat) (v : Value) (n : Nat) (xs : List Value) (k : Int) (w : World) (h : OwnV w lo hi 89 4 v n xs) (hn : n ≤ 1048576) (hk0 : 0 ≤ k) (hk1 : k ≤ 1000000000) :
    Calls Try.prog 57 #[v, .int .i64 k] w fun e w' => e = .returned (.int .i64 (k + 4 * (n : Int))) ∧ Mkd (Value.int .i64) w' 4 v n k ∧ w.grownBy w' v.ownBlock := by
  rcases h.rowN with ⟨rfl, rfl⟩ | ⟨g, cap, rfl, hbg, hgh, hr, hc⟩
  · refine (markNArcS k w).mono ?_
    rintro e w' ⟨rfl, rfl⟩
    exact ⟨ret_int (by omega), .inl ⟨rfl, rfl⟩, grown_refl _ _⟩
  · refine (markGArcS g n cap cap k w (by simpa using hr) hc hn hk0 hk1).mono ?_
    rintro e w' ⟨rfl, hq, hbut⟩
    exact ⟨rfl, .inr ⟨g, cap, rfl, Nat.lt_of_lt_of_le hr.lt hbut.2.2.2.1, by simpa using hq⟩, hbut.grown⟩
end Go.Proofs.Ytedbngnkkfpbeaa


namespace Go.Proofs.Ytedbngnkkfpbeaa
open Go.RowKit
set_option linter.unusedVariables false
set_option maxHeartbeats 1000000 in
theorem markGInt64S (g n m c : Nat) (k : Int) (w : World) (h : RowN w g 2 m) (hnm : n ≤ m) (hn : n ≤ 1048576) (hk0 : 0 ≤ k) (hk1 : k ≤ 1000000000) :
    Calls Try.prog 22 #[.slice (some ⟨g, 0, none⟩) n c, .int .i64 k] w fun e w' => e = .returned (.int .i64 (k + (n : Int))) ∧ (∀ q : Nat, q < n → w'.cell? ⟨g, q, none⟩ = some ((Value.int .i64) (k + q))) ∧ But g w w' := by
  go_enter Try.func22, Try.ntmps22
  go_wp2_with fail
  go_loopg [1, 5] n (fun p z i wr => ∃ j : Nat, z = .int .i64 (k + (j : Int)) ∧ i = .int .i64 j ∧ j ≤ n ∧ n ≤ p + j ∧ Hid (RowN wr g 2 m) ∧ Hid (∀ q : Nat, q < j → wr.cell? ⟨g, q, none⟩ = some ((Value.int .i64) (k + q))) ∧ But g w wr)
  case atStart => exact ⟨0, by simp, rfl, by omega, by omega, h, fun q hq => by omega, But.refl _ _⟩
  case round =>
    obtain ⟨j, rfl, rfl, hj, hm, HR, HQ, hb⟩ := hrel
    by_cases hlt : j < n
    · have l1 : (0 : Int) ≤ (j : Int) := by omega
      obtain ⟨u, hc, hf⟩ := HR.out.cell (show j < m by omega)
      go_wp2_with fail
      go_roundg (gk - 1)
      case measure => omega
      case rel =>
        refine ⟨j + 1, by simp; omega, by go_num, by omega, by omega, HR.out.set _ _, fun q hq => ?_, hb.trans (But.set _ _ _)⟩
        rcases Nat.lt_or_ge q j with h' | h'
        · rw [World.cell?_setCell_other _ _ _ _ (fun e => by injection e with _ e2 _; omega)]
          exact HQ.out q h'
        · obtain rfl : q = j := by omega
          obtain ⟨vs, hn', hrow⟩ := HR.out
          rw [(hrow.set_ q _).cell, List.getElem?_set_self (by omega)]
    · obtain rfl : n = j := by omega
      go_wp2_with fail
      go_ret
      exact ⟨rfl, HQ.out, hb⟩
theorem markNInt64S (k : Int) (w : World) :
    Calls Try.prog 22 #[.slice none 0 0, .int .i64 k] w fun e w' => e = .returned (.int .i64 k) ∧ w = w' := by
  go_enter Try.func22, Try.ntmps22
  go_wp2_with fail
  go_loopg [1, 5] 0 (fun p z i wr => z = .int .i64 k ∧ i = .int .i64 0 ∧ wr = w)
  case atStart => exact ⟨rfl, rfl, rfl⟩
  case round =>
    obtain ⟨rfl, rfl, rfl⟩ := hrel
    go_wp2_with fail
    go_ret
    exact ⟨rfl, rfl⟩
set_option maxHeartbeats 1000000 in
theorem heldGInt64S (g n c : Nat) (k : Int) (w : World) (h : ∀ q : Nat, q < n → w.cell? ⟨g, q, none⟩ = some ((Value.int .i64) (k + q))) (hn : n ≤ 1048576) (hk0 : 0 ≤ k) (hk1 : k ≤ 1000000000) :
    Calls Try.prog 24 #[.slice (some ⟨g, 0, none⟩) n c, .int .i64 k] w fun e w' => e = .returned (.int .i64 (k + (n : Int))) ∧ w = w' := by
  have HC := Lib.hid h
  clear h
  go_enter Try.func24, Try.ntmps24
  go_wp2_with fail
  go_loopg [1, 5] n (fun m z i wr => ∃ j : Nat, z = .int .i64 (k + (j : Int)) ∧ i = .int .i64 j ∧ j ≤ n ∧ n ≤ m + j ∧ wr = w)
  case atStart => exact ⟨0, by simp, rfl, by omega, by omega, rfl⟩
  case round =>
    obtain ⟨j, rfl, rfl, hj, hm, rfl⟩ := hrel
    by_cases hlt : j < n
    · have l1 : (0 : Int) ≤ (j : Int) := by omega
      have hc := HC.out j hlt
      go_wp2_with fail
      go_roundg (gk - 1)
      case measure => omega
      case rel => exact ⟨j + 1, by simp; omega, by go_num, by omega, by omega, rfl⟩
    · obtain rfl : n = j := by omega
      go_wp2_with fail
      go_ret
      exact ⟨rfl, rfl⟩
theorem heldNInt64S (k : Int) (w : World) :
    Calls Try.prog 24 #[.slice none 0 0, .int .i64 k] w fun e w' => e = .returned (.int .i64 k) ∧ w = w' := by
  go_enter Try.func24, Try.ntmps24
  go_wp2_with fail
  go_loopg [1, 5] 0 (fun p z i wr => z = .int .i64 k ∧ i = .int .i64 0 ∧ wr = w)
  case atStart => exact ⟨rfl, rfl, rfl⟩
  case round =>
    obtain ⟨rfl, rfl, rfl⟩ := hrel
    go_wp2_with fail
    go_ret
    exact ⟨rfl, rfl⟩
theorem markVInt64S (lo hi : Nat) (v : Value) (n : Nat) (xs : List Value) (k : Int) (w : World) (h : OwnV w lo hi 2 1 v n xs) (hn : n ≤ 1048576) (hk0 : 0 ≤ k) (hk1 : k ≤ 1000000000) :
    Calls Try.prog 22 #[v, .int .i64 k] w fun e w' => e = .returned (.int .i64 (k + (n : Int))) ∧ Mkd (Value.int .i64) w' 1 v n k ∧ w.grownBy w' v.ownBlock := by
  rcases h.rowN with ⟨rfl, rfl⟩ | ⟨g, cap, rfl, hbg, hgh, hr, hc⟩
  · refine (markNInt64S k w).mono ?_
    rintro e w' ⟨rfl, rfl⟩
    exact ⟨ret_int (by omega), .inl ⟨rfl, rfl⟩, grown_refl _ _⟩
  · refine (markGInt64S g n cap cap k w (by simpa using hr) hc hn hk0 hk1).mono ?_
    rintro e w' ⟨rfl, hq, hbut⟩
    exact ⟨rfl, .inr ⟨g, cap, rfl, Nat.lt_of_lt_of_le hr.lt hbut.2.2.2.1, by simpa using hq⟩, hbut.grown⟩
theorem heldVInt64S (v : Value) (n : Nat) (k : Int) (w : World) (h : Mkd (Value.int .i64) w 1 v n k) (hn : n ≤ 1048576) (hk0 : 0 ≤ k) (hk1 : k ≤ 1000000000) :
    Calls Try.prog 24 #[v, .int .i64 k] w fun e w' => e = .returned (.int .i64 (k + (n : Int))) ∧ w = w' := by
  rcases h with ⟨rfl, rfl⟩ | ⟨g, c, rfl, hg, hq⟩
  · refine (heldNInt64S k w).mono ?_
    rintro e w' ⟨rfl, rfl⟩
    exact ⟨ret_int (by omega), rfl⟩
  · exact heldGInt64S g n c k w (by simpa using hq) hn hk0 hk1
end Go.Proofs.Ytedbngnkkfpbeaa
