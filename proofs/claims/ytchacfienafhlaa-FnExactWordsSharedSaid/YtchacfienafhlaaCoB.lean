/- Bounds of costs while they are relaxed; what both programs' helper functions need, plainly. -/
import Derived.Test.YtchacfienafhlaaCoQ
import Derived.Test.YtchacfienafhlaaVm
namespace Go.Proofs.Ytchacfienafhlaa
set_option linter.unusedVariables false
def Bd (F : Int) (u : List Int) : Prop := ∀ x ∈ u, 0 ≤ x ∧ x ≤ F
section
variable {F : Int} {u : List Int}
theorem Bd.set (h : Bd F u) {k : Nat} {x : Int} (hx : 0 ≤ x ∧ x ≤ F) : Bd F (u.set k x) := fun y hy => by
  rcases List.mem_or_eq_of_mem_set hy with h1 | rfl
  · exact h y h1
  · exact hx
theorem Bd.get (h : Bd F u) {k : Nat} {x : Int} (hx : u[k]? = some x) : 0 ≤ x ∧ x ≤ F := h x (List.mem_of_getElem? hx)
theorem Bd.g0 (h : Bd F u) (hF : 0 ≤ F) (k : Nat) : 0 ≤ g0 u k ∧ g0 u k ≤ F := by
  unfold Go.Proofs.Ytchacfienafhlaa.g0
  rw [List.getD_eq_getElem?_getD]
  cases hx : u[k]? with
  | none => exact ⟨Int.le_refl _, hF⟩
  | some x => exact h.get hx
theorem Bd.rel1 (h : Bd F u) (hF : 0 ≤ F) {a : A4} (ha : 0 ≤ a.2.2.2) : Bd F (rel1 u a) := by
  unfold Go.Proofs.Ytchacfienafhlaa.rel1
  split
  · refine h.set ?_
    have := h.g0 hF a.2.1.toNat; have := h.g0 hF a.1.toNat
    omega
  · exact h
theorem Bd.relT (hF : 0 ≤ F) : ∀ {L : List A4} {u : List Int}, Bd F u → (∀ a ∈ L, 0 ≤ a.2.2.2) → Bd F (rel L u)
  | [], _, h, _ => h
  | a :: L, u, h, hL => show Bd F (rel L (Go.Proofs.Ytchacfienafhlaa.rel1 u a)) from Bd.relT hF (h.rel1 hF (hL a (List.mem_cons_self ..))) (fun x hx => hL x (List.mem_cons_of_mem _ hx))
theorem Bd.relN (hF : 0 ≤ F) {L : List A4} (h : Bd F u) (hL : ∀ a ∈ L, 0 ≤ a.2.2.2) : ∀ r, Bd F (relN L u r)
  | 0 => h
  | r + 1 => Bd.relT hF (Bd.relN hF h hL r) hL
theorem Bd.stp1 {v : List Int} (h : Bd F u) (hv : Bd F v) (hF : 0 ≤ F) {l : Int} {a : A4} (ha : 0 ≤ a.2.2.2) : Bd F (stp1 l v u a) := by
  unfold Go.Proofs.Ytchacfienafhlaa.stp1
  split
  · refine h.set ?_
    have := h.g0 hF a.2.1.toNat; have := hv.g0 hF a.1.toNat
    omega
  · exact h
theorem Bd.rep (hF : 0 ≤ F) (n : Nat) : Bd F (List.replicate n F) := fun x hx => by
  rw [List.eq_of_mem_replicate hx]; exact ⟨hF, Int.le_refl _⟩
theorem Bd.stpT {v : List Int} (hv : Bd F v) (hF : 0 ≤ F) {L : List A4} {l : Int} (hL : ∀ a ∈ L, 0 ≤ a.2.2.2) (j : Nat) : Bd F (stpT F L l v j) := by
  induction j with
  | zero => exact Bd.rep hF _
  | succ j ih =>
    cases hx : L[j]? with
    | none =>
      have : L.length ≤ j := by simpa using hx
      have e : Go.Proofs.Ytchacfienafhlaa.stpT F L l v (j + 1) = Go.Proofs.Ytchacfienafhlaa.stpT F L l v j := by unfold Go.Proofs.Ytchacfienafhlaa.stpT; rw [List.take_of_length_le (by omega), List.take_of_length_le (by omega)]
      rw [e]; exact ih
    | some a => rw [stpT_succ hx]; exact ih.stp1 hv hF (hL a (List.mem_of_getElem? hx))
end
/-- Costs with 'far' where there is none. -/
def frL (F : Int) (P : List Int) : List Int := P.map fun x => if x < 0 then F else x
theorem frL_len (F : Int) (P : List Int) : (frL F P).length = P.length := by simp [frL]
theorem frL_bd {F : Int} {P : List Int} (hF : 0 ≤ F) (hP : ∀ x ∈ P, x ≤ F) : Bd F (frL F P) := fun y hy => by
  simp only [frL, List.mem_map] at hy
  obtain ⟨x, hx, rfl⟩ := hy
  have := hP x hx
  split <;> omega
theorem frL_get {F : Int} {P : List Int} {k : Nat} {x : Int} (h : P[k]? = some x) : (frL F P)[k]? = some (if x < 0 then F else x) := by
  simp [frL, h]
/-- The first k have been turned. -/
def frT (F : Int) (P : List Int) (k : Nat) : List Int := frL F (P.take k) ++ P.drop k
theorem frT_len (F : Int) (P : List Int) (k : Nat) : (frT F P k).length = P.length := by
  unfold frT; rw [List.length_append, frL_len, List.length_take, List.length_drop]; omega
theorem frT_zero (F : Int) (P : List Int) : frT F P 0 = P := by simp [frT, frL]
theorem frT_all (F : Int) (P : List Int) : frT F P P.length = frL F P := by simp [frT]
theorem frT_at {F : Int} {P : List Int} {k : Nat} {x : Int} (h : P[k]? = some x) : (frT F P k)[k]? = some x := by
  obtain ⟨hk, rfl⟩ := List.getElem?_eq_some_iff.1 h
  unfold frT
  have hl : (frL F (P.take k)).length = k := by rw [frL_len, List.length_take]; omega
  rw [List.getElem?_append_right (by omega), hl, Nat.sub_self, List.getElem?_drop, Nat.add_zero, List.getElem?_eq_getElem hk]
theorem frT_step {F : Int} {P : List Int} {k : Nat} {x : Int} (h : P[k]? = some x) : frT F P (k + 1) = (frT F P k).set k (if x < 0 then F else x) := by
  obtain ⟨hk, rfl⟩ := List.getElem?_eq_some_iff.1 h
  unfold frT
  have hl : (frL F (P.take k)).length = k := by rw [frL_len, List.length_take]; omega
  rw [List.set_append_right _ _ (by omega), hl, Nat.sub_self, List.drop_eq_getElem_cons hk, List.set_cons_zero, List.take_succ_eq_append_getElem hk]
  show List.map _ (P.take k ++ [P[k]]) ++ _ = _
  rw [List.map_append, List.append_assoc]; rfl
theorem frT_keep {F : Int} {P : List Int} {k : Nat} {x : Int} (h : P[k]? = some x) (hx : ¬ x < 0) : frT F P (k + 1) = frT F P k := by
  rw [frT_step h, if_neg hx]
  have := frT_at (F := F) h
  obtain ⟨hk, e⟩ := List.getElem?_eq_some_iff.1 this
  rw [← e, List.set_getElem_self]
/-- The least sum. -/
def lsm (F : Int) (a b : List Int) : Nat → Int := mins F fun i => g0 a i + g0 b i
end Go.Proofs.Ytchacfienafhlaa
