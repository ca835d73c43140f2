/- FitLetters plainly: counts as floats, rows of counts divided by their sums. -/
import Derived.Test.YtomofghiafcefaaVdP

namespace Go.Proofs.Ytomofghiafcefaa
open Go.RowKit Ieee
set_option linter.unusedVariables false
/-- The float behind k times one more. -/
def nbF : Nat → F32
  | 0 => f0
  | k + 1 => fop .add (nbF k) f1
def numB (b : Nat) : Bool := match Ieee.single.read b with
  | .number _ _ _ => true
  | _ => false
def addN (b : Nat) : Nat := ((FloatKind.format .f32).add b 1065353216).getD 0
def chn : Nat → Nat → Bool
  | 0, b => numB b
  | k + 1, b => numB b && chn k (addN b)
theorem NN.one : NN f1.b := .inl ⟨_, _, _, read_one, .inl rfl⟩
theorem nbF_NN : ∀ k, NN (nbF k).b
  | 0 => NN.zero
  | k + 1 => (NN.fadd (nbF_NN k) NN.one).2
theorem nbF_next (k : Nat) : (nbF (k + 1)).b = addN (nbF k).b := by
  have h := (NN.fadd (nbF_NN k) NN.one).1
  show (fop .add (nbF k) f1).b = _
  unfold addN
  have h' : (FloatKind.format .f32).add (nbF k).b 1065353216 = some (fop .add (nbF k) f1).b := h
  rw [h']; rfl
theorem chn_ok : ∀ (n j : Nat), chn n (nbF j).b = true → ∀ k, k ≤ n → numB (nbF (j + k)).b = true
  | 0, j, h, k, hk => by
    obtain rfl : k = 0 := by omega
    exact h
  | n + 1, j, h, k, hk => by
    simp only [chn, Bool.and_eq_true] at h
    cases k with
    | zero => exact h.1
    | succ k =>
      have := chn_ok n (j + 1) (by rw [nbF_next]; exact h.2) k (by omega)
      rwa [show j + 1 + k = j + (k + 1) by omega] at this
theorem nbF_num {k : Nat} (h : k ≤ 300) : numB (nbF k).b = true := by
  have := chn_ok 300 0 (show chn 300 0 = true by decide +kernel) k h
  rwa [Nat.zero_add] at this
/-- At most N times one more. -/
def Cnt (N : Nat) (cs : List F32) : Prop := ∀ x ∈ cs, ∃ k, k ≤ N ∧ x = nbF k
def gF (cs : List F32) (i : Nat) : F32 := cs.getD i f0
def incF (cs : List F32) (i : Nat) : List F32 := cs.set i (fop .add (gF cs i) f1)
theorem gF_get {cs : List F32} {i : Nat} {x : F32} (h : cs[i]? = some x) : gF cs i = x := by unfold gF; rw [List.getD_eq_getElem?_getD, h]; rfl
theorem gF_some {cs : List F32} {i : Nat} (h : i < cs.length) : cs[i]? = some (gF cs i) := by rw [gF_get (List.getElem?_eq_getElem h)]; exact List.getElem?_eq_getElem h
theorem incF_len (cs : List F32) (i : Nat) : (incF cs i).length = cs.length := by unfold incF; simp
theorem Cnt.NN {N : Nat} {cs : List F32} (h : Cnt N cs) : ∀ x ∈ cs, NN x.b := fun x hx => by
  obtain ⟨k, _, rfl⟩ := h x hx; exact nbF_NN k
theorem Cnt.gNN {N : Nat} {cs : List F32} (h : Cnt N cs) (i : Nat) : Go.Proofs.Ytomofghiafcefaa.NN (gF cs i).b := by
  rcases Nat.lt_or_ge i cs.length with hi | hi
  · exact h.NN _ (List.mem_of_getElem? (gF_some hi))
  · unfold gF; rw [List.getD_eq_getElem?_getD, List.getElem?_eq_none hi]; exact Go.Proofs.Ytomofghiafcefaa.NN.zero
theorem Cnt.inc {N : Nat} {cs : List F32} (h : Cnt N cs) (i : Nat) : Cnt (N + 1) (incF cs i) := by
  intro x hx
  rcases Nat.lt_or_ge i cs.length with hi | hi
  · rcases List.mem_or_eq_of_mem_set hx with hx | rfl
    · obtain ⟨k, hk, e⟩ := h x hx; exact ⟨k, by omega, e⟩
    · obtain ⟨k, hk, e⟩ := h _ (List.mem_of_getElem? (gF_some hi))
      exact ⟨k + 1, by omega, by rw [e]; rfl⟩
  · unfold incF at hx
    rw [List.set_eq_of_length_le hi] at hx
    obtain ⟨k, hk, e⟩ := h x hx; exact ⟨k, by omega, e⟩
theorem Cnt.more {N M : Nat} {cs : List F32} (h : Cnt N cs) (hm : N ≤ M) : Cnt M cs := fun x hx => by
  obtain ⟨k, hk, e⟩ := h x hx; exact ⟨k, by omega, e⟩
theorem Cnt.zero (n : Nat) : Cnt 0 (List.replicate n f0) := fun x hx => ⟨0, Nat.le_refl _, List.eq_of_mem_replicate hx⟩
def gtF0 (x : F32) : Bool := (FloatKind.format .f32).order x.b 0 == some .gt
/-- A count divided by a sum greater than 0: a number. -/
theorem quo_run {x s : F32} (hx : numB x.b = true) (hs : gtF0 s = true) : floatBits .quo .f32 x.b s.b = some (fop .quo x s).b := by
  refine fop_run ?_
  have e : floatBits .quo .f32 x.b s.b = ((Ieee.single.read x.b).quotient (Ieee.single.fractionBits + 2) (Ieee.single.read s.b)).map Ieee.single.write := rfl
  rw [e]
  unfold gtF0 at hs
  have hs' : (Ieee.single.read s.b).order (Ieee.single.read 0) = some .gt := by
    have := eq_of_beq hs
    exact this
  rw [read_zero] at hs'
  unfold numB at hx
  cases hd : Ieee.single.read x.b with
  | nan a b => rw [hd] at hx; cases hx
  | infinity a => rw [hd] at hx; cases hx
  | number a m i =>
    cases hq : Ieee.single.read s.b with
    | nan a b => rw [hq] at hs'; simp [Datum.order] at hs'
    | infinity t => simp [Datum.quotient]
    | number t n j =>
      have hn : n ≠ 0 := by
        intro h0
        subst h0
        rw [hq] at hs'
        simp only [Datum.order, signed_zero] at hs'
        rw [cmp_eq.2 rfl] at hs'
        cases hs'
      simp only [Datum.quotient]
      rw [if_neg hn]
      rfl
theorem quo_law {x s z : F32} (hx : numB x.b = true) (hs : gtF0 s = true) (hz : z = fop .quo x s) (P : Program) : ∀ (t : TypeId) (w : World), (binOp .quo t (.float .f32 x.b) (.float .f32 s.b)).run P w = .ok (.float .f32 z.b) w :=
  fun t w => run_float_arith w .quo t .f32 _ _ _ (by rw [hz]; exact quo_run hx hs)
theorem inc_law {x z : F32} (hx : NN x.b) (hz : z = fop .add x f1) (P : Program) : ∀ (t : TypeId) (w : World), (binOp .add t (.float .f32 x.b) (.float .f32 1065353216)).run P w = .ok (.float .f32 z.b) w :=
  fun t w => run_float_arith w .add t .f32 _ _ _ (by rw [hz]; exact (NN.fadd (y := f1) hx NN.one).1)
theorem Cnt.num {cs : List F32} (h : Cnt 300 cs) : ∀ x ∈ cs, numB x.b = true := fun x hx => by
  obtain ⟨k, hk, rfl⟩ := h x hx; exact nbF_num hk
/-- One row: divided by its sum, or as it was. -/
def dvR (cs old : List F32) : List F32 := if gtF0 (fsum cs) then cs.map fun x => fop .quo x (fsum cs) else old
def rowsF (cs : List F32) (l i : Nat) : List F32 := (cs.drop (i * l)).take l
/-- The first r rows. -/
def dvN (cs old : List F32) (l : Nat) : Nat → List F32
  | 0 => []
  | i + 1 => dvN cs old l i ++ dvR (rowsF cs l i) (rowsF old l i)
theorem rowsF_len {cs : List F32} {l i r : Nat} (h : cs.length = r * l) (hi : i < r) : (rowsF cs l i).length = l := by
  unfold rowsF
  have : (i + 1) * l ≤ r * l := Nat.mul_le_mul_right l hi
  rw [Nat.succ_mul] at this
  rw [List.length_take, List.length_drop]; omega
theorem dvR_len {cs old : List F32} (h : cs.length = old.length) : (dvR cs old).length = old.length := by
  unfold dvR; split
  · rw [List.length_map, h]
  · rfl
theorem dvN_len {cs old : List F32} {l r : Nat} (h : cs.length = r * l) (h' : old.length = r * l) : ∀ {i}, i ≤ r → (dvN cs old l i).length = i * l
  | 0, _ => by rw [Nat.zero_mul]; rfl
  | i + 1, hi => by
    rw [dvN, List.length_append, dvN_len h h' (by omega), dvR_len (by rw [rowsF_len h (by omega), rowsF_len h' (by omega)]), rowsF_len h' (by omega), Nat.succ_mul]
/-- The counts of the first j letters of a word. -/
def cgF (way : List Int) (T : Nat) (word : List Int) (cs : List F32) : Nat → List F32
  | 0 => cs
  | j + 1 => incF (cgF way T word cs j) ((way.getD j 0).toNat * T + (word.getD j 0).toNat)
def csF (way : List Int) (S : Nat) (cs : List F32) : Nat → List F32
  | 0 => cs
  | j + 1 => incF (csF way S cs j) ((way.getD j 0).toNat * S + (way.getD (j + 1) 0).toNat)
theorem cgF_len {way : List Int} {T : Nat} {word : List Int} {cs : List F32} : ∀ j, (cgF way T word cs j).length = cs.length
  | 0 => rfl
  | j + 1 => by rw [cgF, incF_len, cgF_len]
theorem csF_len {way : List Int} {S : Nat} {cs : List F32} : ∀ j, (csF way S cs j).length = cs.length
  | 0 => rfl
  | j + 1 => by rw [csF, incF_len, csF_len]
theorem cgF_cnt {way : List Int} {T : Nat} {word : List Int} {cs : List F32} {N : Nat} (h : Cnt N cs) : ∀ j, Cnt (N + j) (cgF way T word cs j)
  | 0 => h
  | j + 1 => (cgF_cnt h j).inc _
theorem csF_cnt {way : List Int} {S : Nat} {cs : List F32} {N : Nat} (h : Cnt N cs) : ∀ j, Cnt (N + j) (csF way S cs j)
  | 0 => h
  | j + 1 => (csF_cnt h j).inc _
/-- The counts of the first k words: starts, steps, shows. -/
def fiA (S T : Nat) (ws hs : List (List Int)) (a : List F32) : Nat → List F32
  | 0 => a
  | k + 1 => incF (fiA S T ws hs a k) ((hs.getD k []).getD 0 0).toNat
def fiB (S T : Nat) (ws hs : List (List Int)) (a : List F32) : Nat → List F32
  | 0 => a
  | k + 1 => csF (hs.getD k []) S (fiB S T ws hs a k) (ws.getD k []).length
def fiC (S T : Nat) (ws hs : List (List Int)) (a : List F32) : Nat → List F32
  | 0 => a
  | k + 1 => cgF (hs.getD k []) T (ws.getD k []) (fiC S T ws hs a k) (ws.getD k []).length
/-- Whether a list has the states of a way that shows a word. -/
def hidB (S : Int) (word way : List Int) : Bool := decide (way.length = word.length + 1) && way.all fun x => decide (0 ≤ x ∧ x ≤ S - 1)
end Go.Proofs.Ytomofghiafcefaa
