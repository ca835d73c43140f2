/- Masks of the reference, plainly: what it reckons by costs are the same masks. -/
import Derived.Test.YtbdfbmohdbigfaaPxQ
import Derived.Test.YtbdfbmohdbigfaaMgj
import Derived.Test.YtbdfbmohdbigfaaExP

namespace Go.Proofs.Ytbdfbmohdbigfaa
set_option linter.unusedVariables false
theorem rch_small {n : Nat} {L : List A4} (hL : okM n L) (hn : n ≤ 16) {i k : Nat} (hi : i < n) (h : Rch L i k) : ∃ c, Wy (Em L) i k c ∧ c ≤ 16000 := by
  obtain ⟨c, hc⟩ := h
  obtain ⟨l, c', h1, -, -, h4⟩ := Wy.short (b := 1000) (n := n) (fun i k c h => (hL.em h).2.2.1) (fun i k c h => (hL.em h).2.2.2) (fun i k c h => (hL.em h).2.1) (by omega) hc hi
  exact ⟨c', h1.way, by omega⟩
theorem Rch.refl (L : List A4) (i : Nat) : Rch L i i := ⟨0, .refl i⟩
theorem Rch.trans {L : List A4} {i j k : Nat} (h : Rch L i j) (h' : Rch L j k) : Rch L i k := by
  obtain ⟨c, h⟩ := h
  obtain ⟨c', h'⟩ := h'
  exact ⟨_, h.trans h'⟩
theorem Rch.lt {n : Nat} {L : List A4} (hL : okM n L) {i k : Nat} (h : Rch L i k) (hi : i < n) : k < n := by
  obtain ⟨c, h⟩ := h
  exact h.lt (fun i k c h => (hL.em h).2.1) hi
/-- A mask that is closed. -/
def Clsd (n : Nat) (L : List A4) (v : Nat) : Prop := v < 2 ^ n ∧ ∀ i k, i < n → v.testBit i = true → Rch L i k → v.testBit k = true
theorem cl_clsd {n v : Nat} {L : List A4} (hL : okM n L) (hv : v < 2 ^ n) : Clsd n L (clN L v n) := by
  refine ⟨clN_lt hL hv n, fun i k hi hb hr => ?_⟩
  obtain ⟨j, hj, h1, h2⟩ := (cl_bit hL hi).1 hb
  exact (cl_bit hL (hr.lt hL hi)).2 ⟨j, hj, h1, h2.trans hr⟩
theorem pxF_clsd {L : List A4} {P : List Int} (hL : okM P.length L) : Clsd P.length L (pxF L P) := cl_clsd hL (mkN_is _ _).lt
theorem nxT_lt' {n : Nat} {L : List A4} (hL : okM n L) (l : Int) (v : Nat) : nxT L l v < 2 ^ n := by
  have := nxT_lt hL l v L.length
  rw [List.take_of_length_le (Nat.le_refl _)] at this
  exact this
theorem pxN_clsd {n v l : Nat} {L : List A4} (hL : okM n L) : Clsd n L (pxN L n v l) := cl_clsd hL (nxT_lt' hL _ _)
/-- What l02Set tells. -/
def stB (n : Nat) (v : List Int) (C : List (List Int)) (k : Nat) : Bool := (List.range n).any fun i => decide (g0 v i < 1000000000) && decide (gg C i k < 1000000000)
def stM (n : Nat) (v : List Int) (C : List (List Int)) : Nat := mkN (stB n v C) n
theorem stB_iff {n : Nat} {L : List A4} {v : List Int} {C : List (List Int)} {A : Nat → Int → Prop} (hL : okM n L) (hn : n ≤ 16) (hv : Rep 1000000000 n v A) (hs : ∀ i c, A i c → ∃ c', A i c' ∧ c' < 1000000000) (hC : ClsT 1000000000 n L C) {k : Nat} (hk : k < n) :
    stB n v C k = true ↔ ∃ i, i < n ∧ (∃ c, A i c) ∧ Rch L i k := by
  unfold stB
  rw [List.any_eq_true]
  constructor
  · rintro ⟨i, hi, h⟩
    have hi := List.mem_range.1 hi
    rw [Bool.and_eq_true, decide_eq_true_iff, decide_eq_true_iff] at h
    obtain ⟨x, hx, hx2⟩ := hv.get hi
    rw [g0_get hx] at h
    exact ⟨i, hi, ⟨x, hx2.2.2 h.1⟩, ⟨_, (hC.2.2 i k hi hk).2.2 h.2⟩⟩
  · rintro ⟨i, hi, ⟨c, hc⟩, hr⟩
    obtain ⟨c', h1, h2⟩ := hs i c hc
    obtain ⟨c2, h3, h4⟩ := rch_small hL hn hi hr
    obtain ⟨x, hx, hx2⟩ := hv.get hi
    have q1 := hx2.2.1 c' h1
    have q2 := (hC.2.2 i k hi hk).2.1 c2 h3
    refine ⟨i, List.mem_range.2 hi, ?_⟩
    rw [Bool.and_eq_true, decide_eq_true_iff, decide_eq_true_iff, g0_get hx]
    omega
theorem stM_is {n : Nat} {L : List A4} {v : List Int} {C : List (List Int)} {A : Nat → Int → Prop} (hL : okM n L) (hn : n ≤ 16) (hv : Rep 1000000000 n v A) (hs : ∀ i c, A i c → ∃ c', A i c' ∧ c' < 1000000000) (hC : ClsT 1000000000 n L C) {u : Nat} (hu : u < 2 ^ n)
    (e : ∀ i, i < n → (u.testBit i = true ↔ ∃ c, A i c)) : stM n v C = clN L u n := by
  refine (mkN_is (stB n v C) n).uniq ⟨clN_lt hL hu n, fun k hk => ?_⟩
  rw [Bool.eq_iff_iff, cl_bit hL hk, stB_iff hL hn hv hs hC hk]
  constructor
  · rintro ⟨i, h1, h2, h3⟩; exact ⟨i, h1, (e i h1).1 h2, h3⟩
  · rintro ⟨i, h1, h2, h3⟩; exact ⟨i, h1, (e i h1).2 h2, h3⟩
theorem stM_first {L : List A4} {P : List Int} {C : List (List Int)} (hL : okM P.length L) (hn : P.length ≤ 16) (hP : ∀ x ∈ P, x ≤ 1000) (hC : ClsT 1000000000 P.length L C) : stM P.length (frL 1000000000 P) C = pxF L P := by
  refine stM_is hL hn (rep_fr (fun x hx => by have := hP x hx; omega)) (fun i c h => ⟨c, h, ?_⟩) hC (mkN_is _ _).lt (fun i hi => ?_)
  · have := hP c (List.mem_of_getElem? h.1); omega
  · rw [(mkN_is _ _).bit i hi]
    have hg := g0_some hi
    rw [decide_eq_true_iff]
    constructor
    · intro h; exact ⟨_, hg, h⟩
    · rintro ⟨c, h1, h2⟩; rw [g0_get h1]; exact h2
theorem stM_next {n v l : Nat} {L : List A4} {C : List (List Int)} (hL : okM n L) (hn : n ≤ 16) (hC : ClsT 1000000000 n L C) (hv : Clsd n L v) : stM n (mvV 1000000000 (vOf 1000000000 n v) (spV 1000000000 L (l : Int) C)) C = pxN L n v l := by
  have hb : Bd 1000000000 (vOf 1000000000 n v) := fun x hx => by
    unfold vOf at hx
    obtain ⟨k, -, rfl⟩ := List.mem_map.1 hx
    split <;> omega
  have hr := rep_move (F := 1000000000) (by omega) (l := (l : Int)) hL (rep_vOf (by omega) n v) hb hC
  have key : ∀ k, k < n → ((∃ c, Nx n L (l : Int) (Cl n L (Bt v)) k c) ↔ ∃ i c, v.testBit i = true ∧ Lt L (l : Int) i k c) := by
    intro k hk
    constructor
    · rintro ⟨c, i, c1, c2, hi, ⟨j, d1, d2, hj, hbj, hw, -⟩, hlt, -⟩
      exact ⟨i, c2, hv.2 j i hj hbj.1 ⟨_, hw⟩, hlt⟩
    · rintro ⟨i, c, hbi, hlt⟩
      have hi := (hL.lt hlt).1
      exact ⟨_, i, 0, c, hi, ⟨i, 0, 0, hi, ⟨hbi, rfl⟩, .refl i, rfl⟩, hlt, rfl⟩
  refine stM_is hL hn hr (fun k c h => ?_) hC (nxT_lt' hL _ _) (fun k hk => ?_)
  · obtain ⟨i, c1, c2, hi, ⟨j, d1, d2, hj, hbj, hw, -⟩, hlt, -⟩ := h
    have hbi := hv.2 j i hj hbj.1 ⟨_, hw⟩
    have hc := (hL.lt hlt).2.2
    exact ⟨0 + c2, ⟨i, 0, c2, hi, ⟨i, 0, 0, hi, ⟨hbi, rfl⟩, .refl i, rfl⟩, hlt, rfl⟩, by omega⟩
  · rw [nx_bit hL, key k hk]
/-- Whether a state ends: as the reference asks it. -/
def enB (E : List Int) (v k : Nat) : Bool := (List.range k).any fun i => v.testBit i && decide (0 ≤ g0 E i)
theorem enB_succ (E : List Int) (v k : Nat) : enB E v (k + 1) = (enB E v k || (v.testBit k && decide (0 ≤ g0 E k))) := by
  unfold enB; rw [List.range_succ, List.any_append]; simp
theorem enB_pxE {E : List Int} {v : Nat} : enB E v E.length = pxE E v := by
  unfold enB pxE
  rw [Bool.eq_iff_iff, List.any_eq_true, decide_eq_true_iff]
  have hm := mkN_bit (fun i => decide (0 ≤ g0 E i)) E.length
  constructor
  · rintro ⟨i, hi, h⟩ h0
    rw [Bool.and_eq_true, decide_eq_true_iff] at h
    have hb : (v &&& mkN (fun i => decide (0 ≤ g0 E i)) E.length).testBit i = true := by
      rw [Nat.testBit_and, h.1, hm.2]; simp [List.mem_range.1 hi, h.2]
    rw [h0] at hb; simp at hb
  · intro h0
    obtain ⟨i, hi⟩ := Nat.exists_testBit_of_ne_zero h0
    rw [Nat.testBit_and, hm.2] at hi
    simp only [Bool.and_eq_true, decide_eq_true_eq] at hi
    exact ⟨i, List.mem_range.2 hi.2.1, by rw [Bool.and_eq_true, decide_eq_true_iff]; exact ⟨hi.1, hi.2.2⟩⟩
end Go.Proofs.Ytbdfbmohdbigfaa
