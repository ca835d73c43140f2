/- Several texts in one: Masks of the reference, plainly: what it reckons by costs are the same masks. What the plain machine of a machine reads, plainly: the words that have a cost (FnPlains). Counting the words of a length that a plain machine reads, plainly (FnPlains). -/
import Derived.Test.YtbdfbmohdbigfaaMgp
import Derived.Test.YtbdfbmohdbigfaaMgl
import Derived.Test.YtbdfbmohdbigfaaMgc

namespace Go.Proofs.Ytbdfbmohdbigfaa
set_option linter.unusedVariables false
theorem rch_small {n : Nat} {L : List A4} (hL : okM n L) (hn : n ≤ 16) {i k : Nat} (hi : i < n) (h : Rch L i k) : ∃ c, Wy (Em L) i k c ∧ c ≤ 16000 := by
  obtain ⟨c, hc⟩ := h
  obtain ⟨l, c', h1, -, -, h4⟩ := Wy.short (b := 1000) (n := n) (fun i k c h => (hL.em h).2.2.1) (fun i k c h => (hL.em h).2.2.2) (fun i k c h => (hL.em h).2.1) (by omega) hc hi
  exact ⟨c', h1.way, by omega⟩
theorem Rch.refl (L : List A4) (i : Nat) : Rch L i i := ⟨0, .refl i⟩
theorem Rch.trans {L : List A4} {i j k : Nat} (h : Rch L i j) (h' : Rch L j k) : Rch L i k := by
  obtain ⟨c, h⟩ := h
  obtain ⟨c', h'⟩ := h'
  exact ⟨_, h.trans h'⟩
theorem Rch.lt {n : Nat} {L : List A4} (hL : okM n L) {i k : Nat} (h : Rch L i k) (hi : i < n) : k < n := by
  obtain ⟨c, h⟩ := h
  exact h.lt (fun i k c h => (hL.em h).2.1) hi
/-- A mask that is closed. -/
def Clsd (n : Nat) (L : List A4) (v : Nat) : Prop := v < 2 ^ n ∧ ∀ i k, i < n → v.testBit i = true → Rch L i k → v.testBit k = true
theorem cl_clsd {n v : Nat} {L : List A4} (hL : okM n L) (hv : v < 2 ^ n) : Clsd n L (clN L v n) := by
  refine ⟨clN_lt hL hv n, fun i k hi hb hr => ?_⟩
  obtain ⟨j, hj, h1, h2⟩ := (cl_bit hL hi).1 hb
  exact (cl_bit hL (hr.lt hL hi)).2 ⟨j, hj, h1, h2.trans hr⟩
theorem pxF_clsd {L : List A4} {P : List Int} (hL : okM P.length L) : Clsd P.length L (pxF L P) := cl_clsd hL (mkN_is _ _).lt
theorem nxT_lt' {n : Nat} {L : List A4} (hL : okM n L) (l : Int) (v : Nat) : nxT L l v < 2 ^ n := by
  have := nxT_lt hL l v L.length
  rw [List.take_of_length_le (Nat.le_refl _)] at this
  exact this
theorem pxN_clsd {n v l : Nat} {L : List A4} (hL : okM n L) : Clsd n L (pxN L n v l) := cl_clsd hL (nxT_lt' hL _ _)
/-- What l02Set tells. -/
def stB (n : Nat) (v : List Int) (C : List (List Int)) (k : Nat) : Bool := (List.range n).any fun i => decide (g0 v i < 1000000000) && decide (gg C i k < 1000000000)
def stM (n : Nat) (v : List Int) (C : List (List Int)) : Nat := mkN (stB n v C) n
theorem stB_iff {n : Nat} {L : List A4} {v : List Int} {C : List (List Int)} {A : Nat → Int → Prop} (hL : okM n L) (hn : n ≤ 16) (hv : Rep 1000000000 n v A) (hs : ∀ i c, A i c → ∃ c', A i c' ∧ c' < 1000000000) (hC : ClsT 1000000000 n L C) {k : Nat} (hk : k < n) :
    stB n v C k = true ↔ ∃ i, i < n ∧ (∃ c, A i c) ∧ Rch L i k := by
  unfold stB
  rw [List.any_eq_true]
  constructor
  · rintro ⟨i, hi, h⟩
    have hi := List.mem_range.1 hi
    rw [Bool.and_eq_true, decide_eq_true_iff, decide_eq_true_iff] at h
    obtain ⟨x, hx, hx2⟩ := hv.get hi
    rw [g0_get hx] at h
    exact ⟨i, hi, ⟨x, hx2.2.2 h.1⟩, ⟨_, (hC.2.2 i k hi hk).2.2 h.2⟩⟩
  · rintro ⟨i, hi, ⟨c, hc⟩, hr⟩
    obtain ⟨c', h1, h2⟩ := hs i c hc
    obtain ⟨c2, h3, h4⟩ := rch_small hL hn hi hr
    obtain ⟨x, hx, hx2⟩ := hv.get hi
    have q1 := hx2.2.1 c' h1
    have q2 := (hC.2.2 i k hi hk).2.1 c2 h3
    refine ⟨i, List.mem_range.2 hi, ?_⟩
    rw [Bool.and_eq_true, decide_eq_true_iff, decide_eq_true_iff, g0_get hx]
    omega
theorem stM_is {n : Nat} {L : List A4} {v : List Int} {C : List (List Int)} {A : Nat → Int → Prop} (hL : okM n L) (hn : n ≤ 16) (hv : Rep 1000000000 n v A) (hs : ∀ i c, A i c → ∃ c', A i c' ∧ c' < 1000000000) (hC : ClsT 1000000000 n L C) {u : Nat} (hu : u < 2 ^ n)
    (e : ∀ i, i < n → (u.testBit i = true ↔ ∃ c, A i c)) : stM n v C = clN L u n := by
  refine (mkN_is (stB n v C) n).uniq ⟨clN_lt hL hu n, fun k hk => ?_⟩
  rw [Bool.eq_iff_iff, cl_bit hL hk, stB_iff hL hn hv hs hC hk]
  constructor
  · rintro ⟨i, h1, h2, h3⟩; exact ⟨i, h1, (e i h1).1 h2, h3⟩
  · rintro ⟨i, h1, h2, h3⟩; exact ⟨i, h1, (e i h1).2 h2, h3⟩
theorem stM_first {L : List A4} {P : List Int} {C : List (List Int)} (hL : okM P.length L) (hn : P.length ≤ 16) (hP : ∀ x ∈ P, x ≤ 1000) (hC : ClsT 1000000000 P.length L C) : stM P.length (frL 1000000000 P) C = pxF L P := by
  refine stM_is hL hn (rep_fr (fun x hx => by have := hP x hx; omega)) (fun i c h => ⟨c, h, ?_⟩) hC (mkN_is _ _).lt (fun i hi => ?_)
  · have := hP c (List.mem_of_getElem? h.1); omega
  · rw [(mkN_is _ _).bit i hi]
    have hg := g0_some hi
    rw [decide_eq_true_iff]
    constructor
    · intro h; exact ⟨_, hg, h⟩
    · rintro ⟨c, h1, h2⟩; rw [g0_get h1]; exact h2
theorem stM_next {n v l : Nat} {L : List A4} {C : List (List Int)} (hL : okM n L) (hn : n ≤ 16) (hC : ClsT 1000000000 n L C) (hv : Clsd n L v) : stM n (mvV 1000000000 (vOf 1000000000 n v) (spV 1000000000 L (l : Int) C)) C = pxN L n v l := by
  have hb : Bd 1000000000 (vOf 1000000000 n v) := fun x hx => by
    unfold vOf at hx
    obtain ⟨k, -, rfl⟩ := List.mem_map.1 hx
    split <;> omega
  have hr := rep_move (F := 1000000000) (by omega) (l := (l : Int)) hL (rep_vOf (by omega) n v) hb hC
  have key : ∀ k, k < n → ((∃ c, Nx n L (l : Int) (Cl n L (Bt v)) k c) ↔ ∃ i c, v.testBit i = true ∧ Lt L (l : Int) i k c) := by
    intro k hk
    constructor
    · rintro ⟨c, i, c1, c2, hi, ⟨j, d1, d2, hj, hbj, hw, -⟩, hlt, -⟩
      exact ⟨i, c2, hv.2 j i hj hbj.1 ⟨_, hw⟩, hlt⟩
    · rintro ⟨i, c, hbi, hlt⟩
      have hi := (hL.lt hlt).1
      exact ⟨_, i, 0, c, hi, ⟨i, 0, 0, hi, ⟨hbi, rfl⟩, .refl i, rfl⟩, hlt, rfl⟩
  refine stM_is hL hn hr (fun k c h => ?_) hC (nxT_lt' hL _ _) (fun k hk => ?_)
  · obtain ⟨i, c1, c2, hi, ⟨j, d1, d2, hj, hbj, hw, -⟩, hlt, -⟩ := h
    have hbi := hv.2 j i hj hbj.1 ⟨_, hw⟩
    have hc := (hL.lt hlt).2.2
    exact ⟨0 + c2, ⟨i, 0, c2, hi, ⟨i, 0, 0, hi, ⟨hbi, rfl⟩, .refl i, rfl⟩, hlt, rfl⟩, by omega⟩
  · rw [nx_bit hL, key k hk]
/-- Whether a state ends: as the reference asks it. -/
def enB (E : List Int) (v k : Nat) : Bool := (List.range k).any fun i => v.testBit i && decide (0 ≤ g0 E i)
theorem enB_succ (E : List Int) (v k : Nat) : enB E v (k + 1) = (enB E v k || (v.testBit k && decide (0 ≤ g0 E k))) := by
  unfold enB; rw [List.range_succ, List.any_append]; simp
theorem enB_pxE {E : List Int} {v : Nat} : enB E v E.length = pxE E v := by
  unfold enB pxE
  rw [Bool.eq_iff_iff, List.any_eq_true, decide_eq_true_iff]
  have hm := mkN_bit (fun i => decide (0 ≤ g0 E i)) E.length
  constructor
  · rintro ⟨i, hi, h⟩ h0
    rw [Bool.and_eq_true, decide_eq_true_iff] at h
    have hb : (v &&& mkN (fun i => decide (0 ≤ g0 E i)) E.length).testBit i = true := by
      rw [Nat.testBit_and, h.1, hm.2]; simp [List.mem_range.1 hi, h.2]
    rw [h0] at hb; simp at hb
  · intro h0
    obtain ⟨i, hi⟩ := Nat.exists_testBit_of_ne_zero h0
    rw [Nat.testBit_and, hm.2] at hi
    simp only [Bool.and_eq_true, decide_eq_true_eq] at hi
    exact ⟨i, List.mem_range.2 hi.2.1, by rw [Bool.and_eq_true, decide_eq_true_iff]; exact ⟨hi.1, hi.2.2⟩⟩
end Go.Proofs.Ytbdfbmohdbigfaa


namespace Go.Proofs.Ytbdfbmohdbigfaa
set_option linter.unusedVariables false
/-- Where a word (told backwards) leads from the first mask on. -/
def pxW (L : List A4) (P : List Int) : List Nat → Nat
  | [] => pxF L P
  | l :: rw => pxN L P.length (pxW L P rw) l
def natW (rw : List Nat) : List Int := rw.map fun (l : Nat) => (l : Int)
theorem pxW_bit {L : List A4} {P : List Int} (hL : okM P.length L) : ∀ (rw : List Nat) (k : Nat), k < P.length → ((pxW L P rw).testBit k = true ↔ ∃ c, Cl P.length L (Bw P.length L P (natW rw)) k c)
  | [], k, hk => by
    unfold pxW pxF
    rw [cl_bit hL hk]
    constructor
    · rintro ⟨i, hi, hb, c2, hr⟩
      rw [(mkN_is _ _).bit i hi, decide_eq_true_iff] at hb
      exact ⟨_, i, _, c2, hi, ⟨g0_some hi, hb⟩, hr, rfl⟩
    · rintro ⟨c, i, c1, c2, hi, ⟨h1, h2⟩, hr, -⟩
      refine ⟨i, hi, ?_, c2, hr⟩
      rw [(mkN_is _ _).bit i hi, decide_eq_true_iff, g0_get h1]; exact h2
  | l :: rw, k, hk => by
    have ih := pxW_bit hL rw
    unfold pxW pxN
    rw [cl_bit hL hk]
    constructor
    · rintro ⟨j, hj, hb, c3, hr⟩
      obtain ⟨i, c2, hbi, hlt⟩ := (nx_bit hL).1 hb
      have hi := (hL.lt hlt).1
      obtain ⟨c1, h1⟩ := (ih i hi).1 hbi
      exact ⟨_, j, c1 + c2, c3, hj, ⟨i, c1, c2, hi, h1, hlt, rfl⟩, hr, rfl⟩
    · rintro ⟨c, j, c1, c3, hj, ⟨i, d1, d2, hi, h1, hlt, -⟩, hr, -⟩
      exact ⟨j, hj, (nx_bit hL).2 ⟨i, d2, (ih i hi).2 ⟨d1, h1⟩, hlt⟩, c3, hr⟩
/-- It reads a word just if the word has a cost. -/
theorem pxW_reads {L : List A4} {P E : List Int} (hL : okM P.length L) (hPE : P.length = E.length) (rw_ : List Nat) : pxE E (pxW L P rw_) = true ↔ ∃ c, Tw P.length L P E (natW rw_) c := by
  rw [← enB_pxE]
  unfold enB
  rw [List.any_eq_true]
  constructor
  · rintro ⟨k, hk, h⟩
    have hk := List.mem_range.1 hk
    rw [Bool.and_eq_true, decide_eq_true_iff] at h
    obtain ⟨c1, h1⟩ := (pxW_bit hL rw_ k (by omega)).1 h.1
    exact ⟨_, k, c1, _, by omega, h1, ⟨g0_some hk, h.2⟩, rfl⟩
  · rintro ⟨c, k, c1, c2, hk, h1, ⟨h2, h3⟩, -⟩
    refine ⟨k, List.mem_range.2 (by omega), ?_⟩
    rw [Bool.and_eq_true, decide_eq_true_iff, g0_get h2]
    exact ⟨(pxW_bit hL rw_ k hk).2 ⟨c1, h1⟩, h3⟩
theorem pxW_foldl (L : List A4) (P : List Int) (xs : List Nat) : xs.foldl (pxN L P.length) (pxF L P) = pxW L P xs.reverse := by
  have h : ∀ (ys : List Nat) (r : List Nat), ys.foldl (pxN L P.length) (pxW L P r) = pxW L P (ys.reverse ++ r) := by
    intro ys
    induction ys with
    | nil => intro r; rfl
    | cons y ys ih =>
      intro r
      rw [List.foldl_cons, List.reverse_cons, List.append_assoc]
      exact ih (y :: r)
  have := h xs []
  rw [List.append_nil] at this
  exact this
end Go.Proofs.Ytbdfbmohdbigfaa


namespace Go.Proofs.Ytbdfbmohdbigfaa
set_option linter.unusedVariables false
def sm : List Int → Int
  | [] => 0
  | x :: l => x + sm l
theorem sm_set : ∀ (v : List Int) (k : Nat) (x : Int), k < v.length → sm (v.set k x) = sm v - g0 v k + x
  | [], k, x, h => absurd h (by simp)
  | a :: l, 0, x, _ => by show x + sm l = a + sm l - a + x; omega
  | a :: l, k + 1, x, h => by
    have ih := sm_set l k x (by simpa using h)
    show a + sm (l.set k x) = a + sm l - g0 l k + x
    omega
theorem sm_zero (n : Nat) : sm (List.replicate n 0) = 0 := by
  induction n with
  | zero => rfl
  | succ n ih => rw [List.replicate_succ]; show 0 + sm _ = 0; omega
section
variable (tf : Nat → Nat → Nat) (S T : Nat)
/-- The next counts on the way: of row i the first l letters. -/
def cuR (f : Nat → Nat) (n : Int) (acc : List Int) : Nat → List Int
  | 0 => acc
  | l + 1 => (cuR f n acc l).set (f l) (g0 (cuR f n acc l) (f l) + n)
def cuT (v : List Int) : Nat → List Int
  | 0 => List.replicate S 0
  | i + 1 => cuR (tf i) (g0 v i) (cuT v i) T
/-- The counts behind j letters. -/
def cuN : Nat → List Int
  | 0 => (List.replicate S 0).set 0 1
  | j + 1 => cuT tf S T (cuN j) S
variable {tf S T}
theorem cuR_len (f : Nat → Nat) (n : Int) (acc : List Int) : ∀ l, (cuR f n acc l).length = acc.length
  | 0 => rfl
  | l + 1 => by rw [cuR, List.length_set]; exact cuR_len f n acc l
theorem cuT_len (v : List Int) : ∀ i, (cuT tf S T v i).length = S
  | 0 => by simp [cuT]
  | i + 1 => by rw [cuT, cuR_len]; exact cuT_len v i
theorem cuN_len : ∀ j, (cuN tf S T j).length = S
  | 0 => by simp [cuN]
  | j + 1 => cuT_len _ _
theorem cuR_sum {f : Nat → Nat} {n : Int} {acc : List Int} : ∀ l, (∀ j, j < l → f j < acc.length) → sm (cuR f n acc l) = sm acc + n * (l : Int)
  | 0, _ => by show sm acc = sm acc + n * 0; omega
  | l + 1, h => by
    have ih := cuR_sum (f := f) (n := n) (acc := acc) l (fun j hj => h j (by omega))
    rw [cuR, sm_set _ _ _ (by rw [cuR_len]; exact h l (by omega)), ih]
    have e : n * ((l + 1 : Nat) : Int) = n * (l : Int) + n := by rw [Int.natCast_succ, Int.mul_add, Int.mul_one]
    omega
/-- The sum of the first i numbers. -/
def smT (v : List Int) : Nat → Int
  | 0 => 0
  | i + 1 => smT v i + g0 v i
theorem smT_cons (a : Int) (l : List Int) : ∀ i, smT (a :: l) (i + 1) = a + smT l i
  | 0 => by show 0 + a = a + 0; omega
  | i + 1 => by
    have := smT_cons a l i
    show smT (a :: l) (i + 1) + g0 l i = a + (smT l i + g0 l i)
    omega
theorem smT_all : ∀ v : List Int, smT v v.length = sm v
  | [] => rfl
  | a :: l => by rw [List.length_cons, smT_cons, smT_all l]; rfl
theorem cuT_sum (ht : ∀ i l, i < S → l < T → tf i l < S) (v : List Int) : ∀ i, i ≤ S → sm (cuT tf S T v i) = smT v i * (T : Int)
  | 0, _ => by rw [cuT, sm_zero]; show (0 : Int) = 0 * _; omega
  | i + 1, h => by
    have ih := cuT_sum ht v i (by omega)
    rw [cuT, cuR_sum T (fun j hj => by rw [cuT_len]; exact ht i j (by omega) hj), ih]
    show _ = (smT v i + g0 v i) * (T : Int)
    rw [Int.add_mul]
/-- All words of a length are counted. -/
theorem cuN_sum (hS : 0 < S) (ht : ∀ i l, i < S → l < T → tf i l < S) : ∀ j, sm (cuN tf S T j) = ((T ^ j : Nat) : Int)
  | 0 => by
    rw [cuN, sm_set _ _ _ (by simpa using hS), sm_zero]
    have : g0 (List.replicate S (0 : Int)) 0 = 0 := by unfold g0; cases S <;> simp [List.replicate_succ]
    rw [this]; simp
  | j + 1 => by
    have ih := cuN_sum hS ht j
    have h := cuT_sum ht (cuN tf S T j) S (Nat.le_refl _)
    rw [cuN, h]
    have e := smT_all (cuN tf S T j)
    rw [cuN_len] at e
    rw [e, ih, Nat.pow_succ]; simp
/-- Where a word leads from state s on. -/
def toW (tf : Nat → Nat → Nat) (s : Nat) (xs : List Nat) : Nat := xs.foldl tf s
theorem cuR_at {f : Nat → Nat} {n : Int} (hn : 0 ≤ n) {acc : List Int} (ha : ∀ k, 0 ≤ g0 acc k) : ∀ l, (∀ j, j < l → f j < acc.length) → (∀ k, 0 ≤ g0 (cuR f n acc l) k) ∧ ∀ k, k < acc.length → (0 < g0 (cuR f n acc l) k ↔ 0 < g0 acc k ∨ (0 < n ∧ ∃ j, j < l ∧ f j = k))
  | 0, _ => ⟨ha, fun k _ => ⟨fun h => .inl h, fun h => by
      rcases h with h | ⟨-, j, hj, -⟩
      · exact h
      · omega⟩⟩
  | l + 1, h => by
    obtain ⟨ih1, ih2⟩ := cuR_at hn ha l (fun j hj => h j (by omega))
    have hl := cuR_len f n acc l
    have hfl : f l < (cuR f n acc l).length := by rw [hl]; exact h l (by omega)
    have hs : ∀ k, k < acc.length → g0 (cuR f n acc (l + 1)) k = if f l = k then g0 (cuR f n acc l) (f l) + n else g0 (cuR f n acc l) k := fun k hk => by rw [cuR, g0_set hfl (by rw [hl]; exact hk)]
    refine ⟨fun k => ?_, fun k hk => ?_⟩
    · by_cases hk : k < acc.length
      · rw [hs k hk]
        have := ih1 (f l); have := ih1 k
        split <;> omega
      · have : g0 (cuR f n acc (l + 1)) k = 0 := by unfold g0; rw [List.getD_eq_getElem?_getD, List.getElem?_eq_none (by rw [cuR_len]; omega)]; rfl
        omega
    · rw [hs k hk]
      have i2 := ih2 k hk
      have := ih1 k
      by_cases he : f l = k
      · rw [if_pos he, he]
        constructor
        · intro hp
          rcases Int.lt_or_le 0 (g0 (cuR f n acc l) k) with q | q
          · rcases i2.1 q with r | ⟨r1, j, r2, r3⟩
            · exact .inl r
            · exact .inr ⟨r1, j, by omega, r3⟩
          · exact .inr ⟨by omega, l, by omega, he⟩
        · rintro (q | ⟨q, -⟩)
          · have := i2.2 (.inl q); omega
          · omega
      · rw [if_neg he, i2]
        constructor
        · rintro (q | ⟨q1, j, q2, q3⟩)
          · exact .inl q
          · exact .inr ⟨q1, j, by omega, q3⟩
        · rintro (q | ⟨q1, j, q2, q3⟩)
          · exact .inl q
          · refine .inr ⟨q1, j, ?_, q3⟩
            rcases Nat.lt_or_ge j l with r | r
            · exact r
            · exact absurd (by rw [show l = j by omega]; exact q3) he
theorem g0_repl (S k : Nat) : g0 (List.replicate S (0 : Int)) k = 0 := by
  unfold g0
  rw [List.getD_eq_getElem?_getD, List.getElem?_replicate]
  split <;> rfl
theorem cuT_at (ht : ∀ i l, i < S → l < T → tf i l < S) {v : List Int} (hv : ∀ k, 0 ≤ g0 v k) : ∀ i, i ≤ S → (∀ k, 0 ≤ g0 (cuT tf S T v i) k) ∧ ∀ k, k < S → (0 < g0 (cuT tf S T v i) k ↔ ∃ a, a < i ∧ 0 < g0 v a ∧ ∃ l, l < T ∧ tf a l = k)
  | 0, _ => ⟨fun k => by rw [cuT, g0_repl]; omega, fun k _ => by
      rw [cuT, g0_repl]
      constructor
      · intro h; omega
      · rintro ⟨a, ha, -⟩; omega⟩
  | i + 1, h => by
    obtain ⟨ih1, ih2⟩ := cuT_at ht hv i (by omega)
    obtain ⟨q1, q2⟩ := cuR_at (f := tf i) (hv i) ih1 T (fun j hj => by rw [cuT_len]; exact ht i j (by omega) hj)
    refine ⟨q1, fun k hk => ?_⟩
    rw [cuT, q2 k (by rw [cuT_len]; exact hk), ih2 k hk]
    constructor
    · rintro (⟨a, h1, h2⟩ | ⟨h1, h2⟩)
      · exact ⟨a, by omega, h2⟩
      · exact ⟨i, by omega, h1, h2⟩
    · rintro ⟨a, h1, h2, h3⟩
      rcases Nat.lt_or_ge a i with r | r
      · exact .inl ⟨a, r, h2, h3⟩
      · obtain rfl : a = i := by omega
        exact .inr ⟨h2, h3⟩
/-- A state is counted behind j letters just if a word of that length leads to it. -/
theorem cuN_at (hS : 0 < S) (ht : ∀ i l, i < S → l < T → tf i l < S) : ∀ j, (∀ k, 0 ≤ g0 (cuN tf S T j) k) ∧ ∀ k, k < S → (0 < g0 (cuN tf S T j) k ↔ ∃ xs : List Nat, xs.length = j ∧ (∀ x ∈ xs, x < T) ∧ toW tf 0 xs = k)
  | 0 => by
    have hs : ∀ k, k < S → g0 (cuN tf S T 0) k = if 0 = k then 1 else 0 := fun k hk => by rw [cuN, g0_set (by simpa using hS) (by simpa using hk), g0_repl]
    refine ⟨fun k => ?_, fun k hk => ?_⟩
    · by_cases hk : k < S
      · rw [hs k hk]; split <;> omega
      · have : g0 (cuN tf S T 0) k = 0 := by unfold g0; rw [List.getD_eq_getElem?_getD, List.getElem?_eq_none (by rw [cuN_len]; omega)]; rfl
        omega
    · rw [hs k hk]
      constructor
      · intro h
        by_cases e : 0 = k
        · exact ⟨[], rfl, (fun x hx => by cases hx), e⟩
        · rw [if_neg e] at h; omega
      · rintro ⟨xs, h1, -, h3⟩
        rw [List.length_eq_zero_iff.1 h1] at h3
        rw [if_pos (show 0 = k from h3)]; omega
  | j + 1 => by
    obtain ⟨ih1, ih2⟩ := cuN_at hS ht j
    obtain ⟨q1, q2⟩ := cuT_at ht ih1 S (Nat.le_refl _)
    refine ⟨q1, fun k hk => ?_⟩
    rw [cuN, q2 k hk]
    constructor
    · rintro ⟨a, ha, h1, l, hl, h2⟩
      obtain ⟨xs, e1, e2, e3⟩ := (ih2 a ha).1 h1
      refine ⟨xs ++ [l], by simp [e1], fun x hx => ?_, ?_⟩
      · rcases List.mem_append.1 hx with q | q
        · exact e2 x q
        · rw [show x = l from by simpa using q]; exact hl
      · unfold toW at e3 ⊢; rw [List.foldl_append, e3]; exact h2
    · rintro ⟨xs, e1, e2, e3⟩
      have hne : xs ≠ [] := fun e => by rw [e] at e1; simp at e1
      have hx := List.dropLast_concat_getLast hne
      obtain ⟨ys, l, rfl⟩ : ∃ ys l, xs = ys ++ [l] := ⟨_, _, hx.symm⟩
      have hyl : ys.length = j := by simpa using e1
      have hys : ∀ x ∈ ys, x < T := fun x h => e2 x (List.mem_append_left _ h)
      have hlt : ∀ (zs : List Nat) (s : Nat), s < S → (∀ x ∈ zs, x < T) → toW tf s zs < S := by
        intro zs
        induction zs with
        | nil => intro s h _; exact h
        | cons z zs ih => intro s h hz; exact ih (tf s z) (ht s z h (hz z (by simp))) (fun x hx => hz x (List.mem_cons_of_mem _ hx))
      refine ⟨toW tf 0 ys, hlt ys 0 hS hys, (ih2 _ (hlt ys 0 hS hys)).2 ⟨ys, hyl, hys, rfl⟩, l, e2 l (by simp), ?_⟩
      unfold toW at e3 ⊢; rw [List.foldl_append] at e3; exact e3
end
end Go.Proofs.Ytbdfbmohdbigfaa
