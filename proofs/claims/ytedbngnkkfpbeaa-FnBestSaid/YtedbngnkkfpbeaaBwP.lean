/- Best words, plainly: ways to the end, by their number of letters; what the first letters that still reach the least cost are. -/
import Derived.Test.YtedbngnkkfpbeaaMgl
import Derived.Test.YtedbngnkkfpbeaaCoW

namespace Go.Proofs.Ytedbngnkkfpbeaa
open Go.RowKit
set_option linter.unusedVariables false
/-- An arc turned round; one turned round, and without its letter. -/
def bkA (a : A4) : A4 := (a.2.1, a.1, a.2.2.1, a.2.2.2)
def bkE (a : A4) : A4 := (a.2.1, a.1, -1, a.2.2.2)
/-- Any arc. -/
def An (L : List A4) (i k : Nat) (c : Int) : Prop := ∃ a ∈ L, a.1 = (i : Int) ∧ a.2.1 = (k : Int) ∧ a.2.2.2 = c
theorem okM.bkA {n : Nat} {L : List A4} (h : okM n L) : okM n (L.map bkA) := fun b hb => by
  obtain ⟨a, ha, rfl⟩ := List.mem_map.1 hb
  have := h a ha
  exact ⟨this.2.1, this.1, this.2.2⟩
theorem okM.bkE {n : Nat} {L : List A4} (h : okM n L) : okM n (L.map bkE) := fun b hb => by
  obtain ⟨a, ha, rfl⟩ := List.mem_map.1 hb
  have := h a ha
  exact ⟨this.2.1, this.1, this.2.2⟩
theorem okM.an {n : Nat} {L : List A4} (h : okM n L) {i k : Nat} {c : Int} (he : An L i k c) : i < n ∧ k < n ∧ 0 ≤ c ∧ c ≤ 1000 := by
  obtain ⟨a, ha, e1, e2, e4⟩ := he
  have := h a ha
  omega
theorem em_bkA {L : List A4} {i k : Nat} {c : Int} : Em (L.map bkA) i k c ↔ Em L k i c := by
  constructor
  · rintro ⟨b, hb, e1, e2, e3, e4⟩
    obtain ⟨a, ha, rfl⟩ := List.mem_map.1 hb
    exact ⟨a, ha, e2, e1, e3, e4⟩
  · rintro ⟨a, ha, e1, e2, e3, e4⟩
    exact ⟨bkA a, List.mem_map_of_mem ha, e2, e1, e3, e4⟩
theorem lt_bkA {L : List A4} {l : Int} {i k : Nat} {c : Int} : Lt (L.map bkA) l i k c ↔ Lt L l k i c := by
  constructor
  · rintro ⟨b, hb, e1, e2, e3, e4⟩
    obtain ⟨a, ha, rfl⟩ := List.mem_map.1 hb
    exact ⟨a, ha, e2, e1, e3, e4⟩
  · rintro ⟨a, ha, e1, e2, e3, e4⟩
    exact ⟨bkA a, List.mem_map_of_mem ha, e2, e1, e3, e4⟩
theorem em_bkE {L : List A4} {i k : Nat} {c : Int} : Em (L.map bkE) i k c ↔ An L k i c := by
  constructor
  · rintro ⟨b, hb, e1, e2, e3, e4⟩
    obtain ⟨a, ha, rfl⟩ := List.mem_map.1 hb
    exact ⟨a, ha, e2, e1, e4⟩
  · rintro ⟨a, ha, e1, e2, e4⟩
    exact ⟨bkE a, List.mem_map_of_mem ha, e2, e1, by show (-1 : Int) < 0; omega, e4⟩
theorem Wy.snoc {R : Nat → Nat → Int → Prop} {i k j : Nat} {c c' : Int} (h : Wy R i k c) (h' : R k j c') : Wy R i j (c + c') := h.trans (.arc h')
theorem Wy.rev {R S : Nat → Nat → Int → Prop} (hRS : ∀ i k c, R i k c → S k i c) {i k : Nat} {c : Int} (h : Wy R i k c) : Wy S k i c := by
  induction h with
  | refl i => exact .refl i
  | @cons i x k c c' hr _ ih => rw [Int.add_comm]; exact ih.snoc (hRS _ _ _ hr)
theorem Wy.imp {R S : Nat → Nat → Int → Prop} (hRS : ∀ i k c, R i k c → S i k c) {i k : Nat} {c : Int} (h : Wy R i k c) : Wy S i k c := by
  induction h with
  | refl i => exact .refl i
  | cons hr _ ih => exact .cons (hRS _ _ _ hr) ih
theorem em_an {L : List A4} {i k : Nat} {c : Int} : Em L i k c → An L i k c := fun ⟨a, ha, e1, e2, _, e4⟩ => ⟨a, ha, e1, e2, e4⟩
theorem lt_an {L : List A4} {l : Int} {i k : Nat} {c : Int} : Lt L l i k c → An L i k c := fun ⟨a, ha, e1, e2, _, e4⟩ => ⟨a, ha, e1, e2, e4⟩
/-- From a state to an end by a number of letters; by any way. -/
def Fr (n T : Nat) (L : List A4) (E : List Int) : Nat → Nat → Int → Prop
  | 0, i, c => ∃ k c1 c2, k < n ∧ Wy (Em L) i k c1 ∧ Stt E k c2 ∧ c = c1 + c2
  | r + 1, i, c => ∃ (l : Nat) (j : Nat) (c1 c2 : Int), l < T ∧ j < n ∧ Nx n L (l : Int) (Wy (Em L) i) j c1 ∧ Fr n T L E r j c2 ∧ c = c1 + c2
def Al (n : Nat) (L : List A4) (E : List Int) (i : Nat) (c : Int) : Prop := ∃ k c1 c2, k < n ∧ Wy (An L) i k c1 ∧ Stt E k c2 ∧ c = c1 + c2
theorem Fr.cl {n T : Nat} {L : List A4} {E : List Int} : ∀ {r i p : Nat} {c1 c2 : Int}, Wy (Em L) i p c1 → Fr n T L E r p c2 → Fr n T L E r i (c1 + c2)
  | 0, i, p, c1, c2, h, ⟨k, d1, d2, hk, h1, h2, e⟩ => ⟨k, c1 + d1, d2, hk, h.trans h1, h2, by omega⟩
  | r + 1, i, p, c1, c2, h, ⟨l, j, d1, d2, hl, hj, ⟨q, e1, e2, hq, g1, g2, e3⟩, h2, e⟩ => ⟨l, j, c1 + d1, d2, hl, hj, ⟨q, c1 + e1, e2, hq, h.trans g1, g2, by omega⟩, h2, by omega⟩
theorem Fr.al {n T : Nat} {L : List A4} {E : List Int} : ∀ {r i : Nat} {c : Int}, Fr n T L E r i c → Al n L E i c
  | 0, i, c, ⟨k, d1, d2, hk, h1, h2, e⟩ => ⟨k, d1, d2, hk, h1.imp (fun _ _ _ => em_an), h2, e⟩
  | r + 1, i, c, ⟨l, j, d1, d2, hl, hj, ⟨q, e1, e2, hq, g1, g2, e3⟩, h2, e⟩ => by
    obtain ⟨k, a1, a2, hk, w1, w2, e5⟩ := Fr.al h2
    exact ⟨k, d1 + a1, a2, hk, by rw [e3]; exact ((g1.imp (fun _ _ _ => em_an)).snoc (lt_an g2)).trans w1, w2, by omega⟩
theorem Fr.nonneg {n T : Nat} {L : List A4} {E : List Int} (hL : okM n L) {r i : Nat} {c : Int} (h : Fr n T L E r i c) : 0 ≤ c := by
  obtain ⟨k, a1, a2, hk, w1, w2, e5⟩ := h.al
  have := w1.nonneg (fun i k c h => (hL.an h).2.2.1)
  have := w2.2
  omega
/-- The costs to the ends by any way, as both programs reckon them. -/
def edV (F : Int) (L : List A4) (E : List Int) : List Int := relN (L.map bkE) (frL F E) E.length
theorem rep_ed {F : Int} {L : List A4} {E : List Int} (hL : okM E.length L) (hE : ∀ x ∈ E, x ≤ F) : Rep F E.length (edV F L E) (Al E.length L E) := by
  refine ((rep_fr hE).relax hL.bkE).congr (fun k c hk => ⟨?_, ?_⟩)
  · rintro ⟨i, c1, c2, hi, h1, h2, e⟩
    exact ⟨i, c2, c1, hi, h2.rev (fun _ _ _ h => em_bkE.1 h), h1, by omega⟩
  · rintro ⟨i, c1, c2, hi, h1, h2, e⟩
    exact ⟨i, c2, c1, hi, h2, h1.rev (fun _ _ _ h => em_bkE.2 h), by omega⟩
/-- The costs to the ends by a number of letters, as the program reckons them. -/
def rsV (F : Int) (T : Nat) (L : List A4) (E : List Int) : Nat → List Int
  | 0 => relN (L.map bkA) (frL F E) E.length
  | r + 1 => (List.range E.length).map fun i => mins F (fun l => g0 (stV F (L.map bkA) (l : Int) (rsV F T L E r)) i) T
theorem rsV_len (F : Int) (T : Nat) (L : List A4) (E : List Int) : ∀ r, (rsV F T L E r).length = E.length
  | 0 => by rw [rsV, relN_len, frL_len]
  | r + 1 => by simp [rsV]
theorem rep_rs {F : Int} {T : Nat} {L : List A4} {E : List Int} (hF : 0 ≤ F) (hL : okM E.length L) (hE : ∀ x ∈ E, x ≤ F) : ∀ r, Rep F E.length (rsV F T L E r) (Fr E.length T L E r)
  | 0 => by
    refine ((rep_fr hE).relax hL.bkA).congr (fun k c hk => ⟨?_, ?_⟩)
    · rintro ⟨i, c1, c2, hi, h1, h2, e⟩
      exact ⟨i, c2, c1, hi, h2.rev (fun _ _ _ h => em_bkA.1 h), h1, by omega⟩
    · rintro ⟨i, c1, c2, hi, h1, h2, e⟩
      exact ⟨i, c2, c1, hi, h2, h1.rev (fun _ _ _ h => em_bkA.2 h), by omega⟩
  | r + 1 => by
    have ih := rep_rs (T := T) hF hL hE r
    have hs : ∀ l : Nat, Rep F E.length (stV F (L.map bkA) (l : Int) (rsV F T L E r)) (Cl E.length (L.map bkA) (Nx E.length (L.map bkA) (l : Int) (Fr E.length T L E r))) := fun l => by
      have h2 := Rep.step (l := (l : Int)) hL.bkA ih hF (L.map bkA).length
      rw [List.take_length] at h2
      have h3 := h2.relax hL.bkA
      unfold stV
      rw [rsV_len]
      exact h3
    refine ⟨rsV_len F T L E (r + 1), fun k x hx => ?_⟩
    have hk : k < E.length := by have := (List.getElem?_eq_some_iff.1 hx).1; rw [rsV_len] at this; exact this
    have e : x = mins F (fun l => g0 (stV F (L.map bkA) (l : Int) (rsV F T L E r)) k) T := by
      have h1 : (rsV F T L E (r + 1))[k]? = some (mins F (fun l => g0 (stV F (L.map bkA) (l : Int) (rsV F T L E r)) k) T) := by simp [rsV, hk]
      rw [h1] at hx
      exact (Option.some.inj hx).symm
    subst e
    have hm := mins_lst (far := F) (f := fun l => g0 (stV F (L.map bkA) (l : Int) (rsV F T L E r)) k) (Q := fun l c => Cl E.length (L.map bkA) (Nx E.length (L.map bkA) (l : Int) (Fr E.length T L E r)) k c) (k := T) (fun l hl => by
      have h4 := (hs l).2 k _ (g0_some (by rw [(hs l).1]; exact hk))
      exact ⟨h4.2.2, h4.2.1⟩)
    refine hm.congr (fun c => ⟨?_, ?_⟩)
    · rintro ⟨l, hl, p, c1, c2, hp, ⟨q, d1, d2, hq, h1, h2, e1⟩, h3, e2⟩
      exact ⟨l, q, c2 + d2, d1, hl, hq, ⟨p, c2, d2, hp, h3.rev (fun _ _ _ h => em_bkA.1 h), lt_bkA.1 h2, rfl⟩, h1, by omega⟩
    · rintro ⟨l, q, c1, c2, hl, hq, ⟨p, d1, d2, hp, h3, h2, e1⟩, h1, e2⟩
      exact ⟨l, hl, p, c2 + d2, d1, hp, ⟨q, c2, d2, hq, h1, lt_bkA.2 h2, rfl⟩, h3.rev (fun _ _ _ h => em_bkA.2 h), by omega⟩
/-- The same, as the reference reckons them over the closure. -/
def reV (F : Int) (T : Nat) (L : List A4) (E : List Int) (C : List (List Int)) : Nat → List Int
  | 0 => enV F E.length E C
  | r + 1 => (List.range E.length).map fun i => mins F (fun l => lsm F ((spV F L (l : Int) C).getD i []) (reV F T L E C r) E.length) T
theorem reV_len (F : Int) (T : Nat) (L : List A4) (E : List Int) (C : List (List Int)) : ∀ r, (reV F T L E C r).length = E.length
  | 0 => by simp [reV, enV]
  | r + 1 => by simp [reV]
theorem mins_le {F : Int} {f : Nat → Int} : ∀ k, mins F f k ≤ F
  | 0 => Int.le_refl _
  | k + 1 => by have := mins_le (F := F) (f := f) k; show Min.min (mins F f k) (f k) ≤ F; omega
theorem mins_nn {F : Int} {f : Nat → Int} (hF : 0 ≤ F) : ∀ k, (∀ i, i < k → 0 ≤ f i) → 0 ≤ mins F f k
  | 0, _ => hF
  | k + 1, h => by have := mins_nn (f := f) hF k (fun i hi => h i (by omega)); have := h k (by omega); show 0 ≤ Min.min (mins F f k) (f k); omega

theorem Lst.nn {F x : Int} {Q : Int → Prop} (h : Lst F x Q) (hF : 0 ≤ F) (hQ : ∀ c, Q c → 0 ≤ c) : 0 ≤ x := by
  by_cases hx : x < F
  · exact hQ _ (h.2.2 hx)
  · omega
/-- The least sums of two lists of costs. -/
def Sm (n : Nat) (A B : Nat → Int → Prop) (c : Int) : Prop := ∃ i c1 c2, i < n ∧ A i c1 ∧ B i c2 ∧ c = c1 + c2
theorem lst_sm {F : Int} {n : Nat} {v u : List Int} {A B : Nat → Int → Prop} (hF : 0 ≤ F) (hv : Rep F n v A) (hu : Rep F n u B) (hA : ∀ i c, A i c → 0 ≤ c) (hB : ∀ i c, B i c → 0 ≤ c) : Lst F (lsm F v u n) (Sm n A B) := by
  have h1 : ∀ i, i < n → Lst F (g0 v i) (A i) := fun i hi => hv.2 i _ (g0_some (by rw [hv.1]; exact hi))
  have h2 : ∀ i, i < n → Lst F (g0 u i) (B i) := fun i hi => hu.2 i _ (g0_some (by rw [hu.1]; exact hi))
  exact sum_lst h1 h2 (fun i hi => ⟨(h1 i hi).nn hF (hA i), (h2 i hi).nn hF (hB i)⟩)
theorem Nx.nonneg {n : Nat} {L : List A4} {l : Int} {A : Nat → Int → Prop} (hL : okM n L) (hA : ∀ i c, A i c → 0 ≤ c) {k : Nat} {c : Int} (h : Nx n L l A k c) : 0 ≤ c := by
  obtain ⟨i, c1, c2, _, h1, h2, e⟩ := h
  have := hA _ _ h1; have := (hL.lt h2).2.2.1
  omega
theorem rep_sp {F : Int} {n : Nat} {L : List A4} {C : List (List Int)} (hF : 0 ≤ F) (hL : okM n L) (hC : ClsT F n L C) (l : Int) {i : Nat} (hi : i < n) : Rep F n ((spV F L l C).getD i []) (Nx n L l (Wy (Em L) i)) := by
  obtain ⟨hs, hb, hw⟩ := hC
  obtain ⟨r, h1, h2, _⟩ := hs.at_ hi hi
  have hr : Rep F n r (Wy (Em L) i) := ⟨h2, fun k x hx => by
    have hk : k < n := by have := (List.getElem?_eq_some_iff.1 hx).1; omega
    have := hw i k hi hk
    rw [gg_get h1 hx] at this
    exact this⟩
  have h3 := Rep.step (l := l) hL hr hF L.length
  rw [List.take_length] at h3
  have h4 : (spV F L l C)[i]? = some (stpT F L l r L.length) := by unfold spV; rw [List.getElem?_map, h1]; rfl
  have e : (spV F L l C).getD i [] = stpT F L l r L.length := by rw [List.getD_eq_getElem?_getD, h4]; rfl
  rw [e]
  exact h3
theorem rep_re {F : Int} {T : Nat} {L : List A4} {E : List Int} {C : List (List Int)} (hF : 0 ≤ F) (hL : okM E.length L) (hC : ClsT F E.length L C) : ∀ r, Rep F E.length (reV F T L E C r) (Fr E.length T L E r)
  | 0 => ⟨by simp [reV, enV], fun k x hx => by
    have hk : k < E.length := by have := (List.getElem?_eq_some_iff.1 hx).1; rw [reV_len] at this; exact this
    have e := g0_get hx
    rw [← e]
    exact lst_en hF hC rfl hk⟩
  | r + 1 => by
    have ih := rep_re (T := T) hF hL hC r
    refine ⟨reV_len F T L E C (r + 1), fun k x hx => ?_⟩
    have hk : k < E.length := by have := (List.getElem?_eq_some_iff.1 hx).1; rw [reV_len] at this; exact this
    have e : x = mins F (fun l => lsm F ((spV F L (l : Int) C).getD k []) (reV F T L E C r) E.length) T := by
      have h1 : (reV F T L E C (r + 1))[k]? = some (mins F (fun l => lsm F ((spV F L (l : Int) C).getD k []) (reV F T L E C r) E.length) T) := by simp [reV, hk]
      rw [h1] at hx
      exact (Option.some.inj hx).symm
    subst e
    have hm := mins_lst (far := F) (f := fun l => lsm F ((spV F L (l : Int) C).getD k []) (reV F T L E C r) E.length) (Q := fun l => Sm E.length (Nx E.length L (l : Int) (Wy (Em L) k)) (Fr E.length T L E r)) (k := T) (fun l hl => by
      have h4 := lst_sm hF (rep_sp hF hL hC (l : Int) hk) ih (fun i c h => h.nonneg hL (fun _ _ w => w.nonneg (fun i k c h => (hL.em h).2.2.1))) (fun i c h => h.nonneg hL)
      exact ⟨h4.2.2, h4.2.1⟩)
    refine hm.congr (fun c => ⟨?_, ?_⟩)
    · rintro ⟨l, hl, j, c1, c2, hj, h1, h2, e⟩; exact ⟨l, j, c1, c2, hl, hj, h1, h2, e⟩
    · rintro ⟨l, j, c1, c2, hl, hj, h1, h2, e⟩; exact ⟨l, hl, j, c1, c2, hj, h1, h2, e⟩
/-- The costs of the words that begin with these letters (told backwards), with r letters more; of all ways. -/
def Ht (n T : Nat) (L : List A4) (P E : List Int) (rw : List Int) (r : Nat) : Int → Prop := Sm n (Bw n L P rw) (Fr n T L E r)
def Bst (n : Nat) (L : List A4) (P E : List Int) : Int → Prop := Sm n (Stt P) (Al n L E)
section
variable {n T : Nat} {L : List A4} {P E : List Int}
theorem Ht.cl {rw : List Int} {r : Nat} {c : Int} : Sm n (Cl n L (Bw n L P rw)) (Fr n T L E r) c ↔ Ht n T L P E rw r c := by
  constructor
  · rintro ⟨i, c1, c2, hi, ⟨j, d1, d2, hj, h1, h2, e1⟩, h3, e⟩
    exact ⟨j, d1, d2 + c2, hj, h1, h3.cl h2, by omega⟩
  · rintro ⟨i, c1, c2, hi, h1, h3, e⟩
    exact ⟨i, c1, c2, hi, ⟨i, c1, 0, hi, h1, .refl i, by omega⟩, h3, e⟩
theorem Ht.succ {rw : List Int} {r : Nat} {c : Int} : Ht n T L P E rw (r + 1) c ↔ ∃ l : Nat, l < T ∧ Ht n T L P E ((l : Int) :: rw) r c := by
  constructor
  · rintro ⟨i, c1, c2, hi, h1, ⟨l, j, d1, d2, hl, hj, ⟨p, e1, e2, hp, g1, g2, e3⟩, h2, e4⟩, e⟩
    exact ⟨l, hl, j, c1 + d1, d2, hj, ⟨p, c1 + e1, e2, hp, ⟨i, c1, e1, hi, h1, g1, rfl⟩, g2, by omega⟩, h2, by omega⟩
  · rintro ⟨l, hl, j, c1, d2, hj, ⟨p, f1, e2, hp, ⟨i, b1, e1, hi, h1, g1, e5⟩, g2, e3⟩, h2, e⟩
    exact ⟨i, b1, e1 + e2 + d2, hi, h1, ⟨l, j, e1 + e2, d2, hl, hj, ⟨p, e1, e2, hp, g1, g2, rfl⟩, h2, rfl⟩, by omega⟩
theorem Bw.way : ∀ {rw : List Int} {i : Nat} {c : Int}, i < n → Bw n L P rw i c → ∃ q c0 c1, q < n ∧ Stt P q c0 ∧ Wy (An L) q i c1 ∧ c = c0 + c1
  | [], i, c, hi, h => ⟨i, c, 0, hi, h, .refl i, by omega⟩
  | l :: rw, i, c, _, ⟨p, c1, c2, hp, ⟨j, d1, d2, hj, h1, h2, e1⟩, h3, e⟩ => by
    obtain ⟨q, a0, a1, hq, s1, s2, e2⟩ := Bw.way hj h1
    exact ⟨q, a0, a1 + d2 + c2, hq, s1, (s2.trans (h2.imp (fun _ _ _ => em_an))).snoc (lt_an h3), by omega⟩
theorem Ht.bst {rw : List Int} {r : Nat} {c : Int} (h : Ht n T L P E rw r c) : Bst n L P E c := by
  obtain ⟨i, c1, c2, hi, h1, h2, e⟩ := h
  obtain ⟨q, a0, a1, hq, s1, s2, e2⟩ := Bw.way hi h1
  obtain ⟨k, d1, d2, hk, w1, w2, e3⟩ := h2.al
  exact ⟨q, a0, a1 + c2, hq, s1, ⟨k, a1 + d1, d2, hk, s2.trans w1, w2, by omega⟩, by omega⟩
end
/-- A sum that is the least cost: both programs' tests. -/
theorem hit_le {F x X : Int} {W B : Int → Prop} (hx : Lst F x W) (hX : Lst F X B) (hs : ∀ c, W c → B c) (hf : X < F) : x ≤ X ↔ W X := by
  constructor
  · intro h
    have h1 := hx.2.2 (by omega)
    have h2 := hX.2.1 x (hs x h1)
    rwa [show X = x by omega]
  · intro h; exact hx.2.1 X h
theorem hit_tld {F x X : Int} {W B : Int → Prop} (hx : Lst F x W) (hX : Lst F X B) (hs : ∀ c, W c → B c) (hf : X < F) (h0 : 0 ≤ X) : tld F x = X ↔ W X := by
  rw [← hit_le hx hX hs hf]
  unfold tld
  have hge : x < F → X ≤ x := fun h => hX.2.1 x (hs x (hx.2.2 h))
  have := hx.1
  by_cases h : F ≤ x
  · rw [if_pos h]; omega
  · rw [if_neg h]; have := hge (by omega); omega
/-- The first letter below T that is taken; the word that is built of such letters. -/
def fstT (p : Nat → Bool) : Nat → Nat → Nat
  | 0, l => l
  | f + 1, l => if p l then l else fstT p f (l + 1)
/-- The letters of the word (told backwards) behind rw, k letters left. -/
def gwW (h : List Int → Nat → Nat → Bool) (T : Nat) : Nat → List Int → List Int
  | 0, rw => rw
  | k + 1, rw => gwW h T k ((fstT (h rw k) T 0 : Int) :: rw)
theorem fstT_spec {p : Nat → Bool} : ∀ {f l m : Nat}, l ≤ m → m < l + f → p m = true → p (fstT p f l) = true ∧ l ≤ fstT p f l ∧ fstT p f l ≤ m ∧ ∀ j, l ≤ j → j < fstT p f l → p j = false
  | 0, l, m, h1, h2, _ => by omega
  | f + 1, l, m, h1, h2, hp => by
    show p (if p l then l else fstT p f (l + 1)) = true ∧ l ≤ (if p l then l else fstT p f (l + 1)) ∧ (if p l then l else fstT p f (l + 1)) ≤ m ∧ ∀ j, l ≤ j → j < (if p l then l else fstT p f (l + 1)) → p j = false
    by_cases hl : p l = true
    · rw [if_pos hl]; exact ⟨hl, Nat.le_refl _, h1, fun j a b => by omega⟩
    · rw [if_neg hl]
      have hne : l ≠ m := fun e => hl (by rw [e]; exact hp)
      obtain ⟨a, b, c, d⟩ := fstT_spec (f := f) (l := l + 1) (m := m) (by omega) (by omega) hp
      refine ⟨a, by omega, c, fun j h3 h4 => ?_⟩
      by_cases e : j = l
      · rw [e]; exact Bool.eq_false_iff.2 hl
      · exact d j (by omega) h4
end Go.Proofs.Ytedbngnkkfpbeaa
