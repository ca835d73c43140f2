/- The plain law of least costs: a step by a letter, least sums, words; the closure by middle states; both tell the same. -/
import Derived.Test.YtedbngnkkfpbeaaMgc

namespace Go.Proofs.Ytedbngnkkfpbeaa
open Go.RowKit
set_option linter.unusedVariables false
/-- least of k numbers, 'far' if there is none below -/
def mins (far : Int) (f : Nat → Int) : Nat → Int
  | 0 => far
  | k + 1 => Min.min (mins far f k) (f k)
theorem mins_lst {far : Int} {f : Nat → Int} {Q : Nat → Int → Prop} : ∀ {k : Nat}, (∀ i, i < k → (f i < far → Q i (f i)) ∧ ∀ c, Q i c → f i ≤ c) → Lst far (mins far f k) (fun c => ∃ i, i < k ∧ Q i c) := by
  intro k
  induction k with
  | zero => intro _; exact Lst.none (by rintro c ⟨i, hi, _⟩; omega)
  | succ k ih =>
    intro h
    have h1 := ih (fun i hi => h i (by omega))
    have h2 := h k (by omega)
    refine (h1.min h2.1 h2.2).congr (fun c => ⟨?_, ?_⟩)
    · rintro (⟨i, hi, hq⟩ | hq)
      · exact ⟨i, by omega, hq⟩
      · exact ⟨k, by omega, hq⟩
    · rintro ⟨i, hi, hq⟩
      by_cases e : i = k
      · subst e; exact .inr hq
      · exact .inl ⟨i, by omega, hq⟩
/-- One arc of a step. -/
def stp1 (l : Int) (v out : List Int) (a : A4) : List Int := if a.2.2.1 = l then out.set a.2.1.toNat (Min.min (g0 out a.2.1.toNat) (g0 v a.1.toNat + a.2.2.2)) else out
def stpL (far : Int) (L : List A4) (l : Int) (v : List Int) : List Int := L.foldl (stp1 l v) (List.replicate v.length far)
def stpT (far : Int) (L : List A4) (l : Int) (v : List Int) (j : Nat) : List Int := (L.take j).foldl (stp1 l v) (List.replicate v.length far)
theorem stpT_succ {far : Int} {L : List A4} {l : Int} {v : List Int} {j : Nat} {a : A4} (h : L[j]? = some a) : stpT far L l v (j + 1) = stp1 l v (stpT far L l v j) a := by
  obtain ⟨hj, rfl⟩ := List.getElem?_eq_some_iff.1 h
  unfold stpT; rw [List.take_succ_eq_append_getElem hj, List.foldl_append]; rfl
theorem stp1_len (l : Int) (v out : List Int) (a : A4) : (stp1 l v out a).length = out.length := by unfold stp1; split <;> simp
theorem stpT_len (far : Int) (L : List A4) (l : Int) (v : List Int) (j : Nat) : (stpT far L l v j).length = v.length := by
  unfold stpT
  generalize hM : L.take j = M
  clear hM
  have : ∀ out : List Int, (M.foldl (stp1 l v) out).length = out.length := by
    induction M with
    | nil => intro out; rfl
    | cons a M ih => intro out; rw [List.foldl_cons, ih, stp1_len]
  rw [this]; simp
/-- The costs behind an arc with a letter. -/
def Nx (n : Nat) (L : List A4) (l : Int) (A : Nat → Int → Prop) (k : Nat) (c : Int) : Prop := ∃ i c1 c2, i < n ∧ A i c1 ∧ Lt L l i k c2 ∧ c = c1 + c2
theorem Lt.take {L : List A4} {l : Int} {j i k : Nat} {c : Int} {a : A4} (h : L[j]? = some a) : Lt (L.take (j + 1)) l i k c ↔ Lt (L.take j) l i k c ∨ (a.1 = (i : Int) ∧ a.2.1 = (k : Int) ∧ a.2.2.1 = l ∧ a.2.2.2 = c) := by
  obtain ⟨hj, rfl⟩ := List.getElem?_eq_some_iff.1 h
  unfold Lt
  rw [List.take_succ_eq_append_getElem hj]
  constructor
  · rintro ⟨b, hb, e⟩
    rcases List.mem_append.1 hb with hb | hb
    · exact .inl ⟨b, hb, e⟩
    · simp at hb; subst hb; exact .inr e
  · rintro (⟨b, hb, e⟩ | e)
    · exact ⟨b, List.mem_append.2 (.inl hb), e⟩
    · exact ⟨L[j], List.mem_append.2 (.inr (by simp)), e⟩
theorem Rep.step {far : Int} {n : Nat} {L : List A4} {l : Int} {v : List Int} {A : Nat → Int → Prop} (hL : okM n L) (h : Rep far n v A) (h0 : 0 ≤ far) : ∀ j, Rep far n (stpT far L l v j) (Nx n (L.take j) l A) := by
  have hat : ∀ i, i < n → Lst far (g0 v i) (A i) := fun i hi => h.2 i _ (g0_some (by rw [h.1]; exact hi))
  intro j
  induction j with
  | zero =>
    refine ⟨by rw [stpT_len, h.1], fun k x hx => ?_⟩
    have : x = far := by
      unfold stpT at hx
      rw [List.take_zero, List.foldl_nil, List.getElem?_replicate] at hx
      split at hx
      · exact (Option.some.inj hx).symm
      · cases hx
    subst this
    exact Lst.none (by rintro c ⟨i, c1, c2, _, _, ⟨a, ha, _⟩, _⟩; simp at ha)
  | succ j ih =>
    by_cases hj : j < L.length
    · have hget := List.getElem?_eq_getElem hj
      obtain ⟨a, ha⟩ : ∃ a, L[j]? = some a := ⟨_, hget⟩
      have hok := hL a (List.mem_of_getElem? ha)
      rw [stpT_succ ha]
      have hlen := stpT_len far L l v j
      rw [h.1] at hlen
      refine ⟨by rw [stp1_len, hlen], fun k x hx => ?_⟩
      have hk : k < n := by have := (List.getElem?_eq_some_iff.1 hx).1; rw [stp1_len, hlen] at this; exact this
      have e := g0_get hx
      subst e
      have hold := ih.2 k _ (g0_some (by rw [hlen]; exact hk))
      by_cases hl : a.2.2.1 = l
      · have e1 : stp1 l v (stpT far L l v j) a = (stpT far L l v j).set a.2.1.toNat (Min.min (g0 (stpT far L l v j) a.2.1.toNat) (g0 v a.1.toNat + a.2.2.2)) := by unfold stp1; rw [if_pos hl]
        rw [e1, g0_set (by omega) (by omega)]
        by_cases hto : a.2.1.toNat = k
        · rw [if_pos hto, hto]
          have hfr := hat a.1.toNat (by omega)
          refine (hold.min (Q := fun c => ∃ c1, A a.1.toNat c1 ∧ c = c1 + a.2.2.2) (fun hlt => ⟨_, hfr.2.2 (by omega), rfl⟩) (by rintro c ⟨c1, hc1, rfl⟩; have := hfr.2.1 c1 hc1; omega)).congr (fun c => ⟨?_, ?_⟩)
          · rintro (⟨i, c1, c2, hi, hA, hT, rfl⟩ | ⟨c1, hA, rfl⟩)
            · exact ⟨i, c1, c2, hi, hA, (Lt.take ha).2 (.inl hT), rfl⟩
            · exact ⟨a.1.toNat, c1, a.2.2.2, by omega, hA, (Lt.take ha).2 (.inr ⟨by omega, by omega, hl, rfl⟩), rfl⟩
          · rintro ⟨i, c1, c2, hi, hA, hT, rfl⟩
            rcases (Lt.take ha).1 hT with hT | ⟨f1, f2, f3, f4⟩
            · exact .inl ⟨i, c1, c2, hi, hA, hT, rfl⟩
            · refine .inr ⟨c1, ?_, by rw [f4]⟩
              rw [show a.1.toNat = i by omega]; exact hA
        · rw [if_neg hto]
          refine hold.congr (fun c => ⟨?_, ?_⟩)
          · rintro ⟨i, c1, c2, hi, hA, hT, rfl⟩
            exact ⟨i, c1, c2, hi, hA, (Lt.take ha).2 (.inl hT), rfl⟩
          · rintro ⟨i, c1, c2, hi, hA, hT, rfl⟩
            rcases (Lt.take ha).1 hT with hT | ⟨f1, f2, f3, f4⟩
            · exact ⟨i, c1, c2, hi, hA, hT, rfl⟩
            · omega
      · have e1 : stp1 l v (stpT far L l v j) a = stpT far L l v j := by unfold stp1; rw [if_neg hl]
        rw [e1]
        refine hold.congr (fun c => ⟨?_, ?_⟩)
        · rintro ⟨i, c1, c2, hi, hA, hT, rfl⟩
          exact ⟨i, c1, c2, hi, hA, (Lt.take ha).2 (.inl hT), rfl⟩
        · rintro ⟨i, c1, c2, hi, hA, hT, rfl⟩
          rcases (Lt.take ha).1 hT with hT | ⟨f1, f2, f3, f4⟩
          · exact ⟨i, c1, c2, hi, hA, hT, rfl⟩
          · exact absurd f3 hl
    · have e : stpT far L l v (j + 1) = stpT far L l v j := by unfold stpT; rw [List.take_of_length_le (by omega), List.take_of_length_le (by omega)]
      rw [e, List.take_of_length_le (by omega)]
      rw [List.take_of_length_le (by omega)] at ih
      exact ih
/-- A start or an end, with its cost. -/
def Stt (P : List Int) (i : Nat) (c : Int) : Prop := P[i]? = some c ∧ 0 ≤ c
/-- The costs behind a word (told backwards), empty arcs behind its last letter left out. -/
def Bw (n : Nat) (L : List A4) (P : List Int) : List Int → Nat → Int → Prop
  | [] => Stt P
  | l :: rw => Nx n L l (Cl n L (Bw n L P rw))
def Tw (n : Nat) (L : List A4) (P E : List Int) (rw : List Int) (c : Int) : Prop := ∃ i c1 c2, i < n ∧ Cl n L (Bw n L P rw) i c1 ∧ Stt E i c2 ∧ c = c1 + c2
theorem Cl.nonneg {n : Nat} {L : List A4} {A : Nat → Int → Prop} (hL : okM n L) (hA : ∀ i c, A i c → 0 ≤ c) {k : Nat} {c : Int} (h : Cl n L A k c) : 0 ≤ c := by
  obtain ⟨i, c1, c2, _, h1, h2, rfl⟩ := h
  have := hA _ _ h1
  have := h2.nonneg (fun i k c h => (hL.em h).2.2.1)
  omega
theorem Bw.nonneg {n : Nat} {L : List A4} {P : List Int} (hL : okM n L) : ∀ (rw : List Int) (k : Nat) (c : Int), Bw n L P rw k c → 0 ≤ c
  | [], k, c, h => h.2
  | l :: rw, k, c, ⟨i, c1, c2, _, h1, h2, e⟩ => by
    have := Cl.nonneg hL (Bw.nonneg hL rw) h1
    have := (hL.lt h2).2.2.1
    omega
/-- A way of at most this cost, where there is one. -/
theorem Bw.short {n : Nat} {L : List A4} {P : List Int} (hL : okM n L) (hP : ∀ x ∈ P, x ≤ 1000) : ∀ (rw : List Int) (k : Nat) (c : Int), Bw n L P rw k c → ∃ c', c' ≤ c ∧ c' ≤ 1000 + (1000 * n + 1000) * rw.length ∧ Bw n L P rw k c'
  | [], k, c, h => ⟨c, Int.le_refl _, by have := hP c (List.mem_of_getElem? h.1); simp; omega, h⟩
  | l :: rw, k, c, ⟨i, c1, c2, hi, ⟨j, d1, d2, hj, h1, h2, e1⟩, h3, e⟩ => by
    obtain ⟨d1', a1, a2, a3⟩ := Bw.short hL hP rw j d1 h1
    obtain ⟨p, d2', b1, b2, _, b3⟩ := h2.short (b := 1000) (fun i k c h => (hL.em h).2.2.1) (fun i k c h => (hL.em h).2.2.2) (fun i k c h => (hL.em h).2.1) (by omega) hj
    have h4 := (hL.lt h3).2.2.2
    refine ⟨d1' + d2' + c2, by omega, ?_, i, d1' + d2', c2, hi, ⟨j, d1', d2', hj, a3, b1.way, rfl⟩, h3, rfl⟩
    rw [List.length_cons, show ((rw.length + 1 : Nat) : Int) = (rw.length : Int) + 1 from by push_cast; rfl, Int.mul_add]
    omega
theorem Tw.short {n : Nat} {L : List A4} {P E : List Int} (hL : okM n L) (hP : ∀ x ∈ P, x ≤ 1000) (hE : ∀ x ∈ E, x ≤ 1000) {rw : List Int} {c : Int} (h : Tw n L P E rw c) : ∃ c' : Int, c' ≤ 2000 + (1000 * (n : Int) + 1000) * ((rw.length : Int) + 1) ∧ Tw n L P E rw c' := by
  obtain ⟨i, c1, c2, hi, ⟨j, d1, d2, hj, h1, h2, e1⟩, h3, e⟩ := h
  obtain ⟨d1', a1, a2, a3⟩ := Bw.short hL hP rw j d1 h1
  obtain ⟨p, d2', b1, b2, _, b3⟩ := h2.short (b := 1000) (fun i k c h => (hL.em h).2.2.1) (fun i k c h => (hL.em h).2.2.2) (fun i k c h => (hL.em h).2.1) (by omega) hj
  have h4 := hE c2 (List.mem_of_getElem? h3.1)
  refine ⟨d1' + d2' + c2, ?_, i, d1' + d2', c2, hi, ⟨j, d1', d2', hj, a3, b1.way, rfl⟩, h3, rfl⟩
  rw [Int.mul_add]; omega
/-- What is told: the cost, -1 if there is none. -/
def tld (far x : Int) : Int := if far ≤ x then -1 else x
theorem tld_same {far far' x y : Int} {P : Int → Prop} (hx : Lst far x P) (hy : Lst far' y P) (hs : ∀ c, P c → ∃ c', P c' ∧ c' < far ∧ c' < far') : tld far x = tld far' y := by
  unfold tld
  by_cases he : ∃ c, P c
  · obtain ⟨c, hc⟩ := he
    obtain ⟨c', h1, h2, h3⟩ := hs c hc
    have x1 := hx.2.1 c' h1; have y1 := hy.2.1 c' h1
    rw [if_neg (by omega), if_neg (by omega)]
    have px := hx.2.2 (by omega); have py := hy.2.2 (by omega)
    have := hx.2.1 y py; have := hy.2.1 x px
    omega
  · have hn : ∀ c, ¬ P c := fun c hc => he ⟨c, hc⟩
    have x1 : ¬ x < far := fun h => hn _ (hx.2.2 h)
    have y1 : ¬ y < far' := fun h => hn _ (hy.2.2 h)
    rw [if_pos (by omega), if_pos (by omega)]
/-! The closure by middle states, as the reference does it -/
section
variable {R : Nat → Nat → Int → Prop} {n : Nat}
inductive QW (R : Nat → Nat → Int → Prop) (j : Nat) : Nat → Nat → Int → Prop
  | refl (i : Nat) : QW R j i i 0
  | arc {i k : Nat} {c : Int} : R i k c → QW R j i k c
  | cons {i x k : Nat} {c c' : Int} : R i x c → x < j → QW R j x k c' → QW R j i k (c + c')
theorem QW.way {j i k : Nat} {c : Int} (h : QW R j i k c) : Wy R i k c := by
  induction h with
  | refl i => exact .refl i
  | arc h => exact .arc h
  | cons h _ _ ih => exact .cons h ih
theorem QW.of {i k : Nat} {c : Int} (hR : ∀ i k c, R i k c → k < n) (h : Wy R i k c) : QW R n i k c := by
  induction h with
  | refl i => exact .refl i
  | cons h _ ih => exact .cons h (hR _ _ _ h) ih
theorem QW.more {j j' i k : Nat} {c : Int} (h : QW R j i k c) (hj : j ≤ j') : QW R j' i k c := by
  induction h with
  | refl i => exact .refl i
  | arc h => exact .arc h
  | cons h hx _ ih => exact .cons h (by omega) ih
theorem QW.cat {j i k : Nat} {c1 c2 : Int} (h1 : QW R (j + 1) i j c1) (h2 : QW R (j + 1) j k c2) : QW R (j + 1) i k (c1 + c2) := by
  generalize hx : j = x at h1
  have : ∀ {i x : Nat} {c1 : Int}, QW R (j + 1) i x c1 → x = j → QW R (j + 1) i k (c1 + c2) := by
    intro i x c1 h
    induction h with
    | refl i => rintro rfl; rw [Int.zero_add]; exact h2
    | arc h => rintro rfl; exact .cons h (by omega) h2
    | cons h hx _ ih => intro e; rw [Int.add_assoc]; exact .cons h hx (ih e)
  subst hx
  exact this h1 rfl
theorem QW.split (h0 : ∀ i k c, R i k c → 0 ≤ c) {j i k : Nat} {c : Int} (h : QW R (j + 1) i k c) : (∃ c', c' ≤ c ∧ QW R j i k c') ∨ ∃ c1 c2, QW R j i j c1 ∧ QW R j j k c2 ∧ c1 + c2 ≤ c := by
  induction h with
  | refl i => exact .inl ⟨0, Int.le_refl _, .refl i⟩
  | arc h => exact .inl ⟨_, Int.le_refl _, .arc h⟩
  | @cons i x k c c' h hx hq ih =>
    have hc := h0 _ _ _ h
    by_cases e : x = j
    · subst e
      rcases ih with ⟨d, hd, hq'⟩ | ⟨d1, d2, q1, q2, hd⟩
      · exact .inr ⟨c, d, .arc h, hq', by omega⟩
      · have := q1.way.nonneg h0
        exact .inr ⟨c, d2, .arc h, q2, by omega⟩
    · rcases ih with ⟨d, hd, hq'⟩ | ⟨d1, d2, q1, q2, hd⟩
      · exact .inl ⟨c + d, by omega, .cons h (by omega) hq'⟩
      · exact .inr ⟨c + d1, d2, .cons h (by omega) q1, q2, by omega⟩
end
/-- While the pass of middle state j goes on: 'don i k' says whether entry (i, k) has been done. -/
def Mid (far : Int) (n : Nat) (R : Nat → Nat → Int → Prop) (j : Nat) (don : Nat → Nat → Prop) (e : Nat → Nat → Int) : Prop :=
  ∀ i k, i < n → k < n → e i k ≤ far ∧ (e i k < far → QW R (j + 1) i k (e i k)) ∧ (∀ c, QW R j i k c → e i k ≤ c) ∧ (don i k → ∀ c, QW R (j + 1) i k c → e i k ≤ c)
theorem Mid.step {far : Int} {n : Nat} {R : Nat → Nat → Int → Prop} (h0 : ∀ i k c, R i k c → 0 ≤ c) (hf : 0 ≤ far) {j : Nat} {don : Nat → Nat → Prop} {e : Nat → Nat → Int} (hj : j < n) (h : Mid far n R j don e) {a b : Nat} (ha : a < n) (hb : b < n) :
    Mid far n R j (fun i k => don i k ∨ (i = a ∧ k = b)) (fun i k => if i = a ∧ k = b then Min.min (e a b) (e a j + e j b) else e i k) := by
  have hnn : ∀ i k, i < n → k < n → 0 ≤ e i k := by
    intro i k hi hk
    by_cases hl : e i k < far
    · exact ((h i k hi hk).2.1 hl).way.nonneg h0
    · omega
  intro i k hi hk
  obtain ⟨p1, p2, p3, p4⟩ := h i k hi hk
  by_cases hc : i = a ∧ k = b
  · obtain ⟨rfl, rfl⟩ := hc
    simp only [and_self, if_true, or_true, true_implies]
    obtain ⟨q1, q2, q3, q4⟩ := h i j hi hj
    obtain ⟨r1, r2, r3, r4⟩ := h j k hj hk
    have n1 := hnn i j hi hj; have n2 := hnn j k hj hk
    refine ⟨by omega, fun hlt => ?_, fun c hq => by have := p3 c hq; omega, fun c hq => ?_⟩
    · by_cases hm : e i k ≤ e i j + e j k
      · rw [show Min.min (e i k) (e i j + e j k) = e i k by omega] at hlt ⊢
        exact p2 hlt
      · rw [show Min.min (e i k) (e i j + e j k) = e i j + e j k by omega] at hlt ⊢
        exact (q2 (by omega)).cat (r2 (by omega))
    · rcases hq.split h0 with ⟨c', h1, h2⟩ | ⟨c1, c2, h1, h2, h3⟩
      · have := p3 c' h2; omega
      · have := q3 c1 h1; have := r3 c2 h2; omega
  · simp only [if_neg hc]
    refine ⟨p1, p2, p3, fun hd => p4 ?_⟩
    rcases hd with hd | hd
    · exact hd
    · exact absurd hd hc
/-- Between two passes. -/
def Mdn (far : Int) (n : Nat) (R : Nat → Nat → Int → Prop) (j : Nat) (e : Nat → Nat → Int) : Prop := ∀ i k, i < n → k < n → Lst far (e i k) (QW R j i k)
theorem Mdn.start {far : Int} {n : Nat} {R : Nat → Nat → Int → Prop} {j : Nat} {e : Nat → Nat → Int} (h : Mdn far n R j e) : Mid far n R j (fun _ _ => False) e :=
  fun i k hi hk => ⟨(h i k hi hk).1, fun hl => ((h i k hi hk).2.2 hl).more (by omega), (h i k hi hk).2.1, fun hd => hd.elim⟩
theorem Mid.done {far : Int} {n : Nat} {R : Nat → Nat → Int → Prop} {j : Nat} {don : Nat → Nat → Prop} {e : Nat → Nat → Int} (h : Mid far n R j don e) (hd : ∀ i k, i < n → k < n → don i k) : Mdn far n R (j + 1) e :=
  fun i k hi hk => ⟨(h i k hi hk).1, (h i k hi hk).2.2.2 (hd i k hi hk), (h i k hi hk).2.1⟩
theorem Mdn.whole {far : Int} {n : Nat} {R : Nat → Nat → Int → Prop} {e : Nat → Nat → Int} (hR : ∀ i k c, R i k c → k < n) (h : Mdn far n R n e) : ∀ i k, i < n → k < n → Lst far (e i k) (Wy R i k) :=
  fun i k hi hk => (h i k hi hk).congr (fun c => ⟨QW.way, QW.of hR⟩)
end Go.Proofs.Ytedbngnkkfpbeaa
