/- Several texts in one: The plain law of least costs: a step by a letter, least sums, words; the closure by middle states; both tell the same. Lists of arcs of a machine: copied, compared. Rows that a call handed out: equality, and what marks leave of them. Blocks of an interval alone may turn. Lists of numbers, as the laws' helpers take them in structs. -/
import Derived.Test.YtbdfbmohdbigfaaMgc
import Derived.Test.YtbdfbmohdbigfaaMgb
import Derived.Test.YtbdfbmohdbigfaaMga

namespace Go.Proofs.Ytbdfbmohdbigfaa
open Go.RowKit
set_option linter.unusedVariables false
/-- least of k numbers, 'far' if there is none below -/
def mins (far : Int) (f : Nat → Int) : Nat → Int
  | 0 => far
  | k + 1 => Min.min (mins far f k) (f k)
theorem mins_lst {far : Int} {f : Nat → Int} {Q : Nat → Int → Prop} : ∀ {k : Nat}, (∀ i, i < k → (f i < far → Q i (f i)) ∧ ∀ c, Q i c → f i ≤ c) → Lst far (mins far f k) (fun c => ∃ i, i < k ∧ Q i c) := by
  intro k
  induction k with
  | zero => intro _; exact Lst.none (by rintro c ⟨i, hi, _⟩; omega)
  | succ k ih =>
    intro h
    have h1 := ih (fun i hi => h i (by omega))
    have h2 := h k (by omega)
    refine (h1.min h2.1 h2.2).congr (fun c => ⟨?_, ?_⟩)
    · rintro (⟨i, hi, hq⟩ | hq)
      · exact ⟨i, by omega, hq⟩
      · exact ⟨k, by omega, hq⟩
    · rintro ⟨i, hi, hq⟩
      by_cases e : i = k
      · subst e; exact .inr hq
      · exact .inl ⟨i, by omega, hq⟩
/-- One arc of a step. -/
def stp1 (l : Int) (v out : List Int) (a : A4) : List Int := if a.2.2.1 = l then out.set a.2.1.toNat (Min.min (g0 out a.2.1.toNat) (g0 v a.1.toNat + a.2.2.2)) else out
def stpL (far : Int) (L : List A4) (l : Int) (v : List Int) : List Int := L.foldl (stp1 l v) (List.replicate v.length far)
def stpT (far : Int) (L : List A4) (l : Int) (v : List Int) (j : Nat) : List Int := (L.take j).foldl (stp1 l v) (List.replicate v.length far)
theorem stpT_succ {far : Int} {L : List A4} {l : Int} {v : List Int} {j : Nat} {a : A4} (h : L[j]? = some a) : stpT far L l v (j + 1) = stp1 l v (stpT far L l v j) a := by
  obtain ⟨hj, rfl⟩ := List.getElem?_eq_some_iff.1 h
  unfold stpT; rw [List.take_succ_eq_append_getElem hj, List.foldl_append]; rfl
theorem stp1_len (l : Int) (v out : List Int) (a : A4) : (stp1 l v out a).length = out.length := by unfold stp1; split <;> simp
theorem stpT_len (far : Int) (L : List A4) (l : Int) (v : List Int) (j : Nat) : (stpT far L l v j).length = v.length := by
  unfold stpT
  generalize hM : L.take j = M
  clear hM
  have : ∀ out : List Int, (M.foldl (stp1 l v) out).length = out.length := by
    induction M with
    | nil => intro out; rfl
    | cons a M ih => intro out; rw [List.foldl_cons, ih, stp1_len]
  rw [this]; simp
/-- The costs behind an arc with a letter. -/
def Nx (n : Nat) (L : List A4) (l : Int) (A : Nat → Int → Prop) (k : Nat) (c : Int) : Prop := ∃ i c1 c2, i < n ∧ A i c1 ∧ Lt L l i k c2 ∧ c = c1 + c2
theorem Lt.take {L : List A4} {l : Int} {j i k : Nat} {c : Int} {a : A4} (h : L[j]? = some a) : Lt (L.take (j + 1)) l i k c ↔ Lt (L.take j) l i k c ∨ (a.1 = (i : Int) ∧ a.2.1 = (k : Int) ∧ a.2.2.1 = l ∧ a.2.2.2 = c) := by
  obtain ⟨hj, rfl⟩ := List.getElem?_eq_some_iff.1 h
  unfold Lt
  rw [List.take_succ_eq_append_getElem hj]
  constructor
  · rintro ⟨b, hb, e⟩
    rcases List.mem_append.1 hb with hb | hb
    · exact .inl ⟨b, hb, e⟩
    · simp at hb; subst hb; exact .inr e
  · rintro (⟨b, hb, e⟩ | e)
    · exact ⟨b, List.mem_append.2 (.inl hb), e⟩
    · exact ⟨L[j], List.mem_append.2 (.inr (by simp)), e⟩
theorem Rep.step {far : Int} {n : Nat} {L : List A4} {l : Int} {v : List Int} {A : Nat → Int → Prop} (hL : okM n L) (h : Rep far n v A) (h0 : 0 ≤ far) : ∀ j, Rep far n (stpT far L l v j) (Nx n (L.take j) l A) := by
  have hat : ∀ i, i < n → Lst far (g0 v i) (A i) := fun i hi => h.2 i _ (g0_some (by rw [h.1]; exact hi))
  intro j
  induction j with
  | zero =>
    refine ⟨by rw [stpT_len, h.1], fun k x hx => ?_⟩
    have : x = far := by
      unfold stpT at hx
      rw [List.take_zero, List.foldl_nil, List.getElem?_replicate] at hx
      split at hx
      · exact (Option.some.inj hx).symm
      · cases hx
    subst this
    exact Lst.none (by rintro c ⟨i, c1, c2, _, _, ⟨a, ha, _⟩, _⟩; simp at ha)
  | succ j ih =>
    by_cases hj : j < L.length
    · have hget := List.getElem?_eq_getElem hj
      obtain ⟨a, ha⟩ : ∃ a, L[j]? = some a := ⟨_, hget⟩
      have hok := hL a (List.mem_of_getElem? ha)
      rw [stpT_succ ha]
      have hlen := stpT_len far L l v j
      rw [h.1] at hlen
      refine ⟨by rw [stp1_len, hlen], fun k x hx => ?_⟩
      have hk : k < n := by have := (List.getElem?_eq_some_iff.1 hx).1; rw [stp1_len, hlen] at this; exact this
      have e := g0_get hx
      subst e
      have hold := ih.2 k _ (g0_some (by rw [hlen]; exact hk))
      by_cases hl : a.2.2.1 = l
      · have e1 : stp1 l v (stpT far L l v j) a = (stpT far L l v j).set a.2.1.toNat (Min.min (g0 (stpT far L l v j) a.2.1.toNat) (g0 v a.1.toNat + a.2.2.2)) := by unfold stp1; rw [if_pos hl]
        rw [e1, g0_set (by omega) (by omega)]
        by_cases hto : a.2.1.toNat = k
        · rw [if_pos hto, hto]
          have hfr := hat a.1.toNat (by omega)
          refine (hold.min (Q := fun c => ∃ c1, A a.1.toNat c1 ∧ c = c1 + a.2.2.2) (fun hlt => ⟨_, hfr.2.2 (by omega), rfl⟩) (by rintro c ⟨c1, hc1, rfl⟩; have := hfr.2.1 c1 hc1; omega)).congr (fun c => ⟨?_, ?_⟩)
          · rintro (⟨i, c1, c2, hi, hA, hT, rfl⟩ | ⟨c1, hA, rfl⟩)
            · exact ⟨i, c1, c2, hi, hA, (Lt.take ha).2 (.inl hT), rfl⟩
            · exact ⟨a.1.toNat, c1, a.2.2.2, by omega, hA, (Lt.take ha).2 (.inr ⟨by omega, by omega, hl, rfl⟩), rfl⟩
          · rintro ⟨i, c1, c2, hi, hA, hT, rfl⟩
            rcases (Lt.take ha).1 hT with hT | ⟨f1, f2, f3, f4⟩
            · exact .inl ⟨i, c1, c2, hi, hA, hT, rfl⟩
            · refine .inr ⟨c1, ?_, by rw [f4]⟩
              rw [show a.1.toNat = i by omega]; exact hA
        · rw [if_neg hto]
          refine hold.congr (fun c => ⟨?_, ?_⟩)
          · rintro ⟨i, c1, c2, hi, hA, hT, rfl⟩
            exact ⟨i, c1, c2, hi, hA, (Lt.take ha).2 (.inl hT), rfl⟩
          · rintro ⟨i, c1, c2, hi, hA, hT, rfl⟩
            rcases (Lt.take ha).1 hT with hT | ⟨f1, f2, f3, f4⟩
            · exact ⟨i, c1, c2, hi, hA, hT, rfl⟩
            · omega
      · have e1 : stp1 l v (stpT far L l v j) a = stpT far L l v j := by unfold stp1; rw [if_neg hl]
        rw [e1]
        refine hold.congr (fun c => ⟨?_, ?_⟩)
        · rintro ⟨i, c1, c2, hi, hA, hT, rfl⟩
          exact ⟨i, c1, c2, hi, hA, (Lt.take ha).2 (.inl hT), rfl⟩
        · rintro ⟨i, c1, c2, hi, hA, hT, rfl⟩
          rcases (Lt.take ha).1 hT with hT | ⟨f1, f2, f3, f4⟩
          · exact ⟨i, c1, c2, hi, hA, hT, rfl⟩
          · exact absurd f3 hl
    · have e : stpT far L l v (j + 1) = stpT far L l v j := by unfold stpT; rw [List.take_of_length_le (by omega), List.take_of_length_le (by omega)]
      rw [e, List.take_of_length_le (by omega)]
      rw [List.take_of_length_le (by omega)] at ih
      exact ih
/-- A start or an end, with its cost. -/
def Stt (P : List Int) (i : Nat) (c : Int) : Prop := P[i]? = some c ∧ 0 ≤ c
/-- The costs behind a word (told backwards), empty arcs behind its last letter left out. -/
def Bw (n : Nat) (L : List A4) (P : List Int) : List Int → Nat → Int → Prop
  | [] => Stt P
  | l :: rw => Nx n L l (Cl n L (Bw n L P rw))
def Tw (n : Nat) (L : List A4) (P E : List Int) (rw : List Int) (c : Int) : Prop := ∃ i c1 c2, i < n ∧ Cl n L (Bw n L P rw) i c1 ∧ Stt E i c2 ∧ c = c1 + c2
theorem Cl.nonneg {n : Nat} {L : List A4} {A : Nat → Int → Prop} (hL : okM n L) (hA : ∀ i c, A i c → 0 ≤ c) {k : Nat} {c : Int} (h : Cl n L A k c) : 0 ≤ c := by
  obtain ⟨i, c1, c2, _, h1, h2, rfl⟩ := h
  have := hA _ _ h1
  have := h2.nonneg (fun i k c h => (hL.em h).2.2.1)
  omega
theorem Bw.nonneg {n : Nat} {L : List A4} {P : List Int} (hL : okM n L) : ∀ (rw : List Int) (k : Nat) (c : Int), Bw n L P rw k c → 0 ≤ c
  | [], k, c, h => h.2
  | l :: rw, k, c, ⟨i, c1, c2, _, h1, h2, e⟩ => by
    have := Cl.nonneg hL (Bw.nonneg hL rw) h1
    have := (hL.lt h2).2.2.1
    omega
/-- A way of at most this cost, where there is one. -/
theorem Bw.short {n : Nat} {L : List A4} {P : List Int} (hL : okM n L) (hP : ∀ x ∈ P, x ≤ 1000) : ∀ (rw : List Int) (k : Nat) (c : Int), Bw n L P rw k c → ∃ c', c' ≤ c ∧ c' ≤ 1000 + (1000 * n + 1000) * rw.length ∧ Bw n L P rw k c'
  | [], k, c, h => ⟨c, Int.le_refl _, by have := hP c (List.mem_of_getElem? h.1); simp; omega, h⟩
  | l :: rw, k, c, ⟨i, c1, c2, hi, ⟨j, d1, d2, hj, h1, h2, e1⟩, h3, e⟩ => by
    obtain ⟨d1', a1, a2, a3⟩ := Bw.short hL hP rw j d1 h1
    obtain ⟨p, d2', b1, b2, _, b3⟩ := h2.short (b := 1000) (fun i k c h => (hL.em h).2.2.1) (fun i k c h => (hL.em h).2.2.2) (fun i k c h => (hL.em h).2.1) (by omega) hj
    have h4 := (hL.lt h3).2.2.2
    refine ⟨d1' + d2' + c2, by omega, ?_, i, d1' + d2', c2, hi, ⟨j, d1', d2', hj, a3, b1.way, rfl⟩, h3, rfl⟩
    rw [List.length_cons, show ((rw.length + 1 : Nat) : Int) = (rw.length : Int) + 1 from by push_cast; rfl, Int.mul_add]
    omega
theorem Tw.short {n : Nat} {L : List A4} {P E : List Int} (hL : okM n L) (hP : ∀ x ∈ P, x ≤ 1000) (hE : ∀ x ∈ E, x ≤ 1000) {rw : List Int} {c : Int} (h : Tw n L P E rw c) : ∃ c' : Int, c' ≤ 2000 + (1000 * (n : Int) + 1000) * ((rw.length : Int) + 1) ∧ Tw n L P E rw c' := by
  obtain ⟨i, c1, c2, hi, ⟨j, d1, d2, hj, h1, h2, e1⟩, h3, e⟩ := h
  obtain ⟨d1', a1, a2, a3⟩ := Bw.short hL hP rw j d1 h1
  obtain ⟨p, d2', b1, b2, _, b3⟩ := h2.short (b := 1000) (fun i k c h => (hL.em h).2.2.1) (fun i k c h => (hL.em h).2.2.2) (fun i k c h => (hL.em h).2.1) (by omega) hj
  have h4 := hE c2 (List.mem_of_getElem? h3.1)
  refine ⟨d1' + d2' + c2, ?_, i, d1' + d2', c2, hi, ⟨j, d1', d2', hj, a3, b1.way, rfl⟩, h3, rfl⟩
  rw [Int.mul_add]; omega
/-- What is told: the cost, -1 if there is none. -/
def tld (far x : Int) : Int := if far ≤ x then -1 else x
theorem tld_same {far far' x y : Int} {P : Int → Prop} (hx : Lst far x P) (hy : Lst far' y P) (hs : ∀ c, P c → ∃ c', P c' ∧ c' < far ∧ c' < far') : tld far x = tld far' y := by
  unfold tld
  by_cases he : ∃ c, P c
  · obtain ⟨c, hc⟩ := he
    obtain ⟨c', h1, h2, h3⟩ := hs c hc
    have x1 := hx.2.1 c' h1; have y1 := hy.2.1 c' h1
    rw [if_neg (by omega), if_neg (by omega)]
    have px := hx.2.2 (by omega); have py := hy.2.2 (by omega)
    have := hx.2.1 y py; have := hy.2.1 x px
    omega
  · have hn : ∀ c, ¬ P c := fun c hc => he ⟨c, hc⟩
    have x1 : ¬ x < far := fun h => hn _ (hx.2.2 h)
    have y1 : ¬ y < far' := fun h => hn _ (hy.2.2 h)
    rw [if_pos (by omega), if_pos (by omega)]
/-! The closure by middle states, as the reference does it -/
section
variable {R : Nat → Nat → Int → Prop} {n : Nat}
inductive QW (R : Nat → Nat → Int → Prop) (j : Nat) : Nat → Nat → Int → Prop
  | refl (i : Nat) : QW R j i i 0
  | arc {i k : Nat} {c : Int} : R i k c → QW R j i k c
  | cons {i x k : Nat} {c c' : Int} : R i x c → x < j → QW R j x k c' → QW R j i k (c + c')
theorem QW.way {j i k : Nat} {c : Int} (h : QW R j i k c) : Wy R i k c := by
  induction h with
  | refl i => exact .refl i
  | arc h => exact .arc h
  | cons h _ _ ih => exact .cons h ih
theorem QW.of {i k : Nat} {c : Int} (hR : ∀ i k c, R i k c → k < n) (h : Wy R i k c) : QW R n i k c := by
  induction h with
  | refl i => exact .refl i
  | cons h _ ih => exact .cons h (hR _ _ _ h) ih
theorem QW.more {j j' i k : Nat} {c : Int} (h : QW R j i k c) (hj : j ≤ j') : QW R j' i k c := by
  induction h with
  | refl i => exact .refl i
  | arc h => exact .arc h
  | cons h hx _ ih => exact .cons h (by omega) ih
theorem QW.cat {j i k : Nat} {c1 c2 : Int} (h1 : QW R (j + 1) i j c1) (h2 : QW R (j + 1) j k c2) : QW R (j + 1) i k (c1 + c2) := by
  generalize hx : j = x at h1
  have : ∀ {i x : Nat} {c1 : Int}, QW R (j + 1) i x c1 → x = j → QW R (j + 1) i k (c1 + c2) := by
    intro i x c1 h
    induction h with
    | refl i => rintro rfl; rw [Int.zero_add]; exact h2
    | arc h => rintro rfl; exact .cons h (by omega) h2
    | cons h hx _ ih => intro e; rw [Int.add_assoc]; exact .cons h hx (ih e)
  subst hx
  exact this h1 rfl
theorem QW.split (h0 : ∀ i k c, R i k c → 0 ≤ c) {j i k : Nat} {c : Int} (h : QW R (j + 1) i k c) : (∃ c', c' ≤ c ∧ QW R j i k c') ∨ ∃ c1 c2, QW R j i j c1 ∧ QW R j j k c2 ∧ c1 + c2 ≤ c := by
  induction h with
  | refl i => exact .inl ⟨0, Int.le_refl _, .refl i⟩
  | arc h => exact .inl ⟨_, Int.le_refl _, .arc h⟩
  | @cons i x k c c' h hx hq ih =>
    have hc := h0 _ _ _ h
    by_cases e : x = j
    · subst e
      rcases ih with ⟨d, hd, hq'⟩ | ⟨d1, d2, q1, q2, hd⟩
      · exact .inr ⟨c, d, .arc h, hq', by omega⟩
      · have := q1.way.nonneg h0
        exact .inr ⟨c, d2, .arc h, q2, by omega⟩
    · rcases ih with ⟨d, hd, hq'⟩ | ⟨d1, d2, q1, q2, hd⟩
      · exact .inl ⟨c + d, by omega, .cons h (by omega) hq'⟩
      · exact .inr ⟨c + d1, d2, .cons h (by omega) q1, q2, by omega⟩
end
/-- While the pass of middle state j goes on: 'don i k' says whether entry (i, k) has been done. -/
def Mid (far : Int) (n : Nat) (R : Nat → Nat → Int → Prop) (j : Nat) (don : Nat → Nat → Prop) (e : Nat → Nat → Int) : Prop :=
  ∀ i k, i < n → k < n → e i k ≤ far ∧ (e i k < far → QW R (j + 1) i k (e i k)) ∧ (∀ c, QW R j i k c → e i k ≤ c) ∧ (don i k → ∀ c, QW R (j + 1) i k c → e i k ≤ c)
theorem Mid.step {far : Int} {n : Nat} {R : Nat → Nat → Int → Prop} (h0 : ∀ i k c, R i k c → 0 ≤ c) (hf : 0 ≤ far) {j : Nat} {don : Nat → Nat → Prop} {e : Nat → Nat → Int} (hj : j < n) (h : Mid far n R j don e) {a b : Nat} (ha : a < n) (hb : b < n) :
    Mid far n R j (fun i k => don i k ∨ (i = a ∧ k = b)) (fun i k => if i = a ∧ k = b then Min.min (e a b) (e a j + e j b) else e i k) := by
  have hnn : ∀ i k, i < n → k < n → 0 ≤ e i k := by
    intro i k hi hk
    by_cases hl : e i k < far
    · exact ((h i k hi hk).2.1 hl).way.nonneg h0
    · omega
  intro i k hi hk
  obtain ⟨p1, p2, p3, p4⟩ := h i k hi hk
  by_cases hc : i = a ∧ k = b
  · obtain ⟨rfl, rfl⟩ := hc
    simp only [and_self, if_true, or_true, true_implies]
    obtain ⟨q1, q2, q3, q4⟩ := h i j hi hj
    obtain ⟨r1, r2, r3, r4⟩ := h j k hj hk
    have n1 := hnn i j hi hj; have n2 := hnn j k hj hk
    refine ⟨by omega, fun hlt => ?_, fun c hq => by have := p3 c hq; omega, fun c hq => ?_⟩
    · by_cases hm : e i k ≤ e i j + e j k
      · rw [show Min.min (e i k) (e i j + e j k) = e i k by omega] at hlt ⊢
        exact p2 hlt
      · rw [show Min.min (e i k) (e i j + e j k) = e i j + e j k by omega] at hlt ⊢
        exact (q2 (by omega)).cat (r2 (by omega))
    · rcases hq.split h0 with ⟨c', h1, h2⟩ | ⟨c1, c2, h1, h2, h3⟩
      · have := p3 c' h2; omega
      · have := q3 c1 h1; have := r3 c2 h2; omega
  · simp only [if_neg hc]
    refine ⟨p1, p2, p3, fun hd => p4 ?_⟩
    rcases hd with hd | hd
    · exact hd
    · exact absurd hd hc
/-- Between two passes. -/
def Mdn (far : Int) (n : Nat) (R : Nat → Nat → Int → Prop) (j : Nat) (e : Nat → Nat → Int) : Prop := ∀ i k, i < n → k < n → Lst far (e i k) (QW R j i k)
theorem Mdn.start {far : Int} {n : Nat} {R : Nat → Nat → Int → Prop} {j : Nat} {e : Nat → Nat → Int} (h : Mdn far n R j e) : Mid far n R j (fun _ _ => False) e :=
  fun i k hi hk => ⟨(h i k hi hk).1, fun hl => ((h i k hi hk).2.2 hl).more (by omega), (h i k hi hk).2.1, fun hd => hd.elim⟩
theorem Mid.done {far : Int} {n : Nat} {R : Nat → Nat → Int → Prop} {j : Nat} {don : Nat → Nat → Prop} {e : Nat → Nat → Int} (h : Mid far n R j don e) (hd : ∀ i k, i < n → k < n → don i k) : Mdn far n R (j + 1) e :=
  fun i k hi hk => ⟨(h i k hi hk).1, (h i k hi hk).2.2.2 (hd i k hi hk), (h i k hi hk).2.1⟩
theorem Mdn.whole {far : Int} {n : Nat} {R : Nat → Nat → Int → Prop} {e : Nat → Nat → Int} (hR : ∀ i k c, R i k c → k < n) (h : Mdn far n R n e) : ∀ i k, i < n → k < n → Lst far (e i k) (Wy R i k) :=
  fun i k hi hk => (h i k hi hk).congr (fun c => ⟨QW.way, QW.of hR⟩)
end Go.Proofs.Ytbdfbmohdbigfaa


namespace Go.Proofs.Ytbdfbmohdbigfaa
open Go.RowKit
set_option linter.unusedVariables false
theorem infoAr : (Try.prog.info? 73).map (fun i => (i.zero, i.size, i.bytes)) = some (some (.agg #[.int .i64 0, .int .i64 0, .int .i64 0, .int .i64 0]), 4, 32) := by kernel_rfl
set_option maxHeartbeats 1000000 in
theorem toArc_any (a b c d : Int) (w : World) :
    Calls Try.prog 108 #[.agg #[.int .i64 a, .int .i64 b, .int .i64 c, .int .i64 d]] w fun e w' => e = .returned (.agg #[.int .i64 a, .int .i64 b, .int .i64 c, .int .i64 d]) ∧ Below w.heap.size w w' := by
  go_enter Try.func108, Try.ntmps108
  go_wp2_with fail
  refine bodyPost_ret (results_cell_row rfl _ _ (w.heap.size + 1) 73 #[.int .i64 a, .int .i64 b, .int .i64 c, .int .i64 d] (0, 0) _ rfl (Row.alloc (Row.newAt _ _ [.int .i64 a, .int .i64 b, .int .i64 c, .int .i64 d] (by simp)) _) Try.underlying73 rfl (by kernel_rfl)) rfl ?_
  exact ⟨rfl, (((Below.refl _ _).alloc (Nat.le_refl _) _).alloc (by simp) _).alloc (by simp; omega) _⟩
set_option maxHeartbeats 1000000 in
theorem toArcS_any (A : Option Addr) (n c : Nat) (L : List A4) (w : World) (h : SlA w w.heap.size A n L) (hn : n ≤ 4294967296) :
    Calls Try.prog 67 #[.slice A n c] w fun e w' => ∃ g, e = .returned (.slice (some ⟨g, 0, none⟩) n n) ∧ w.heap.size ≤ g ∧ Row w' g 73 (fa L) ∧ Below w.heap.size w w' := by
  have hl := Lib.hid h.len
  have H := Lib.hid h; clear h
  have hmk := run_make4 (P := Try.prog) 25 73 Try.underlying25 infoAr n hn
  go_enter Try.func67, Try.ntmps67
  go_wp2_with fail
  clear hmk
  go_loopw [4] (fun i wr => ∃ k : Nat, k ≤ n ∧ i = .int .i64 k ∧ Row wr w.heap.size 73 (fa (fillA L k n)) ∧ Below w.heap.size w wr) (fun i wr => n - (intOf i).toNat)
  case atStart => exact ⟨0, by omega, rfl, by rw [fillA_zero]; exact Row.new _ _ _, (Below.refl _ _).alloc (Nat.le_refl _) _⟩
  case round =>
    obtain ⟨k, hk, rfl, hr, hb⟩ := hrel
    have HR := Lib.hid hr; clear hr
    by_cases hlt : k < n
    · obtain ⟨b, off, a0, a1, a2, a3, rfl, hbB, hx, hc0, hc1, hc2, hc3⟩ := (H.out.below hb (Nat.le_refl _)).at_ hlt
      go_wp2_with fail
      refine (toArc_any a0 a1 a2 a3 wr).mono ?_
      rintro e wo ⟨rfl, hb1⟩
      have HR1 := Lib.hid (HR.out.below hb1 HR.out.lt)
      obtain ⟨d0, d1, d2, d3⟩ := fa_get (fillA_get hl.out hlt)
      have e0 := HR1.out.cell (k * 4); have e1 := HR1.out.cell (k * 4 + 1); have e2 := HR1.out.cell (k * 4 + 2); have e3 := HR1.out.cell (k * 4 + 3)
      rw [d0] at e0; rw [d1] at e1; rw [d2] at e2; rw [d3] at e3
      have f0 := HR1.out.frozen (k * 4); have f1 := HR1.out.frozen (k * 4 + 1); have f2 := HR1.out.frozen (k * 4 + 2); have f3 := HR1.out.frozen (k * 4 + 3)
      clear d0 d1 d2 d3
      go_wp2_with fail
      go_roundw
      case rel =>
        refine ⟨k + 1, by omega, by go_num, ?_, ((((hb.trans (hb1.mono hb.size)).setCell (Nat.le_refl _) _).setCell (Nat.le_refl _) _).setCell (Nat.le_refl _) _).setCell (Nat.le_refl _) _⟩
        rw [← fillA_set hl.out hlt hx.out, ← fa_set (by rw [fillA_length hl.out (by omega)]; exact hlt)]
        exact (((HR1.out.set_ _ _).set_ _ _).set_ _ _).set_ _ _
      case measure => simp [intOf]; omega
    · obtain rfl : n = k := by omega
      go_wp2_with fail
      go_ret
      refine ⟨_, rfl, Nat.le_refl _, ?_, hb⟩
      have := HR.out
      rw [fillA_all hl.out] at this
      exact this
theorem szArcS_any (A : Option Addr) (n c : Nat) (left : Int) (w : World) (h0 : 0 ≤ left) (h1 : left ≤ 1048576) (hn : n ≤ 9223372036854775807) :
    Calls Try.prog 56 #[.slice A n c, .int .i64 left] w fun e w' => ∃ z : Int, e = .returned (.int .i64 z) ∧ -1 ≤ z ∧ z ≤ 1048576 ∧ (0 ≤ z → n ≤ 1048576) ∧ w = w' := by
  have w1 : IntKind.i64.wrap (left - (n : Int)) = left - (n : Int) := IntWalk.i64_in _ (by omega)
  by_cases hb : left - (n : Int) < 0
  · go_enter Try.func56, Try.ntmps56
    go_wp2_with fail
    go_ret
    exact ⟨-1, rfl, by omega, by omega, fun h => by omega, rfl⟩
  · have hb' : (0 : Int) ≤ left - (n : Int) := by omega
    clear hb
    go_enter Try.func56, Try.ntmps56
    go_wp2_with fail
    go_ret
    exact ⟨left - (n : Int), rfl, by omega, by omega, fun h => by omega, rfl⟩
theorem eqArc_same (a b c d : Int) (w : World) :
    Calls Try.prog 109 #[.agg #[.int .i64 a, .int .i64 b, .int .i64 c, .int .i64 d], .agg #[.int .i64 a, .int .i64 b, .int .i64 c, .int .i64 d]] w fun e w' => e = .returned (.bool true) ∧ Below w.heap.size w w' := by
  go_enter Try.func109, Try.ntmps109
  go_wp2_with fail
  go_ret
  exact ⟨rfl, ((Below.refl _ _).alloc (Nat.le_refl _) _).alloc (by simp) _⟩
set_option maxHeartbeats 1000000 in
theorem eqArcS_same (A : Option Addr) (n c : Nat) (A' : Option Addr) (c' : Nat) (L : List A4) (w : World) {B B' : Nat} (h : SlA w w.heap.size A n L) (h' : SlA w w.heap.size A' n L) (hn : n ≤ 4294967296) :
    Calls Try.prog 71 #[.slice A n c, .slice A' n c'] w fun e w' => e = .returned (.bool true) ∧ Below w.heap.size w w' := by
  have H := Lib.hid h; clear h
  have H' := Lib.hid h'; clear h'
  go_enter Try.func71, Try.ntmps71
  go_wp2_with fail
  go_loopw [5] (fun i wr => ∃ k : Nat, k ≤ n ∧ i = .int .i64 k ∧ Below w.heap.size w wr) (fun i wr => n - (intOf i).toNat)
  case atStart => exact ⟨0, by omega, rfl, Below.refl _ _⟩
  case round =>
    obtain ⟨k, hk, rfl, hb⟩ := hrel
    by_cases hlt : k < n
    · obtain ⟨b, off, x0, x1, x2, x3, rfl, hbB, hx, c0, c1, c2, c3⟩ := (H.out.below hb (Nat.le_refl _)).at_ hlt
      obtain ⟨b', off', y0, y1, y2, y3, rfl, hbB', hy, c0', c1', c2', c3'⟩ := (H'.out.below hb (Nat.le_refl _)).at_ hlt
      have he := hx.out
      rw [hy.out] at he
      simp only [Option.some.injEq, Prod.mk.injEq] at he
      obtain ⟨rfl, rfl, rfl, rfl⟩ := he
      have hi0 : (0 : Int) ≤ (k : Int) := by omega
      have hi1 : (k : Int) < (n : Int) := by omega
      go_wp2_with fail
      have hcells : ∀ x : World, Below wr.heap.size wr x → (x.cell? ⟨b, off + k * 4, none⟩ = some (.int .i64 y0) ∧ x.cell? ⟨b, off + k * 4 + 1, none⟩ = some (.int .i64 y1) ∧ x.cell? ⟨b, off + k * 4 + 2, none⟩ = some (.int .i64 y2) ∧ x.cell? ⟨b, off + k * 4 + 3, none⟩ = some (.int .i64 y3) ∧ x.cell? ⟨b', off' + k * 4, none⟩ = some (.int .i64 y0) ∧ x.cell? ⟨b', off' + k * 4 + 1, none⟩ = some (.int .i64 y1) ∧ x.cell? ⟨b', off' + k * 4 + 2, none⟩ = some (.int .i64 y2) ∧ x.cell? ⟨b', off' + k * 4 + 3, none⟩ = some (.int .i64 y3)) := by
        intro x hx
        have h1 := hb.size
        exact ⟨(hx.cell (p := ⟨b, off + k * 4, none⟩) (show b < wr.heap.size by omega)).trans c0, (hx.cell (p := ⟨b, off + k * 4 + 1, none⟩) (show b < wr.heap.size by omega)).trans c1, (hx.cell (p := ⟨b, off + k * 4 + 2, none⟩) (show b < wr.heap.size by omega)).trans c2, (hx.cell (p := ⟨b, off + k * 4 + 3, none⟩) (show b < wr.heap.size by omega)).trans c3, (hx.cell (p := ⟨b', off' + k * 4, none⟩) (show b' < wr.heap.size by omega)).trans c0', (hx.cell (p := ⟨b', off' + k * 4 + 1, none⟩) (show b' < wr.heap.size by omega)).trans c1', (hx.cell (p := ⟨b', off' + k * 4 + 2, none⟩) (show b' < wr.heap.size by omega)).trans c2', (hx.cell (p := ⟨b', off' + k * 4 + 3, none⟩) (show b' < wr.heap.size by omega)).trans c3'⟩
      have hcells := Lib.hid hcells
      have hkeep : Hid (∀ x y : World, Below wr.heap.size wr x → Below x.heap.size x y → (Below wr.heap.size wr y ∧ y.cell? ⟨b, off + k * 4, none⟩ = some (.int .i64 y0) ∧ y.cell? ⟨b, off + k * 4 + 1, none⟩ = some (.int .i64 y1) ∧ y.cell? ⟨b, off + k * 4 + 2, none⟩ = some (.int .i64 y2) ∧ y.cell? ⟨b, off + k * 4 + 3, none⟩ = some (.int .i64 y3) ∧ y.cell? ⟨b', off' + k * 4, none⟩ = some (.int .i64 y0) ∧ y.cell? ⟨b', off' + k * 4 + 1, none⟩ = some (.int .i64 y1) ∧ y.cell? ⟨b', off' + k * 4 + 2, none⟩ = some (.int .i64 y2) ∧ y.cell? ⟨b', off' + k * 4 + 3, none⟩ = some (.int .i64 y3))) := by
        intro x y h1 h2
        have h3 := h1.trans (h2.mono h1.size)
        exact ⟨h3, hcells.out y h3⟩
      have hdr : Below wr.heap.size wr wr.drew := Below.drew (Below.refl _ _)
      go_region_held3 (fun x => Below wr.heap.size wr x ∧ x.cell? ⟨b, off + k * 4, none⟩ = some (.int .i64 y0) ∧ x.cell? ⟨b, off + k * 4 + 1, none⟩ = some (.int .i64 y1) ∧ x.cell? ⟨b, off + k * 4 + 2, none⟩ = some (.int .i64 y2) ∧ x.cell? ⟨b, off + k * 4 + 3, none⟩ = some (.int .i64 y3) ∧ x.cell? ⟨b', off' + k * 4, none⟩ = some (.int .i64 y0) ∧ x.cell? ⟨b', off' + k * 4 + 1, none⟩ = some (.int .i64 y1) ∧ x.cell? ⟨b', off' + k * 4 + 2, none⟩ = some (.int .i64 y2) ∧ x.cell? ⟨b', off' + k * 4 + 3, none⟩ = some (.int .i64 y3)) (first | assumption | go_keep)
        (first
          | (go_at_call 109; refine (eqArc_same _ _ _ _ _).mono ?_; rintro e wz ⟨rfl, hbz⟩; have hkz := (fun h => hkeep.out _ _ h hbz) (by first | assumption | (apply And.left; assumption))))
      have hbz : Below wr.heap.size wr wz := (by first | assumption | (apply And.left; assumption))
      go_wp2_with fail
      exact ⟨⟨k + 1, by omega, by go_num, hb.trans (hbz.mono hb.size)⟩, by simp [intOf]; omega⟩
    · obtain rfl : n = k := by omega
      go_wp2_with fail
      go_ret
      exact ⟨rfl, hb⟩
end Go.Proofs.Ytbdfbmohdbigfaa


namespace Go.Proofs.Ytbdfbmohdbigfaa
open Go.RowKit
set_option linter.unusedVariables false
theorem RowI.nil (w : World) (base : Nat) (t : TypeId) : RowI w base t (.slice none 0 0) [] := ⟨by simp [iv], .inl ⟨rfl, rfl⟩⟩
theorem RowI.but {w w' : World} {base g : Nat} {t : TypeId} {v : Value} {r : List Int} (h : RowI w base t v r) (hb : But g w w') (hg : g < base) : RowI w' base t v r := by
  refine World.ownsRow.kept (row := some g) h ⟨hb.1, hb.2.1, hb.2.2.1, hb.2.2.2.1, fun k hk hne => hb.2.2.2.2 k hk (fun e => hne (by rw [e]))⟩ ?_
  cases hv : v.ownBlock with
  | none => simp
  | some k =>
    have := (World.ownsRow.lt h k hv).1
    simp; omega
theorem eqOwn (v v' : Value) (r : List Int) (b b' : Nat) (w : World) (h : RowI w b 2 v r) (h' : RowI w b' 2 v' r) (hn : r.length ≤ 4294967296) :
    Calls Try.prog 69 #[v, v'] w fun e w' => e = .returned (.bool true) ∧ Below w.heap.size w w' := by
  obtain ⟨A, c, rfl, _, _⟩ := own_form h
  obtain ⟨A', c', rfl, _, _⟩ := own_form h'
  refine (eqInt64S_any A r.length c r A' r.length c' r w w.heap.size w.heap.size (h.sl rfl) (h'.sl rfl) hn hn).mono ?_
  rintro e w' ⟨rfl, hb⟩
  exact ⟨ret_bool (decide_eq_true rfl), hb⟩
theorem But.below' {g B : Nat} {a b : World} (h : But g a b) (hB : B ≤ g) (hs : g < a.heap.size) : Below B a b := h.below hB (by omega)
end Go.Proofs.Ytbdfbmohdbigfaa


namespace Go.Proofs.Ytbdfbmohdbigfaa
open Go.RowKit
set_option linter.unusedVariables false
/-- Blocks from lo to hi alone may have turned; new ones may stand behind. -/
def Kp (lo hi : Nat) (w w' : World) : Prop := w'.os = w.os ∧ w'.tape = w.tape ∧ w'.output = w.output ∧ w.heap.size ≤ w'.heap.size ∧ ∀ k, k < w.heap.size → (k < lo ∨ hi ≤ k) → w'.heap[k]? = w.heap[k]?
theorem But.kp {lo hi g : Nat} {w w' : World} (h : But g w w') (h1 : lo ≤ g) (h2 : g < hi) : Kp lo hi w w' := ⟨h.1, h.2.1, h.2.2.1, h.2.2.2.1, fun k hk hn => h.2.2.2.2 k hk (by omega)⟩
theorem Kp.trans {lo hi : Nat} {a b c : World} (h : Kp lo hi a b) (h' : Kp lo hi b c) : Kp lo hi a c :=
  ⟨h'.1.trans h.1, h'.2.1.trans h.2.1, h'.2.2.1.trans h.2.2.1, Nat.le_trans h.2.2.2.1 h'.2.2.2.1, fun k hk hn => (h'.2.2.2.2 k (Nat.lt_of_lt_of_le hk h.2.2.2.1) hn).trans (h.2.2.2.2 k hk hn)⟩
theorem Kp.refl (lo hi : Nat) (w : World) : Kp lo hi w w := ⟨rfl, rfl, rfl, Nat.le_refl _, fun _ _ _ => rfl⟩
theorem Kp.below {lo hi : Nat} {w w' : World} (h : Kp lo hi w w') (hs : lo ≤ w.heap.size) : Below lo w w' :=
  ⟨h.1, h.2.1, h.2.2.1, h.2.2.2.1, fun k hk => h.2.2.2.2 k (by omega) (.inl hk)⟩
theorem RowN.kp {w w' : World} {lo hi g n : Nat} {t : TypeId} (h : RowN w g t n) (hk : Kp lo hi w w') (hg : g < lo ∨ hi ≤ g) : RowN w' g t n := by
  obtain ⟨vs, hl, hr⟩ := h
  exact ⟨vs, hl, (hk.2.2.2.2 g hr.lt hg).trans hr⟩
theorem RowI.kp {w w' : World} {base lo hi : Nat} {t : TypeId} {v : Value} {r : List Int} (h : RowI w base t v r) (hb : Kp lo hi w w') (hg : hi ≤ base) : RowI w' base t v r := by
  obtain ⟨h1, h2⟩ := h
  refine ⟨h1, ?_⟩
  rcases h2 with h2 | ⟨g', cap, cur, e, hb', hg', rest⟩
  · exact .inl h2
  · exact .inr ⟨g', cap, cur, e, hb', (hb.2.2.2.2 g' (Array.getElem?_eq_some_iff.1 hg').1 (.inr (by omega))).trans hg', rest⟩
end Go.Proofs.Ytbdfbmohdbigfaa


namespace Go.Proofs.Ytbdfbmohdbigfaa
open Go.RowKit
set_option linter.unusedVariables false
theorem Row.slI {w : World} {g : Nat} {t : TypeId} {xs : List Int} (h : Row w g t (iv xs)) : SlI w w.heap.size (some ⟨g, 0, none⟩) xs.length xs := by
  have := h.sl; rw [iv_length] at this; exact this
theorem szInt64S_any (A : Option Addr) (n c : Nat) (left : Int) (w : World) (h0 : 0 ≤ left) (h1 : left ≤ 1048576) (hn : n ≤ 9223372036854775807) :
    Calls Try.prog 57 #[.slice A n c, .int .i64 left] w fun e w' => ∃ z : Int, e = .returned (.int .i64 z) ∧ -1 ≤ z ∧ z ≤ 1048576 ∧ (0 ≤ z → n ≤ 1048576) ∧ w = w' := by
  have w1 : IntKind.i64.wrap (left - (n : Int)) = left - (n : Int) := IntWalk.i64_in _ (by omega)
  by_cases hb : left - (n : Int) < 0
  · go_enter Try.func57, Try.ntmps57
    go_wp2_with fail
    go_ret
    exact ⟨-1, rfl, by omega, by omega, fun h => by omega, rfl⟩
  · have hb' : (0 : Int) ≤ left - (n : Int) := by omega
    clear hb
    go_enter Try.func57, Try.ntmps57
    go_wp2_with fail
    go_ret
    exact ⟨left - (n : Int), rfl, by omega, by omega, fun h => by omega, rfl⟩
theorem eqInt64S_same (A : Option Addr) (n c : Nat) (A' : Option Addr) (c' : Nat) (xs : List Int) (w : World) {B B' : Nat} (h : SlI w B A n xs) (h' : SlI w B' A' n xs) (hn : n ≤ 4294967296) :
    Calls Try.prog 69 #[.slice A n c, .slice A' n c'] w fun e w' => e = .returned (.bool true) ∧ Below w.heap.size w w' :=
  (eqInt64S_any A n c xs A' n c' xs w B B' h h' hn hn).mono fun e w' ⟨h1, h2⟩ => ⟨by rw [h1, decide_eq_true rfl], h2⟩
end Go.Proofs.Ytbdfbmohdbigfaa
