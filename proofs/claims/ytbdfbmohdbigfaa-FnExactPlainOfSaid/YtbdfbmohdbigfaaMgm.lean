/- Several texts in one: Lists of lists of numbers: their copies, equality, size and marks, as the laws make them. restCosts of the program: the least costs to the end, by the number of letters. -/
import Derived.Test.YtbdfbmohdbigfaaMk
import Derived.Test.YtbdfbmohdbigfaaMgb
import Derived.Deep.QuietTactic
import Derived.BigQuiet
import Derived.Deep.LoopGhost
import Derived.Deep.RegionHeld3
import Derived.Deep.RegionWith
import Derived.Test.YtbdfbmohdbigfaaMgl
import Derived.Test.YtbdfbmohdbigfaaBwQ

namespace Go.Proofs.Ytbdfbmohdbigfaa
open Go.RowKit
set_option linter.unusedVariables false
/-- The slice value '.slice A n c' reads as the lists R; all lies in blocks below B. -/
def SlL (w : World) (B : Nat) (A : Option Addr) (n : Nat) (R : List (List Int)) : Prop :=
  ∃ hs : List Value, SlV w B A n hs ∧ hs.length = R.length ∧ ∀ (j : Nat) (r : List Int), R[j]? = some r → ∃ (A' : Option Addr) (c : Nat), hs[j]? = some (.slice A' r.length c) ∧ SlI w B A' r.length r ∧ r.length ≤ maxLen
section
variable {w w' : World} {B B' n : Nat} {A : Option Addr} {R : List (List Int)}
theorem SlL.len (h : SlL w B A n R) : R.length = n := by
  obtain ⟨hs, h1, h2, _⟩ := h
  have := h1.len; omega
theorem SlL.at_ {k : Nat} (h : SlL w B A n R) (hk : k < n) :
    ∃ b off A' c r, A = some ⟨b, off, none⟩ ∧ b < B ∧ Hid (R[k]? = some r) ∧ w.cell? ⟨b, off + k, none⟩ = some (.slice A' r.length c) ∧ Hid (SlI w B A' r.length r) ∧ r.length ≤ maxLen := by
  have hl := h.len
  obtain ⟨hs, h1, h2, h3⟩ := h
  obtain ⟨b, off, u, e, hb, hu, hc⟩ := h1.at_ hk
  obtain ⟨r, hr⟩ : ∃ r, R[k]? = some r := ⟨R[k], List.getElem?_eq_getElem (by omega)⟩
  obtain ⟨A', c, e1, e2, e3⟩ := h3 k r hr
  rw [hu] at e1
  cases e1
  exact ⟨b, off, A', c, r, e, hb, hr, hc, e2, e3⟩
theorem SlL.below (h : SlL w B A n R) (hb : Below B' w w') (hB : B ≤ B') : SlL w' B A n R := by
  obtain ⟨hs, h1, h2, h3⟩ := h
  refine ⟨hs, h1.below hb hB, h2, fun j r hr => ?_⟩
  obtain ⟨A', c, e1, e2, e3⟩ := h3 j r hr
  exact ⟨A', c, e1, e2.below hb hB, e3⟩
theorem SlL.more (h : SlL w B A n R) (hB : B ≤ B') : SlL w B' A n R := by
  obtain ⟨hs, h1, h2, h3⟩ := h
  refine ⟨hs, h1.more hB, h2, fun j r hr => ?_⟩
  obtain ⟨A', c, e1, e2, e3⟩ := h3 j r hr
  exact ⟨A', c, e1, e2.more hB, e3⟩
end
/-- A list of lists that the law copied: block g holds the headers, each row has a block behind it, in order. -/
def RowsN (w : World) (g hi : Nat) (R : List (List Int)) : Prop :=
  ∃ (hs : List Value) (G : Nat → Nat), Row w g 26 hs ∧ hs.length = R.length ∧ (∀ (j : Nat) (r : List Int), R[j]? = some r → hs[j]? = some (.slice (some ⟨G j, 0, none⟩) r.length r.length) ∧ g < G j ∧ G j < hi ∧ RowN w (G j) 2 r.length) ∧ ∀ i j, i < j → j < R.length → G i < G j
theorem RowsN.lt {w : World} {g hi : Nat} {R : List (List Int)} (h : RowsN w g hi R) : g < w.heap.size := by
  obtain ⟨hs, G, h1, _⟩ := h
  exact h1.lt
theorem RowsN.below {w w' : World} {g hi B : Nat} {R : List (List Int)} (h : RowsN w g hi R) (hb : Below B w w') (hB : w.heap.size ≤ B) : RowsN w' g hi R := by
  obtain ⟨hs, G, h1, h2, h3, h4⟩ := h
  refine ⟨hs, G, h1.below hb (by have := h1.lt; omega), h2, fun j r hr => ?_, h4⟩
  obtain ⟨e1, e2, e4, e3⟩ := h3 j r hr
  exact ⟨e1, e2, e4, e3.below hb (by have := e3.lt; omega)⟩
theorem RowsN.kp {w w' : World} {g hi' lo hi : Nat} {R : List (List Int)} (h : RowsN w g hi' R) (hk : Kp lo hi w w') (hg : hi ≤ g) : RowsN w' g hi' R := by
  obtain ⟨hs, G, h1, h2, h3, h4⟩ := h
  refine ⟨hs, G, (hk.2.2.2.2 g h1.lt (.inr hg)).trans h1, h2, fun j r hr => ?_, h4⟩
  obtain ⟨e1, e2, e4, e3⟩ := h3 j r hr
  exact ⟨e1, e2, e4, e3.kp hk (.inr (by omega))⟩
/-- While it is copied. -/
def CpL (g n : Nat) (R : List (List Int)) (k : Nat) (wr : World) : Prop :=
  ∃ (hs : List Value) (G : Nat → Nat), hs.length = k ∧ R.length = n ∧ Row wr g 26 (fill hs n (.slice none 0 0)) ∧ (∀ (j : Nat) (r : List Int), j < k → R[j]? = some r → hs[j]? = some (.slice (some ⟨G j, 0, none⟩) r.length r.length) ∧ g < G j ∧ Row wr (G j) 2 (iv r)) ∧ ∀ i j, i < j → j < k → G i < G j
theorem CpL.step {g n k g1 : Nat} {R : List (List Int)} {w w1 : World} {r : List Int} (h : CpL g n R k w) (hk : k < n) (hr : R[k]? = some r) (hb : Below w.heap.size w w1) (hg : w.heap.size ≤ g1) (hR : Row w1 g1 2 (iv r)) :
    CpL g n R (k + 1) (w1.setCell ⟨g, k, none⟩ (.slice (some ⟨g1, 0, none⟩) r.length r.length)) := by
  obtain ⟨hs, G, hl, hn, h1, h2, h3⟩ := h
  have hgl := h1.lt
  refine ⟨hs ++ [.slice (some ⟨g1, 0, none⟩) r.length r.length], fun j => if j = k then g1 else G j, by simp; omega, hn, ?_, fun j q hj hq => ?_, fun i j hij hj => ?_⟩
  · rw [← fill_set hl hk]
    exact (h1.below hb hgl).set_ _ _
  · dsimp only
    rcases Nat.lt_or_ge j k with hjk | hjk
    · obtain ⟨e1, e2, e3⟩ := h2 j q hjk hq
      rw [if_neg (by omega)]
      exact ⟨by rw [List.getElem?_append_left (by omega)]; exact e1, e2, (e3.below hb e3.lt).far (by show G j ≠ g; omega) _⟩
    · obtain rfl : j = k := by omega
      rw [hr] at hq
      cases hq
      rw [if_pos rfl]
      refine ⟨by rw [List.getElem?_append_right (by omega), hl]; simp, by omega, hR.far (by show g1 ≠ g; omega) _⟩
  · dsimp only
    rw [if_neg (show i ≠ k by omega)]
    split
    · have := (h2 i _ (by omega) (List.getElem?_eq_getElem (by omega))).2.2.lt
      omega
    · exact h3 i j hij (by omega)
theorem CpL.at_ {g n k : Nat} {R : List (List Int)} {w : World} (h : CpL g n R k w) (hk : k < n) : w.cell? ⟨g, k, none⟩ = some (.slice none 0 0) ∧ w.frozen? ⟨g, k, none⟩ = false ∧ g < w.heap.size := by
  obtain ⟨hs, G, hl, hn, h1, h2⟩ := h
  exact ⟨by rw [h1.cell, fill_at hl hk], h1.frozen k, h1.lt⟩
theorem CpL.below {g n k : Nat} {R : List (List Int)} {w w1 : World} (h : CpL g n R k w) (hb : Below w.heap.size w w1) : CpL g n R k w1 := by
  obtain ⟨hs, G, hl, hn, h1, h2, h3⟩ := h
  refine ⟨hs, G, hl, hn, h1.below hb h1.lt, fun j r hj hr => ?_, h3⟩
  obtain ⟨e1, e2, e3⟩ := h2 j r hj hr
  exact ⟨e1, e2, e3.below hb e3.lt⟩
theorem CpL.done {g n : Nat} {R : List (List Int)} {w : World} (h : CpL g n R n w) (hm : ∀ r ∈ R, r.length ≤ maxLen) : RowsN w g w.heap.size R ∧ SlL w w.heap.size (some ⟨g, 0, none⟩) n R := by
  obtain ⟨hs, G, hl, hn, h1, h2, h3⟩ := h
  rw [fill_full hl] at h1
  have hj : ∀ {j : Nat} {r : List Int}, R[j]? = some r → j < n := fun h => by have := (List.getElem?_eq_some_iff.1 h).1; omega
  refine ⟨⟨hs, G, h1, by omega, fun j r hr => ?_, fun i j hij hj => h3 i j hij (by omega)⟩, ⟨hs, by have := h1.sl; rw [hl] at this; exact this, by omega, fun j r hr => ?_⟩⟩
  · obtain ⟨e1, e2, e3⟩ := h2 j r (hj hr) hr
    exact ⟨e1, e2, e3.lt, iv r, iv_length r, e3⟩
  · obtain ⟨e1, e2, e3⟩ := h2 j r (hj hr) hr
    have := e3.sl
    rw [iv_length] at this
    exact ⟨_, _, e1, this, hm r (List.mem_of_getElem? hr)⟩
theorem infoHd : (Try.prog.info? 26).map (fun i => (i.zero, i.size, i.bytes)) = some (some (.slice none 0 0), 1, 24) := by kernel_rfl
/-- How many numbers there are. -/
def sumL (R : List (List Int)) : Nat := (R.map List.length).sum
theorem sumL_nil : sumL [] = 0 := rfl
theorem sumL_append (R S : List (List Int)) : sumL (R ++ S) = sumL R + sumL S := by simp [sumL]
theorem sumL_take {R : List (List Int)} {k : Nat} {r : List Int} (h : R[k]? = some r) : sumL (R.take (k + 1)) = sumL (R.take k) + r.length := by
  obtain ⟨hk, rfl⟩ := List.getElem?_eq_some_iff.1 h
  rw [List.take_succ_eq_append_getElem hk, sumL_append]; simp [sumL]
theorem sumL_mem {R : List (List Int)} {r : List Int} (h : r ∈ R) : r.length ≤ sumL R := by
  induction R with
  | nil => cases h
  | cons a R ih =>
    simp only [sumL, List.map_cons, List.sum_cons] at ih ⊢
    rcases List.mem_cons.1 h with rfl | h
    · omega
    · have := ih h; omega
end Go.Proofs.Ytbdfbmohdbigfaa


namespace Go.Proofs.Ytbdfbmohdbigfaa
open Go.RowKit
set_option linter.unusedVariables false
/-- A row of least numbers while it is lowered: the letters below l are done, and l at the first i places. -/
def nxV (F : Int) (f : Nat → Nat → Int) (n l i : Nat) : List Int := (List.range n).map fun j => mins F (fun l => f l j) (if j < i then l + 1 else l)
theorem nxV_len (F : Int) (f : Nat → Nat → Int) (n l i : Nat) : (nxV F f n l i).length = n := by simp [nxV]
theorem nxV_zero (F : Int) (f : Nat → Nat → Int) (n : Nat) : nxV F f n 0 0 = List.replicate n F := by
  unfold nxV
  rw [List.eq_replicate_iff]
  refine ⟨by simp, fun x hx => ?_⟩
  simp only [List.mem_map] at hx
  obtain ⟨j, _, rfl⟩ := hx
  rfl
theorem nxV_row (F : Int) (f : Nat → Nat → Int) (n l : Nat) : nxV F f n l n = nxV F f n (l + 1) 0 := by
  unfold nxV
  refine List.map_congr_left fun j hj => ?_
  rw [List.mem_range] at hj
  rw [if_pos hj, if_neg (by omega)]
theorem nxV_at {F : Int} {f : Nat → Nat → Int} {n l i : Nat} (h : i < n) : (nxV F f n l i)[i]? = some (mins F (fun l => f l i) l) := by
  simp [nxV, h]
theorem nxV_step {F : Int} {f : Nat → Nat → Int} {n l i : Nat} (h : i < n) : nxV F f n l (i + 1) = (nxV F f n l i).set i (min (mins F (fun l => f l i) l) (f l i)) := by
  refine List.ext_getElem? fun j => ?_
  rw [List.getElem?_set]
  by_cases e : i = j
  · subst e
    rw [if_pos rfl, nxV_len, if_pos h]
    simp [nxV, h]
    rfl
  · rw [if_neg e]
    by_cases hj : j < n
    · simp only [nxV, List.getElem?_map, List.getElem?_range hj, Option.map_some]
      by_cases h2 : j < i
      · rw [if_pos h2, if_pos (by omega)]
      · rw [if_neg h2, if_neg (by omega)]
    · rw [List.getElem?_eq_none (by rw [nxV_len]; omega), List.getElem?_eq_none (by rw [nxV_len]; omega)]
theorem mins_bd' {F : Int} {f : Nat → Int} (hF : 0 ≤ F) (hf : ∀ i, 0 ≤ f i) : ∀ k, 0 ≤ mins F f k ∧ mins F f k ≤ F
  | 0 => ⟨hF, Int.le_refl _⟩
  | k + 1 => by
    have := mins_bd' hF hf k; have := hf k
    show 0 ≤ Min.min (mins F f k) (f k) ∧ Min.min (mins F f k) (f k) ≤ F
    omega
theorem nxV_bd {F : Int} {f : Nat → Nat → Int} {n : Nat} (hF : 0 ≤ F) (hf : ∀ l i, 0 ≤ f l i) (l i : Nat) : Bd F (nxV F f n l i) := fun x hx => by
  simp only [nxV, List.mem_map] at hx
  obtain ⟨j, _, rfl⟩ := hx
  exact mins_bd' hF (fun l => hf l j) _
theorem rsV_bd {F : Int} (hF : 0 ≤ F) {T : Nat} {L : List A4} {E : List Int} (hE : ∀ x ∈ E, x ≤ F) (hL : ∀ a ∈ L.map bkA, 0 ≤ a.2.2.2) : ∀ r, Bd F (rsV F T L E r)
  | 0 => Bd.relN hF (frL_bd hF hE) hL _
  | r + 1 => fun x hx => by
    simp only [rsV, List.mem_map] at hx
    obtain ⟨j, _, rfl⟩ := hx
    exact mins_bd' hF (fun l => ((stV_bd hF (rsV_bd hF hE hL r) hL).g0 hF j).1) _
theorem rsV_nx (F : Int) (T : Nat) (L : List A4) (E : List Int) (r : Nat) : rsV F T L E (r + 1) = nxV F (fun l i => g0 (stV F (L.map bkA) (l : Int) (rsV F T L E r)) i) E.length T 0 := by
  unfold nxV
  rw [rsV]
  refine List.map_congr_left fun j _ => ?_
  rw [if_neg (by omega)]
theorem tabI_one (w : World) (base g n c : Nat) (TT T : TypeId) (r : List Int) (h : RowI w base T (.slice (some ⟨g, 0, none⟩) n c) r) : TabI (w.alloc (.cells #[.slice (some ⟨g, 0, none⟩) n c] TT)) base TT (.slice (some ⟨w.heap.size, 0, none⟩) 1 1) [r] := by
  obtain ⟨hb, hlt⟩ := h.lt
  obtain ⟨us, _, _, _, _, hl, hc, _⟩ := h.open
  subst hl
  refine ⟨[.slice (some ⟨g, 0, none⟩) r.length c], Row.own (cap := 0) (Row.new w TT [.slice (some ⟨g, 0, none⟩) r.length c]) (by omega) (by simp [maxLen]), fun j r' hj => ?_⟩
  have hj0 : j = 0 := by
    rcases Nat.eq_zero_or_pos j with h | h
    · exact h
    · rw [List.getElem?_eq_none (by simp; omega)] at hj; cases hj
  subst hj0
  simp at hj
  subst hj
  refine ⟨g, c, rfl, hb, by simp; omega, ?_, hc, fun k x hx => ?_⟩
  · intro e; simp [Value.ownBlock] at e; omega
  · exact (h.alloc _).cell hx
theorem grown_low {lo : Nat} {x y : World} {row : Option Nat} (h : x.grownBy y row) (hr : ∀ k, row = some k → lo ≤ k) (hs : lo ≤ x.heap.size) : Below lo x y :=
  ⟨h.os, h.tape, h.output, h.size, fun k hk => h.block k (by omega) (fun e => by have := hr k e.symm; omega)⟩
theorem info2I : (Try.prog.info? 26).map (fun i => (i.zero, i.size, i.bytes)) = some (some (.slice none 0 0), 1, 24) := by kernel_rfl
theorem rsT_succ (F : Int) (T : Nat) (L : List A4) (E : List Int) (k : Nat) : (List.range (k + 1)).map (rsV F T L E) = (List.range k).map (rsV F T L E) ++ [rsV F T L E k] := by rw [List.range_succ, List.map_append]; rfl
end Go.Proofs.Ytbdfbmohdbigfaa
