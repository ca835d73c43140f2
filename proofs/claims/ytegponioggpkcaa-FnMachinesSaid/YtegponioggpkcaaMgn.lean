/- Several texts in one: CostOf of the reference, whole; both contracts as the law's walk wants them. Lists of lists of numbers: their copies, equality, size and marks, as the laws make them. areWords of the program. -/
import Derived.Test.YtegponioggpkcaaMgi
import Derived.Test.YtegponioggpkcaaMgb
import Derived.Test.YtegponioggpkcaaMgc
import Derived.Deep.QuietTactic
import Derived.BigQuiet
import Derived.Deep.LoopGhost
import Derived.Deep.RegionHeld3
import Derived.Deep.RegionWith
import Derived.Test.YtegponioggpkcaaMgh

namespace Go.Proofs.Ytegponioggpkcaa
open Go.RowKit
set_option linter.unusedVariables false
theorem iCostOfL_any (v : Value) (b off n c : Nat) (S T : Int) (L : List A4) (P E xs : List Int) (w : World) (h : Mc w w.heap.size v S T L P E) (hx : SlI w w.heap.size (some ⟨b, off, none⟩) n xs) (hL : L.length ≤ 1048576) (hP : P.length ≤ 1048576) (hE : E.length ≤ 1048576) (hn : n ≤ 1048576) :
    Calls Try.prog 16 #[v, .slice (some ⟨b, off, none⟩) n c] w fun e w' => e = .returned (.tuple #[.int .i64 (coR 1099511627776 S T L P E xs), .bool (coB S T L P E xs)]) ∧ Below w.heap.size w w' := iCostOf_any v S T L P E _ n c xs w h hx hL hP hE (by omega)
end Go.Proofs.Ytegponioggpkcaa


namespace Go.Proofs.Ytegponioggpkcaa
open Go.RowKit
set_option linter.unusedVariables false
/-- The slice value '.slice A n c' reads as the lists R; all lies in blocks below B. -/
def SlL (w : World) (B : Nat) (A : Option Addr) (n : Nat) (R : List (List Int)) : Prop :=
  ∃ hs : List Value, SlV w B A n hs ∧ hs.length = R.length ∧ ∀ (j : Nat) (r : List Int), R[j]? = some r → ∃ (A' : Option Addr) (c : Nat), hs[j]? = some (.slice A' r.length c) ∧ SlI w B A' r.length r ∧ r.length ≤ maxLen
section
variable {w w' : World} {B B' n : Nat} {A : Option Addr} {R : List (List Int)}
theorem SlL.len (h : SlL w B A n R) : R.length = n := by
  obtain ⟨hs, h1, h2, _⟩ := h
  have := h1.len; omega
theorem SlL.at_ {k : Nat} (h : SlL w B A n R) (hk : k < n) :
    ∃ b off A' c r, A = some ⟨b, off, none⟩ ∧ b < B ∧ Hid (R[k]? = some r) ∧ w.cell? ⟨b, off + k, none⟩ = some (.slice A' r.length c) ∧ Hid (SlI w B A' r.length r) ∧ r.length ≤ maxLen := by
  have hl := h.len
  obtain ⟨hs, h1, h2, h3⟩ := h
  obtain ⟨b, off, u, e, hb, hu, hc⟩ := h1.at_ hk
  obtain ⟨r, hr⟩ : ∃ r, R[k]? = some r := ⟨R[k], List.getElem?_eq_getElem (by omega)⟩
  obtain ⟨A', c, e1, e2, e3⟩ := h3 k r hr
  rw [hu] at e1
  cases e1
  exact ⟨b, off, A', c, r, e, hb, hr, hc, e2, e3⟩
theorem SlL.below (h : SlL w B A n R) (hb : Below B' w w') (hB : B ≤ B') : SlL w' B A n R := by
  obtain ⟨hs, h1, h2, h3⟩ := h
  refine ⟨hs, h1.below hb hB, h2, fun j r hr => ?_⟩
  obtain ⟨A', c, e1, e2, e3⟩ := h3 j r hr
  exact ⟨A', c, e1, e2.below hb hB, e3⟩
theorem SlL.more (h : SlL w B A n R) (hB : B ≤ B') : SlL w B' A n R := by
  obtain ⟨hs, h1, h2, h3⟩ := h
  refine ⟨hs, h1.more hB, h2, fun j r hr => ?_⟩
  obtain ⟨A', c, e1, e2, e3⟩ := h3 j r hr
  exact ⟨A', c, e1, e2.more hB, e3⟩
end
/-- A list of lists that the law copied: block g holds the headers, each row has a block behind it, in order. -/
def RowsN (w : World) (g hi : Nat) (R : List (List Int)) : Prop :=
  ∃ (hs : List Value) (G : Nat → Nat), Row w g 26 hs ∧ hs.length = R.length ∧ (∀ (j : Nat) (r : List Int), R[j]? = some r → hs[j]? = some (.slice (some ⟨G j, 0, none⟩) r.length r.length) ∧ g < G j ∧ G j < hi ∧ RowN w (G j) 2 r.length) ∧ ∀ i j, i < j → j < R.length → G i < G j
theorem RowsN.lt {w : World} {g hi : Nat} {R : List (List Int)} (h : RowsN w g hi R) : g < w.heap.size := by
  obtain ⟨hs, G, h1, _⟩ := h
  exact h1.lt
theorem RowsN.below {w w' : World} {g hi B : Nat} {R : List (List Int)} (h : RowsN w g hi R) (hb : Below B w w') (hB : w.heap.size ≤ B) : RowsN w' g hi R := by
  obtain ⟨hs, G, h1, h2, h3, h4⟩ := h
  refine ⟨hs, G, h1.below hb (by have := h1.lt; omega), h2, fun j r hr => ?_, h4⟩
  obtain ⟨e1, e2, e4, e3⟩ := h3 j r hr
  exact ⟨e1, e2, e4, e3.below hb (by have := e3.lt; omega)⟩
theorem RowsN.kp {w w' : World} {g hi' lo hi : Nat} {R : List (List Int)} (h : RowsN w g hi' R) (hk : Kp lo hi w w') (hg : hi ≤ g) : RowsN w' g hi' R := by
  obtain ⟨hs, G, h1, h2, h3, h4⟩ := h
  refine ⟨hs, G, (hk.2.2.2.2 g h1.lt (.inr hg)).trans h1, h2, fun j r hr => ?_, h4⟩
  obtain ⟨e1, e2, e4, e3⟩ := h3 j r hr
  exact ⟨e1, e2, e4, e3.kp hk (.inr (by omega))⟩
/-- While it is copied. -/
def CpL (g n : Nat) (R : List (List Int)) (k : Nat) (wr : World) : Prop :=
  ∃ (hs : List Value) (G : Nat → Nat), hs.length = k ∧ R.length = n ∧ Row wr g 26 (fill hs n (.slice none 0 0)) ∧ (∀ (j : Nat) (r : List Int), j < k → R[j]? = some r → hs[j]? = some (.slice (some ⟨G j, 0, none⟩) r.length r.length) ∧ g < G j ∧ Row wr (G j) 2 (iv r)) ∧ ∀ i j, i < j → j < k → G i < G j
theorem CpL.step {g n k g1 : Nat} {R : List (List Int)} {w w1 : World} {r : List Int} (h : CpL g n R k w) (hk : k < n) (hr : R[k]? = some r) (hb : Below w.heap.size w w1) (hg : w.heap.size ≤ g1) (hR : Row w1 g1 2 (iv r)) :
    CpL g n R (k + 1) (w1.setCell ⟨g, k, none⟩ (.slice (some ⟨g1, 0, none⟩) r.length r.length)) := by
  obtain ⟨hs, G, hl, hn, h1, h2, h3⟩ := h
  have hgl := h1.lt
  refine ⟨hs ++ [.slice (some ⟨g1, 0, none⟩) r.length r.length], fun j => if j = k then g1 else G j, by simp; omega, hn, ?_, fun j q hj hq => ?_, fun i j hij hj => ?_⟩
  · rw [← fill_set hl hk]
    exact (h1.below hb hgl).set_ _ _
  · dsimp only
    rcases Nat.lt_or_ge j k with hjk | hjk
    · obtain ⟨e1, e2, e3⟩ := h2 j q hjk hq
      rw [if_neg (by omega)]
      exact ⟨by rw [List.getElem?_append_left (by omega)]; exact e1, e2, (e3.below hb e3.lt).far (by show G j ≠ g; omega) _⟩
    · obtain rfl : j = k := by omega
      rw [hr] at hq
      cases hq
      rw [if_pos rfl]
      refine ⟨by rw [List.getElem?_append_right (by omega), hl]; simp, by omega, hR.far (by show g1 ≠ g; omega) _⟩
  · dsimp only
    rw [if_neg (show i ≠ k by omega)]
    split
    · have := (h2 i _ (by omega) (List.getElem?_eq_getElem (by omega))).2.2.lt
      omega
    · exact h3 i j hij (by omega)
theorem CpL.at_ {g n k : Nat} {R : List (List Int)} {w : World} (h : CpL g n R k w) (hk : k < n) : w.cell? ⟨g, k, none⟩ = some (.slice none 0 0) ∧ w.frozen? ⟨g, k, none⟩ = false ∧ g < w.heap.size := by
  obtain ⟨hs, G, hl, hn, h1, h2⟩ := h
  exact ⟨by rw [h1.cell, fill_at hl hk], h1.frozen k, h1.lt⟩
theorem CpL.below {g n k : Nat} {R : List (List Int)} {w w1 : World} (h : CpL g n R k w) (hb : Below w.heap.size w w1) : CpL g n R k w1 := by
  obtain ⟨hs, G, hl, hn, h1, h2, h3⟩ := h
  refine ⟨hs, G, hl, hn, h1.below hb h1.lt, fun j r hj hr => ?_, h3⟩
  obtain ⟨e1, e2, e3⟩ := h2 j r hj hr
  exact ⟨e1, e2, e3.below hb e3.lt⟩
theorem CpL.done {g n : Nat} {R : List (List Int)} {w : World} (h : CpL g n R n w) (hm : ∀ r ∈ R, r.length ≤ maxLen) : RowsN w g w.heap.size R ∧ SlL w w.heap.size (some ⟨g, 0, none⟩) n R := by
  obtain ⟨hs, G, hl, hn, h1, h2, h3⟩ := h
  rw [fill_full hl] at h1
  have hj : ∀ {j : Nat} {r : List Int}, R[j]? = some r → j < n := fun h => by have := (List.getElem?_eq_some_iff.1 h).1; omega
  refine ⟨⟨hs, G, h1, by omega, fun j r hr => ?_, fun i j hij hj => h3 i j hij (by omega)⟩, ⟨hs, by have := h1.sl; rw [hl] at this; exact this, by omega, fun j r hr => ?_⟩⟩
  · obtain ⟨e1, e2, e3⟩ := h2 j r (hj hr) hr
    exact ⟨e1, e2, e3.lt, iv r, iv_length r, e3⟩
  · obtain ⟨e1, e2, e3⟩ := h2 j r (hj hr) hr
    have := e3.sl
    rw [iv_length] at this
    exact ⟨_, _, e1, this, hm r (List.mem_of_getElem? hr)⟩
theorem infoHd : (Try.prog.info? 26).map (fun i => (i.zero, i.size, i.bytes)) = some (some (.slice none 0 0), 1, 24) := by kernel_rfl
/-- How many numbers there are. -/
def sumL (R : List (List Int)) : Nat := (R.map List.length).sum
theorem sumL_nil : sumL [] = 0 := rfl
theorem sumL_append (R S : List (List Int)) : sumL (R ++ S) = sumL R + sumL S := by simp [sumL]
theorem sumL_take {R : List (List Int)} {k : Nat} {r : List Int} (h : R[k]? = some r) : sumL (R.take (k + 1)) = sumL (R.take k) + r.length := by
  obtain ⟨hk, rfl⟩ := List.getElem?_eq_some_iff.1 h
  rw [List.take_succ_eq_append_getElem hk, sumL_append]; simp [sumL]
theorem sumL_mem {R : List (List Int)} {r : List Int} (h : r ∈ R) : r.length ≤ sumL R := by
  induction R with
  | nil => cases h
  | cons a R ih =>
    simp only [sumL, List.map_cons, List.sum_cons] at ih ⊢
    rcases List.mem_cons.1 h with rfl | h
    · omega
    · have := ih h; omega
end Go.Proofs.Ytegponioggpkcaa


namespace Go.Proofs.Ytegponioggpkcaa
open Go.RowKit
set_option linter.unusedVariables false
theorem allW_take {α : Type} {f : α → Bool} {ws : List α} {k : Nat} {x : α} (h : ws[k]? = some x) (h1 : (ws.take k).all f = true) (h2 : f x = true) : (ws.take (k + 1)).all f = true := by
  obtain ⟨hk, rfl⟩ := List.getElem?_eq_some_iff.1 h
  rw [List.take_succ_eq_append_getElem hk, List.all_append, h1]
  simp [h2]
theorem allW_no {α : Type} {f : α → Bool} {ws : List α} {k : Nat} {x : α} (h : ws[k]? = some x) (h2 : f x = false) : ws.all f = false := by
  rw [List.all_eq_false]
  exact ⟨x, List.mem_of_getElem? h, by simp [h2]⟩
set_option maxHeartbeats 1000000 in
theorem iAreWords_any (A : Option Addr) (n c : Nat) (ws : List (List Int)) (T : Int) (w : World) (h : SlL w w.heap.size A n ws) (hn : n ≤ 4294967296) (hm : ∀ r ∈ ws, r.length ≤ 4294967296) :
    Calls Try.prog 47 #[.slice A n c, .int .i64 T] w fun e w' => e = .returned (.bool (ws.all (fun xs => wordB xs T))) ∧ w = w' := by
  have hl := Lib.hid h.len
  have H := Lib.hid h; clear h
  have HM := Lib.hid hm; clear hm
  go_enter Try.func47, Try.ntmps47
  go_wp2_with fail
  go_loopg [9] n (fun m i wr => ∃ k : Nat, k ≤ n ∧ n ≤ m + k ∧ i = .int .i64 k ∧ Hid ((ws.take k).all (fun xs => wordB xs T) = true) ∧ wr = w)
  case atStart => exact ⟨0, by omega, by omega, rfl, by show _ = _; simp, rfl⟩
  case round =>
    obtain ⟨k, hk, hm, rfl, ha, rfl⟩ := hrel
    by_cases hlt : k < n
    · obtain ⟨b, off, A', c', x, rfl, hbB, hx, hc, hxs, hxm⟩ := H.out.at_ hlt
      have hT := iIsWord_any A' x.length c' x T wr hxs.out (HM.out x (List.mem_of_getElem? hx.out))
      have l1 : (0 : Int) ≤ (k : Int) := by omega
      cases q : wordB x T with
      | true =>
        rw [q] at hT
        have HQ := Lib.hid q; clear q
        go_wp2_with (first | (go_at_call 15; refine hT.mono ?_; rintro e w2 ⟨rfl, hw⟩; obtain rfl := hw; clear hT))
        go_roundg (gk - 1)
        case measure => omega
        case rel => exact ⟨k + 1, by omega, by omega, by go_num, allW_take hx.out ha.out HQ.out, rfl⟩
      | false =>
        rw [q] at hT
        have HQ := Lib.hid q; clear q
        go_wp2_with (first | (go_at_call 15; refine hT.mono ?_; rintro e w2 ⟨rfl, hw⟩; obtain rfl := hw; clear hT))
        go_ret
        exact ⟨ret_bool (allW_no (f := fun xs => wordB xs T) hx.out HQ.out).symm, rfl⟩
    · obtain rfl : n = k := by omega
      go_wp2_with fail
      go_ret
      refine ⟨ret_bool ?_, rfl⟩
      have := ha.out
      rw [take_all hl.out] at this
      exact this.symm
end Go.Proofs.Ytegponioggpkcaa
