/- Several texts in one: Two texts, and costs: what the predicates return. Words: IsWord of both programs. Lists of lists of numbers: their copies, equality, size and marks, as the laws make them. areWords of the program. Lists of structs of four numbers (arcs): reading, copying, comparing. -/
import Derived.Test.YtbdfbmohdbigfaaMgb
import Derived.Deep.LoopGhost
import Derived.Test.YtbdfbmohdbigfaaMgc
import Derived.Deep.QuietTactic
import Derived.BigQuiet
import Derived.Deep.RegionHeld3
import Derived.Deep.RegionWith
import Derived.Test.YtbdfbmohdbigfaaMga

namespace Go.Proofs.Ytbdfbmohdbigfaa
open Go.RowKit
set_option linter.unusedVariables false

def allIn (xs : List Int) (lo hi : Int) : Bool := xs.all fun x => inB x lo hi
theorem allIn_take {xs : List Int} {lo hi x : Int} {k : Nat} (h : allIn (xs.take k) lo hi = true) (hx : xs[k]? = some x) (hi' : inB x lo hi = true) : allIn (xs.take (k + 1)) lo hi = true := by
  unfold allIn at *
  obtain ⟨hk, rfl⟩ := List.getElem?_eq_some_iff.1 hx
  rw [List.take_succ_eq_append_getElem hk, List.all_append, h]
  simpa using hi'
theorem allIn_no {xs : List Int} {lo hi x : Int} {k : Nat} (hx : xs[k]? = some x) (hi' : ¬ inB x lo hi = true) : false = allIn xs lo hi := by
  unfold allIn
  rw [eq_comm, List.all_eq_false]
  exact ⟨x, List.mem_of_getElem? hx, by simpa using hi'⟩
theorem allIn_full {xs : List Int} {lo hi : Int} {n : Nat} (h : allIn (xs.take n) lo hi = true) (hn : xs.length = n) : true = allIn xs lo hi := by
  rw [List.take_of_length_le (by omega)] at h; exact h.symm

set_option maxHeartbeats 400000 in
theorem iAllIn_any (A : Option Addr) (n c : Nat) (xs : List Int) (lo hi : Int) (B : Nat) (w : World) (h : SlI w B A n xs) (hn : n ≤ 4294967296) :
    Calls Try.prog 99 #[.slice A n c, .int .i64 lo, .int .i64 hi] w fun e w' => e = .returned (.bool (allIn xs lo hi)) ∧ w = w' := by
  have hl := Lib.hid h.len
  have H := Lib.hid h; clear h
  go_enter Try.func99, Try.ntmps99
  go_wp2
  go_loop [11] (fun i => ∃ k : Nat, k ≤ n ∧ i = .int .i64 k ∧ allIn (xs.take k) lo hi = true) (fun i => n - (intOf i).toNat)
  case atStart => exact ⟨0, by omega, rfl, rfl⟩
  case round =>
    obtain ⟨k, hk, rfl, ha⟩ := hrel
    have HA := Lib.hid ha; clear ha
    by_cases hlt : k < n
    · obtain ⟨b, off, x, rfl, hbB, hx, hc⟩ := H.out.at_ hlt
      by_cases hin : inB x lo hi = true
      · go_wp2_with (first | (go_at_call 54; refine (iIn_any _ _ _ _).mono ?_; rintro e w' ⟨rfl, rfl⟩))
        go_round
        case rel => exact ⟨k + 1, by omega, by go_num, allIn_take HA.out hx.out hin⟩
        case measure => simp [intOf]; omega
      · go_wp2_with (first | (go_at_call 54; refine (iIn_any _ _ _ _).mono ?_; rintro e w' ⟨rfl, rfl⟩))
        go_ret
        exact ⟨ret_bool (allIn_no hx.out hin), rfl⟩
    · obtain rfl : n = k := by omega
      go_wp2
      go_ret
      exact ⟨ret_bool (allIn_full HA.out hl.out), rfl⟩
end Go.Proofs.Ytbdfbmohdbigfaa


namespace Go.Proofs.Ytbdfbmohdbigfaa
open Go.RowKit
set_option linter.unusedVariables false
theorem allIn_take_no {xs : List Int} {lo hi x : Int} {k : Nat} (hx : xs[k]? = some x) (h : inB x lo hi = false) : allIn xs lo hi = false := by
  unfold allIn
  rw [List.all_eq_false]
  exact ⟨x, List.mem_of_getElem? hx, by rw [h]; simp⟩
def wordB (xs : List Int) (T : Int) : Bool := inB T 1 4 && (decide (xs.length ≤ 12) && allIn xs 0 (T - 1))
set_option maxHeartbeats 1000000 in
theorem iIsWord_any (A : Option Addr) (n c : Nat) (xs : List Int) (T : Int) (w : World) (h : SlI w w.heap.size A n xs) (hn : n ≤ 4294967296) :
    Calls Try.prog 44 #[.slice A n c, .int .i64 T] w fun e w' => e = .returned (.bool (wordB xs T)) ∧ w = w' := by
  have hl := h.len
  have hdef : wordB xs T = (inB T 1 4 && (decide (n ≤ 12) && allIn xs 0 (T - 1))) := by unfold wordB; rw [hl]
  have W1 := iIn_any T 1 4
  have HD := Lib.hid hdef; have H := Lib.hid h
  clear hdef h hl
  cases q1 : inB T 1 4 with
  | false =>
    rw [q1] at W1 HD
    clear q1
    go_enter Try.func44, Try.ntmps44
    go_wp2_with fail
    refine (W1 _).mono ?_; rintro e w' ⟨rfl, hw⟩; obtain rfl := hw; clear W1
    go_wp2_with fail
    go_ret
    exact ⟨ret_bool HD.out.symm, rfl⟩
  | true =>
    have hT := inB_true q1
    rw [q1] at W1 HD
    clear q1
    have w1 : IntKind.i64.wrap (T - 1) = T - 1 := IntWalk.i64_in _ (by omega)
    by_cases q2 : n ≤ 12
    · rw [decide_eq_true q2] at HD
      have hA := iAllIn_any A n c xs 0 (T - 1) w.heap.size w H.out hn
      have q3 : (n : Int) ≤ 12 := by omega
      clear q2
      go_enter Try.func44, Try.ntmps44
      go_wp2_with fail
      refine (W1 _).mono ?_; rintro e w' ⟨rfl, hw⟩; obtain rfl := hw; clear W1
      go_wp2_with fail
      refine hA.mono ?_; rintro e w' ⟨rfl, hw⟩; obtain rfl := hw; clear hA
      go_wp2_with fail
      go_ret
      exact ⟨ret_bool HD.out.symm, rfl⟩
    · rw [decide_eq_false q2] at HD
      have q3 : (12 : Int) < (n : Int) := by omega
      have q4 : decide ((n : Int) ≤ 12) = false := decide_eq_false (by omega)
      clear q2
      go_enter Try.func44, Try.ntmps44
      go_wp2_with fail
      refine (W1 _).mono ?_; rintro e w' ⟨rfl, hw⟩; obtain rfl := hw; clear W1
      go_wp2_with fail
      go_ret
      exact ⟨ret_bool HD.out.symm, rfl⟩
theorem wordB_len {xs : List Int} {T : Int} (h : wordB xs T = true) : xs.length ≤ 12 := by
  unfold wordB at h
  rw [Bool.and_eq_true, Bool.and_eq_true] at h
  exact of_decide_eq_true h.2.1
end Go.Proofs.Ytbdfbmohdbigfaa


namespace Go.Proofs.Ytbdfbmohdbigfaa
open Go.RowKit
set_option linter.unusedVariables false
/-- The slice value '.slice A n c' reads as the lists R; all lies in blocks below B. -/
def SlL (w : World) (B : Nat) (A : Option Addr) (n : Nat) (R : List (List Int)) : Prop :=
  ∃ hs : List Value, SlV w B A n hs ∧ hs.length = R.length ∧ ∀ (j : Nat) (r : List Int), R[j]? = some r → ∃ (A' : Option Addr) (c : Nat), hs[j]? = some (.slice A' r.length c) ∧ SlI w B A' r.length r ∧ r.length ≤ maxLen
section
variable {w w' : World} {B B' n : Nat} {A : Option Addr} {R : List (List Int)}
theorem SlL.len (h : SlL w B A n R) : R.length = n := by
  obtain ⟨hs, h1, h2, _⟩ := h
  have := h1.len; omega
theorem SlL.at_ {k : Nat} (h : SlL w B A n R) (hk : k < n) :
    ∃ b off A' c r, A = some ⟨b, off, none⟩ ∧ b < B ∧ Hid (R[k]? = some r) ∧ w.cell? ⟨b, off + k, none⟩ = some (.slice A' r.length c) ∧ Hid (SlI w B A' r.length r) ∧ r.length ≤ maxLen := by
  have hl := h.len
  obtain ⟨hs, h1, h2, h3⟩ := h
  obtain ⟨b, off, u, e, hb, hu, hc⟩ := h1.at_ hk
  obtain ⟨r, hr⟩ : ∃ r, R[k]? = some r := ⟨R[k], List.getElem?_eq_getElem (by omega)⟩
  obtain ⟨A', c, e1, e2, e3⟩ := h3 k r hr
  rw [hu] at e1
  cases e1
  exact ⟨b, off, A', c, r, e, hb, hr, hc, e2, e3⟩
theorem SlL.below (h : SlL w B A n R) (hb : Below B' w w') (hB : B ≤ B') : SlL w' B A n R := by
  obtain ⟨hs, h1, h2, h3⟩ := h
  refine ⟨hs, h1.below hb hB, h2, fun j r hr => ?_⟩
  obtain ⟨A', c, e1, e2, e3⟩ := h3 j r hr
  exact ⟨A', c, e1, e2.below hb hB, e3⟩
theorem SlL.more (h : SlL w B A n R) (hB : B ≤ B') : SlL w B' A n R := by
  obtain ⟨hs, h1, h2, h3⟩ := h
  refine ⟨hs, h1.more hB, h2, fun j r hr => ?_⟩
  obtain ⟨A', c, e1, e2, e3⟩ := h3 j r hr
  exact ⟨A', c, e1, e2.more hB, e3⟩
end
/-- A list of lists that the law copied: block g holds the headers, each row has a block behind it, in order. -/
def RowsN (w : World) (g hi : Nat) (R : List (List Int)) : Prop :=
  ∃ (hs : List Value) (G : Nat → Nat), Row w g 26 hs ∧ hs.length = R.length ∧ (∀ (j : Nat) (r : List Int), R[j]? = some r → hs[j]? = some (.slice (some ⟨G j, 0, none⟩) r.length r.length) ∧ g < G j ∧ G j < hi ∧ RowN w (G j) 2 r.length) ∧ ∀ i j, i < j → j < R.length → G i < G j
theorem RowsN.lt {w : World} {g hi : Nat} {R : List (List Int)} (h : RowsN w g hi R) : g < w.heap.size := by
  obtain ⟨hs, G, h1, _⟩ := h
  exact h1.lt
theorem RowsN.below {w w' : World} {g hi B : Nat} {R : List (List Int)} (h : RowsN w g hi R) (hb : Below B w w') (hB : w.heap.size ≤ B) : RowsN w' g hi R := by
  obtain ⟨hs, G, h1, h2, h3, h4⟩ := h
  refine ⟨hs, G, h1.below hb (by have := h1.lt; omega), h2, fun j r hr => ?_, h4⟩
  obtain ⟨e1, e2, e4, e3⟩ := h3 j r hr
  exact ⟨e1, e2, e4, e3.below hb (by have := e3.lt; omega)⟩
theorem RowsN.kp {w w' : World} {g hi' lo hi : Nat} {R : List (List Int)} (h : RowsN w g hi' R) (hk : Kp lo hi w w') (hg : hi ≤ g) : RowsN w' g hi' R := by
  obtain ⟨hs, G, h1, h2, h3, h4⟩ := h
  refine ⟨hs, G, (hk.2.2.2.2 g h1.lt (.inr hg)).trans h1, h2, fun j r hr => ?_, h4⟩
  obtain ⟨e1, e2, e4, e3⟩ := h3 j r hr
  exact ⟨e1, e2, e4, e3.kp hk (.inr (by omega))⟩
/-- While it is copied. -/
def CpL (g n : Nat) (R : List (List Int)) (k : Nat) (wr : World) : Prop :=
  ∃ (hs : List Value) (G : Nat → Nat), hs.length = k ∧ R.length = n ∧ Row wr g 26 (fill hs n (.slice none 0 0)) ∧ (∀ (j : Nat) (r : List Int), j < k → R[j]? = some r → hs[j]? = some (.slice (some ⟨G j, 0, none⟩) r.length r.length) ∧ g < G j ∧ Row wr (G j) 2 (iv r)) ∧ ∀ i j, i < j → j < k → G i < G j
theorem CpL.step {g n k g1 : Nat} {R : List (List Int)} {w w1 : World} {r : List Int} (h : CpL g n R k w) (hk : k < n) (hr : R[k]? = some r) (hb : Below w.heap.size w w1) (hg : w.heap.size ≤ g1) (hR : Row w1 g1 2 (iv r)) :
    CpL g n R (k + 1) (w1.setCell ⟨g, k, none⟩ (.slice (some ⟨g1, 0, none⟩) r.length r.length)) := by
  obtain ⟨hs, G, hl, hn, h1, h2, h3⟩ := h
  have hgl := h1.lt
  refine ⟨hs ++ [.slice (some ⟨g1, 0, none⟩) r.length r.length], fun j => if j = k then g1 else G j, by simp; omega, hn, ?_, fun j q hj hq => ?_, fun i j hij hj => ?_⟩
  · rw [← fill_set hl hk]
    exact (h1.below hb hgl).set_ _ _
  · dsimp only
    rcases Nat.lt_or_ge j k with hjk | hjk
    · obtain ⟨e1, e2, e3⟩ := h2 j q hjk hq
      rw [if_neg (by omega)]
      exact ⟨by rw [List.getElem?_append_left (by omega)]; exact e1, e2, (e3.below hb e3.lt).far (by show G j ≠ g; omega) _⟩
    · obtain rfl : j = k := by omega
      rw [hr] at hq
      cases hq
      rw [if_pos rfl]
      refine ⟨by rw [List.getElem?_append_right (by omega), hl]; simp, by omega, hR.far (by show g1 ≠ g; omega) _⟩
  · dsimp only
    rw [if_neg (show i ≠ k by omega)]
    split
    · have := (h2 i _ (by omega) (List.getElem?_eq_getElem (by omega))).2.2.lt
      omega
    · exact h3 i j hij (by omega)
theorem CpL.at_ {g n k : Nat} {R : List (List Int)} {w : World} (h : CpL g n R k w) (hk : k < n) : w.cell? ⟨g, k, none⟩ = some (.slice none 0 0) ∧ w.frozen? ⟨g, k, none⟩ = false ∧ g < w.heap.size := by
  obtain ⟨hs, G, hl, hn, h1, h2⟩ := h
  exact ⟨by rw [h1.cell, fill_at hl hk], h1.frozen k, h1.lt⟩
theorem CpL.below {g n k : Nat} {R : List (List Int)} {w w1 : World} (h : CpL g n R k w) (hb : Below w.heap.size w w1) : CpL g n R k w1 := by
  obtain ⟨hs, G, hl, hn, h1, h2, h3⟩ := h
  refine ⟨hs, G, hl, hn, h1.below hb h1.lt, fun j r hj hr => ?_, h3⟩
  obtain ⟨e1, e2, e3⟩ := h2 j r hj hr
  exact ⟨e1, e2, e3.below hb e3.lt⟩
theorem CpL.done {g n : Nat} {R : List (List Int)} {w : World} (h : CpL g n R n w) (hm : ∀ r ∈ R, r.length ≤ maxLen) : RowsN w g w.heap.size R ∧ SlL w w.heap.size (some ⟨g, 0, none⟩) n R := by
  obtain ⟨hs, G, hl, hn, h1, h2, h3⟩ := h
  rw [fill_full hl] at h1
  have hj : ∀ {j : Nat} {r : List Int}, R[j]? = some r → j < n := fun h => by have := (List.getElem?_eq_some_iff.1 h).1; omega
  refine ⟨⟨hs, G, h1, by omega, fun j r hr => ?_, fun i j hij hj => h3 i j hij (by omega)⟩, ⟨hs, by have := h1.sl; rw [hl] at this; exact this, by omega, fun j r hr => ?_⟩⟩
  · obtain ⟨e1, e2, e3⟩ := h2 j r (hj hr) hr
    exact ⟨e1, e2, e3.lt, iv r, iv_length r, e3⟩
  · obtain ⟨e1, e2, e3⟩ := h2 j r (hj hr) hr
    have := e3.sl
    rw [iv_length] at this
    exact ⟨_, _, e1, this, hm r (List.mem_of_getElem? hr)⟩
theorem infoHd : (Try.prog.info? 26).map (fun i => (i.zero, i.size, i.bytes)) = some (some (.slice none 0 0), 1, 24) := by kernel_rfl
/-- How many numbers there are. -/
def sumL (R : List (List Int)) : Nat := (R.map List.length).sum
theorem sumL_nil : sumL [] = 0 := rfl
theorem sumL_append (R S : List (List Int)) : sumL (R ++ S) = sumL R + sumL S := by simp [sumL]
theorem sumL_take {R : List (List Int)} {k : Nat} {r : List Int} (h : R[k]? = some r) : sumL (R.take (k + 1)) = sumL (R.take k) + r.length := by
  obtain ⟨hk, rfl⟩ := List.getElem?_eq_some_iff.1 h
  rw [List.take_succ_eq_append_getElem hk, sumL_append]; simp [sumL]
theorem sumL_mem {R : List (List Int)} {r : List Int} (h : r ∈ R) : r.length ≤ sumL R := by
  induction R with
  | nil => cases h
  | cons a R ih =>
    simp only [sumL, List.map_cons, List.sum_cons] at ih ⊢
    rcases List.mem_cons.1 h with rfl | h
    · omega
    · have := ih h; omega
end Go.Proofs.Ytbdfbmohdbigfaa


namespace Go.Proofs.Ytbdfbmohdbigfaa
open Go.RowKit
set_option linter.unusedVariables false
theorem allW_take {α : Type} {f : α → Bool} {ws : List α} {k : Nat} {x : α} (h : ws[k]? = some x) (h1 : (ws.take k).all f = true) (h2 : f x = true) : (ws.take (k + 1)).all f = true := by
  obtain ⟨hk, rfl⟩ := List.getElem?_eq_some_iff.1 h
  rw [List.take_succ_eq_append_getElem hk, List.all_append, h1]
  simp [h2]
theorem allW_no {α : Type} {f : α → Bool} {ws : List α} {k : Nat} {x : α} (h : ws[k]? = some x) (h2 : f x = false) : ws.all f = false := by
  rw [List.all_eq_false]
  exact ⟨x, List.mem_of_getElem? h, by simp [h2]⟩
set_option maxHeartbeats 1000000 in
theorem iAreWords_any (A : Option Addr) (n c : Nat) (ws : List (List Int)) (T : Int) (w : World) (h : SlL w w.heap.size A n ws) (hn : n ≤ 4294967296) (hm : ∀ r ∈ ws, r.length ≤ 4294967296) :
    Calls Try.prog 94 #[.slice A n c, .int .i64 T] w fun e w' => e = .returned (.bool (ws.all (fun xs => wordB xs T))) ∧ w = w' := by
  have hl := Lib.hid h.len
  have H := Lib.hid h; clear h
  have HM := Lib.hid hm; clear hm
  go_enter Try.func94, Try.ntmps94
  go_wp2_with fail
  go_loopg [9] n (fun m i wr => ∃ k : Nat, k ≤ n ∧ n ≤ m + k ∧ i = .int .i64 k ∧ Hid ((ws.take k).all (fun xs => wordB xs T) = true) ∧ wr = w)
  case atStart => exact ⟨0, by omega, by omega, rfl, by show _ = _; simp, rfl⟩
  case round =>
    obtain ⟨k, hk, hm, rfl, ha, rfl⟩ := hrel
    by_cases hlt : k < n
    · obtain ⟨b, off, A', c', x, rfl, hbB, hx, hc, hxs, hxm⟩ := H.out.at_ hlt
      have hT := iIsWord_any A' x.length c' x T wr hxs.out (HM.out x (List.mem_of_getElem? hx.out))
      have l1 : (0 : Int) ≤ (k : Int) := by omega
      cases q : wordB x T with
      | true =>
        rw [q] at hT
        have HQ := Lib.hid q; clear q
        go_wp2_with (first | (go_at_call 44; refine hT.mono ?_; rintro e w2 ⟨rfl, hw⟩; obtain rfl := hw; clear hT))
        go_roundg (gk - 1)
        case measure => omega
        case rel => exact ⟨k + 1, by omega, by omega, by go_num, allW_take hx.out ha.out HQ.out, rfl⟩
      | false =>
        rw [q] at hT
        have HQ := Lib.hid q; clear q
        go_wp2_with (first | (go_at_call 44; refine hT.mono ?_; rintro e w2 ⟨rfl, hw⟩; obtain rfl := hw; clear hT))
        go_ret
        exact ⟨ret_bool (allW_no (f := fun xs => wordB xs T) hx.out HQ.out).symm, rfl⟩
    · obtain rfl : n = k := by omega
      go_wp2_with fail
      go_ret
      refine ⟨ret_bool ?_, rfl⟩
      have := ha.out
      rw [take_all hl.out] at this
      exact this.symm
end Go.Proofs.Ytbdfbmohdbigfaa


namespace Go.Proofs.Ytbdfbmohdbigfaa
open Go.RowKit
set_option linter.unusedVariables false
abbrev A4 := Int × Int × Int × Int
/-- The cells of a list of arcs. -/
def fa : List A4 → List Value
  | [] => []
  | a :: l => .int .i64 a.1 :: .int .i64 a.2.1 :: .int .i64 a.2.2.1 :: .int .i64 a.2.2.2 :: fa l
theorem fa_length (l : List A4) : (fa l).length = 4 * l.length := by
  induction l with
  | nil => rfl
  | cons a l ih => simp [fa, ih]; omega
theorem fa_append (l m : List A4) : fa (l ++ m) = fa l ++ fa m := by
  induction l with
  | nil => rfl
  | cons a l ih => simp [fa, ih]
theorem fa_get {l : List A4} {j : Nat} {a : A4} (h : l[j]? = some a) :
    (fa l)[j * 4]? = some (.int .i64 a.1) ∧ (fa l)[j * 4 + 1]? = some (.int .i64 a.2.1) ∧ (fa l)[j * 4 + 2]? = some (.int .i64 a.2.2.1) ∧ (fa l)[j * 4 + 3]? = some (.int .i64 a.2.2.2) := by
  induction l generalizing j with
  | nil => simp at h
  | cons b l ih =>
    cases j with
    | zero => simp at h; subst h; simp [fa]
    | succ j =>
      simp at h
      have := ih h
      rw [show (j + 1) * 4 = j * 4 + 1 + 1 + 1 + 1 from by omega]
      simpa [fa] using this
/-- The slice value '.slice A n c' reads, in w, as the arcs L; its cells lie in a block below B. -/
def SlA (w : World) (B : Nat) (A : Option Addr) (n : Nat) (L : List A4) : Prop :=
  L.length = n ∧ (0 < n → ∃ b off, A = some ⟨b, off, none⟩ ∧ b < B ∧ ∀ j a, L[j]? = some a → w.cell? ⟨b, off + j * 4, none⟩ = some (.int .i64 a.1) ∧ w.cell? ⟨b, off + j * 4 + 1, none⟩ = some (.int .i64 a.2.1) ∧ w.cell? ⟨b, off + j * 4 + 2, none⟩ = some (.int .i64 a.2.2.1) ∧ w.cell? ⟨b, off + j * 4 + 3, none⟩ = some (.int .i64 a.2.2.2))
section
variable {w w' : World} {B B' n : Nat} {A : Option Addr} {L : List A4}
theorem SlA.len (h : SlA w B A n L) : L.length = n := h.1
theorem SlA.nil (w : World) (B : Nat) (A : Option Addr) : SlA w B A 0 [] := ⟨rfl, fun h => absurd h (by omega)⟩
theorem SlA.keep (h : SlA w B A n L) (hk : ∀ b o, b < B → w'.cell? ⟨b, o, none⟩ = w.cell? ⟨b, o, none⟩) : SlA w' B A n L :=
  ⟨h.1, fun hn => by
    obtain ⟨b, off, e, hb, hc⟩ := h.2 hn
    refine ⟨b, off, e, hb, fun j a ha => ?_⟩
    rw [hk _ _ hb, hk _ _ hb, hk _ _ hb, hk _ _ hb]
    exact hc j a ha⟩
theorem SlA.more (h : SlA w B A n L) (hB : B ≤ B') : SlA w B' A n L :=
  ⟨h.1, fun hn => by
    obtain ⟨b, off, e, hb, hc⟩ := h.2 hn
    exact ⟨b, off, e, by omega, hc⟩⟩
theorem SlA.below (h : SlA w B A n L) (hb : Below B' w w') (hB : B ≤ B') : SlA w' B A n L :=
  h.keep fun b o hlt => hb.cell (p := ⟨b, o, none⟩) (show b < B' by omega)
theorem SlA.at_ {k : Nat} (h : SlA w B A n L) (hk : k < n) :
    ∃ b off a0 a1 a2 a3, A = some ⟨b, off, none⟩ ∧ b < B ∧ Hid (L[k]? = some (a0, a1, a2, a3)) ∧ w.cell? ⟨b, off + k * 4, none⟩ = some (.int .i64 a0) ∧ w.cell? ⟨b, off + k * 4 + 1, none⟩ = some (.int .i64 a1) ∧ w.cell? ⟨b, off + k * 4 + 2, none⟩ = some (.int .i64 a2) ∧ w.cell? ⟨b, off + k * 4 + 3, none⟩ = some (.int .i64 a3) := by
  obtain ⟨hl, h2⟩ := h
  obtain ⟨b, off, e, hb, hc⟩ := h2 (by omega)
  obtain ⟨a, ha⟩ : ∃ a, L[k]? = some a := ⟨L[k], List.getElem?_eq_getElem (by omega)⟩
  obtain ⟨c0, c1, c2, c3⟩ := hc k a ha
  exact ⟨b, off, a.1, a.2.1, a.2.2.1, a.2.2.2, e, hb, ha, c0, c1, c2, c3⟩
end
theorem Row.slA {w : World} {g : Nat} {t : TypeId} {L : List A4} (h : Row w g t (fa L)) : SlA w w.heap.size (some ⟨g, 0, none⟩) L.length L :=
  ⟨rfl, fun _ => ⟨g, 0, rfl, h.lt, fun j a ha => by
    obtain ⟨c0, c1, c2, c3⟩ := fa_get ha
    rw [Nat.zero_add, h.cell, h.cell, h.cell, h.cell]
    exact ⟨c0, c1, c2, c3⟩⟩⟩
theorem Row.newAt (w : World) (t : TypeId) (vs : List Value) {g : Nat} (hg : w.heap.size = g) : Row (w.alloc (.cells vs.toArray t)) g t vs := by subst hg; exact Row.new w t vs
def zA : A4 := (0, 0, 0, 0)
theorem fa_zero (n : Nat) : fa (List.replicate n zA) = List.replicate (n * 4) (.int .i64 0) := by
  induction n with
  | zero => rfl
  | succ n ih => rw [List.replicate_succ, show (n + 1) * 4 = n * 4 + 1 + 1 + 1 + 1 from by omega, List.replicate_succ, List.replicate_succ, List.replicate_succ, List.replicate_succ, ← ih]; rfl
theorem made4 (n : Nat) : madeCells (Value.agg #[.int .i64 0, .int .i64 0, .int .i64 0, .int .i64 0]).cells (n * 4) = (fa (List.replicate n zA)).toArray := by
  rw [fa_zero]
  apply Array.ext
  · simp [size_madeCells]
  · intro i h1 h2
    have h3 : i % 4 < 4 := Nat.mod_lt _ (by omega)
    have h4 : i % 4 = 0 ∨ i % 4 = 1 ∨ i % 4 = 2 ∨ i % 4 = 3 := by omega
    rcases h4 with h4 | h4 | h4 | h4 <;> simp [madeCells, Value.cells, h4]
theorem run_make4 {P : Program} (t e : TypeId) (ht : P.underlying t = some (.slice e)) (hinfo : (P.info? e).map (fun i => (i.zero, i.size, i.bytes)) = some (some (.agg #[.int .i64 0, .int .i64 0, .int .i64 0, .int .i64 0]), 4, 32))
    (n : Nat) (hn : n ≤ 4294967296) (w : World) :
    (Instr.makeSlice t (.int .i64 (n : Int)) (.int .i64 (n : Int))).run P w = .ok (.slice (some ⟨w.heap.size, 0, none⟩) n n) (w.alloc (.cells (fa (List.replicate n zA)).toArray e)) := by
  obtain ⟨i, hi, hzz⟩ := Option.map_eq_some_iff.1 hinfo
  simp only [Prod.mk.injEq] at hzz
  obtain ⟨hz, hs, hb⟩ := hzz
  have hr := run_make (P := P) w t e i _ ht hi hz .i64 .i64 n n (by omega) (Int.le_refl _) (by rw [hb]; omega) (by omega)
  simp only [Int.toNat_natCast, hs, made4] at hr
  exact hr
theorem fa_set {l : List A4} {j : Nat} (h : j < l.length) (a b c d : Int) :
    ((((fa l).set (j * 4) (.int .i64 a)).set (j * 4 + 1) (.int .i64 b)).set (j * 4 + 2) (.int .i64 c)).set (j * 4 + 3) (.int .i64 d) = fa (l.set j (a, b, c, d)) := by
  induction l generalizing j with
  | nil => simp at h
  | cons x l ih =>
    cases j with
    | zero => simp [fa]
    | succ j =>
      simp at h
      rw [show (j + 1) * 4 = j * 4 + 1 + 1 + 1 + 1 from by omega, show j * 4 + 1 + 1 + 1 + 1 + 1 = (j * 4 + 1) + 1 + 1 + 1 + 1 from by omega]
      simpa [fa] using ih h
/-- The first k of L, then zero arcs up to n. -/
def fillA (L : List A4) (k n : Nat) : List A4 := L.take k ++ List.replicate (n - k) zA
theorem fillA_zero (L : List A4) (n : Nat) : fillA L 0 n = List.replicate n zA := by simp [fillA]
theorem fillA_all {L : List A4} {n : Nat} (h : L.length = n) : fillA L n n = L := by simp [fillA, List.take_of_length_le (Nat.le_of_eq h)]
theorem fillA_length {L : List A4} {k n : Nat} (h : L.length = n) (hk : k ≤ n) : (fillA L k n).length = n := by simp [fillA]; omega
theorem fillA_get {L : List A4} {k n : Nat} (h : L.length = n) (hk : k < n) : (fillA L k n)[k]? = some zA := by
  unfold fillA
  rw [List.getElem?_append_right (by simp; omega), List.getElem?_replicate, List.length_take]
  simp; omega
theorem fillA_set {L : List A4} {k n : Nat} {a : A4} (h : L.length = n) (hk : k < n) (ha : L[k]? = some a) : (fillA L k n).set k a = fillA L (k + 1) n := by
  unfold fillA
  obtain ⟨hk', rfl⟩ := List.getElem?_eq_some_iff.1 ha
  have hl : (L.take k).length = k := by simp; omega
  rw [List.set_append_right _ _ (by omega), hl, Nat.sub_self, List.take_succ_eq_append_getElem hk', List.append_assoc]
  obtain ⟨m, hm⟩ : ∃ m, n - k = m + 1 := ⟨n - k - 1, by omega⟩
  rw [hm, List.replicate_succ, List.set_cons_zero, show n - (k + 1) = m from by omega]
  rfl
end Go.Proofs.Ytbdfbmohdbigfaa
