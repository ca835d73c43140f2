/- Several texts in one: Lists of lists of numbers: their copies, equality, size and marks, as the laws make them. areWords of the program. LeastFit of the program: to, stateOf, nextTable. The queue of pairs and words in memory (firstApart): a list of places, each with a word of its own, a map beside it, and a block of the round's own. -/
import Derived.Test.YtbdfbmohdbigfaaMgb
import Derived.Test.YtbdfbmohdbigfaaMgd
import Derived.Deep.QuietTactic
import Derived.BigQuiet
import Derived.Deep.LoopGhost
import Derived.Deep.RegionHeld3
import Derived.Deep.RegionWith
import Derived.Test.YtbdfbmohdbigfaaMgj
import Derived.Test.YtbdfbmohdbigfaaMgs
import Derived.Test.YtbdfbmohdbigfaaMgh
import Derived.Deep.CutRange
import Derived.Test.YtbdfbmohdbigfaaMgr

namespace Go.Proofs.Ytbdfbmohdbigfaa
open Go.RowKit
set_option linter.unusedVariables false
/-- The slice value '.slice A n c' reads as the lists R; all lies in blocks below B. -/
def SlL (w : World) (B : Nat) (A : Option Addr) (n : Nat) (R : List (List Int)) : Prop :=
  ∃ hs : List Value, SlV w B A n hs ∧ hs.length = R.length ∧ ∀ (j : Nat) (r : List Int), R[j]? = some r → ∃ (A' : Option Addr) (c : Nat), hs[j]? = some (.slice A' r.length c) ∧ SlI w B A' r.length r ∧ r.length ≤ maxLen
section
variable {w w' : World} {B B' n : Nat} {A : Option Addr} {R : List (List Int)}
theorem SlL.len (h : SlL w B A n R) : R.length = n := by
  obtain ⟨hs, h1, h2, _⟩ := h
  have := h1.len; omega
theorem SlL.at_ {k : Nat} (h : SlL w B A n R) (hk : k < n) :
    ∃ b off A' c r, A = some ⟨b, off, none⟩ ∧ b < B ∧ Hid (R[k]? = some r) ∧ w.cell? ⟨b, off + k, none⟩ = some (.slice A' r.length c) ∧ Hid (SlI w B A' r.length r) ∧ r.length ≤ maxLen := by
  have hl := h.len
  obtain ⟨hs, h1, h2, h3⟩ := h
  obtain ⟨b, off, u, e, hb, hu, hc⟩ := h1.at_ hk
  obtain ⟨r, hr⟩ : ∃ r, R[k]? = some r := ⟨R[k], List.getElem?_eq_getElem (by omega)⟩
  obtain ⟨A', c, e1, e2, e3⟩ := h3 k r hr
  rw [hu] at e1
  cases e1
  exact ⟨b, off, A', c, r, e, hb, hr, hc, e2, e3⟩
theorem SlL.below (h : SlL w B A n R) (hb : Below B' w w') (hB : B ≤ B') : SlL w' B A n R := by
  obtain ⟨hs, h1, h2, h3⟩ := h
  refine ⟨hs, h1.below hb hB, h2, fun j r hr => ?_⟩
  obtain ⟨A', c, e1, e2, e3⟩ := h3 j r hr
  exact ⟨A', c, e1, e2.below hb hB, e3⟩
theorem SlL.more (h : SlL w B A n R) (hB : B ≤ B') : SlL w B' A n R := by
  obtain ⟨hs, h1, h2, h3⟩ := h
  refine ⟨hs, h1.more hB, h2, fun j r hr => ?_⟩
  obtain ⟨A', c, e1, e2, e3⟩ := h3 j r hr
  exact ⟨A', c, e1, e2.more hB, e3⟩
end
/-- A list of lists that the law copied: block g holds the headers, each row has a block behind it, in order. -/
def RowsN (w : World) (g hi : Nat) (R : List (List Int)) : Prop :=
  ∃ (hs : List Value) (G : Nat → Nat), Row w g 26 hs ∧ hs.length = R.length ∧ (∀ (j : Nat) (r : List Int), R[j]? = some r → hs[j]? = some (.slice (some ⟨G j, 0, none⟩) r.length r.length) ∧ g < G j ∧ G j < hi ∧ RowN w (G j) 2 r.length) ∧ ∀ i j, i < j → j < R.length → G i < G j
theorem RowsN.lt {w : World} {g hi : Nat} {R : List (List Int)} (h : RowsN w g hi R) : g < w.heap.size := by
  obtain ⟨hs, G, h1, _⟩ := h
  exact h1.lt
theorem RowsN.below {w w' : World} {g hi B : Nat} {R : List (List Int)} (h : RowsN w g hi R) (hb : Below B w w') (hB : w.heap.size ≤ B) : RowsN w' g hi R := by
  obtain ⟨hs, G, h1, h2, h3, h4⟩ := h
  refine ⟨hs, G, h1.below hb (by have := h1.lt; omega), h2, fun j r hr => ?_, h4⟩
  obtain ⟨e1, e2, e4, e3⟩ := h3 j r hr
  exact ⟨e1, e2, e4, e3.below hb (by have := e3.lt; omega)⟩
theorem RowsN.kp {w w' : World} {g hi' lo hi : Nat} {R : List (List Int)} (h : RowsN w g hi' R) (hk : Kp lo hi w w') (hg : hi ≤ g) : RowsN w' g hi' R := by
  obtain ⟨hs, G, h1, h2, h3, h4⟩ := h
  refine ⟨hs, G, (hk.2.2.2.2 g h1.lt (.inr hg)).trans h1, h2, fun j r hr => ?_, h4⟩
  obtain ⟨e1, e2, e4, e3⟩ := h3 j r hr
  exact ⟨e1, e2, e4, e3.kp hk (.inr (by omega))⟩
/-- While it is copied. -/
def CpL (g n : Nat) (R : List (List Int)) (k : Nat) (wr : World) : Prop :=
  ∃ (hs : List Value) (G : Nat → Nat), hs.length = k ∧ R.length = n ∧ Row wr g 26 (fill hs n (.slice none 0 0)) ∧ (∀ (j : Nat) (r : List Int), j < k → R[j]? = some r → hs[j]? = some (.slice (some ⟨G j, 0, none⟩) r.length r.length) ∧ g < G j ∧ Row wr (G j) 2 (iv r)) ∧ ∀ i j, i < j → j < k → G i < G j
theorem CpL.step {g n k g1 : Nat} {R : List (List Int)} {w w1 : World} {r : List Int} (h : CpL g n R k w) (hk : k < n) (hr : R[k]? = some r) (hb : Below w.heap.size w w1) (hg : w.heap.size ≤ g1) (hR : Row w1 g1 2 (iv r)) :
    CpL g n R (k + 1) (w1.setCell ⟨g, k, none⟩ (.slice (some ⟨g1, 0, none⟩) r.length r.length)) := by
  obtain ⟨hs, G, hl, hn, h1, h2, h3⟩ := h
  have hgl := h1.lt
  refine ⟨hs ++ [.slice (some ⟨g1, 0, none⟩) r.length r.length], fun j => if j = k then g1 else G j, by simp; omega, hn, ?_, fun j q hj hq => ?_, fun i j hij hj => ?_⟩
  · rw [← fill_set hl hk]
    exact (h1.below hb hgl).set_ _ _
  · dsimp only
    rcases Nat.lt_or_ge j k with hjk | hjk
    · obtain ⟨e1, e2, e3⟩ := h2 j q hjk hq
      rw [if_neg (by omega)]
      exact ⟨by rw [List.getElem?_append_left (by omega)]; exact e1, e2, (e3.below hb e3.lt).far (by show G j ≠ g; omega) _⟩
    · obtain rfl : j = k := by omega
      rw [hr] at hq
      cases hq
      rw [if_pos rfl]
      refine ⟨by rw [List.getElem?_append_right (by omega), hl]; simp, by omega, hR.far (by show g1 ≠ g; omega) _⟩
  · dsimp only
    rw [if_neg (show i ≠ k by omega)]
    split
    · have := (h2 i _ (by omega) (List.getElem?_eq_getElem (by omega))).2.2.lt
      omega
    · exact h3 i j hij (by omega)
theorem CpL.at_ {g n k : Nat} {R : List (List Int)} {w : World} (h : CpL g n R k w) (hk : k < n) : w.cell? ⟨g, k, none⟩ = some (.slice none 0 0) ∧ w.frozen? ⟨g, k, none⟩ = false ∧ g < w.heap.size := by
  obtain ⟨hs, G, hl, hn, h1, h2⟩ := h
  exact ⟨by rw [h1.cell, fill_at hl hk], h1.frozen k, h1.lt⟩
theorem CpL.below {g n k : Nat} {R : List (List Int)} {w w1 : World} (h : CpL g n R k w) (hb : Below w.heap.size w w1) : CpL g n R k w1 := by
  obtain ⟨hs, G, hl, hn, h1, h2, h3⟩ := h
  refine ⟨hs, G, hl, hn, h1.below hb h1.lt, fun j r hj hr => ?_, h3⟩
  obtain ⟨e1, e2, e3⟩ := h2 j r hj hr
  exact ⟨e1, e2, e3.below hb e3.lt⟩
theorem CpL.done {g n : Nat} {R : List (List Int)} {w : World} (h : CpL g n R n w) (hm : ∀ r ∈ R, r.length ≤ maxLen) : RowsN w g w.heap.size R ∧ SlL w w.heap.size (some ⟨g, 0, none⟩) n R := by
  obtain ⟨hs, G, hl, hn, h1, h2, h3⟩ := h
  rw [fill_full hl] at h1
  have hj : ∀ {j : Nat} {r : List Int}, R[j]? = some r → j < n := fun h => by have := (List.getElem?_eq_some_iff.1 h).1; omega
  refine ⟨⟨hs, G, h1, by omega, fun j r hr => ?_, fun i j hij hj => h3 i j hij (by omega)⟩, ⟨hs, by have := h1.sl; rw [hl] at this; exact this, by omega, fun j r hr => ?_⟩⟩
  · obtain ⟨e1, e2, e3⟩ := h2 j r (hj hr) hr
    exact ⟨e1, e2, e3.lt, iv r, iv_length r, e3⟩
  · obtain ⟨e1, e2, e3⟩ := h2 j r (hj hr) hr
    have := e3.sl
    rw [iv_length] at this
    exact ⟨_, _, e1, this, hm r (List.mem_of_getElem? hr)⟩
theorem infoHd : (Try.prog.info? 26).map (fun i => (i.zero, i.size, i.bytes)) = some (some (.slice none 0 0), 1, 24) := by kernel_rfl
/-- How many numbers there are. -/
def sumL (R : List (List Int)) : Nat := (R.map List.length).sum
theorem sumL_nil : sumL [] = 0 := rfl
theorem sumL_append (R S : List (List Int)) : sumL (R ++ S) = sumL R + sumL S := by simp [sumL]
theorem sumL_take {R : List (List Int)} {k : Nat} {r : List Int} (h : R[k]? = some r) : sumL (R.take (k + 1)) = sumL (R.take k) + r.length := by
  obtain ⟨hk, rfl⟩ := List.getElem?_eq_some_iff.1 h
  rw [List.take_succ_eq_append_getElem hk, sumL_append]; simp [sumL]
theorem sumL_mem {R : List (List Int)} {r : List Int} (h : r ∈ R) : r.length ≤ sumL R := by
  induction R with
  | nil => cases h
  | cons a R ih =>
    simp only [sumL, List.map_cons, List.sum_cons] at ih ⊢
    rcases List.mem_cons.1 h with rfl | h
    · omega
    · have := ih h; omega
end Go.Proofs.Ytbdfbmohdbigfaa


namespace Go.Proofs.Ytbdfbmohdbigfaa
open Go.RowKit
set_option linter.unusedVariables false
theorem allW_take {α : Type} {f : α → Bool} {ws : List α} {k : Nat} {x : α} (h : ws[k]? = some x) (h1 : (ws.take k).all f = true) (h2 : f x = true) : (ws.take (k + 1)).all f = true := by
  obtain ⟨hk, rfl⟩ := List.getElem?_eq_some_iff.1 h
  rw [List.take_succ_eq_append_getElem hk, List.all_append, h1]
  simp [h2]
theorem allW_no {α : Type} {f : α → Bool} {ws : List α} {k : Nat} {x : α} (h : ws[k]? = some x) (h2 : f x = false) : ws.all f = false := by
  rw [List.all_eq_false]
  exact ⟨x, List.mem_of_getElem? h, by simp [h2]⟩
set_option maxHeartbeats 1000000 in
theorem iAreWords_any (A : Option Addr) (n c : Nat) (ws : List (List Int)) (T : Int) (w : World) (h : SlL w w.heap.size A n ws) (hn : n ≤ 4294967296) (hm : ∀ r ∈ ws, r.length ≤ 4294967296) :
    Calls Try.prog 94 #[.slice A n c, .int .i64 T] w fun e w' => e = .returned (.bool (ws.all (fun xs => wordB xs T))) ∧ w = w' := by
  have hl := Lib.hid h.len
  have H := Lib.hid h; clear h
  have HM := Lib.hid hm; clear hm
  go_enter Try.func94, Try.ntmps94
  go_wp2_with fail
  go_loopg [9] n (fun m i wr => ∃ k : Nat, k ≤ n ∧ n ≤ m + k ∧ i = .int .i64 k ∧ Hid ((ws.take k).all (fun xs => wordB xs T) = true) ∧ wr = w)
  case atStart => exact ⟨0, by omega, by omega, rfl, by show _ = _; simp, rfl⟩
  case round =>
    obtain ⟨k, hk, hm, rfl, ha, rfl⟩ := hrel
    by_cases hlt : k < n
    · obtain ⟨b, off, A', c', x, rfl, hbB, hx, hc, hxs, hxm⟩ := H.out.at_ hlt
      have hT := iIsWord_any A' x.length c' x T wr hxs.out (HM.out x (List.mem_of_getElem? hx.out))
      have l1 : (0 : Int) ≤ (k : Int) := by omega
      cases q : wordB x T with
      | true =>
        rw [q] at hT
        have HQ := Lib.hid q; clear q
        go_wp2_with (first | (go_at_call 44; refine hT.mono ?_; rintro e w2 ⟨rfl, hw⟩; obtain rfl := hw; clear hT))
        go_roundg (gk - 1)
        case measure => omega
        case rel => exact ⟨k + 1, by omega, by omega, by go_num, allW_take hx.out ha.out HQ.out, rfl⟩
      | false =>
        rw [q] at hT
        have HQ := Lib.hid q; clear q
        go_wp2_with (first | (go_at_call 44; refine hT.mono ?_; rintro e w2 ⟨rfl, hw⟩; obtain rfl := hw; clear hT))
        go_ret
        exact ⟨ret_bool (allW_no (f := fun xs => wordB xs T) hx.out HQ.out).symm, rfl⟩
    · obtain rfl : n = k := by omega
      go_wp2_with fail
      go_ret
      refine ⟨ret_bool ?_, rfl⟩
      have := ha.out
      rw [take_all hl.out] at this
      exact this.symm
end Go.Proofs.Ytbdfbmohdbigfaa


namespace Go.Proofs.Ytbdfbmohdbigfaa
open Go.RowKit
set_option linter.unusedVariables false
theorem But.allocL {g : Nat} {w w' : World} (h : But g w w') (o : Obj) : But g w (w'.alloc o) := h.trans (But.of_below ((Below.refl w'.heap.size w').alloc (Nat.le_refl _) o) (Nat.le_refl _))
/-- The cells of a plain machine's box. -/
abbrev BxP (S T : Int) (A2 : Option Addr) (n2 c2 : Nat) (A3 : Option Addr) (n3 c3 : Nat) : List Value := [.int .i64 S, .int .i64 T, .slice A2 n2 c2, .slice A3 n3 c3]
abbrev agP (S T : Int) (A2 : Option Addr) (n2 c2 : Nat) (A3 : Option Addr) (n3 c3 : Nat) : Value := .agg #[.int .i64 S, .int .i64 T, .slice A2 n2 c2, .slice A3 n3 c3]
set_option maxHeartbeats 1000000 in
theorem iTo_any (S T : Int) (A2 : Option Addr) (n2 c2 : Nat) (A3 : Option Addr) (n3 c3 : Nat) (t : List Int) (s x : Int) (i : Nat) (w : World) (h : SlI w w.heap.size A2 n2 t) (hi : s * T + x = (i : Int)) (hn : i < n2) (hn2 : n2 ≤ 1000) (hs : 0 ≤ s ∧ s ≤ 1000) (hT : 0 ≤ T ∧ T ≤ 1000) (hx : 0 ≤ x ∧ x ≤ 1000) :
    Calls Try.prog 51 #[.agg #[.int .i64 S, .int .i64 T, .slice A2 n2 c2, .slice A3 n3 c3], .int .i64 s, .int .i64 x] w fun e w' => e = .returned (.int .i64 (t.getD (s * T + x).toNat 0)) ∧ Below w.heap.size w w' := by
  have rb := Row.new w 33 (BxP S T A2 n2 c2 A3 n3 c3)
  have bx : Below w.heap.size w (w.alloc (.cells (BxP S T A2 n2 c2 A3 n3 c3).toArray 33)) := (Below.refl _ _).alloc (Nat.le_refl _) _
  obtain ⟨b, off, v, rfl, hb, hv, hc⟩ := (h.below bx (Nat.le_refl _)).at_ hn
  have r1 := rb.cell 1; have r2 := rb.cell 2
  have hm : 0 ≤ s * T ∧ s * T ≤ 1000000 := ⟨Int.mul_nonneg hs.1 hT.1, by
    have := Int.mul_le_mul hs.2 hT.2 hT.1 (by omega : (0 : Int) ≤ 1000)
    omega⟩
  have HV : Hid (t.getD (s * T + x).toNat 0 = v) := by show _ = _; rw [hi, Int.toNat_natCast, List.getD_eq_getElem?_getD, hv.out]; rfl
  obtain ⟨p, hp⟩ : ∃ p, p = s * T := ⟨_, rfl⟩
  rw [← hp] at hi hm
  have w1 : IntKind.i64.wrap (s * T) = p := by rw [← hp]; exact IntWalk.i64_in _ (by omega)
  have w2 : IntKind.i64.wrap (p + x) = (i : Int) := by rw [hi]; exact IntWalk.i64_in _ (by omega)
  have l1 : (0 : Int) ≤ (i : Int) := by omega
  have l2 : (i : Int) < (n2 : Int) := by omega
  have HB := Lib.hid bx
  clear hp hi h rb bx hv
  go_enter Try.func51, Try.ntmps51
  go_wp2
  go_ret
  exact ⟨ret_int HV.out.symm, HB.out⟩
theorem word_at {xs : List Int} {T : Int} {k : Nat} {x : Int} (h : allIn xs 0 (T - 1) = true) (hx : xs[k]? = some x) : 0 ≤ x ∧ x < T := by
  unfold allIn at h
  rw [List.all_eq_true] at h
  have := inB_true (h x (List.mem_of_getElem? hx))
  omega
set_option maxHeartbeats 2000000 in
theorem iState_any (S : Nat) (T : Int) (A2 : Option Addr) (n2 c2 : Nat) (A3 : Option Addr) (n3 c3 : Nat) (t : List Int) (A : Option Addr) (n c : Nat) (xs : List Int) (w : World) (h : SlI w w.heap.size A2 n2 t) (hx : SlI w w.heap.size A n xs) (hS : 0 < S ∧ S ≤ 3) (hT : 1 ≤ T ∧ T ≤ 2) (hn2 : (n2 : Int) = (S : Int) * T) (ht : ∀ x ∈ t, 0 ≤ x ∧ x < (S : Int)) (hw : allIn xs 0 (T - 1) = true) (hn : n ≤ 1000) :
    Calls Try.prog 117 #[.agg #[.int .i64 (S : Int), .int .i64 T, .slice A2 n2 c2, .slice A3 n3 c3], .slice A n c] w fun e w' => e = .returned (.int .i64 (rnW t T xs)) ∧ Below w.heap.size w w' := by
  have rb := Row.new w 33 (BxP (S : Int) T A2 n2 c2 A3 n3 c3)
  have bx : Below w.heap.size w (w.alloc (.cells (BxP (S : Int) T A2 n2 c2 A3 n3 c3).toArray 33)) := (Below.refl _ _).alloc (Nat.le_refl _) _
  have hl := hx.len
  have H := Lib.hid h; have HX := Lib.hid hx; have RB := Lib.hid rb; have BX := Lib.hid bx; have HW := Lib.hid hw; have HL := Lib.hid hl
  have HR := Lib.hid (fun k => rnW_bd (T := T) hS.1 ht (xs.take k))
  have HN2 := Lib.hid hn2
  clear h hx rb bx hw hl ht hn2
  go_enter Try.func117, Try.ntmps117
  go_wp2_with fail
  go_loopg [5, 10] n (fun m s i wr => ∃ k : Nat, i = .int .i64 k ∧ k ≤ n ∧ n ≤ m + k ∧ s = .int .i64 (rnW t T (xs.take k)) ∧ Hid (Row wr w.heap.size 33 (BxP (S : Int) T A2 n2 c2 A3 n3 c3)) ∧ Hid (Below w.heap.size w wr))
  case atStart => exact ⟨0, rfl, by omega, by omega, rfl, RB.out, BX.out⟩
  case round =>
    clear RB BX
    obtain ⟨k, rfl, hk, hm, rfl, RB, BX⟩ := hrel
    obtain ⟨wo, rfl⟩ : ∃ x : World, x = wr := ⟨_, rfl⟩
    by_cases hlt : k < n
    · have q1 : (k : Int) < (n : Int) := by omega
      have q0 : (0 : Int) ≤ (k : Int) := by omega
      obtain ⟨b, off, x, rfl, _, hx, kx⟩ := (HX.out.below BX.out (Nat.le_refl _)).at_ hlt
      have hxb := word_at HW.out hx.out
      have hsb := HR.out k
      have HE := Lib.hid (rnW_take (t := t) (T := T) hx.out)
      obtain ⟨s, hs⟩ : ∃ s, s = rnW t T (xs.take k) := ⟨_, rfl⟩
      rw [← hs] at hsb ⊢
      have HE2 : Hid (rnW t T (xs.take (k + 1)) = t.getD (s * T + x).toNat 0) := by show _ = _; rw [HE.out, ← hs]
      have hn2 := HN2.out
      have hsT : (s + 1) * T ≤ (S : Int) * T := Int.mul_le_mul_of_nonneg_right (by omega) (by omega)
      have hsT0 : 0 ≤ s * T := Int.mul_nonneg hsb.1 (by omega)
      have hST : (S : Int) * T ≤ 3 * 2 := Int.mul_le_mul (by omega) (by omega) (by omega) (by omega)
      rw [Int.add_mul, Int.one_mul] at hsT
      have C := iTo_any (S : Int) T A2 n2 c2 A3 n3 c3 t s x (s * T + x).toNat wo ((H.out.below BX.out (Nat.le_refl _)).more BX.out.size) (by omega) (by omega) (by omega) (by omega) (by omega) (by omega)
      have r0 := RB.out.cell 0; have r1 := RB.out.cell 1; have r2 := RB.out.cell 2; have r3 := RB.out.cell 3
      clear hn2 hsT hsT0 hST hs HE
      go_wp2_with fail
      refine C.mono ?_; rintro e w1 ⟨rfl, hb1⟩
      have RB1 := Lib.hid (RB.out.below hb1 RB.out.lt)
      have BX1 : Hid (Below w.heap.size w w1) := BX.out.trans (hb1.mono BX.out.size)
      clear C hb1 r0 r1 r2 r3 kx
      go_wp2_with fail
      go_roundg (gk - 1)
      case measure => omega
      case rel => exact ⟨k + 1, by go_num, by omega, by omega, by have h9 := HE2.out; simp only [List.getD_eq_getElem?_getD] at h9 ⊢; rw [h9], RB1.out, BX1.out⟩
    · have q1 : (n : Int) ≤ (k : Int) := by omega
      have HT : Hid (rnW t T (xs.take k) = rnW t T xs) := by show _ = _; rw [List.take_of_length_le (by have := HL.out; omega)]
      go_wp2_with fail
      go_ret
      exact ⟨ret_int HT.out, BX.out⟩
/-- The last digits are carried: what the table is, and what it becomes. -/
theorem tb_step {S n M : Nat} (h : M % S + 1 < S) : tb S (n + 1) (M + 1) = (tb S (n + 1) M).set n ((M % S : Nat) + 1 : Int) := by
  unfold tb
  rw [digs_succ h, digs, List.map_append, List.map_append, List.set_append_right _ _ (by simp [digs_len]), List.length_map, digs_len, Nat.sub_self]; rfl
theorem tb_carry {S n M : Nat} (h0 : 0 < S) (h : M % S + 1 = S) : tb S (n + 1) (M + 1) = tb S n (M / S + 1) ++ [0] := by
  unfold tb
  rw [digs_carry h0 h, List.map_append]; rfl
theorem tb_last (S n M : Nat) : tb S (n + 1) M = tb S n (M / S) ++ [((M % S : Nat) : Int)] := by
  unfold tb
  rw [digs, List.map_append]; rfl
set_option maxRecDepth 100000 in
set_option maxHeartbeats 2000000 in
theorem iNext_any (g c S n N : Nat) (w : World) (h : Row w g 2 (iv (tb S n N))) (hS : 0 < S ∧ S ≤ 3) (hn : n ≤ 6) (hN : N < S ^ n) :
    Calls Try.prog 95 #[.slice (some ⟨g, 0, none⟩) n c, .int .i64 (S : Int)] w fun e w' => e = .returned (.bool (decide (N + 1 < S ^ n))) ∧ (N + 1 < S ^ n → Row w' g 2 (iv (tb S n (N + 1)))) ∧ But g w w' := by
  have H := Lib.hid h; clear h
  have HN := Lib.hid hN; clear hN
  have W1 : IntKind.i64.wrap ((n : Int) - 1) = (n : Int) - 1 := IntWalk.i64_in _ (by omega)
  go_enter Try.func95, Try.ntmps95
  go_wp2_with fail
  go_loopg [5] n (fun m i wr => ∃ (j k M : Nat), i = .int .i64 ((j : Int) - 1) ∧ j + k = n ∧ j ≤ m ∧ Hid (Row wr g 2 (iv (tb S j M ++ List.replicate k 0))) ∧ Hid (tb S n (N + 1) = tb S j (M + 1) ++ List.replicate k 0) ∧ Hid (N + 1 = (M + 1) * S ^ k) ∧ Hid (But g w wr))
  case atStart => exact ⟨n, 0, N, rfl, by omega, by omega, by show Row _ _ _ _; simpa using H.out, by show _ = _; simp, by show _ = _; simp, But.refl _ _⟩
  case round =>
    clear W1
    obtain ⟨j, k, M, rfl, hjk, hm, HR, HT, HM, HB⟩ := hrel
    obtain ⟨wo, rfl⟩ : ∃ x : World, x = wr := ⟨_, rfl⟩
    rcases Nat.eq_zero_or_pos j with h0 | h0
    · have q1 : (j : Int) - 1 < 0 := by omega
      have HD : Hid (decide (N + 1 < S ^ n) = false) := by
        show _ = _
        apply decide_eq_false
        have h1 := HM.out
        have h2 := Nat.le_mul_of_pos_left (S ^ k) (show 0 < M + 1 by omega)
        rw [show n = k by omega]
        omega
      clear h0
      go_wp2_with fail
      go_ret
      exact ⟨ret_bool HD.out.symm, fun h => absurd HD.out (by rw [decide_eq_true h]; simp), HB.out⟩
    · obtain ⟨j, rfl⟩ : ∃ x, j = x + 1 := ⟨j - 1, by omega⟩
      have q1 : ((j + 1 : Nat) : Int) - 1 = (j : Int) := by omega
      rw [q1]
      clear q1
      have q2 : (0 : Int) ≤ (j : Int) := by omega
      have q3 : (j : Int) < (n : Int) := by omega
      have HL : Hid ((iv (tb S (j + 1) M ++ List.replicate k 0))[j]? = some (.int .i64 ((M % S : Nat) : Int))) := by
        show _ = _
        rw [tb_last, List.append_assoc, iv_append, List.getElem?_append_right (by rw [iv_length, tb_len]; exact Nat.le_refl _), iv_length, tb_len, Nat.sub_self]; rfl
      have hdl : M % S < S := Nat.mod_lt _ hS.1
      have c0 := (HR.out.cell j).trans HL.out
      have f0 := HR.out.frozen j
      obtain ⟨d, hd⟩ : ∃ d, d = M % S := ⟨_, rfl⟩
      rw [← hd] at c0 hdl
      have HR1 := Lib.hid (HR.out.set_ j (.int .i64 ((d : Int) + 1)))
      have HB1 : Hid (But g w (wo.setCell ⟨g, j, none⟩ (.int .i64 ((d : Int) + 1)))) := HB.out.trans (But.set wo j _)
      have c1 : (wo.setCell ⟨g, j, none⟩ (.int .i64 ((d : Int) + 1))).cell? ⟨g, j, none⟩ = some (.int .i64 ((d : Int) + 1)) := by
        rw [HR1.out.cell, List.getElem?_set_self (by exact (List.getElem?_eq_some_iff.1 HL.out).1)]
      have f1 := HR1.out.frozen j
      have W1 : IntKind.i64.wrap ((d : Int) + 1) = (d : Int) + 1 := IntWalk.i64_in _ (by omega)
      by_cases hlt : d + 1 < S
      · have q5 : (d : Int) + 1 < (S : Int) := by omega
        have HRW : Hid (Row (wo.setCell ⟨g, j, none⟩ (.int .i64 ((d : Int) + 1))) g 2 (iv (tb S n (N + 1)))) := by
          have := HR1.out
          rw [HT.out]
          rw [hd] at hlt
          rw [tb_step hlt, iv_append, ← hd]
          rw [iv_append, List.set_append_left _ _ (by rw [iv_length, tb_len]; omega)] at this
          have e : iv ((tb S (j + 1) M).set j ((d : Nat) + 1 : Int)) = (iv (tb S (j + 1) M)).set j (.int .i64 ((d : Int) + 1)) := by simp [iv, List.map_set]
          show Row _ _ _ _
          rw [e]
          exact this
        have HD : Hid (decide (N + 1 < S ^ n) = true) := by
          show _ = _
          apply decide_eq_true
          -- M + 1 < S ^ (j + 1)
          have h1 := HM.out
          have h2 := HN.out
          have h3 : S ^ n = S ^ (j + 1) * S ^ k := by rw [← Nat.pow_add]; congr 1; omega
          have hp : 0 < S ^ k := Nat.pow_pos hS.1
          have h4 : M + 1 ≤ S ^ (j + 1) := by
            rcases Nat.lt_or_ge (S ^ (j + 1)) (M + 1) with h | h
            · exfalso
              have h7 : S ^ (j + 1) * S ^ k + S ^ k ≤ (M + 1) * S ^ k := by rw [← Nat.succ_mul]; exact Nat.mul_le_mul_right _ h
              omega
            · exact h
          have h5 : M + 1 ≠ S ^ (j + 1) := by
            intro e
            have h6 : (M + 1) % S = 0 := by rw [e, Nat.pow_succ]; exact Nat.mul_mod_left _ _
            rw [hd] at hlt
            rw [(div_succ hlt).2] at h6
            omega
          rw [h1, h3]
          exact Nat.mul_lt_mul_of_pos_right (by omega) hp
        clear hlt hd
        go_wp2_with fail
        go_ret
        exact ⟨ret_bool HD.out.symm, fun _ => HRW.out, HB1.out⟩
      · have hdS : M % S + 1 = S := by omega
        have q5 : (S : Int) ≤ (d : Int) + 1 := by omega
        have HRW : Hid (Row ((wo.setCell ⟨g, j, none⟩ (.int .i64 ((d : Int) + 1))).setCell ⟨g, j, none⟩ (.int .i64 0)) g 2 (iv (tb S j (M / S) ++ List.replicate (k + 1) 0))) := by
          have := HR1.out.set_ j (.int .i64 0)
          rw [List.set_set, tb_last, List.append_assoc, iv_append, List.set_append_right _ _ (by rw [iv_length, tb_len]; exact Nat.le_refl _), iv_length, tb_len, Nat.sub_self] at this
          rw [List.replicate_succ, iv_append]
          exact this
        have HT2 : Hid (tb S n (N + 1) = tb S j (M / S + 1) ++ List.replicate (k + 1) 0) := by
          show _ = _
          rw [HT.out, tb_carry hS.1 hdS, List.append_assoc, List.replicate_succ]; rfl
        have HM2 : Hid (N + 1 = (M / S + 1) * S ^ (k + 1)) := by
          show _ = _
          have h1 := Nat.div_add_mod M S
          have h2 : M + 1 = (M / S + 1) * S := by rw [Nat.add_mul, Nat.one_mul, Nat.mul_comm]; omega
          rw [HM.out, h2, Nat.pow_succ, Nat.mul_assoc, Nat.mul_comm S]
        have HB2 : Hid (But g w ((wo.setCell ⟨g, j, none⟩ (.int .i64 ((d : Int) + 1))).setCell ⟨g, j, none⟩ (.int .i64 0))) := HB1.out.trans (But.set _ j _)
        clear hlt hd hdS
        go_wp2_with fail
        go_roundg (gk - 1)
        case measure => omega
        case rel => exact ⟨j, k + 1, M / S, by first | rfl | go_num, by omega, by omega, HRW.out, HT2.out, HM2.out, HB2.out⟩
end Go.Proofs.Ytbdfbmohdbigfaa


namespace Go.Proofs.Ytbdfbmohdbigfaa
open Go.RowKit
set_option linter.unusedVariables false
abbrev QL := List ((Nat × Nat) × List Int)
/-- The cells of places. -/
def qc : QL → List Value → List Value
  | p :: L, u :: ws => .int .i64 (p.1.1 : Int) :: .int .i64 (p.1.2 : Int) :: u :: qc L ws
  | _, _ => []
theorem qc_snoc : ∀ (L : QL) (ws : List Value) (p : (Nat × Nat) × List Int) (u : Value), ws.length = L.length → qc (L ++ [p]) (ws ++ [u]) = qc L ws ++ [.int .i64 (p.1.1 : Int), .int .i64 (p.1.2 : Int), u]
  | [], [], p, u, _ => rfl
  | [], _ :: _, p, u, h => by simp at h
  | _ :: _, [], p, u, h => by simp at h
  | a :: L, b :: ws, p, u, h => by
    have ih := qc_snoc L ws p u (by simpa using h)
    simp only [List.cons_append, qc, ih]
theorem qc_get : ∀ (L : QL) (ws : List Value) (j : Nat) (p : (Nat × Nat) × List Int) (u : Value), L[j]? = some p → ws[j]? = some u → (qc L ws)[j * 3]? = some (.int .i64 (p.1.1 : Int)) ∧ (qc L ws)[j * 3 + 1]? = some (.int .i64 (p.1.2 : Int)) ∧ (qc L ws)[j * 3 + 2]? = some u
  | [], _, j, p, u, h, _ => by simp at h
  | _ :: _, [], j, p, u, _, h => by simp at h
  | a :: L, b :: ws, 0, p, u, h1, h2 => by
    simp at h1 h2; subst h1; subst h2; simp [qc]
  | a :: L, b :: ws, j + 1, p, u, h1, h2 => by
    have ih := qc_get L ws j p u (by simpa using h1) (by simpa using h2)
    rw [show (j + 1) * 3 = j * 3 + 1 + 1 + 1 from by omega]
    simpa [qc] using ih
theorem qc_one : ∀ (L : QL) (ws : List Value), (∀ u ∈ ws, u.oneCell' = true) → ∀ u ∈ qc L ws, u.oneCell' = true
  | [], ws, _, u, h => by simp [qc] at h
  | _ :: _, [], _, u, h => by simp [qc] at h
  | a :: L, b :: ws, hw, u, h => by
    simp only [qc, List.mem_cons] at h
    rcases h with rfl | rfl | rfl | h
    · rfl
    · rfl
    · exact hw _ (by simp)
    · exact qc_one L ws (fun v hv => hw v (List.mem_cons_of_mem _ hv)) u h
/-- An append at a step of a region that draws its order, for elements of up to 64 bytes. -/
theorem step_cells_pushW {P : Program} {w0 : World} {ops : Array Oper} {o : Oper} {a : Act} {K : Act → World → Prop} {Q : Exit → Act → World → Prop} {E : Prop} (hgd : o.guard = none) (s x : Operand) (t : TypeId)
    (ho : o.op = .call { callee := .builtin .append, args := #[s, x], argTypes := #[t, t] })
    (base : Nat) (e : TypeId) (z : Value) (size bytes : Nat) (ht : P.underlying t = some (.slice e)) (hinfo : (P.info? e).map (fun i => (i.zero, i.size, i.bytes)) = some (some z, size, bytes)) (hzs : z.cells.size = size) (hsz : 0 < size) (hby : bytes ≤ 64)
    (v : Value) (n : Nat) (xs : List Value) (hs : a.eval s = v) (hown : w0.ownsRow base e size v n xs)
    (b off m c : Nat) (news : List Value) (hx : a.eval x = .slice (some ⟨b, off, none⟩) m c) (hl : news.length = m * size) (hnews : ∀ j u, news[j]? = some u → w0.cell? ⟨b, off + j, none⟩ = some u) (h1 : ∀ u ∈ news, u.oneCell' = true)
    (hn : n + m ≤ 1048576) (hbase : base ≤ w0.heap.size)
    (h : ∀ A' c' w', w'.ownsRow base e size (.slice A' (n + m) c') (n + m) (xs ++ news) → w0.grownBy w' v.ownBlock → Below base w0 w' → ((Value.slice A' (n + m) c').ownBlock = v.ownBlock ∨ (Value.slice A' (n + m) c').ownBlock = some w0.heap.size) → K (a.put o.dst (.slice A' (n + m) c')) w') :
    if Region.wanted o (yielded ops a.tmps) = true then Oper.wp P o a w0 K Q else E := by
  obtain ⟨i, hi, hz, hsz', hb⟩ := info_parts hinfo
  have hb2 : (n + m) * bytes ≤ 140737488355328 := by
    have := Nat.mul_le_mul hn hby
    omega
  have hw : Region.wanted o (yielded ops a.tmps) = true := by simp [Region.wanted, hgd]
  rw [if_pos hw]
  obtain ⟨v', w', hr, h2, h3, _, h5⟩ := run_append_own_at (P := P) w0 base t o.type e i z size bytes ht hi hz hsz' hb hzs hsz v n xs hown ⟨b, off, none⟩ m c news hl (fun j u hu => by
    have ea : (⟨b, off, none⟩ : Addr).add j = ⟨b, off + j, none⟩ := by unfold Addr.add; by_cases h : j = 0 <;> simp [h]
    rw [ea]; exact hnews j u hu) h1 (by unfold maxLen; omega) hb2 hbase
  unfold Oper.wp execOp
  simp only [ho, resolve, invoke, builtin, Sem.run_bind, Sem.run_pure, Result.andThen_ok, List.map_toArray, List.map_cons, List.map_nil, hs, hx, hr]
  obtain ⟨A', c', rfl, _, _⟩ := own_form h2
  exact h A' c' w' h2 h3 (grown_below' hown h3 hbase) h5
structure Qw (x0 w : World) (gm : Nat) (om : Obj) (v : Value) (L : QL) (ws : List Value) : Prop where
  bel : Below x0.heap.size x0 w
  lg : x0.heap.size ≤ gm
  hm : w.heap[gm]? = some om
  own : w.ownsRow x0.heap.size 139 3 v L.length (qc L ws)
  ne : v.ownBlock ≠ some gm
  len : ws.length = L.length
  wd : ∀ (i : Nat) (p : (Nat × Nat) × List Int) (u : Value), L[i]? = some p → ws[i]? = some u → RowI w x0.heap.size 2 u p.2 ∧ ∀ k, u.ownBlock = some k → k ≠ gm ∧ v.ownBlock ≠ some k
theorem hp_lt {w : World} {g : Nat} {o : Obj} (h : w.heap[g]? = some o) : g < w.heap.size := by
  rcases Nat.lt_or_ge g w.heap.size with hlt | hge
  · exact hlt
  · rw [Array.getElem?_eq_none hge] at h; cases h
section
variable {x0 w w' : World} {gm : Nat} {om : Obj} {v : Value} {L : QL} {ws : List Value}
theorem Qw.size (h : Qw x0 w gm om v L ws) : x0.heap.size ≤ w.heap.size := h.bel.size
theorem Qw.call {B : Nat} (h : Qw x0 w gm om v L ws) (hb : Below B w w') (hB : w.heap.size ≤ B) : Qw x0 w' gm om v L ws :=
  ⟨h.bel.trans (hb.mono (Nat.le_trans h.size hB)), h.lg, (hb.block gm (Nat.lt_of_lt_of_le (hp_lt h.hm) hB)).trans h.hm, own_move h.own (fun k hk => hb.block k (Nat.lt_of_lt_of_le (h.own.lt k hk).2 hB)), h.ne, h.len,
    fun i p u hp hu => ⟨own_move (h.wd i p u hp hu).1 (fun k hk => hb.block k (Nat.lt_of_lt_of_le (World.ownsRow.lt (h.wd i p u hp hu).1 k hk).2 hB)), (h.wd i p u hp hu).2⟩⟩
theorem Qw.alloc (h : Qw x0 w gm om v L ws) (o : Obj) : Qw x0 (w.alloc o) gm om v L ws := h.call ((Below.refl _ _).alloc (Nat.le_refl _) o) (Nat.le_refl _)
theorem Qw.drew (h : Qw x0 w gm om v L ws) : Qw x0 w.drew gm om v L ws := h.call (B := w.heap.size) (Below.drew (Below.refl _ _)) (Nat.le_refl _)
theorem Qw.drewN (h : Qw x0 w gm om v L ws) (n : Nat) : Qw x0 (w.drewN n) gm om v L ws := h.call (B := w.heap.size) (below_draws (Below.refl _ _) n) (Nat.le_refl _)
theorem Qw.map {om' : Obj} (h : Qw x0 w gm om v L ws) (hb : But gm w w') (ho : w'.heap[gm]? = some om') : Qw x0 w' gm om' v L ws := by
  have hk : ∀ k, k < w.heap.size → k ≠ gm → w'.heap[k]? = w.heap[k]? := hb.2.2.2.2
  refine ⟨h.bel.trans (hb.below h.lg h.size), h.lg, ho, own_move h.own (fun k q => hk k (h.own.lt k q).2 (fun e => h.ne (by rw [q, e]))), h.ne, h.len, fun i p u hp hu => ?_⟩
  obtain ⟨h1, h2⟩ := h.wd i p u hp hu
  exact ⟨own_move h1 (fun k q => hk k (World.ownsRow.lt h1 k q).2 (h2 k q).1), h2⟩
/-- A place is appended to the list. -/
theorem Qw.push (h : Qw x0 w gm om v L ws) {v' : Value} {p : (Nat × Nat) × List Int} {u : Value} (ho : w'.ownsRow x0.heap.size 139 3 v' (L.length + 1) (qc L ws ++ [.int .i64 (p.1.1 : Int), .int .i64 (p.1.2 : Int), u])) (hg : w.grownBy w' v.ownBlock) (hq : ∀ k, v'.ownBlock = some k → v.ownBlock = some k ∨ w.heap.size ≤ k)
    (hu : RowI w x0.heap.size 2 u p.2) (hn : ∀ k, u.ownBlock = some k → k ≠ gm ∧ v.ownBlock ≠ some k) : Qw x0 w' gm om v' (L ++ [p]) (ws ++ [u]) := by
  have hlm := hp_lt h.hm
  have hfar : ∀ (a : Value) (xs : List Int), RowI w x0.heap.size 2 a xs → (∀ k, a.ownBlock = some k → k ≠ gm ∧ v.ownBlock ≠ some k) → RowI w' x0.heap.size 2 a xs ∧ ∀ k, a.ownBlock = some k → k ≠ gm ∧ v'.ownBlock ≠ some k := by
    intro a xs h1 h2
    refine ⟨own_move h1 (fun k q => hg.block k (World.ownsRow.lt h1 k q).2 (fun e => (h2 k q).2 e.symm)), fun k q => ⟨(h2 k q).1, fun e => ?_⟩⟩
    rcases hq k e with e1 | e1
    · exact (h2 k q).2 e1
    · have := (World.ownsRow.lt h1 k q).2; omega
  refine ⟨h.bel.grown hg h.size (fun k hk => (h.own.lt k hk).1), h.lg, (hg.block gm hlm (fun e => h.ne e.symm)).trans h.hm, ?_, ?_, by simp [h.len], ?_⟩
  · rw [qc_snoc _ _ _ _ h.len, List.length_append]; exact ho
  · intro e
    rcases hq gm e with e1 | e1
    · exact h.ne e1
    · omega
  · intro i q a hi ha
    rcases get_snoc hi with hi | ⟨hil, rfl⟩
    · have hil := (List.getElem?_eq_some_iff.1 hi).1
      rw [List.getElem?_append_left (by rw [h.len]; exact hil)] at ha
      exact hfar a q.2 (h.wd i q a hi ha).1 (h.wd i q a hi ha).2
    · rw [hil, List.getElem?_append_right (by rw [h.len]; exact Nat.le_refl _), h.len, Nat.sub_self] at ha
      obtain rfl : u = a := by simpa using ha
      exact hfar u q.2 hu hn
/-- The cells of a place of the list. -/
theorem Qw.at_ {g c : Nat} (h : Qw x0 w gm om (.slice (some ⟨g, 0, none⟩) L.length c) L ws) {k : Nat} {p : (Nat × Nat) × List Int} {u : Value} (hp : L[k]? = some p) (hu : ws[k]? = some u) : w.cell? ⟨g, k * 3, none⟩ = some (.int .i64 (p.1.1 : Int)) ∧ w.cell? ⟨g, k * 3 + 1, none⟩ = some (.int .i64 (p.1.2 : Int)) ∧ w.cell? ⟨g, k * 3 + 2, none⟩ = some u := by
  obtain ⟨e1, e2, e3⟩ := qc_get _ _ _ _ _ hp hu
  have ea : ∀ j, (⟨g, 0, none⟩ : Addr).add j = ⟨g, j, none⟩ := fun j => by unfold Addr.add; by_cases h : j = 0 <;> simp [h]
  have k1 := World.ownsRow.cells h.own (g := g) rfl _ _ e1
  have k2 := World.ownsRow.cells h.own (g := g) rfl _ _ e2
  have k3 := World.ownsRow.cells h.own (g := g) rfl _ _ e3
  rw [ea] at k1 k2 k3
  exact ⟨k1, k2, k3⟩
end
/-- A plain machine as the walks want it. -/
structure PlOk (w : World) (S T : Nat) (A2 : Option Addr) (n2 : Nat) (A3 : Option Addr) (n3 : Nat) (P : List Int) (E : List Bool) : Prop where
  h2 : SlI w w.heap.size A2 n2 P
  h3 : SlB w w.heap.size A3 n3 E
  hS : 1 ≤ S ∧ S ≤ 64
  hT : 1 ≤ T ∧ T ≤ 4
  hn : n2 = S * T
  hP : ∀ x ∈ P, 0 ≤ x ∧ x < (S : Int)
  hE : n3 = S
theorem PlOk.below {w w' : World} {S T : Nat} {A2 : Option Addr} {n2 : Nat} {A3 : Option Addr} {n3 : Nat} {P : List Int} {E : List Bool} {B : Nat} (h : PlOk w S T A2 n2 A3 n3 P E) (hb : Below B w w') (hB : w.heap.size ≤ B) : PlOk w' S T A2 n2 A3 n3 P E :=
  ⟨(h.h2.below hb hB).more hb.size, (h.h3.below hb hB).more hb.size, h.hS, h.hT, h.hn, h.hP, h.hE⟩
/-- Where a letter leads. -/
def plT (T : Nat) (P : List Int) (s j : Nat) : Nat := (P.getD (s * T + j) 0).toNat
theorem plT_at {S T n2 s j : Nat} {P : List Int} (hn : n2 = S * T) (hl : P.length = n2) (hs : s < S) (hj : j < T) : s * T + j < P.length := by
  have : (s + 1) * T ≤ S * T := Nat.mul_le_mul_right T hs
  rw [Nat.succ_mul] at this
  omega
theorem plT_bd {S T n2 s j : Nat} {P : List Int} (hn : n2 = S * T) (hl : P.length = n2) (hP : ∀ x ∈ P, 0 ≤ x ∧ x < (S : Int)) (hs : s < S) (hj : j < T) : ((plT T P s j : Nat) : Int) = P.getD (s * T + j) 0 ∧ plT T P s j < S := by
  have h := plT_at hn hl hs hj
  have h2 := hP _ (List.getElem_mem h)
  have e : P.getD (s * T + j) 0 = P[s * T + j] := by rw [List.getD_eq_getElem?_getD, List.getElem?_eq_getElem h]; rfl
  unfold plT
  rw [e]
  omega
theorem iToN_any {S T : Nat} {A2 : Option Addr} {n2 : Nat} (c2 : Nat) {A3 : Option Addr} {n3 : Nat} (c3 : Nat) {P : List Int} {E : List Bool} (s j : Nat) (w : World) (h : PlOk w S T A2 n2 A3 n3 P E) (hs : s < S) (hj : j < T) :
    Calls Try.prog 51 #[.agg #[.int .i64 (S : Int), .int .i64 (T : Int), .slice A2 n2 c2, .slice A3 n3 c3], .int .i64 (s : Int), .int .i64 (j : Int)] w fun e w' => e = .returned (.int .i64 ((plT T P s j : Nat) : Int)) ∧ Below w.heap.size w w' := by
  have hl := h.h2.len
  have hi := plT_at h.hn hl hs hj
  have hb := (plT_bd h.hn hl h.hP hs hj).1
  have hS := h.hS; have hT := h.hT
  have hm : S * T ≤ 64 * 4 := Nat.mul_le_mul hS.2 hT.2
  have hn := h.hn
  have e : ((s : Int) * (T : Int) + (j : Int)) = ((s * T + j : Nat) : Int) := by simp
  have C := iTo_any (S : Int) (T : Int) A2 n2 c2 A3 n3 c3 P (s : Int) (j : Int) (s * T + j) w h.h2 e (by omega) (by omega) (by omega) (by omega) (by omega)
  rw [e, Int.toNat_natCast, ← hb] at C
  exact C
end Go.Proofs.Ytbdfbmohdbigfaa
