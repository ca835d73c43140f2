/- Lists of lists of numbers: their copies, equality, size and marks, as the laws make them. -/
import Derived.Test.YtedbngnkkfpbeaaMgb
import Derived.Test.YtedbngnkkfpbeaaMgd
import Derived.Deep.QuietTactic
import Derived.BigQuiet
import Derived.Deep.LoopGhost
import Derived.Deep.RegionHeld3
import Derived.Deep.RegionWith

namespace Go.Proofs.Ytedbngnkkfpbeaa
open Go.RowKit
set_option linter.unusedVariables false
/-- The slice value '.slice A n c' reads as the lists R; all lies in blocks below B. -/
def SlL (w : World) (B : Nat) (A : Option Addr) (n : Nat) (R : List (List Int)) : Prop :=
  ∃ hs : List Value, SlV w B A n hs ∧ hs.length = R.length ∧ ∀ (j : Nat) (r : List Int), R[j]? = some r → ∃ (A' : Option Addr) (c : Nat), hs[j]? = some (.slice A' r.length c) ∧ SlI w B A' r.length r ∧ r.length ≤ maxLen
section
variable {w w' : World} {B B' n : Nat} {A : Option Addr} {R : List (List Int)}
theorem SlL.len (h : SlL w B A n R) : R.length = n := by
  obtain ⟨hs, h1, h2, _⟩ := h
  have := h1.len; omega
theorem SlL.at_ {k : Nat} (h : SlL w B A n R) (hk : k < n) :
    ∃ b off A' c r, A = some ⟨b, off, none⟩ ∧ b < B ∧ Hid (R[k]? = some r) ∧ w.cell? ⟨b, off + k, none⟩ = some (.slice A' r.length c) ∧ Hid (SlI w B A' r.length r) ∧ r.length ≤ maxLen := by
  have hl := h.len
  obtain ⟨hs, h1, h2, h3⟩ := h
  obtain ⟨b, off, u, e, hb, hu, hc⟩ := h1.at_ hk
  obtain ⟨r, hr⟩ : ∃ r, R[k]? = some r := ⟨R[k], List.getElem?_eq_getElem (by omega)⟩
  obtain ⟨A', c, e1, e2, e3⟩ := h3 k r hr
  rw [hu] at e1
  cases e1
  exact ⟨b, off, A', c, r, e, hb, hr, hc, e2, e3⟩
theorem SlL.below (h : SlL w B A n R) (hb : Below B' w w') (hB : B ≤ B') : SlL w' B A n R := by
  obtain ⟨hs, h1, h2, h3⟩ := h
  refine ⟨hs, h1.below hb hB, h2, fun j r hr => ?_⟩
  obtain ⟨A', c, e1, e2, e3⟩ := h3 j r hr
  exact ⟨A', c, e1, e2.below hb hB, e3⟩
theorem SlL.more (h : SlL w B A n R) (hB : B ≤ B') : SlL w B' A n R := by
  obtain ⟨hs, h1, h2, h3⟩ := h
  refine ⟨hs, h1.more hB, h2, fun j r hr => ?_⟩
  obtain ⟨A', c, e1, e2, e3⟩ := h3 j r hr
  exact ⟨A', c, e1, e2.more hB, e3⟩
end
/-- A list of lists that the law copied: block g holds the headers, each row has a block behind it, in order. -/
def RowsN (w : World) (g hi : Nat) (R : List (List Int)) : Prop :=
  ∃ (hs : List Value) (G : Nat → Nat), Row w g 26 hs ∧ hs.length = R.length ∧ (∀ (j : Nat) (r : List Int), R[j]? = some r → hs[j]? = some (.slice (some ⟨G j, 0, none⟩) r.length r.length) ∧ g < G j ∧ G j < hi ∧ RowN w (G j) 2 r.length) ∧ ∀ i j, i < j → j < R.length → G i < G j
theorem RowsN.lt {w : World} {g hi : Nat} {R : List (List Int)} (h : RowsN w g hi R) : g < w.heap.size := by
  obtain ⟨hs, G, h1, _⟩ := h
  exact h1.lt
theorem RowsN.below {w w' : World} {g hi B : Nat} {R : List (List Int)} (h : RowsN w g hi R) (hb : Below B w w') (hB : w.heap.size ≤ B) : RowsN w' g hi R := by
  obtain ⟨hs, G, h1, h2, h3, h4⟩ := h
  refine ⟨hs, G, h1.below hb (by have := h1.lt; omega), h2, fun j r hr => ?_, h4⟩
  obtain ⟨e1, e2, e4, e3⟩ := h3 j r hr
  exact ⟨e1, e2, e4, e3.below hb (by have := e3.lt; omega)⟩
theorem RowsN.kp {w w' : World} {g hi' lo hi : Nat} {R : List (List Int)} (h : RowsN w g hi' R) (hk : Kp lo hi w w') (hg : hi ≤ g) : RowsN w' g hi' R := by
  obtain ⟨hs, G, h1, h2, h3, h4⟩ := h
  refine ⟨hs, G, (hk.2.2.2.2 g h1.lt (.inr hg)).trans h1, h2, fun j r hr => ?_, h4⟩
  obtain ⟨e1, e2, e4, e3⟩ := h3 j r hr
  exact ⟨e1, e2, e4, e3.kp hk (.inr (by omega))⟩
/-- While it is copied. -/
def CpL (g n : Nat) (R : List (List Int)) (k : Nat) (wr : World) : Prop :=
  ∃ (hs : List Value) (G : Nat → Nat), hs.length = k ∧ R.length = n ∧ Row wr g 26 (fill hs n (.slice none 0 0)) ∧ (∀ (j : Nat) (r : List Int), j < k → R[j]? = some r → hs[j]? = some (.slice (some ⟨G j, 0, none⟩) r.length r.length) ∧ g < G j ∧ Row wr (G j) 2 (iv r)) ∧ ∀ i j, i < j → j < k → G i < G j
theorem CpL.step {g n k g1 : Nat} {R : List (List Int)} {w w1 : World} {r : List Int} (h : CpL g n R k w) (hk : k < n) (hr : R[k]? = some r) (hb : Below w.heap.size w w1) (hg : w.heap.size ≤ g1) (hR : Row w1 g1 2 (iv r)) :
    CpL g n R (k + 1) (w1.setCell ⟨g, k, none⟩ (.slice (some ⟨g1, 0, none⟩) r.length r.length)) := by
  obtain ⟨hs, G, hl, hn, h1, h2, h3⟩ := h
  have hgl := h1.lt
  refine ⟨hs ++ [.slice (some ⟨g1, 0, none⟩) r.length r.length], fun j => if j = k then g1 else G j, by simp; omega, hn, ?_, fun j q hj hq => ?_, fun i j hij hj => ?_⟩
  · rw [← fill_set hl hk]
    exact (h1.below hb hgl).set_ _ _
  · dsimp only
    rcases Nat.lt_or_ge j k with hjk | hjk
    · obtain ⟨e1, e2, e3⟩ := h2 j q hjk hq
      rw [if_neg (by omega)]
      exact ⟨by rw [List.getElem?_append_left (by omega)]; exact e1, e2, (e3.below hb e3.lt).far (by show G j ≠ g; omega) _⟩
    · obtain rfl : j = k := by omega
      rw [hr] at hq
      cases hq
      rw [if_pos rfl]
      refine ⟨by rw [List.getElem?_append_right (by omega), hl]; simp, by omega, hR.far (by show g1 ≠ g; omega) _⟩
  · dsimp only
    rw [if_neg (show i ≠ k by omega)]
    split
    · have := (h2 i _ (by omega) (List.getElem?_eq_getElem (by omega))).2.2.lt
      omega
    · exact h3 i j hij (by omega)
theorem CpL.at_ {g n k : Nat} {R : List (List Int)} {w : World} (h : CpL g n R k w) (hk : k < n) : w.cell? ⟨g, k, none⟩ = some (.slice none 0 0) ∧ w.frozen? ⟨g, k, none⟩ = false ∧ g < w.heap.size := by
  obtain ⟨hs, G, hl, hn, h1, h2⟩ := h
  exact ⟨by rw [h1.cell, fill_at hl hk], h1.frozen k, h1.lt⟩
theorem CpL.below {g n k : Nat} {R : List (List Int)} {w w1 : World} (h : CpL g n R k w) (hb : Below w.heap.size w w1) : CpL g n R k w1 := by
  obtain ⟨hs, G, hl, hn, h1, h2, h3⟩ := h
  refine ⟨hs, G, hl, hn, h1.below hb h1.lt, fun j r hj hr => ?_, h3⟩
  obtain ⟨e1, e2, e3⟩ := h2 j r hj hr
  exact ⟨e1, e2, e3.below hb e3.lt⟩
theorem CpL.done {g n : Nat} {R : List (List Int)} {w : World} (h : CpL g n R n w) (hm : ∀ r ∈ R, r.length ≤ maxLen) : RowsN w g w.heap.size R ∧ SlL w w.heap.size (some ⟨g, 0, none⟩) n R := by
  obtain ⟨hs, G, hl, hn, h1, h2, h3⟩ := h
  rw [fill_full hl] at h1
  have hj : ∀ {j : Nat} {r : List Int}, R[j]? = some r → j < n := fun h => by have := (List.getElem?_eq_some_iff.1 h).1; omega
  refine ⟨⟨hs, G, h1, by omega, fun j r hr => ?_, fun i j hij hj => h3 i j hij (by omega)⟩, ⟨hs, by have := h1.sl; rw [hl] at this; exact this, by omega, fun j r hr => ?_⟩⟩
  · obtain ⟨e1, e2, e3⟩ := h2 j r (hj hr) hr
    exact ⟨e1, e2, e3.lt, iv r, iv_length r, e3⟩
  · obtain ⟨e1, e2, e3⟩ := h2 j r (hj hr) hr
    have := e3.sl
    rw [iv_length] at this
    exact ⟨_, _, e1, this, hm r (List.mem_of_getElem? hr)⟩
theorem infoHd : (Try.prog.info? 26).map (fun i => (i.zero, i.size, i.bytes)) = some (some (.slice none 0 0), 1, 24) := by kernel_rfl
set_option maxRecDepth 100000 in
set_option maxHeartbeats 4000000 in
theorem eqInt64SS_any (A : Option Addr) (n c : Nat) (R : List (List Int)) (A' : Option Addr) (n' c' : Nat) (R' : List (List Int)) (w : World) (h : SlL w w.heap.size A n R) (h' : SlL w w.heap.size A' n' R') (hn : n ≤ 4294967296) (hn' : n' ≤ 4294967296) (hm : ∀ r ∈ R, r.length ≤ 4294967296) (hm' : ∀ r ∈ R', r.length ≤ 4294967296) :
    Calls Try.prog 17 #[.slice A n c, .slice A' n' c'] w fun e w' => e = .returned (.bool (decide (R = R'))) ∧ Below w.heap.size w w' := by
  have hl := Lib.hid h.len
  have hl' := Lib.hid h'.len
  have H := Lib.hid h; clear h
  have H' := Lib.hid h'; clear h'
  have HM := Lib.hid hm; clear hm
  have HM' := Lib.hid hm'; clear hm'
  by_cases hnn : n = n'
  · subst hnn
    go_enter Try.func17, Try.ntmps17
    go_wp2
    go_loopg [5] n (fun m i wr => ∃ k : Nat, k ≤ n ∧ n ≤ m + k ∧ i = .int .i64 k ∧ R.take k = R'.take k ∧ Below w.heap.size w wr)
    case atStart => exact ⟨0, by omega, by omega, rfl, rfl, Below.refl _ _⟩
    case round =>
      obtain ⟨k, hk, hm, rfl, he, hb⟩ := hrel
      obtain ⟨wo, rfl⟩ : ∃ x : World, x = wr := ⟨_, rfl⟩
      have HE := Lib.hid he; clear he
      by_cases hlt : k < n
      · obtain ⟨b, off, A1, c1, x, rfl, hbB, hx, hc, hxs, hxm⟩ := (H.out.below hb (Nat.le_refl _)).at_ hlt
        obtain ⟨b', off', A2, c2, y, rfl, hbB', hy, hc', hys, hym⟩ := (H'.out.below hb (Nat.le_refl _)).at_ hlt
        have HT : Hid (∀ wx : World, Below wo.heap.size wo wx → Calls Try.prog 18 #[.slice A1 x.length c1, .slice A2 y.length c2] wx fun e w' => e = .returned (.bool (decide (x = y))) ∧ Below wx.heap.size wx w') := fun wx hw => eqInt64S_any A1 x.length c1 x A2 y.length c2 y wx _ _ (hxs.out.below hw hb.size) (hys.out.below hw hb.size) (HM.out x (List.mem_of_getElem? hx.out)) (HM'.out y (List.mem_of_getElem? hy.out))
        have hkeep : Hid (∀ x1 y1 : World, Below wo.heap.size wo x1 → Below x1.heap.size x1 y1 → (Below wo.heap.size wo y1 ∧ y1.cell? ⟨b, off + k, none⟩ = some (.slice A1 x.length c1) ∧ y1.cell? ⟨b', off' + k, none⟩ = some (.slice A2 y.length c2))) := by
          intro x1 y1 h1 h2
          have h3 := h1.trans (h2.mono h1.size)
          have z := hb.size
          exact ⟨h3, (h3.cell (p := ⟨b, off + k, none⟩) (show b < wo.heap.size by omega)).trans hc, (h3.cell (p := ⟨b', off' + k, none⟩) (show b' < wo.heap.size by omega)).trans hc'⟩
        have hdr : Below wo.heap.size wo wo.drew := Below.drew (Below.refl _ _)
        have hfrom : Below wo.heap.size wo wo.drew ∧ wo.drew.cell? ⟨b, off + k, none⟩ = some (.slice A1 x.length c1) ∧ wo.drew.cell? ⟨b', off' + k, none⟩ = some (.slice A2 y.length c2) := ⟨hdr, hc, hc'⟩
        have l1 : (0 : Int) ≤ (k : Int) := by omega
        have HB := Lib.hid hb
        by_cases hxy : x = y
        · have HXY : Hid (decide (x = y) = true) := decide_eq_true hxy
          have HEQ := Lib.hid hxy
          clear hb hxy
          go_wp2_with fail
          go_region_held3 (fun x1 => Below wo.heap.size wo x1 ∧ x1.cell? ⟨b, off + k, none⟩ = some (.slice A1 x.length c1) ∧ x1.cell? ⟨b', off' + k, none⟩ = some (.slice A2 y.length c2)) (first | assumption | go_keep)
            (first | (go_at_call 18; refine (HT.out _ (by first | assumption | (apply And.left; assumption))).mono ?_; rintro e w2 ⟨rfl, hb2⟩; rw [HXY.out]; have hk2 := (fun h => hkeep.out _ _ h hb2) (by first | assumption | (apply And.left; assumption))))
          have hbz : Below wo.heap.size wo w2 := (by first | assumption | (apply And.left; assumption))
          go_wp2_with fail
          go_roundg (gk - 1)
          case measure => omega
          case rel => exact ⟨k + 1, by omega, by omega, by go_num, take_eq_succ HE.out hx.out (by rw [HEQ.out]; exact hy.out), HB.out.trans (hbz.mono HB.out.size)⟩
        · have HXY : Hid (decide (x = y) = false) := decide_eq_false hxy
          have HNE := Lib.hid hxy; clear hxy hb
          go_wp2_with fail
          go_region_held3 (fun x1 => Below wo.heap.size wo x1 ∧ x1.cell? ⟨b, off + k, none⟩ = some (.slice A1 x.length c1) ∧ x1.cell? ⟨b', off' + k, none⟩ = some (.slice A2 y.length c2)) (first | assumption | go_keep)
            (first | (go_at_call 18; refine (HT.out _ (by first | assumption | (apply And.left; assumption))).mono ?_; rintro e w2 ⟨rfl, hb2⟩; rw [HXY.out]; have hk2 := (fun h => hkeep.out _ _ h hb2) (by first | assumption | (apply And.left; assumption))))
          have hbz : Below wo.heap.size wo w2 := (by first | assumption | (apply And.left; assumption))
          go_wp2_with fail
          go_ret
          refine ⟨ret_bool (decide_eq_false (fun e => ?_)).symm, HB.out.trans (hbz.mono HB.out.size)⟩
          have hx' := hx.out
          rw [e, hy.out] at hx'
          exact HNE.out (Option.some.inj hx').symm
      · obtain rfl : n = k := by omega
        go_wp2
        go_ret
        refine ⟨ret_bool ?_, hb⟩
        have := HE.out
        rw [take_all hl.out, take_all hl'.out] at this
        exact (decide_eq_true this).symm
  · have h1 : ((n : Int) == n') = false := by simp; omega
    have h2 : ((n : Int) != n') = true := by simp; omega
    have HN := Lib.hid hnn; clear hnn
    go_enter Try.func17, Try.ntmps17
    go_wp2
    go_ret
    exact ⟨ret_bool (decide_eq_false (fun e => HN.out (by rw [← hl.out, ← hl'.out, e]))).symm, Below.refl _ _⟩
/-- How many numbers there are. -/
def sumL (R : List (List Int)) : Nat := (R.map List.length).sum
theorem sumL_nil : sumL [] = 0 := rfl
theorem sumL_append (R S : List (List Int)) : sumL (R ++ S) = sumL R + sumL S := by simp [sumL]
theorem sumL_take {R : List (List Int)} {k : Nat} {r : List Int} (h : R[k]? = some r) : sumL (R.take (k + 1)) = sumL (R.take k) + r.length := by
  obtain ⟨hk, rfl⟩ := List.getElem?_eq_some_iff.1 h
  rw [List.take_succ_eq_append_getElem hk, sumL_append]; simp [sumL]
theorem sumL_mem {R : List (List Int)} {r : List Int} (h : r ∈ R) : r.length ≤ sumL R := by
  induction R with
  | nil => cases h
  | cons a R ih =>
    simp only [sumL, List.map_cons, List.sum_cons] at ih ⊢
    rcases List.mem_cons.1 h with rfl | h
    · omega
    · have := ih h; omega
set_option maxHeartbeats 1000000 in
theorem markInt64SS_any (g n c : Nat) (R : List (List Int)) (k0 : Int) (w : World) (lo hi : Nat) (h : RowsN w g hi R) (hn : R.length = n) (hs : sumL R ≤ 1048576) (hk0 : 0 ≤ k0) (hk1 : k0 ≤ 2147483648) (hnm : n ≤ 4294967296) (hlo : lo ≤ g) :
    Calls Try.prog 21 #[.slice (some ⟨g, 0, none⟩) n c, .int .i64 k0] w fun e w' => e = .returned (.int .i64 (k0 + sumL R)) ∧ Kp lo hi w w' := by
  obtain ⟨hs', G, h1, h2, h3, h4⟩ := h
  have HR := Lib.hid h1; clear h1
  have H3 := Lib.hid h3; clear h3
  have H4 := Lib.hid h4; clear h4
  go_enter Try.func21, Try.ntmps21
  go_wp2
  go_loopg [1, 5] n (fun m z i wr => ∃ j : Nat, z = .int .i64 (k0 + sumL (R.take j)) ∧ i = .int .i64 j ∧ j ≤ n ∧ n ≤ m + j ∧ Row wr g 26 hs' ∧ (∀ (i : Nat) (r : List Int), j ≤ i → R[i]? = some r → RowN wr (G i) 2 r.length) ∧ Kp lo hi w wr)
  case atStart => exact ⟨0, by simp [sumL_nil], rfl, by omega, by omega, HR.out, fun i r _ hr => (H3.out i r hr).2.2.2, Kp.refl _ _ _⟩
  case round =>
    obtain ⟨j, rfl, rfl, hj, hm, hr, hq, hb⟩ := hrel
    obtain ⟨wo, rfl⟩ : ∃ x : World, x = wr := ⟨_, rfl⟩
    have HR := Lib.hid hr; clear hr
    have HQ := Lib.hid hq; clear hq
    have HB := Lib.hid hb; clear hb
    by_cases hlt : j < n
    · obtain ⟨r, hrj⟩ : ∃ r, R[j]? = some r := ⟨R[j], List.getElem?_eq_getElem (by omega)⟩
      have HRJ := Lib.hid hrj; clear hrj
      obtain ⟨e1, e2, e4, _⟩ := H3.out j r HRJ.out
      have E3 := Lib.hid (HQ.out j r (Nat.le_refl _) HRJ.out)
      have hc := HR.out.cell j
      rw [e1] at hc
      have E1 := Lib.hid e1; clear e1
      have l1 : (0 : Int) ≤ (j : Int) := by omega
      have hs1 := sumL_take HRJ.out
      have hs2 : sumL (R.take (j + 1)) ≤ sumL R := by
        have h := sumL_append (R.take (j + 1)) (R.drop (j + 1))
        rw [List.take_append_drop] at h
        omega
      have hT := markInt64S_any (G j) r.length r.length r.length (k0 + sumL (R.take j)) wo E3.out (Nat.le_refl _) (by omega) (by omega) (by omega)
      go_wp2_with (first | (go_at_call 22; refine hT.mono ?_; rintro e w2 ⟨rfl, -, hbut⟩; clear hT))
      go_roundg (gk - 1)
      case measure => omega
      case rel =>
        refine ⟨j + 1, by rw [hs1]; simp; omega, by go_num, by omega, by omega, (hbut.2.2.2.2 g HR.out.lt (by omega)).trans HR.out, fun i q hi hq => ?_, HB.out.trans (hbut.kp (by omega) (by omega))⟩
        obtain ⟨vs, f1, f2⟩ := HQ.out i q (by omega) hq
        have := H4.out j i (by omega) (List.getElem?_eq_some_iff.1 hq).1
        exact ⟨vs, f1, (hbut.2.2.2.2 _ f2.lt (by omega)).trans f2⟩
    · obtain rfl : n = j := by omega
      go_wp2
      go_ret
      exact ⟨ret_int (by rw [take_all hn]), HB.out⟩
end Go.Proofs.Ytedbngnkkfpbeaa
