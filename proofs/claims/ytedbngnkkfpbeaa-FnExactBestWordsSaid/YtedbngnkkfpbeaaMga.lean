/- Several texts in one: Sorting with equals in their order, plainly: entries of a word and its cost; what stands sorted is one list alone; swaps. Small contracts: texts and ranges: what the predicates of the words return. Copies and equality of lists of numbers, as the laws make them. -/
import Derived.Test.YtedbngnkkfpbeaaMem
import Derived.Test.YtedbngnkkfpbeaaRows
import Derived.Deep.QuietTactic
import Derived.BigQuiet

namespace Go.Proofs.Ytedbngnkkfpbeaa
open Go.RowKit
set_option linter.unusedVariables false
/-- One entry: a word's slice and its cost. -/
structure Ce where
  A : Option Addr
  n : Nat
  k : Nat
  c : Int
instance : Inhabited Ce := ⟨⟨none, 0, 0, 0⟩⟩
def fil (c : Int) (L : List Ce) : List Ce := L.filter fun e => e.c == c
theorem fil_append (c : Int) (X Y : List Ce) : fil c (X ++ Y) = fil c X ++ fil c Y := by simp [fil]
theorem fil_nil {c : Int} {X : List Ce} (h : ∀ x ∈ X, x.c ≠ c) : fil c X = [] := by
  unfold fil
  rw [List.filter_eq_nil_iff]
  intro x hx e
  exact h x hx (eq_of_beq e)
theorem mem_fil {c : Int} {X : List Ce} {e : Ce} : e ∈ fil c X ↔ e ∈ X ∧ e.c = c := by
  unfold fil
  rw [List.mem_filter]
  constructor
  · exact fun h => ⟨h.1, eq_of_beq h.2⟩
  · exact fun h => ⟨h.1, by rw [h.2]; simp⟩
/-- The same entries, equals in the same order. -/
structure Stb (X Y : List Ce) : Prop where
  len : Y.length = X.length
  fl : ∀ c, fil c Y = fil c X
def Srt (L : List Ce) : Prop := L.Pairwise fun x y => x.c ≤ y.c
section
variable {X X' Y Y' Z : List Ce}
theorem Stb.refl (X : List Ce) : Stb X X := ⟨rfl, fun _ => rfl⟩
theorem Stb.trans (h : Stb X Y) (h' : Stb Y Z) : Stb X Z := ⟨h'.len.trans h.len, fun c => (h'.fl c).trans (h.fl c)⟩
theorem Stb.append (h : Stb X X') (h' : Stb Y Y') : Stb (X ++ Y) (X' ++ Y') := ⟨by simp [h.len, h'.len], fun c => by rw [fil_append, fil_append, h.fl, h'.fl]⟩
theorem Stb.mem (h : Stb X Y) {e : Ce} : e ∈ Y ↔ e ∈ X := by
  have h1 := h.fl e.c
  constructor
  · intro he
    have : e ∈ fil e.c Y := mem_fil.2 ⟨he, rfl⟩
    rw [h1] at this; exact (mem_fil.1 this).1
  · intro he
    have : e ∈ fil e.c X := mem_fil.2 ⟨he, rfl⟩
    rw [← h1] at this; exact (mem_fil.1 this).1
theorem Stb.swap (h : ∀ x ∈ X, ∀ y ∈ Y, y.c < x.c) : Stb (X ++ Y) (Y ++ X) := by
  refine ⟨by simp [Nat.add_comm], fun c => ?_⟩
  rw [fil_append, fil_append]
  by_cases hx : ∃ x ∈ X, x.c = c
  · obtain ⟨x, hx, rfl⟩ := hx
    rw [fil_nil (X := Y) (fun y hy e => by have := h x hx y hy; omega)]; simp
  · rw [fil_nil (X := X) (fun x hx' e => hx ⟨x, hx', e⟩)]; simp
theorem Srt.append (h : Srt X) (h' : Srt Y) (hm : ∀ x ∈ X, ∀ y ∈ Y, x.c ≤ y.c) : Srt (X ++ Y) := List.pairwise_append.2 ⟨h, h', hm⟩
theorem Srt.left (h : Srt (X ++ Y)) : Srt X := (List.pairwise_append.1 h).1
theorem Srt.right (h : Srt (X ++ Y)) : Srt Y := (List.pairwise_append.1 h).2.1
theorem Srt.mid (h : Srt (X ++ Y)) : ∀ x ∈ X, ∀ y ∈ Y, x.c ≤ y.c := (List.pairwise_append.1 h).2.2
theorem Srt.nil : Srt [] := List.Pairwise.nil
theorem Srt.one (x : Ce) : Srt [x] := List.pairwise_singleton _ _
/-- What stands sorted, equals in their order, is one list alone. -/
theorem srt_unique : ∀ {X Y : List Ce}, Srt X → Srt Y → (∀ c, fil c X = fil c Y) → X = Y
  | [], Y, _, _, h => by
    cases Y with
    | nil => rfl
    | cons y Y => have h1 := h y.c; simp [fil] at h1
  | x :: X, [], _, _, h => by have h1 := h x.c; simp [fil] at h1
  | x :: X, y :: Y, hX, hY, h => by
    have hx : ∀ z ∈ X, x.c ≤ z.c := (List.pairwise_cons.1 hX).1
    have hy : ∀ z ∈ Y, y.c ≤ z.c := (List.pairwise_cons.1 hY).1
    have e1 : x ∈ fil x.c (y :: Y) := by rw [← h]; exact mem_fil.2 ⟨by simp, rfl⟩
    have e2 : y ∈ fil y.c (x :: X) := by rw [h]; exact mem_fil.2 ⟨by simp, rfl⟩
    have l1 : y.c ≤ x.c := by
      rcases List.mem_cons.1 (mem_fil.1 e1).1 with e | e
      · rw [e]; exact Int.le_refl _
      · exact hy x e
    have l2 : x.c ≤ y.c := by
      rcases List.mem_cons.1 (mem_fil.1 e2).1 with e | e
      · rw [e]; exact Int.le_refl _
      · exact hx y e
    have ec : x.c = y.c := Int.le_antisymm l2 l1
    have h3 := h x.c
    have f1 : fil x.c (x :: X) = x :: fil x.c X := by unfold fil; rw [List.filter_cons_of_pos (by simp)]
    have f2 : fil x.c (y :: Y) = y :: fil x.c Y := by unfold fil; rw [List.filter_cons_of_pos (by simp [ec])]
    rw [f1, f2] at h3
    injection h3 with h4 h5
    subst h4
    have : X = Y := srt_unique (List.pairwise_cons.1 hX).2 (List.pairwise_cons.1 hY).2 (fun c => by
      by_cases hc : x.c = c
      · rw [← hc]; exact h5
      · have h6 := h c
        have g1 : fil c (x :: X) = fil c X := by unfold fil; rw [List.filter_cons_of_neg (by simpa using hc)]
        have g2 : fil c (x :: Y) = fil c Y := by unfold fil; rw [List.filter_cons_of_neg (by simpa using hc)]
        rw [g1, g2] at h6; exact h6)
    rw [this]
theorem stb_unique (h : Srt Y) (h' : Srt Y') (s : Stb X Y) (s' : Stb X Y') : Y = Y' := srt_unique h h' fun c => (s.fl c).trans (s'.fl c).symm
end
/-- Two entries changed about. -/
def swp (D : List Ce) (i j : Nat) : List Ce := (D.set i (D.getD j default)).set j (D.getD i default)
theorem swp_len (D : List Ce) (i j : Nat) : (swp D i j).length = D.length := by simp [swp]
theorem set_at {U W : List Ce} {x z : Ce} {i : Nat} (h : U.length = i) : (U ++ x :: W).set i z = U ++ z :: W := by
  subst h
  rw [List.set_append_right _ _ (Nat.le_refl _), Nat.sub_self]; rfl
theorem get_at {U W : List Ce} {x : Ce} {i : Nat} (h : U.length = i) : (U ++ x :: W)[i]? = some x := by
  subst h
  rw [List.getElem?_append_right (Nat.le_refl _), Nat.sub_self]; rfl
theorem getD_at {U W : List Ce} {x : Ce} {i : Nat} (h : U.length = i) : (U ++ x :: W).getD i default = x := by rw [List.getD_eq_getElem?_getD, get_at h]; rfl
theorem swp_at {U V W : List Ce} {x y : Ce} {i j : Nat} (h : U.length = i) (h' : i + 1 + V.length = j) : swp (U ++ x :: (V ++ y :: W)) i j = U ++ y :: (V ++ x :: W) := by
  have e1 : (U ++ x :: (V ++ y :: W)).getD j default = y := by
    rw [show U ++ x :: (V ++ y :: W) = (U ++ x :: V) ++ y :: W by simp]
    exact getD_at (by simp; omega)
  unfold swp
  rw [e1, getD_at h, set_at h, show U ++ y :: (V ++ y :: W) = (U ++ y :: V) ++ y :: W by simp, set_at (by simp; omega)]
  simp
theorem swp_at' {U V W : List Ce} {x y : Ce} {i j : Nat} (h : U.length = i) (h' : i + 1 + V.length = j) : swp (U ++ x :: (V ++ y :: W)) j i = U ++ y :: (V ++ x :: W) := by
  have e1 : (U ++ x :: (V ++ y :: W)).getD j default = y := by
    rw [show U ++ x :: (V ++ y :: W) = (U ++ x :: V) ++ y :: W by simp]
    exact getD_at (by simp; omega)
  unfold swp
  rw [e1, getD_at h, show U ++ x :: (V ++ y :: W) = (U ++ x :: V) ++ y :: W by simp, set_at (by simp; omega), show (U ++ x :: V) ++ x :: W = U ++ x :: (V ++ x :: W) by simp, set_at h]
/-- Rows of entries that are changed about, k of them done. -/
def swR (P X Q Y S : List Ce) (k : Nat) : List Ce := P ++ (Y.take k ++ (X.drop k ++ (Q ++ (X.take k ++ (Y.drop k ++ S)))))
theorem swR_zero (P X Q Y S : List Ce) : swR P X Q Y S 0 = P ++ (X ++ (Q ++ (Y ++ S))) := by simp [swR]
theorem swR_all {P X Q Y S : List Ce} {n : Nat} (hX : X.length = n) (hY : Y.length = n) : swR P X Q Y S n = P ++ (Y ++ (Q ++ (X ++ S))) := by
  unfold swR
  rw [List.take_of_length_le (by omega), List.drop_of_length_le (by omega), List.take_of_length_le (by omega), List.drop_of_length_le (by omega)]; simp
theorem swR_forms {P X Q Y S : List Ce} {n k : Nat} {x y : Ce} (hX : X.length = n) (hY : Y.length = n) (hx : X[k]? = some x) (hy : Y[k]? = some y) :
    swR P X Q Y S k = (P ++ Y.take k) ++ x :: ((X.drop (k + 1) ++ Q ++ X.take k) ++ y :: (Y.drop (k + 1) ++ S)) ∧
    swR P X Q Y S (k + 1) = (P ++ Y.take k) ++ y :: ((X.drop (k + 1) ++ Q ++ X.take k) ++ x :: (Y.drop (k + 1) ++ S)) := by
  obtain ⟨h1, rfl⟩ := List.getElem?_eq_some_iff.1 hx
  obtain ⟨h2, rfl⟩ := List.getElem?_eq_some_iff.1 hy
  constructor
  · unfold swR
    rw [List.drop_eq_getElem_cons h1, List.drop_eq_getElem_cons h2]
    simp only [List.append_assoc, List.cons_append]
  · unfold swR
    rw [List.take_succ_eq_append_getElem h1, List.take_succ_eq_append_getElem h2]
    simp only [List.append_assoc, List.cons_append, List.nil_append]
theorem swR_step {P X Q Y S : List Ce} {n k a b : Nat} (hP : P.length = a) (hX : X.length = n) (hY : Y.length = n) (hb : a + n + Q.length = b) (hk : k < n) :
    swp (swR P X Q Y S k) (a + k) (b + k) = swR P X Q Y S (k + 1) ∧ (swR P X Q Y S k).length = a + n + Q.length + n + S.length := by
  obtain ⟨e1, e2⟩ := swR_forms (P := P) (Q := Q) (S := S) hX hY (List.getElem?_eq_getElem (show k < X.length by omega)) (List.getElem?_eq_getElem (show k < Y.length by omega))
  constructor
  · rw [e1, e2]
    exact swp_at (by simp; omega) (by simp; omega)
  · rw [e1]; simp; omega
end Go.Proofs.Ytedbngnkkfpbeaa


namespace Go.Proofs.Ytedbngnkkfpbeaa
open Go.RowKit
set_option linter.unusedVariables false

def txtB (s : ByteArray) : Bool := decide (s.size ≤ 48)
def inB (n lo hi : Int) : Bool := decide (lo ≤ n ∧ n ≤ hi)
theorem inB_true {n lo hi : Int} (h : inB n lo hi = true) : lo ≤ n ∧ n ≤ hi := of_decide_eq_true h
theorem txtB_true {s : ByteArray} (h : txtB s = true) : s.size ≤ 48 := of_decide_eq_true h
theorem txtB_cast (s : ByteArray) : decide ((s.size : Int) ≤ 48) = txtB s := by unfold txtB; exact decide_eq_decide.2 (by omega)
theorem inB_yes {n lo hi : Int} (h : lo ≤ n) : decide (n ≤ hi) = inB n lo hi := by unfold inB; exact decide_eq_decide.2 (by omega)
theorem inB_no {n lo hi : Int} (h : n < lo) : false = inB n lo hi := by unfold inB; exact (decide_eq_false (by omega)).symm

theorem sIn_any (n lo hi : Int) (w : World) :
    Calls Try.prog 47 #[.int .i64 n, .int .i64 lo, .int .i64 hi] w fun e w' => e = .returned (.bool (inB n lo hi)) ∧ w = w' := by
  go_enter Try.func47, Try.ntmps47
  go_wp2
  all_goals go_ret
  · exact ⟨ret_bool (inB_yes (by assumption)), rfl⟩
  · exact ⟨ret_bool (inB_no (by assumption)), rfl⟩
theorem iIn_any (n lo hi : Int) (w : World) :
    Calls Try.prog 39 #[.int .i64 n, .int .i64 lo, .int .i64 hi] w fun e w' => e = .returned (.bool (inB n lo hi)) ∧ w = w' := by
  go_enter Try.func39, Try.ntmps39
  go_wp2
  all_goals go_ret
  · exact ⟨ret_bool (inB_yes (by assumption)), rfl⟩
  · exact ⟨ret_bool (inB_no (by assumption)), rfl⟩
end Go.Proofs.Ytedbngnkkfpbeaa


namespace Go.Proofs.Ytedbngnkkfpbeaa
open Go.RowKit
set_option linter.unusedVariables false

theorem infoInt : (Try.prog.info? 2).map (fun i => (i.zero, i.size, i.bytes)) = some (some (.int .i64 0), 1, 8) := by kernel_rfl

set_option maxHeartbeats 400000 in
theorem toInt64S_any (A : Option Addr) (n c : Nat) (xs : List Int) (w : World) (h : SlI w w.heap.size A n xs) (hn : n ≤ 4294967296) :
    Calls Try.prog 55 #[.slice A n c] w fun e w' => ∃ g, e = .returned (.slice (some ⟨g, 0, none⟩) n n) ∧ w.heap.size ≤ g ∧ Row w' g 2 (iv xs) ∧ Below w.heap.size w w' := by
  have hl := Lib.hid h.len
  have H := Lib.hid h; clear h
  have hmk := run_make_row' (P := Try.prog) 26 2 (.int .i64 0) 8 Try.underlying26 infoInt rfl .i64 .i64 n (by omega) (by omega)
  go_enter Try.func55, Try.ntmps55
  go_wp2
  clear hmk
  go_loopw [4] (fun i wr => ∃ k : Nat, k ≤ n ∧ i = .int .i64 k ∧ Row wr w.heap.size 2 (fill (iv (xs.take k)) n (.int .i64 0)) ∧ Below w.heap.size w wr) (fun i wr => n - (intOf i).toNat)
  case atStart => exact ⟨0, by omega, rfl, by rw [List.take_zero, show iv [] = [] from rfl, fill_nil]; exact Row.made _ _ _ _, (Below.refl _ _).alloc (Nat.le_refl _) _⟩
  case round =>
    obtain ⟨k, hk, rfl, hr, hb⟩ := hrel
    have HR := Lib.hid hr; clear hr
    by_cases hlt : k < n
    · obtain ⟨b, off, x, rfl, hbB, hx, hc⟩ := (H.out.below hb (Nat.le_refl _)).at_ hlt
      have hlen : Hid ((iv (xs.take k)).length = k) := by show _ = k; rw [iv_length, List.length_take, hl.out]; omega
      have hc2 : wr.cell? ⟨w.heap.size, k, none⟩ = some (.int .i64 0) := by rw [HR.out.cell, fill_at hlen.out hlt]
      have hf2 := HR.out.frozen k
      go_wp2
      go_roundw
      case rel => exact ⟨k + 1, by omega, by go_num, by rw [iv_take hx.out, ← fill_set hlen.out hlt]; exact HR.out.set_ _ _, hb.setCell (Nat.le_refl _) _⟩
      case measure => simp [intOf]; omega
    · obtain rfl : n = k := by omega
      go_wp2
      go_ret
      refine ⟨_, rfl, Nat.le_refl _, ?_, hb⟩
      have := HR.out
      rw [take_all hl.out, fill_full (by rw [iv_length, hl.out])] at this
      exact this

set_option maxHeartbeats 400000 in
theorem eqInt64S_any (A : Option Addr) (n c : Nat) (xs : List Int) (A' : Option Addr) (n' c' : Nat) (ys : List Int) (w : World) (B B' : Nat) (h : SlI w B A n xs) (h' : SlI w B' A' n' ys) (hn : n ≤ 4294967296) (hn' : n' ≤ 4294967296) :
    Calls Try.prog 18 #[.slice A n c, .slice A' n' c'] w fun e w' => e = .returned (.bool (decide (xs = ys))) ∧ Below w.heap.size w w' := by
  have hl := Lib.hid h.len
  have hl' := Lib.hid h'.len
  have H := Lib.hid h; clear h
  have H' := Lib.hid h'; clear h'
  by_cases hnn : n = n'
  · subst hnn
    go_enter Try.func18, Try.ntmps18
    go_wp2
    go_loopw [5] (fun i wr => ∃ k : Nat, k ≤ n ∧ i = .int .i64 k ∧ xs.take k = ys.take k ∧ ∃ q, wr = w.drewN q) (fun i wr => n - (intOf i).toNat)
    case atStart => exact ⟨0, by omega, rfl, rfl, 0, rfl⟩
    case round =>
      obtain ⟨k, hk, rfl, he, q, rfl⟩ := hrel
      have HE := Lib.hid he; clear he
      by_cases hlt : k < n
      · obtain ⟨b, off, x, rfl, hbB, hx, hc⟩ := H.out.at_ hlt
        obtain ⟨b', off', y, rfl, hbB', hy, hc'⟩ := H'.out.at_ hlt
        have hi0 : (0 : Int) ≤ (k : Int) := by omega
        have hi1 : (k : Int) < (n : Int) := by omega
        by_cases hxy : x = y
        · subst hxy
          go_wp2
          go_quiet (fail)
          go_wp2
          exact ⟨⟨k + 1, by omega, by go_num, take_eq_succ HE.out hx.out hy.out, _, rfl⟩, by simp [intOf]; omega⟩
        · have h1 : (x == y) = false := by simp [hxy]
          have h2 : (x != y) = true := by simp [hxy]
          have HXY := Lib.hid hxy; clear hxy
          go_wp2
          go_quiet (fail)
          go_wp2
          go_ret
          refine ⟨ret_bool (decide_eq_false (fun e => ?_)).symm, below_draws (below_draws (Below.refl _ _) _) _⟩
          have hx' := hx.out
          rw [e, hy.out] at hx'
          exact HXY.out (Option.some.inj hx').symm
      · obtain rfl : n = k := by omega
        go_wp2
        go_ret
        refine ⟨ret_bool ?_, below_draws (Below.refl _ _) _⟩
        have := HE.out
        rw [take_all hl.out, take_all hl'.out] at this
        exact (decide_eq_true this).symm
  · have h1 : ((n : Int) == n') = false := by simp; omega
    have h2 : ((n : Int) != n') = true := by simp; omega
    have HN := Lib.hid hnn; clear hnn
    go_enter Try.func18, Try.ntmps18
    go_wp2
    go_ret
    exact ⟨ret_bool (decide_eq_false (fun e => HN.out (by rw [← hl.out, ← hl'.out, e]))).symm, Below.refl _ _⟩
end Go.Proofs.Ytedbngnkkfpbeaa
