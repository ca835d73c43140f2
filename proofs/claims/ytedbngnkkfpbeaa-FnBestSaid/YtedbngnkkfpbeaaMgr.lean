/- Several texts in one: The best word, plainly: no word costs less, none that costs as much is shorter, none as long comes ahead of it. Sorting with equals in their order, plainly: entries of a word and its cost; what stands sorted is one list alone; swaps. -/
import Derived.Test.YtedbngnkkfpbeaaFmP
import Derived.Test.YtedbngnkkfpbeaaBwJ
import Derived.Test.YtedbngnkkfpbeaaMga

namespace Go.Proofs.Ytedbngnkkfpbeaa
open Go.RowKit
set_option linter.unusedVariables false
/-- One word comes ahead of another at the first letter that parts them. -/
def Bf : List Int → List Int → Prop
  | x :: xs, y :: ys => x < y ∨ (x = y ∧ Bf xs ys)
  | _, _ => False
section
variable {n T : Nat} {L : List A4} {P E : List Int}
theorem ht_tw {rw : List Int} {c : Int} : Ht n T L P E rw 0 c ↔ Tw n L P E rw c := by
  constructor
  · rintro ⟨i, c1, c2, hi, h1, ⟨k, d1, d2, hk, h2, h3, e2⟩, e⟩
    exact ⟨k, c1 + d1, d2, hk, ⟨i, c1, d1, hi, h1, h2, rfl⟩, h3, by omega⟩
  · rintro ⟨k, c1, c2, hk, ⟨i, d1, d2, hi, h1, h2, e1⟩, h3, e⟩
    exact ⟨i, d1, d2 + c2, hi, h1, ⟨k, d2, c2, hk, h2, h3, rfl⟩, by omega⟩
/-- A sum that begins with these letters is the cost of a word. -/
theorem ht_word : ∀ {r : Nat} {rw : List Int} {c : Int}, Ht n T L P E rw r c ↔ ∃ w : List Int, w.length = r ∧ (∀ x ∈ w, 0 ≤ x ∧ x < (T : Int)) ∧ Tw n L P E (w.reverse ++ rw) c
  | 0, rw, c => by
    rw [ht_tw]
    constructor
    · intro h; exact ⟨[], rfl, fun x hx => (by cases hx), h⟩
    · rintro ⟨w, hw, -, h⟩
      rw [List.length_eq_zero_iff.1 hw] at h; exact h
  | r + 1, rw, c => by
    rw [Ht.succ]
    constructor
    · rintro ⟨l, hl, h⟩
      obtain ⟨w, h1, h2, h3⟩ := ht_word.1 h
      refine ⟨(l : Int) :: w, by simp [h1], fun x hx => ?_, by simpa using h3⟩
      rcases List.mem_cons.1 hx with hx | hx
      · omega
      · exact h2 x hx
    · rintro ⟨w, h1, h2, h3⟩
      cases w with
      | nil => cases h1
      | cons x w =>
        have hx := h2 x List.mem_cons_self
        refine ⟨x.toNat, by omega, ht_word.2 ⟨w, by simpa using h1, fun y hy => h2 y (List.mem_cons_of_mem _ hy), ?_⟩⟩
        have e : ((x.toNat : Nat) : Int) = x := by omega
        rw [e]
        simpa using h3
/-- A way to an end is a word's. -/
theorem pth_fr (hL : okM n L) (ht : ∀ a ∈ L, a.2.2.1 < (T : Int)) {l : List Nat} {i k : Nat} {c c2 : Int} (h : Pth (An L) l i k c) (hi : i < n) (hs : Stt E k c2) : ∃ r, r + 1 ≤ l.length ∧ Fr n T L E r i (c + c2) := by
  induction h with
  | one i => exact ⟨0, by simp, i, 0, c2, hi, .refl i, hs, by omega⟩
  | @cons i x k l c c' hr _ ih =>
    have hxn := (hL.an hr).2.1
    obtain ⟨r, h1, h2⟩ := ih hxn hs
    obtain ⟨a, ha, e1, e2, e4⟩ := hr
    by_cases hlet : a.2.2.1 < 0
    · refine ⟨r, by simp; omega, ?_⟩
      have hw : Wy (Em L) i x c := .arc ⟨a, ha, e1, e2, hlet, e4⟩
      rw [Int.add_assoc]
      exact Fr.cl hw h2
    · have htl := ht a ha
      refine ⟨r + 1, by simp; omega, a.2.2.1.toNat, x, c, c' + c2, by omega, hxn, ⟨i, 0, c, hi, .refl i, ⟨a, ha, e1, e2, by omega, e4⟩, by omega⟩, h2, by omega⟩
theorem bst_few (hL : okM n L) (ht : ∀ a ∈ L, a.2.2.1 < (T : Int)) {c : Int} (h : Bst n L P E c) : ∃ r c', r < n ∧ Ht n T L P E [] r c' ∧ c' ≤ c := by
  obtain ⟨i, c1, c2, hi, h1, ⟨k, d1, d2, hk, h2, h3, e2⟩, e⟩ := h
  obtain ⟨l, d1', p1, p2, p3, -⟩ := h2.short (b := 1000) (fun i k c h => (hL.an h).2.2.1) (fun i k c h => (hL.an h).2.2.2) (fun i k c h => (hL.an h).2.1) (by omega) hi
  obtain ⟨r, q1, q2⟩ := pth_fr hL ht p1 hi h3
  exact ⟨r, c1 + (d1' + d2), by omega, ⟨i, c1, d1' + d2, hi, h1, q2, rfl⟩, by omega⟩
end
theorem fstT_first {p : Nat → Bool} : ∀ {f l : Nat}, fstT p f l < l + f → p (fstT p f l) = true ∧ ∀ j, l ≤ j → j < fstT p f l → p j = false
  | 0, l, h => by simp [fstT] at h
  | f + 1, l, h => by
    unfold fstT at h ⊢
    by_cases hl : p l = true
    · rw [if_pos hl]; exact ⟨hl, fun j a b => by omega⟩
    · rw [if_neg hl] at h ⊢
      obtain ⟨a, b⟩ := fstT_first (p := p) (f := f) (l := l + 1) (by omega)
      refine ⟨a, fun j h1 h2 => ?_⟩
      by_cases e : j = l
      · rw [e]; exact Bool.eq_false_iff.2 hl
      · exact b j (by omega) h2
/-- The letters that are chosen: none that serves comes ahead of them. -/
theorem gw_first {n T : Nat} {L : List A4} {P E : List Int} {b : Int} {h : List Int → Nat → Nat → Bool} (hh : ∀ rw r l, h rw r l = true ↔ Ht n T L P E ((l : Int) :: rw) r b) : ∀ {k : Nat} {rw : List Int}, Ht n T L P E rw k b → ∃ w : List Int, gwW h T k rw = w.reverse ++ rw ∧ w.length = k ∧ (∀ x ∈ w, 0 ≤ x ∧ x < (T : Int)) ∧ Tw n L P E (w.reverse ++ rw) b ∧ ∀ w' : List Int, w'.length = k → (∀ x ∈ w', 0 ≤ x ∧ x < (T : Int)) → Tw n L P E (w'.reverse ++ rw) b → ¬ Bf w' w
  | 0, rw, hw => ⟨[], rfl, rfl, fun x hx => (by cases hx), ht_tw.1 hw, fun w' h1 _ _ hb => by rw [List.length_eq_zero_iff.1 h1] at hb; exact hb⟩
  | k + 1, rw, hw => by
    obtain ⟨l, hl, hx⟩ := Ht.succ.1 hw
    obtain ⟨a, -, c, d⟩ := fstT_spec (p := h rw k) (f := T) (l := 0) (m := l) (by omega) (by omega) ((hh rw k l).2 hx)
    obtain ⟨w, e1, e2, e3, e4, e5⟩ := gw_first hh (k := k) (rw := (fstT (h rw k) T 0 : Int) :: rw) ((hh _ _ _).1 a)
    refine ⟨(fstT (h rw k) T 0 : Int) :: w, ?_, by simp [e2], fun x hx => ?_, by simpa using e4, fun w' h1 h2 h3 hb => ?_⟩
    · rw [gwW, e1]; simp
    · rcases List.mem_cons.1 hx with hx | hx
      · omega
      · exact e3 x hx
    · cases w' with
      | nil => exact hb
      | cons x w' =>
        have hx := h2 x List.mem_cons_self
        have h2' : ∀ y ∈ w', 0 ≤ y ∧ y < (T : Int) := fun y hy => h2 y (List.mem_cons_of_mem _ hy)
        have h3' : Tw n L P E (w'.reverse ++ x :: rw) b := by simpa using h3
        rcases hb with hb | ⟨hb, hb2⟩
        · have ex : ((x.toNat : Nat) : Int) = x := by omega
          have h4 := (hh rw k x.toNat).2 (ht_word.2 ⟨w', by simpa using h1, h2', by rw [ex]; exact h3'⟩)
          have h5 := d x.toNat (by omega) (by omega)
          rw [h4] at h5; cases h5
        · rw [hb] at h3'
          exact e5 w' (by simpa using h1) h2' h3' hb2
section
variable {S : Int} {T : Nat} {L : List A4} {P E : List Int}
theorem vm_let {S T : Int} {L : List A4} {P E : List Int} (h : vmB S T L P E = true) : ∀ a ∈ L, a.2.2.1 < T := fun a ha => by
  simp only [vmB, Bool.and_eq_true, List.all_eq_true] at h
  exact (okAm_true (h.2.2.2.1 a ha)).2.2.1.2
/-- A word that has a cost: the best word has one, and no more. -/
theorem bw_least (v1 : vmB S (T : Int) L P E = true) (hn : P.length ≤ 13) {xs : List Int} (hl : xs.length ≤ 12) (hx : ∀ x ∈ xs, 0 ≤ x ∧ x < (T : Int)) (h0 : 0 ≤ coV 1099511627776 L P E xs) : bwB 1099511627776 S (T : Int) L P E = true ∧ bwC 1099511627776 S (T : Int) L P E ≤ coV 1099511627776 L P E xs ∧ bwC 1099511627776 S (T : Int) L P E = bcI 1099511627776 L P E := by
  have ho := okw_vm v1 T
  have hlt := cst_lt L P E xs
  have hcv := cv_co ho hl
  have hw : Wc L P E xs (coV 1099511627776 L P E xs) := by
    rcases hcv with ⟨e, -⟩ | ⟨-, h, -⟩
    · omega
    · exact h
  have hH : Ht P.length T L P E [] xs.length (coV 1099511627776 L P E xs) := ht_word.2 ⟨xs, rfl, hx, by rw [List.append_nil]; exact (tw_wc ho.arcs ho.len xs _).2 hw⟩
  have hbc := lst_bc (F := 1099511627776) ho (by omega)
  have hle := hbc.2.1 _ hH.bst
  have hbl : bcI 1099511627776 L P E < 1099511627776 := by unfold cst at hlt; omega
  obtain ⟨r, c', hr, hH2, hc'⟩ := bst_few (T := T) ho.arcs (vm_let v1) (hbc.2.2 hbl)
  have hc2 := hbc.2.1 _ hH2.bst
  have ec : c' = bcI 1099511627776 L P E := by omega
  rw [ec] at hH2
  have hp := (lgI_iff (F := 1099511627776) ho (by omega) hbl r).2 hH2
  have hlI : lI 1099511627776 T L P E < 13 := by
    obtain ⟨-, -, c, -⟩ := fstT_spec (p := fun r => decide (tld 1099511627776 (lgI 1099511627776 T L P E r) = bcI 1099511627776 L P E)) (f := 13) (l := 0) (m := r) (by omega) (by omega) (decide_eq_true hp)
    unfold lI; omega
  have hb : bwB 1099511627776 S (T : Int) L P E = true := by
    unfold bwB
    rw [v1, decide_eq_true hbl, Int.toNat_natCast, decide_eq_true hlI]; rfl
  have hC : bwC 1099511627776 S (T : Int) L P E = bcI 1099511627776 L P E := by unfold bwC; rw [if_pos hb]
  exact ⟨hb, by rw [hC]; exact hle, hC⟩
/-- The best word: its cost is the least, none that costs as much is shorter, none as long comes ahead of it. -/
theorem bw_word (v1 : vmB S (T : Int) L P E = true) (hb : bwB 1099511627776 S (T : Int) L P E = true) : (bwW 1099511627776 S (T : Int) L P E).length ≤ 12 ∧ (∀ x ∈ bwW 1099511627776 S (T : Int) L P E, 0 ≤ x ∧ x < (T : Int)) ∧ coV 1099511627776 L P E (bwW 1099511627776 S (T : Int) L P E) = bwC 1099511627776 S (T : Int) L P E ∧ 0 ≤ bwC 1099511627776 S (T : Int) L P E ∧
    ∀ xs : List Int, xs.length ≤ 12 → (∀ x ∈ xs, 0 ≤ x ∧ x < (T : Int)) → coV 1099511627776 L P E xs = bwC 1099511627776 S (T : Int) L P E → (bwW 1099511627776 S (T : Int) L P E).length ≤ xs.length ∧ (xs.length = (bwW 1099511627776 S (T : Int) L P E).length → ¬ Bf xs (bwW 1099511627776 S (T : Int) L P E)) := by
  have ho := okw_vm v1 T
  have hlen := bwW_len 1099511627776 S (T : Int) L P E
  have hC : bwC 1099511627776 S (T : Int) L P E = bcI 1099511627776 L P E := by unfold bwC; rw [if_pos hb]
  have hW : bwW 1099511627776 S (T : Int) L P E = (gwW (hI 1099511627776 T L P E) T (lI 1099511627776 T L P E) []).reverse := by unfold bwW; rw [if_pos hb, Int.toNat_natCast]
  have hb2 := hb
  unfold bwB at hb2
  rw [Int.toNat_natCast] at hb2
  simp only [Bool.and_eq_true, decide_eq_true_eq] at hb2
  obtain ⟨-, hbl, hl13⟩ := hb2
  have hbc := lst_bc (F := 1099511627776) ho (by omega)
  obtain ⟨hp, hq⟩ := fstT_first (p := fun r => decide (tld 1099511627776 (lgI 1099511627776 T L P E r) = bcI 1099511627776 L P E)) (f := 13) (l := 0) (by unfold lI at hl13; omega)
  have hH := (lgI_iff (F := 1099511627776) ho (by omega) hbl _).1 (of_decide_eq_true hp)
  obtain ⟨w, e1, e2, e3, e4, e5⟩ := gw_first (h := hI 1099511627776 T L P E) (fun rw r l => by unfold hI; rw [decide_eq_true_eq]; exact htI_iff ho (by omega) hbl rw r l) hH
  rw [List.append_nil] at e1 e4
  have eW : bwW 1099511627776 S (T : Int) L P E = w := by
    rw [hW]; unfold lI; rw [e1, List.reverse_reverse]
  rw [eW] at hlen ⊢
  rw [hC]
  have hwc := (tw_wc ho.arcs ho.len w _).1 e4
  have hnn := bc_nn ho (F := 1099511627776) (by omega)
  have hword : ∀ xs : List Int, xs.length ≤ 12 → (∀ x ∈ xs, 0 ≤ x ∧ x < (T : Int)) → ∀ c, Wc L P E xs c → Ht P.length T L P E [] xs.length c := fun xs hl hx c hc => ht_word.2 ⟨xs, rfl, hx, by rw [List.append_nil]; exact (tw_wc ho.arcs ho.len xs _).2 hc⟩
  have hco : coV 1099511627776 L P E w = bcI 1099511627776 L P E := by
    rcases cv_co ho hlen with ⟨-, h⟩ | ⟨-, h, hm⟩
    · exact absurd hwc (h _)
    · have h1 := hm _ hwc
      have h2 := hbc.2.1 _ (hword w hlen e3 _ h).bst
      omega
  refine ⟨hlen, e3, hco, hnn, fun xs hl hx hxc => ?_⟩
  have hxw : Wc L P E xs (bcI 1099511627776 L P E) := by
    rcases cv_co ho hl with ⟨e, -⟩ | ⟨-, h, -⟩
    · omega
    · rw [hxc] at h; exact h
  have hHx := hword xs hl hx _ hxw
  have hpx := (lgI_iff (F := 1099511627776) ho (by omega) hbl xs.length).2 hHx
  constructor
  · rw [e2]
    rcases Nat.lt_or_ge xs.length (fstT (fun r => decide (tld 1099511627776 (lgI 1099511627776 T L P E r) = bcI 1099511627776 L P E)) 13 0) with h | h
    · have h1 := hq xs.length (Nat.zero_le _) h
      have h2 := of_decide_eq_false h1
      exact absurd hpx h2
    · exact h
  · intro he
    refine e5 xs (by rw [he, e2]) hx ?_
    rw [List.append_nil]
    exact (tw_wc ho.arcs ho.len xs _).2 hxw
end
end Go.Proofs.Ytedbngnkkfpbeaa


namespace Go.Proofs.Ytedbngnkkfpbeaa
open Go.RowKit
set_option linter.unusedVariables false
/-- One entry: a word's slice and its cost. -/
structure Ce where
  A : Option Addr
  n : Nat
  k : Nat
  c : Int
instance : Inhabited Ce := ⟨⟨none, 0, 0, 0⟩⟩
def fil (c : Int) (L : List Ce) : List Ce := L.filter fun e => e.c == c
theorem fil_append (c : Int) (X Y : List Ce) : fil c (X ++ Y) = fil c X ++ fil c Y := by simp [fil]
theorem fil_nil {c : Int} {X : List Ce} (h : ∀ x ∈ X, x.c ≠ c) : fil c X = [] := by
  unfold fil
  rw [List.filter_eq_nil_iff]
  intro x hx e
  exact h x hx (eq_of_beq e)
theorem mem_fil {c : Int} {X : List Ce} {e : Ce} : e ∈ fil c X ↔ e ∈ X ∧ e.c = c := by
  unfold fil
  rw [List.mem_filter]
  constructor
  · exact fun h => ⟨h.1, eq_of_beq h.2⟩
  · exact fun h => ⟨h.1, by rw [h.2]; simp⟩
/-- The same entries, equals in the same order. -/
structure Stb (X Y : List Ce) : Prop where
  len : Y.length = X.length
  fl : ∀ c, fil c Y = fil c X
def Srt (L : List Ce) : Prop := L.Pairwise fun x y => x.c ≤ y.c
section
variable {X X' Y Y' Z : List Ce}
theorem Stb.refl (X : List Ce) : Stb X X := ⟨rfl, fun _ => rfl⟩
theorem Stb.trans (h : Stb X Y) (h' : Stb Y Z) : Stb X Z := ⟨h'.len.trans h.len, fun c => (h'.fl c).trans (h.fl c)⟩
theorem Stb.append (h : Stb X X') (h' : Stb Y Y') : Stb (X ++ Y) (X' ++ Y') := ⟨by simp [h.len, h'.len], fun c => by rw [fil_append, fil_append, h.fl, h'.fl]⟩
theorem Stb.mem (h : Stb X Y) {e : Ce} : e ∈ Y ↔ e ∈ X := by
  have h1 := h.fl e.c
  constructor
  · intro he
    have : e ∈ fil e.c Y := mem_fil.2 ⟨he, rfl⟩
    rw [h1] at this; exact (mem_fil.1 this).1
  · intro he
    have : e ∈ fil e.c X := mem_fil.2 ⟨he, rfl⟩
    rw [← h1] at this; exact (mem_fil.1 this).1
theorem Stb.swap (h : ∀ x ∈ X, ∀ y ∈ Y, y.c < x.c) : Stb (X ++ Y) (Y ++ X) := by
  refine ⟨by simp [Nat.add_comm], fun c => ?_⟩
  rw [fil_append, fil_append]
  by_cases hx : ∃ x ∈ X, x.c = c
  · obtain ⟨x, hx, rfl⟩ := hx
    rw [fil_nil (X := Y) (fun y hy e => by have := h x hx y hy; omega)]; simp
  · rw [fil_nil (X := X) (fun x hx' e => hx ⟨x, hx', e⟩)]; simp
theorem Srt.append (h : Srt X) (h' : Srt Y) (hm : ∀ x ∈ X, ∀ y ∈ Y, x.c ≤ y.c) : Srt (X ++ Y) := List.pairwise_append.2 ⟨h, h', hm⟩
theorem Srt.left (h : Srt (X ++ Y)) : Srt X := (List.pairwise_append.1 h).1
theorem Srt.right (h : Srt (X ++ Y)) : Srt Y := (List.pairwise_append.1 h).2.1
theorem Srt.mid (h : Srt (X ++ Y)) : ∀ x ∈ X, ∀ y ∈ Y, x.c ≤ y.c := (List.pairwise_append.1 h).2.2
theorem Srt.nil : Srt [] := List.Pairwise.nil
theorem Srt.one (x : Ce) : Srt [x] := List.pairwise_singleton _ _
/-- What stands sorted, equals in their order, is one list alone. -/
theorem srt_unique : ∀ {X Y : List Ce}, Srt X → Srt Y → (∀ c, fil c X = fil c Y) → X = Y
  | [], Y, _, _, h => by
    cases Y with
    | nil => rfl
    | cons y Y => have h1 := h y.c; simp [fil] at h1
  | x :: X, [], _, _, h => by have h1 := h x.c; simp [fil] at h1
  | x :: X, y :: Y, hX, hY, h => by
    have hx : ∀ z ∈ X, x.c ≤ z.c := (List.pairwise_cons.1 hX).1
    have hy : ∀ z ∈ Y, y.c ≤ z.c := (List.pairwise_cons.1 hY).1
    have e1 : x ∈ fil x.c (y :: Y) := by rw [← h]; exact mem_fil.2 ⟨by simp, rfl⟩
    have e2 : y ∈ fil y.c (x :: X) := by rw [h]; exact mem_fil.2 ⟨by simp, rfl⟩
    have l1 : y.c ≤ x.c := by
      rcases List.mem_cons.1 (mem_fil.1 e1).1 with e | e
      · rw [e]; exact Int.le_refl _
      · exact hy x e
    have l2 : x.c ≤ y.c := by
      rcases List.mem_cons.1 (mem_fil.1 e2).1 with e | e
      · rw [e]; exact Int.le_refl _
      · exact hx y e
    have ec : x.c = y.c := Int.le_antisymm l2 l1
    have h3 := h x.c
    have f1 : fil x.c (x :: X) = x :: fil x.c X := by unfold fil; rw [List.filter_cons_of_pos (by simp)]
    have f2 : fil x.c (y :: Y) = y :: fil x.c Y := by unfold fil; rw [List.filter_cons_of_pos (by simp [ec])]
    rw [f1, f2] at h3
    injection h3 with h4 h5
    subst h4
    have : X = Y := srt_unique (List.pairwise_cons.1 hX).2 (List.pairwise_cons.1 hY).2 (fun c => by
      by_cases hc : x.c = c
      · rw [← hc]; exact h5
      · have h6 := h c
        have g1 : fil c (x :: X) = fil c X := by unfold fil; rw [List.filter_cons_of_neg (by simpa using hc)]
        have g2 : fil c (x :: Y) = fil c Y := by unfold fil; rw [List.filter_cons_of_neg (by simpa using hc)]
        rw [g1, g2] at h6; exact h6)
    rw [this]
theorem stb_unique (h : Srt Y) (h' : Srt Y') (s : Stb X Y) (s' : Stb X Y') : Y = Y' := srt_unique h h' fun c => (s.fl c).trans (s'.fl c).symm
end
/-- Two entries changed about. -/
def swp (D : List Ce) (i j : Nat) : List Ce := (D.set i (D.getD j default)).set j (D.getD i default)
theorem swp_len (D : List Ce) (i j : Nat) : (swp D i j).length = D.length := by simp [swp]
theorem set_at {U W : List Ce} {x z : Ce} {i : Nat} (h : U.length = i) : (U ++ x :: W).set i z = U ++ z :: W := by
  subst h
  rw [List.set_append_right _ _ (Nat.le_refl _), Nat.sub_self]; rfl
theorem get_at {U W : List Ce} {x : Ce} {i : Nat} (h : U.length = i) : (U ++ x :: W)[i]? = some x := by
  subst h
  rw [List.getElem?_append_right (Nat.le_refl _), Nat.sub_self]; rfl
theorem getD_at {U W : List Ce} {x : Ce} {i : Nat} (h : U.length = i) : (U ++ x :: W).getD i default = x := by rw [List.getD_eq_getElem?_getD, get_at h]; rfl
theorem swp_at {U V W : List Ce} {x y : Ce} {i j : Nat} (h : U.length = i) (h' : i + 1 + V.length = j) : swp (U ++ x :: (V ++ y :: W)) i j = U ++ y :: (V ++ x :: W) := by
  have e1 : (U ++ x :: (V ++ y :: W)).getD j default = y := by
    rw [show U ++ x :: (V ++ y :: W) = (U ++ x :: V) ++ y :: W by simp]
    exact getD_at (by simp; omega)
  unfold swp
  rw [e1, getD_at h, set_at h, show U ++ y :: (V ++ y :: W) = (U ++ y :: V) ++ y :: W by simp, set_at (by simp; omega)]
  simp
theorem swp_at' {U V W : List Ce} {x y : Ce} {i j : Nat} (h : U.length = i) (h' : i + 1 + V.length = j) : swp (U ++ x :: (V ++ y :: W)) j i = U ++ y :: (V ++ x :: W) := by
  have e1 : (U ++ x :: (V ++ y :: W)).getD j default = y := by
    rw [show U ++ x :: (V ++ y :: W) = (U ++ x :: V) ++ y :: W by simp]
    exact getD_at (by simp; omega)
  unfold swp
  rw [e1, getD_at h, show U ++ x :: (V ++ y :: W) = (U ++ x :: V) ++ y :: W by simp, set_at (by simp; omega), show (U ++ x :: V) ++ x :: W = U ++ x :: (V ++ x :: W) by simp, set_at h]
/-- Rows of entries that are changed about, k of them done. -/
def swR (P X Q Y S : List Ce) (k : Nat) : List Ce := P ++ (Y.take k ++ (X.drop k ++ (Q ++ (X.take k ++ (Y.drop k ++ S)))))
theorem swR_zero (P X Q Y S : List Ce) : swR P X Q Y S 0 = P ++ (X ++ (Q ++ (Y ++ S))) := by simp [swR]
theorem swR_all {P X Q Y S : List Ce} {n : Nat} (hX : X.length = n) (hY : Y.length = n) : swR P X Q Y S n = P ++ (Y ++ (Q ++ (X ++ S))) := by
  unfold swR
  rw [List.take_of_length_le (by omega), List.drop_of_length_le (by omega), List.take_of_length_le (by omega), List.drop_of_length_le (by omega)]; simp
theorem swR_forms {P X Q Y S : List Ce} {n k : Nat} {x y : Ce} (hX : X.length = n) (hY : Y.length = n) (hx : X[k]? = some x) (hy : Y[k]? = some y) :
    swR P X Q Y S k = (P ++ Y.take k) ++ x :: ((X.drop (k + 1) ++ Q ++ X.take k) ++ y :: (Y.drop (k + 1) ++ S)) ∧
    swR P X Q Y S (k + 1) = (P ++ Y.take k) ++ y :: ((X.drop (k + 1) ++ Q ++ X.take k) ++ x :: (Y.drop (k + 1) ++ S)) := by
  obtain ⟨h1, rfl⟩ := List.getElem?_eq_some_iff.1 hx
  obtain ⟨h2, rfl⟩ := List.getElem?_eq_some_iff.1 hy
  constructor
  · unfold swR
    rw [List.drop_eq_getElem_cons h1, List.drop_eq_getElem_cons h2]
    simp only [List.append_assoc, List.cons_append]
  · unfold swR
    rw [List.take_succ_eq_append_getElem h1, List.take_succ_eq_append_getElem h2]
    simp only [List.append_assoc, List.cons_append, List.nil_append]
theorem swR_step {P X Q Y S : List Ce} {n k a b : Nat} (hP : P.length = a) (hX : X.length = n) (hY : Y.length = n) (hb : a + n + Q.length = b) (hk : k < n) :
    swp (swR P X Q Y S k) (a + k) (b + k) = swR P X Q Y S (k + 1) ∧ (swR P X Q Y S k).length = a + n + Q.length + n + S.length := by
  obtain ⟨e1, e2⟩ := swR_forms (P := P) (Q := Q) (S := S) hX hY (List.getElem?_eq_getElem (show k < X.length by omega)) (List.getElem?_eq_getElem (show k < Y.length by omega))
  constructor
  · rw [e1, e2]
    exact swp_at (by simp; omega) (by simp; omega)
  · rw [e1]; simp; omega
end Go.Proofs.Ytedbngnkkfpbeaa
