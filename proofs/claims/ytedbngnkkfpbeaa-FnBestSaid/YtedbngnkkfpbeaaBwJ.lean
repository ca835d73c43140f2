/- BestWord of the program. -/
import Derived.Test.YtedbngnkkfpbeaaMgq

namespace Go.Proofs.Ytedbngnkkfpbeaa
open Go.RowKit
set_option linter.unusedVariables false
/-- What BestWord tells: whether there is a word, its cost, its letters. -/
def bwB (F S T : Int) (L : List A4) (P E : List Int) : Bool := vmB S T L P E && (decide (bcI F L P E < F) && decide (lI F T.toNat L P E < 13))
def bwC (F S T : Int) (L : List A4) (P E : List Int) : Int := if bwB F S T L P E then bcI F L P E else 0
def bwW (F S T : Int) (L : List A4) (P E : List Int) : List Int := if bwB F S T L P E then (gwW (hI F T.toNat L P E) T.toNat (lI F T.toNat L P E) []).reverse else []
theorem gwW_len (h : List Int → Nat → Nat → Bool) (T : Nat) : ∀ (k : Nat) (rw : List Int), (gwW h T k rw).length = rw.length + k
  | 0, rw => rfl
  | k + 1, rw => by rw [gwW, gwW_len h T k]; simp; omega
theorem gwW_bd (h : List Int → Nat → Nat → Bool) (T : Nat) : ∀ (k : Nat) (rw : List Int), (gwW h T k rw).length = rw.length + k := gwW_len h T
theorem bwW_len (F S T : Int) (L : List A4) (P E : List Int) : (bwW F S T L P E).length ≤ 12 := by
  unfold bwW
  split
  · next h =>
    rw [List.length_reverse, gwW_len]
    simp only [bwB, Bool.and_eq_true, decide_eq_true_eq] at h
    have := h.2.2
    simp; omega
  · simp
theorem bw_none {F S T : Int} {L : List A4} {P E : List Int} (h : bwB F S T L P E = false) : bwC F S T L P E = 0 ∧ bwW F S T L P E = [] := by
  unfold bwC bwW; rw [h]; exact ⟨rfl, rfl⟩
theorem fstT_congr {p q : Nat → Bool} : ∀ {f l : Nat}, (∀ j, l ≤ j → j < l + f → p j = q j) → fstT p f l = fstT q f l
  | 0, l, _ => rfl
  | f + 1, l, h => by
    show (if p l then l else fstT p f (l + 1)) = (if q l then l else fstT q f (l + 1))
    rw [h l (Nat.le_refl _) (by omega), fstT_congr (fun j h1 h2 => h j (by omega) (by omega))]
theorem fstT_lt {p : Nat → Bool} : ∀ {f l : Nat}, fstT p f l < l + f → p (fstT p f l) = true ∧ l ≤ fstT p f l
  | 0, l, h => by have : l < l + 0 := h; omega
  | f + 1, l, h => by
    by_cases hp : p l = true
    · have e : fstT p (f + 1) l = l := by show (if p l then l else fstT p f (l + 1)) = l; rw [if_pos hp]
      rw [e]; exact ⟨hp, Nat.le_refl _⟩
    · have e : fstT p (f + 1) l = fstT p f (l + 1) := by show (if p l then l else fstT p f (l + 1)) = _; rw [if_neg hp]
      rw [e] at h ⊢
      obtain ⟨a, b⟩ := fstT_lt (p := p) (f := f) (l := l + 1) (by omega)
      exact ⟨a, by omega⟩
theorem RowI.lt' {w : World} {base : Nat} {t : TypeId} {v : Value} {r : List Int} (h : RowI w base t v r) : ∀ k, v.ownBlock = some k → base ≤ k ∧ k < w.heap.size := World.ownsRow.lt h
theorem lsV_bc (F : Int) (L : List A4) (P E : List Int) : lsV F (frL F P) (edV F L E) = tld F (bcI F L P E) := by
  unfold lsV bcI; rw [frL_len]
set_option maxRecDepth 100000 in
set_option maxHeartbeats 8000000 in
theorem iBest_any (S T : Int) (L : List A4) (P E : List Int) (p2 o2 p3 o3 n3 p4 o4 n4 C2 C3 C4 : Nat) (w : World)
    (h2 : SlA w w.heap.size (some ⟨p2, o2, none⟩) L.length L) (h3 : SlI w w.heap.size (some ⟨p3, o3, none⟩) n3 P) (h4 : SlI w w.heap.size (some ⟨p4, o4, none⟩) n4 E)
    (hL : L.length ≤ 1048576) (hP : n3 ≤ 1048576) (hE : n4 ≤ 1048576) :
    Calls Try.prog 10 #[.agg #[.int .i64 S, .int .i64 T, .slice (some ⟨p2, o2, none⟩) L.length C2, .slice (some ⟨p3, o3, none⟩) n3 C3, .slice (some ⟨p4, o4, none⟩) n4 C4]] w fun e w' => ∃ A c, e = .returned (.tuple #[.slice A (bwW 1099511627776 S T L P E).length c, .int .i64 (bwC 1099511627776 S T L P E), .bool (bwB 1099511627776 S T L P E)]) ∧ RowI w' w.heap.size 2 (.slice A (bwW 1099511627776 S T L P E).length c) (bwW 1099511627776 S T L P E) ∧ Below w.heap.size w w' := by
  have l3 := h3.len; have l4 := h4.len
  have rb := Row.new w 28 [.int .i64 S, .int .i64 T, .slice (some ⟨p2, o2, none⟩) L.length C2, .slice (some ⟨p3, o3, none⟩) n3 C3, .slice (some ⟨p4, o4, none⟩) n4 C4]
  have bx : Below w.heap.size w (w.alloc (.cells ([.int .i64 S, .int .i64 T, .slice (some ⟨p2, o2, none⟩) L.length C2, .slice (some ⟨p3, o3, none⟩) n3 C3, .slice (some ⟨p4, o4, none⟩) n4 C4] : List Value).toArray 28)) := (Below.refl _ _).alloc (Nat.le_refl _) _
  have RB := Lib.hid rb; have BX := Lib.hid bx
  have H2 := Lib.hid h2; have H3 := Lib.hid h3; have H4 := Lib.hid h4
  clear rb bx h2 h3 h4
  have a0 := RB.out.cell 0; have a1 := RB.out.cell 1; have a2 := RB.out.cell 2; have a3 := RB.out.cell 3; have a4 := RB.out.cell 4
  go_enter Try.func10, Try.ntmps10
  go_wp2_with fail
  clear a0 a1 a2 a3 a4
  obtain ⟨x0, hx0⟩ : ∃ x, x = w.alloc (.cells ([.int .i64 S, .int .i64 T, .slice (some ⟨p2, o2, none⟩) L.length C2, .slice (some ⟨p3, o3, none⟩) n3 C3, .slice (some ⟨p4, o4, none⟩) n4 C4] : List Value).toArray 28) := ⟨_, rfl⟩
  rw [← hx0] at RB BX
  change Calls _ _ _ (w.alloc (.cells ([.int .i64 S, .int .i64 T, .slice (some ⟨p2, o2, none⟩) L.length C2, .slice (some ⟨p3, o3, none⟩) n3 C3, .slice (some ⟨p4, o4, none⟩) n4 C4] : List Value).toArray 28)) _
  rw [← hx0]
  clear hx0
  refine (iValidMachine_any _ S T L P E x0 ⟨_, _, _, _, _, _, _, _, _, rfl, (H2.out.below BX.out (Nat.le_refl _)).more BX.out.size, (H3.out.below BX.out (Nat.le_refl _)).more BX.out.size, (H4.out.below BX.out (Nat.le_refl _)).more BX.out.size⟩ (by omega) (by omega) (by omega)).mono ?_
  rintro e w1 ⟨rfl, hb1⟩
  have BX1 := Lib.hid (BX.out.trans (hb1.mono BX.out.size))
  have RB1 := Lib.hid (RB.out.below hb1 RB.out.lt)
  clear hb1 RB BX
  obtain ⟨ok, hok⟩ : ∃ ok, ok = vmB S T L P E := ⟨_, rfl⟩
  rw [← hok]
  have HOK := Lib.hid hok; clear hok
  cases ok with
  | false =>
    have HF : Hid (bwB 1099511627776 S T L P E = false) := by show _ = _; unfold bwB; rw [← HOK.out]; rfl
    have HN := Lib.hid (bw_none HF.out)
    go_wp2_with fail
    go_ret3
    rw [HF.out, HN.out.1, HN.out.2]
    exact ⟨none, 0, rfl, World.ownsRow_nil _ _ _ _, BX1.out⟩
  | true =>
  obtain ⟨hLk, hP1, hE1, h0, hPE, hPn, hLn, hS, hT1, hT4⟩ := vm_okM HOK.out.symm
  have hn34 : n3 = n4 := by omega
  subst hn34
  obtain ⟨n, hn⟩ : ∃ n, n = n3 := ⟨_, rfl⟩
  subst hn
  obtain ⟨t, ht⟩ : ∃ t : Nat, T = (t : Int) := ⟨T.toNat, by omega⟩
  have hn16 : n ≤ 16 := by omega
  have hn0 : 0 < n := by omega
  have ht4 : t ≤ 4 := by omega
  have HO : Hid (Okw t L P E) := ⟨hPE.symm, hPn, hLk, hP1, hE1⟩
  have HPF : Hid (∀ x ∈ P, x ≤ 1099511627776) := fun x hx => by have := hP1 x hx; omega
  have HEF : Hid (∀ x ∈ E, x ≤ 1099511627776) := fun x hx => by have := hE1 x hx; omega
  have HLK := Lib.hid hLk; have HP1 := Lib.hid hP1; have HE1 := Lib.hid hE1
  have HLc : Hid (∀ a ∈ L, 0 ≤ a.2.2.2) := hLk.cost
  have HLb : Hid (∀ a ∈ L.map bkA, 0 ≤ a.2.2.2) := hLk.bkA.cost
  have HTT := Lib.hid ht; have HSN : Hid (S = (n : Int)) := by show _ = _; omega
  have HL3 := Lib.hid l3; have HL4 := Lib.hid l4
  clear hLk hP1 hE1 h0 hPE hPn hS ht l3 l4
  have r3 := RB1.out.cell 3
  go_wp2_with fail
  clear r3
  refine (iFarther_any _ n C3 P w1 ((H3.out.below BX1.out (Nat.le_refl _)).more BX1.out.size) hn0 (by omega)).mono ?_
  rintro e w2 ⟨gs, cs, rfl, hr, hb2⟩
  have rs := Row.new w2 26 [.slice (some ⟨gs, 0, none⟩) n cs]
  have bs : Below w2.heap.size w2 (w2.alloc (.cells ([.slice (some ⟨gs, 0, none⟩) n cs] : List Value).toArray 26)) := (Below.refl _ _).alloc (Nat.le_refl _) _
  obtain ⟨x3, hx3⟩ : ∃ x, x = w2.alloc (.cells ([.slice (some ⟨gs, 0, none⟩) n cs] : List Value).toArray 26) := ⟨_, rfl⟩
  obtain ⟨g5, hg5⟩ : ∃ x, x = w2.heap.size := ⟨_, rfl⟩
  rw [← hx3, ← hg5] at rs bs
  have RS := Lib.hid rs
  have RB2 := Lib.hid ((RB1.out.below hb2 RB1.out.lt).below bs (by have := RB1.out.lt; have := hb2.size; omega))
  have HST := Lib.hid (RowI.keep hr bs (by rw [hg5]; exact Nat.le_refl _))
  have B3 := Lib.hid (BX1.out.trans ((hb2.trans (bs.mono (by rw [hg5]; exact hb2.size))).mono BX1.out.size))
  have HW13 : Hid (w1.heap.size ≤ x3.heap.size) := Nat.le_trans hb2.size bs.size
  clear rs bs hr hb2
  go_upto_region 4 with fail
  change Code.wp _ _ _ _ (w2.alloc (.cells ([.slice (some ⟨gs, 0, none⟩) n cs] : List Value).toArray 26))
  rw [← hx3, ← hg5]
  clear hx3 hg5
  have hcel : Hid (∀ x : World, Below x3.heap.size x3 x → (Below x3.heap.size x3 x ∧ x.cell? ⟨w.heap.size, 0, none⟩ = some (.int .i64 S) ∧ x.cell? ⟨w.heap.size, 1, none⟩ = some (.int .i64 T) ∧ x.cell? ⟨w.heap.size, 2, none⟩ = some (.slice (some ⟨p2, o2, none⟩) L.length C2) ∧ x.cell? ⟨w.heap.size, 3, none⟩ = some (.slice (some ⟨p3, o3, none⟩) n C3) ∧ x.cell? ⟨w.heap.size, 4, none⟩ = some (.slice (some ⟨p4, o4, none⟩) n C4) ∧ x.cell? ⟨g5, 0, none⟩ = some (.slice (some ⟨gs, 0, none⟩) n cs))) := by
    intro x hx
    have rx := RB2.out.below hx RB2.out.lt
    exact ⟨hx, rx.cell 0, rx.cell 1, rx.cell 2, rx.cell 3, rx.cell 4, (RS.out.below hx RS.out.lt).cell 0⟩
  have hkeep : Hid (∀ x y : World, Below x3.heap.size x3 x → Below x.heap.size x y → (Below x3.heap.size x3 y ∧ y.cell? ⟨w.heap.size, 0, none⟩ = some (.int .i64 S) ∧ y.cell? ⟨w.heap.size, 1, none⟩ = some (.int .i64 T) ∧ y.cell? ⟨w.heap.size, 2, none⟩ = some (.slice (some ⟨p2, o2, none⟩) L.length C2) ∧ y.cell? ⟨w.heap.size, 3, none⟩ = some (.slice (some ⟨p3, o3, none⟩) n C3) ∧ y.cell? ⟨w.heap.size, 4, none⟩ = some (.slice (some ⟨p4, o4, none⟩) n C4) ∧ y.cell? ⟨g5, 0, none⟩ = some (.slice (some ⟨gs, 0, none⟩) n cs))) := fun x y h1 h2 => hcel.out y (h1.trans (h2.mono h1.size))
  have hkeepD : Hid (∀ (x : World) (d : Nat), Below x3.heap.size x3 x → (Below x3.heap.size x3 (x.drewN d) ∧ (x.drewN d).cell? ⟨w.heap.size, 0, none⟩ = some (.int .i64 S) ∧ (x.drewN d).cell? ⟨w.heap.size, 1, none⟩ = some (.int .i64 T) ∧ (x.drewN d).cell? ⟨w.heap.size, 2, none⟩ = some (.slice (some ⟨p2, o2, none⟩) L.length C2) ∧ (x.drewN d).cell? ⟨w.heap.size, 3, none⟩ = some (.slice (some ⟨p3, o3, none⟩) n C3) ∧ (x.drewN d).cell? ⟨w.heap.size, 4, none⟩ = some (.slice (some ⟨p4, o4, none⟩) n C4) ∧ (x.drewN d).cell? ⟨g5, 0, none⟩ = some (.slice (some ⟨gs, 0, none⟩) n cs))) := fun x d h1 => hcel.out _ (below_draws h1 d)
  have hkeepA : Hid (∀ (x : World) (ob : Obj), Below x3.heap.size x3 x → (Below x3.heap.size x3 (x.alloc ob) ∧ (x.alloc ob).cell? ⟨w.heap.size, 0, none⟩ = some (.int .i64 S) ∧ (x.alloc ob).cell? ⟨w.heap.size, 1, none⟩ = some (.int .i64 T) ∧ (x.alloc ob).cell? ⟨w.heap.size, 2, none⟩ = some (.slice (some ⟨p2, o2, none⟩) L.length C2) ∧ (x.alloc ob).cell? ⟨w.heap.size, 3, none⟩ = some (.slice (some ⟨p3, o3, none⟩) n C3) ∧ (x.alloc ob).cell? ⟨w.heap.size, 4, none⟩ = some (.slice (some ⟨p4, o4, none⟩) n C4) ∧ (x.alloc ob).cell? ⟨g5, 0, none⟩ = some (.slice (some ⟨gs, 0, none⟩) n cs))) := fun x ob h1 => hcel.out _ (h1.alloc h1.size ob)
  have hkeepS : Hid (∀ (x : World) (ob : Obj) (g q : Nat) (v : Value), Below x3.heap.size x3 x → g = x.heap.size → (Below x3.heap.size x3 ((x.alloc ob).setCell ⟨g, q, none⟩ v) ∧ ((x.alloc ob).setCell ⟨g, q, none⟩ v).cell? ⟨w.heap.size, 0, none⟩ = some (.int .i64 S) ∧ ((x.alloc ob).setCell ⟨g, q, none⟩ v).cell? ⟨w.heap.size, 1, none⟩ = some (.int .i64 T) ∧ ((x.alloc ob).setCell ⟨g, q, none⟩ v).cell? ⟨w.heap.size, 2, none⟩ = some (.slice (some ⟨p2, o2, none⟩) L.length C2) ∧ ((x.alloc ob).setCell ⟨g, q, none⟩ v).cell? ⟨w.heap.size, 3, none⟩ = some (.slice (some ⟨p3, o3, none⟩) n C3) ∧ ((x.alloc ob).setCell ⟨g, q, none⟩ v).cell? ⟨w.heap.size, 4, none⟩ = some (.slice (some ⟨p4, o4, none⟩) n C4) ∧ ((x.alloc ob).setCell ⟨g, q, none⟩ v).cell? ⟨g5, 0, none⟩ = some (.slice (some ⟨gs, 0, none⟩) n cs))) := fun x ob g q v h1 h2 => hcel.out _ ((h1.alloc h1.size ob).setCell (p := ⟨g, q, none⟩) (show x3.heap.size ≤ g by rw [h2]; exact h1.size) v)
  have hkeepT : Hid (∀ (x : World) (g q : Nat) (v : Value), Below x3.heap.size x3 x → x3.heap.size ≤ g → (Below x3.heap.size x3 (x.setCell ⟨g, q, none⟩ v) ∧ (x.setCell ⟨g, q, none⟩ v).cell? ⟨w.heap.size, 0, none⟩ = some (.int .i64 S) ∧ (x.setCell ⟨g, q, none⟩ v).cell? ⟨w.heap.size, 1, none⟩ = some (.int .i64 T) ∧ (x.setCell ⟨g, q, none⟩ v).cell? ⟨w.heap.size, 2, none⟩ = some (.slice (some ⟨p2, o2, none⟩) L.length C2) ∧ (x.setCell ⟨g, q, none⟩ v).cell? ⟨w.heap.size, 3, none⟩ = some (.slice (some ⟨p3, o3, none⟩) n C3) ∧ (x.setCell ⟨g, q, none⟩ v).cell? ⟨w.heap.size, 4, none⟩ = some (.slice (some ⟨p4, o4, none⟩) n C4) ∧ (x.setCell ⟨g, q, none⟩ v).cell? ⟨g5, 0, none⟩ = some (.slice (some ⟨gs, 0, none⟩) n cs))) := fun x g q v h1 h2 => hcel.out _ (h1.setCell (p := ⟨g, q, none⟩) h2 v)
  have hEn : Hid (∀ x : World, Below x3.heap.size x3 x → Calls Try.prog 33 #[.agg #[.int .i64 S, .int .i64 T, .slice (some ⟨p2, o2, none⟩) L.length C2, .slice (some ⟨p3, o3, none⟩) n C3, .slice (some ⟨p4, o4, none⟩) n C4]] x fun e y => ∃ ge ce, e = .returned (.slice (some ⟨ge, 0, none⟩) n ce) ∧ RowI y x3.heap.size 2 (.slice (some ⟨ge, 0, none⟩) n ce) (edV 1099511627776 L E) ∧ Below x.heap.size x y) := by
    intro x hx
    have hb := B3.out.trans (hx.mono B3.out.size)
    refine (iEnd_any S T L E (some ⟨p2, o2, none⟩) L.length C2 (some ⟨p3, o3, none⟩) n C3 (some ⟨p4, o4, none⟩) n C4 x ((H2.out.below hb (Nat.le_refl _)).more hb.size) ((H4.out.below hb (Nat.le_refl _)).more hb.size) HE1.out (by rw [HO.out.len]; exact HLK.out) hn0 hn16 (by omega)).mono ?_
    rintro e y ⟨ge, ce, rfl, h1, h2⟩
    exact ⟨ge, ce, rfl, World.ownsRow.mono h1 hx.size, h2⟩
  have HEB : Hid (Bd 1099511627776 (edV 1099511627776 L E)) := by
    have h1 : okM E.length (L.map bkE) := by rw [HO.out.len]; exact HLK.out.bkE
    exact Bd.relN (by omega) (frL_bd (by omega) HEF.out) h1.cost _
  obtain ⟨bst, hbst⟩ : ∃ b, b = lsV 1099511627776 (frL 1099511627776 P) (edV 1099511627776 L E) := ⟨_, rfl⟩
  have hLs : Hid (∀ (x : World) (ge ce : Nat), Below x3.heap.size x3 x → RowI x x3.heap.size 2 (.slice (some ⟨ge, 0, none⟩) n ce) (edV 1099511627776 L E) → Calls Try.prog 32 #[.slice (some ⟨gs, 0, none⟩) n cs, .slice (some ⟨ge, 0, none⟩) n ce] x fun e y => e = .returned (.int .i64 bst) ∧ Below x.heap.size x y) := by
    intro x ge ce hx hr
    rw [hbst]
    exact iLeastSum_any _ n cs (frL 1099511627776 P) _ ce (edV 1099511627776 L E) x ((RowI.keep HST.out hx (Nat.le_refl _)).sl (by rw [frL_len]; exact HL3.out)) (hr.sl hr.n) (frL_bd (by omega) HPF.out) HEB.out (by omega)
  have HBST := Lib.hid hbst; clear hbst
  have hfrom := hcel.out x3.drew (Below.drew (Below.refl _ _))
  have hfrom2 := hcel.out (x3.alloc (.cells #[.int .i64 0] 2)).drew (Below.drew ((Below.refl _ _).alloc (Nat.le_refl _) _))
  have hlow : Hid (∀ (x : World), Below x3.heap.size x3 x → x3.heap.size ≤ x.heap.size) := fun x h => h.size
  go_cut [6] from 20 to 24 (fun p wx => ∃ g6 : Nat, p = .pointer (some ⟨g6, 0, none⟩) ∧ Hid (x3.heap.size ≤ g6) ∧ Hid (Row wx g6 2 [.int .i64 bst]) ∧ Hid (Below x3.heap.size x3 wx))
  case first =>
    go_region_held3 (fun x => Below x3.heap.size x3 x ∧ x.cell? ⟨w.heap.size, 0, none⟩ = some (.int .i64 S) ∧ x.cell? ⟨w.heap.size, 1, none⟩ = some (.int .i64 T) ∧ x.cell? ⟨w.heap.size, 2, none⟩ = some (.slice (some ⟨p2, o2, none⟩) L.length C2) ∧ x.cell? ⟨w.heap.size, 3, none⟩ = some (.slice (some ⟨p3, o3, none⟩) n C3) ∧ x.cell? ⟨w.heap.size, 4, none⟩ = some (.slice (some ⟨p4, o4, none⟩) n C4) ∧ x.cell? ⟨g5, 0, none⟩ = some (.slice (some ⟨gs, 0, none⟩) n cs)) (first | (with_reducible assumption) | (with_reducible exact hkeepD.out _ _ (by first | (with_reducible assumption) | (with_reducible (apply And.left; assumption)))) | (with_reducible exact hkeepA.out _ _ (by first | (with_reducible assumption) | (with_reducible (apply And.left; assumption)))) | (with_reducible refine hkeepS.out _ _ _ _ _ (by first | (with_reducible assumption) | (with_reducible (apply And.left; assumption))) (by simp)) | (with_reducible refine hkeepT.out _ _ _ _ (by first | (with_reducible assumption) | (with_reducible (apply And.left; assumption))) (by first | (with_reducible exact Nat.le_refl _) | (with_reducible exact hlow.out _ (by first | (with_reducible assumption) | (with_reducible (apply And.left; assumption)))))) | go_keep)
      (first
        | (go_at_call 33; refine (hEn.out _ (by first | (with_reducible assumption) | (with_reducible (apply And.left; assumption)))).mono ?_; rintro e y1 ⟨ge, ce, rfl, he1, hb1⟩; have s1 := (fun h => hkeep.out _ _ h hb1) (by first | (with_reducible assumption) | (with_reducible (apply And.left; assumption))); (try (have ra : Row y1 x3.heap.size 2 [.int .i64 0] := (Row.new x3 2 [.int .i64 0]).drew.below hb1 (by simp)); have RA := Lib.hid ra; clear ra); have HE1' := Lib.hid he1; clear hb1 he1)
        | (go_at_call 32; refine (hLs.out _ ge ce (by first | (with_reducible assumption) | (with_reducible (apply And.left; assumption))) (by repeat (first | (with_reducible exact HE1'.out) | (with_reducible refine RowI.alloc ?_ _)))).mono ?_; rintro e y2 ⟨rfl, hb2⟩; have s2 := (fun h => hkeep.out _ _ h hb2) (by first | (with_reducible assumption) | (with_reducible (apply And.left; assumption))); (try (have ra : Row y2 x3.heap.size 2 [.int .i64 0] := RA.out.below hb2 RA.out.lt); have c6 := ra.cell 0; have f6 := ra.frozen 0; have RA2 := Lib.hid ra; clear ra); (try (have ra : Row y2 y1.heap.size 2 [.int .i64 0] := (Row.new y1 2 [.int .i64 0]).below hb2 (by simp)); have c6 := ra.cell 0; have f6 := ra.frozen 0; have RA2 := Lib.hid ra; clear ra); clear hb2))
    all_goals
      try go_wp2_with fail
      go_meet
      first
        | (refine ⟨y2.heap.size, rfl, ?_, ?_, ?_⟩
           · exact hlow.out _ s2.1
           · exact Row.new y2 2 [.int .i64 bst]
           · exact s2.1.alloc (hlow.out _ s2.1) _)
        | (refine ⟨y1.heap.size, rfl, ?_, ?_, ?_⟩
           · exact hlow.out _ s1.1
           · exact RA2.out.set_ 0 _
           · exact s2.1.setCell (p := ⟨y1.heap.size, 0, none⟩) (hlow.out _ s1.1) _)
        | (refine ⟨x3.heap.size, rfl, ?_, ?_, ?_⟩
           · exact Nat.le_refl _
           · exact RA2.out.set_ 0 _
           · exact s2.1.setCell (p := ⟨x3.heap.size, 0, none⟩) (Nat.le_refl _) _)
  case rest =>
  obtain ⟨g6, rfl, HG6, HR6, HB6⟩ := hcut
  obtain ⟨w4, rfl⟩ : ∃ x : World, x = wc := ⟨_, rfl⟩
  have HC4 := Lib.hid (hcel.out w4 HB6.out)
  have hbw4 := B3.out.trans (HB6.out.mono B3.out.size)
  have hR := iRest_any S T L P E p2 o2 p3 o3 p4 o4 C2 C3 C4 w4 ((H2.out.below hbw4 (Nat.le_refl _)).more hbw4.size) (by rw [HL3.out]; exact (H3.out.below hbw4 (Nat.le_refl _)).more hbw4.size) (by rw [HL4.out]; exact (H4.out.below hbw4 (Nat.le_refl _)).more hbw4.size) HOK.out.symm
  rw [HL3.out, HL4.out, show T.toNat = t by have := HTT.out; omega] at hR
  have HST4 := Lib.hid (RowI.keep HST.out HB6.out (Nat.le_refl _))
  have RB4 := Lib.hid (RB2.out.below HB6.out RB2.out.lt); have RS4 := Lib.hid (RS.out.below HB6.out RS.out.lt)
  have HBW4 := Lib.hid hbw4
  clear hcel hkeep hkeepD hkeepA hkeepS hkeepT hEn hLs hfrom hfrom2 hlow hbw4 RB2 RS HST B3 HW13 HEB
  obtain ⟨_, c0, c1, c2, c3, c4, _⟩ := HC4.out
  have hmf : ∀ (fn : Fn) (first cap : Array Value) (w : World), (Instr.makeFunc fn first cap).run Try.prog w = .ok (.func fn first cap) w := fun _ _ _ _ => rfl
  go_wp2_with fail
  clear c0 c1 c2 c3 c4
  refine hR.mono ?_
  rintro e w5 ⟨gt, ct, rfl, hT, hb5⟩
  clear hR HC4
  have HT5 := Lib.hid hT; have HB5 := Lib.hid hb5
  have HST5 := Lib.hid (RowI.keep HST4.out hb5 (Nat.le_refl _))
  have RB5 := Lib.hid (RB4.out.below hb5 RB4.out.lt); have RS5 := Lib.hid (RS4.out.below hb5 RS4.out.lt); have R65 := Lib.hid (HR6.out.below hb5 HR6.out.lt)
  clear hT hb5 HST4 RB4 RS4 HR6
  go_wp2_with fail
  clear hmf
  have HIX := iIndex_any w4.heap.size gt ct 13 ((List.range 13).map (rsV 1099511627776 t L E)) g5 g6 (some ⟨gs, 0, none⟩) n cs (frL 1099511627776 P) bst w5 HT5.out (by simp) (by omega) (fun r hr => by obtain ⟨k, _, rfl⟩ := List.mem_map.1 hr; rw [rsV_len]; exact HL4.out) (fun r hr => by obtain ⟨k, _, rfl⟩ := List.mem_map.1 hr; exact rsV_bd (by omega) HEF.out HLb.out k) (RS5.out.cell 0) (R65.out.cell 0) (HST5.out.sl (by rw [frL_len]; exact HL3.out)) (frL_bd (by omega) HPF.out) (by omega)
  refine HIX.mono ?_
  clear HIX
  rintro e w6 ⟨rfl, d, hd⟩
  have hb6 : Below w5.heap.size w5 w6 := by rw [hd]; exact below_draws (Below.refl _ _) d
  have HT6 := Lib.hid (HT5.out.keep hb6 (Nat.le_refl _))
  have RB6 := Lib.hid (RB5.out.below hb6 RB5.out.lt); have R66 := Lib.hid (R65.out.below hb6 R65.out.lt)
  have HBW6 := Lib.hid (HBW4.out.trans ((HB5.out.trans (hb6.mono HB5.out.size)).mono HBW4.out.size))
  have HIXV : Hid (ixV (fun r => decide (lsV 1099511627776 (frL 1099511627776 P) (((List.range 13).map (rsV 1099511627776 t L E)).getD r []) = bst)) 13 = ixV (fun r => decide (tld 1099511627776 (lgI 1099511627776 t L P E r) = bst)) 13) := by
    show _ = _
    have : fstT (fun r => decide (lsV 1099511627776 (frL 1099511627776 P) (((List.range 13).map (rsV 1099511627776 t L E)).getD r []) = bst)) 13 0 = fstT (fun r => decide (tld 1099511627776 (lgI 1099511627776 t L P E r) = bst)) 13 0 := by
      refine fstT_congr (fun j _ hj => ?_)
      have e : ((List.range 13).map (rsV 1099511627776 t L E)).getD j [] = rsV 1099511627776 t L E j := by
        rw [List.getD_eq_getElem?_getD, List.getElem?_map, List.getElem?_range (by omega)]; rfl
      have e2 : lsV 1099511627776 (frL 1099511627776 P) (rsV 1099511627776 t L E j) = tld 1099511627776 (lgI 1099511627776 t L P E j) := by unfold lsV lgI; rw [frL_len]
      show decide _ = decide _
      rw [e, e2]
    unfold ixV; rw [this]
  rw [HIXV.out]
  obtain ⟨ix, hix⟩ : ∃ x, x = ixV (fun r => decide (tld 1099511627776 (lgI 1099511627776 t L P E r) = bst)) 13 := ⟨_, rfl⟩
  rw [← hix]
  have HIX := Lib.hid hix
  have HBB : Hid (bwB 1099511627776 S T L P E = (decide (bcI 1099511627776 L P E < 1099511627776) && decide (lI 1099511627776 t L P E < 13))) := by show _ = _; unfold bwB; rw [← HOK.out, Bool.true_and, show T.toNat = t by have := HTT.out; omega]
  have HBE : Hid (bst = tld 1099511627776 (bcI 1099511627776 L P E)) := by show _ = _; rw [HBST.out, lsV_bc]
  have hnn := bc_nn HO.out (F := 1099511627776) (by omega)
  have HNN := Lib.hid hnn
  clear hix hd hb6 HT5 RB5 RS5 R65 HST5 HB5 HBW4 HB6 HIXV hnn HBST
  have k6 := R66.out.cell 0
  by_cases hb0 : bst < 0
  · have HF : Hid (bwB 1099511627776 S T L P E = false) := by
      show _ = _
      rw [HBB.out]
      have h1 := HBE.out
      have h2 := HNN.out
      unfold tld at h1
      split at h1
      · rw [decide_eq_false (by omega)]; rfl
      · omega
    have HN := Lib.hid (bw_none HF.out)
    go_wp2_with fail
    go_ret3
    rw [HF.out, HN.out.1, HN.out.2]
    exact ⟨none, 0, rfl, World.ownsRow_nil _ _ _ _, HBW6.out⟩
  have hb1 : 0 ≤ bst := by omega
  have hbF : Hid (bcI 1099511627776 L P E < 1099511627776 ∧ bst = bcI 1099511627776 L P E) := by
    have h1 := HBE.out
    unfold tld at h1
    split at h1
    · omega
    · exact ⟨by omega, h1⟩
  clear hb0
  have hIXE : Hid (ix = ixV (fun r => decide (tld 1099511627776 (lgI 1099511627776 t L P E r) = bcI 1099511627776 L P E)) 13) := by show _ = _; rw [HIX.out, hbF.out.2]
  by_cases hi0 : ix < 0
  · have HF : Hid (bwB 1099511627776 S T L P E = false) := by
      show _ = _
      rw [HBB.out]
      have h1 := hIXE.out
      unfold ixV at h1
      split at h1
      · omega
      · next hh =>
        rw [decide_eq_false (p := lI 1099511627776 t L P E < 13) hh, Bool.and_false]
    have HN := Lib.hid (bw_none HF.out)
    go_wp2_with fail
    go_ret3
    rw [HF.out, HN.out.1, HN.out.2]
    exact ⟨none, 0, rfl, World.ownsRow_nil _ _ _ _, HBW6.out⟩
  obtain ⟨r0, hr0⟩ : ∃ r : Nat, r = lI 1099511627776 t L P E := ⟨_, rfl⟩
  have hr12 : ix = (r0 : Int) ∧ r0 < 13 := by
    have h1 := hIXE.out
    unfold ixV at h1
    split at h1
    · next hh => exact ⟨by rw [h1, hr0]; rfl, by rw [hr0]; exact hh⟩
    · omega
  obtain ⟨e0, hr13⟩ := hr12
  subst e0
  have HHT : Hid (Ht P.length t L P E [] r0 bst) := by
    show Ht _ _ _ _ _ _ _ _
    rw [hbF.out.2]
    refine (lgI_iff HO.out (by omega) hbF.out.1 r0).1 ?_
    have h1 := (fstT_lt (p := fun r => decide (tld 1099511627776 (lgI 1099511627776 t L P E r) = bcI 1099511627776 L P E)) (f := 13) (l := 0) (show lI 1099511627776 t L P E < 0 + 13 by rw [← hr0]; omega)).1
    have h2 : decide (tld 1099511627776 (lgI 1099511627776 t L P E (lI 1099511627776 t L P E)) = bcI 1099511627776 L P E) = true := h1
    rw [← hr0] at h2
    exact of_decide_eq_true h2
  have HR0 := Lib.hid hr0
  have HTR : Hid (bwB 1099511627776 S T L P E = true) := by
    show _ = _
    rw [HBB.out, decide_eq_true hbF.out.1, decide_eq_true (show lI 1099511627776 t L P E < 13 by rw [← hr0]; exact hr13)]; rfl
  have HWW : Hid (bwW 1099511627776 S T L P E = (gwW (hI 1099511627776 t L P E) t r0 []).reverse) := by
    show _ = _
    unfold bwW
    rw [HTR.out, if_pos rfl, show T.toNat = t by have := HTT.out; omega, ← hr0]
  have HCC : Hid (bwC 1099511627776 S T L P E = bst) := by show _ = _; unfold bwC; rw [HTR.out, if_pos rfl]; exact hbF.out.2.symm
  have hi1 : (0 : Int) ≤ (r0 : Int) := by omega
  clear hi0 HIX hIXE hr0 HBB HBE
  have rb6 := RB6.out.alloc (.cells #[] 2)
  have c0 := rb6.cell 0; have c1 := rb6.cell 1; have c2 := rb6.cell 2; have c3 := rb6.cell 3; have c4 := rb6.cell 4
  have hba : Below w6.heap.size w6 (w6.alloc (.cells #[] 2)) := (Below.refl _ _).alloc (Nat.le_refl _) _
  have hbwa := HBW6.out.trans (hba.mono HBW6.out.size)
  have hFi := iFirst_any S T (some ⟨p2, o2, none⟩) L.length C2 (some ⟨p3, o3, none⟩) n C3 (some ⟨p4, o4, none⟩) n C4 L P _ ((H2.out.below hbwa (Nat.le_refl _)).more hbwa.size) ((H3.out.below hbwa (Nat.le_refl _)).more hbwa.size) HP1.out (by rw [← HL3.out]; exact HLK.out) hn0 (by omega) (by omega)
  have hrm := RowI.made w6 w6.heap.size 2 (Nat.le_refl _)
  have HRM := Lib.hid hrm; have HBA := Lib.hid hba
  clear rb6 hbwa hrm hba
  go_wp2_with fail
  clear c0 c1 c2 c3 c4 k6
  refine hFi.mono ?_
  rintro e w7 ⟨gc0, cc0, rfl, hc7, hb7⟩
  clear hFi
  have HRW7 := Lib.hid (RowI.keep HRM.out hb7 (Nat.le_refl _))
  have HC7 : Hid (RowI w7 w6.heap.size 2 (.slice (some ⟨gc0, 0, none⟩) n cc0) (fiV 1099511627776 L P)) := World.ownsRow.mono hc7 HBA.out.size
  have HAP : Hid (∀ k, (Value.slice (some ⟨w6.heap.size, 0, none⟩) 0 0).ownBlock = some k → k ≠ gc0) := fun k hk => by
    have h1 := hc7.lt.1
    have h2 : (w6.alloc (.cells #[] 2)).heap.size = w6.heap.size + 1 := by simp
    simp [Value.ownBlock] at hk
    omega
  have HB7 := Lib.hid (HBA.out.trans (hb7.mono HBA.out.size))
  clear hc7 hb7 HRM HBA
  have hw1 : IntKind.i64.wrap ((r0 : Int) - 1) = (r0 : Int) - 1 := IntWalk.i64_in _ (by omega)
  go_wp2_with fail
  go_loopg [9, 10, 11, 12, 13] 13 (fun q wd cst lf u12 u13 wr => ∃ (r m : Nat) (A : Option Addr) (c gc cc : Nat) (rw : List Int), lf = .int .i64 ((r : Int) - 1) ∧ r ≤ q ∧ m + r = r0 ∧ wd = .slice A m c ∧ cst = .slice (some ⟨gc, 0, none⟩) n cc ∧ Hid (rw.length = m) ∧ Hid (RowI wr w6.heap.size 2 (.slice A m c) rw.reverse) ∧ Hid (RowI wr w6.heap.size 2 (.slice (some ⟨gc, 0, none⟩) n cc) (cwV 1099511627776 L P rw)) ∧ Hid (∀ k, (Value.slice A m c).ownBlock = some k → k ≠ gc) ∧ Hid (Below w6.heap.size w6 wr) ∧ Hid (gwW (hI 1099511627776 t L P E) t r rw = gwW (hI 1099511627776 t L P E) t r0 []) ∧ Hid (Ht P.length t L P E rw r bst))
  case atStart => exact ⟨r0, 0, _, _, gc0, cc0, [], rfl, by omega, by omega, rfl, rfl, rfl, HRW7.out, HC7.out, HAP.out, HB7.out, rfl, HHT.out⟩
  case round =>
    clear HRW7 HC7 HAP HB7 HHT hw1
    obtain ⟨r, m, A, c, gc, cc, rw', rfl, hrq, hmr, rfl, rfl, HLN, HRW, HCW, HAP, HB, HGW, HHT⟩ := hrel
    obtain ⟨wo, rfl⟩ : ∃ x : World, x = wr := ⟨_, rfl⟩
    obtain ⟨gz, hgz⟩ : ∃ g : Nat, g = gk := ⟨_, rfl⟩
    rcases r with _ | r
    · have k6 := (R66.out.below HB.out R66.out.lt).cell 0
      have q0 : ((0 : Nat) : Int) - 1 < 0 := by omega
      have q1 : ¬ ((0 : Nat) : Int) - 1 ≥ 0 := by omega
      go_wp2_with fail
      go_quiet (fail)
      go_wp2_with fail
      go_ret3
      have HE : Hid (bwW 1099511627776 S T L P E = rw'.reverse) := by show _ = _; rw [HWW.out, ← HGW.out]; rfl
      rw [HTR.out, HCC.out, HE.out]
      have hrw := HRW.out.drewN nq
      unfold RowI at hrw ⊢
      rw [List.length_reverse, HLN.out] at hrw ⊢
      exact ⟨A, c, rfl, World.ownsRow.mono hrw HBW6.out.size, below_draws (HBW6.out.trans (HB.out.mono HBW6.out.size)) _⟩
    · rw [show ((r + 1 : Nat) : Int) - 1 = (r : Int) by omega]
      have q1 : (0 : Int) ≤ (r : Int) := by omega
      have c1 := (RB6.out.below HB.out RB6.out.lt).cell 1
      rw [HTT.out] at c1
      go_wp2_with fail
      clear c1
      go_loopg [9, 10, 12, 13, 46] t (fun q wd cst u12 u13 i wr => ∃ l : Nat, i = .int .i64 l ∧ l ≤ t ∧ t ≤ q + l ∧ wd = .slice A m c ∧ cst = .slice (some ⟨gc, 0, none⟩) n cc ∧ Hid (∀ j, j < l → hI 1099511627776 t L P E rw' r j = false) ∧ Hid (Below wo.heap.size wo wr))
      case atStart => exact ⟨0, rfl, by omega, by omega, rfl, rfl, fun j hj => by omega, Below.refl _ _⟩
      case round =>
        obtain ⟨l, rfl, hl, hm2, rfl, rfl, HN, HBi⟩ := hrel
        obtain ⟨wi, rfl⟩ : ∃ x : World, x = wr := ⟨_, rfl⟩
        by_cases hlt : l < t
        · have q2 : (l : Int) < (t : Int) := by omega
          have hb6i : Below w6.heap.size w6 wi := HB.out.trans (HBi.out.mono HB.out.size)
          have hbwi := HBW6.out.trans (hb6i.mono HBW6.out.size)
          have rbi := RB6.out.below hb6i RB6.out.lt
          have c0 := rbi.cell 0; have c1 := rbi.cell 1; have c2 := rbi.cell 2; have c3 := rbi.cell 3; have c4 := rbi.cell 4
          have HCi := Lib.hid (RowI.keep HCW.out HBi.out (Nat.le_refl _))
          have HWi := Lib.hid (RowI.keep HRW.out HBi.out (Nat.le_refl _))
          have hSt := iStep_any (some ⟨gc, 0, none⟩) n cc (cwV 1099511627776 L P rw') (l : Int) S T (some ⟨p2, o2, none⟩) L.length C2 (some ⟨p3, o3, none⟩) n C3 (some ⟨p4, o4, none⟩) n C4 L wi ((H2.out.below hbwi (Nat.le_refl _)).more hbwi.size) (HCi.out.sl (by rw [cwV_len]; exact HL3.out)) (cwV_bd (by omega) HPF.out HLc.out rw') (by rw [← HL3.out]; exact HLK.out) hn0 (by omega) (by omega)
          have HB6i := Lib.hid hb6i
          clear rbi hbwi hb6i
          go_wp2_with fail
          clear c0 c1 c2 c3 c4
          refine hSt.mono ?_
          rintro e wj ⟨gn, cn, rfl, hrn, hbj⟩
          clear hSt
          have hb6j : Below w6.heap.size w6 wj := HB6i.out.trans (hbj.mono HB6i.out.size)
          have hTj := HT6.out.keep hb6j (Nat.le_refl _)
          have hxk : ((List.range 13).map (rsV 1099511627776 t L E))[r]? = some (rsV 1099511627776 t L E r) := by rw [List.getElem?_map, List.getElem?_range (by omega)]; rfl
          obtain ⟨gt', ct', gr, cr, hv, _, _, _, hck, _, _, hgr, _, hcells⟩ := hTj.at_ hxk
          injection hv with e1 e2 e3
          clear e2 e3
          injection e1 with e1
          injection e1 with e1 _ _
          subst e1
          rw [rsV_len, HL4.out] at hck
          have hsl : SlI wj wj.heap.size (some ⟨gr, 0, none⟩) n (rsV 1099511627776 t L E r) := ⟨by rw [iv_length, rsV_len]; exact HL4.out, fun _ => ⟨gr, 0, rfl, hgr, fun j u hu => by
            obtain ⟨y, hy, rfl⟩ := iv_get hu
            rw [Nat.zero_add]; exact hcells j y hy⟩⟩
          have k6 := (R66.out.below hb6j R66.out.lt).cell 0
          obtain ⟨x, hx⟩ : ∃ x, x = lsV 1099511627776 (stV 1099511627776 L (l : Int) (cwV 1099511627776 L P rw')) (rsV 1099511627776 t L E r) := ⟨_, rfl⟩
          have hQ : Hid (∀ q, Calls Try.prog 32 #[.slice (some ⟨gn, 0, none⟩) n cn, .slice (some ⟨gr, 0, none⟩) n cr] (wj.drewN q) fun e w' => e = .returned (.int .i64 x) ∧ ∃ m, w' = (wj.drewN q).drewN m) := by
            intro q; rw [hx]
            exact iLeastSumQ_any (some ⟨gn, 0, none⟩) n cn (stV 1099511627776 L (l : Int) (cwV 1099511627776 L P rw')) (some ⟨gr, 0, none⟩) cr (rsV 1099511627776 t L E r) (wj.drewN q) (hrn.sl hrn.n) hsl (stV_bd (by omega) (cwV_bd (by omega) HPF.out HLc.out rw') HLc.out) (rsV_bd (by omega) HEF.out HLb.out r) (by omega)
          have HXE : Hid (hI 1099511627776 t L P E rw' r l = decide (x = bst)) := by
            show _ = _
            have e : tld 1099511627776 (htI 1099511627776 t L P E rw' r l) = x := by rw [hx]; unfold lsV htI; rw [stV_len, cwV_len]
            unfold hI; rw [e, hbF.out.2]
          have HWj := Lib.hid (RowI.keep HWi.out hbj (Nat.le_refl _)); have HNj := Lib.hid hrn; have HBj := Lib.hid hbj; have HB6j := Lib.hid hb6j
          have hwi6 : w6.heap.size ≤ wi.heap.size := HB6i.out.size
          have hwj6 : w6.heap.size ≤ wj.heap.size := hb6j.size
          have l0 : (r : Int) < 13 := by omega
          clear hxk hcells hsl hTj hrn hbj hb6j hx
          have hwr : IntKind.i64.wrap ((r : Int) - 1) = (r : Int) - 1 := IntWalk.i64_in _ (by omega)
          by_cases hxb : x = bst
          · have q3 : (x == bst) = true := by rw [hxb]; simp
            have HHI : Hid (hI 1099511627776 t L P E rw' r l = true) := by show _ = _; rw [HXE.out]; exact decide_eq_true hxb
            have HFS := Lib.hid (fstT_hit (p := hI 1099511627776 t L P E rw' r) HN.out hlt HHI.out)
            clear hxb
            go_wp2_with fail
            go_quiet ((go_at_call 32; exact Calls.quiet_of (hQ.out _)))
            have HLR : Hid (rw'.reverse.length = m) := by show _ = _; rw [List.length_reverse]; exact HLN.out
            have HLEN : Hid (rw'.reverse.length + 1 ≤ 4294967296) := by show _ ≤ _; rw [HLR.out]; omega
            obtain ⟨wq, hwq⟩ : ∃ y, y = wj.drewN nq := ⟨_, rfl⟩
            have HWq : Hid (RowI wq w6.heap.size 2 (.slice A m c) rw'.reverse) := by show RowI _ _ _ _ _; rw [hwq]; exact HWj.out.drewN nq
            have HNq : Hid (RowI wq wi.heap.size 2 (.slice (some ⟨gn, 0, none⟩) n cn) (stV 1099511627776 L (l : Int) (cwV 1099511627776 L P rw'))) := by show RowI _ _ _ _ _; rw [hwq]; exact HNj.out.drewN nq
            have HBq : Hid (Below w6.heap.size w6 wq) := by show Below _ _ _; rw [hwq]; exact below_draws HB6j.out nq
            have hsq : w6.heap.size ≤ wq.heap.size := HBq.out.size
            rw [← hwq]
            clear hwq k6 hck HNj HWj HBj HB6j
            go_wp2_with (first | (at_builtin; refine wpList_int_push wq rfl (.tmp 61) (.tmp 63) _ rfl w6.heap.size 2 Try.underlying26 infoQ (.slice A m c) rw'.reverse rfl HWq.out (l : Int) rfl HLEN.out hsq ?_; intro g' cap w' hown hbl hat hgr; have HAT := Lib.hid hat; have HGR := Lib.hid hgr; have HOW := Lib.hid hown; have HBL := Lib.hid hbl; clear hown hbl hat hgr))
            go_roundg (gz - 1)
            case measure => omega
            case rel =>
              have hgn : ∀ k, (Value.slice A m c).ownBlock = some k → k < wi.heap.size := fun k hk => (HWi.out.lt' k hk).2
              have hgl := HNq.out.lt
              refine ⟨r, m + 1, some ⟨g', 0, none⟩, cap, gn, cn, (l : Int) :: rw', rfl, by omega, by omega, by first | rfl | (rw [HLN.out]) | (rw [HLR.out]), rfl, ?_, ?_, ?_, ?_, HBq.out.trans HBL.out, ?_, ?_⟩
              · show _ = _; rw [List.length_cons, HLN.out]
              · show RowI _ _ _ _ _
                rw [List.reverse_cons]
                have := HOW.out
                rw [HLR.out] at this
                exact this
              · show RowI _ _ _ _ _
                exact own_move (World.ownsRow.mono HNq.out hwi6) (fun q hq => HGR.out.block q (by simp [Value.ownBlock] at hq; omega) (fun e => by
                  have := hgn q e.symm
                  simp [Value.ownBlock] at hq; omega))
              · intro k hk
                simp [Value.ownBlock] at hk
                subst hk
                rcases HAT.out with e | e
                · have := hgn _ e; omega
                · omega
              · show _ = _
                rw [← HGW.out, gwW, HFS.out]
              · show Ht _ _ _ _ _ _ _ _
                have h1 := of_decide_eq_true HHI.out
                rw [hbF.out.2]
                exact (htI_iff HO.out (by omega) hbF.out.1 rw' r l).1 h1
          · have q3 : (x == bst) = false := by rw [beq_eq_false_iff_ne]; exact hxb
            have HN2 : Hid (∀ j, j < l + 1 → hI 1099511627776 t L P E rw' r j = false) := fun j hj => by
              by_cases e : j = l
              · rw [e, HXE.out]; exact decide_eq_false hxb
              · exact HN.out j (by omega)
            clear hxb
            go_wp2_with fail
            go_quiet ((go_at_call 32; exact Calls.quiet_of (hQ.out _)))
            go_wp2_with fail
            go_roundg (gk - 1)
            case measure => omega
            case rel => exact ⟨l + 1, by go_num, by omega, by omega, rfl, rfl, HN2.out, below_draws (HBi.out.trans (HBj.out.mono HBi.out.size)) _⟩
        · exfalso
          have hh : ∀ l, hI 1099511627776 t L P E rw' r l = true ↔ Ht P.length t L P E ((l : Int) :: rw') r bst := fun l => by
            rw [hbF.out.2]; unfold hI; rw [decide_eq_true_iff]; exact htI_iff HO.out (by omega) hbF.out.1 rw' r l
          obtain ⟨a, b, _, _⟩ := nextL hh HHT.out
          rw [HN.out _ (by omega)] at a
          cases a
end Go.Proofs.Ytedbngnkkfpbeaa
