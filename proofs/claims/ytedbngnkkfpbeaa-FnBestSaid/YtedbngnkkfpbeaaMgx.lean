/- Several texts in one: BestWords of the reference: the cost of a word by the steps laid ready (l02Found). BestWords of the reference: words and costs in two rows, one put in its place. BestWords of the reference: both rows in memory. -/
import Derived.Test.YtedbngnkkfpbeaaMgw
import Derived.Test.YtedbngnkkfpbeaaMgl

namespace Go.Proofs.Ytedbngnkkfpbeaa
open Go.RowKit
set_option linter.unusedVariables false
set_option maxRecDepth 100000 in
set_option maxHeartbeats 4000000 in
theorem sFound_any (gA cA t n : Nat) (L : List A4) (P E : List Int) (C : List (List Int)) (Ae : Option Addr) (ce : Nat) (An : Option Addr) (cn : Nat) (Aw : Option Addr) (m cw : Nat) (xs : List Int) (w : World) (hA : Al3 w gA n (alV L C t)) (he : SlI w w.heap.size Ae n (enV 1000000000 n E C)) (hn : SlI w w.heap.size An n (frL 1000000000 P)) (hx : SlI w w.heap.size Aw m xs) (hxT : ∀ x ∈ xs, 0 ≤ x ∧ x < (t : Int)) (hPn : P.length = n) (hP : ∀ x ∈ P, x ≤ 1000) (hL : okM n L) (hC : ClsT 1000000000 n L C) (hn1 : n ≤ 1000000) (hm : m ≤ 1000000) (ht : t ≤ 4) :
    Calls Try.prog 51 #[.slice (some ⟨gA, 0, none⟩) t cA, .slice Ae n ce, .slice An n cn, .slice Aw m cw] w fun e w' => e = .returned (.int .i64 (csR 1000000000 L P E C xs)) ∧ Below w.heap.size w w' := by
  have ex := hx.len
  have HA := Lib.hid hA; have HE := Lib.hid he; have HN := Lib.hid hn; have HX := Lib.hid hx; have HXT := Lib.hid hxT; have EX := Lib.hid ex; have HPN := Lib.hid hPn
  have HPF : Hid (∀ x ∈ P, x ≤ 1000000000) := fun x hx => by have := hP x hx; omega
  have HC := Lib.hid hC
  clear hA he hn hx hxT ex hPn hC
  go_enter Try.func51, Try.ntmps51
  go_wp2_with fail
  go_loopg [2, 9] m (fun q o i wr => ∃ (k : Nat) (A1 : Option Addr) (c1 : Nat), i = .int .i64 k ∧ k ≤ m ∧ m ≤ q + k ∧ o = .slice A1 n c1 ∧ Hid (SlI wr wr.heap.size A1 n (rwV 1000000000 L P C xs k)) ∧ Hid (Below w.heap.size w wr))
  case atStart => exact ⟨0, An, cn, rfl, by omega, by omega, rfl, HN.out, Below.refl _ _⟩
  case round =>
    obtain ⟨k, A1, c1, rfl, hk, hmq, rfl, HR, HB⟩ := hrel
    obtain ⟨wo, rfl⟩ : ∃ x : World, x = wr := ⟨_, rfl⟩
    by_cases hlt : k < m
    · have q1 : (k : Int) < (m : Int) := by omega
      obtain ⟨b, off, x, rfl, _, hxk, kx⟩ := (HX.out.below HB.out (Nat.le_refl _)).at_ hlt
      have HST : Hid (rwV 1000000000 L P C xs (k + 1) = mvV 1000000000 (rwV 1000000000 L P C xs k) (spV 1000000000 L x C)) := by show _ = _; rw [rwV, g0_get hxk.out]
      have hxb := HXT.out x (List.mem_of_getElem? hxk.out)
      obtain ⟨l, hl⟩ : ∃ l : Nat, x = (l : Int) := ⟨x.toNat, by omega⟩
      subst hl
      obtain ⟨g, c, e1, e2, e3⟩ := (HA.out.below HB.out (Nat.le_refl _)) l _ (alV_at (L := L) (C := C) (show l < t by omega))
      have q2 : (l : Int) < (t : Int) := by omega
      have q3 : (0 : Int) ≤ (l : Int) := by omega
      have wk : IntKind.i64.wrap ((k : Int) + 1) = ((k + 1 : Nat) : Int) := by rw [IntWalk.i64_in _ (by omega)]; omega
      have CM := Lib.hid (sMove_any A1 n c1 (rwV 1000000000 L P C xs k) g c (spV 1000000000 L (l : Int) C) wo HR.out e3 (rwV_bd (by omega) HPF.out hL.cost HC.out.2.1 xs k) (spV_bd (by omega) HC.out.2.1 hL.cost) hn1)
      have HLN : Hid ((mvV 1000000000 (rwV 1000000000 L P C xs k) (spV 1000000000 L (l : Int) C)).length = n) := by show _ = _; rw [mvV_len, rwV_len]; exact HPN.out
      clear hxk hxb e2 e3
      go_wp2_with (first
        | (go_at_call 71; refine CM.out.mono ?_; rintro e w4 ⟨A4, c4, rfl, hr4, hb4⟩; have HR4 := Lib.hid hr4; have HB4 := Lib.hid hb4; clear hr4 hb4 e1 kx))
      go_roundg (gk - 1)
      case measure => omega
      case rel =>
        refine ⟨k + 1, A4, c4, by go_num, by omega, by omega, rfl, ?_, HB.out.trans (HB4.out.mono HB.out.size)⟩
        show SlI _ _ _ _ _
        rw [HST.out]
        exact RowI.sl HR4.out HLN.out
    · have hkk : k = m := by omega
      have q1 : ¬ (k : Int) < (m : Int) := by omega
      have hD : rwV 1000000000 L P C xs k = rwV 1000000000 L P C xs xs.length := by rw [hkk, EX.out]
      have CS := Lib.hid (sSum_any A1 n c1 (rwV 1000000000 L P C xs k) Ae ce (enV 1000000000 n E C) wo HR.out ((HE.out.below HB.out (Nat.le_refl _)).more HB.out.size) (rwV_bd (by omega) HPF.out hL.cost HC.out.2.1 xs k) (enV_bd (by omega) n HC.out.2.1) hn1)
      have HFIN : Hid (tld 1000000000 (lsm 1000000000 (rwV 1000000000 L P C xs k) (enV 1000000000 n E C) (rwV 1000000000 L P C xs k).length) = csR 1000000000 L P E C xs) := by
        show _ = _
        unfold csR; rw [rwV_len, HPN.out, hD]
      clear hkk hlt hD
      go_wp2_with (first
        | (go_at_call 73; refine CS.out.mono ?_; rintro e w5 ⟨rfl, hb5⟩; have HB5 := Lib.hid hb5; clear hb5)
        | (go_at_call 72; refine (sTold_any _ _).mono ?_; rintro e w6 ⟨rfl, hw⟩; obtain rfl := hw))
      go_ret
      exact ⟨ret_int HFIN.out, HB.out.trans (HB5.out.mono HB.out.size)⟩
end Go.Proofs.Ytedbngnkkfpbeaa


namespace Go.Proofs.Ytedbngnkkfpbeaa
open Go.RowKit
set_option linter.unusedVariables false
theorem insK_at (x : Ce) : ∀ {M1 M2 : List Ce}, (∀ y ∈ M1, y.c ≤ x.c) → (∀ y ∈ M2, x.c < y.c) → insK (fun e : Ce => e.c) x (M1 ++ M2) = M1 ++ x :: M2
  | [], [], _, _ => rfl
  | [], y :: l, _, h => if_pos (h y List.mem_cons_self)
  | z :: M1, M2, h1, h2 => by
    have h := h1 z List.mem_cons_self
    have e : insK (fun e : Ce => e.c) x (z :: (M1 ++ M2)) = z :: insK (fun e : Ce => e.c) x (M1 ++ M2) := if_neg (show ¬ x.c < z.c by omega)
    show insK (fun e : Ce => e.c) x (z :: (M1 ++ M2)) = z :: (M1 ++ x :: M2)
    rw [e, insK_at x (fun y hy => h1 y (List.mem_cons_of_mem _ hy)) h2]
/-- A row cut short. -/
theorem own_cut {w : World} {base g n c m : Nat} {t : TypeId} {X : List Value} (h : w.ownsRow base t 1 (.slice (some ⟨g, 0, none⟩) n c) n X) (hm : m ≤ n) (h0 : 0 < n) : w.ownsRow base t 1 (.slice (some ⟨g, 0, none⟩) m c) m (X.take m) := by
  obtain ⟨hl, h2⟩ := h
  refine ⟨by rw [List.length_take]; omega, ?_⟩
  rcases h2 with ⟨e, -⟩ | ⟨g', cap, cur, e, hb, hg, hnc, hmx, hs, ht⟩
  · injection e with e1 _ _; cases e1
  · injection e with e1 e2 e3
    refine .inr ⟨g', cap, cur, by rw [e1, e3], hb, hg, by omega, hmx, hs, ?_⟩
    rw [← ht, List.take_take]
    congr 1; omega
/-- What holds in every world that has turned nothing but two blocks. -/
def Kp2 (w : World) (g1 g2 : Nat) (F : World → Prop) : Prop := ∀ x : World, w.heap.size ≤ x.heap.size → (∀ k, k < w.heap.size → k ≠ g1 → k ≠ g2 → x.heap[k]? = w.heap[k]?) → F x
theorem Kp2.now {w : World} {g1 g2 : Nat} {F : World → Prop} (h : Kp2 w g1 g2 F) : F w := h w (Nat.le_refl _) (fun _ _ _ _ => rfl)
theorem Kp2.step {w w' : World} {g1 g2 g1' g2' : Nat} {F : World → Prop} (h : Kp2 w g1 g2 F) (hs : w.heap.size ≤ w'.heap.size) (hk : ∀ k, k < w.heap.size → k ≠ g1 → k ≠ g2 → w'.heap[k]? = w.heap[k]?) (h1 : g1' = g1 ∨ w.heap.size ≤ g1') (h2 : g2' = g2 ∨ w.heap.size ≤ g2') : Kp2 w' g1' g2' F := fun x hx hk' =>
  h x (Nat.le_trans hs hx) (fun k a b c => (hk' k (by omega) (by omega) (by omega)).trans (hk k a b c))
theorem Kp2.below {w w' : World} {g1 g2 B : Nat} {F : World → Prop} (h : Kp2 w g1 g2 F) (hb : Below B w w') (hB : w.heap.size ≤ B) : Kp2 w' g1 g2 F :=
  h.step hb.size (fun k a _ _ => hb.block k (by omega)) (.inl rfl) (.inl rfl)
end Go.Proofs.Ytedbngnkkfpbeaa


namespace Go.Proofs.Ytedbngnkkfpbeaa
open Go.RowKit
set_option linter.unusedVariables false
def hdQ (Q : List Ce) : List Value := Q.map fun e => Value.slice e.A e.n e.k
def csQ (Q : List Ce) : List Value := Q.map fun e => Value.int .i64 e.c
/-- Words and their costs in two rows of the call's own. -/
structure Pr2 (w : World) (lo gw cw gc cc : Nat) (Q : List Ce) : Prop where
  ow : w.ownsRow lo 26 1 (.slice (some ⟨gw, 0, none⟩) Q.length cw) Q.length (hdQ Q)
  oc : w.ownsRow lo 2 1 (.slice (some ⟨gc, 0, none⟩) Q.length cc) Q.length (csQ Q)
  ne : gw ≠ gc
section
variable {w w' : World} {lo gw cw gc cc : Nat} {Q : List Ce}
theorem Pr2.at_ (h : Pr2 w lo gw cw gc cc Q) {i : Nat} {e : Ce} (hi : Q[i]? = some e) : (w.cell? ⟨gw, i, none⟩ = some (.slice e.A e.n e.k) ∧ w.frozen? ⟨gw, i, none⟩ = false) ∧ (w.cell? ⟨gc, i, none⟩ = some (.int .i64 e.c) ∧ w.frozen? ⟨gc, i, none⟩ = false) :=
  ⟨oc_cell h.ow (by unfold hdQ; rw [List.getElem?_map, hi]; rfl), oc_cell h.oc (by unfold csQ; rw [List.getElem?_map, hi]; rfl)⟩
theorem Pr2.keep {B : Nat} (h : Pr2 w lo gw cw gc cc Q) (hb : Below B w w') (hB : w.heap.size ≤ B) : Pr2 w' lo gw cw gc cc Q :=
  ⟨own_move h.ow (fun k hk => hb.block k (Nat.lt_of_lt_of_le (h.ow.lt k hk).2 hB)), own_move h.oc (fun k hk => hb.block k (Nat.lt_of_lt_of_le (h.oc.lt k hk).2 hB)), h.ne⟩
theorem Pr2.cut (h : Pr2 w lo gw cw gc cc Q) {m : Nat} (hm : m ≤ Q.length) (h0 : 0 < Q.length) : Pr2 w lo gw cw gc cc (Q.take m) := by
  have e : (Q.take m).length = m := by rw [List.length_take]; omega
  refine ⟨?_, ?_, h.ne⟩
  · rw [e]; unfold hdQ; rw [List.map_take]; exact own_cut h.ow hm h0
  · rw [e]; unfold csQ; rw [List.map_take]; exact own_cut h.oc hm h0
theorem Pr2.swap (h : Pr2 w lo gw cw gc cc Q) {i j : Nat} {x y : Ce} (hx : Q[i]? = some x) (hy : Q[j]? = some y) :
    Pr2 ((((w.setCell ⟨gc, i, none⟩ (.int .i64 y.c)).setCell ⟨gc, j, none⟩ (.int .i64 x.c)).setCell ⟨gw, i, none⟩ (.slice y.A y.n y.k)).setCell ⟨gw, j, none⟩ (.slice x.A x.n x.k)) lo gw cw gc cc (swp Q i j) := by
  have hi := (List.getElem?_eq_some_iff.1 hx).1
  have hj := (List.getElem?_eq_some_iff.1 hy).1
  have es : swp Q i j = (Q.set i y).set j x := by unfold swp; rw [List.getD_eq_getElem?_getD, List.getD_eq_getElem?_getD, hx, hy]; rfl
  have hne := h.ne
  have l1 : (csQ Q).length = Q.length := by simp [csQ]
  have l2 : (hdQ Q).length = Q.length := by simp [hdQ]
  have c1 := oc_set (u := .int .i64 y.c) h.oc (i := i) (by rw [l1]; exact hi)
  have c2 := oc_set (u := .int .i64 x.c) c1 (i := j) (by rw [List.length_set, l1]; exact hj)
  have m1 : ((w.setCell ⟨gc, i, none⟩ (.int .i64 y.c)).setCell ⟨gc, j, none⟩ (.int .i64 x.c)).ownsRow lo 26 1 (.slice (some ⟨gw, 0, none⟩) Q.length cw) Q.length (hdQ Q) := own_move h.ow (fun k hk => by
    have hk2 : k = gw := by simp [Value.ownBlock] at hk; exact hk.symm
    subst hk2
    exact (Below.heap_setCell _ ⟨gc, j, none⟩ _ _ hne).trans (Below.heap_setCell _ ⟨gc, i, none⟩ _ _ hne))
  have w1 := oc_set (u := .slice y.A y.n y.k) m1 (i := i) (by rw [l2]; exact hi)
  have w2 := oc_set (u := .slice x.A x.n x.k) w1 (i := j) (by rw [List.length_set, l2]; exact hj)
  have hl : (swp Q i j).length = Q.length := swp_len Q i j
  refine ⟨?_, ?_, hne⟩
  · rw [hl, es]; unfold hdQ at w2 ⊢; rw [List.map_set, List.map_set]; exact w2
  · rw [hl, es]
    unfold csQ at c2 ⊢
    rw [List.map_set, List.map_set]
    refine own_move c2 (fun k hk => ?_)
    have hk2 : k = gc := by simp [Value.ownBlock] at hk; exact hk.symm
    subst hk2
    exact (Below.heap_setCell _ ⟨gw, j, none⟩ _ _ (Ne.symm hne)).trans (Below.heap_setCell _ ⟨gw, i, none⟩ _ _ (Ne.symm hne))
end
/-- One more put in, all cut: the same as one more sorted in, all cut. -/
theorem srt_cut {β : Type} (k : β → Int) (cnt : Nat) (L : List β) (x : β) : (srtK k (L ++ [x])).take cnt = (insK k x ((srtK k L).take cnt)).take cnt := by
  rw [srtK_snoc]; exact (insK_take k x cnt (srtK k L)).symm
/-- A costed word that can be read. -/
def RdX (w : World) (lo : Nat) (p : Ce × List Int) : Prop := ∃ gr, p.1.A = some ⟨gr, 0, none⟩ ∧ p.1.n = p.2.length ∧ p.2.length ≤ p.1.k ∧ lo ≤ gr ∧ gr < w.heap.size ∧ ∀ (k : Nat) (x : Int), p.2[k]? = some x → w.cell? ⟨gr, k, none⟩ = some (.int .i64 x)
theorem RdX.keep {w w' : World} {lo g1 g2 : Nat} {p : Ce × List Int} (h : RdX w lo p) (hs : w.heap.size ≤ w'.heap.size) (hk : ∀ k, k < w.heap.size → k ≠ g1 → k ≠ g2 → w'.heap[k]? = w.heap[k]?) (h1 : ∀ gr, p.1.A = some ⟨gr, 0, none⟩ → gr ≠ g1 ∧ gr ≠ g2) : RdX w' lo p := by
  obtain ⟨gr, e1, e2, e3, e4, e5, e6⟩ := h
  obtain ⟨a, b⟩ := h1 gr e1
  exact ⟨gr, e1, e2, e3, e4, Nat.lt_of_lt_of_le e5 hs, fun k x hx => (World.cell?_of_block (a := ⟨gr, k, none⟩) (hk gr e5 a b)).trans (e6 k x hx)⟩
/-- Both rows and all words of theirs: what a caller may read of them. -/
theorem Pr2.tab {w : World} {lo gw cw gc cc : Nat} {Ps : List (Ce × List Int)} (h : Pr2 w lo gw cw gc cc (Ps.map Prod.fst)) (hr : ∀ p ∈ Ps, RdX w lo p) (hn : ∀ p ∈ Ps, ∀ gr, p.1.A = some ⟨gr, 0, none⟩ → gr ≠ gw) : TabI w lo 26 (.slice (some ⟨gw, 0, none⟩) Ps.length cw) (Ps.map Prod.snd) ∧ RowI w lo 2 (.slice (some ⟨gc, 0, none⟩) Ps.length cc) (Ps.map fun p => p.1.c) := by
  have e : (Ps.map Prod.fst).length = Ps.length := List.length_map _
  refine ⟨⟨hdQ (Ps.map Prod.fst), ?_, fun j r hj => ?_⟩, ?_⟩
  · have := h.ow
    rw [e] at this
    rw [List.length_map]; exact this
  · rw [List.getElem?_map] at hj
    obtain ⟨p, hp, hpr⟩ := Option.map_eq_some_iff.1 hj
    subst hpr
    obtain ⟨gr, e1, e2, e3, e4, e5, e6⟩ := hr p (List.mem_of_getElem? hp)
    have hne := hn p (List.mem_of_getElem? hp) gr e1
    refine ⟨gr, p.1.k, ?_, e4, e5, ?_, e3, e6⟩
    · unfold hdQ
      rw [List.getElem?_map, List.getElem?_map, hp]
      show some (Value.slice p.1.A p.1.n p.1.k) = _
      rw [e1, e2]
    · simp [Value.ownBlock]; omega
  · have h2 := h.oc
    rw [e] at h2
    have ec : csQ (Ps.map Prod.fst) = iv (Ps.map fun p => p.1.c) := by unfold csQ iv; rw [List.map_map, List.map_map]; rfl
    show World.ownsRow _ _ _ _ _ _ _
    rw [List.length_map, ← ec]; exact h2
theorem srt_of_cut (L : List (Ce × List Int)) (cnt : Nat) : Srt (((srtK (fun p : Ce × List Int => p.1.c) L).take cnt).map Prod.fst) := by
  rw [List.map_take, show (srtK (fun p : Ce × List Int => p.1.c) L).map Prod.fst = srtK (fun e : Ce => e.c) (L.map Prod.fst) from srtK_map Prod.fst (fun e : Ce => e.c) L]
  exact List.Pairwise.sublist (List.take_sublist _ _) (srtK_ok _).1
/-- What the innermost loop leaves is the one put in its place. -/
theorem insK_done {Ps : List (Ce × List Int)} {p : Ce × List Int} {M1 M2 : List Ce} (hQ : Ps.map Prod.fst = M1 ++ M2) (h1 : ∀ y ∈ M1, y.c ≤ p.1.c) (h2 : ∀ y ∈ M2, p.1.c < y.c) : (insK (fun q : Ce × List Int => q.1.c) p Ps).map Prod.fst = M1 ++ p.1 :: M2 := by
  have e := insK_map (Prod.fst : Ce × List Int → Ce) (fun e : Ce => e.c) p Ps
  rw [e, hQ]
  exact insK_at p.1 h1 h2
end Go.Proofs.Ytedbngnkkfpbeaa
