/- l04Guess of the reference. -/
import Derived.Test.YtbdfbmohdbigfaaMgy
import Derived.Test.YtbdfbmohdbigfaaLnG
import Derived.Test.YtbdfbmohdbigfaaLnX
import Derived.Test.YtbdfbmohdbigfaaXc
import Derived.Deep.LoopGhost
import Derived.Deep.CutRange
import Derived.Deep.RegionLaw
import Derived.Deep.DrawnRows

namespace Go.Proofs.Ytbdfbmohdbigfaa
open Go.RowKit
attribute [local go_sem ↓] Go.wp_at_zero Go.wp_at_succ
set_option linter.unusedVariables false
/-- No word is nil. -/
def SmL (ws : List Value) : Prop := ∀ u ∈ ws, ∃ b o n c, u = .slice (some ⟨b, o, none⟩) n c
theorem SmL.snoc {ws : List Value} (h : SmL ws) (b o n c : Nat) : SmL (ws ++ [.slice (some ⟨b, o, none⟩) n c]) := fun u hu => by
  rcases List.mem_append.1 hu with hu | hu
  · exact h u hu
  · exact ⟨_, _, _, _, List.mem_singleton.1 hu⟩
/-- Words held are read. -/
theorem tss_own {w x : World} {base gq cq : Nat} {Q : List (List Nat)} {qs : List Value} {bad : Nat → Prop} (ho : w.ownsRow base 26 1 (.slice (some ⟨gq, 0, none⟩) Q.length cq) Q.length qs) (he : El w Q qs bad) (hm : SmL qs) (hs : w.heap.size ≤ x.heap.size)
    (hk : ∀ b, b < w.heap.size → ¬ bad b → x.heap[b]? = w.heap[b]?) (hq : x.heap[gq]? = w.heap[gq]?) : TsS x (some ⟨gq, 0, none⟩) Q.length Q := by
  refine ⟨rfl, fun i q hi => ?_⟩
  have hl : qs.length = Q.length := by have := ho.1; omega
  have hil := (List.getElem?_eq_some_iff.1 hi).1
  obtain ⟨u, hu⟩ : ∃ u, qs[i]? = some u := ⟨_, List.getElem?_eq_getElem (by omega)⟩
  obtain ⟨A, c, rfl, hnA, hsl, hbd⟩ := he i q u hi hu
  obtain ⟨b, o, n', c', e⟩ := hm _ (List.mem_of_getElem? hu)
  simp only [Value.slice.injEq] at e
  obtain ⟨rfl, -, -⟩ := e
  have c0 := own_cellU ho hu
  have hlt := (ho.lt gq rfl).2
  refine ⟨gq, 0, b, o, c, rfl, ?_, slI_keep hsl hs (fun b o e h0 => hk b ?_ (hbd b o e h0)), by omega⟩
  · rw [Nat.zero_add]
    exact (World.cell?_of_block (a := ⟨gq, i, none⟩) hq).trans c0
  · obtain ⟨b', off, e', hb', -⟩ := hsl.2 h0
    rw [e] at e'
    injection e' with e'
    injection e' with e' _ _
    omega
theorem rkW_len {T : Nat} {P : List Int} {E : List Bool} (Q : List (List Nat)) (w : List Nat) : (rkW T P E Q w).length = Q.length := by unfold rkW; simp
/-- A word and one more letter. -/
theorem sNext_any (b off c : Nat) (xs : List Nat) (i : Nat) (w : World) (h : SlI w w.heap.size (some ⟨b, off, none⟩) xs.length (natW xs)) (hn : xs.length ≤ 1000) :
    Calls Try.prog 111 #[.slice (some ⟨b, off, none⟩) xs.length c, .slice (some ⟨w.heap.size, 0, none⟩) 1 1] (w.alloc (.cells #[.int .i64 (i : Int)] 2)) fun e y => ∃ g d, e = .returned (.slice (some ⟨g, 0, none⟩) (xs.length + 1) d) ∧ SlI y y.heap.size (some ⟨g, 0, none⟩) (xs.length + 1) (natW (xs ++ [i])) ∧ w.heap.size ≤ g ∧ Below w.heap.size w y := by
  have hb : Below w.heap.size w (w.alloc (.cells #[.int .i64 (i : Int)] 2)) := (Below.refl _ _).alloc (Nat.le_refl _) _
  have hr : RowI (w.alloc (.cells #[.int .i64 (i : Int)] 2)) w.heap.size 2 (.slice (some ⟨w.heap.size, 0, none⟩) 1 1) (natW [i]) := own_rowX (Row.new w 2 [.int .i64 (i : Int)]) (Nat.le_refl _) rfl (by unfold maxLen; simp)
  have C := sBhdN_any b off c xs w.heap.size 0 1 [i] (w.alloc (.cells #[.int .i64 (i : Int)] 2)) ((h.below hb (Nat.le_refl _)).more hb.size) (RowI.sl hr rfl) (by simp; omega)
  refine C.mono ?_
  rintro e y ⟨A, d, rfl, hrow, hby⟩
  have hl : (xs ++ [i]).length = xs.length + 1 := by simp
  rw [hl] at hrow ⊢
  have hs := RowI.sl hrow (show (natW (xs ++ [i])).length = xs.length + 1 by rw [natW_len, hl])
  have ho : y.ownsRow (w.alloc (.cells #[.int .i64 (i : Int)] 2)).heap.size 2 1 (.slice A (xs.length + 1) d) (xs.length + 1) (iv (natW (xs ++ [i]))) := by
    have h2 := hrow
    unfold RowI at h2
    rw [natW_len, hl] at h2
    exact h2
  obtain ⟨g, rfl⟩ := own_someU ho (by omega)
  have hg := (ho.lt g rfl).1
  have hsz := hb.size
  exact ⟨g, d, rfl, hs, by omega, hb.trans (hby.mono hsz)⟩

def badR (bd : Nat → Prop) (g : Nat) (v2 v3 v4 : Value) (b : Nat) : Prop := b = g ∨ v2.ownBlock = some b ∨ v3.ownBlock = some b ∨ v4.ownBlock = some b ∨ bd b
structure Gr (bd : Nat → Prop) (x1 w : World) (lo lim g1 g T : Nat) (v2 v3 v4 : Value) (N : List Int) (D : List Bool) (W : List (List Nat)) (ws : List Value) : Prop where
  xc : Xc x1 w lo g 33 2 4 26 1 (.int .i64 0) (.int .i64 (T : Int)) v2 v3 v4 N.length D.length W.length (iv N) (bv D) ws
  el : El w W ws (badR bd g v2 v3 v4)
  kp : Lo lim g1 x1 w
  l2 : ∀ k, v2.ownBlock = some k → lim ≤ k
  l3 : ∀ k, v3.ownBlock = some k → lim ≤ k
  l4 : ∀ k, v4.ownBlock = some k → k = g1 ∨ lim ≤ k
  lg : lim ≤ g
  li : lim ≤ x1.heap.size
  sm : SmL ws
section
variable {bd : Nat → Prop} {x1 w w' : World} {lo lim g1 g T : Nat} {v2 v3 v4 : Value} {N : List Int} {D : List Bool} {W : List (List Nat)} {ws : List Value}
theorem Gr.size (h : Gr bd x1 w lo lim g1 g T v2 v3 v4 N D W ws) : lim ≤ w.heap.size := Nat.le_trans h.li h.kp.2.2.2.1
theorem Gr.wl (h : Gr bd x1 w lo lim g1 g T v2 v3 v4 N D W ws) : ws.length = W.length := by have := h.xc.o4.1; omega
theorem Gr.call {B : Nat} (h : Gr bd x1 w lo lim g1 g T v2 v3 v4 N D W ws) (hb : Below B w w') (hB : w.heap.size ≤ B) : Gr bd x1 w' lo lim g1 g T v2 v3 v4 N D W ws :=
  ⟨h.xc.call hb hB, h.el.step hb.size (fun b hlt _ => hb.block b (by omega)) (fun _ _ q => q), h.kp.trans (Lo.below hb (Nat.le_trans h.size hB)), h.l2, h.l3, h.l4, h.lg, h.li, h.sm⟩
theorem Gr.alloc (h : Gr bd x1 w lo lim g1 g T v2 v3 v4 N D W ws) (o : Obj) : Gr bd x1 (w.alloc o) lo lim g1 g T v2 v3 v4 N D W ws := h.call ((Below.refl _ _).alloc (Nat.le_refl _) o) (Nat.le_refl _)
theorem Gr.drew (h : Gr bd x1 w lo lim g1 g T v2 v3 v4 N D W ws) : Gr bd x1 w.drew lo lim g1 g T v2 v3 v4 N D W ws := h.call (B := w.heap.size) (Below.drew (Below.refl _ _)) (Nat.le_refl _)
theorem Gr.push2 (h : Gr bd x1 w lo lim g1 g T v2 v3 v4 N D W ws) {u : Value} {N' : List Int} (ho : w'.ownsRow lo 2 1 u N'.length (iv N')) (hg : w.grownBy w' v2.ownBlock) (hq : ∀ k, u.ownBlock = some k → v2.ownBlock = some k ∨ w.heap.size ≤ k) :
    Gr bd x1 (w'.setCell ⟨g, 2, none⟩ u) lo lim g1 g T u v3 v4 N' D W ws := by
  have hsz : (w'.setCell ⟨g, 2, none⟩ u).heap.size = w'.heap.size := by simp [World.setCell]
  refine ⟨h.xc.push2 ho hg hq, h.el.step (by rw [hsz]; exact hg.size) (fun b hlt hn => (Below.heap_setCell _ _ _ _ (show b ≠ g from fun e => hn (.inl e))).trans (hg.block b hlt (fun e => hn (.inr (.inl e.symm))))) (fun b hlt q => ?_), ?_, fun k hk => ?_, h.l3, h.l4, h.lg, h.li, h.sm⟩
  · rcases q with q | q | q | q | q
    · exact .inl q
    · rcases hq b q with e | e
      · exact .inr (.inl e)
      · omega
    · exact .inr (.inr (.inl q))
    · exact .inr (.inr (.inr (.inl q)))
    · exact .inr (.inr (.inr (.inr q)))
  · exact h.kp.trans ⟨hg.os, hg.tape, hg.output, by rw [hsz]; exact hg.size, fun k hk hg' => (Below.heap_setCell _ _ _ _ (show k ≠ g by have := h.lg; omega)).trans (hg.block k (by have := h.size; omega) (fun e => by have := h.l2 k e.symm; omega))⟩
  · rcases hq k hk with e | e
    · exact h.l2 k e
    · have := h.size; omega
theorem Gr.push3 (h : Gr bd x1 w lo lim g1 g T v2 v3 v4 N D W ws) {u : Value} {D' : List Bool} (ho : w'.ownsRow lo 4 1 u D'.length (bv D')) (hg : w.grownBy w' v3.ownBlock) (hq : ∀ k, u.ownBlock = some k → v3.ownBlock = some k ∨ w.heap.size ≤ k) :
    Gr bd x1 (w'.setCell ⟨g, 3, none⟩ u) lo lim g1 g T v2 u v4 N D' W ws := by
  have hsz : (w'.setCell ⟨g, 3, none⟩ u).heap.size = w'.heap.size := by simp [World.setCell]
  refine ⟨h.xc.push3 ho hg hq, h.el.step (by rw [hsz]; exact hg.size) (fun b hlt hn => (Below.heap_setCell _ _ _ _ (show b ≠ g from fun e => hn (.inl e))).trans (hg.block b hlt (fun e => hn (.inr (.inr (.inl e.symm)))))) (fun b hlt q => ?_), ?_, h.l2, fun k hk => ?_, h.l4, h.lg, h.li, h.sm⟩
  · rcases q with q | q | q | q | q
    · exact .inl q
    · exact .inr (.inl q)
    · rcases hq b q with e | e
      · exact .inr (.inr (.inl e))
      · omega
    · exact .inr (.inr (.inr (.inl q)))
    · exact .inr (.inr (.inr (.inr q)))
  · exact h.kp.trans ⟨hg.os, hg.tape, hg.output, by rw [hsz]; exact hg.size, fun k hk hg' => (Below.heap_setCell _ _ _ _ (show k ≠ g by have := h.lg; omega)).trans (hg.block k (by have := h.size; omega) (fun e => by have := h.l3 k e.symm; omega))⟩
  · rcases hq k hk with e | e
    · exact h.l3 k e
    · have := h.size; omega
theorem Gr.push4 (h : Gr bd x1 w lo lim g1 g T v2 v3 v4 N D W ws) {u : Value} {wd : List Nat} {b o c : Nat} (ho : w'.ownsRow lo 26 1 u (W.length + 1) (ws ++ [.slice (some ⟨b, o, none⟩) wd.length c])) (hg : w.grownBy w' v4.ownBlock) (hq : ∀ k, u.ownBlock = some k → v4.ownBlock = some k ∨ w.heap.size ≤ k)
    (h2 : SlI w w.heap.size (some ⟨b, o, none⟩) wd.length (natW wd)) (h3 : ¬ badR bd g v2 v3 v4 b) :
    Gr bd x1 w' lo lim g1 g T v2 v3 u N D (W ++ [wd]) (ws ++ [.slice (some ⟨b, o, none⟩) wd.length c]) := by
  have hx := h.xc.push4 ho hg hq
  refine ⟨by rw [List.length_append]; exact hx, (h.el.snoc h.wl (.inr ⟨b, o, rfl⟩) h2 (fun b' o' e _ => by
      injection e with e
      injection e with e1 _ _
      rw [← e1]; exact h3)).step hg.size (fun b hlt hn => hg.block b hlt (fun e => hn (.inr (.inr (.inr (.inl e.symm)))))) (fun b hlt q => ?_), ?_, h.l2, h.l3, fun k hk => ?_, h.lg, h.li, h.sm.snoc _ _ _ _⟩
  · rcases q with q | q | q | q | q
    · exact .inl q
    · exact .inr (.inl q)
    · exact .inr (.inr (.inl q))
    · rcases hq b q with e | e
      · exact .inr (.inr (.inr (.inl e)))
      · omega
    · exact .inr (.inr (.inr (.inr q)))
  · exact h.kp.trans ⟨hg.os, hg.tape, hg.output, hg.size, fun k hk hg' => hg.block k (by have := h.size; omega) (fun e => by rcases h.l4 k e.symm with q | q <;> omega)⟩
  · rcases hq k hk with e | e
    · exact h.l4 k e
    · have := h.size; exact .inr (by omega)
/-- The words of the guess, read. -/
theorem Gr.tss {g4 c4 : Nat} (h : Gr bd x1 w lo lim g1 g T v2 v3 (.slice (some ⟨g4, 0, none⟩) W.length c4) N D W ws) : TsS w (some ⟨g4, 0, none⟩) W.length W :=
  tss_own h.xc.o4 h.el h.sm (Nat.le_refl _) (fun _ _ _ => rfl) rfl
end
theorem xc_endR {x0 w x' : World} {lo lo' g gr : Nat} {t4 : TypeId} {z4 : Nat} {a b v2 v3 v4 : Value} {n3 n4 : Nat} {Nx : List Int} {E : List Bool} {X4 : List Value} (h : Xc x0 w lo g 33 2 4 t4 z4 a b v2 v3 v4 Nx.length n3 n4 (iv Nx) (bv E) X4) (hn : n3 = E.length)
    (hs : x'.heap.size = w.heap.size) (hk : ∀ k, k ≠ g → k ≠ gr → x'.heap[k]? = w.heap[k]?) (hg : gr < lo') (l2 : ∀ k, v2.ownBlock = some k → lo' ≤ k) (l3 : ∀ k, v3.ownBlock = some k → lo' ≤ k) (S T : Int) : PlW x' lo' (.agg #[.int .i64 S, .int .i64 T, v2, v3]) S T Nx E := by
  subst hn
  have o2 : x'.ownsRow lo 2 1 v2 Nx.length (iv Nx) := own_move h.o2 (fun k q => hk k (h.d2 k q).1 (by have := l2 k q; omega))
  have o3 : x'.ownsRow lo 4 1 v3 E.length (bv E) := own_move h.o3 (fun k q => hk k (h.d3 k q).1 (by have := l3 k q; omega))
  exact ⟨v2, v3, rfl, OwnV.of (own_raise o2 l2), OwnV.of (own_raise o3 l3), fun k q => (h.d2 k q).2.1⟩
/-- What l04Guess hands out. -/
def GvPost (bd : Nat → Prop) (S T : Nat) (P : List Int) (E : List Bool) (Q W : List (List Nat)) (base g1 : Nat) (w : World) (e : Ending) (w' : World) : Prop := ∃ (g' c' : Nat) (ws' : List Value) (v : Value), e = .returned (.tuple #[v, .slice (some ⟨g', 0, none⟩) (gsW T P E Q W).length c'])
  ∧ w'.ownsRow base 26 1 (.slice (some ⟨g', 0, none⟩) (gsW T P E Q W).length c') (gsW T P E Q W).length ws' ∧ El w' (gsW T P E Q W) ws' (fun b => b = g' ∨ bd b) ∧ SmL ws' ∧ (g' = g1 ∨ w.heap.size ≤ g')
  ∧ PlW w' w.heap.size v ((gsW T P E Q W).length : Int) (T : Int) (gsP T P E Q W) (gsD T P E Q W) ∧ Lo w.heap.size g1 w w'

set_option maxRecDepth 100000 in
set_option maxHeartbeats 16000000 in
theorem sGuess_any (gt S T : Nat) (A2 : Option Addr) (n2 c2 : Nat) (A3 : Option Addr) (n3 c3 : Nat) (P : List Int) (E : List Bool) (base g1 c1 : Nat) (W : List (List Nat)) (ws : List Value) (AQ : Option Addr) (nQ cQ : Nat) (Q : List (List Nat)) (w : World)
    (hte : TeO S T P E) (hwd : WdO T P E Q W) (hq1 : ∀ q ∈ Q, ∀ y ∈ q, y < T) (hq2 : ∀ q ∈ Q, q.length ≤ 100) (hq3 : nQ ≤ 100000)
    (hown : w.ownsRow base 26 1 (.slice (some ⟨g1, 0, none⟩) W.length c1) W.length ws) (bd : Nat → Prop) (hbd : ∀ b, bd b → b < w.heap.size) (hel : El w W ws (fun b => b = g1 ∨ bd b)) (hsm : SmL ws)
    (hrow : Row w gt 33 (BxP (S : Int) (T : Int) A2 n2 c2 A3 n3 c3)) (hgt : gt ≠ g1) (hPl : ∀ x, Lo w.heap.size g1 w x → PlOk x S T A2 n2 A3 n3 P E) (hQ : ∀ x, Lo w.heap.size g1 w x → TsS x AQ nQ Q) :
    Calls Try.prog 79 #[.pointer (some ⟨gt, 0, none⟩), .slice (some ⟨g1, 0, none⟩) W.length c1, .slice AQ nQ cQ] w (GvPost bd S T P E Q W base g1 w) := by
  have hbg := hown.lt g1 rfl
  have hW64 : W.length ≤ 64 := Nat.le_trans (hwd.len hte) hte.hS.2
  have hS64 := hte.hS; have hT4 := hte.hT
  have hnQ : Q.length = nQ := (hQ w (Lo.refl _ _ _)).1
  have r2 := Row.new w 33 [.int .i64 0, .int .i64 0, .slice none 0 0, .slice none 0 0]
  have hx1 : Below w.heap.size w (w.alloc (.cells ([.int .i64 0, .int .i64 0, .slice none 0 0, .slice none 0 0] : List Value).toArray 33)) := (Below.refl _ _).alloc (Nat.le_refl _) _
  have hs1 : (w.alloc (.cells ([.int .i64 0, .int .i64 0, .slice none 0 0, .slice none 0 0] : List Value).toArray 33)).heap.size = w.heap.size + 1 := by simp
  have rt1 := hrow.alloc (.cells ([.int .i64 0, .int .i64 0, .slice none 0 0, .slice none 0 0] : List Value).toArray 33)
  have hgtl := hrow.lt
  have kt := rt1.cell 1
  obtain ⟨w1, hw1⟩ : ∃ x, x = (w.alloc (.cells ([.int .i64 0, .int .i64 0, .slice none 0 0, .slice none 0 0] : List Value).toArray 33)) := ⟨_, rfl⟩
  rw [← hw1] at r2 hx1 hs1 rt1
  have hl1 : ∀ x, Lo (w.heap.size + 1) g1 w1 x → Lo w.heap.size g1 w x := fun x hx => ⟨by rw [hx.1, hx1.os], by rw [hx.2.1, hx1.tape], by rw [hx.2.2.1, hx1.output], by have := hx.2.2.2.1; omega, fun q h1 h2 => (hx.2.2.2.2 q (by omega) h2).trans (hx1.block q h1)⟩
  obtain ⟨wG, hwG⟩ : ∃ x, x = w1.alloc (.cells ([.int .i64 0, .int .i64 (T : Int), .slice none 0 0, .slice none 0 0] : List Value).toArray 33) := ⟨_, rfl⟩
  have hrG : Row wG (w.heap.size + 1) 33 ([.int .i64 0, .int .i64 (T : Int), .slice none 0 0, .slice none 0 0] : List Value) := by rw [hwG, ← hs1]; exact Row.new w1 33 _
  have hbG : Below w1.heap.size w1 wG := by rw [hwG]; exact (Below.refl _ _).alloc (Nat.le_refl _) _
  have hgsz := hbG.size
  have HGS : Hid (Gr (fun b => b = w.heap.size ∨ bd b) w1 wG base (w.heap.size + 1) g1 (w.heap.size + 1) T (.slice none 0 0) (.slice none 0 0) (.slice (some ⟨g1, 0, none⟩) W.length c1) ([] : List Int) ([] : List Bool) W ws) := by
    have hbase : base ≤ w.heap.size := by omega
    refine ⟨⟨hrG, hbG.mono (by omega), by omega, by omega, World.ownsRow_nil _ _ _ _, World.ownsRow_nil _ _ _ _, own_move hown (fun k hk => ?_), fun k hk => by simp [Value.ownBlock] at hk, fun k hk => by simp [Value.ownBlock] at hk, fun k hk => ?_⟩, ?_, ?_, fun k hk => by simp [Value.ownBlock] at hk, fun k hk => by simp [Value.ownBlock] at hk, fun k hk => ?_, Nat.le_refl _, by omega, hsm⟩
    · have h1 := (hown.lt k hk).2
      exact (hbG.block k (by omega)).trans (hx1.block k h1)
    · simp [Value.ownBlock] at hk
      omega
    · refine hel.step (by omega) (fun b hb hn => (hbG.block b (by omega)).trans (hx1.block b hb)) (fun b hb q => ?_)
      rcases q with q | q | q | q | q
      · omega
      · simp [Value.ownBlock] at q
      · simp [Value.ownBlock] at q
      · simp [Value.ownBlock] at q; exact .inl q.symm
      · exact q.elim (fun q => by omega) .inr
    · exact Lo.below hbG (by omega)
    · simp [Value.ownBlock] at hk; exact .inl hk.symm
  have k1 := rt1.cell 1
  have R2 := Lib.hid r2; have RT := Lib.hid rt1; have HL1 := Lib.hid hl1; have HTE := Lib.hid hte; have HWD := Lib.hid hwd; have HQ1 := Lib.hid hq1; have HQ2 := Lib.hid hq2; have HQ3 := Lib.hid hq3; have HPL := Lib.hid hPl; have HQ := Lib.hid hQ; have HBG := Lib.hid hbg; have HBD := Lib.hid hbd; have HT4 := Lib.hid hT4; have HGT := Lib.hid hgt; have HGTL := Lib.hid hgtl; have HNQ := Lib.hid hnQ; have HS1 := Lib.hid hs1
  have HW1 := Lib.hid hw1; have HWG := Lib.hid hwG
  have HRW : Hid (∀ (x : World) (b o d : Nat) (wd : List Nat), Lo w.heap.size g1 w x → SlI x x.heap.size (some ⟨b, o, none⟩) wd.length (natW wd) → (∀ y ∈ wd, y < T) → wd.length ≤ 100 → Calls Try.prog 113 #[.pointer (some ⟨gt, 0, none⟩), .slice (some ⟨b, o, none⟩) wd.length d, .slice AQ nQ cQ] x fun e y => ∃ A d, e = .returned (.slice A nQ d) ∧ RowI y x.heap.size 2 (.slice A nQ d) (kiL ((rkW T P E Q) wd)) ∧ Below x.heap.size x y) := fun x b o d wd hx hs hy hl => sRow_any c2 c3 b o d wd cQ x (hx.row hrow hgtl hgt) (hPl x hx) hs hy hl (hQ x hx) hq1 hq2 hq3
  have HAT : Hid (∀ (x : World) (AR : Option Addr) (cR : Nat) (key : List Bool) (g5 c5 : Nat) (U : List (List Nat)), Lo w.heap.size g1 w x → key.length = nQ → SlI x x.heap.size AR nQ (kiL key) → TsS x (some ⟨g5, 0, none⟩) U.length U → (∀ q ∈ U, ∀ y ∈ q, y < T) → (∀ q ∈ U, q.length ≤ 100) → U.length ≤ 100000 → Calls Try.prog 112 #[.pointer (some ⟨gt, 0, none⟩), .slice (some ⟨g5, 0, none⟩) U.length c5, .slice AR nQ cR, .slice AQ nQ cQ] x fun e y => e = .returned (.int .i64 ((ixL (U.map (rkW T P E Q)) key : Nat) : Int)) ∧ Below x.heap.size x y) := by
    intro x AR cR key g5 c5 U hx hk hs hu h1 h2 h3
    rw [← hk] at hs
    have h := sAtW_any c2 c3 c5 AR cR key cQ x (hx.row hrow hgtl hgt) (hPl x hx) hu h1 h2 h3 hs (by omega) (hQ x hx) hq1 hq2 hq3
    rw [hk] at h
    exact h
  clear r2 hx1 rt1 hl1 hrG hbG hte hwd hq1 hq2 hq3 hown hel hsm hPl hQ hbg hbd hS64 hT4 hgt hgtl hnQ hs1 hw1 hwG hgsz hW64
  clear hrow
  go_enter Try.func79, Try.ntmps79
  go_upto_region 2 with fail

  try rw [← HW1.out]
  try rw [← HS1.out]
  try rw [← HWG.out]
  try rw [HS1.out]
  clear k1 kt
  go_wp2_with fail
  go_loopg [1, 9] 65 (fun m l i wr => ∃ (n g4 c4 : Nat) (v2 v3 : Value) (ws' : List Value), l = .slice (some ⟨g4, 0, none⟩) (gsA T P E Q W n).1.length c4 ∧ i = .int .i64 (n : Int) ∧ Hid (m + n = 65) ∧ Hid (n ≤ (gsA T P E Q W n).1.length) ∧ Hid (gsE T P E Q W m n = gsN T P E Q W) ∧ Hid (Gr (fun b => b = w.heap.size ∨ bd b) w1 wr base (w.heap.size + 1) g1 (w.heap.size + 1) T v2 v3 (.slice (some ⟨g4, 0, none⟩) (gsA T P E Q W n).1.length c4) (gsA T P E Q W n).2 (((gsA T P E Q W n).1.take n).map (rdP T P E)) (gsA T P E Q W n).1 ws'))
  case atStart => exact ⟨0, g1, c1, .slice none 0 0, .slice none 0 0, ws, rfl, rfl, rfl, Nat.zero_le _, rfl, HGS.out⟩
  case round =>
    clear HGS
    obtain ⟨n, g4, c4, v2, v3, ws', rfl, rfl, HMN, HNL, HE, HG⟩ := hrel
    obtain ⟨wo, rfl⟩ : ∃ x : World, x = wr := ⟨_, rfl⟩
    obtain ⟨gq, hgq⟩ : ∃ q : Nat, q = gk := ⟨_, rfl⟩
    rw [← hgq] at HMN HE
    have INV : Hid (GsI T P E Q W (gsA T P E Q W n) n 0) := gsA_inv HWD.out n HNL.out
    have HL64 : Hid ((gsA T P E Q W n).1.length ≤ 64) := Nat.le_trans (INV.out.wd.len HTE.out) HTE.out.hS.2
    obtain ⟨st, hst⟩ : ∃ s, s = gsA T P E Q W n := ⟨_, rfl⟩
    rw [← hst] at HNL HG INV HL64 ⊢
    have HST := Lib.hid hst
    clear hst
    have j0 : (0 : Int) ≤ (n : Int) := by omega
    have hl64 := HL64.out
    have hnl := HNL.out
    have WN : IntKind.i64.wrap ((n : Int) + 1) = (n : Int) + 1 := IntWalk.i64_in _ (by omega)
    clear hl64 hnl
    by_cases hlt : n < st.1.length
    · obtain ⟨wd, hwd⟩ : ∃ x, st.1[n]? = some x := ⟨_, List.getElem?_eq_getElem hlt⟩
      obtain ⟨u, hu⟩ : ∃ u, ws'[n]? = some u := ⟨_, List.getElem?_eq_getElem (by rw [HG.out.wl]; exact hlt)⟩
      obtain ⟨A, c, rfl, -, hsl, -⟩ := HG.out.el n wd u hwd hu
      have c0 := own_cellU HG.out.xc.o4 hu
      have HK := Lib.hid hwd
      have hLo := HL1.out wo HG.out.kp
      have hbx : Row wo gt 33 (BxP (S : Int) (T : Int) A2 n2 c2 A3 n3 c3) := HG.out.kp.row RT.out (by have := HGTL.out; omega) HGT.out
      have e3 := HG.out.xc.row.cell 3
      have l1 : (n : Int) < (st.1.length : Int) := by omega
      obtain ⟨e, he⟩ : ∃ e, e = rdP T P E wd := ⟨_, rfl⟩
      have HEN := Lib.hid he
      have hwl := INV.out.wd.let_ wd (List.mem_of_getElem? hwd)
      have hwsh := INV.out.wd.short n wd hwd
      have HWL := Lib.hid hwl
      have HWS : Hid (wd.length ≤ 64) := by show _ ≤ _; have := HL64.out; omega
      have CR : Hid (Calls Try.prog 110 #[.pointer (some ⟨gt, 0, none⟩), .slice A wd.length c] wo.drew fun e' y => e' = .returned (.bool e) ∧ Below wo.heap.size wo.drew y) := sReadV_any c2 c3 c (x := wo.drew) hbx (HPL.out wo.drew hLo) wd hsl hwl (by have := HWS.out; omega) e he
      have P01 : 0 < 1 := by omega
      have P132 : 1 ≤ 32 := by omega
      have ROOM : Hid (n + 1 ≤ 4294967296) := by show _ ≤ _; have := HL64.out; omega
      have HTL : Hid (((st.1.take n).map (rdP T P E)).length = n) := by show _ = _; rw [List.length_map, List.length_take]; omega
      have HTL2 : Hid (((st.1.take (n + 1)).map (rdP T P E)).length = n + 1) := by show _ = _; rw [List.length_map, List.length_take]; omega
      have HTE2 : Hid (bv ((st.1.take n).map (rdP T P E)) ++ [.bool e] = bv ((st.1.take (n + 1)).map (rdP T P E))) := by
        show _ = _
        obtain ⟨hh, hk'⟩ := List.getElem?_eq_some_iff.1 hwd
        rw [List.take_succ_eq_append_getElem hh, List.map_append, bv_append, hk', HEN.out]; rfl
      have hv3 := own_form HG.out.xc.o3
      obtain ⟨A3', c3', rfl, -, -⟩ := hv3
      rw [HTL.out] at e3
      clear hwd hu hsl he hwl hwsh hLo hbx
      go_upto_region 5 with fail
      go_cut [] from 24 to 34 (fun wx => ∃ (A5 : Option Addr) (d5 : Nat), Hid (Gr (fun b => b = w.heap.size ∨ bd b) w1 wx base (w.heap.size + 1) g1 (w.heap.size + 1) T v2 (.slice A5 (n + 1) d5) (.slice (some ⟨g4, 0, none⟩) st.1.length c4) st.2 ((st.1.take (n + 1)).map (rdP T P E)) st.1 ws'))
      case first =>
        go_region_law (first
          | (rw [if_pos (by rfl)]; go_simp; go_at_call 110; refine (CR.out).mono ?_; rintro e' wz ⟨rfl, hbz⟩; have HZ := Lib.hid (HG.out.drew.call hbz (Nat.le_refl _)); clear hbz; have z3 := HZ.out.xc.row.cell 3; have HZA := Lib.hid (HZ.out.alloc (.cells ([.bool e] : List Value).toArray 4)); have za3 := HZA.out.xc.row.cell 3; rw [HTL.out] at z3 za3; have HNEW : Hid (∀ j' u, ([.bool e] : List Value)[j']? = some u → (wz.alloc (.cells ([.bool e] : List Value).toArray 4)).cell? ⟨wz.heap.size, 0 + j', none⟩ = some u) := (fun j' u hu => by rw [Nat.zero_add]; exact ((Row.new wz 4 [.bool e]).cell j').trans hu); have HO3 : Hid ((wz.alloc (.cells ([.bool e] : List Value).toArray 4)).ownsRow base 4 1 (.slice A3' n c3') n (bv ((st.1.take n).map (rdP T P E)))) := (by have h := HZA.out.xc.o3; rw [HTL.out] at h; exact h))
          | (refine step_cells_push rfl (.tmp 25) (.tmp 32) _ rfl base 4 (.bool false) 1 1 Try.underlying31 infoBU rfl P01 P132 (.slice A3' n c3') n (bv ((st.1.take n).map (rdP T P E))) ?_ HO3.out wz.heap.size 0 1 1 [.bool e] ?_ rfl HNEW.out (bv_one [e]) ROOM.out HZA.out.xc.size ?_; rfl; rfl; intro A5 d5 wv hown hgr hbl hat; have hgr2 := hgr; have hrow := HZA.out.xc.row.grown (row := (Value.slice A3' n c3').ownBlock) hgr (fun e => (HZA.out.xc.d3 _ (by rw [HTL.out]; exact e.symm)).1 rfl); have y3 := hrow.cell 3; rw [HTL.out] at y3; have f3 := hrow.frozen 3; have HP := Lib.hid (HZA.out.push3 (D' := ((st.1.take (n + 1)).map (rdP T P E))) (u := .slice A5 (n + 1) d5) (by rw [HTL2.out, ← HTE2.out]; exact hown) (by rw [HTL.out]; exact hgr) (by rw [HTL.out]; exact at_grown hat)); clear hrow hown hgr hbl hat hgr2))
        all_goals
          try clear e3
          try clear z3
          try clear za3
          try clear y3
          try clear f3
          try clear c0
          go_wp2_with fail
          go_meet
          exact ⟨A5, d5, HP.out⟩
      case rest =>
      obtain ⟨A5, d5, HP⟩ := hcut
      clear e3 P01 P132 ROOM HTE2 CR c0 HG HTL

      go_wp2_with fail
      go_loopg [1, 10] T (fun m l j wr => ∃ (i g5 c5 : Nat) (u2 : Value) (wz : List Value), l = .slice (some ⟨g5, 0, none⟩) (gsR T P E Q wd st i).1.length c5 ∧ j = .int .i64 (i : Int) ∧ i ≤ T ∧ T ≤ m + i ∧ Hid (GsI T P E Q W (gsR T P E Q wd st i) n i) ∧ Hid (Gr (fun b => b = w.heap.size ∨ bd b) w1 wr base (w.heap.size + 1) g1 (w.heap.size + 1) T u2 (.slice A5 (n + 1) d5) (.slice (some ⟨g5, 0, none⟩) (gsR T P E Q wd st i).1.length c5) (gsR T P E Q wd st i).2 ((st.1.take (n + 1)).map (rdP T P E)) (gsR T P E Q wd st i).1 wz))
      case atStart => exact ⟨0, g4, c4, v2, ws', rfl, rfl, by omega, by omega, INV.out, HP.out⟩
      case round =>
        clear HP
        obtain ⟨i, g5, c5, u2, wz, rfl, rfl, hiT, hmi, HV, HG⟩ := hrel
        obtain ⟨wi, rfl⟩ : ∃ x : World, x = wr := ⟨_, rfl⟩
        obtain ⟨gi, hgi⟩ : ∃ q : Nat, q = gk := ⟨_, rfl⟩
        rw [← hgi] at hmi
        have HSTE : Hid ((gsR T P E Q wd st i).1[n]? = some wd) := by
          show _ = _
          obtain ⟨r, hr⟩ := gsR_app (T := T) (P := P) (E := E) (Q := Q) wd st i
          rw [hr]; exact get_left HK.out
        obtain ⟨si, hsi⟩ : ∃ s, s = gsR T P E Q wd st i := ⟨_, rfl⟩
        rw [← hsi] at HV HG HSTE ⊢
        have HSI := Lib.hid hsi
        clear hsi
        have hlen2 := HV.out.len
        have HL64i : Hid (si.1.length ≤ 64) := Nat.le_trans (HV.out.wd.len HTE.out) HTE.out.hS.2
        have hl64 := HL64i.out
        have ht4 := HT4.out
        have i0 : (0 : Int) ≤ (i : Int) := by omega
        have wii : IntKind.i64.wrap ((i : Int) + 1) = (i : Int) + 1 := IntWalk.i64_in _ (by omega)
        have hnl : n < si.1.length := (List.getElem?_eq_some_iff.1 HSTE.out).1
        have LN2 : Hid (si.2.length + 1 ≤ 4294967296) := by
          show _ ≤ _
          have : n * T ≤ 64 * 4 := Nat.mul_le_mul (by omega) ht4.2
          omega
        have LN1 : Hid (si.1.length + 1 ≤ 4294967296) := by show _ ≤ _; omega
        have HNLS := Lib.hid hnl
        have hbxi : Row wi gt 33 (BxP (S : Int) (T : Int) A2 n2 c2 A3 n3 c3) := HG.out.kp.row RT.out (by have := HGTL.out; omega) HGT.out
        have k1 := hbxi.cell 1
        clear hlen2 hl64 ht4 hnl hbxi
        by_cases hlt2 : i < T
        · have l3 : (i : Int) < (T : Int) := by omega
          obtain ⟨ui, hui⟩ : ∃ u, wz[n]? = some u := ⟨_, List.getElem?_eq_getElem (by rw [HG.out.wl]; exact HNLS.out)⟩
          obtain ⟨Ai, ci, rfl, -, hsl, -⟩ := HG.out.el n wd ui HSTE.out hui
          obtain ⟨bi, oi, ni, ci', e⟩ := HG.out.sm _ (List.mem_of_getElem? hui)
          simp only [Value.slice.injEq] at e
          obtain ⟨rfl, -, -⟩ := e
          have c0 := own_cellU HG.out.xc.o4 hui
          have l1i : (n : Int) < (si.1.length : Int) := by have := HNLS.out; omega
          have CN := Lib.hid (sNext_any bi oi ci wd i wi hsl (by have := HWS.out; omega))
          have HXW : Hid (∀ y ∈ wd ++ [i], y < T) := fun y hy => by
            rcases List.mem_append.1 hy with h | h
            · exact HWL.out y h
            · rw [show y = i from by simpa using h]; exact hlt2
          have HX6 : Hid ((wd ++ [i]).length = wd.length + 1) := by show _ = _; simp
          clear hui hsl
          go_wp2_with fail
          refine CN.out.mono ?_
          rintro e w6 ⟨g6, d6, rfl, hs6, hg6, hb6⟩
          have HG6 := Lib.hid (HG.out.call hb6 (Nat.le_refl _))
          have HS6 : Hid (SlI w6 w6.heap.size (some ⟨g6, 0, none⟩) (wd ++ [i]).length (natW (wd ++ [i]))) := by rw [HX6.out]; exact hs6
          have HBAD : Hid (¬ badR (fun b => b = w.heap.size ∨ bd b) (w.heap.size + 1) u2 (.slice A5 (n + 1) d5) (.slice (some ⟨g5, 0, none⟩) si.1.length c5) g6) := by
            intro q
            rcases q with q | q | q | q | q
            · have := HG.out.xc.row.lt; omega
            · have := (HG.out.xc.o2.lt _ q).2; omega
            · have := (HG.out.xc.o3.lt _ q).2; omega
            · have := (HG.out.xc.o4.lt _ q).2; omega
            · rcases q with q | q
              · have := HG.out.size; omega
              · have := HBD.out _ q; have := HG.out.size; omega
          obtain ⟨key, hkey⟩ : ∃ x, x = (rkW T P E Q) (wd ++ [i]) := ⟨_, rfl⟩
          have HKEY := Lib.hid hkey
          have CK : Hid (Calls Try.prog 113 #[.pointer (some ⟨gt, 0, none⟩), .slice (some ⟨g6, 0, none⟩) (wd.length + 1) d6, .slice AQ nQ cQ] w6 fun e y => ∃ A d, e = .returned (.slice A nQ d) ∧ RowI y w6.heap.size 2 (.slice A nQ d) (kiL key) ∧ Below w6.heap.size w6 y) := by
            have h := HRW.out w6 g6 0 d6 (wd ++ [i]) (HL1.out w6 HG6.out.kp) HS6.out HXW.out (by rw [HX6.out]; have := HWS.out; omega)
            rw [HX6.out, ← hkey] at h
            exact h
          have HKL : Hid (key.length = nQ) := by show _ = _; rw [hkey, rkW_len]; exact HNQ.out
          clear hkey hs6 hg6 hb6 c0 CN k1
          go_wp2_with fail
          refine CK.out.mono ?_
          rintro e w7 ⟨A7, d7, rfl, hrow7, hb7⟩
          have HG7 := Lib.hid (HG6.out.call hb7 (Nat.le_refl _))
          have HS7 : Hid (SlI w7 w7.heap.size (some ⟨g6, 0, none⟩) (wd ++ [i]).length (natW (wd ++ [i]))) := (HS6.out.below hb7 (Nat.le_refl _)).more hb7.size
          have hs7 := RowI.sl hrow7 (show (kiL key).length = nQ by rw [kiL_len]; exact HKL.out)
          have HSH : Hid (∀ q ∈ si.1, q.length ≤ 100) := fun q hq => by
            obtain ⟨j, hj⟩ := List.getElem?_of_mem hq
            have h1 := HV.out.wd.short j q hj
            have h2 := (List.getElem?_eq_some_iff.1 hj).1
            have h3 := HL64i.out
            omega
          have CA := Lib.hid (HAT.out w7 A7 d7 key g5 c5 si.1 (HL1.out w7 HG7.out.kp) HKL.out hs7 HG7.out.tss HV.out.wd.let_ HSH.out (by have := HL64i.out; omega))
          clear hrow7 hb7 hs7 CK
          by_cases hin : key ∈ si.1.map (rkW T P E Q)
          · obtain ⟨q, hq⟩ : ∃ q, q = ixL (si.1.map (rkW T P E Q)) key := ⟨_, rfl⟩
            have hql : q < si.1.length := by have := (ix_at hin).2; rw [List.length_map] at this; omega
            have HRN : Hid (gsR T P E Q wd st (i + 1) = (si.1, si.2 ++ [(q : Int)])) := by
              show _ = _
              have h := gsR_in (T := T) (P := P) (E := E) (Q := Q) (w := wd) (st := st) (l := i) (by rw [← HSI.out, ← HKEY.out]; exact hin)
              rw [h, ← HSI.out, ← HKEY.out, hq]
            have HVN : Hid (GsI T P E Q W (si.1, si.2 ++ [(q : Int)]) n (i + 1)) := by
              have h := HV.out.old HSTE.out hlt2 (by rw [← HKEY.out]; exact hin)
              rw [← HKEY.out, ← hq] at h
              exact h
            have z1 : ((q : Int) == (si.1.length : Int)) = false := by rw [beq_eq_false_iff_ne]; omega
            have CA2 : Hid (Calls Try.prog 112 #[.pointer (some ⟨gt, 0, none⟩), .slice (some ⟨g5, 0, none⟩) si.1.length c5, .slice A7 nQ d7, .slice AQ nQ cQ] w7 fun e y => e = .returned (.int .i64 (q : Int)) ∧ Below w7.heap.size w7 y) := by rw [hq]; exact CA.out
            clear hin hq CA hql
            go_wp2_with fail
            refine CA2.out.mono ?_
            rintro e w8 ⟨rfl, hb8⟩
            have HG8 := Lib.hid (HG7.out.call hb8 (Nat.le_refl _))
            have e2 := HG8.out.xc.row.cell 2
            clear hb8 CA2 HG7 HG6
            go_wp2_with (first
              | (at_builtin; refine wpList_int_push w8 rfl (.tmp 67) (.tmp 69) _ rfl base 2 Try.underlying26 infoIU u2 si.2 rfl HG8.out.xc.o2 (q : Int) rfl LN2.out HG8.out.xc.size ?_; intro g9 c9 w9 hown hbl hat hgr; have hrow := HG8.out.xc.row.grown hgr (fun e => (HG8.out.xc.d2 _ e.symm).1 rfl); have y2 := hrow.cell 2; have f2 := hrow.frozen 2; have HG9 := Lib.hid (HG8.out.push2 (u := .slice (some ⟨g9, 0, none⟩) (si.2.length + 1) c9) (N' := si.2 ++ [(q : Int)]) hown hgr (at_push hat)); clear hrow hown hbl hat hgr))
            try clear e2
            try clear y2
            try clear f2
            clear HG8
            go_roundg (gi - 1)
            case measure => omega
            case rel =>
              refine ⟨i + 1, g5, c5, .slice (some ⟨g9, 0, none⟩) (si.2.length + 1) c9, wz, by rw [HRN.out], by go_num, by omega, by omega, ?_⟩
              rw [HRN.out]
              exact ⟨HVN.out, HG9.out⟩
          · have HRN : Hid (gsR T P E Q wd st (i + 1) = (si.1 ++ [wd ++ [i]], si.2 ++ [((si.1.length : Nat) : Int)])) := by
              show _ = _
              have h := gsR_new (T := T) (P := P) (E := E) (Q := Q) (w := wd) (st := st) (l := i) (by rw [← HSI.out, ← HKEY.out]; exact hin)
              rw [h, ← HSI.out]
            have HVN : Hid (GsI T P E Q W (si.1 ++ [wd ++ [i]], si.2 ++ [((si.1.length : Nat) : Int)]) n (i + 1)) := HV.out.fresh HSTE.out hlt2 (by rw [← HKEY.out]; exact hin)
            have CA2 : Hid (Calls Try.prog 112 #[.pointer (some ⟨gt, 0, none⟩), .slice (some ⟨g5, 0, none⟩) si.1.length c5, .slice A7 nQ d7, .slice AQ nQ cQ] w7 fun e y => e = .returned (.int .i64 (si.1.length : Int)) ∧ Below w7.heap.size w7 y) := by
              have h := CA.out
              rw [ixL_none (L := si.1.map (rkW T P E Q)) (x := key) (fun j hj hx => hin (List.mem_of_getElem? hx)), List.length_map] at h
              exact h
            have z1 : ((si.1.length : Int) == (si.1.length : Int)) = true := by simp
            clear hin CA
            go_wp2_with fail
            refine CA2.out.mono ?_
            rintro e w8 ⟨rfl, hb8⟩
            have HG8 := Lib.hid (HG7.out.call hb8 (Nat.le_refl _))
            have HS8 : Hid (SlI w8 w8.heap.size (some ⟨g6, 0, none⟩) (wd ++ [i]).length (natW (wd ++ [i]))) := (HS7.out.below hb8 (Nat.le_refl _)).more hb8.size
            clear hb8 CA2 HG7 HG6 HS6 HS7
            go_wp2_with (first
              | (at_builtin; (refine wpList_push w8 rfl (.tmp 62) (.tmp 64) _ rfl base 26 (.slice none 0 0) 24 Try.underlying63 infoSL rfl (.slice (some ⟨g5, 0, none⟩) si.1.length c5) si.1.length wz rfl HG8.out.xc.o4 (.slice (some ⟨g6, 0, none⟩) (wd.length + 1) d6) rfl rfl LN1.out (by omega) HG8.out.xc.size ?_; intro g9 c9 w9 hown hgr hat hlt9 hcap9; have HG9 := Lib.hid (HG8.out.push4 (u := .slice (some ⟨g9, 0, none⟩) (si.1.length + 1) c9) (wd := wd ++ [i]) (b := g6) (o := 0) (c := d6) (by rw [HX6.out]; exact hown) hgr (at_push hat) HS8.out HBAD.out); have e2 := HG9.out.xc.row.cell 2; clear hown hgr hat hlt9 hcap9))
              | (at_builtin; (refine wpList_int_push w9 rfl (.tmp 67) (.tmp 69) _ rfl base 2 Try.underlying26 infoIU u2 si.2 rfl HG9.out.xc.o2 (si.1.length : Int) rfl LN2.out HG9.out.xc.size ?_; intro g10 c10 wv hown hbl hat hgr; have hrow := HG9.out.xc.row.grown hgr (fun e => (HG9.out.xc.d2 _ e.symm).1 rfl); have y2 := hrow.cell 2; have f2 := hrow.frozen 2; have HGv := Lib.hid (HG9.out.push2 (u := .slice (some ⟨g10, 0, none⟩) (si.2.length + 1) c10) (N' := si.2 ++ [(si.1.length : Int)]) hown hgr (at_push hat)); clear hrow hown hbl hat hgr)))
            try clear e2
            try clear y2
            try clear f2
            clear HG8
            clear HG9
            go_roundg (gi - 1)
            case measure => omega
            case rel =>
              refine ⟨i + 1, g9, c9, .slice (some ⟨g10, 0, none⟩) (si.2.length + 1) c10, wz ++ [.slice (some ⟨g6, 0, none⟩) (wd ++ [i]).length d6], by rw [HRN.out]; simp, by go_num, by omega, by omega, ?_⟩
              rw [HRN.out]
              refine ⟨HVN.out, ?_⟩
              have := HGv.out
              simp only [List.length_append, List.length_cons, List.length_nil] at this ⊢
              exact this
        · have hT' : i = T := by omega
          have l3 : (T : Int) ≤ (i : Int) := by omega
          have HEX : Hid (gsA T P E Q W (n + 1) = si) := by show _ = _; rw [gsA_succ (by rw [← HST.out]; exact HK.out), ← HST.out, HSI.out, hT']
          have hfu : ∃ f, gq = f + 1 := ⟨gq - 1, by have := HMN.out; have := HL64.out; omega⟩
          clear hlt2
          go_wp2_with fail
          go_roundg (gq - 1)
          case measure => obtain ⟨f, hf⟩ := hfu; omega
          case rel =>
            obtain ⟨f, hf⟩ := hfu
            have hge : n + 1 ≤ si.1.length := HNLS.out
            have hEE : gsE T P E Q W (gq - 1) (n + 1) = gsN T P E Q W := by
              rw [← HE.out, hf, gsE, ← HST.out, if_pos hlt]; rfl
            have hte : ((st.1.take (n + 1)).map (rdP T P E)) = ((si.1.take (n + 1)).map (rdP T P E)) := by
              obtain ⟨r, hr⟩ := gsR_app (T := T) (P := P) (E := E) (Q := Q) wd st i
              rw [← HSI.out] at hr
              rw [hr, List.take_append_of_le_length (by omega)]
            have hX := HG.out
            rw [hte] at hX
            refine ⟨n + 1, g5, c5, u2, (.slice A5 (n + 1) d5), wz, by rw [HEX.out], by go_num, ?_, ?_⟩
            · have q1 := HMN.out
              show _ + _ = 65
              omega
            rw [HEX.out]
            exact ⟨hge, hEE, hX⟩
    · have hnn : n = st.1.length := by have := HNL.out; omega
      have l1 : (st.1.length : Int) ≤ (n : Int) := by omega
      have HGN : Hid (gsN T P E Q W = n) := by
        show _ = _
        rw [← HE.out]
        cases gq with
        | zero => rfl
        | succ f => rw [gsE, ← HST.out, if_neg hlt]
      have hGW : gsW T P E Q W = st.1 := by unfold gsW; rw [HGN.out, ← HST.out]
      have hGP : gsP T P E Q W = st.2 := by unfold gsP; rw [HGN.out, ← HST.out]
      have hGD : gsD T P E Q W = ((st.1.take n).map (rdP T P E)) := by unfold gsD; rw [hGW, List.take_of_length_le (by omega)]
      have HGW := Lib.hid hGW; have HGP := Lib.hid hGP; have HGD := Lib.hid hGD
      have hR : Row wo w.heap.size 33 [.int .i64 0, .int .i64 0, .slice none 0 0, .slice none 0 0] := HG.out.kp.row R2.out (by omega) (by have := HBG.out; omega)
      have RR := Lib.hid hR
      have hG := HG.out.xc.row
      have b0 := hG.cell 0; have b1 := hG.cell 1; have b2 := hG.cell 2; have b3 := hG.cell 3; have z0 := hG.frozen 0
      have k0 := hR.cell 0; have k1 := hR.cell 1; have k2 := hR.cell 2; have k3 := hR.cell 3
      have f0 := hR.frozen 0; have f1 := hR.frozen 1; have f2 := hR.frozen 2; have f3 := hR.frozen 3
      obtain ⟨A2', c2', hv2, -⟩ := own_form HG.out.xc.o2
      obtain ⟨A3', c3', hv3, -⟩ := own_form HG.out.xc.o3
      have HLE : Hid (((st.1.take n).map (rdP T P E)).length = n) := by show _ = _; rw [List.length_map, List.length_take]; omega
      rw [HLE.out] at hv3
      have HNE := Lib.hid hnn
      have hgr : w.heap.size ≠ w.heap.size + 1 := by omega
      clear hGW hGP hGD hG hR hlt hnn
      subst hv2; subst hv3
      have RR2 := Lib.hid (RR.out.far (p := ⟨w.heap.size + 1, 0, none⟩) hgr (.int .i64 (st.1.length : Int)))
      go_wp2_with fail
      clear b0 b1 b2 b3 z0 k0 k1 k2 k3 f0 f1 f2 f3
      have hF := ((((RR2.out.set_ 0 (.int .i64 (st.1.length : Int))).set_ 1 (.int .i64 (T : Int))).set_ 2 (.slice A2' st.2.length c2')).set_ 3 (.slice A3' n c3'))
      refine bodyPost_ret (results_cell2 rfl _ _ w.heap.size 33 #[.int .i64 (st.1.length : Int), .int .i64 (T : Int), .slice A2' st.2.length c2', .slice A3' n c3'] (0, 0) _ (.slice (some ⟨g4, 0, none⟩) st.1.length c4) rfl rfl hF Try.underlying33 rfl (by kernel_rfl)) rfl ?_
      clear hF
      obtain ⟨wF, hwF⟩ : ∃ x, x = ((((((wo.setCell ⟨w.heap.size + 1, 0, none⟩ (.int .i64 (st.1.length : Int))).setCell ⟨w.heap.size, 0, none⟩ (.int .i64 (st.1.length : Int))).setCell ⟨w.heap.size, 1, none⟩ (.int .i64 (T : Int))).setCell ⟨w.heap.size, 2, none⟩ (.slice A2' st.2.length c2')).setCell ⟨w.heap.size, 3, none⟩ (.slice A3' n c3')) : World) := ⟨_, rfl⟩
      rw [← hwF]
      have hsz : wF.heap.size = wo.heap.size := by rw [hwF]; simp [World.setCell]
      have hke : ∀ k, k ≠ w.heap.size + 1 → k ≠ w.heap.size → wF.heap[k]? = wo.heap[k]? := fun k h1 h2 => by
        rw [hwF]
        exact (set4_heap _ _ _ _ _ _ _ h2).trans (Below.heap_setCell _ _ _ _ h1)
      have hot : wF.os = wo.os ∧ wF.tape = wo.tape ∧ wF.output = wo.output := by rw [hwF]; exact ⟨rfl, rfl, rfl⟩
      have hLo := HL1.out wo HG.out.kp
      clear hwF
      have hl4 := HG.out.l4 g4 rfl
      have hbgl := HBG.out.2
      refine ⟨g4, c4, ws', .agg #[.int .i64 (st.1.length : Int), .int .i64 (T : Int), .slice A2' st.2.length c2', .slice A3' n c3'], by rw [HGW.out], ?_, ?_, HG.out.sm, ?_, ?_, ?_⟩
      · rw [HGW.out]
        exact own_move HG.out.xc.o4 (fun k q => hke k (HG.out.xc.d4 k q) (by simp [Value.ownBlock] at q; omega))
      · rw [HGW.out]
        exact HG.out.el.step (by rw [hsz]; exact Nat.le_refl _) (fun b _ hn => hke b (fun e => hn (.inl e)) (fun e => hn (.inr (.inr (.inr (.inr (.inl e))))))) (fun b _ q => Or.elim q (fun q => .inr (.inr (.inr (.inl (by rw [q]; rfl))))) (fun q => .inr (.inr (.inr (.inr (.inr q))))))
      · rcases hl4 with e | e
        · exact .inl e
        · exact .inr (by omega)
      · rw [HGW.out, HGP.out, HGD.out]
        have hp := xc_endR HG.out.xc (gr := w.heap.size) (lo' := w.heap.size + 1) rfl hsz hke (by omega) (fun k h => HG.out.l2 k h) (fun k h => HG.out.l3 k h) (st.1.length : Int) (T : Int)
        exact hp.lower (by omega)
      · exact hLo.trans ⟨hot.1, hot.2.1, hot.2.2, by rw [hsz]; exact Nat.le_refl _, fun k hk hg => hke k (by omega) (by omega)⟩

end Go.Proofs.Ytbdfbmohdbigfaa