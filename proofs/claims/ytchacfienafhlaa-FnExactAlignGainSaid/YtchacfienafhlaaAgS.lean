/- Three rows, three tables beside one another. -/
import Derived.Test.YtchacfienafhlaaAgK
import Derived.Test.YtchacfienafhlaaLg2
import Derived.Test.YtchacfienafhlaaEd2
import Derived.Test.YtchacfienafhlaaEdC
import Derived.Test.YtchacfienafhlaaStO
namespace Go.Proofs.Ytchacfienafhlaa
open Go.RowKit Go.PlainAid
set_option linter.unusedVariables false
/-- Blocks apart. -/
def Ap2 (v v' : Value) : Prop := ∀ k, v.ownBlock = some k → v'.ownBlock ≠ some k
theorem Ap2.symm {v v' : Value} (h : Ap2 v v') : Ap2 v' v := fun k h1 h2 => h k h2 h1
def R3 (w : World) (base : Nat) (t : TypeId) (v1 v2 v3 : Value) (r1 r2 r3 : List Int) : Prop := RowI w base t v1 r1 ∧ RowI w base t v2 r2 ∧ RowI w base t v3 r3 ∧ Ap2 v1 v2 ∧ Ap2 v2 v3 ∧ Ap2 v3 v1
section
variable {w w' : World} {base : Nat} {t : TypeId} {v1 v2 v3 : Value} {r1 r2 r3 : List Int}
theorem R3.rot (h : R3 w base t v1 v2 v3 r1 r2 r3) : R3 w base t v2 v3 v1 r2 r3 r1 := ⟨h.2.1, h.2.2.1, h.1, h.2.2.2.2.1, h.2.2.2.2.2, h.2.2.2.1⟩
theorem R3.drewN (h : R3 w base t v1 v2 v3 r1 r2 r3) (q : Nat) : R3 (w.drewN q) base t v1 v2 v3 r1 r2 r3 := h
theorem R3.push (h : R3 w base t v1 v2 v3 r1 r2 r3) {g c n : Nat} {y : Int} (hown : RowI w' base t (.slice (some ⟨g, 0, none⟩) n c) (r1 ++ [y])) (hgr : w.grownBy w' v1.ownBlock) (hat : v1.ownBlock = some g ∨ w.heap.size ≤ g) :
    R3 w' base t (.slice (some ⟨g, 0, none⟩) n c) v2 v3 (r1 ++ [y]) r2 r3 := by
  obtain ⟨h1, h2, h3, a12, a23, a31⟩ := h
  refine ⟨hown, own_move h2 (fun k hk => hgr.block k (World.ownsRow.lt h2 k hk).2 (fun e => a12 k e.symm hk)), own_move h3 (fun k hk => hgr.block k (World.ownsRow.lt h3 k hk).2 (fun e => a31 k hk e.symm)), ?_, a23, ?_⟩
  · intro k hk hk2
    simp [Value.ownBlock] at hk
    subst hk
    rcases hat with e | e
    · exact a12 _ e hk2
    · have := (World.ownsRow.lt h2 _ hk2).2; omega
  · intro k hk hk2
    simp [Value.ownBlock] at hk2
    subst hk2
    rcases hat with e | e
    · exact a31 _ hk e
    · have := (World.ownsRow.lt h3 _ hk).2; omega
end
/-- A table whose blocks all lie in q. -/
def TQ (w : World) (base : Nat) (TT : TypeId) (v : Value) (rows : List (List Int)) (q : Nat → Prop) : Prop :=
  (∃ vs : List Value, w.ownsRow base TT 1 v rows.length vs ∧
    ∀ (j : Nat) (r : List Int), rows[j]? = some r → ∃ (g c : Nat), vs[j]? = some (Value.slice (some ⟨g, 0, none⟩) r.length c) ∧ base ≤ g ∧ q g ∧ v.ownBlock ≠ some g ∧ r.length ≤ c ∧ ∀ (k : Nat) (x : Int), r[k]? = some x → w.cell? ⟨g, k, none⟩ = some (.int .i64 x)) ∧
  (∀ k, v.ownBlock = some k → q k) ∧ ∀ k, q k → k < w.heap.size
section
variable {w w' : World} {base : Nat} {TT : TypeId} {v : Value} {rows : List (List Int)} {q : Nat → Prop}
theorem TQ.tab (h : TQ w base TT v rows q) : TabI w base TT v rows := by
  obtain ⟨⟨vs, hown, hr⟩, _, hq⟩ := h
  refine ⟨vs, hown, fun j r hj => ?_⟩
  obtain ⟨g, c, e1, e2, e3, e4, e5, e6⟩ := hr j r hj
  exact ⟨g, c, e1, e2, hq g e3, e4, e5, e6⟩
theorem TQ.made (w : World) (base : Nat) (TT : TypeId) (hb : base ≤ w.heap.size) : TQ (w.alloc (.cells #[] TT)) base TT (.slice (some ⟨w.heap.size, 0, none⟩) 0 0) [] (fun k => k = w.heap.size) :=
  ⟨⟨[], World.ownsRow_made w #[] 0 hb (by unfold maxLen; omega) rfl, fun j r h => by simp at h⟩, fun k hk => by simp [Value.ownBlock] at hk; exact hk.symm, fun k hk => by subst hk; simp⟩
/-- What leaves q's blocks alone leaves the table. -/
theorem TQ.move (h : TQ w base TT v rows q) (hs : w.heap.size ≤ w'.heap.size) (hk : ∀ k, q k → w'.heap[k]? = w.heap[k]?) : TQ w' base TT v rows q := by
  obtain ⟨⟨vs, hown, hr⟩, ho, hq⟩ := h
  refine ⟨⟨vs, own_move hown (fun k e => hk k (ho k e)), fun j r hj => ?_⟩, ho, fun k h => Nat.lt_of_lt_of_le (hq k h) hs⟩
  obtain ⟨g, c, e1, e2, e3, e4, e5, e6⟩ := hr j r hj
  refine ⟨g, c, e1, e2, e3, e4, e5, fun k x hx => ?_⟩
  have := e6 k x hx
  unfold World.cell? at this ⊢
  simp only [hk g e3]
  exact this
theorem TQ.below {B : Nat} (h : TQ w base TT v rows q) (hb : Below B w w') (hB : w.heap.size ≤ B) : TQ w' base TT v rows q :=
  h.move hb.size (fun k hk => hb.block k (Nat.lt_of_lt_of_le (h.2.2 k hk) hB))
end
def T3 (w : World) (base : Nat) (TT : TypeId) (v1 v2 v3 : Value) (R1 R2 R3 : List (List Int)) (q1 q2 q3 : Nat → Prop) : Prop :=
  TQ w base TT v1 R1 q1 ∧ TQ w base TT v2 R2 q2 ∧ TQ w base TT v3 R3 q3 ∧ (∀ k, q1 k → ¬ q2 k) ∧ (∀ k, q2 k → ¬ q3 k) ∧ (∀ k, q3 k → ¬ q1 k)
section
variable {w w' : World} {base : Nat} {TT : TypeId} {v1 v2 v3 : Value} {R1 R2 R3 : List (List Int)} {q1 q2 q3 : Nat → Prop}
theorem T3.rot (h : T3 w base TT v1 v2 v3 R1 R2 R3 q1 q2 q3) : T3 w base TT v2 v3 v1 R2 R3 R1 q2 q3 q1 := ⟨h.2.1, h.2.2.1, h.1, h.2.2.2.2.1, h.2.2.2.2.2, h.2.2.2.1⟩
theorem T3.below {B : Nat} (h : T3 w base TT v1 v2 v3 R1 R2 R3 q1 q2 q3) (hb : Below B w w') (hB : w.heap.size ≤ B) : T3 w' base TT v1 v2 v3 R1 R2 R3 q1 q2 q3 :=
  ⟨h.1.below hb hB, h.2.1.below hb hB, h.2.2.1.below hb hB, h.2.2.2⟩
theorem T3.drewN (h : T3 w base TT v1 v2 v3 R1 R2 R3 q1 q2 q3) (q : Nat) : T3 (w.drewN q) base TT v1 v2 v3 R1 R2 R3 q1 q2 q3 := h
theorem T3.empty (w : World) (base : Nat) (TT : TypeId) (hb : base ≤ w.heap.size) :
    T3 (((w.alloc (.cells #[] TT)).alloc (.cells #[] TT)).alloc (.cells #[] TT)) base TT (.slice (some ⟨w.heap.size, 0, none⟩) 0 0) (.slice (some ⟨w.heap.size + 1, 0, none⟩) 0 0) (.slice (some ⟨w.heap.size + 2, 0, none⟩) 0 0) [] [] [] (fun k => k = w.heap.size) (fun k => k = w.heap.size + 1) (fun k => k = w.heap.size + 2) := by
  have s1 : (w.alloc (.cells #[] TT)).heap.size = w.heap.size + 1 := by simp
  have s2 : ((w.alloc (.cells #[] TT)).alloc (.cells #[] TT)).heap.size = w.heap.size + 2 := by simp
  have h1 := TQ.made w base TT hb
  have h2 := TQ.made (w.alloc (.cells #[] TT)) base TT (by omega)
  have h3 := TQ.made ((w.alloc (.cells #[] TT)).alloc (.cells #[] TT)) base TT (by omega)
  rw [s1] at h2; rw [s2] at h3
  have b1 : ∀ (x : World) (o : Obj), Below x.heap.size x (x.alloc o) := fun x o => (Below.refl _ _).alloc (Nat.le_refl _) _
  exact ⟨(h1.below (b1 _ _) (Nat.le_refl _)).below (b1 _ _) (Nat.le_refl _), h2.below (b1 _ _) (Nat.le_refl _), h3, fun k h h' => by omega, fun k h h' => by omega, fun k h h' => by omega⟩
end
theorem wpList_t3_push {P : Program} (w0 : World) {ops : Array Oper} {rest : List Oper} {o : Oper} {a : Act} {Q : Exit → Act → World → Prop} (hgd : o.guard = none) (s x : Operand) (t : TypeId)
    (ho : o.op = .call { callee := .builtin .append, args := #[s, x], argTypes := #[t, t] })
    (base : Nat) (TT : TypeId) (ht : P.underlying t = some (.slice TT)) (hinfo : (P.info? TT).map (fun i => (i.zero, i.size, i.bytes)) = some (some (.slice none 0 0), 1, 24))
    (v1 v2 v3 : Value) (R1 R2 R3 : List (List Int)) (q1 q2 q3 : Nat → Prop) (hs : a.eval s = v1) (htab : T3 w0 base TT v1 v2 v3 R1 R2 R3 q1 q2 q3)
    (g c m : Nat) (r : List Int) (hm : r.length = m) (hx : a.eval x = .slice (some ⟨w0.heap.size, 0, none⟩) 1 1)
    (hg : base ≤ g) (hlt : g < w0.heap.size) (hn1 : ¬ q1 g) (hn2 : ¬ q2 g) (hn3 : ¬ q3 g) (hc : m ≤ c) (hcells : ∀ k x, r[k]? = some x → w0.cell? ⟨g, k, none⟩ = some (.int .i64 x))
    (hn : R1.length + 1 ≤ 4294967296) (hbase : base ≤ w0.heap.size)
    (h : ∀ g' cap w', T3 w' base TT (.slice (some ⟨g', 0, none⟩) (R1.length + 1) cap) v2 v3 (R1 ++ [r]) R2 R3 (fun k => q1 k ∨ k = g ∨ k = g') q2 q3 → w0.grownBy w' v1.ownBlock → Below base w0 w' → (v1.ownBlock = some g' ∨ w0.heap.size ≤ g') →
      wpList P ops Q rest (a.put o.dst (.slice (some ⟨g', 0, none⟩) (R1.length + 1) cap)) w') :
    wpList P ops Q (o :: rest) a (w0.alloc (.cells #[.slice (some ⟨g, 0, none⟩) m c] TT)) := by
  subst hm
  obtain ⟨⟨⟨vs, hown, hr⟩, ho1, hq1⟩, t2, t3, d12, d23, d31⟩ := htab
  refine wpList_push w0 hgd s x t ho base TT (.slice none 0 0) 24 ht hinfo rfl v1 R1.length vs hs hown _ hx rfl hn (Nat.le_refl _) hbase ?_
  intro g' cap w' hown' hgr hat hlt' hcap
  have hbel := grown_below hown hgr hbase
  have hne : v1.ownBlock ≠ some g := fun e => hn1 (ho1 g e)
  have hsz := hgr.size
  refine h g' cap w' ⟨⟨⟨vs ++ [.slice (some ⟨g, 0, none⟩) r.length c], by rw [List.length_append]; exact hown', ?_⟩, ?_, ?_⟩, ?_, ?_, ?_, d23, ?_⟩ hgr hbel hat
  · have hl : vs.length = R1.length := by have := hown.1; omega
    intro j r' hj
    by_cases hjl : j < R1.length
    · rw [List.getElem?_append_left hjl] at hj
      obtain ⟨g1, c1, e1, e2, e3, e4, e5, e6⟩ := hr j r' hj
      refine ⟨g1, c1, by rw [List.getElem?_append_left (by omega)]; exact e1, e2, .inl e3, ?_, e5, fun k x hx => hgr.cell (e6 k x hx) (Ne.symm e4)⟩
      intro e
      simp [Value.ownBlock] at e
      rcases hat with h | h
      · exact e4 (by rw [h, e])
      · have := hq1 g1 e3; omega
    · rw [List.getElem?_append_right (by omega)] at hj
      obtain ⟨hj0, rfl⟩ : j - R1.length = 0 ∧ r = r' := by
        rcases Nat.eq_zero_or_pos (j - R1.length) with h | h
        · rw [h] at hj; exact ⟨h, by simpa using hj⟩
        · rw [List.getElem?_eq_none (by simp; omega)] at hj; cases hj
      refine ⟨g, c, by rw [List.getElem?_append_right (by omega), hl, hj0]; rfl, hg, .inr (.inl rfl), ?_, hc, fun k x hx => hgr.cell (hcells k x hx) (Ne.symm hne)⟩
      intro e
      simp [Value.ownBlock] at e
      rcases hat with h | h
      · exact hne (by rw [h, e])
      · omega
  · intro k hk; simp [Value.ownBlock] at hk; exact .inr (.inr hk.symm)
  · intro k hk
    rcases hk with hk | hk | hk
    · have := hq1 k hk; omega
    · omega
    · subst hk; exact hlt'
  · exact t2.move hsz (fun k hk => hgr.block k (t2.2.2 k hk) (fun e => d12 k (ho1 k e.symm) hk))
  · exact t3.move hsz (fun k hk => hgr.block k (t3.2.2 k hk) (fun e => d31 k hk (ho1 k e.symm)))
  · intro k hk hk2
    rcases hk with hk | hk | hk
    · exact d12 k hk hk2
    · subst hk; exact hn2 hk2
    · subst hk
      rcases hat with h | h
      · exact d12 _ (ho1 _ h) hk2
      · have := t2.2.2 _ hk2; omega
  · intro k hk2 hk
    rcases hk with hk | hk | hk
    · exact d31 k hk2 hk
    · subst hk; exact hn3 hk2
    · subst hk
      rcases hat with h | h
      · exact d31 _ hk2 (ho1 _ h)
      · have := t3.2.2 _ hk2; omega
end Go.Proofs.Ytchacfienafhlaa
