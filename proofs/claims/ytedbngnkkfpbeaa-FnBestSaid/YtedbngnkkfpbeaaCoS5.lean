/- Tables of the call's own whose rows are written; the closure, plainly. -/
import Derived.Test.YtedbngnkkfpbeaaCoS4

namespace Go.Proofs.Ytedbngnkkfpbeaa
open Go.RowKit
set_option linter.unusedVariables false
def TabD (w : World) (base : Nat) (v : Value) (gs : List Nat) (C : List (List Int)) : Prop :=
  ∃ vs : List Value, w.ownsRow base 26 1 v C.length vs ∧ gs.length = C.length ∧ gs.Nodup ∧
    ∀ (j g : Nat) (r : List Int), gs[j]? = some g → C[j]? = some r → ∃ c, vs[j]? = some (Value.slice (some ⟨g, 0, none⟩) r.length c) ∧ v.ownBlock ≠ some g ∧ RowI w base 2 (.slice (some ⟨g, 0, none⟩) r.length c) r
theorem TabD.made (w : World) (base : Nat) (hb : base ≤ w.heap.size) : TabD (w.alloc (.cells #[] 26)) base (.slice (some ⟨w.heap.size, 0, none⟩) 0 0) [] [] :=
  ⟨[], World.ownsRow_made w #[] 0 hb (by unfold maxLen; omega) rfl, rfl, List.nodup_nil, fun j g r h => by simp at h⟩
section
variable {w w' : World} {base B : Nat} {v : Value} {gs : List Nat} {C : List (List Int)}
theorem TabD.keep (h : TabD w base v gs C) (hb : Below B w w') (hB : w.heap.size ≤ B) : TabD w' base v gs C := by
  obtain ⟨vs, hown, h1, h2, hr⟩ := h
  refine ⟨vs, own_move hown (fun g hg => hb.block g (Nat.lt_of_lt_of_le (hown.lt g hg).2 hB)), h1, h2, fun j g r hj hc => ?_⟩
  obtain ⟨c, e1, e2, e3⟩ := hr j g r hj hc
  exact ⟨c, e1, e2, e3.keep hb hB⟩
theorem TabD.tab (h : TabD w base v gs C) : TabI w base 26 v C := by
  obtain ⟨vs, hown, h1, h2, hr⟩ := h
  refine ⟨vs, hown, fun j r hj => ?_⟩
  have hjl := (List.getElem?_eq_some_iff.1 hj).1
  obtain ⟨g, hg⟩ : ∃ g, gs[j]? = some g := ⟨_, List.getElem?_eq_getElem (show j < gs.length by omega)⟩
  obtain ⟨c, e1, e2, e3⟩ := hr j g r hg hj
  obtain ⟨x1, x2⟩ := e3.lt
  obtain ⟨us, _, _, _, _, _, x3, _⟩ := e3.open
  exact ⟨g, c, e1, x1, x2, e2, x3, fun k x hx => e3.cell hx⟩
theorem TabD.block (h : TabD w base v gs C) : ∀ k, v.ownBlock = some k → base ≤ k ∧ k < w.heap.size := by
  obtain ⟨vs, hown, _⟩ := h; exact hown.lt
theorem TabD.row (h : TabD w base v gs C) {j : Nat} {r : List Int} (hj : C[j]? = some r) : ∃ g c, gs[j]? = some g ∧ RowI w base 2 (.slice (some ⟨g, 0, none⟩) r.length c) r ∧ ∀ go n co, v = .slice (some ⟨go, 0, none⟩) n co → w.cell? ⟨go, j, none⟩ = some (.slice (some ⟨g, 0, none⟩) r.length c) := by
  obtain ⟨vs, hown, h1, h2, hr⟩ := h
  have hjl := (List.getElem?_eq_some_iff.1 hj).1
  obtain ⟨g, hg⟩ : ∃ g, gs[j]? = some g := ⟨_, List.getElem?_eq_getElem (show j < gs.length by omega)⟩
  obtain ⟨c, e1, e2, e3⟩ := hr j g r hg hj
  refine ⟨g, c, hg, e3, fun go n co e => ?_⟩
  subst e
  have hcell := hown.cells (g := go) rfl j _ e1
  have ea : (⟨go, 0, none⟩ : Addr).add j = ⟨go, j, none⟩ := by unfold Addr.add; by_cases h : j = 0 <;> simp [h]
  rw [ea] at hcell
  exact hcell
theorem TabD.set (h : TabD w base v gs C) {a g : Nat} {r : List Int} (hg : gs[a]? = some g) (hr0 : C[a]? = some r) (k : Nat) (x : Int) : TabD (w.setCell ⟨g, k, none⟩ (.int .i64 x)) base v gs (C.set a (r.set k x)) := by
  obtain ⟨vs, hown, h1, h2, hr⟩ := h
  obtain ⟨c0, e01, e02, e03⟩ := hr a g r hg hr0
  have hal := (List.getElem?_eq_some_iff.1 hr0).1
  refine ⟨vs, by rw [List.length_set]; exact own_move hown (fun q hq => Below.heap_setCell _ _ _ _ (by rintro rfl; exact e02 hq)), by rw [List.length_set]; exact h1, h2, fun j g' r' hj hc => ?_⟩
  rw [List.getElem?_set] at hc
  by_cases e : a = j
  · subst e
    rw [if_pos rfl, if_pos hal] at hc
    obtain rfl := Option.some.inj hc
    obtain rfl : g' = g := Option.some.inj (hj.symm.trans hg)
    rw [List.length_set]
    exact ⟨c0, e01, e02, by have := e03.set k x; exact this⟩
  · rw [if_neg e] at hc
    obtain ⟨c, e1, e2, e3⟩ := hr j g' r' hj hc
    refine ⟨c, e1, e2, ?_⟩
    have hne : g' ≠ g := by
      rintro rfl
      obtain ⟨ha1, ha2⟩ := List.getElem?_eq_some_iff.1 hg
      obtain ⟨hj1, hj2⟩ := List.getElem?_eq_some_iff.1 hj
      have hp := List.pairwise_iff_getElem.1 h2
      rcases Nat.lt_or_gt_of_ne e with hlt | hlt
      · exact hp a j ha1 hj1 hlt (ha2.trans hj2.symm)
      · exact hp j a hj1 ha1 hlt (hj2.trans ha2.symm)
    exact own_move e3 (fun q hq => Below.heap_setCell _ _ _ _ (by simp [Value.ownBlock] at hq; subst hq; exact hne))
end
/-- 'table = append(table, row)'. -/
theorem wpList_tabd_push {P : Program} (w0 : World) {ops : Array Oper} {rest : List Oper} {o : Oper} {a : Act} {Q : Exit → Act → World → Prop} (hgd : o.guard = none) (s x : Operand) (t : TypeId)
    (ho : o.op = .call { callee := .builtin .append, args := #[s, x], argTypes := #[t, t] })
    (base : Nat) (ht : P.underlying t = some (.slice 26)) (hinfo : (P.info? 26).map (fun i => (i.zero, i.size, i.bytes)) = some (some (.slice none 0 0), 1, 24))
    (v : Value) (gs : List Nat) (C : List (List Int)) (hs : a.eval s = v) (htab : TabD w0 base v gs C)
    (g c m : Nat) (r : List Int) (hm : r.length = m) (hx : a.eval x = .slice (some ⟨w0.heap.size, 0, none⟩) 1 1)
    (hr0 : RowI w0 base 2 (.slice (some ⟨g, 0, none⟩) m c) r) (hne : v.ownBlock ≠ some g) (hng : g ∉ gs)
    (hn : C.length + 1 ≤ 4294967296) (hbase : base ≤ w0.heap.size)
    (h : ∀ g' cap w', TabD w' base (.slice (some ⟨g', 0, none⟩) (C.length + 1) cap) (gs ++ [g]) (C ++ [r]) → Below base w0 w' →
      wpList P ops Q rest (a.put o.dst (.slice (some ⟨g', 0, none⟩) (C.length + 1) cap)) w') :
    wpList P ops Q (o :: rest) a (w0.alloc (.cells #[.slice (some ⟨g, 0, none⟩) m c] 26)) := by
  subst hm
  obtain ⟨vs, hown, h1, h2, hr⟩ := htab
  refine wpList_push w0 hgd s x t ho base 26 (.slice none 0 0) 24 ht hinfo rfl v C.length vs hs hown _ hx rfl hn (Nat.le_refl _) hbase ?_
  intro g' cap w' hown' hgr hat hlt' hcap
  have hbel := grown_below hown hgr hbase
  have hkeep : ∀ (q cq : Nat) (rq : List Int), v.ownBlock ≠ some q → RowI w0 base 2 (.slice (some ⟨q, 0, none⟩) rq.length cq) rq → RowI w' base 2 (.slice (some ⟨q, 0, none⟩) rq.length cq) rq ∧ (Value.slice (some ⟨g', 0, none⟩) (C.length + 1) cap).ownBlock ≠ some q := by
    intro q cq rq hq hrq
    refine ⟨own_move hrq (fun z hz => hgr.block z (hrq.lt.2 |> fun hh => by simp [Value.ownBlock] at hz; omega) (by simp [Value.ownBlock] at hz; subst hz; exact Ne.symm hq)), ?_⟩
    intro e
    simp [Value.ownBlock] at e
    rcases hat with hh | hh
    · exact hq (by rw [hh, e])
    · have := hrq.lt.2; omega
  refine h g' cap w' ⟨vs ++ [.slice (some ⟨g, 0, none⟩) r.length c], by rw [List.length_append]; exact hown', by simp [h1], ?_, ?_⟩ hbel
  · rw [List.nodup_append]
    refine ⟨h2, by simp, fun x hx y hy => ?_⟩
    simp at hy
    subst hy
    rintro rfl
    exact hng hx
  · have hl : vs.length = C.length := by have := hown.1; omega
    intro j g1 r1 hj hc
    by_cases hjl : j < C.length
    · rw [List.getElem?_append_left (by omega)] at hj
      rw [List.getElem?_append_left hjl] at hc
      obtain ⟨c1, e1, e2, e3⟩ := hr j g1 r1 hj hc
      obtain ⟨k1, k2⟩ := hkeep g1 c1 r1 e2 e3
      exact ⟨c1, by rw [List.getElem?_append_left (by omega)]; exact e1, k2, k1⟩
    · have hjl' := (List.getElem?_eq_some_iff.1 hc).1
      rw [List.length_append, List.length_singleton] at hjl'
      obtain rfl : j = C.length := by omega
      rw [List.getElem?_append_right (by omega), h1, Nat.sub_self] at hj
      rw [List.getElem?_append_right (Nat.le_refl _), Nat.sub_self] at hc
      simp at hj hc
      subst hj; subst hc
      obtain ⟨k1, k2⟩ := hkeep g c r hne hr0
      exact ⟨c, by rw [List.getElem?_append_right (by omega), hl, Nat.sub_self]; rfl, k2, k1⟩
-- The closure, plainly.
def Shp (n : Nat) (C : List (List Int)) : Prop := C.length = n ∧ ∀ r ∈ C, r.length = n
theorem Shp.at_ {n : Nat} {C : List (List Int)} (h : Shp n C) {i k : Nat} (hi : i < n) (hk : k < n) : ∃ r, C[i]? = some r ∧ r.length = n ∧ r[k]? = some (gg C i k) := by
  obtain ⟨r, h1⟩ : ∃ r, C[i]? = some r := ⟨_, List.getElem?_eq_getElem (show i < C.length by have := h.1; omega)⟩
  have hl : r.length = n := h.2 r (List.mem_of_getElem? h1)
  obtain ⟨x, h2⟩ : ∃ x, r[k]? = some x := ⟨_, List.getElem?_eq_getElem (show k < r.length by omega)⟩
  exact ⟨r, h1, hl, by rw [gg_get h1 h2]; exact h2⟩
theorem Shp.set {n : Nat} {C : List (List Int)} (h : Shp n C) {a b : Nat} {r : List Int} (hr : C[a]? = some r) (x : Int) : Shp n (C.set a (r.set b x)) := by
  refine ⟨by rw [List.length_set]; exact h.1, fun q hq => ?_⟩
  rcases List.mem_or_eq_of_mem_set hq with h1 | rfl
  · exact h.2 q h1
  · rw [List.length_set]; exact h.2 r (List.mem_of_getElem? hr)
theorem gg_set {n : Nat} {C : List (List Int)} (h : Shp n C) {a b : Nat} {r : List Int} (hr : C[a]? = some r) (hb : b < n) (x : Int) {i k : Nat} (hi : i < n) (hk : k < n) : gg (C.set a (r.set b x)) i k = if i = a ∧ k = b then x else gg C i k := by
  have hal := (List.getElem?_eq_some_iff.1 hr).1
  have hrl : r.length = n := h.2 r (List.mem_of_getElem? hr)
  obtain ⟨q, hq, hql, hqk⟩ := h.at_ hi hk
  by_cases e : i = a
  · subst e
    obtain rfl : q = r := Option.some.inj (hq.symm.trans hr)
    have h1 : (C.set i (q.set b x))[i]? = some (q.set b x) := by rw [List.getElem?_set, if_pos rfl, if_pos hal]
    by_cases e2 : k = b
    · subst e2
      rw [if_pos ⟨rfl, rfl⟩]
      exact gg_get h1 (by rw [List.getElem?_set, if_pos rfl, if_pos (by omega)])
    · rw [if_neg (fun z => e2 z.2)]
      exact gg_get h1 (by rw [List.getElem?_set, if_neg (fun z => e2 z.symm)]; exact hqk)
  · rw [if_neg (fun z => e z.1)]
    exact gg_get (by rw [List.getElem?_set, if_neg (fun z => e z.symm)]; exact hq) hqk
theorem BdR.set {F : Int} {C : List (List Int)} (h : BdR F C) {a b : Nat} {r : List Int} (hr : C[a]? = some r) {x : Int} (hx : 0 ≤ x ∧ x ≤ F) : BdR F (C.set a (r.set b x)) := fun q hq => by
  rcases List.mem_or_eq_of_mem_set hq with h1 | rfl
  · exact h q h1
  · exact (h r (List.mem_of_getElem? hr)).set hx
/-- The table ahead of the arcs. -/
def c0R (F : Int) (n i : Nat) : List Int := (List.range n).map fun k => if i = k then 0 else F
def c0V (F : Int) (n : Nat) : List (List Int) := (List.range n).map (c0R F n)
theorem c0R_len (F : Int) (n i : Nat) : (c0R F n i).length = n := by simp [c0R]
theorem c0V_len (F : Int) (n : Nat) : (c0V F n).length = n := by simp [c0V]
theorem c0_shp (F : Int) (n : Nat) : Shp n (c0V F n) := ⟨c0V_len F n, fun r hr => by
  simp only [c0V, List.mem_map] at hr
  obtain ⟨i, _, rfl⟩ := hr
  exact c0R_len F n i⟩
theorem c0_bd {F : Int} (hF : 0 ≤ F) (n : Nat) : BdR F (c0V F n) := fun r hr x hx => by
  simp only [c0V, List.mem_map] at hr
  obtain ⟨i, _, rfl⟩ := hr
  simp only [c0R, List.mem_map] at hx
  obtain ⟨k, _, rfl⟩ := hx
  split <;> omega
theorem c0_gg (F : Int) {n i k : Nat} (hi : i < n) (hk : k < n) : gg (c0V F n) i k = if i = k then 0 else F := by
  have h1 : (c0V F n)[i]? = some (c0R F n i) := by simp [c0V, hi]
  exact gg_get h1 (by simp [c0R, hk])
/-- Single arcs, and standing still. -/
def Q0 (L : List A4) (i k : Nat) (c : Int) : Prop := (i = k ∧ c = 0) ∨ Em L i k c
theorem q0_iff {L : List A4} {i k : Nat} {c : Int} : QW (Em L) 0 i k c ↔ Q0 L i k c := by
  constructor
  · intro h
    cases h with
    | refl => exact .inl ⟨rfl, rfl⟩
    | arc h => exact .inr h
    | cons _ h _ => omega
  · rintro (⟨rfl, rfl⟩ | h)
    · exact .refl _
    · exact .arc h
def Ar0 (F : Int) (n : Nat) (L : List A4) (C : List (List Int)) : Prop := ∀ i k, i < n → k < n → Lst F (gg C i k) (Q0 L i k)
theorem Ar0.start {F : Int} (hF : 0 ≤ F) (n : Nat) : Ar0 F n [] (c0V F n) := fun i k hi hk => by
  rw [c0_gg F hi hk]
  by_cases e : i = k
  · rw [if_pos e]
    refine ⟨hF, fun c hc => ?_, fun _ => .inl ⟨e, rfl⟩⟩
    rcases hc with ⟨_, rfl⟩ | ⟨a, ha, _⟩
    · omega
    · cases ha
  · rw [if_neg e]
    refine Lst.none (fun c hc => ?_)
    rcases hc with ⟨h, _⟩ | ⟨a, ha, _⟩
    · exact absurd h e
    · cases ha
theorem Em.take {L : List A4} {j i k : Nat} {c : Int} {a : A4} (h : L[j]? = some a) : Em (L.take (j + 1)) i k c ↔ Em (L.take j) i k c ∨ (a.1 = (i : Int) ∧ a.2.1 = (k : Int) ∧ a.2.2.1 < 0 ∧ a.2.2.2 = c) := by
  obtain ⟨hj, rfl⟩ := List.getElem?_eq_some_iff.1 h
  unfold Em
  rw [List.take_succ_eq_append_getElem hj]
  constructor
  · rintro ⟨b, hb, h1⟩
    rw [List.mem_append, List.mem_singleton] at hb
    rcases hb with hb | rfl
    · exact .inl ⟨b, hb, h1⟩
    · exact .inr h1
  · rintro (⟨b, hb, h1⟩ | h1)
    · exact ⟨b, List.mem_append_left _ hb, h1⟩
    · exact ⟨_, List.mem_append_right _ (List.mem_singleton.2 rfl), h1⟩
theorem Ar0.skip {F : Int} {n j : Nat} {L : List A4} {C : List (List Int)} {a : A4} (h : Ar0 F n (L.take j) C) (ha : L[j]? = some a) (hn : ¬ a.2.2.1 < 0) : Ar0 F n (L.take (j + 1)) C := fun i k hi hk =>
  (h i k hi hk).congr (fun c => by
    unfold Q0
    rw [Em.take ha]
    constructor
    · rintro (h | h)
      · exact .inl h
      · exact .inr (.inl h)
    · rintro (h | h | h)
      · exact .inl h
      · exact .inr h
      · exact absurd h.2.2.1 hn)
theorem Ar0.arc {F : Int} {n j : Nat} {L : List A4} {C : List (List Int)} {f t : Nat} {l p : Int} {r : List Int} (h : Ar0 F n (L.take j) C) (hs : Shp n C) (ha : L[j]? = some ((f : Int), (t : Int), l, p)) (hl : l < 0) (hf : f < n) (ht : t < n) (hr : C[f]? = some r) (hp : p ≤ F) : Ar0 F n (L.take (j + 1)) (C.set f (r.set t (min (gg C f t) p))) := fun i k hi hk => by
  rw [gg_set hs hr ht _ hi hk]
  by_cases e : i = f ∧ k = t
  · obtain ⟨rfl, rfl⟩ := e
    rw [if_pos ⟨rfl, rfl⟩]
    have := (h i k hi hk).min (Q := fun c => c = p) (y := p) (fun _ => rfl) (fun c hc => by omega)
    refine this.congr (fun c => ?_)
    unfold Q0
    rw [Em.take ha]
    constructor
    · rintro ((h | h) | rfl)
      · exact .inl h
      · exact .inr (.inl h)
      · exact .inr (.inr ⟨rfl, rfl, hl, rfl⟩)
    · rintro (h | h | h)
      · exact .inl (.inl h)
      · exact .inl (.inr h)
      · exact .inr h.2.2.2.symm
  · rw [if_neg e]
    refine (h i k hi hk).congr (fun c => ?_)
    unfold Q0
    rw [Em.take ha]
    constructor
    · rintro (h | h)
      · exact .inl h
      · exact .inr (.inl h)
    · rintro (h | h | h)
      · exact .inl h
      · exact .inr h
      · exact absurd ⟨by have := h.1; simp only at this; omega, by have := h.2.1; simp only at this; omega⟩ e
theorem Ar0.mdn {F : Int} {n : Nat} {L : List A4} {C : List (List Int)} (h : Ar0 F n L C) : Mdn F n (Em L) 0 (gg C) := fun i k hi hk => (h i k hi hk).congr (fun c => q0_iff.symm)
/-- While the pass of j goes on: rows ahead of i are done, and row i up to k. -/
def MdC (F : Int) (n : Nat) (L : List A4) (j i k : Nat) (C : List (List Int)) : Prop := Mid F n (Em L) j (fun a b => a < i ∨ (a = i ∧ b < k)) (gg C)
theorem Mid.more {F : Int} {n : Nat} {R : Nat → Nat → Int → Prop} {j : Nat} {d d' : Nat → Nat → Prop} {e e' : Nat → Nat → Int} (h : Mid F n R j d e) (hd : ∀ i k, i < n → k < n → d' i k → d i k) (he : ∀ i k, i < n → k < n → e' i k = e i k) : Mid F n R j d' e' := fun i k hi hk => by
  rw [he i k hi hk]
  have := h i k hi hk
  exact ⟨this.1, this.2.1, this.2.2.1, fun z => this.2.2.2 (hd i k hi hk z)⟩
theorem MdC.step {F : Int} (hF : 0 ≤ F) {n : Nat} {L : List A4} (hL : okM n L) {j i k : Nat} {C : List (List Int)} {r : List Int} (h : MdC F n L j i k C) (hs : Shp n C) (hj : j < n) (hi : i < n) (hk : k < n) (hr : C[i]? = some r) : MdC F n L j i (k + 1) (C.set i (r.set k (min (gg C i k) (gg C i j + gg C j k)))) := by
  have := Mid.step (fun i k c h => (hL.em h).2.2.1) hF hj h hi hk
  refine this.more (fun a b ha hb hd => ?_) (fun a b ha hb => gg_set hs hr hk _ ha hb)
  rcases hd with hd | ⟨rfl, hd⟩
  · exact .inl (.inl hd)
  · by_cases e : b = k
    · exact .inr ⟨rfl, e⟩
    · exact .inl (.inr ⟨rfl, by omega⟩)
theorem MdC.row {F : Int} {n : Nat} {L : List A4} {j i : Nat} {C : List (List Int)} (h : MdC F n L j i n C) : MdC F n L j (i + 1) 0 C :=
  Mid.more h (fun a b ha hb hd => by rcases hd with hd | hd <;> omega) (fun _ _ _ _ => rfl)
theorem MdC.done {F : Int} {n : Nat} {L : List A4} {j : Nat} {C : List (List Int)} (h : MdC F n L j n 0 C) : Mdn F n (Em L) (j + 1) (gg C) := Mid.done h (fun i k hi hk => .inl hi)
theorem MdC.start {F : Int} {n : Nat} {L : List A4} {j : Nat} {C : List (List Int)} (h : Mdn F n (Em L) j (gg C)) : MdC F n L j 0 0 C := (Mdn.start h).more (fun a b _ _ hd => by omega) (fun _ _ _ _ => rfl)
/-- The least costs of ways by empty arcs. -/
def ClsT (F : Int) (n : Nat) (L : List A4) (C : List (List Int)) : Prop := Shp n C ∧ BdR F C ∧ ∀ i k, i < n → k < n → Lst F (gg C i k) (Wy (Em L) i k)
end Go.Proofs.Ytedbngnkkfpbeaa
