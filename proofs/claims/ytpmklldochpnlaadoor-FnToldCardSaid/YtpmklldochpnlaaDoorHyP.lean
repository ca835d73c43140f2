/- Patterns of hyphens, plainly; and a struct of a text and a list while it is being built. -/
import Derived.Test.YtpmklldochpnlaaDoorSkP
import Derived.Test.YtpmklldochpnlaaDoorTab
import Derived.Test.YtpmklldochpnlaaDoorRev
import Derived.Test.YtpmklldochpnlaaDoorMgc
import Derived.Test.YtpmklldochpnlaaDoorCsP

namespace Go.Proofs.YtpmklldochpnlaaDoor
open Go.RowKit
set_option linter.unusedVariables false
theorem own_moveH {w w' : World} {lo sz n : Nat} {t : TypeId} {v : Value} {xs : List Value} (h : w.ownsRow lo t sz v n xs) (hb : ∀ g, v.ownBlock = some g → w'.heap[g]? = w.heap[g]?) : w'.ownsRow lo t sz v n xs := by
  obtain ⟨h1, h2⟩ := h
  refine ⟨h1, ?_⟩
  rcases h2 with h2 | ⟨g, cap, cur, e, hb', hg, rest⟩
  · exact .inl h2
  · exact .inr ⟨g, cap, cur, e, hb', by rw [hb g (by rw [e]; rfl)]; exact hg, rest⟩
theorem results_cellH {P : Program} {fn : Func} {p q : Tmp} {ty : TypeId} (h : fn.results = #[.cell p ty, .tmp q]) (tmps : Array Value) (w : World) (g : Nat) (t : TypeId) (cs : Array Value) (fr : Nat × Nat) (d : TypeDesc) (u : Value)
    (hp : tmps.getD p undef = .pointer (some ⟨g, 0, none⟩)) (hq : tmps.getD q undef = u) (hg : w.heap[g]? = some (.cells cs t fr))
    (hu : P.underlying ty = some d) (hd : (match d with | .struct _ | .array _ _ => true | _ => false) = true) (hi : (P.info? ty).map (·.size) = some cs.size) :
    (results fn tmps).run P w = .ok (.tuple #[.agg cs, u]) w := by
  have hp' : tmps[p]?.getD undef = .pointer (some ⟨g, 0, none⟩) := by simpa using hp
  have hq' : tmps[q]?.getD undef = u := by simpa using hq
  simp [results, h, hp', hq', asAddr, run_loadVar_row w g t ty cs fr d hg hu hd hi]
theorem own_setH {w : World} {base g n c i : Nat} {t : TypeId} {X : List Value} {u : Value} (h : w.ownsRow base t 1 (.slice (some ⟨g, 0, none⟩) n c) n X) (hi : i < n) : (w.setCell ⟨g, i, none⟩ u).ownsRow base t 1 (.slice (some ⟨g, 0, none⟩) n c) n (X.set i u) := by
  obtain ⟨h1, h2⟩ := h
  refine ⟨by simpa using h1, ?_⟩
  rcases h2 with ⟨e, -⟩ | ⟨g', cap, cur, e, hb, hg, hnc, hm, hs, ht⟩
  · simp at e
  · simp only [Value.slice.injEq, Option.some.injEq, Addr.mk.injEq, and_true, true_and] at e
    obtain ⟨rfl, rfl⟩ := e
    have hr : Row w g t cur.toList := by unfold Row; rw [Array.toArray_toList]; exact hg
    refine .inr ⟨g, c, (cur.toList.set i u).toArray, rfl, hb, hr.set_ i u, hnc, hm, by simp [hs], ?_⟩
    rw [List.toList_toArray, List.take_set]
    rw [Nat.mul_one] at *
    rw [ht]
theorem own_frozenH {w : World} {base g n c i : Nat} {t : TypeId} {X : List Value} (h : w.ownsRow base t 1 (.slice (some ⟨g, 0, none⟩) n c) n X) : w.frozen? ⟨g, i, none⟩ = false := by
  obtain ⟨h1, h2⟩ := h
  rcases h2 with ⟨e, -⟩ | ⟨g', cap, cur, e, hb, hg, hnc, hm, hs, ht⟩
  · simp at e
  · simp only [Value.slice.injEq, Option.some.injEq, Addr.mk.injEq, and_true, true_and] at e
    obtain ⟨rfl, rfl⟩ := e
    have hr : Row w g t cur.toList := by unfold Row; rw [Array.toArray_toList]; exact hg
    exact hr.frozen i
theorem u8neH {c : UInt8} {n : Nat} (hn : n < 256) (h : c ≠ UInt8.ofNat n) : ((c.toNat : Int) == (n : Int)) = false := by
  rw [beq_eq_false_iff_ne]
  intro e
  apply h
  apply UInt8.toNat_inj.1
  rw [UInt8.toNat_ofNat_of_lt' (by simpa using hn)]
  omega
def isDig (c : UInt8) : Bool := decide (48 ≤ (c.toNat : Int) ∧ (c.toNat : Int) ≤ 57)
def hyLet (c : UInt8) : Bool := isLet c || decide (c = 46)
def dg (c : UInt8) : Int := (c.toNat : Int) - 48
def hyF (p : ByteArray) : Nat → Nat → List UInt8 → List Int → Int → Bool → Option (List UInt8 × List Int)
  | 0, i, L, D, d, fr => some (L, D ++ [d])
  | f + 1, i, L, D, d, fr => if isDig (b8 p i) then (if fr then hyF p f (i + 1) L D (dg (b8 p i)) false else none) else if hyLet (b8 p i) then hyF p f (i + 1) (L ++ [b8 p i]) (D ++ [d]) 0 true else none
def hyP (p : ByteArray) : Option (List UInt8 × List Int) := hyF p p.size 0 [] [] 0 true
def hyK (p : ByteArray) : Bool := match hyP p with | some (L, _) => decide (1 ≤ L.length ∧ L.length ≤ 8) | none => false
def hyLs (p : ByteArray) : List UInt8 := match hyP p with | some (L, _) => L | none => []
def hyDs (p : ByteArray) : List Int := match hyP p with | some (_, D) => D | none => []
def HyAt (p : ByteArray) (i : Nat) (L : List UInt8) (D : List Int) (d : Int) (fr : Bool) : Prop := i ≤ p.size ∧ hyF p (p.size - i) i L D d fr = hyP p
theorem HyAt.first (p : ByteArray) : HyAt p 0 [] [] 0 true := ⟨by omega, rfl⟩
section
variable {p : ByteArray} {i : Nat} {L : List UInt8} {D : List Int} {d : Int} {fr : Bool}
theorem HyAt.unf (h : HyAt p i L D d fr) (hi : i < p.size) : hyP p = if isDig (b8 p i) then (if fr then hyF p (p.size - (i + 1)) (i + 1) L D (dg (b8 p i)) false else none) else if hyLet (b8 p i) then hyF p (p.size - (i + 1)) (i + 1) (L ++ [b8 p i]) (D ++ [d]) 0 true else none := by
  rw [← h.2, show p.size - i = (p.size - (i + 1)) + 1 by omega, hyF]
theorem HyAt.dig (h : HyAt p i L D d true) (hi : i < p.size) (hd : isDig (b8 p i) = true) : HyAt p (i + 1) L D (dg (b8 p i)) false := ⟨hi, by rw [h.unf hi, if_pos hd, if_pos rfl]⟩
theorem HyAt.dup (h : HyAt p i L D d false) (hi : i < p.size) (hd : isDig (b8 p i) = true) : hyP p = none := by rw [h.unf hi, if_pos hd]; rfl
theorem HyAt.letr (h : HyAt p i L D d fr) (hi : i < p.size) (hd : isDig (b8 p i) = false) (hl : hyLet (b8 p i) = true) : HyAt p (i + 1) (L ++ [b8 p i]) (D ++ [d]) 0 true := ⟨hi, by rw [h.unf hi, hd, hl]; rfl⟩
theorem HyAt.bad (h : HyAt p i L D d fr) (hi : i < p.size) (hd : isDig (b8 p i) = false) (hl : hyLet (b8 p i) = false) : hyP p = none := by rw [h.unf hi, hd, hl]; rfl
theorem HyAt.fin (h : HyAt p i L D d fr) (hi : i = p.size) : hyP p = some (L, D ++ [d]) := by rw [← h.2, hi, Nat.sub_self]; rfl
end
theorem isDig_bd {c : UInt8} (h : isDig c = true) : 48 ≤ (c.toNat : Int) ∧ (c.toNat : Int) ≤ 57 := of_decide_eq_true h
theorem isDig_no {c : UInt8} (h : hyLet c = true) : isDig c = false := by
  unfold hyLet at h
  rw [Bool.or_eq_true] at h
  unfold isDig
  rcases h with h | h
  · have := isLet_bd h; exact decide_eq_false (by omega)
  · have h := of_decide_eq_true h; subst h; rfl
theorem hyK_some {p : ByteArray} {L : List UInt8} {D : List Int} (h : hyP p = some (L, D)) : hyK p = decide (1 ≤ L.length ∧ L.length ≤ 8) ∧ hyLs p = L ∧ hyDs p = D := by
  unfold hyK hyLs hyDs; rw [h]; exact ⟨rfl, rfl, rfl⟩
theorem hyK_none {p : ByteArray} (h : hyP p = none) : hyK p = false := by unfold hyK; rw [h]
theorem hyF_len (p : ByteArray) : ∀ (f i : Nat) (L : List UInt8) (D : List Int) (d : Int) (fr : Bool) (L' : List UInt8) (D' : List Int), hyF p f i L D d fr = some (L', D') → D.length = L.length → (∀ x ∈ D, 0 ≤ x ∧ x ≤ 9) → (0 ≤ d ∧ d ≤ 9) → D'.length = L'.length + 1 ∧ ∀ x ∈ D', 0 ≤ x ∧ x ≤ 9
  | 0, i, L, D, d, fr, L', D', h, hl, hD, hd => by
    simp only [hyF, Option.some.injEq, Prod.mk.injEq] at h
    obtain ⟨rfl, rfl⟩ := h
    refine ⟨by simp [hl], fun x hx => ?_⟩
    simp only [List.mem_append, List.mem_singleton] at hx
    rcases hx with hx | rfl
    · exact hD x hx
    · exact hd
  | f + 1, i, L, D, d, fr, L', D', h, hl, hD, hd => by
    rw [hyF] at h
    split at h
    · rename_i hdg
      split at h
      · refine hyF_len p f _ _ _ _ _ _ _ h hl hD ?_
        have := isDig_bd hdg; unfold dg; omega
      · cases h
    · split at h
      · refine hyF_len p f _ _ _ _ _ _ _ h (by simp [hl]) (fun x hx => ?_) (by omega)
        simp only [List.mem_append, List.mem_singleton] at hx
        rcases hx with hx | rfl
        · exact hD x hx
        · exact hd
      · cases h
theorem hyDs_len {p : ByteArray} (h : hyK p = true) : (hyDs p).length = (hyLs p).length + 1 ∧ (∀ x ∈ hyDs p, 0 ≤ x ∧ x ≤ 9) ∧ 1 ≤ (hyLs p).length ∧ (hyLs p).length ≤ 8 := by
  cases hp : hyP p with
  | none => rw [hyK_none hp] at h; cases h
  | some a =>
    obtain ⟨L, D⟩ := a
    obtain ⟨h1, h2, h3⟩ := hyK_some hp
    rw [h1] at h
    have h := of_decide_eq_true h
    rw [h2, h3]
    have := hyF_len p _ _ _ _ _ _ _ _ hp rfl (fun x hx => by cases hx) (by omega)
    exact ⟨this.1, this.2, h⟩
theorem ext_one {t : ByteArray} {i : Nat} (h : i < t.size) : t.extract i (i + 1) = ⟨#[b8 t i]⟩ := by
  have hs : (t.extract i (i + 1)).size = 1 := by rw [ByteArray.size_extract]; omega
  refine ext_b8 (by rw [hs]; rfl) fun j hj => ?_
  rw [hs] at hj
  obtain rfl : j = 0 := by omega
  have h1 : 0 < (t.extract i (i + 1)).size := by omega
  unfold b8
  rw [dif_pos h1, dif_pos h]
  simp [ByteArray.getElem_extract]
  rfl
/-- Digits as the program has them. -/
def uv (D : List Int) : List Value := D.map (.int .u8)
theorem uv_snoc (D : List Int) (d : Int) : uv (D ++ [d]) = uv D ++ [.int .u8 d] := by simp [uv]
theorem uv_len (D : List Int) : (uv D).length = D.length := by simp [uv]
theorem uv_get {D : List Int} {k : Nat} {u : Value} (h : (uv D)[k]? = some u) : ∃ x, D[k]? = some x ∧ u = .int .u8 x := by
  simp only [uv, List.getElem?_map, Option.map_eq_some_iff] at h
  obtain ⟨x, hx, rfl⟩ := h
  exact ⟨x, hx, rfl⟩
/-- What the reading of a pattern hands out. -/
def HyS (w : World) (base : Nat) (p : ByteArray) (s : ByteArray) (v : Value) : Prop := hyK p = true → s = ⟨(hyLs p).toArray⟩ ∧ RowI w base 2 v (hyDs p)
def HyI (w : World) (base : Nat) (p : ByteArray) (s : ByteArray) (v : Value) : Prop := hyK p = true → s = ⟨(hyLs p).toArray⟩ ∧ w.ownsRow base 5 1 v (hyDs p).length (uv (hyDs p))
theorem HyS.no {w : World} {base : Nat} {p s : ByteArray} {v : Value} (h : hyK p = false) : HyS w base p s v := fun e => by rw [h] at e; cases e
theorem HyI.no {w : World} {base : Nat} {p s : ByteArray} {v : Value} (h : hyK p = false) : HyI w base p s v := fun e => by rw [h] at e; cases e
/-- A struct of a text and a list in block g, and a row apart: all the call's own. -/
structure H2 (x0 w : World) (lo g : Nat) (T t : TypeId) (a v1 v2 : Value) (n1 n2 : Nat) (X1 X2 : List Value) : Prop where
  row : Row w g T [a, v2]
  bel : Below lo x0 w
  gb : lo ≤ g
  hl : lo ≤ x0.heap.size
  o1 : w.ownsRow lo t 1 v1 n1 X1
  o2 : w.ownsRow lo t 1 v2 n2 X2
  d1 : ∀ k, v1.ownBlock = some k → k ≠ g ∧ v2.ownBlock ≠ some k
  d2 : ∀ k, v2.ownBlock = some k → k ≠ g
section
variable {x0 w w' : World} {lo g : Nat} {T t : TypeId} {a v1 v2 : Value} {n1 n2 : Nat} {X1 X2 : List Value}
theorem H2.size (h : H2 x0 w lo g T t a v1 v2 n1 n2 X1 X2) : lo ≤ w.heap.size := Nat.le_trans h.hl h.bel.size
theorem H2.call {B : Nat} (h : H2 x0 w lo g T t a v1 v2 n1 n2 X1 X2) (hb : Below B w w') (hB : w.heap.size ≤ B) : H2 x0 w' lo g T t a v1 v2 n1 n2 X1 X2 :=
  ⟨h.row.below hb (Nat.lt_of_lt_of_le h.row.lt hB), h.bel.trans (hb.mono (Nat.le_trans h.size hB)), h.gb, h.hl,
    own_moveH h.o1 (fun k hk => hb.block k (Nat.lt_of_lt_of_le (h.o1.lt k hk).2 hB)), own_moveH h.o2 (fun k hk => hb.block k (Nat.lt_of_lt_of_le (h.o2.lt k hk).2 hB)), h.d1, h.d2⟩
theorem H2.drew (h : H2 x0 w lo g T t a v1 v2 n1 n2 X1 X2) : H2 x0 w.drew lo g T t a v1 v2 n1 n2 X1 X2 := h.call (B := w.heap.size) (Below.drew (Below.refl _ _)) (Nat.le_refl _)
theorem H2.drewN (h : H2 x0 w lo g T t a v1 v2 n1 n2 X1 X2) (q : Nat) : H2 x0 (w.drewN q) lo g T t a v1 v2 n1 n2 X1 X2 := h.call (B := w.heap.size) (below_draws (Below.refl _ _) q) (Nat.le_refl _)
theorem H2.push1 (h : H2 x0 w lo g T t a v1 v2 n1 n2 X1 X2) {q m c : Nat} {Y : List Value} (ho : w'.ownsRow lo t 1 (.slice (some ⟨q, 0, none⟩) m c) m Y) (hg : w.grownBy w' v1.ownBlock) (hat : v1.ownBlock = some q ∨ w.heap.size ≤ q) : H2 x0 w' lo g T t a (.slice (some ⟨q, 0, none⟩) m c) v2 m n2 Y X2 := by
  refine ⟨h.row.grown hg (fun e => (h.d1 g e.symm).1 rfl), h.bel.grown hg h.size (fun k hk => (h.o1.lt k hk).1), h.gb, h.hl, ho, own_moveH h.o2 (fun k hk => hg.block k (h.o2.lt k hk).2 (fun e => (h.d1 k e.symm).2 hk)), fun k hk => ?_, h.d2⟩
  simp [Value.ownBlock] at hk
  subst hk
  rcases hat with e | e
  · exact h.d1 _ e
  · have := h.row.lt
    exact ⟨by omega, fun hk2 => by have := (h.o2.lt _ hk2).2; omega⟩
theorem H2.push2 (h : H2 x0 w lo g T t a v1 v2 n1 n2 X1 X2) {q m c : Nat} {Y : List Value} (ho : w'.ownsRow lo t 1 (.slice (some ⟨q, 0, none⟩) m c) m Y) (hg : w.grownBy w' v2.ownBlock) (hat : v2.ownBlock = some q ∨ w.heap.size ≤ q) : H2 x0 (w'.setCell ⟨g, 1, none⟩ (.slice (some ⟨q, 0, none⟩) m c)) lo g T t a v1 (.slice (some ⟨q, 0, none⟩) m c) n1 m X1 Y := by
  have hgl := h.row.lt
  have hqg : q ≠ g := by
    rcases hat with e | e
    · exact h.d2 q e
    · omega
  have hrow : Row w' g T [a, v2] := h.row.grown hg (fun e => h.d2 g e.symm rfl)
  have hbel : Below lo x0 w' := h.bel.grown hg h.size (fun k hk => (h.o2.lt k hk).1)
  refine ⟨hrow.set_ 1 _, hbel.setCell (p := ⟨g, 1, none⟩) h.gb _, h.gb, h.hl, own_moveH h.o1 (fun k hk => (Below.heap_setCell _ _ _ _ (show k ≠ g from (h.d1 k hk).1)).trans (hg.block k (h.o1.lt k hk).2 (fun e => (h.d1 k hk).2 e.symm))), own_moveH ho (fun k hk => Below.heap_setCell _ _ _ _ (by simp [Value.ownBlock] at hk; subst hk; exact hqg)), fun k hk => ⟨(h.d1 k hk).1, fun e => ?_⟩, fun k hk => by simp [Value.ownBlock] at hk; subst hk; exact hqg⟩
  simp [Value.ownBlock] at e
  subst e
  rcases hat with e | e
  · exact (h.d1 _ hk).2 e
  · have := (h.o1.lt _ hk).2; omega
end
end Go.Proofs.YtpmklldochpnlaaDoor
