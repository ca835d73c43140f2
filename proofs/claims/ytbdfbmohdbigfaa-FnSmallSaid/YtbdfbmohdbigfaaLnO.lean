/- LearnPlain: what it answers, plainly; words and tests in memory. -/
import Derived.Test.YtbdfbmohdbigfaaMhc
import Derived.Test.YtbdfbmohdbigfaaLnG

namespace Go.Proofs.Ytbdfbmohdbigfaa
open Go.RowKit Go.Maps
set_option linter.unusedVariables false
theorem results_cell3 {P : Program} {fn : Func} {p q r : Tmp} {ty : TypeId} (h : fn.results = #[.cell p ty, .tmp q, .tmp r]) (tmps : Array Value) (w : World) (g : Nat) (t : TypeId) (cs : Array Value) (fr : Nat × Nat) (d : TypeDesc) (u v : Value)
    (hp : tmps.getD p undef = .pointer (some ⟨g, 0, none⟩)) (hq : tmps.getD q undef = u) (hr : tmps.getD r undef = v) (hg : w.heap[g]? = some (.cells cs t fr))
    (hu : P.underlying ty = some d) (hd : (match d with | .struct _ | .array _ _ => true | _ => false) = true) (hi : (P.info? ty).map (·.size) = some cs.size) :
    (results fn tmps).run P w = .ok (.tuple #[.agg cs, u, v]) w := by
  have hp' : tmps[p]?.getD undef = .pointer (some ⟨g, 0, none⟩) := by simpa using hp
  have hq' : tmps[q]?.getD undef = u := by simpa using hq
  have hr' : tmps[r]?.getD undef = v := by simpa using hr
  simp [results, h, hp', hq', hr', asAddr, run_loadVar_row w g t ty cs fr d hg hu hd hi]
/-- What LearnPlain answers. -/
def lnO (S T : Int) (n2 n3 : Nat) (P : List Int) (E : List Bool) : Option (List Int × List Bool × Nat) := if vpB S T n2 n3 P then lnAll T.toNat P E else none
def loN (r : Option (List Int × List Bool × Nat)) : Int := match r with | none => 0 | some x => (x.2.1.length : Int)
def loT (T : Int) (r : Option (List Int × List Bool × Nat)) : Int := match r with | none => 0 | some _ => T
def loP (r : Option (List Int × List Bool × Nat)) : List Int := match r with | none => [] | some x => x.1
def loE (r : Option (List Int × List Bool × Nat)) : List Bool := match r with | none => [] | some x => x.2.1
def loC (r : Option (List Int × List Bool × Nat)) : Int := match r with | none => 0 | some x => (x.2.2 : Int)
theorem vp_teo {S T : Int} {n2 n3 : Nat} {P : List Int} {E : List Bool} (h : vpB S T n2 n3 P = true) (h2 : P.length = n2) (h3 : E.length = n3) : ∃ s t : Nat, S = (s : Int) ∧ T = (t : Int) ∧ TeO s t P E ∧ n2 = s * t ∧ n3 = s := by
  unfold vpB at h
  rw [Bool.and_eq_true, Bool.and_eq_true, Bool.and_eq_true, Bool.and_eq_true] at h
  obtain ⟨⟨⟨⟨a, b⟩, c⟩, d⟩, e⟩ := h
  have a' := inB_true a; have b' := inB_true b
  have c' := of_decide_eq_true c; have e' := of_decide_eq_true e
  obtain ⟨s, rfl⟩ : ∃ s : Nat, S = (s : Int) := ⟨S.toNat, by omega⟩
  obtain ⟨t, rfl⟩ : ∃ s : Nat, T = (s : Int) := ⟨T.toNat, by omega⟩
  have hn : n2 = s * t := by exact_mod_cast c'
  have hs : n3 = s := by omega
  exact ⟨s, t, rfl, rfl, ⟨⟨by omega, by omega⟩, ⟨by omega, by omega⟩, by rw [h2, hn], allIn_lt d, by rw [h3, hs]⟩, hn, hs⟩
theorem TeO.plok {S T : Nat} {P : List Int} {E : List Bool} (h : TeO S T P E) {w : World} {A2 A3 : Option Addr} {n2 n3 : Nat} (h2 : SlI w w.heap.size A2 n2 P) (h3 : SlB w w.heap.size A3 n3 E) : PlOk w S T A2 n2 A3 n3 P E :=
  ⟨h2, h3, h.hS, h.hT, by rw [← h2.len]; exact h.hl, h.hP, by rw [← h3.len]; exact h.hE⟩
/-- The guess in hand is a plain machine. -/
theorem PlW.plok {S T : Nat} {P : List Int} {E : List Bool} (h : TeO S T P E) {w : World} {base : Nat} {v : Value} (hv : PlW w base v (S : Int) (T : Int) P E) : ∃ A2 c2 A3 c3, v = .agg #[.int .i64 (S : Int), .int .i64 (T : Int), .slice A2 P.length c2, .slice A3 E.length c3] ∧ PlOk w S T A2 P.length A3 E.length P E := by
  obtain ⟨A2, n2, c2, A3, n3, c3, rfl, h2, h3⟩ := PlO.cg hv
  have e2 := h2.len; have e3 := h3.len
  subst e2; subst e3
  exact ⟨A2, c2, A3, c3, rfl, h.plok h2 h3⟩
/-- The tests, held: read as a list of words. -/
theorem tso_own {w x : World} {base gq cq : Nat} {Q : List (List Nat)} {qs : List Value} {bad : Nat → Prop} (ho : w.ownsRow base 26 1 (.slice (some ⟨gq, 0, none⟩) Q.length cq) Q.length qs) (he : El w Q qs bad) (hs : w.heap.size ≤ x.heap.size)
    (hk : ∀ b, b < w.heap.size → ¬ bad b → x.heap[b]? = w.heap[b]?) (hq : x.heap[gq]? = w.heap[gq]?) : TsO x (some ⟨gq, 0, none⟩) Q.length Q := by
  refine ⟨rfl, fun i q hi => ?_⟩
  have hl : qs.length = Q.length := by have := ho.1; omega
  have hil := (List.getElem?_eq_some_iff.1 hi).1
  obtain ⟨u, hu⟩ : ∃ u, qs[i]? = some u := ⟨_, List.getElem?_eq_getElem (by omega)⟩
  obtain ⟨A, c, rfl, hnA, hsl, hbd⟩ := he i q u hi hu
  have c0 := own_cellU ho hu
  have hlt := (ho.lt gq rfl).2
  refine ⟨gq, 0, A, c, rfl, ?_, slI_keep hsl hs (fun b o e h0 => hk b ?_ (hbd b o e h0)), by omega⟩
  · rw [Nat.zero_add]
    exact (World.cell?_of_block (a := ⟨gq, i, none⟩) hq).trans c0
  · obtain ⟨b', off, e', hb', -⟩ := hsl.2 h0
    rw [e] at e'
    injection e' with e'
    injection e' with e' _ _
    omega
/-- Words and tests, held. -/
structure Ln (x0 w : World) (base g1 c1 gq cq : Nat) (bx : Nat → Prop) (W : List (List Nat)) (ws : List Value) (Q : List (List Nat)) (qs : List Value) : Prop where
  bel : Below base x0 w
  hb : base ≤ x0.heap.size
  o1 : w.ownsRow base 26 1 (.slice (some ⟨g1, 0, none⟩) W.length c1) W.length ws
  oq : w.ownsRow base 26 1 (.slice (some ⟨gq, 0, none⟩) Q.length cq) Q.length qs
  ne : g1 ≠ gq
  e1 : El w W ws (fun b => b = g1 ∨ (b = gq ∨ bx b))
  eq : El w Q qs (fun b => b = gq ∨ (b = g1 ∨ bx b))
section
variable {x0 w w' : World} {base g1 c1 gq cq : Nat} {bx : Nat → Prop} {W : List (List Nat)} {ws : List Value} {Q : List (List Nat)} {qs : List Value}
theorem Ln.size (h : Ln x0 w base g1 c1 gq cq bx W ws Q qs) : base ≤ w.heap.size := Nat.le_trans h.hb h.bel.size
theorem Ln.lt1 (h : Ln x0 w base g1 c1 gq cq bx W ws Q qs) : base ≤ g1 ∧ g1 < w.heap.size := h.o1.lt g1 rfl
theorem Ln.ltq (h : Ln x0 w base g1 c1 gq cq bx W ws Q qs) : base ≤ gq ∧ gq < w.heap.size := h.oq.lt gq rfl
theorem Ln.call {B : Nat} (h : Ln x0 w base g1 c1 gq cq bx W ws Q qs) (hb : Below B w w') (hB : w.heap.size ≤ B) : Ln x0 w' base g1 c1 gq cq bx W ws Q qs :=
  ⟨h.bel.trans (hb.mono (Nat.le_trans h.size hB)), h.hb, own_move h.o1 (fun k hk => hb.block k (by have := (h.o1.lt k hk).2; omega)), own_move h.oq (fun k hk => hb.block k (by have := (h.oq.lt k hk).2; omega)), h.ne,
    h.e1.step hb.size (fun b hlt _ => hb.block b (by omega)) (fun _ _ q => q), h.eq.step hb.size (fun b hlt _ => hb.block b (by omega)) (fun _ _ q => q)⟩
theorem Ln.alloc (h : Ln x0 w base g1 c1 gq cq bx W ws Q qs) (o : Obj) : Ln x0 (w.alloc o) base g1 c1 gq cq bx W ws Q qs := h.call ((Below.refl _ _).alloc (Nat.le_refl _) o) (Nat.le_refl _)
theorem Ln.drew (h : Ln x0 w base g1 c1 gq cq bx W ws Q qs) : Ln x0 w.drew base g1 c1 gq cq bx W ws Q qs := h.call (B := w.heap.size) (Below.drew (Below.refl _ _)) (Nat.le_refl _)
theorem Ln.less {bx' : Nat → Prop} (h : Ln x0 w base g1 c1 gq cq bx W ws Q qs) (hx : ∀ b, b < w.heap.size → bx' b → bx b) : Ln x0 w base g1 c1 gq cq bx' W ws Q qs :=
  ⟨h.bel, h.hb, h.o1, h.oq, h.ne, h.e1.step (Nat.le_refl _) (fun _ _ _ => rfl) (fun b hb q => q.imp id (fun q => q.imp id (hx b hb))), h.eq.step (Nat.le_refl _) (fun _ _ _ => rfl) (fun b hb q => q.imp id (fun q => q.imp id (hx b hb)))⟩
/-- A block that is neither list nor any word is set. -/
theorem Ln.set {B : Nat} (h : Ln x0 w base g1 c1 gq cq bx W ws Q qs) (hB : base ≤ B) (hs : w'.heap.size = w.heap.size) (ht : w'.os = w.os ∧ w'.tape = w.tape ∧ w'.output = w.output) (hk : ∀ b, b ≠ B → w'.heap[b]? = w.heap[b]?) (h1 : g1 ≠ B) (hq : gq ≠ B) (hx : bx B) : Ln x0 w' base g1 c1 gq cq bx W ws Q qs := by
  refine ⟨h.bel.trans ⟨ht.1, ht.2.1, ht.2.2, by omega, fun b hb => hk b (by omega)⟩, h.hb, own_move h.o1 (fun k hk' => hk k (by simp [Value.ownBlock] at hk'; omega)), own_move h.oq (fun k hk' => hk k (by simp [Value.ownBlock] at hk'; omega)), h.ne, h.e1.step (by omega) (fun b _ hn => hk b (fun e => hn (.inr (.inr (e ▸ hx))))) (fun _ _ q => q), h.eq.step (by omega) (fun b _ hn => hk b (fun e => hn (.inr (.inr (e ▸ hx))))) (fun _ _ q => q)⟩
/-- The guess is made: other words, the same tests. -/
theorem Ln.guess {g' c' : Nat} {W' : List (List Nat)} {ws' : List Value} (h : Ln x0 w base g1 c1 gq cq bx W ws Q qs) (ho : w'.ownsRow base 26 1 (.slice (some ⟨g', 0, none⟩) W'.length c') W'.length ws') (he : El w' W' ws' (fun b => b = g' ∨ (b = gq ∨ bx b))) (hg : g' = g1 ∨ w.heap.size ≤ g') (hl : Lo w.heap.size g1 w w') : Ln x0 w' base g' c' gq cq bx W' ws' Q qs := by
  have h1 := h.lt1; have hq := h.ltq; have hne := h.ne
  exact ⟨h.bel.trans (hl.bel h.size h1.1), h.hb, ho, own_move h.oq (fun k hk => hl.2.2.2.2 k (by simp [Value.ownBlock] at hk; omega) (by simp [Value.ownBlock] at hk; omega)), by omega, he,
    h.eq.step hl.2.2.2.1 (fun b hb hn => hl.2.2.2.2 b hb (fun e => hn (.inr (.inl e)))) (fun b hb q => q.imp id (fun q => q.imp (fun e => by omega) id))⟩
/-- A test is put behind the others. -/
theorem Ln.push {gq' cq' : Nat} {wd : List Nat} {A : Option Addr} {c : Nat} (h : Ln x0 w base g1 c1 gq cq bx W ws Q qs) (ho : w'.ownsRow base 26 1 (.slice (some ⟨gq', 0, none⟩) (Q.length + 1) cq') (Q.length + 1) (qs ++ [.slice A wd.length c])) (hg : w.grownBy w' (some gq)) (hq : gq' = gq ∨ w.heap.size ≤ gq')
    (h1 : NilA A) (h2 : SlI w w.heap.size A wd.length (natW wd)) (h3 : ∀ b o, A = some ⟨b, o, none⟩ → 0 < wd.length → ¬ (b = gq ∨ (b = g1 ∨ bx b))) : Ln x0 w' base g1 c1 gq' cq' bx W ws (Q ++ [wd]) (qs ++ [.slice A wd.length c]) := by
  have l1 := h.lt1; have lq := h.ltq; have hne := h.ne
  have hbl : ∀ b, b < w.heap.size → b ≠ gq → w'.heap[b]? = w.heap[b]? := fun b hb hn => hg.block b hb (fun e => hn (Option.some.inj e))
  exact ⟨h.bel.trans ⟨hg.os, hg.tape, hg.output, hg.size, fun b hb => hbl b (by have := h.size; omega) (by omega)⟩, h.hb, own_move h.o1 (fun k hk => hbl k (by simp [Value.ownBlock] at hk; omega) (by simp [Value.ownBlock] at hk; omega)), by rw [List.length_append]; exact ho, by omega,
    h.e1.step hg.size (fun b hb hn => hbl b hb (fun e => hn (.inr (.inl e)))) (fun b hb q => q.imp id (fun q => q.imp (fun e => by omega) id)),
    (h.eq.snoc (by have := h.oq.1; omega) h1 h2 h3).step hg.size (fun b hb hn => hbl b hb (fun e => hn (.inl e))) (fun b hb q => q.imp (fun e => by omega) id)⟩
end
end Go.Proofs.Ytbdfbmohdbigfaa
