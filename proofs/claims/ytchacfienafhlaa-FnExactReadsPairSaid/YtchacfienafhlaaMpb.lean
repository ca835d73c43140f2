/- A map of places (structs of three numbers) to truth values that the call made: its places in order, all true. -/
import Derived.Test.YtchacfienafhlaaRpP
import Derived.Test.YtchacfienafhlaaMk
import Derived.Maps.OwnOps
import Derived.DeepKeys3
import Derived.MapFrom
namespace Go.Proofs.Ytchacfienafhlaa
open Go.RowKit Go.Maps
set_option linter.unusedVariables false
/-- A place as a value. -/
def pv (p : P3) : Value := .agg #[.int .i64 (p.1 : Int), .int .i64 (p.2.1 : Int), .int .i64 p.2.2]
theorem pv_inj {p q : P3} (h : pv p = pv q) : p = q := by
  obtain ⟨a, b, c⟩ := p
  obtain ⟨a', b', c'⟩ := q
  simp only [pv, Value.agg.injEq] at h
  simp at h
  obtain ⟨h1, h2, h3⟩ := h
  rw [show a = a' by omega, show b = b' by omega, h3]
def okW (p : P3) : Prop := p.1 ≤ 4294967296 ∧ p.2.1 ≤ 4294967296 ∧ 0 ≤ p.2.2 ∧ p.2.2 ≤ 4294967296
theorem placeLaw : WideMaps.KeyLaw Try.prog 119 := deep_law (m := 2) (by omega) (by kernel_rfl) (by kernel_rfl) (by kernel_rfl)
theorem placeK : Keyed Try.prog 119 := Keyed.of_law placeLaw
theorem key_of {p : P3} (h : okW p) : ∃ l, keyOf Try.prog 119 (pv p) = some l := by
  obtain ⟨a, b, c⟩ := p
  obtain ⟨h1, h2, h3, h4⟩ := h
  simp only at h1 h2 h3 h4
  have w1 : (Lit.int .i64 (a : Int)).wf = true := WalkArith.wf_i64 (by omega)
  have w2 : (Lit.int .i64 (b : Int)).wf = true := WalkArith.wf_i64 (by omega)
  have w3 : (Lit.int .i64 c).wf = true := WalkArith.wf_i64 (by omega)
  have k1 : Try.prog.keyType 119 = true := by kernel_rfl
  have k2 : (pv (a, b, c)).formed Try.prog 119 = true := by kernel_rfl
  have c1 : Try.prog.cellsOf 119 = 3 := by kernel_rfl
  have c2 : Try.prog.cellsOf 3 = 1 := by kernel_rfl
  have c3 : Try.prog.cellsOf 2 = 1 := by kernel_rfl
  have hs : 0 < Try.prog.types.size := of_decide_eq_true (by kernel_rfl)
  obtain ⟨d, hd⟩ : ∃ d, Try.prog.types.size = d + 1 := ⟨Try.prog.types.size - 1, by omega⟩
  have kl : Try.prog.keyLits (Try.prog.types.size + 1) 119 [.int .i64 (a : Int), .int .i64 (b : Int), .int .i64 c] = some [.int .i64 (a : Int), .int .i64 (b : Int), .int .i64 c] := by
    rw [hd]
    simp [Program.keyLits, Try.underlying119, Try.underlying3, Try.underlying2, c1, c2, c3, w1, w2, w3]
  refine ⟨.string (keyBytes [.int .i64 (a : Int), .int .i64 (b : Int), .int .i64 c]), ?_⟩
  unfold keyOf
  rw [Try.underlying119]
  have hc : (pv (a, b, c)).cells.toList = [.int .i64 (a : Int), .int .i64 (b : Int), .int .i64 c] := rfl
  simp only [k1, k2, Bool.and_self, if_true, hc, kl, Option.map_some]
/-- Block g is a map that holds just the places ps, in their order, each with true. -/
def SeenM (w : World) (g : Nat) (ps : List P3) : Prop := ∃ (es : Array MapEntry) (clock : Nat), w.heap[g]? = some (.map es clock) ∧ es.toList.map (fun e => (e.key, e.val)) = ps.map (fun p => (pv p, Value.bool true))
theorem SeenM.lt {w : World} {g : Nat} {ps : List P3} (h : SeenM w g ps) : g < w.heap.size := by
  obtain ⟨es, clock, hb, _⟩ := h
  rcases Nat.lt_or_ge g w.heap.size with hlt | hge
  · exact hlt
  · rw [Array.getElem?_eq_none hge] at hb; cases hb
theorem SeenM.below {w w' : World} {g B : Nat} {ps : List P3} (h : SeenM w g ps) (hb : Below B w w') (hg : g < B) : SeenM w' g ps := by
  obtain ⟨es, clock, h1, h2⟩ := h
  exact ⟨es, clock, (hb.block g hg).trans h1, h2⟩
theorem SeenM.keep {w w' : World} {g : Nat} {ps : List P3} (h : SeenM w g ps) (hb : w'.heap[g]? = w.heap[g]?) : SeenM w' g ps := by
  obtain ⟨es, clock, h1, h2⟩ := h
  exact ⟨es, clock, hb.trans h1, h2⟩
theorem SeenM.made (w : World) : SeenM (w.alloc (.map #[] 0)) w.heap.size [] := ⟨#[], 0, heap_alloc_new w _, by simp⟩
theorem seen_keys {ps : List P3} (hok : ∀ p ∈ ps, okW p) {es : Array MapEntry} (h : es.toList.map (fun e => (e.key, e.val)) = ps.map (fun p => (pv p, Value.bool true))) : ∀ e ∈ es.toList, ∃ p ∈ ps, e.key = pv p ∧ e.val = .bool true := by
  intro e he
  have : (e.key, e.val) ∈ ps.map (fun p => (pv p, Value.bool true)) := by rw [← h]; exact List.mem_map.2 ⟨e, he, rfl⟩
  obtain ⟨p, hp, e2⟩ := List.mem_map.1 this
  simp only [Prod.mk.injEq] at e2
  exact ⟨p, hp, e2.1.symm, e2.2.symm⟩
theorem SeenM.find {w : World} {g : Nat} {ps : List P3} {p : P3} (hok : ∀ q ∈ ps, okW q) (hp : okW p) {es : Array MapEntry} (h : es.toList.map (fun e => (e.key, e.val)) = ps.map (fun p => (pv p, Value.bool true))) :
    (p ∉ ps ∧ (Instr.findKey 119 (pv p) es.toList).run Try.prog w = .ok none w) ∨ (p ∈ ps ∧ ∃ j, (Instr.findKey 119 (pv p) es.toList).run Try.prog w = .ok (some (j, .bool true)) w) := by
  obtain ⟨l, hl⟩ := key_of hp
  have hk := seen_keys hok h
  rcases placeK.find w hl es.toList (fun e he => by
    obtain ⟨q, hq, e1, _⟩ := hk e he
    rw [e1]; exact key_of (hok q hq)) with ⟨h1, h2⟩ | ⟨j, e, h1, h2, h3⟩
  · refine .inl ⟨fun hm => ?_, h1⟩
    have : (pv p, Value.bool true) ∈ es.toList.map (fun e => (e.key, e.val)) := by rw [h]; exact List.mem_map.2 ⟨p, hm, rfl⟩
    obtain ⟨e, he, e2⟩ := List.mem_map.1 this
    simp only [Prod.mk.injEq] at e2
    exact h2 e he e2.1
  · obtain ⟨q, hq, e1, e2⟩ := hk e (List.mem_of_getElem? h2)
    have : q = p := pv_inj (by rw [← e1, h3])
    subst this
    exact .inr ⟨hq, j, by rw [h1, e2]⟩
/-- The look-up. -/
theorem SeenM.look {w : World} {g : Nat} {ps : List P3} {p : P3} (h : SeenM w g ps) (hok : ∀ q ∈ ps, okW q) (hp : okW p) :
    (Instr.lookup 121 (.map (some g)) (pv p) false).run Try.prog w = .ok (.bool (decide (p ∈ ps))) w := by
  obtain ⟨es, clock, hb, he⟩ := h
  obtain ⟨l, hl⟩ := key_of hp
  have hz : (zeroValue 4).run Try.prog w = .ok (.bool false) w := by kernel_rfl
  rcases SeenM.find (w := w) (g := g) hok hp he with ⟨h1, h2⟩ | ⟨h1, j, h2⟩
  · simp [Instr.lookup, run_underlying Try.underlying121, run_getObj_map _ _ _ _ hb, placeK.check w _ hl, h2, hz, Result.andThen, h1]
  · simp [Instr.lookup, run_underlying Try.underlying121, run_getObj_map _ _ _ _ hb, placeK.check w _ hl, h2, Result.andThen, h1]
/-- A store of a new place. -/
theorem SeenM.put {w : World} {g : Nat} {ps : List P3} {p : P3} (h : SeenM w g ps) (hok : ∀ q ∈ ps, okW q) (hp : okW p) (hn : p ∉ ps) :
    ∃ w', (Instr.mapUpdate 121 (.map (some g)) (pv p) (.bool true)).run Try.prog w = .ok () w' ∧ SeenM w' g (ps ++ [p]) ∧ But g w w' ∧ w'.heap.size = w.heap.size := by
  obtain ⟨es, clock, hb, he⟩ := h
  obtain ⟨l, hl⟩ := key_of hp
  have hlt : g < w.heap.size := SeenM.lt ⟨es, clock, hb, he⟩
  rcases SeenM.find (w := w) (g := g) hok hp he with ⟨h1, h2⟩ | ⟨h1, j, h2⟩
  · refine ⟨{ w with heap := w.heap.setIfInBounds g (.map (es.push ⟨pv p, .bool true, clock⟩) (clock + 1)) }, ?_, ⟨es.push ⟨pv p, .bool true, clock⟩, clock + 1, ?_, ?_⟩, ⟨rfl, rfl, rfl, by simp, fun k hk hne => ?_⟩, by simp⟩
    · simp [Instr.mapUpdate, run_underlying Try.underlying121, run_getObj_map _ _ _ _ hb, placeK.check w _ hl, h2, MapKept.run_setObj_map _ hb, Result.andThen]
    · show (w.heap.setIfInBounds g _)[g]? = _
      rw [Array.getElem?_setIfInBounds_self_of_lt hlt]
    · simp [he]
    · show (w.heap.setIfInBounds g _)[k]? = _
      rw [Array.getElem?_setIfInBounds_ne (by omega)]
  · exact absurd h1 hn
theorem wpList_seen_put {ops : Array Oper} {rest : List Oper} {o : Oper} {a : Act} {Q : Exit → Act → World → Prop} (w : World) (hg : o.guard = none) (m x v : Operand) (hop : o.op = Op.mapUpdate 121 m x v ∨ o.op = Op.insert 121 m x v)
    (g : Nat) (ps : List P3) (p : P3) (hm : a.eval m = .map (some g)) (hx : a.eval x = pv p) (hv : a.eval v = .bool true) (h : SeenM w g ps) (hok : ∀ q ∈ ps, okW q) (hp : okW p) (hn : p ∉ ps)
    (hK : ∀ w', SeenM w' g (ps ++ [p]) → But g w w' → wpList Try.prog ops Q rest (a.put o.dst undef) w') :
    wpList Try.prog ops Q (o :: rest) a w := by
  refine wpList_plain hg fun K' hK' => ?_
  obtain ⟨w', hrun, r1, r2, _⟩ := h.put hok hp hn
  unfold Oper.wp
  rcases hop with hop | hop
  · simp [execOp, hop, hm, hx, hv, hrun, Result.andThen]
    exact hK' _ _ (hK w' r1 r2)
  · simp [execOp, hop, hm, hx, hv, hrun, Result.andThen]
    exact hK' _ _ (hK w' r1 r2)
theorem wpList_seen_look {ops : Array Oper} {rest : List Oper} {o : Oper} {a : Act} {Q : Exit → Act → World → Prop} (w : World) (hg : o.guard = none) (m x : Operand) (hop : o.op = Op.lookup 121 m x false)
    (g : Nat) (ps : List P3) (p : P3) (hm : a.eval m = .map (some g)) (hx : a.eval x = pv p) (h : SeenM w g ps) (hok : ∀ q ∈ ps, okW q) (hp : okW p)
    (hK : wpList Try.prog ops Q rest (a.put o.dst (.bool (decide (p ∈ ps)))) w) :
    wpList Try.prog ops Q (o :: rest) a w := by
  refine wpList_plain hg fun K' hK' => ?_
  have hrun := h.look hok hp
  unfold Oper.wp
  simp [execOp, hop, hm, hx, hrun, Result.andThen]
  exact hK' _ _ hK
end Go.Proofs.Ytchacfienafhlaa
