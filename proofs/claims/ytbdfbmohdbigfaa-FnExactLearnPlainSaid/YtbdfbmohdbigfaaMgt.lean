/- Several texts in one: A map from keys of any kind to places: its keys in the order in which they were put, each with its place. A map from keys of any kind to truth values, all true: a set of keys in the order in which they were put. Pairs of numbers as keys of maps. Clones of lists of numbers that may be nil. The queue of pairs and words in memory (firstApart): a list of places, each with a word of its own, a map beside it, and a block of the round's own. -/
import Derived.Test.YtbdfbmohdbigfaaMga
import Derived.Test.YtbdfbmohdbigfaaMgc
import Derived.Test.YtbdfbmohdbigfaaMgr
import Derived.Maps.OwnOps
import Derived.DeepKeys3
import Derived.MapFrom
import Derived.Test.YtbdfbmohdbigfaaMgi
import Derived.Test.YtbdfbmohdbigfaaMgb
import Derived.Test.YtbdfbmohdbigfaaFaP
import Derived.Test.YtbdfbmohdbigfaaMge
import Derived.Test.YtbdfbmohdbigfaaLfI

namespace Go.Proofs.Ytbdfbmohdbigfaa
open Go.RowKit Go.Maps
set_option linter.unusedVariables false
/-- What the laws ask of a map's type: P's type mt is a map from kt to int64 (vt); kv tells a key's value. -/
structure KeyOk {α : Type} (P : Program) (mt kt vt : TypeId) (kv : α → Value) (ok : α → Prop) : Prop where
  K : Keyed P kt
  und : P.underlying mt = some (.map kt vt)
  zero : ∀ w : World, (zeroValue vt).run P w = .ok (.int .i64 0) w
  key : ∀ x, ok x → ∃ l, keyOf P kt (kv x) = some l
  inj : ∀ x y, kv x = kv y → x = y
section
variable {α : Type} {kv : α → Value}
def mpE (kv : α → Value) (L : List α) : List (Value × Value) := L.zipIdx.map fun p => (kv p.1, Value.int .i64 (p.2 : Int))
theorem mpE_snoc (L : List α) (x : α) : mpE kv (L ++ [x]) = mpE kv L ++ [(kv x, Value.int .i64 (L.length : Int))] := by
  unfold mpE
  rw [List.zipIdx_append, List.map_append]
  simp
theorem mpE_get (L : List α) (j : Nat) : (mpE kv L)[j]? = (L[j]?).map fun x => (kv x, Value.int .i64 (j : Int)) := by
  unfold mpE
  rw [List.getElem?_map, List.getElem?_zipIdx]
  cases L[j]? <;> simp
/-- Block g is a map that tells the places of the keys L. -/
def NamesO (kv : α → Value) (o : Obj) (L : List α) : Prop := ∃ (es : Array MapEntry) (clock : Nat), o = .map es clock ∧ es.toList.map (fun e => (e.key, e.val)) = mpE kv L
theorem NamesO.nil (kv : α → Value) : NamesO kv (.map #[] 0) [] := ⟨#[], 0, rfl, rfl⟩
end
section
variable {α : Type} [DecidableEq α] {P : Program} {mt kt vt : TypeId} {kv : α → Value} {ok : α → Prop}
theorem names_find (H : KeyOk P mt kt vt kv ok) {L : List α} (hL : ∀ y ∈ L, ok y) (hn : L.Nodup) {es : Array MapEntry} (he : es.toList.map (fun e => (e.key, e.val)) = mpE kv L) {x : α} (hx : ok x) (w : World) :
    (x ∉ L ∧ (Instr.findKey kt (kv x) es.toList).run P w = .ok none w) ∨ (x ∈ L ∧ ∃ j, (Instr.findKey kt (kv x) es.toList).run P w = .ok (some (j, .int .i64 (L.idxOf x : Int))) w) := by
  obtain ⟨l, hl⟩ := H.key x hx
  have hk : ∀ (j : Nat) (e : MapEntry), es.toList[j]? = some e → ∃ y, L[j]? = some y ∧ e.key = kv y ∧ e.val = .int .i64 (j : Int) := by
    intro j e hj
    have h1 : (es.toList.map (fun e => (e.key, e.val)))[j]? = some (e.key, e.val) := by rw [List.getElem?_map, hj]; rfl
    rw [he, mpE_get] at h1
    cases hy : L[j]? with
    | none => rw [hy] at h1; cases h1
    | some y =>
      rw [hy] at h1
      simp only [Option.map_some, Option.some.injEq, Prod.mk.injEq] at h1
      exact ⟨y, rfl, h1.1.symm, h1.2.symm⟩
  rcases H.K.find w hl es.toList (fun e hm => by
    obtain ⟨j, hj, e2⟩ := List.getElem_of_mem hm
    obtain ⟨y, hy, e1, _⟩ := hk j e (by rw [← e2]; exact List.getElem?_eq_getElem hj)
    rw [e1]; exact H.key y (hL y (List.mem_of_getElem? hy))) with ⟨h1, h2⟩ | ⟨j, e, h1, h2, h3⟩
  · refine .inl ⟨fun hm => ?_, h1⟩
    obtain ⟨j, hj, e2⟩ := List.getElem_of_mem hm
    have hge : (es.toList.map (fun e => (e.key, e.val)))[j]? = some (kv x, .int .i64 (j : Int)) := by rw [he, mpE_get, List.getElem?_eq_getElem hj, e2]; rfl
    rw [List.getElem?_map] at hge
    cases hes : es.toList[j]? with
    | none => rw [hes] at hge; cases hge
    | some e =>
      rw [hes] at hge
      simp only [Option.map_some, Option.some.injEq, Prod.mk.injEq] at hge
      exact h2 e (List.mem_of_getElem? hes) hge.1
  · obtain ⟨y, hy, e1, e2⟩ := hk j e h2
    obtain rfl : y = x := H.inj _ _ (by rw [← e1, h3])
    refine .inr ⟨List.mem_of_getElem? hy, j, ?_⟩
    rw [h1, e2, idx_of hn hy]
theorem names_look (H : KeyOk P mt kt vt kv ok) {L : List α} (hL : ∀ y ∈ L, ok y) (hn : L.Nodup) {w : World} {g : Nat} {o : Obj} (hb : w.heap[g]? = some o) (ho : NamesO kv o L) {x : α} (hx : ok x) :
    (Instr.lookup mt (.map (some g)) (kv x) true).run P w = .ok (.tuple #[.int .i64 (if x ∈ L then (L.idxOf x : Int) else 0), .bool (decide (x ∈ L))]) w := by
  obtain ⟨es, clock, rfl, he⟩ := ho
  obtain ⟨l, hl⟩ := H.key x hx
  rcases names_find H hL hn he hx w with ⟨h1, h2⟩ | ⟨h1, j, h2⟩
  · simp [Instr.lookup, run_underlying H.und, run_getObj_map _ _ _ _ hb, H.K.check w _ hl, h2, H.zero, Result.andThen, h1]
  · simp [Instr.lookup, run_underlying H.und, run_getObj_map _ _ _ _ hb, H.K.check w _ hl, h2, Result.andThen, h1]
theorem names_put (H : KeyOk P mt kt vt kv ok) {L : List α} (hL : ∀ y ∈ L, ok y) (hn : L.Nodup) {w : World} {g : Nat} {o : Obj} (hb : w.heap[g]? = some o) (ho : NamesO kv o L) {x : α} (hx : ok x) (hnew : x ∉ L) :
    ∃ w' o', (Instr.mapUpdate mt (.map (some g)) (kv x) (.int .i64 (L.length : Int))).run P w = .ok () w' ∧ w'.heap[g]? = some o' ∧ NamesO kv o' (L ++ [x]) ∧ But g w w' := by
  obtain ⟨es, clock, rfl, he⟩ := ho
  obtain ⟨l, hl⟩ := H.key x hx
  have hlt : g < w.heap.size := by
    rcases Nat.lt_or_ge g w.heap.size with hlt | hge
    · exact hlt
    · rw [Array.getElem?_eq_none hge] at hb; cases hb
  rcases names_find H hL hn he hx w with ⟨h1, h2⟩ | ⟨h1, j, h2⟩
  · refine ⟨{ w with heap := w.heap.setIfInBounds g (.map (es.push ⟨kv x, .int .i64 (L.length : Int), clock⟩) (clock + 1)) }, .map (es.push ⟨kv x, .int .i64 (L.length : Int), clock⟩) (clock + 1), ?_, ?_, ⟨_, _, rfl, ?_⟩, ⟨rfl, rfl, rfl, by simp, fun k hk hne => ?_⟩⟩
    · simp [Instr.mapUpdate, run_underlying H.und, run_getObj_map _ _ _ _ hb, H.K.check w _ hl, h2, MapKept.run_setObj_map _ hb, Result.andThen]
    · show (w.heap.setIfInBounds g _)[g]? = _
      rw [Array.getElem?_setIfInBounds_self_of_lt hlt]
    · rw [mpE_snoc]; simp [he]
    · show (w.heap.setIfInBounds g _)[k]? = _
      rw [Array.getElem?_setIfInBounds_ne (by omega)]
  · exact absurd h1 hnew
theorem wpList_names_put (H : KeyOk P mt kt vt kv ok) {ops : Array Oper} {rest : List Oper} {op : Oper} {a : Act} {Q : Exit → Act → World → Prop} (w : World) (hg : op.guard = none) (m x v : Operand) (hop : op.op = Op.mapUpdate mt m x v ∨ op.op = Op.insert mt m x v)
    (g : Nat) {L : List α} (hL : ∀ y ∈ L, ok y) (hn : L.Nodup) {o : Obj} (hb : w.heap[g]? = some o) (ho : NamesO kv o L) {y : α} (hy : ok y) (hnew : y ∉ L)
    (hm : a.eval m = .map (some g)) (hx : a.eval x = kv y) (hv : a.eval v = .int .i64 (L.length : Int))
    (hK : ∀ w' o', w'.heap[g]? = some o' → NamesO kv o' (L ++ [y]) → But g w w' → wpList P ops Q rest (a.put op.dst undef) w') :
    wpList P ops Q (op :: rest) a w := by
  refine wpList_plain hg fun K' hK' => ?_
  obtain ⟨w', o', hrun, r1, r2, r3⟩ := names_put H hL hn hb ho hy hnew
  unfold Oper.wp
  rcases hop with hop | hop
  · simp [execOp, hop, hm, hx, hv, hrun, Result.andThen]
    exact hK' _ _ (hK w' o' r1 r2 r3)
  · simp [execOp, hop, hm, hx, hv, hrun, Result.andThen]
    exact hK' _ _ (hK w' o' r1 r2 r3)
theorem wpList_names_look (H : KeyOk P mt kt vt kv ok) {ops : Array Oper} {rest : List Oper} {op : Oper} {a : Act} {Q : Exit → Act → World → Prop} (w : World) (hg : op.guard = none) (m x : Operand) (hop : op.op = Op.lookup mt m x true)
    (g : Nat) {L : List α} (hL : ∀ y ∈ L, ok y) (hn : L.Nodup) {o : Obj} (hb : w.heap[g]? = some o) (ho : NamesO kv o L) {y : α} (hy : ok y) (i : Int) (q : Bool) (hi : (if y ∈ L then (L.idxOf y : Int) else 0) = i) (hq : decide (y ∈ L) = q)
    (hm : a.eval m = .map (some g)) (hx : a.eval x = kv y)
    (hK : wpList P ops Q rest (a.put op.dst (.tuple #[.int .i64 i, .bool q])) w) :
    wpList P ops Q (op :: rest) a w := by
  subst hi hq
  refine wpList_plain hg fun K' hK' => ?_
  have hrun := names_look H hL hn hb ho hy
  unfold Oper.wp
  simp [execOp, hop, hm, hx, hrun, Result.andThen]
  exact hK' _ _ hK
end
end Go.Proofs.Ytbdfbmohdbigfaa


namespace Go.Proofs.Ytbdfbmohdbigfaa
open Go.RowKit Go.Maps
set_option linter.unusedVariables false
structure KeyB {α : Type} (P : Program) (mt kt vt : TypeId) (kv : α → Value) (ok : α → Prop) : Prop where
  K : Keyed P kt
  und : P.underlying mt = some (.map kt vt)
  zero : ∀ w : World, (zeroValue vt).run P w = .ok (.bool false) w
  key : ∀ x, ok x → ∃ l, keyOf P kt (kv x) = some l
  inj : ∀ x y, kv x = kv y → x = y
section
variable {α : Type} {kv : α → Value}
/-- The object is a map that holds just the keys L, in their order, each with true. -/
def SetO (kv : α → Value) (o : Obj) (L : List α) : Prop := ∃ (es : Array MapEntry) (clock : Nat), o = .map es clock ∧ es.toList.map (fun e => (e.key, e.val)) = L.map (fun x => (kv x, Value.bool true))
theorem SetO.nil (kv : α → Value) : SetO kv (.map #[] 0) [] := ⟨#[], 0, rfl, rfl⟩
end
section
variable {α : Type} {P : Program} {mt kt vt : TypeId} {kv : α → Value} {ok : α → Prop}
theorem setO_find (H : KeyB P mt kt vt kv ok) {L : List α} (hL : ∀ y ∈ L, ok y) {es : Array MapEntry} (he : es.toList.map (fun e => (e.key, e.val)) = L.map (fun x => (kv x, Value.bool true))) {x : α} (hx : ok x) (w : World) :
    (x ∉ L ∧ (Instr.findKey kt (kv x) es.toList).run P w = .ok none w) ∨ (x ∈ L ∧ ∃ j, (Instr.findKey kt (kv x) es.toList).run P w = .ok (some (j, .bool true)) w) := by
  obtain ⟨l, hl⟩ := H.key x hx
  have hk : ∀ e ∈ es.toList, ∃ y ∈ L, e.key = kv y ∧ e.val = .bool true := by
    intro e hm
    have : (e.key, e.val) ∈ L.map (fun x => (kv x, Value.bool true)) := by rw [← he]; exact List.mem_map.2 ⟨e, hm, rfl⟩
    obtain ⟨y, hy, e2⟩ := List.mem_map.1 this
    simp only [Prod.mk.injEq] at e2
    exact ⟨y, hy, e2.1.symm, e2.2.symm⟩
  rcases H.K.find w hl es.toList (fun e hm => by
    obtain ⟨y, hy, e1, _⟩ := hk e hm
    rw [e1]; exact H.key y (hL y hy)) with ⟨h1, h2⟩ | ⟨j, e, h1, h2, h3⟩
  · refine .inl ⟨fun hm => ?_, h1⟩
    have : (kv x, Value.bool true) ∈ es.toList.map (fun e => (e.key, e.val)) := by rw [he]; exact List.mem_map.2 ⟨x, hm, rfl⟩
    obtain ⟨e, hme, e2⟩ := List.mem_map.1 this
    simp only [Prod.mk.injEq] at e2
    exact h2 e hme e2.1
  · obtain ⟨y, hy, e1, e2⟩ := hk e (List.mem_of_getElem? h2)
    obtain rfl : y = x := H.inj _ _ (by rw [← e1, h3])
    exact .inr ⟨hy, j, by rw [h1, e2]⟩
theorem setO_look [DecidableEq α] (H : KeyB P mt kt vt kv ok) {L : List α} (hL : ∀ y ∈ L, ok y) {w : World} {g : Nat} {o : Obj} (hb : w.heap[g]? = some o) (ho : SetO kv o L) {x : α} (hx : ok x) :
    (Instr.lookup mt (.map (some g)) (kv x) false).run P w = .ok (.bool (decide (x ∈ L))) w := by
  obtain ⟨es, clock, rfl, he⟩ := ho
  obtain ⟨l, hl⟩ := H.key x hx
  rcases setO_find H hL he hx w with ⟨h1, h2⟩ | ⟨h1, j, h2⟩
  · simp [Instr.lookup, run_underlying H.und, run_getObj_map _ _ _ _ hb, H.K.check w _ hl, h2, H.zero, Result.andThen, h1]
  · simp [Instr.lookup, run_underlying H.und, run_getObj_map _ _ _ _ hb, H.K.check w _ hl, h2, Result.andThen, h1]
theorem setO_put (H : KeyB P mt kt vt kv ok) {L : List α} (hL : ∀ y ∈ L, ok y) {w : World} {g : Nat} {o : Obj} (hb : w.heap[g]? = some o) (ho : SetO kv o L) {x : α} (hx : ok x) (hnew : x ∉ L) :
    ∃ w' o', (Instr.mapUpdate mt (.map (some g)) (kv x) (.bool true)).run P w = .ok () w' ∧ w'.heap[g]? = some o' ∧ SetO kv o' (L ++ [x]) ∧ But g w w' := by
  obtain ⟨es, clock, rfl, he⟩ := ho
  obtain ⟨l, hl⟩ := H.key x hx
  have hlt : g < w.heap.size := by
    rcases Nat.lt_or_ge g w.heap.size with hlt | hge
    · exact hlt
    · rw [Array.getElem?_eq_none hge] at hb; cases hb
  rcases setO_find H hL he hx w with ⟨h1, h2⟩ | ⟨h1, j, h2⟩
  · refine ⟨{ w with heap := w.heap.setIfInBounds g (.map (es.push ⟨kv x, .bool true, clock⟩) (clock + 1)) }, .map (es.push ⟨kv x, .bool true, clock⟩) (clock + 1), ?_, ?_, ⟨_, _, rfl, ?_⟩, ⟨rfl, rfl, rfl, by simp, fun k hk hne => ?_⟩⟩
    · simp [Instr.mapUpdate, run_underlying H.und, run_getObj_map _ _ _ _ hb, H.K.check w _ hl, h2, MapKept.run_setObj_map _ hb, Result.andThen]
    · show (w.heap.setIfInBounds g _)[g]? = _
      rw [Array.getElem?_setIfInBounds_self_of_lt hlt]
    · simp [he]
    · show (w.heap.setIfInBounds g _)[k]? = _
      rw [Array.getElem?_setIfInBounds_ne (by omega)]
  · exact absurd h1 hnew
theorem wpList_setO_put (H : KeyB P mt kt vt kv ok) {ops : Array Oper} {rest : List Oper} {op : Oper} {a : Act} {Q : Exit → Act → World → Prop} (w : World) (hg : op.guard = none) (m x v : Operand) (hop : op.op = Op.mapUpdate mt m x v ∨ op.op = Op.insert mt m x v)
    (g : Nat) {L : List α} (hL : ∀ y ∈ L, ok y) {o : Obj} (hb : w.heap[g]? = some o) (ho : SetO kv o L) {y : α} (hy : ok y) (hnew : y ∉ L)
    (hm : a.eval m = .map (some g)) (hx : a.eval x = kv y) (hv : a.eval v = .bool true)
    (hK : ∀ w' o', w'.heap[g]? = some o' → SetO kv o' (L ++ [y]) → But g w w' → wpList P ops Q rest (a.put op.dst undef) w') :
    wpList P ops Q (op :: rest) a w := by
  refine wpList_plain hg fun K' hK' => ?_
  obtain ⟨w', o', hrun, r1, r2, r3⟩ := setO_put H hL hb ho hy hnew
  unfold Oper.wp
  rcases hop with hop | hop
  · simp [execOp, hop, hm, hx, hv, hrun, Result.andThen]
    exact hK' _ _ (hK w' o' r1 r2 r3)
  · simp [execOp, hop, hm, hx, hv, hrun, Result.andThen]
    exact hK' _ _ (hK w' o' r1 r2 r3)
theorem wpList_setO_look [DecidableEq α] (H : KeyB P mt kt vt kv ok) {ops : Array Oper} {rest : List Oper} {op : Oper} {a : Act} {Q : Exit → Act → World → Prop} (w : World) (hg : op.guard = none) (m x : Operand) (hop : op.op = Op.lookup mt m x false)
    (g : Nat) {L : List α} (hL : ∀ y ∈ L, ok y) {o : Obj} (hb : w.heap[g]? = some o) (ho : SetO kv o L) {y : α} (hy : ok y) (q : Bool) (hq : y ∈ L ↔ q = true)
    (hm : a.eval m = .map (some g)) (hx : a.eval x = kv y)
    (hK : wpList P ops Q rest (a.put op.dst (.bool q)) w) :
    wpList P ops Q (op :: rest) a w := by
  obtain rfl : decide (y ∈ L) = q := by
    cases q with
    | true => exact decide_eq_true (hq.2 rfl)
    | false => exact decide_eq_false (fun h => by have := hq.1 h; cases this)
  refine wpList_plain hg fun K' hK' => ?_
  have hrun := setO_look H hL hb ho hy
  unfold Oper.wp
  simp [execOp, hop, hm, hx, hrun, Result.andThen]
  exact hK' _ _ hK
end
end Go.Proofs.Ytbdfbmohdbigfaa


namespace Go.Proofs.Ytbdfbmohdbigfaa
open Go.RowKit Go.Maps
set_option linter.unusedVariables false
/-- A pair as a value. -/
def qv (p : Nat × Nat) : Value := .agg #[.int .i64 (p.1 : Int), .int .i64 (p.2 : Int)]
theorem qv_inj (p q : Nat × Nat) (h : qv p = qv q) : p = q := by
  obtain ⟨a, b⟩ := p
  obtain ⟨a', b'⟩ := q
  simp only [qv, Value.agg.injEq] at h
  simp at h
  obtain ⟨h1, h2⟩ := h
  rw [show a = a' by omega, show b = b' by omega]
def okQ (p : Nat × Nat) : Prop := p.1 < 64 ∧ p.2 < 64
theorem pairLaw : WideMaps.KeyLaw Try.prog 84 := deep_law (m := 2) (by omega) (by kernel_rfl) (by kernel_rfl) (by kernel_rfl)
theorem pairK : Keyed Try.prog 84 := Keyed.of_law pairLaw
theorem key_pair (p : Nat × Nat) (h : okQ p) : ∃ l, keyOf Try.prog 84 (qv p) = some l := by
  obtain ⟨a, b⟩ := p
  obtain ⟨h1, h2⟩ := h
  simp only at h1 h2
  have w1 : (Lit.int .i64 (a : Int)).wf = true := WalkArith.wf_i64 (by omega)
  have w2 : (Lit.int .i64 (b : Int)).wf = true := WalkArith.wf_i64 (by omega)
  have k1 : Try.prog.keyType 84 = true := by kernel_rfl
  have k2 : (qv (a, b)).formed Try.prog 84 = true := by kernel_rfl
  have c1 : Try.prog.cellsOf 84 = 2 := by kernel_rfl
  have c3 : Try.prog.cellsOf 2 = 1 := by kernel_rfl
  have hs : 0 < Try.prog.types.size := of_decide_eq_true (by kernel_rfl)
  obtain ⟨d, hd⟩ : ∃ d, Try.prog.types.size = d + 1 := ⟨Try.prog.types.size - 1, by omega⟩
  have kl : Try.prog.keyLits (Try.prog.types.size + 1) 84 [.int .i64 (a : Int), .int .i64 (b : Int)] = some [.int .i64 (a : Int), .int .i64 (b : Int)] := by
    rw [hd]
    simp [Program.keyLits, Try.underlying84, Try.underlying2, c1, c3, w1, w2, List.range_succ]
  refine ⟨.string (keyBytes [.int .i64 (a : Int), .int .i64 (b : Int)]), ?_⟩
  unfold keyOf
  rw [Try.underlying84]
  have hc : (qv (a, b)).cells.toList = [.int .i64 (a : Int), .int .i64 (b : Int)] := rfl
  simp only [k1, k2, Bool.and_self, if_true, hc, kl, Option.map_some]
theorem keyQ : KeyOk Try.prog 136 84 2 qv okQ where
  K := pairK
  und := Try.underlying136
  zero := fun w => by kernel_rfl
  key := key_pair
  inj := qv_inj
theorem setQ : KeyB Try.prog 141 84 4 qv okQ where
  K := pairK
  und := Try.underlying141
  zero := fun w => by kernel_rfl
  key := key_pair
  inj := qv_inj
end Go.Proofs.Ytbdfbmohdbigfaa


namespace Go.Proofs.Ytbdfbmohdbigfaa
open Go.RowKit
set_option linter.unusedVariables false
/-- A plain head of a slice: nil, or a place of its own. -/
def NilA (A : Option Addr) : Prop := A = none ∨ ∃ b o, A = some ⟨b, o, none⟩
theorem ownA_nil {w : World} {lo n c sz : Nat} {t : TypeId} {A : Option Addr} {xs : List Value} (h : w.ownsRow lo t sz (.slice A n c) n xs) : NilA A := by
  obtain ⟨_, h2⟩ := h
  rcases h2 with ⟨e, -⟩ | ⟨g', cap, cur, e, hb, hg, hnc, hm, hs, ht⟩
  · injection e with e1 _ _; exact .inl e1
  · injection e with e1 _ _; exact .inr ⟨g', 0, e1⟩
set_option maxHeartbeats 1000000 in
theorem iClo0 (c : Nat) (w : World) :
    Calls Try.prog 48 #[.slice none 0 c] w fun e w' => e = .returned (.slice none 0 0) ∧ w = w' := by
  have hnil := fun w => Lib.run_eql_slice_nil (P := Try.prog) w 26 2 none 0 c 0 0 Try.underlying26
  go_enter Try.func48, Try.ntmps48
  go_wp2_with fail
  go_ret
  exact ⟨rfl, rfl⟩
theorem iClo_any (A : Option Addr) (n c : Nat) (xs : List Int) (w : World) (hp : NilA A) (h : SlI w w.heap.size A n xs) (hn : n ≤ 4294967296) :
    Calls Try.prog 48 #[.slice A n c] w fun e w' => ∃ A' c', e = .returned (.slice A' xs.length c') ∧ RowI w' w.heap.size 2 (.slice A' xs.length c') xs ∧ Below w.heap.size w w' := by
  rcases hp with rfl | ⟨b, o, rfl⟩
  · have h0 : n = 0 := by
      rcases Nat.eq_zero_or_pos n with h0 | h0
      · exact h0
      · obtain ⟨_, _, e, _⟩ := h.2 h0; cases e
    subst h0
    have hl : xs = [] := List.length_eq_zero_iff.1 h.len
    subst hl
    refine (iClo0 c w).mono ?_
    rintro e w' ⟨rfl, rfl⟩
    exact ⟨none, 0, rfl, World.ownsRow_nil w _ _ 1, Below.refl _ _⟩
  · exact iCloneI_any b o n c xs w h hn
end Go.Proofs.Ytbdfbmohdbigfaa


namespace Go.Proofs.Ytbdfbmohdbigfaa
open Go.RowKit
set_option linter.unusedVariables false
abbrev QL := List ((Nat × Nat) × List Int)
/-- The cells of places. -/
def qc : QL → List Value → List Value
  | p :: L, u :: ws => .int .i64 (p.1.1 : Int) :: .int .i64 (p.1.2 : Int) :: u :: qc L ws
  | _, _ => []
theorem qc_snoc : ∀ (L : QL) (ws : List Value) (p : (Nat × Nat) × List Int) (u : Value), ws.length = L.length → qc (L ++ [p]) (ws ++ [u]) = qc L ws ++ [.int .i64 (p.1.1 : Int), .int .i64 (p.1.2 : Int), u]
  | [], [], p, u, _ => rfl
  | [], _ :: _, p, u, h => by simp at h
  | _ :: _, [], p, u, h => by simp at h
  | a :: L, b :: ws, p, u, h => by
    have ih := qc_snoc L ws p u (by simpa using h)
    simp only [List.cons_append, qc, ih]
theorem qc_get : ∀ (L : QL) (ws : List Value) (j : Nat) (p : (Nat × Nat) × List Int) (u : Value), L[j]? = some p → ws[j]? = some u → (qc L ws)[j * 3]? = some (.int .i64 (p.1.1 : Int)) ∧ (qc L ws)[j * 3 + 1]? = some (.int .i64 (p.1.2 : Int)) ∧ (qc L ws)[j * 3 + 2]? = some u
  | [], _, j, p, u, h, _ => by simp at h
  | _ :: _, [], j, p, u, _, h => by simp at h
  | a :: L, b :: ws, 0, p, u, h1, h2 => by
    simp at h1 h2; subst h1; subst h2; simp [qc]
  | a :: L, b :: ws, j + 1, p, u, h1, h2 => by
    have ih := qc_get L ws j p u (by simpa using h1) (by simpa using h2)
    rw [show (j + 1) * 3 = j * 3 + 1 + 1 + 1 from by omega]
    simpa [qc] using ih
theorem qc_one : ∀ (L : QL) (ws : List Value), (∀ u ∈ ws, u.oneCell' = true) → ∀ u ∈ qc L ws, u.oneCell' = true
  | [], ws, _, u, h => by simp [qc] at h
  | _ :: _, [], _, u, h => by simp [qc] at h
  | a :: L, b :: ws, hw, u, h => by
    simp only [qc, List.mem_cons] at h
    rcases h with rfl | rfl | rfl | h
    · rfl
    · rfl
    · exact hw _ (by simp)
    · exact qc_one L ws (fun v hv => hw v (List.mem_cons_of_mem _ hv)) u h
/-- An append at a step of a region that draws its order, for elements of up to 64 bytes. -/
theorem step_cells_pushW {P : Program} {w0 : World} {ops : Array Oper} {o : Oper} {a : Act} {K : Act → World → Prop} {Q : Exit → Act → World → Prop} {E : Prop} (hgd : o.guard = none) (s x : Operand) (t : TypeId)
    (ho : o.op = .call { callee := .builtin .append, args := #[s, x], argTypes := #[t, t] })
    (base : Nat) (e : TypeId) (z : Value) (size bytes : Nat) (ht : P.underlying t = some (.slice e)) (hinfo : (P.info? e).map (fun i => (i.zero, i.size, i.bytes)) = some (some z, size, bytes)) (hzs : z.cells.size = size) (hsz : 0 < size) (hby : bytes ≤ 64)
    (v : Value) (n : Nat) (xs : List Value) (hs : a.eval s = v) (hown : w0.ownsRow base e size v n xs)
    (b off m c : Nat) (news : List Value) (hx : a.eval x = .slice (some ⟨b, off, none⟩) m c) (hl : news.length = m * size) (hnews : ∀ j u, news[j]? = some u → w0.cell? ⟨b, off + j, none⟩ = some u) (h1 : ∀ u ∈ news, u.oneCell' = true)
    (hn : n + m ≤ 1048576) (hbase : base ≤ w0.heap.size)
    (h : ∀ A' c' w', w'.ownsRow base e size (.slice A' (n + m) c') (n + m) (xs ++ news) → w0.grownBy w' v.ownBlock → Below base w0 w' → ((Value.slice A' (n + m) c').ownBlock = v.ownBlock ∨ (Value.slice A' (n + m) c').ownBlock = some w0.heap.size) → K (a.put o.dst (.slice A' (n + m) c')) w') :
    if Region.wanted o (yielded ops a.tmps) = true then Oper.wp P o a w0 K Q else E := by
  obtain ⟨i, hi, hz, hsz', hb⟩ := info_parts hinfo
  have hb2 : (n + m) * bytes ≤ 140737488355328 := by
    have := Nat.mul_le_mul hn hby
    omega
  have hw : Region.wanted o (yielded ops a.tmps) = true := by simp [Region.wanted, hgd]
  rw [if_pos hw]
  obtain ⟨v', w', hr, h2, h3, _, h5⟩ := run_append_own_at (P := P) w0 base t o.type e i z size bytes ht hi hz hsz' hb hzs hsz v n xs hown ⟨b, off, none⟩ m c news hl (fun j u hu => by
    have ea : (⟨b, off, none⟩ : Addr).add j = ⟨b, off + j, none⟩ := by unfold Addr.add; by_cases h : j = 0 <;> simp [h]
    rw [ea]; exact hnews j u hu) h1 (by unfold maxLen; omega) hb2 hbase
  unfold Oper.wp execOp
  simp only [ho, resolve, invoke, builtin, Sem.run_bind, Sem.run_pure, Result.andThen_ok, List.map_toArray, List.map_cons, List.map_nil, hs, hx, hr]
  obtain ⟨A', c', rfl, _, _⟩ := own_form h2
  exact h A' c' w' h2 h3 (grown_below' hown h3 hbase) h5
structure Qw (x0 w : World) (gm : Nat) (om : Obj) (v : Value) (L : QL) (ws : List Value) : Prop where
  bel : Below x0.heap.size x0 w
  lg : x0.heap.size ≤ gm
  hm : w.heap[gm]? = some om
  own : w.ownsRow x0.heap.size 139 3 v L.length (qc L ws)
  ne : v.ownBlock ≠ some gm
  len : ws.length = L.length
  wd : ∀ (i : Nat) (p : (Nat × Nat) × List Int) (u : Value), L[i]? = some p → ws[i]? = some u → RowI w x0.heap.size 2 u p.2 ∧ ∀ k, u.ownBlock = some k → k ≠ gm ∧ v.ownBlock ≠ some k
theorem hp_lt {w : World} {g : Nat} {o : Obj} (h : w.heap[g]? = some o) : g < w.heap.size := by
  rcases Nat.lt_or_ge g w.heap.size with hlt | hge
  · exact hlt
  · rw [Array.getElem?_eq_none hge] at h; cases h
section
variable {x0 w w' : World} {gm : Nat} {om : Obj} {v : Value} {L : QL} {ws : List Value}
theorem Qw.size (h : Qw x0 w gm om v L ws) : x0.heap.size ≤ w.heap.size := h.bel.size
theorem Qw.call {B : Nat} (h : Qw x0 w gm om v L ws) (hb : Below B w w') (hB : w.heap.size ≤ B) : Qw x0 w' gm om v L ws :=
  ⟨h.bel.trans (hb.mono (Nat.le_trans h.size hB)), h.lg, (hb.block gm (Nat.lt_of_lt_of_le (hp_lt h.hm) hB)).trans h.hm, own_move h.own (fun k hk => hb.block k (Nat.lt_of_lt_of_le (h.own.lt k hk).2 hB)), h.ne, h.len,
    fun i p u hp hu => ⟨own_move (h.wd i p u hp hu).1 (fun k hk => hb.block k (Nat.lt_of_lt_of_le (World.ownsRow.lt (h.wd i p u hp hu).1 k hk).2 hB)), (h.wd i p u hp hu).2⟩⟩
theorem Qw.alloc (h : Qw x0 w gm om v L ws) (o : Obj) : Qw x0 (w.alloc o) gm om v L ws := h.call ((Below.refl _ _).alloc (Nat.le_refl _) o) (Nat.le_refl _)
theorem Qw.drew (h : Qw x0 w gm om v L ws) : Qw x0 w.drew gm om v L ws := h.call (B := w.heap.size) (Below.drew (Below.refl _ _)) (Nat.le_refl _)
theorem Qw.drewN (h : Qw x0 w gm om v L ws) (n : Nat) : Qw x0 (w.drewN n) gm om v L ws := h.call (B := w.heap.size) (below_draws (Below.refl _ _) n) (Nat.le_refl _)
theorem Qw.map {om' : Obj} (h : Qw x0 w gm om v L ws) (hb : But gm w w') (ho : w'.heap[gm]? = some om') : Qw x0 w' gm om' v L ws := by
  have hk : ∀ k, k < w.heap.size → k ≠ gm → w'.heap[k]? = w.heap[k]? := hb.2.2.2.2
  refine ⟨h.bel.trans (hb.below h.lg h.size), h.lg, ho, own_move h.own (fun k q => hk k (h.own.lt k q).2 (fun e => h.ne (by rw [q, e]))), h.ne, h.len, fun i p u hp hu => ?_⟩
  obtain ⟨h1, h2⟩ := h.wd i p u hp hu
  exact ⟨own_move h1 (fun k q => hk k (World.ownsRow.lt h1 k q).2 (h2 k q).1), h2⟩
/-- A place is appended to the list. -/
theorem Qw.push (h : Qw x0 w gm om v L ws) {v' : Value} {p : (Nat × Nat) × List Int} {u : Value} (ho : w'.ownsRow x0.heap.size 139 3 v' (L.length + 1) (qc L ws ++ [.int .i64 (p.1.1 : Int), .int .i64 (p.1.2 : Int), u])) (hg : w.grownBy w' v.ownBlock) (hq : ∀ k, v'.ownBlock = some k → v.ownBlock = some k ∨ w.heap.size ≤ k)
    (hu : RowI w x0.heap.size 2 u p.2) (hn : ∀ k, u.ownBlock = some k → k ≠ gm ∧ v.ownBlock ≠ some k) : Qw x0 w' gm om v' (L ++ [p]) (ws ++ [u]) := by
  have hlm := hp_lt h.hm
  have hfar : ∀ (a : Value) (xs : List Int), RowI w x0.heap.size 2 a xs → (∀ k, a.ownBlock = some k → k ≠ gm ∧ v.ownBlock ≠ some k) → RowI w' x0.heap.size 2 a xs ∧ ∀ k, a.ownBlock = some k → k ≠ gm ∧ v'.ownBlock ≠ some k := by
    intro a xs h1 h2
    refine ⟨own_move h1 (fun k q => hg.block k (World.ownsRow.lt h1 k q).2 (fun e => (h2 k q).2 e.symm)), fun k q => ⟨(h2 k q).1, fun e => ?_⟩⟩
    rcases hq k e with e1 | e1
    · exact (h2 k q).2 e1
    · have := (World.ownsRow.lt h1 k q).2; omega
  refine ⟨h.bel.grown hg h.size (fun k hk => (h.own.lt k hk).1), h.lg, (hg.block gm hlm (fun e => h.ne e.symm)).trans h.hm, ?_, ?_, by simp [h.len], ?_⟩
  · rw [qc_snoc _ _ _ _ h.len, List.length_append]; exact ho
  · intro e
    rcases hq gm e with e1 | e1
    · exact h.ne e1
    · omega
  · intro i q a hi ha
    rcases get_snoc hi with hi | ⟨hil, rfl⟩
    · have hil := (List.getElem?_eq_some_iff.1 hi).1
      rw [List.getElem?_append_left (by rw [h.len]; exact hil)] at ha
      exact hfar a q.2 (h.wd i q a hi ha).1 (h.wd i q a hi ha).2
    · rw [hil, List.getElem?_append_right (by rw [h.len]; exact Nat.le_refl _), h.len, Nat.sub_self] at ha
      obtain rfl : u = a := by simpa using ha
      exact hfar u q.2 hu hn
/-- The cells of a place of the list. -/
theorem Qw.at_ {g c : Nat} (h : Qw x0 w gm om (.slice (some ⟨g, 0, none⟩) L.length c) L ws) {k : Nat} {p : (Nat × Nat) × List Int} {u : Value} (hp : L[k]? = some p) (hu : ws[k]? = some u) : w.cell? ⟨g, k * 3, none⟩ = some (.int .i64 (p.1.1 : Int)) ∧ w.cell? ⟨g, k * 3 + 1, none⟩ = some (.int .i64 (p.1.2 : Int)) ∧ w.cell? ⟨g, k * 3 + 2, none⟩ = some u := by
  obtain ⟨e1, e2, e3⟩ := qc_get _ _ _ _ _ hp hu
  have ea : ∀ j, (⟨g, 0, none⟩ : Addr).add j = ⟨g, j, none⟩ := fun j => by unfold Addr.add; by_cases h : j = 0 <;> simp [h]
  have k1 := World.ownsRow.cells h.own (g := g) rfl _ _ e1
  have k2 := World.ownsRow.cells h.own (g := g) rfl _ _ e2
  have k3 := World.ownsRow.cells h.own (g := g) rfl _ _ e3
  rw [ea] at k1 k2 k3
  exact ⟨k1, k2, k3⟩
end
/-- A plain machine as the walks want it. -/
structure PlOk (w : World) (S T : Nat) (A2 : Option Addr) (n2 : Nat) (A3 : Option Addr) (n3 : Nat) (P : List Int) (E : List Bool) : Prop where
  h2 : SlI w w.heap.size A2 n2 P
  h3 : SlB w w.heap.size A3 n3 E
  hS : 1 ≤ S ∧ S ≤ 64
  hT : 1 ≤ T ∧ T ≤ 4
  hn : n2 = S * T
  hP : ∀ x ∈ P, 0 ≤ x ∧ x < (S : Int)
  hE : n3 = S
theorem PlOk.below {w w' : World} {S T : Nat} {A2 : Option Addr} {n2 : Nat} {A3 : Option Addr} {n3 : Nat} {P : List Int} {E : List Bool} {B : Nat} (h : PlOk w S T A2 n2 A3 n3 P E) (hb : Below B w w') (hB : w.heap.size ≤ B) : PlOk w' S T A2 n2 A3 n3 P E :=
  ⟨(h.h2.below hb hB).more hb.size, (h.h3.below hb hB).more hb.size, h.hS, h.hT, h.hn, h.hP, h.hE⟩
/-- Where a letter leads. -/
def plT (T : Nat) (P : List Int) (s j : Nat) : Nat := (P.getD (s * T + j) 0).toNat
theorem plT_at {S T n2 s j : Nat} {P : List Int} (hn : n2 = S * T) (hl : P.length = n2) (hs : s < S) (hj : j < T) : s * T + j < P.length := by
  have : (s + 1) * T ≤ S * T := Nat.mul_le_mul_right T hs
  rw [Nat.succ_mul] at this
  omega
theorem plT_bd {S T n2 s j : Nat} {P : List Int} (hn : n2 = S * T) (hl : P.length = n2) (hP : ∀ x ∈ P, 0 ≤ x ∧ x < (S : Int)) (hs : s < S) (hj : j < T) : ((plT T P s j : Nat) : Int) = P.getD (s * T + j) 0 ∧ plT T P s j < S := by
  have h := plT_at hn hl hs hj
  have h2 := hP _ (List.getElem_mem h)
  have e : P.getD (s * T + j) 0 = P[s * T + j] := by rw [List.getD_eq_getElem?_getD, List.getElem?_eq_getElem h]; rfl
  unfold plT
  rw [e]
  omega
theorem iToN_any {S T : Nat} {A2 : Option Addr} {n2 : Nat} (c2 : Nat) {A3 : Option Addr} {n3 : Nat} (c3 : Nat) {P : List Int} {E : List Bool} (s j : Nat) (w : World) (h : PlOk w S T A2 n2 A3 n3 P E) (hs : s < S) (hj : j < T) :
    Calls Try.prog 51 #[.agg #[.int .i64 (S : Int), .int .i64 (T : Int), .slice A2 n2 c2, .slice A3 n3 c3], .int .i64 (s : Int), .int .i64 (j : Int)] w fun e w' => e = .returned (.int .i64 ((plT T P s j : Nat) : Int)) ∧ Below w.heap.size w w' := by
  have hl := h.h2.len
  have hi := plT_at h.hn hl hs hj
  have hb := (plT_bd h.hn hl h.hP hs hj).1
  have hS := h.hS; have hT := h.hT
  have hm : S * T ≤ 64 * 4 := Nat.mul_le_mul hS.2 hT.2
  have hn := h.hn
  have e : ((s : Int) * (T : Int) + (j : Int)) = ((s * T + j : Nat) : Int) := by simp
  have C := iTo_any (S : Int) (T : Int) A2 n2 c2 A3 n3 c3 P (s : Int) (j : Int) (s * T + j) w h.h2 e (by omega) (by omega) (by omega) (by omega) (by omega)
  rw [e, Int.toNat_natCast, ← hb] at C
  exact C
end Go.Proofs.Ytbdfbmohdbigfaa
