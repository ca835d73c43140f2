/- The queue of pairs and words in memory (firstApart): a list of places, each with a word of its own, a map beside it, and a block of the round's own. -/
import Derived.Test.YtbdfbmohdbigfaaFaP
import Derived.Test.YtbdfbmohdbigfaaMgt
import Derived.Test.YtbdfbmohdbigfaaStO
import Derived.Test.YtbdfbmohdbigfaaMgu

namespace Go.Proofs.Ytbdfbmohdbigfaa
open Go.RowKit
set_option linter.unusedVariables false
abbrev QL := List ((Nat × Nat) × List Int)
/-- The cells of places. -/
def qc : QL → List Value → List Value
  | p :: L, u :: ws => .int .i64 (p.1.1 : Int) :: .int .i64 (p.1.2 : Int) :: u :: qc L ws
  | _, _ => []
theorem qc_snoc : ∀ (L : QL) (ws : List Value) (p : (Nat × Nat) × List Int) (u : Value), ws.length = L.length → qc (L ++ [p]) (ws ++ [u]) = qc L ws ++ [.int .i64 (p.1.1 : Int), .int .i64 (p.1.2 : Int), u]
  | [], [], p, u, _ => rfl
  | [], _ :: _, p, u, h => by simp at h
  | _ :: _, [], p, u, h => by simp at h
  | a :: L, b :: ws, p, u, h => by
    have ih := qc_snoc L ws p u (by simpa using h)
    simp only [List.cons_append, qc, ih]
theorem qc_get : ∀ (L : QL) (ws : List Value) (j : Nat) (p : (Nat × Nat) × List Int) (u : Value), L[j]? = some p → ws[j]? = some u → (qc L ws)[j * 3]? = some (.int .i64 (p.1.1 : Int)) ∧ (qc L ws)[j * 3 + 1]? = some (.int .i64 (p.1.2 : Int)) ∧ (qc L ws)[j * 3 + 2]? = some u
  | [], _, j, p, u, h, _ => by simp at h
  | _ :: _, [], j, p, u, _, h => by simp at h
  | a :: L, b :: ws, 0, p, u, h1, h2 => by
    simp at h1 h2; subst h1; subst h2; simp [qc]
  | a :: L, b :: ws, j + 1, p, u, h1, h2 => by
    have ih := qc_get L ws j p u (by simpa using h1) (by simpa using h2)
    rw [show (j + 1) * 3 = j * 3 + 1 + 1 + 1 from by omega]
    simpa [qc] using ih
theorem qc_one : ∀ (L : QL) (ws : List Value), (∀ u ∈ ws, u.oneCell' = true) → ∀ u ∈ qc L ws, u.oneCell' = true
  | [], ws, _, u, h => by simp [qc] at h
  | _ :: _, [], _, u, h => by simp [qc] at h
  | a :: L, b :: ws, hw, u, h => by
    simp only [qc, List.mem_cons] at h
    rcases h with rfl | rfl | rfl | h
    · rfl
    · rfl
    · exact hw _ (by simp)
    · exact qc_one L ws (fun v hv => hw v (List.mem_cons_of_mem _ hv)) u h
/-- An append at a step of a region that draws its order, for elements of up to 64 bytes. -/
theorem step_cells_pushW {P : Program} {w0 : World} {ops : Array Oper} {o : Oper} {a : Act} {K : Act → World → Prop} {Q : Exit → Act → World → Prop} {E : Prop} (hgd : o.guard = none) (s x : Operand) (t : TypeId)
    (ho : o.op = .call { callee := .builtin .append, args := #[s, x], argTypes := #[t, t] })
    (base : Nat) (e : TypeId) (z : Value) (size bytes : Nat) (ht : P.underlying t = some (.slice e)) (hinfo : (P.info? e).map (fun i => (i.zero, i.size, i.bytes)) = some (some z, size, bytes)) (hzs : z.cells.size = size) (hsz : 0 < size) (hby : bytes ≤ 64)
    (v : Value) (n : Nat) (xs : List Value) (hs : a.eval s = v) (hown : w0.ownsRow base e size v n xs)
    (b off m c : Nat) (news : List Value) (hx : a.eval x = .slice (some ⟨b, off, none⟩) m c) (hl : news.length = m * size) (hnews : ∀ j u, news[j]? = some u → w0.cell? ⟨b, off + j, none⟩ = some u) (h1 : ∀ u ∈ news, u.oneCell' = true)
    (hn : n + m ≤ 1048576) (hbase : base ≤ w0.heap.size)
    (h : ∀ A' c' w', w'.ownsRow base e size (.slice A' (n + m) c') (n + m) (xs ++ news) → w0.grownBy w' v.ownBlock → Below base w0 w' → ((Value.slice A' (n + m) c').ownBlock = v.ownBlock ∨ (Value.slice A' (n + m) c').ownBlock = some w0.heap.size) → K (a.put o.dst (.slice A' (n + m) c')) w') :
    if Region.wanted o (yielded ops a.tmps) = true then Oper.wp P o a w0 K Q else E := by
  obtain ⟨i, hi, hz, hsz', hb⟩ := info_parts hinfo
  have hb2 : (n + m) * bytes ≤ 140737488355328 := by
    have := Nat.mul_le_mul hn hby
    omega
  have hw : Region.wanted o (yielded ops a.tmps) = true := by simp [Region.wanted, hgd]
  rw [if_pos hw]
  obtain ⟨v', w', hr, h2, h3, _, h5⟩ := run_append_own_at (P := P) w0 base t o.type e i z size bytes ht hi hz hsz' hb hzs hsz v n xs hown ⟨b, off, none⟩ m c news hl (fun j u hu => by
    have ea : (⟨b, off, none⟩ : Addr).add j = ⟨b, off + j, none⟩ := by unfold Addr.add; by_cases h : j = 0 <;> simp [h]
    rw [ea]; exact hnews j u hu) h1 (by unfold maxLen; omega) hb2 hbase
  unfold Oper.wp execOp
  simp only [ho, resolve, invoke, builtin, Sem.run_bind, Sem.run_pure, Result.andThen_ok, List.map_toArray, List.map_cons, List.map_nil, hs, hx, hr]
  obtain ⟨A', c', rfl, _, _⟩ := own_form h2
  exact h A' c' w' h2 h3 (grown_below' hown h3 hbase) h5
structure Qw (x0 w : World) (gm : Nat) (om : Obj) (v : Value) (L : QL) (ws : List Value) : Prop where
  bel : Below x0.heap.size x0 w
  lg : x0.heap.size ≤ gm
  hm : w.heap[gm]? = some om
  own : w.ownsRow x0.heap.size 139 3 v L.length (qc L ws)
  ne : v.ownBlock ≠ some gm
  len : ws.length = L.length
  wd : ∀ (i : Nat) (p : (Nat × Nat) × List Int) (u : Value), L[i]? = some p → ws[i]? = some u → RowI w x0.heap.size 2 u p.2 ∧ ∀ k, u.ownBlock = some k → k ≠ gm ∧ v.ownBlock ≠ some k
theorem hp_lt {w : World} {g : Nat} {o : Obj} (h : w.heap[g]? = some o) : g < w.heap.size := by
  rcases Nat.lt_or_ge g w.heap.size with hlt | hge
  · exact hlt
  · rw [Array.getElem?_eq_none hge] at h; cases h
section
variable {x0 w w' : World} {gm : Nat} {om : Obj} {v : Value} {L : QL} {ws : List Value}
theorem Qw.size (h : Qw x0 w gm om v L ws) : x0.heap.size ≤ w.heap.size := h.bel.size
theorem Qw.call {B : Nat} (h : Qw x0 w gm om v L ws) (hb : Below B w w') (hB : w.heap.size ≤ B) : Qw x0 w' gm om v L ws :=
  ⟨h.bel.trans (hb.mono (Nat.le_trans h.size hB)), h.lg, (hb.block gm (Nat.lt_of_lt_of_le (hp_lt h.hm) hB)).trans h.hm, own_move h.own (fun k hk => hb.block k (Nat.lt_of_lt_of_le (h.own.lt k hk).2 hB)), h.ne, h.len,
    fun i p u hp hu => ⟨own_move (h.wd i p u hp hu).1 (fun k hk => hb.block k (Nat.lt_of_lt_of_le (World.ownsRow.lt (h.wd i p u hp hu).1 k hk).2 hB)), (h.wd i p u hp hu).2⟩⟩
theorem Qw.alloc (h : Qw x0 w gm om v L ws) (o : Obj) : Qw x0 (w.alloc o) gm om v L ws := h.call ((Below.refl _ _).alloc (Nat.le_refl _) o) (Nat.le_refl _)
theorem Qw.drew (h : Qw x0 w gm om v L ws) : Qw x0 w.drew gm om v L ws := h.call (B := w.heap.size) (Below.drew (Below.refl _ _)) (Nat.le_refl _)
theorem Qw.drewN (h : Qw x0 w gm om v L ws) (n : Nat) : Qw x0 (w.drewN n) gm om v L ws := h.call (B := w.heap.size) (below_draws (Below.refl _ _) n) (Nat.le_refl _)
theorem Qw.map {om' : Obj} (h : Qw x0 w gm om v L ws) (hb : But gm w w') (ho : w'.heap[gm]? = some om') : Qw x0 w' gm om' v L ws := by
  have hk : ∀ k, k < w.heap.size → k ≠ gm → w'.heap[k]? = w.heap[k]? := hb.2.2.2.2
  refine ⟨h.bel.trans (hb.below h.lg h.size), h.lg, ho, own_move h.own (fun k q => hk k (h.own.lt k q).2 (fun e => h.ne (by rw [q, e]))), h.ne, h.len, fun i p u hp hu => ?_⟩
  obtain ⟨h1, h2⟩ := h.wd i p u hp hu
  exact ⟨own_move h1 (fun k q => hk k (World.ownsRow.lt h1 k q).2 (h2 k q).1), h2⟩
/-- A place is appended to the list. -/
theorem Qw.push (h : Qw x0 w gm om v L ws) {v' : Value} {p : (Nat × Nat) × List Int} {u : Value} (ho : w'.ownsRow x0.heap.size 139 3 v' (L.length + 1) (qc L ws ++ [.int .i64 (p.1.1 : Int), .int .i64 (p.1.2 : Int), u])) (hg : w.grownBy w' v.ownBlock) (hq : ∀ k, v'.ownBlock = some k → v.ownBlock = some k ∨ w.heap.size ≤ k)
    (hu : RowI w x0.heap.size 2 u p.2) (hn : ∀ k, u.ownBlock = some k → k ≠ gm ∧ v.ownBlock ≠ some k) : Qw x0 w' gm om v' (L ++ [p]) (ws ++ [u]) := by
  have hlm := hp_lt h.hm
  have hfar : ∀ (a : Value) (xs : List Int), RowI w x0.heap.size 2 a xs → (∀ k, a.ownBlock = some k → k ≠ gm ∧ v.ownBlock ≠ some k) → RowI w' x0.heap.size 2 a xs ∧ ∀ k, a.ownBlock = some k → k ≠ gm ∧ v'.ownBlock ≠ some k := by
    intro a xs h1 h2
    refine ⟨own_move h1 (fun k q => hg.block k (World.ownsRow.lt h1 k q).2 (fun e => (h2 k q).2 e.symm)), fun k q => ⟨(h2 k q).1, fun e => ?_⟩⟩
    rcases hq k e with e1 | e1
    · exact (h2 k q).2 e1
    · have := (World.ownsRow.lt h1 k q).2; omega
  refine ⟨h.bel.grown hg h.size (fun k hk => (h.own.lt k hk).1), h.lg, (hg.block gm hlm (fun e => h.ne e.symm)).trans h.hm, ?_, ?_, by simp [h.len], ?_⟩
  · rw [qc_snoc _ _ _ _ h.len, List.length_append]; exact ho
  · intro e
    rcases hq gm e with e1 | e1
    · exact h.ne e1
    · omega
  · intro i q a hi ha
    rcases get_snoc hi with hi | ⟨hil, rfl⟩
    · have hil := (List.getElem?_eq_some_iff.1 hi).1
      rw [List.getElem?_append_left (by rw [h.len]; exact hil)] at ha
      exact hfar a q.2 (h.wd i q a hi ha).1 (h.wd i q a hi ha).2
    · rw [hil, List.getElem?_append_right (by rw [h.len]; exact Nat.le_refl _), h.len, Nat.sub_self] at ha
      obtain rfl : u = a := by simpa using ha
      exact hfar u q.2 hu hn
/-- The cells of a place of the list. -/
theorem Qw.at_ {g c : Nat} (h : Qw x0 w gm om (.slice (some ⟨g, 0, none⟩) L.length c) L ws) {k : Nat} {p : (Nat × Nat) × List Int} {u : Value} (hp : L[k]? = some p) (hu : ws[k]? = some u) : w.cell? ⟨g, k * 3, none⟩ = some (.int .i64 (p.1.1 : Int)) ∧ w.cell? ⟨g, k * 3 + 1, none⟩ = some (.int .i64 (p.1.2 : Int)) ∧ w.cell? ⟨g, k * 3 + 2, none⟩ = some u := by
  obtain ⟨e1, e2, e3⟩ := qc_get _ _ _ _ _ hp hu
  have ea : ∀ j, (⟨g, 0, none⟩ : Addr).add j = ⟨g, j, none⟩ := fun j => by unfold Addr.add; by_cases h : j = 0 <;> simp [h]
  have k1 := World.ownsRow.cells h.own (g := g) rfl _ _ e1
  have k2 := World.ownsRow.cells h.own (g := g) rfl _ _ e2
  have k3 := World.ownsRow.cells h.own (g := g) rfl _ _ e3
  rw [ea] at k1 k2 k3
  exact ⟨k1, k2, k3⟩
end
/-- A plain machine as the walks want it. -/
structure PlOk (w : World) (S T : Nat) (A2 : Option Addr) (n2 : Nat) (A3 : Option Addr) (n3 : Nat) (P : List Int) (E : List Bool) : Prop where
  h2 : SlI w w.heap.size A2 n2 P
  h3 : SlB w w.heap.size A3 n3 E
  hS : 1 ≤ S ∧ S ≤ 64
  hT : 1 ≤ T ∧ T ≤ 4
  hn : n2 = S * T
  hP : ∀ x ∈ P, 0 ≤ x ∧ x < (S : Int)
  hE : n3 = S
theorem PlOk.below {w w' : World} {S T : Nat} {A2 : Option Addr} {n2 : Nat} {A3 : Option Addr} {n3 : Nat} {P : List Int} {E : List Bool} {B : Nat} (h : PlOk w S T A2 n2 A3 n3 P E) (hb : Below B w w') (hB : w.heap.size ≤ B) : PlOk w' S T A2 n2 A3 n3 P E :=
  ⟨(h.h2.below hb hB).more hb.size, (h.h3.below hb hB).more hb.size, h.hS, h.hT, h.hn, h.hP, h.hE⟩
/-- Where a letter leads. -/
def plT (T : Nat) (P : List Int) (s j : Nat) : Nat := (P.getD (s * T + j) 0).toNat
theorem plT_at {S T n2 s j : Nat} {P : List Int} (hn : n2 = S * T) (hl : P.length = n2) (hs : s < S) (hj : j < T) : s * T + j < P.length := by
  have : (s + 1) * T ≤ S * T := Nat.mul_le_mul_right T hs
  rw [Nat.succ_mul] at this
  omega
theorem plT_bd {S T n2 s j : Nat} {P : List Int} (hn : n2 = S * T) (hl : P.length = n2) (hP : ∀ x ∈ P, 0 ≤ x ∧ x < (S : Int)) (hs : s < S) (hj : j < T) : ((plT T P s j : Nat) : Int) = P.getD (s * T + j) 0 ∧ plT T P s j < S := by
  have h := plT_at hn hl hs hj
  have h2 := hP _ (List.getElem_mem h)
  have e : P.getD (s * T + j) 0 = P[s * T + j] := by rw [List.getD_eq_getElem?_getD, List.getElem?_eq_getElem h]; rfl
  unfold plT
  rw [e]
  omega
theorem iToN_any {S T : Nat} {A2 : Option Addr} {n2 : Nat} (c2 : Nat) {A3 : Option Addr} {n3 : Nat} (c3 : Nat) {P : List Int} {E : List Bool} (s j : Nat) (w : World) (h : PlOk w S T A2 n2 A3 n3 P E) (hs : s < S) (hj : j < T) :
    Calls Try.prog 51 #[.agg #[.int .i64 (S : Int), .int .i64 (T : Int), .slice A2 n2 c2, .slice A3 n3 c3], .int .i64 (s : Int), .int .i64 (j : Int)] w fun e w' => e = .returned (.int .i64 ((plT T P s j : Nat) : Int)) ∧ Below w.heap.size w w' := by
  have hl := h.h2.len
  have hi := plT_at h.hn hl hs hj
  have hb := (plT_bd h.hn hl h.hP hs hj).1
  have hS := h.hS; have hT := h.hT
  have hm : S * T ≤ 64 * 4 := Nat.mul_le_mul hS.2 hT.2
  have hn := h.hn
  have e : ((s : Int) * (T : Int) + (j : Int)) = ((s * T + j : Nat) : Int) := by simp
  have C := iTo_any (S : Int) (T : Int) A2 n2 c2 A3 n3 c3 P (s : Int) (j : Int) (s * T + j) w h.h2 e (by omega) (by omega) (by omega) (by omega) (by omega)
  rw [e, Int.toNat_natCast, ← hb] at C
  exact C
end Go.Proofs.Ytbdfbmohdbigfaa
