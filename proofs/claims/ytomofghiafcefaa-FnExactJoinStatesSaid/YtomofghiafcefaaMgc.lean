/- Several texts in one: Small words that many texts want. Rows of the call's own: what is stored into them, what is appended to them as a whole. -/
import Derived.Test.YtomofghiafcefaaMem
import Derived.Test.YtomofghiafcefaaMga
import Derived.Test.YtomofghiafcefaaTxtB
import Derived.Deep.LoopGhost
import Derived.Deep.QuietTactic
import Derived.BigQuiet
import Derived.Test.YtomofghiafcefaaTab
import Derived.Maps.AppendAt
import Derived.Deep.Onto

namespace Go.Proofs.Ytomofghiafcefaa
open Go.RowKit
set_option linter.unusedVariables false
theorem quietL {P : Program} {f : FuncId} {args : Array Value} {w : World} {n : Nat} {v : Value}
    (h : Calls P f args (w.drewN n) fun e w' => e = .returned v ∧ w.drewN n = w') : Calls P f args (w.drewN n) fun e w'' => e = .returned v ∧ ∃ m, w'' = w.drewN m :=
  h.mono fun _ _ ⟨he, hm⟩ => ⟨he, n, hm.symm⟩
theorem infoQ : (Try.prog.info? 2).map (fun i => (i.zero, i.size, i.bytes)) = some (some (.int .i64 0), 1, 8) := by kernel_rfl
theorem allT {α : Type} {p : α → Bool} {L : List α} {k : Nat} {a : α} (h : (L.take k).all p = true) (ha : L[k]? = some a) (hp : p a = true) : (L.take (k + 1)).all p = true := by
  obtain ⟨hk, rfl⟩ := List.getElem?_eq_some_iff.1 ha
  rw [List.take_succ_eq_append_getElem hk, List.all_append, h]
  simp [hp]
theorem allN {α : Type} {p : α → Bool} {L : List α} {k : Nat} {a : α} (ha : L[k]? = some a) (hp : p a = false) : L.all p = false := by
  rw [List.all_eq_false]
  exact ⟨a, List.mem_of_getElem? ha, by simp [hp]⟩
end Go.Proofs.Ytomofghiafcefaa


namespace Go.Proofs.Ytomofghiafcefaa
open Go.RowKit
set_option linter.unusedVariables false
theorem RowI.open {w : World} {base g c n : Nat} {t : TypeId} {r : List Int} (h : RowI w base t (.slice (some ⟨g, 0, none⟩) n c) r) : ∃ vs, Row w g t vs ∧ vs.take r.length = iv r ∧ vs.length = c ∧ c ≤ maxLen ∧ r.length = n ∧ n ≤ c ∧ base ≤ g := by
  obtain ⟨h1, h2⟩ := h
  rcases h2 with ⟨e, _⟩ | ⟨g', cap, cur, e, hb, hg, hn, hm, hs, ht⟩
  · cases e
  · injection e with e1 e2 e3
    injection e1 with e1
    injection e1 with e1 _ _
    subst e1
    refine ⟨cur.toList, by unfold Row; rw [Array.toArray_toList]; exact hg, by rw [← ht, Nat.mul_one], ?_, by omega, by omega, by omega, hb⟩
    rw [Array.length_toList, hs]; omega
theorem RowI.frozen {w : World} {base g c n : Nat} {t : TypeId} {r : List Int} (h : RowI w base t (.slice (some ⟨g, 0, none⟩) n c) r) (k : Nat) : w.frozen? ⟨g, k, none⟩ = false := by
  obtain ⟨vs, hr, _⟩ := h.open; exact hr.frozen k
theorem RowI.cell {w : World} {base g c n : Nat} {t : TypeId} {r : List Int} (h : RowI w base t (.slice (some ⟨g, 0, none⟩) n c) r) {k : Nat} {x : Int} (hx : r[k]? = some x) : w.cell? ⟨g, k, none⟩ = some (.int .i64 x) := by
  obtain ⟨vs, hr, ht, _⟩ := h.open
  have hk := (List.getElem?_eq_some_iff.1 hx).1
  rw [hr.cell, ← List.getElem?_take_of_lt hk, ht, iv, List.getElem?_map, hx]; rfl
theorem RowI.set {w : World} {base g c n : Nat} {t : TypeId} {r : List Int} (h : RowI w base t (.slice (some ⟨g, 0, none⟩) n c) r) (k : Nat) (x : Int) : RowI (w.setCell ⟨g, k, none⟩ (.int .i64 x)) base t (.slice (some ⟨g, 0, none⟩) n c) (r.set k x) := by
  obtain ⟨vs, hr, ht, hl, hm, hn, hnc, hb⟩ := h.open
  have hr' := hr.set_ k (.int .i64 x)
  have hlen : (r.set k x).length = n := by rw [List.length_set]; exact hn
  refine ⟨by rw [iv_length]; omega, .inr ⟨g, c, (vs.set k (.int .i64 x)).toArray, by rw [hlen], hb, hr', by omega, hm, by simp [hl], ?_⟩⟩
  rw [List.toList_toArray, List.take_set, hlen, Nat.mul_one, ← hn, ht, iv, iv, List.map_set]
/-- 'v = append(v, list...)'. -/
theorem wpList_ints_push {P : Program} {w0 : World} {ops : Array Oper} {rest : List Oper} {o : Oper} {a : Act} {Q : Exit → Act → World → Prop} (hgd : o.guard = none) (s x : Operand) (t : TypeId)
    (ho : o.op = .call { callee := .builtin .append, args := #[s, x], argTypes := #[t, t] })
    (base : Nat) (e : TypeId) (ht : P.underlying t = some (.slice e)) (hinfo : (P.info? e).map (fun i => (i.zero, i.size, i.bytes)) = some (some (.int .i64 0), 1, 8))
    (v : Value) (r : List Int) (hs : a.eval s = v) (hown : RowI w0 base e v r)
    (b off m c B : Nat) (ys : List Int) (hx : a.eval x = .slice (some ⟨b, off, none⟩) m c) (hsl : SlI w0 B (some ⟨b, off, none⟩) m ys) (hn : r.length + m ≤ 4294967296) (hbase : base ≤ w0.heap.size)
    (h : ∀ v' w', RowI w' base e v' (r ++ ys) → Below base w0 w' → wpList P ops Q rest (a.put o.dst v') w') :
    wpList P ops Q (o :: rest) a w0 := by
  obtain ⟨i, hi, hz, hsz, hb⟩ := info_parts hinfo
  have hl := hsl.len
  refine wpList_append_own_at (w := w0) hgd s x t ho base e i (.int .i64 0) 1 8 ht hi hz hsz hb rfl (by omega) v r.length (iv r) hs hown ⟨b, off, none⟩ m c (iv ys) hx (by rw [iv_length]; omega) ?_ (iv_one ys) (by unfold maxLen; omega) (by omega) hbase ?_
  · intro j u hu
    have hj : j < m := by
      have := (List.getElem?_eq_some_iff.1 hu).1
      rw [iv_length] at this; omega
    obtain ⟨y, hy, rfl⟩ := iv_get hu
    obtain ⟨b', off', y', he, _, hy', hc⟩ := hsl.at_ hj
    have e2 := Option.some.inj he
    injection e2 with e3 e4 _
    subst e3 e4
    rw [hy'.out] at hy
    rw [← Option.some.inj hy]
    have ea : (⟨b, off, none⟩ : Addr).add j = ⟨b, off + j, none⟩ := by unfold Addr.add; by_cases h : j = 0 <;> simp [h]
    rw [ea]; exact hc
  · intro v' w' hown' hg _ _
    refine h v' w' ?_ (grown_below hown hg hbase)
    show w'.ownsRow base e 1 _ (r ++ ys).length (iv (r ++ ys))
    rw [iv_append, List.length_append, hl]
    exact hown'
end Go.Proofs.Ytomofghiafcefaa
