/- Rows of counts divided by their sums, in the program: slices.Clone of floats, divided. -/
import Derived.Test.YtomofghiafcefaaMge
import Derived.Test.YtomofghiafcefaaStO
import Derived.Deep.LoopGhost

namespace Go.Proofs.Ytomofghiafcefaa
open Go.RowKit
set_option linter.unusedVariables false
theorem of_cell {w : World} {base g n c sz : Nat} {t : TypeId} {X : List Value} (h : w.ownsRow base t sz (.slice (some ⟨g, 0, none⟩) n c) n X) {j : Nat} {u : Value} (hj : X[j]? = some u) : w.cell? ⟨g, j, none⟩ = some u ∧ w.frozen? ⟨g, j, none⟩ = false := by
  have h1 := h.cells (g := g) rfl j u hj
  have ea : (⟨g, 0, none⟩ : Addr).add j = ⟨g, j, none⟩ := by unfold Addr.add; by_cases h : j = 0 <;> simp [h]
  rw [ea] at h1
  refine ⟨h1, ?_⟩
  obtain ⟨_, h2⟩ := h
  rcases h2 with ⟨e, -⟩ | ⟨g', cap, cur, e, hb, hg, hnc, hm, hs, ht⟩
  · cases e
  · injection e with e1 _ e3
    injection e1 with e1
    injection e1 with e1 _ _
    subst e1
    simp [World.frozen?, hg]
theorem of_set {w : World} {base g n c i sz : Nat} {t : TypeId} {X : List Value} {u : Value} (h : w.ownsRow base t sz (.slice (some ⟨g, 0, none⟩) n c) n X) (hi : i < X.length) : (w.setCell ⟨g, i, none⟩ u).ownsRow base t sz (.slice (some ⟨g, 0, none⟩) n c) n (X.set i u) := by
  obtain ⟨h1, h2⟩ := h
  refine ⟨by simpa using h1, ?_⟩
  rcases h2 with ⟨e, -⟩ | ⟨g', cap, cur, e, hb, hg, hnc, hm, hs, ht⟩
  · cases e
  · injection e with e1 _ e3
    injection e1 with e1
    injection e1 with e1 _ _
    subst e1 e3
    refine .inr ⟨g, c, cur.setIfInBounds i u, rfl, hb, ?_, hnc, hm, by simpa using hs, ?_⟩
    · simp [World.setCell, Array.getElem?_modify, hg]
    · rw [Array.toList_setIfInBounds, List.take_set, ht]
theorem of_keep {w w' : World} {base B n sz : Nat} {t : TypeId} {v : Value} {X : List Value} (h : w.ownsRow base t sz v n X) (hb : Below B w w') (hB : w.heap.size ≤ B) : w'.ownsRow base t sz v n X :=
  own_move h fun g hg => hb.block g (Nat.lt_of_lt_of_le (h.lt g hg).2 hB)
theorem fv_oneF (xs : List F32) : ∀ u ∈ fv xs, u.oneCell' = true := by
  intro u hu
  simp only [fv, List.mem_map] at hu
  obtain ⟨x, _, rfl⟩ := hu
  rfl
theorem fv_set (xs : List F32) (i : Nat) (x : F32) : fv (xs.set i x) = (fv xs).set i (.float .f32 x.b) := by unfold fv; rw [List.map_set]
theorem fv_at {xs : List F32} {i : Nat} {x : F32} (h : xs[i]? = some x) : (fv xs)[i]? = some (.float .f32 x.b) := by unfold fv; rw [List.getElem?_map, h]; rfl
/-- A row of floats of the call's own. -/
def RwF (w : World) (base g n c : Nat) (xs : List F32) : Prop := w.ownsRow base 25 1 (.slice (some ⟨g, 0, none⟩) n c) n (fv xs)
theorem RwF.cell {w : World} {base g n c : Nat} {xs : List F32} (h : RwF w base g n c xs) {i : Nat} {x : F32} (hx : xs[i]? = some x) : w.cell? ⟨g, i, none⟩ = some (.float .f32 x.b) ∧ w.frozen? ⟨g, i, none⟩ = false := of_cell h (fv_at hx)
theorem RwF.set {w : World} {base g n c : Nat} {xs : List F32} (h : RwF w base g n c xs) {i : Nat} (hi : i < xs.length) (x : F32) : RwF (w.setCell ⟨g, i, none⟩ (.float .f32 x.b)) base g n c (xs.set i x) := by
  have := of_set (u := .float .f32 x.b) h (i := i) (by rw [fv_length]; exact hi)
  rw [← fv_set] at this
  exact this
theorem RwF.keep {w w' : World} {base g n c B : Nat} {xs : List F32} (h : RwF w base g n c xs) (hb : Below B w w') (hB : w.heap.size ≤ B) : RwF w' base g n c xs := of_keep h hb hB
theorem RwF.lt {w : World} {base g n c : Nat} {xs : List F32} (h : RwF w base g n c xs) : base ≤ g ∧ g < w.heap.size := World.ownsRow.lt h g rfl
theorem RwF.sl {w : World} {base g n c : Nat} {xs : List F32} (h : RwF w base g n c xs) : SlF w w.heap.size (some ⟨g, 0, none⟩) n xs := own_sl h
/-- What stands behind i rows, and behind k numbers of the next row. -/
def stE (cs old : List F32) (l i : Nat) (s : F32) (k : Nat) : List F32 := dvN cs old l i ++ (((rowsF cs l i).take k).map fun x => fop .quo x s) ++ old.drop (i * l + k)
def stD (cs old : List F32) (l i : Nat) : List F32 := dvN cs old l i ++ old.drop (i * l)
section
variable {cs old : List F32} {l r i k : Nat} {s x : F32}
theorem stE_zero : stE cs old l i s 0 = stD cs old l i := by unfold stE stD; simp
theorem rows_drop (hi : i < r) (h : old.length = r * l) : old.drop (i * l) = rowsF old l i ++ old.drop ((i + 1) * l) := by
  unfold rowsF
  rw [Nat.succ_mul, ← List.drop_drop, List.take_append_drop]
theorem stE_step (h : cs.length = r * l) (h' : old.length = r * l) (hi : i < r) (hk : k < l) (hx : (rowsF cs l i)[k]? = some x) : stE cs old l i s (k + 1) = (stE cs old l i s k).set (i * l + k) (fop .quo x s) ∧ i * l + k < (stE cs old l i s k).length := by
  have hl1 := dvN_len h h' (i := i) (by omega)
  have hl2 : (((rowsF cs l i).take k).map fun x => fop .quo x s).length = k := by rw [List.length_map, List.length_take, rowsF_len h hi]; omega
  have hb : (i + 1) * l ≤ r * l := Nat.mul_le_mul_right l hi
  rw [Nat.succ_mul] at hb
  have hd : i * l + k < old.length := by omega
  unfold stE
  constructor
  · obtain ⟨h3, e3⟩ := List.getElem?_eq_some_iff.1 hx
    rw [List.take_succ_eq_append_getElem h3, e3, List.map_append, List.drop_eq_getElem_cons hd, List.set_append_right _ _ (by rw [List.length_append, hl1, hl2]; omega), List.length_append, hl1, hl2, Nat.sub_self, List.set_cons_zero]
    simp [Nat.add_assoc]
  · rw [List.length_append, List.length_append, hl1, hl2, List.length_drop]; omega
theorem stE_all (h : cs.length = r * l) (hi : i < r) (hs : s = fsum (rowsF cs l i)) (hg : gtF0 s = true) : stE cs old l i s l = stD cs old l (i + 1) := by
  unfold stE stD
  rw [dvN, dvR, ← hs, if_pos hg, List.take_of_length_le (by rw [rowsF_len h hi]; exact Nat.le_refl _), Nat.succ_mul]
theorem stD_no (h' : old.length = r * l) (hi : i < r) (hg : gtF0 (fsum (rowsF cs l i)) = false) : stD cs old l (i + 1) = stD cs old l i := by
  unfold stD
  rw [dvN, dvR, if_neg (by rw [hg]; decide), rows_drop hi h', List.append_assoc]
theorem stD_zero : stD cs old l 0 = old := by unfold stD; simp [dvN]
theorem stD_all (h' : old.length = r * l) : stD cs old l r = dvN cs old l r := by unfold stD; rw [List.drop_of_length_le (by omega)]; simp
theorem rowsF_at (h : cs.length = r * l) (hi : i < r) (hk : k < l) : (rowsF cs l i)[k]? = cs[i * l + k]? := by
  unfold rowsF
  rw [List.getElem?_take, if_pos hk, List.getElem?_drop]
theorem rowsF_mem (hx : x ∈ rowsF cs l i) : x ∈ cs := List.mem_of_mem_drop (List.mem_of_mem_take hx)
end
set_option maxRecDepth 100000 in
set_option maxHeartbeats 1000000 in
theorem iCloneF_any (b off n c : Nat) (xs : List F32) (w : World) (h : SlF w w.heap.size (some ⟨b, off, none⟩) n xs) (h0 : 0 < n) (hn : n ≤ 4294967296) :
    Calls Try.prog 42 #[.slice (some ⟨b, off, none⟩) n c] w fun e w' => ∃ g c', e = .returned (.slice (some ⟨g, 0, none⟩) n c') ∧ RwF w' w.heap.size g n c' xs ∧ n ≤ c' ∧ c' ≤ maxLen ∧ Below w.heap.size w w' := by
  have hl := h.len
  have hb0 : Below w.heap.size w (w.alloc (.cells #[] 25)) := (Below.refl _ _).alloc (Nat.le_refl _) _
  have hs := h.below hb0 (Nat.le_refl _)
  have HC : Hid (∀ j u, (fv xs)[j]? = some u → (w.alloc (.cells #[] 25)).cell? ⟨b, off + j, none⟩ = some u) := by
    intro j u hu
    obtain ⟨_, h2⟩ := hs
    obtain ⟨b', off', e, hb, hc⟩ := h2 h0
    injection e with e
    injection e with e1 e2 _
    subst e1 e2
    exact hc j u hu
  have HLN : Hid ((fv xs).length = n * 1) := by show _ = _; rw [fv_length, hl]; omega
  have HO : Hid ((w.alloc (.cells #[] 25)).ownsRow w.heap.size 25 1 (.slice (some ⟨w.heap.size, 0, none⟩) 0 0) 0 []) := World.ownsRow_made w #[] 0 (Nat.le_refl _) (by unfold maxLen; omega) rfl
  have HB0 := Lib.hid hb0
  have hnil := fun w => Lib.run_eql_slice_nil (P := Try.prog) w 22 25 (some ⟨b, off, none⟩) n c 0 0 Try.underlying22
  clear hb0 hs h hl
  go_enter Try.func42, Try.ntmps42
  go_wp2_with (first | (at_builtin; refine wpList_cells_push rfl (.tmp 5) (.tmp 6) _ rfl w.heap.size 25 (.float .f32 0) 1 4 Try.underlying22 infoF32 rfl (by omega) (by omega) (.slice (some ⟨w.heap.size, 0, none⟩) 0 0) 0 [] rfl HO.out b off n c (fv xs) rfl HLN.out HC.out (fv_oneF xs) (by omega) HB0.out.size ?_; intro v' w' hown hgr hat; obtain ⟨A', c', hv', q1, q2⟩ := own_form hown; subst hv'; have HG := Lib.hid (grown_below' HO.out hgr HB0.out.size); have HOW := Lib.hid hown; clear hgr hown hat))
  go_ret
  have h1 := HOW.out
  rw [Nat.zero_add, List.nil_append] at h1
  rw [Nat.zero_add] at q1
  obtain ⟨g, rfl⟩ : ∃ g, A' = some ⟨g, 0, none⟩ := by
    obtain ⟨_, h2⟩ := h1
    rcases h2 with ⟨e, _⟩ | ⟨q, cap, cur, e, _⟩
    · injection e with e1 e2 e3; omega
    · injection e with e1 e2 e3; exact ⟨q, e1⟩
  exact ⟨g, c', rfl, h1, q1, q2, HB0.out.trans HG.out⟩
end Go.Proofs.Ytomofghiafcefaa
