/- Rows of counts divided by their sums, in the program: slices.Clone of floats, divided. -/
import Derived.Test.YtkfmjnefbimecaaFiI
import Derived.Test.YtkfmjnefbimecaaStO
import Derived.Deep.LoopGhost
namespace Go.Proofs.Ytkfmjnefbimecaa
open Go.RowKit
set_option linter.unusedVariables false
theorem of_cell {w : World} {base g n c sz : Nat} {t : TypeId} {X : List Value} (h : w.ownsRow base t sz (.slice (some ⟨g, 0, none⟩) n c) n X) {j : Nat} {u : Value} (hj : X[j]? = some u) : w.cell? ⟨g, j, none⟩ = some u ∧ w.frozen? ⟨g, j, none⟩ = false := by
  have h1 := h.cells (g := g) rfl j u hj
  have ea : (⟨g, 0, none⟩ : Addr).add j = ⟨g, j, none⟩ := by unfold Addr.add; by_cases h : j = 0 <;> simp [h]
  rw [ea] at h1
  refine ⟨h1, ?_⟩
  obtain ⟨_, h2⟩ := h
  rcases h2 with ⟨e, -⟩ | ⟨g', cap, cur, e, hb, hg, hnc, hm, hs, ht⟩
  · cases e
  · injection e with e1 _ e3
    injection e1 with e1
    injection e1 with e1 _ _
    subst e1
    simp [World.frozen?, hg]
theorem of_set {w : World} {base g n c i sz : Nat} {t : TypeId} {X : List Value} {u : Value} (h : w.ownsRow base t sz (.slice (some ⟨g, 0, none⟩) n c) n X) (hi : i < X.length) : (w.setCell ⟨g, i, none⟩ u).ownsRow base t sz (.slice (some ⟨g, 0, none⟩) n c) n (X.set i u) := by
  obtain ⟨h1, h2⟩ := h
  refine ⟨by simpa using h1, ?_⟩
  rcases h2 with ⟨e, -⟩ | ⟨g', cap, cur, e, hb, hg, hnc, hm, hs, ht⟩
  · cases e
  · injection e with e1 _ e3
    injection e1 with e1
    injection e1 with e1 _ _
    subst e1 e3
    refine .inr ⟨g, c, cur.setIfInBounds i u, rfl, hb, ?_, hnc, hm, by simpa using hs, ?_⟩
    · simp [World.setCell, Array.getElem?_modify, hg]
    · rw [Array.toList_setIfInBounds, List.take_set, ht]
theorem of_keep {w w' : World} {base B n sz : Nat} {t : TypeId} {v : Value} {X : List Value} (h : w.ownsRow base t sz v n X) (hb : Below B w w') (hB : w.heap.size ≤ B) : w'.ownsRow base t sz v n X :=
  own_move h fun g hg => hb.block g (Nat.lt_of_lt_of_le (h.lt g hg).2 hB)
theorem fv_oneF (xs : List F32) : ∀ u ∈ fv xs, u.oneCell' = true := by
  intro u hu
  simp only [fv, List.mem_map] at hu
  obtain ⟨x, _, rfl⟩ := hu
  rfl
theorem fv_set (xs : List F32) (i : Nat) (x : F32) : fv (xs.set i x) = (fv xs).set i (.float .f32 x.b) := by unfold fv; rw [List.map_set]
theorem fv_at {xs : List F32} {i : Nat} {x : F32} (h : xs[i]? = some x) : (fv xs)[i]? = some (.float .f32 x.b) := by unfold fv; rw [List.getElem?_map, h]; rfl
/-- A row of floats of the call's own. -/
def RwF (w : World) (base g n c : Nat) (xs : List F32) : Prop := w.ownsRow base 94 1 (.slice (some ⟨g, 0, none⟩) n c) n (fv xs)
theorem RwF.cell {w : World} {base g n c : Nat} {xs : List F32} (h : RwF w base g n c xs) {i : Nat} {x : F32} (hx : xs[i]? = some x) : w.cell? ⟨g, i, none⟩ = some (.float .f32 x.b) ∧ w.frozen? ⟨g, i, none⟩ = false := of_cell h (fv_at hx)
theorem RwF.set {w : World} {base g n c : Nat} {xs : List F32} (h : RwF w base g n c xs) {i : Nat} (hi : i < xs.length) (x : F32) : RwF (w.setCell ⟨g, i, none⟩ (.float .f32 x.b)) base g n c (xs.set i x) := by
  have := of_set (u := .float .f32 x.b) h (i := i) (by rw [fv_length]; exact hi)
  rw [← fv_set] at this
  exact this
theorem RwF.keep {w w' : World} {base g n c B : Nat} {xs : List F32} (h : RwF w base g n c xs) (hb : Below B w w') (hB : w.heap.size ≤ B) : RwF w' base g n c xs := of_keep h hb hB
theorem RwF.lt {w : World} {base g n c : Nat} {xs : List F32} (h : RwF w base g n c xs) : base ≤ g ∧ g < w.heap.size := World.ownsRow.lt h g rfl
theorem RwF.sl {w : World} {base g n c : Nat} {xs : List F32} (h : RwF w base g n c xs) : SlF w w.heap.size (some ⟨g, 0, none⟩) n xs := own_sl h
/-- What stands behind i rows, and behind k numbers of the next row. -/
def stE (cs old : List F32) (l i : Nat) (s : F32) (k : Nat) : List F32 := dvN cs old l i ++ (((rowsF cs l i).take k).map fun x => fop .quo x s) ++ old.drop (i * l + k)
def stD (cs old : List F32) (l i : Nat) : List F32 := dvN cs old l i ++ old.drop (i * l)
section
variable {cs old : List F32} {l r i k : Nat} {s x : F32}
theorem stE_zero : stE cs old l i s 0 = stD cs old l i := by unfold stE stD; simp
theorem rows_drop (hi : i < r) (h : old.length = r * l) : old.drop (i * l) = rowsF old l i ++ old.drop ((i + 1) * l) := by
  unfold rowsF
  rw [Nat.succ_mul, ← List.drop_drop, List.take_append_drop]
theorem stE_step (h : cs.length = r * l) (h' : old.length = r * l) (hi : i < r) (hk : k < l) (hx : (rowsF cs l i)[k]? = some x) : stE cs old l i s (k + 1) = (stE cs old l i s k).set (i * l + k) (fop .quo x s) ∧ i * l + k < (stE cs old l i s k).length := by
  have hl1 := dvN_len h h' (i := i) (by omega)
  have hl2 : (((rowsF cs l i).take k).map fun x => fop .quo x s).length = k := by rw [List.length_map, List.length_take, rowsF_len h hi]; omega
  have hb : (i + 1) * l ≤ r * l := Nat.mul_le_mul_right l hi
  rw [Nat.succ_mul] at hb
  have hd : i * l + k < old.length := by omega
  unfold stE
  constructor
  · obtain ⟨h3, e3⟩ := List.getElem?_eq_some_iff.1 hx
    rw [List.take_succ_eq_append_getElem h3, e3, List.map_append, List.drop_eq_getElem_cons hd, List.set_append_right _ _ (by rw [List.length_append, hl1, hl2]; omega), List.length_append, hl1, hl2, Nat.sub_self, List.set_cons_zero]
    simp [Nat.add_assoc]
  · rw [List.length_append, List.length_append, hl1, hl2, List.length_drop]; omega
theorem stE_all (h : cs.length = r * l) (hi : i < r) (hs : s = fsum (rowsF cs l i)) (hg : gtF0 s = true) : stE cs old l i s l = stD cs old l (i + 1) := by
  unfold stE stD
  rw [dvN, dvR, ← hs, if_pos hg, List.take_of_length_le (by rw [rowsF_len h hi]; exact Nat.le_refl _), Nat.succ_mul]
theorem stD_no (h' : old.length = r * l) (hi : i < r) (hg : gtF0 (fsum (rowsF cs l i)) = false) : stD cs old l (i + 1) = stD cs old l i := by
  unfold stD
  rw [dvN, dvR, if_neg (by rw [hg]; decide), rows_drop hi h', List.append_assoc]
theorem stD_zero : stD cs old l 0 = old := by unfold stD; simp [dvN]
theorem stD_all (h' : old.length = r * l) : stD cs old l r = dvN cs old l r := by unfold stD; rw [List.drop_of_length_le (by omega)]; simp
theorem rowsF_at (h : cs.length = r * l) (hi : i < r) (hk : k < l) : (rowsF cs l i)[k]? = cs[i * l + k]? := by
  unfold rowsF
  rw [List.getElem?_take, if_pos hk, List.getElem?_drop]
theorem rowsF_mem (hx : x ∈ rowsF cs l i) : x ∈ cs := List.mem_of_mem_drop (List.mem_of_mem_take hx)
end
set_option maxRecDepth 100000 in
set_option maxHeartbeats 1000000 in
theorem iCloneF_any (b off n c : Nat) (xs : List F32) (w : World) (h : SlF w w.heap.size (some ⟨b, off, none⟩) n xs) (h0 : 0 < n) (hn : n ≤ 4294967296) :
    Calls Try.prog 133 #[.slice (some ⟨b, off, none⟩) n c] w fun e w' => ∃ g c', e = .returned (.slice (some ⟨g, 0, none⟩) n c') ∧ RwF w' w.heap.size g n c' xs ∧ n ≤ c' ∧ c' ≤ maxLen ∧ Below w.heap.size w w' := by
  have hl := h.len
  have hb0 : Below w.heap.size w (w.alloc (.cells #[] 94)) := (Below.refl _ _).alloc (Nat.le_refl _) _
  have hs := h.below hb0 (Nat.le_refl _)
  have HC : Hid (∀ j u, (fv xs)[j]? = some u → (w.alloc (.cells #[] 94)).cell? ⟨b, off + j, none⟩ = some u) := by
    intro j u hu
    obtain ⟨_, h2⟩ := hs
    obtain ⟨b', off', e, hb, hc⟩ := h2 h0
    injection e with e
    injection e with e1 e2 _
    subst e1 e2
    exact hc j u hu
  have HLN : Hid ((fv xs).length = n * 1) := by show _ = _; rw [fv_length, hl]; omega
  have HO : Hid ((w.alloc (.cells #[] 94)).ownsRow w.heap.size 94 1 (.slice (some ⟨w.heap.size, 0, none⟩) 0 0) 0 []) := World.ownsRow_made w #[] 0 (Nat.le_refl _) (by unfold maxLen; omega) rfl
  have HB0 := Lib.hid hb0
  have hnil := fun w => Lib.run_eql_slice_nil (P := Try.prog) w 42 94 (some ⟨b, off, none⟩) n c 0 0 Try.underlying42
  clear hb0 hs h hl
  go_enter Try.func133, Try.ntmps133
  go_wp2_with (first | (at_builtin; refine wpList_cells_push rfl (.tmp 5) (.tmp 6) _ rfl w.heap.size 94 (.float .f32 0) 1 4 Try.underlying42 infoF32 rfl (by omega) (by omega) (.slice (some ⟨w.heap.size, 0, none⟩) 0 0) 0 [] rfl HO.out b off n c (fv xs) rfl HLN.out HC.out (fv_oneF xs) (by omega) HB0.out.size ?_; intro v' w' hown hgr hat; obtain ⟨A', c', hv', q1, q2⟩ := own_form hown; subst hv'; have HG := Lib.hid (grown_below' HO.out hgr HB0.out.size); have HOW := Lib.hid hown; clear hgr hown hat))
  go_ret
  have h1 := HOW.out
  rw [Nat.zero_add, List.nil_append] at h1
  rw [Nat.zero_add] at q1
  obtain ⟨g, rfl⟩ : ∃ g, A' = some ⟨g, 0, none⟩ := by
    obtain ⟨_, h2⟩ := h1
    rcases h2 with ⟨e, _⟩ | ⟨q, cap, cur, e, _⟩
    · injection e with e1 e2 e3; omega
    · injection e with e1 e2 e3; exact ⟨q, e1⟩
  exact ⟨g, c', rfl, h1, q1, q2, HB0.out.trans HG.out⟩
set_option maxRecDepth 100000 in
set_option maxHeartbeats 4000000 in
theorem iDiv_any (b off n c : Nat) (cs : List F32) (b2 off2 c2 : Nat) (old : List F32) (l r : Nat) (w : World) (h : SlF w w.heap.size (some ⟨b, off, none⟩) n cs) (h' : SlF w w.heap.size (some ⟨b2, off2, none⟩) n old) (hn : n = r * l) (hl : 1 ≤ l ∧ l ≤ 5) (hr : 1 ≤ r ∧ r ≤ 5) (hnc : n ≤ c) (hc : c ≤ maxLen) (hcn : Cnt 300 cs) :
    Calls Try.prog 117 #[.slice (some ⟨b, off, none⟩) n c, .slice (some ⟨b2, off2, none⟩) n c2, .int .i64 l] w fun e w' => ∃ g c', e = .returned (.slice (some ⟨g, 0, none⟩) n c') ∧ RwF w' w.heap.size g n c' (dvN cs old l r) ∧ n ≤ c' ∧ c' ≤ maxLen ∧ Below w.heap.size w w' := by
  have hl1 := h.len; have hl2 := h'.len
  have hm : 1 * 1 ≤ r * l := Nat.mul_le_mul hr.1 hl.1
  have hm2 : r * l ≤ 5 * 5 := Nat.mul_le_mul hr.2 hl.2
  have hcl := iCloneF_any b2 off2 n c2 old w h' (by omega) (by omega)
  have HN := Lib.hid hn
  have hq : (n : Int).tdiv (l : Int) = (r : Int) := by
    rw [hn, Int.natCast_mul, Int.mul_tdiv_cancel _ (by omega)]
  have hw1 : IntKind.i64.wrap (r : Int) = (r : Int) := IntWalk.i64_in _ (by omega)
  have H := Lib.hid h; have HCN := Lib.hid hcn
  have HL1 : Hid (cs.length = r * l) := by show _ = _; omega
  have HL2 : Hid (old.length = r * l) := by show _ = _; omega
  have HLL := Lib.hid hl; have HRR := Lib.hid hr
  have HC : Hid (c ≤ 9223372036854775807) := by unfold maxLen at hc; show _ ≤ _; omega
  have HN25 : Hid (1 ≤ n ∧ n ≤ 25) := by show _ ∧ _; omega
  have hl0 : ¬ (l : Int) = 0 := by omega
  have hl9 : ¬ (l : Int) = -1 := by omega
  clear h h' hl1 hl2 hm hm2 hn hl hr hcn hc
  go_enter Try.func117, Try.ntmps117
  go_wp2_with fail
  refine hcl.mono ?_
  rintro e w1 ⟨g, c', rfl, hr1, q1, q2, hb1⟩
  have hglt := hr1.lt
  have HR1 := Lib.hid hr1; have HB1 := Lib.hid hb1
  have HG : Hid (w.heap.size ≤ g) := hglt.1
  clear hcl hr1 hb1 hglt
  go_wp2_with fail
  go_loopg [8, 9, 10, 11, 12, 19] r (fun q u8 u9 u10 u11 u12 i wr => ∃ k : Nat, i = .int .i64 (k : Int) ∧ k ≤ r ∧ r ≤ q + k ∧ Hid (RwF wr w.heap.size g n c' (stD cs old l k)) ∧ Hid (But g w1 wr))
  case atStart => exact ⟨0, by go_num, by omega, by omega, by show RwF _ _ _ _ _ _; rw [stD_zero]; exact HR1.out, But.refl _ _⟩
  case round =>
    obtain ⟨i, rfl, hi, hq, HR, HB⟩ := hrel
    obtain ⟨wo, rfl⟩ : ∃ x : World, x = wr := ⟨_, rfl⟩
    obtain ⟨go, hgo⟩ : ∃ x : Nat, x = gk := ⟨_, rfl⟩
    by_cases hlt : i < r
    · have hbo : Below w.heap.size w wo := HB1.out.trans (HB.out.below HG.out HB1.out.size)
      obtain ⟨p, hp⟩ : ∃ p, p = i * l := ⟨_, rfl⟩
      have hb5 : p + l ≤ n := by
        have h1 : (i + 1) * l ≤ r * l := Nat.mul_le_mul_right l hlt
        rw [Nat.succ_mul] at h1
        have := HN.out
        omega
      have hrow := iRowOf_any b off n c l i p wo hp hb5 hnc HC.out (by have := HLL.out; omega) (by have := HRR.out; omega) (by have := HLL.out; omega)
      have hsub : SlF wo w.heap.size (some ⟨b, off + p, none⟩) l (rowsF cs l i) := by
        have := (H.out.below hbo (Nat.le_refl _)).sub (p := p) (k := l) hb5
        unfold rowsF
        rw [← hp]
        exact this
      obtain ⟨s, hs⟩ : ∃ s, s = fsum (rowsF cs l i) := ⟨_, rfl⟩
      have hsum := iAddUp_any (some ⟨b, off + p, none⟩) l l (rowsF cs l i) wo w.heap.size hsub (fun x hx => HCN.out.NN x (rowsF_mem hx)) (by have := HLL.out; omega)
      rw [← hs] at hsum
      have HSUB := Lib.hid hsub; have HSM := Lib.hid hsum; have HS := Lib.hid hs; have HP := Lib.hid hp; have HB5 := Lib.hid hb5
      have l0 : (0 : Int) ≤ (i : Int) := by omega
      have l1 : (i : Int) < (r : Int) := by omega
      have lw : IntKind.i64.wrap ((i : Int) + 1) = (i : Int) + 1 := IntWalk.i64_in _ (by have := HRR.out; omega)
      have W1 : IntKind.i64.wrap ((i : Int) * (l : Int)) = (p : Int) := by
        rw [← Int.natCast_mul, ← hp]
        exact IntWalk.i64_in _ (by have := HN25.out; omega)
      clear hsub hsum hs hp hb5 hbo
      go_wp2_with fail
      refine hrow.mono ?_
      rintro e w2 ⟨rfl, hw2⟩
      obtain rfl := hw2
      clear hrow
      go_wp2_with fail
      refine HSM.out.mono ?_
      rintro e w2 ⟨rfl, hw2⟩
      obtain rfl := hw2
      clear HSM
      obtain ⟨gq, hg⟩ : ∃ g, ((FloatKind.format .f32).order s.b 0 == some .gt) = g := ⟨_, rfl⟩
      have HGQ : Hid (gtF0 s = gq) := hg
      cases gq with
      | false =>
        have HNO : Hid (stD cs old l (i + 1) = stD cs old l i) := stD_no HL2.out hlt (by rw [← HS.out]; exact HGQ.out)
        go_wp2_with fail
        go_roundg (gk - 1)
        case measure => omega
        case rel => exact ⟨i + 1, by go_num, by omega, by omega, by show RwF _ _ _ _ _ _; rw [HNO.out]; exact HR.out, HB.out⟩
      | true =>
        go_wp2_with fail
        clear hg
        go_loopg [11, 12, 33] l (fun q u11 u12 j wr => ∃ k : Nat, j = .int .i64 (k : Int) ∧ k ≤ l ∧ l ≤ q + k ∧ Hid (RwF wr w.heap.size g n c' (stE cs old l i s k)) ∧ Hid (But g w1 wr))
        case atStart => exact ⟨0, by go_num, by omega, by omega, by show RwF _ _ _ _ _ _; rw [stE_zero]; exact HR.out, HB.out⟩
        case round =>
          clear HR HB
          obtain ⟨k, rfl, hk, hq2, HR, HB⟩ := hrel
          obtain ⟨wi, rfl⟩ : ∃ x : World, x = wr := ⟨_, rfl⟩
          by_cases hlt2 : k < l
          · have hbi : Below w.heap.size w wi := HB1.out.trans (HB.out.below HG.out HB1.out.size)
            have hsub : SlF wi w.heap.size (some ⟨b, off + p, none⟩) l (rowsF cs l i) := by
              have := (H.out.below hbi (Nat.le_refl _)).sub (p := p) (k := l) HB5.out
              unfold rowsF
              rw [← HP.out]
              exact this
            obtain ⟨b', off', x, hA, _, hx, hc⟩ := hsub.at_ hlt2
            injection hA with hA
            injection hA with e1 e2 _
            subst e1 e2
            obtain ⟨z, hz⟩ : ∃ z, z = fop .quo x s := ⟨_, rfl⟩
            have hop := quo_law (HCN.out.num x (rowsF_mem (List.mem_of_getElem? hx.out))) HGQ.out hz Try.prog
            obtain ⟨hst, hln⟩ := stE_step (s := s) HL1.out HL2.out hlt hlt2 hx.out
            rw [← hz, ← HP.out] at hst
            rw [← HP.out] at hln
            have HST := Lib.hid hst; have HLN := Lib.hid hln
            obtain ⟨kc, kf⟩ := HR.out.cell (gF_some hln)
            have m0 : (0 : Int) ≤ (k : Int) := by omega
            have m1 : (k : Int) < (l : Int) := by omega
            have m2 : (0 : Int) ≤ (p : Int) + (k : Int) := by omega
            have m3 : (p : Int) + (k : Int) < (n : Int) := by have := HB5.out; omega
            have mw : IntKind.i64.wrap ((k : Int) + 1) = (k : Int) + 1 := IntWalk.i64_in _ (by have := HLL.out; omega)
            have W2 : IntKind.i64.wrap ((p : Int) + (k : Int)) = (p : Int) + (k : Int) := IntWalk.i64_in _ (by have := HN25.out; omega)
            clear hst hln hz hsub hx hbi
            go_wp2_with fail
            go_roundg (gk - 1)
            case measure => omega
            case rel => exact ⟨k + 1, by go_num, by omega, by omega, by show RwF _ _ _ _ _ _; rw [HST.out]; exact HR.out.set HLN.out z, HB.out.trans (But.set _ _ _)⟩
          · have hkl : k = l := by omega
            have m1 : ¬ (k : Int) < (l : Int) := by omega
            have HAL : Hid (stE cs old l i s k = stD cs old l (i + 1)) := by show _ = _; rw [hkl]; exact stE_all HL1.out hlt HS.out HGQ.out
            rw [HAL.out] at HR
            clear hkl hlt2
            go_wp2_with fail
            go_roundg (go - 1)
            case measure => omega
            case rel => exact ⟨i + 1, by go_num, by omega, by omega, HR.out, HB.out⟩
    · have hir : i = r := by omega
      have m1 : ¬ (i : Int) < (r : Int) := by omega
      have HAL : Hid (stD cs old l i = dvN cs old l r) := by show _ = _; rw [hir]; exact stD_all HL2.out
      rw [HAL.out] at HR
      clear hir hlt
      go_wp2_with fail
      go_ret
      exact ⟨g, c', rfl, HR.out, q1, q2, HB1.out.trans (HB.out.below HG.out HB1.out.size)⟩
end Go.Proofs.Ytkfmjnefbimecaa
