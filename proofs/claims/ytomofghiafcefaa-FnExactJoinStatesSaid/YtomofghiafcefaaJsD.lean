/- slices.Delete of floats, in the program: at a row of the caller's own. -/
import Derived.Test.YtomofghiafcefaaFiD
import Derived.Lib.SlicesDelete
import Derived.Lib.SliceRun
import Derived.Deep.RegionLaw
import Derived.Deep.DrawnRows
import Derived.Lib.Walk
import Derived.Sort.WalkB12

namespace Go.Proofs.Ytomofghiafcefaa
open Go.RowKit Go.Lib Go.Sort
set_option linter.unusedVariables false
attribute [local go_sem ↓] Go.wp_at_zero Go.wp_at_succ
/-- Numbers laid over a list from a place on. -/
def layF (xs : List F32) (o : Nat) : List F32 → List F32
  | [] => xs
  | v :: vs => layF (xs.set o v) (o + 1) vs
theorem layF_eq : ∀ (vs xs : List F32) (o : Nat), o + vs.length ≤ xs.length → layF xs o vs = xs.take o ++ vs ++ xs.drop (o + vs.length)
  | [], xs, o, h => by simp [layF]
  | v :: vs, xs, o, h => by
    rw [List.length_cons] at h
    rw [layF, layF_eq vs (xs.set o v) (o + 1) (by rw [List.length_set]; omega), List.take_set, List.drop_set_of_lt (by omega)]
    rw [List.take_succ_eq_append_getElem (by omega), List.set_append_right _ _ (by rw [List.length_take]; omega), List.length_take, Nat.min_eq_left (by omega), Nat.sub_self, List.length_cons, show o + 1 + vs.length = o + (vs.length + 1) by omega]
    simp
theorem rwf_setCells {base g n c : Nat} : ∀ (vs xs : List F32) (o : Nat) (w : World), RwF w base g n c xs → o + vs.length ≤ xs.length → RwF (w.setCells g o (fv vs)) base g n c (layF xs o vs)
  | [], xs, o, w, h, hl => h
  | v :: vs, xs, o, w, h, hl => by
    rw [List.length_cons] at hl
    exact rwf_setCells vs (xs.set o v) (o + 1) _ (h.set (by omega) v) (by rw [List.length_set]; omega)
theorem below_setC {B g : Nat} (hg : B ≤ g) : ∀ (vs : List Value) (o : Nat) (w a : World), Below B a w → Below B a (w.setCells g o vs)
  | [], o, w, a, h => h
  | v :: vs, o, w, a, h => below_setC hg vs (o + 1) _ a (h.setCell (p := ⟨g, o, none⟩) hg v)
theorem RwF.take {w : World} {base g n c : Nat} {xs : List F32} (h : RwF w base g n c xs) {m : Nat} (hm : m ≤ n) : RwF w base g m c (xs.take m) := by
  obtain ⟨h1, h2⟩ := h
  rw [fv_length] at h1
  refine ⟨by rw [fv_length, List.length_take]; omega, ?_⟩
  rcases h2 with ⟨e, -⟩ | ⟨g', cap, cur, e, hb, hg, hnc, hmx, hs, ht⟩
  · cases e
  · injection e with e1 _ e3
    injection e1 with e1
    injection e1 with e1 _ _
    subst e1 e3
    refine .inr ⟨g, c, cur, rfl, hb, hg, by omega, hmx, hs, ?_⟩
    rw [Nat.mul_one] at ht ⊢
    have : fv (xs.take m) = (fv xs).take m := by simp [fv, List.map_take]
    rw [this, ← ht, List.take_take, Nat.min_eq_left hm]
theorem RwF.len {w : World} {base g n c : Nat} {xs : List F32} (h : RwF w base g n c xs) : xs.length = n := by have := h.1; rw [fv_length] at this; omega
theorem RwF.cap {w : World} {base g n c : Nat} {xs : List F32} (h : RwF w base g n c xs) : n ≤ c ∧ c ≤ maxLen := by
  obtain ⟨A', c', hv, q1, q2⟩ := own_form h
  injection hv with _ _ e
  subst e
  exact ⟨q1, q2⟩
/-- A list without what stands from i on, up to j. -/
def delF (xs : List F32) (i j : Nat) : List F32 := xs.take i ++ xs.drop j
theorem del_end {xs zs : List F32} {i j : Nat} (hij : i < j) (hj : j ≤ xs.length) (hz : zs.length = xs.length - (i + (xs.length - j))) : (layF (layF xs i (xs.drop j)) (i + (xs.length - j)) zs).take (xs.length - (j - i)) = delF xs i j := by
  have h1 : layF xs i (xs.drop j) = xs.take i ++ xs.drop j ++ xs.drop (i + (xs.length - j)) := by
    rw [layF_eq _ _ _ (by rw [List.length_drop]; omega), List.length_drop]
  have hl : (layF xs i (xs.drop j)).length = xs.length := by rw [h1]; simp; omega
  rw [layF_eq _ _ _ (by rw [hl]; omega), h1]
  have e : xs.length - (j - i) = i + (xs.length - j) := by omega
  have hq : (xs.take i ++ xs.drop j).length = i + (xs.length - j) := by simp; omega
  rw [e, List.take_append_of_le_length (by rw [List.length_append, List.length_take, List.length_append, hq]; omega), List.take_append_of_le_length (by rw [List.length_take, List.length_append, hq]; omega), List.take_take, Nat.min_self, List.take_append_of_le_length (by rw [hq]; omega), List.take_of_length_le (by rw [hq]; omega)]
  rfl
theorem lay_len {xs zs : List F32} {o : Nat} (h : o + zs.length ≤ xs.length) : (layF xs o zs).length = xs.length := by rw [layF_eq _ _ _ h]; simp; omega
set_option maxHeartbeats 4000000 in
set_option maxRecDepth 1000000 in
theorem iDelF_any (base g n c i j : Nat) (xs : List F32) (w : World) (h : RwF w base g n c xs) (hij : i < j) (hj : j ≤ n) :
    Calls Try.prog 43 #[.slice (some ⟨g, 0, none⟩) n c, .int .i64 i, .int .i64 j] w fun e w' => e = .returned (.slice (some ⟨g, 0, none⟩) (n - (j - i)) c) ∧ RwF w' base g (n - (j - i)) c (delF xs i j) ∧ Below base w w' := by
  have hl := h.len
  obtain ⟨hnc, hcm⟩ := h.cap
  unfold maxLen at hcm
  have hbg := h.lt.1
  obtain ⟨i0, hi0, hz0, hz1, hz2⟩ := info_parts infoF32
  obtain ⟨news, hnews⟩ : ∃ news, news = fv (xs.drop j) := ⟨_, rfl⟩
  have hlen : news.length = n - j := by rw [hnews, fv_length, List.length_drop, hl]
  have hget : ∀ t u, news[t]? = some u → ∃ x, xs[j + t]? = some x ∧ u = .float .f32 x.b := by
    intro t u hu
    rw [hnews] at hu
    obtain ⟨x, hx, rfl⟩ := fv_get hu
    rw [List.getElem?_drop] at hx
    exact ⟨x, hx, rfl⟩
  obtain ⟨A, hA, hsrc⟩ : ∃ A : Addr, (if c = j then some (⟨g, 0, none⟩ : Addr) else some ⟨g, j, none⟩) = some A ∧ Hid (∀ t u, news[t]? = some u → w.drew.cell? (A.add t) = some u) := by
    by_cases hcj : c = j
    · refine ⟨⟨g, 0, none⟩, by simp [hcj], fun t u hu => ?_⟩
      have h0 : news.length = 0 := by rw [hlen]; omega
      rw [List.length_eq_zero_iff.1 h0] at hu
      simp at hu
    · refine ⟨⟨g, j, none⟩, by simp [hcj], fun t u hu => ?_⟩
      obtain ⟨x, hx, rfl⟩ := hget t u hu
      rw [Addr.add_lit]
      exact (h.cell hx).1
  have s1 : Hid (news.length = (n - j) * 1) := by show _ = _; rw [Nat.mul_one]; exact hlen
  have s2 : Hid (∀ u ∈ news, u.oneCell' = true) := by rw [hnews]; exact fv_oneF _
  have s3 : Hid (∀ t, t < news.length → (w.drew.cell? ⟨g, 0 + i * 1 + t, none⟩).isSome = true ∧ w.drew.frozen? ⟨g, 0 + i * 1 + t, none⟩ = false) := by
    intro t ht
    rw [hlen] at ht
    have hx : xs[i + t]? = some xs[i + t] := List.getElem?_eq_getElem (by omega)
    have hc := h.cell hx
    rw [Nat.mul_one, Nat.zero_add]
    exact ⟨by show (w.cell? _).isSome = true; rw [hc.1]; rfl, hc.2⟩
  obtain ⟨W1, hW1⟩ : ∃ W1, W1 = w.drew.setCells g (0 + i * 1) news := ⟨_, rfl⟩
  have h1 : RwF W1 base g n c (layF xs i (xs.drop j)) := by
    rw [hW1, hnews, Nat.mul_one, Nat.zero_add]
    exact rwf_setCells _ _ _ _ (show RwF w.drew base g n c xs from own_move h (fun _ _ => rfl)) (by rw [List.length_drop]; omega)
  have b1 : Below base w W1 := by rw [hW1]; exact below_setC hbg _ _ _ _ (Below.drew (Below.refl _ _))
  have hll : (layF xs i (xs.drop j)).length = n := by rw [lay_len (by rw [List.length_drop]; omega), hl]
  have hcl : ∀ ty, (Builtin.clear_ #[22] ty #[.slice (some ⟨g, i + (n - j), none⟩) (n - (i + (n - j))) (c - (i + (n - j)))]).run Try.prog W1 = .ok (.tuple #[]) (W1.setCells g (i + (n - j)) (List.replicate (n - (i + (n - j))) (.float .f32 0))) :=
    fun ty => Lib.run_clear_slice W1 _ _ ty _ Try.underlying22 (fun w => by simp [zeroValue, typeInfo, hi0, hz0]) rfl rfl g (i + (n - j)) _ _ (by omega) (fun t ht => by
      have hx : (layF xs i (xs.drop j))[i + (n - j) + t]? = some (layF xs i (xs.drop j))[i + (n - j) + t] := List.getElem?_eq_getElem (by omega)
      rw [(h1.cell hx).1]; rfl) (fun t ht => by
      have hx : (layF xs i (xs.drop j))[i + (n - j) + t]? = some (layF xs i (xs.drop j))[i + (n - j) + t] := List.getElem?_eq_getElem (by omega)
      exact (h1.cell hx).2)
  have hW : Hid (W1 = w.drew.setCells g (0 + i * 1) news) := hW1
  have hic : i ≤ c := by omega
  have hjc : j ≤ c := by omega
  have H1 := Lib.hid h1; have B1 := Lib.hid b1; have HL := Lib.hid hl; have HLL := Lib.hid hll; have HBG := Lib.hid hbg
  have ne : ¬ i = j := by omega
  clear hW1 h1 b1 h hget hnews hlen hl hll hbg
  go_enter Try.func43, Try.ntmps43
  go_wp2_with fail
  go_region_law (refine step_append_room rfl (.tmp 22) (.tmp 25) 22 rfl 25 i0 1 Try.underlying22 hi0 hz1 g 0 i c (by simp [Act.eval, Act.put]) A (n - j) (c - j) news (by simp [Act.eval, Act.put]) s1.out hsrc.out s2.out (by omega) s3.out ?_; rw [← hW.out])
  go_wp2_with fail
  go_ret
  have e : (List.replicate (n - (i + (n - j))) (Value.float .f32 0)) = fv (List.replicate (n - (i + (n - j))) f0) := by unfold fv; rw [List.map_replicate]; rfl
  refine ⟨by rw [show n - (j - i) = i + (n - j) by omega]; rfl, ?_, ?_⟩
  · rw [e]
    have h2 := rwf_setCells (List.replicate (n - (i + (n - j))) f0) _ (i + (n - j)) _ H1.out (by rw [List.length_replicate, HLL.out]; omega)
    have h3 := h2.take (m := n - (j - i)) (by omega)
    have h4 := del_end (xs := xs) (zs := List.replicate (n - (i + (n - j))) f0) hij (by rw [HL.out]; exact hj) (by rw [List.length_replicate, HL.out])
    rw [HL.out] at h4
    rw [h4] at h3
    exact h3
  · exact below_setC HBG.out _ _ _ _ B1.out
end Go.Proofs.Ytomofghiafcefaa
