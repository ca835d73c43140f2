/- Features shifted, plainly. -/
import Derived.Test.YtcmnhnapnnpbdaaFeP
import Derived.Test.YtcmnhnapnnpbdaaLong
namespace Go.Proofs.Ytcmnhnapnnpbdaa
set_option linter.unusedVariables false
/-- The place of v, or x. -/
def sfN : List Int → Int → Nat → Int → Int
  | [], _, _, x => x
  | f :: fs, v, o, x => if f = v then (o : Int) else sfN fs v (o + 1) x
theorem sfN_not {v x : Int} : ∀ {fs : List Int} {o : Nat}, v ∉ fs → sfN fs v o x = x
  | [], o, _ => rfl
  | f :: fs, o, h => by
    rw [sfN, if_neg (fun e => h (by rw [e]; simp)), sfN_not (fun h' => h (List.mem_cons_of_mem _ h'))]
theorem sfN_at {v x : Int} : ∀ {fs : List Int} {o q : Nat}, fs[q]? = some v → v ∉ fs.take q → sfN fs v o x = ((o + q : Nat) : Int)
  | [], o, q, h, _ => by simp at h
  | f :: fs, o, 0, h, _ => by
    have : f = v := by simpa using h
    rw [sfN, if_pos this]; simp
  | f :: fs, o, q + 1, h, hn => by
    have h1 : fs[q]? = some v := by simpa using h
    have h2 : f ≠ v := fun e => hn (by rw [e]; simp)
    have h3 : v ∉ fs.take q := fun h' => hn (by rw [List.take_succ_cons]; exact List.mem_cons_of_mem _ h')
    rw [sfN, if_neg h2, sfN_at h1 h3]
    omega
theorem nodup_fst {fs : List Int} {q : Nat} {v : Int} (hd : fs.Nodup) (h : fs[q]? = some v) : v ∉ fs.take q := fun hm => nodup_no h hm hd
def goal (set clear f : Int) : Int := bits .andNot .i64 (bits .or .i64 f set) clear
def shV (fs : List Int) (need set clear x : Int) : Int :=
  if (bits .and .i64 (fs.getD x.toNat 0) need == need) = true then sfN fs (goal set clear (fs.getD x.toNat 0)) 0 x else x
def shB (fs ws : List Int) (need set clear : Int) : Bool := feB fs && (longB ws (fs.length : Int) && (inB need 0 255 && (inB set 0 255 && inB clear 0 255)))
def sfL (fs ws : List Int) (need set clear : Int) : List Int := ws.map (shV fs need set clear)
def sfM (fs ws : List Int) (need set clear : Int) (k : Nat) : List Int := (ws.take k).map (shV fs need set clear) ++ ws.drop k
theorem sfM_zero (fs ws : List Int) (need set clear : Int) : sfM fs ws need set clear 0 = ws := by simp [sfM]
theorem sfM_end (fs ws : List Int) (need set clear : Int) : sfM fs ws need set clear ws.length = sfL fs ws need set clear := by simp [sfM, sfL]
theorem sfM_len (fs ws : List Int) (need set clear : Int) {k : Nat} (hk : k ≤ ws.length) : (sfM fs ws need set clear k).length = ws.length := by simp [sfM]; omega
theorem sfM_set {fs ws : List Int} {need set clear x y : Int} {k : Nat} (hx : ws[k]? = some x) (hy : shV fs need set clear x = y) : (sfM fs ws need set clear k).set k y = sfM fs ws need set clear (k + 1) := by
  obtain ⟨hk, rfl⟩ := List.getElem?_eq_some_iff.1 hx
  have hl : ((ws.take k).map (shV fs need set clear)).length = k := by simp; omega
  rw [sfM, sfM, take_snoc hx, List.map_append, List.set_append_right _ _ (by rw [hl]; exact Nat.le_refl _), hl, Nat.sub_self, List.drop_eq_getElem_cons hk, List.set_cons_zero]
  simp [hy]
theorem sfM_same {fs ws : List Int} {need set clear x : Int} {k : Nat} (hx : ws[k]? = some x) (hy : shV fs need set clear x = x) : sfM fs ws need set clear k = sfM fs ws need set clear (k + 1) := by
  rw [← sfM_set hx hy]
  obtain ⟨hk, rfl⟩ := List.getElem?_eq_some_iff.1 hx
  have hl : ((ws.take k).map (shV fs need set clear)).length = k := by simp; omega
  rw [sfM, List.set_append_right _ _ (by rw [hl]; exact Nat.le_refl _), hl, Nat.sub_self, List.drop_eq_getElem_cons hk, List.set_cons_zero]
theorem sfL_take {fs ws : List Int} {need set clear x : Int} {k : Nat} (hx : ws[k]? = some x) : sfL fs (ws.take (k + 1)) need set clear = sfL fs (ws.take k) need set clear ++ [shV fs need set clear x] := by
  rw [sfL, sfL, take_snoc hx, List.map_append]; rfl
theorem shV_no {fs : List Int} {need set clear x f : Int} {q : Nat} (hq : x = (q : Int)) (hf : fs[q]? = some f) (h : (bits .and .i64 f need == need) = false) : shV fs need set clear x = x := by
  have : fs.getD x.toNat 0 = f := by rw [hq, Int.toNat_natCast, List.getD_eq_getElem?_getD, hf]; rfl
  rw [shV, this, h]; rfl
theorem shV_yes {fs : List Int} {need set clear x f : Int} {q : Nat} (hq : x = (q : Int)) (hf : fs[q]? = some f) (h : (bits .and .i64 f need == need) = true) : shV fs need set clear x = sfN fs (goal set clear f) 0 x := by
  have : fs.getD x.toNat 0 = f := by rw [hq, Int.toNat_natCast, List.getD_eq_getElem?_getD, hf]; rfl
  rw [shV, this, if_pos h]
end Go.Proofs.Ytcmnhnapnnpbdaa
