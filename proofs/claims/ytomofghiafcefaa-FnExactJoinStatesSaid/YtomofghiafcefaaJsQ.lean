/- What JoinStates tells, plainly. -/
import Derived.Test.YtomofghiafcefaaMgf
import Derived.Test.YtomofghiafcefaaJsC
import Derived.Test.YtomofghiafcefaaMdG

namespace Go.Proofs.Ytomofghiafcefaa
open Go.RowKit
set_option linter.unusedVariables false
def nC : F32 := ⟨953267991, by omega⟩
def gtB (x : F32) : Bool := ordF x.b 0 == some .gt
def jsX (S T : Int) (P Q R : List F32) : List F32 := roL (rsR S T P Q R nC 200)
def jsB (S T : Int) (P Q R : List F32) (i k : Int) : Bool :=
  roB (rsR S T P Q R nC 200) && (inB i 0 (S - 1) && (inB k (i + 1) (S - 1) && gtB (fop .add (atF (jsX S T P Q R) i.toNat) (atF (jsX S T P Q R) k.toNat))))
def jsP (S : Int) (P : List F32) (i k : Int) : List F32 := jpL P S.toNat i.toNat k.toNat
def jsQ (S T : Int) (P Q R : List F32) (i k : Int) : List F32 := jsL Q S.toNat i.toNat k.toNat (atF (jsX S T P Q R) i.toNat) (atF (jsX S T P Q R) k.toNat)
def jsR (S T : Int) (P Q R : List F32) (i k : Int) : List F32 := jrL R S.toNat T.toNat i.toNat k.toNat (atF (jsX S T P Q R) i.toNat) (atF (jsX S T P Q R) k.toNat)
def jsOk (S T : Int) (P Q R : List F32) (i k : Int) : Bool := jsB S T P Q R i k && vdM (S - 1) T (jsP S P i k) (jsQ S T P Q R i k) (jsR S T P Q R i k)
def JsPost (S T : Int) (P Q R : List F32) (i k : Int) (w : World) (e : Ending) (w' : World) : Prop :=
  ∃ v', e = .returned (.tuple #[v', .bool (jsOk S T P Q R i k)]) ∧ MdW w' w.heap.size v' (ckI (jsOk S T P Q R i k) (S - 1)) (ckI (jsOk S T P Q R i k) T) (ckL (jsOk S T P Q R i k) (jsP S P i k)) (ckL (jsOk S T P Q R i k) (jsQ S T P Q R i k)) (ckL (jsOk S T P Q R i k) (jsR S T P Q R i k)) ∧ Below w.heap.size w w'
theorem nil_mdw (w : World) (lo hi : Nat) : MdO w lo hi (.agg #[.int .i64 0, .int .i64 0, .slice none 0 0, .slice none 0 0, .slice none 0 0]) 0 0 [] [] [] := ⟨_, _, _, rfl, OwnV.nil _ _ _ _ _, OwnV.nil _ _ _ _ _, OwnV.nil _ _ _ _ _, fun k hk => by simp [Value.ownBlock] at hk, fun k hk => by simp [Value.ownBlock] at hk, fun k hk => by simp [Value.ownBlock] at hk⟩
theorem JsPost.no {S T : Int} {P Q R : List F32} {i k : Int} {w w' : World} (h : jsB S T P Q R i k = false) (hb : Below w.heap.size w w') : JsPost S T P Q R i k w (.returned (.tuple #[.agg #[.int .i64 0, .int .i64 0, .slice none 0 0, .slice none 0 0, .slice none 0 0], .bool false])) w' := by
  have e : jsOk S T P Q R i k = false := by unfold jsOk; rw [h]; rfl
  unfold JsPost
  rw [e]
  exact ⟨_, rfl, nil_mdw _ _ _, hb⟩
/-- What a rest that is some is worth. -/
theorem rsR_some {S T : Int} {P Q R : List F32} {near : F32} {m : Int} {X : List F32} {K : Nat} (h : rsR S T P Q R near m = some (X, K)) : vdM S T P Q R = true ∧ RsOk X S.toNat := by
  unfold rsR at h
  split at h
  · rename_i hc
    have hb := Bool.and_eq_true_iff.1 hc
    have hm := inB_true (Bool.and_eq_true_iff.1 hb.2).2
    obtain ⟨s, t, rfl, rfl, q1, q2, q3, q4, q5, q6, q7, q8⟩ := vdM_tb hb.1
    refine ⟨hb.1, ?_⟩
    rw [Int.toNat_natCast] at h ⊢
    exact rsF_ok q8 _ _ _ (gd_even q1 q2) (by omega) X K h
  · cases h
theorem roL_nil (w : World) (base : Nat) : roL none = [] := rfl
theorem set5_row {w : World} {g : Nat} {t : TypeId} {a b c d e : Value} (h : Row w g t [a, b, c, d, e]) (u0 u1 u2 u3 u4 : Value) : Row (((((w.setCell ⟨g, 0, none⟩ u0).setCell ⟨g, 1, none⟩ u1).setCell ⟨g, 2, none⟩ u2).setCell ⟨g, 3, none⟩ u3).setCell ⟨g, 4, none⟩ u4) g t [u0, u1, u2, u3, u4] := ((((h.set_ 0 u0).set_ 1 u1).set_ 2 u2).set_ 3 u3).set_ 4 u4
theorem set5_below {a w : World} {B g : Nat} (h : Below B a w) (hg : B ≤ g) (u0 u1 u2 u3 u4 : Value) : Below B a (((((w.setCell ⟨g, 0, none⟩ u0).setCell ⟨g, 1, none⟩ u1).setCell ⟨g, 2, none⟩ u2).setCell ⟨g, 3, none⟩ u3).setCell ⟨g, 4, none⟩ u4) := ((((h.setCell (p := ⟨g, 0, none⟩) hg u0).setCell (p := ⟨g, 1, none⟩) hg u1).setCell (p := ⟨g, 2, none⟩) hg u2).setCell (p := ⟨g, 3, none⟩) hg u3).setCell (p := ⟨g, 4, none⟩) hg u4
/-- A rest in memory: its cells. -/
theorem RowFl.at {w : World} {base : Nat} {v : Value} {X : List F32} (h : RowFl w base v X) (h0 : 0 < X.length) : ∃ g c, v = .slice (some ⟨g, 0, none⟩) X.length c ∧ base ≤ g ∧ g < w.heap.size ∧ ∀ j, j < X.length → w.cell? ⟨g, j, none⟩ = some (.float .f32 (atF X j).b) := by
  obtain ⟨A, c, hv, -, -⟩ := own_form h.1
  subst hv
  obtain ⟨g, rfl, h1, h2, h3, h4⟩ := own_form' h.1 h0
  refine ⟨g, c, rfl, h1, h2, fun j hj => ?_⟩
  have := h4 j _ (fv_at (atF_get hj))
  rw [Nat.zero_add] at this; exact this
end Go.Proofs.Ytomofghiafcefaa
