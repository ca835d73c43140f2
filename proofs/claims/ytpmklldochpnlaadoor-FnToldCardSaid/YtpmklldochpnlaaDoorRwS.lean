/- ReadWords of the reference. -/
import Derived.Test.YtpmklldochpnlaaDoorMga
import Derived.Deep.QuietTactic
import Derived.BigQuiet

namespace Go.Proofs.YtpmklldochpnlaaDoor
open Go.RowKit
set_option linter.unusedVariables false
/-- What both answer. -/
def rwV (t : ByteArray) : Int × Bool := if Lib.index t.data.toList mk9 = -1 then ((go0 (sm t) : Int), (sm t).isSome) else rwS t (Lib.index t.data.toList mk9).toNat
theorem rwV_no {t : ByteArray} (h : Lib.index t.data.toList mk9 = -1) : rwV t = ((go0 (sm t) : Int), (sm t).isSome) := if_pos h
theorem rwV_at {t : ByteArray} {i : Nat} (h : Lib.index t.data.toList mk9 = (i : Int)) : rwV t = rwS t i := by
  rw [rwV, h, if_neg (by omega), Int.toNat_natCast]
theorem rwH_ext (t : ByteArray) (i : Nat) : rwH t i = t.extract 0 i := by
  apply ba_ext; unfold rwH; simp
theorem rwR_ext (t : ByteArray) (i : Nat) : rwR t i = (t.extract (i + 9) t.size).data.toList := (Lib.extract_to_end t (i + 9)).symm
theorem sm_lt (t : ByteArray) : go0 (sm t) < 1000 := by
  cases h : sm t with
  | none => simp [go0]
  | some m => exact (sm_some h).2
theorem list_cons {R : ByteArray} (h : 0 < R.size) : R.data.toList = b8 R 0 :: (R.extract 1 R.size).data.toList := by
  rw [Lib.extract_to_end]
  have h' : 0 < R.data.toList.length := by rw [Array.length_toList]; exact h
  cases hl : R.data.toList with
  | nil => rw [hl] at h'; simp at h'
  | cons c l =>
    have : R.data.toList[0]? = some (R[0]'h) := Lib.data_getElem? R 0 h
    rw [hl] at this
    have e : c = R[0]'h := by simpa using this
    rw [e, get_b8 R 0 h]; rfl
theorem list_nil {R : ByteArray} (h : R.size = 0) : R.data.toList = [] := by
  apply List.eq_nil_of_length_eq_zero; rw [Array.length_toList]; exact h
theorem bl_list (R : ByteArray) : bl R.data.toList = R := by apply ba_ext; simp [bl]
theorem rwS_nil {t : ByteArray} {i : Nat} (h : (t.extract (i + 9) t.size).size = 0) : rwS t i = ((go0 (sm (t.extract 0 i)) : Int) * 1000, (sm (t.extract 0 i)).isSome && decide (0 < go0 (sm (t.extract 0 i)))) := by
  unfold rwS
  rw [rwR_ext, list_nil h, rwH_ext]
theorem rwS_bad {t : ByteArray} {i : Nat} (h : 0 < (t.extract (i + 9) t.size).size) (hc : b8 (t.extract (i + 9) t.size) 0 ≠ 32) : rwS t i = (0, false) := by
  unfold rwS
  rw [rwR_ext, list_cons h]
  show (if _ then _ else _) = _
  rw [if_pos hc]
theorem rwS_two {t R : ByteArray} {i : Nat} (hR : R = t.extract (i + 9) t.size) (h : 0 < R.size) (hc : b8 R 0 = 32) :
    rwS t i = if (sm (t.extract 0 i)).isNone ∨ (sm (R.extract 1 R.size)).isNone ∨ go0 (sm (t.extract 0 i)) = 0 ∨ go0 (sm (R.extract 1 R.size)) = 0 then (0, false) else ((go0 (sm (t.extract 0 i)) : Int) * 1000 + go0 (sm (R.extract 1 R.size)), true) := by
  unfold rwS
  rw [rwR_ext, ← hR, list_cons h, rwH_ext]
  show (if _ then _ else _) = _
  rw [if_neg (fun e => e hc), bl_list]
theorem rwS_two' {t R : ByteArray} {i G G2 : Nat} {S S2 : Bool} (hR : R = t.extract (i + 9) t.size) (h : 0 < R.size) (hc : b8 R 0 = 32)
    (h1 : go0 (sm (t.extract 0 i)) = G) (h2 : (sm (t.extract 0 i)).isSome = S) (h3 : go0 (sm (R.extract 1 R.size)) = G2) (h4 : (sm (R.extract 1 R.size)).isSome = S2) :
    rwS t i = if (S && S2 && decide (0 < G) && decide (0 < G2)) = true then ((G : Int) * 1000 + (G2 : Int), true) else (0, false) := by
  rw [rwS_two hR h hc, h1, h3, ← Option.not_isSome, ← Option.not_isSome, h2, h4]
  cases S <;> cases S2 <;> rcases Nat.eq_zero_or_pos G with e | e <;> rcases Nat.eq_zero_or_pos G2 with e' | e' <;> simp [e, e', Nat.ne_of_gt, Nat.pos_iff_ne_zero.1]
  all_goals first | omega | (intro q; omega) | (rw [if_neg (by omega)]) | skip
theorem thL : thousand.toList = [32, 116, 104, 111, 117, 115, 97, 110, 100] := by rw [ByteArray.toList_eq]; rfl
theorem ret_two {x : Int} {a : Bool} {p : Int × Bool} (h : p = (x, a)) : Ending.returned (.tuple #[.int .i64 x, .bool a]) = Ending.returned (.tuple #[.int .i64 p.1, .bool p.2]) := by rw [h]
end Go.Proofs.YtpmklldochpnlaaDoor
