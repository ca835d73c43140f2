/- Steps applied: both programs. -/
import Derived.Test.YtkfmjnefbimecaaMga
import Derived.Test.YtkfmjnefbimecaaMgb
import Derived.Deep.QuietTactic
import Derived.BigQuiet
import Derived.Lib.Bytealg

namespace Go.Proofs.Ytkfmjnefbimecaa
open Go.RowKit Go.PlainAid
set_option linter.unusedVariables false
def apB (a b s : ByteArray) : Bool := txtB a && txtB b && apRun a b s s.size 0 0 0
def apV (a b s : ByteArray) : ByteArray := if apB a b s then b else ⟨#[]⟩
set_option maxHeartbeats 1000000 in
set_option maxRecDepth 100000 in
theorem slByte (s : ByteArray) (c : Int) (w : World) :
    Calls Try.prog 119 #[.string s, .int .u8 c] w fun e w' => e = .returned (.int .i64 (Lib.indexByte s.data.toList c.toNat.toUInt8)) ∧ w' = w := by
  go_enter Try.func119, Try.ntmps119
  go_wp2
  rw [run_callFunc_extern Try.func136 (by kernel_rfl) (by kernel_rfl) (by kernel_rfl) (e := Extern.BytealgIndexByte.indexByte) (by kernel_rfl), Lib.run_indexByteString]
  simp only [Result.andThen]
  rw [Oper.upon_value]
  go_wp2
  go_ret
  exact ⟨rfl, rfl⟩
theorem byteAny (s : ByteArray) (c : UInt8) (w : World) :
    Calls Try.prog 83 #[.string s, .int .u8 (c.toNat : Int)] w fun e w' => e = .returned (.int .i64 (firstIdx s c)) ∧ w' = w := by
  have hc := Lib.hid (show Lib.indexByte s.data.toList ((c.toNat : Int).toNat).toUInt8 = firstIdx s c by rw [Lib.firstIdx_eq]; simp)
  go_enter Try.func83, Try.ntmps83
  go_wp2_with fail
  refine (slByte _ _ _).mono ?_
  rintro e w' ⟨rfl, hw⟩
  subst hw
  rw [hc.out]
  go_wp2
  go_ret
  exact ⟨rfl, rfl⟩
def stepSet : ByteArray := ⟨#[61, 33, 45, 43]⟩
theorem byteSet (m : Int) (c : UInt8) (v : Int) (hm : m = (c.toNat : Int)) (hv : firstIdx ⟨#[61, 33, 45, 43]⟩ c = v) (w : World) :
    Calls Try.prog 83 #[.string ⟨#[61, 33, 45, 43]⟩, .int .u8 m] w fun e w' => e = .returned (.int .i64 v) ∧ w' = w := by
  subst hm; subst hv
  exact byteAny _ c w
theorem firstIdx_other {c : UInt8} (h1 : c ≠ 61) (h2 : c ≠ 33) (h3 : c ≠ 45) (h4 : c ≠ 43) : firstIdx ⟨#[61, 33, 45, 43]⟩ c = -1 := by
  refine firstIdx_none _ _ (fun b hb e => ?_)
  subst e
  simp at hb
  rcases hb with h | h | h | h
  · exact h1 h
  · exact h2 h
  · exact h3 h
  · exact h4 h
theorem u8ne {c : UInt8} {n : Nat} (hn : n < 256) (h : c ≠ UInt8.ofNat n) : ((c.toNat : Int) == (n : Int)) = false := by
  rw [beq_eq_false_iff_ne]
  intro e
  apply h
  apply UInt8.toNat_inj.1
  rw [UInt8.toNat_ofNat_of_lt' (by simpa using hn)]
  omega
theorem i_eq {x y : Int} (h : x = y) : (x == y) = true := by simp [h]
theorem i_ne {x y : Int} (h : x ≠ y) : (x == y) = false := by simp [h]
theorem i_eqn {x y : Int} (h : x = y) : (x != y) = false := by simp [h]
theorem i_nen {x y : Int} (h : x ≠ y) : (x != y) = true := by simp [h]
theorem b8_inj {x y : UInt8} (h : (x.toNat : Int) = (y.toNat : Int)) : x = y := UInt8.toNat_inj.1 (by omega)
theorem b8_ne {x y : UInt8} (h : x ≠ y) : (x.toNat : Int) ≠ (y.toNat : Int) := fun e => h (b8_inj e)
end Go.Proofs.Ytkfmjnefbimecaa
