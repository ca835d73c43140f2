/- Several texts in one: Rows of floats that a call handed out: equality, and what marks leave of them. RestOfModel of both programs, as the law wants it. -/
import Derived.Test.YtomofghiafcefaaMrF32
import Derived.Test.YtomofghiafcefaaMgb
import Derived.Test.YtomofghiafcefaaFl
import Derived.Test.YtomofghiafcefaaRsS

namespace Go.Proofs.Ytomofghiafcefaa
open Go.RowKit
set_option linter.unusedVariables false
def RowF (w : World) (base : Nat) (v : Value) (r : List F32) : Prop := w.ownsRow base 25 1 v r.length (fv r)
theorem RowF.keep {w w' : World} {base B : Nat} {v : Value} {r : List F32} (h : RowF w base v r) (hb : Below B w w') (hB : w.heap.size ≤ B) : RowF w' base v r :=
  World.ownsRow.kept (row := none) h ⟨hb.os, hb.tape, hb.output, hb.size, fun k hk _ => hb.block k (by omega)⟩ (by cases v.ownBlock <;> simp)
theorem RowF.kp {w w' : World} {base lo hi : Nat} {v : Value} {r : List F32} (h : RowF w base v r) (hb : Kp lo hi w w') (hg : hi ≤ base) : RowF w' base v r := by
  obtain ⟨h1, h2⟩ := h
  refine ⟨h1, ?_⟩
  rcases h2 with h2 | ⟨g', cap, cur, e, hb', hg', rest⟩
  · exact .inl h2
  · exact .inr ⟨g', cap, cur, e, hb', (hb.2.2.2.2 g' (Array.getElem?_eq_some_iff.1 hg').1 (.inr (by omega))).trans hg', rest⟩
theorem eqOwnF (v v' : Value) (r : List F32) (b b' : Nat) (w : World) (h : RowF w b v r) (h' : RowF w b' v' r) (hn : r.length ≤ 4294967296) :
    Calls Try.prog 9 #[v, v'] w fun e w' => e = .returned (.bool true) ∧ Below w.heap.size w w' := by
  obtain ⟨A, c, rfl, _, _⟩ := own_form h
  obtain ⟨A', c', rfl, _, _⟩ := own_form h'
  exact eqFloat32S_same A r.length c A' c' r w (own_sl h) (own_sl h') hn
def MarkedF (w : World) (v : Value) (k : Int) (n : Nat) : Prop := Mkd mkf w 1 v n k
theorem MarkedF.below {w w' : World} {v : Value} {k : Int} {n B : Nat} (h : MarkedF w v k n) (hb : Below B w w') (hB : w.heap.size ≤ B) : MarkedF w' v k n := Mkd.below h hb hB
theorem markOwnF (base : Nat) (v : Value) (r : List F32) (k : Int) (w : World) (h : RowF w base v r) (hb : base ≤ w.heap.size) (hn : r.length ≤ 1048576) (hk0 : 0 ≤ k) (hk1 : k ≤ 1000000000) :
    Calls Try.prog 12 #[v, .int .i64 k] w fun e w' => e = .returned (.int .i64 (k + r.length)) ∧ MarkedF w' v k r.length ∧ Below base w w' := by
  refine (markVFloat32S base w.heap.size v r.length (fv r) k w (OwnV.of h) hn hk0 hk1).mono ?_
  rintro e w' ⟨rfl, hm, hg⟩
  exact ⟨rfl, hm, (Below.refl base w).grown hg hb fun k hk => (h.lt k hk).1⟩
theorem heldOwnF (v : Value) (n : Nat) (k : Int) (w : World) (h : MarkedF w v k n) (hn : n ≤ 1048576) (hk0 : 0 ≤ k) (hk1 : k ≤ 1000000000) :
    Calls Try.prog 13 #[v, .int .i64 k] w fun e w' => e = .returned (.int .i64 (k + n)) ∧ w = w' := heldVFloat32S v n k w h hn hk0 hk1
end Go.Proofs.Ytomofghiafcefaa


namespace Go.Proofs.Ytomofghiafcefaa
open Go.RowKit
set_option linter.unusedVariables false
theorem rsF_len {Q : List F32} {s : Nat} {near : F32} : ∀ (m : Nat) (row : List F32) (n : Nat), (roL (rsF Q s near m row n)).length ≤ s
  | 0, row, n => Nat.zero_le _
  | m + 1, row, n => by
    rw [rsF]
    split
    · show (nxL Q s row).length ≤ s
      rw [nxL_len]; exact Nat.le_refl _
    · exact rsF_len m _ _
theorem roL_len (S T : Int) (P Q R : List F32) (near : F32) (m : Int) : (roL (rsR S T P Q R near m)).length ≤ 1048576 := by
  unfold rsR
  split
  · rename_i h
    obtain ⟨s, t, rfl, rfl, q1, q2, -⟩ := vdM_tb (Bool.and_eq_true_iff.1 h).1
    have := rsF_len (Q := Q) (s := s) (near := near) m.toNat (evR s s) 0
    rw [Int.toNat_natCast]; omega
  · exact Nat.zero_le _
theorem iRestL_any (v : Value) (S T : Int) (P Q R : List F32) (near : F32) (m : Int) (w : World) (h : Md w w.heap.size v S T P Q R) (hcap : capOk v) :
    Calls Try.prog 8 #[v, .float .f32 near.b, .int .i64 m] w fun e w' => ∃ v, e = .returned (.tuple #[v, .int .i64 (roK (rsR S T P Q R near m)), .bool (roB (rsR S T P Q R near m))]) ∧ RowF w' w.heap.size v (roL (rsR S T P Q R near m)) ∧ Below w.heap.size w w' :=
  (iRest_any v S T P Q R near m w h hcap).mono fun e w' ⟨v, h1, h2, h3⟩ => ⟨v, h1, h2.1, h3⟩
theorem sRestL_any (v : Value) (S T : Int) (P Q R : List F32) (near : F32) (m : Int) (w : World) (h : Md w w.heap.size v S T P Q R) (hcap : capOk v) :
    Calls Try.prog 6 #[v, .float .f32 near.b, .int .i64 m] w fun e w' => ∃ v, e = .returned (.tuple #[v, .int .i64 (roK (rsR S T P Q R near m)), .bool (roB (rsR S T P Q R near m))]) ∧ RowF w' w.heap.size v (roL (rsR S T P Q R near m)) ∧ Below w.heap.size w w' :=
  (sRest_any v S T P Q R near m w h hcap).mono fun e w' ⟨v, h1, h2, h3⟩ => ⟨v, h1, h2.1, h3⟩
end Go.Proofs.Ytomofghiafcefaa
