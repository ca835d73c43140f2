/- Lists of truth values, as the laws' helpers copy and compare them. -/
import Derived.Test.YtchacfienafhlaaMem
import Derived.Test.YtchacfienafhlaaTxt
import Derived.Test.YtchacfienafhlaaMk
import Derived.Deep.QuietTactic
import Derived.BigQuiet
namespace Go.Proofs.Ytchacfienafhlaa
open Go.RowKit
set_option linter.unusedVariables false
def bv (xs : List Bool) : List Value := xs.map .bool
def SlB (w : World) (B : Nat) (A : Option Addr) (n : Nat) (xs : List Bool) : Prop := SlV w B A n (bv xs)
theorem bv_length (xs : List Bool) : (bv xs).length = xs.length := by simp [bv]
theorem bv_append (xs ys : List Bool) : bv (xs ++ ys) = bv xs ++ bv ys := by simp [bv]
theorem bv_get {xs : List Bool} {k : Nat} {u : Value} (h : (bv xs)[k]? = some u) : ∃ x, xs[k]? = some x ∧ u = .bool x := by
  simp only [bv, List.getElem?_map, Option.map_eq_some_iff] at h
  obtain ⟨x, hx, rfl⟩ := h
  exact ⟨x, hx, rfl⟩
theorem bv_take {xs : List Bool} {k : Nat} {x : Bool} (hx : xs[k]? = some x) : bv (xs.take (k + 1)) = bv (xs.take k) ++ [.bool x] := by
  obtain ⟨hk, rfl⟩ := List.getElem?_eq_some_iff.1 hx
  rw [List.take_succ_eq_append_getElem hk, bv_append]; rfl
section
variable {w w' : World} {B B' n : Nat} {A : Option Addr} {xs : List Bool}
theorem SlB.len (h : SlB w B A n xs) : xs.length = n := by have := SlV.len h; simpa [bv] using this
theorem SlB.at_ {k : Nat} (h : SlB w B A n xs) (hk : k < n) :
    ∃ b off x, A = some ⟨b, off, none⟩ ∧ b < B ∧ Hid (xs[k]? = some x) ∧ w.cell? ⟨b, off + k, none⟩ = some (.bool x) := by
  obtain ⟨b, off, u, e, hb, hu, hc⟩ := SlV.at_ h hk
  obtain ⟨x, hx, rfl⟩ := bv_get hu
  exact ⟨b, off, x, e, hb, hx, hc⟩
theorem SlB.below (h : SlB w B A n xs) (hb : Below B' w w') (hB : B ≤ B') : SlB w' B A n xs := SlV.below h hb hB
theorem SlB.more (h : SlB w B A n xs) (hB : B ≤ B') : SlB w B' A n xs := SlV.more h hB
theorem Row.slB {g : Nat} {t : TypeId} (h : Row w g t (bv xs)) : SlB w w.heap.size (some ⟨g, 0, none⟩) xs.length xs := by
  have := h.sl; rw [bv_length] at this; exact this
end
theorem infoBool : (Try.prog.info? 4).map (fun i => (i.zero, i.size, i.bytes)) = some (some (.bool false), 1, 1) := by kernel_rfl
theorem szBoolS_any (A : Option Addr) (n c : Nat) (left : Int) (w : World) (h0 : 0 ≤ left) (h1 : left ≤ 1048576) (hn : n ≤ 9223372036854775807) :
    Calls Try.prog 55 #[.slice A n c, .int .i64 left] w fun e w' => ∃ z : Int, e = .returned (.int .i64 z) ∧ -1 ≤ z ∧ z ≤ 1048576 ∧ (0 ≤ z → n ≤ 1048576) ∧ w = w' := by
  have w1 : IntKind.i64.wrap (left - (n : Int)) = left - (n : Int) := IntWalk.i64_in _ (by omega)
  by_cases hb : left - (n : Int) < 0
  · go_enter Try.func55, Try.ntmps55
    go_wp2_with fail
    go_ret
    exact ⟨-1, rfl, by omega, by omega, fun h => by omega, rfl⟩
  · have hb' : (0 : Int) ≤ left - (n : Int) := by omega
    clear hb
    go_enter Try.func55, Try.ntmps55
    go_wp2_with fail
    go_ret
    exact ⟨left - (n : Int), rfl, by omega, by omega, fun h => by omega, rfl⟩
set_option maxHeartbeats 400000 in
theorem toBoolS_any (A : Option Addr) (n c : Nat) (xs : List Bool) (w : World) (h : SlB w w.heap.size A n xs) (hn : n ≤ 4294967296) :
    Calls Try.prog 60 #[.slice A n c] w fun e w' => ∃ g, e = .returned (.slice (some ⟨g, 0, none⟩) n n) ∧ w.heap.size ≤ g ∧ Row w' g 4 (bv xs) ∧ Below w.heap.size w w' := by
  have hl := Lib.hid h.len
  have H := Lib.hid h; clear h
  have hmk := run_make_row' (P := Try.prog) 28 4 (.bool false) 1 Try.underlying28 infoBool rfl .i64 .i64 n (by omega) (by omega)
  go_enter Try.func60, Try.ntmps60
  go_wp2_with fail
  clear hmk
  go_loopw [4] (fun i wr => ∃ k : Nat, k ≤ n ∧ i = .int .i64 k ∧ Row wr w.heap.size 4 (fill (bv (xs.take k)) n (.bool false)) ∧ Below w.heap.size w wr) (fun i wr => n - (intOf i).toNat)
  case atStart => exact ⟨0, by omega, rfl, by rw [List.take_zero, show bv [] = [] from rfl, fill_nil]; exact Row.made _ _ _ _, (Below.refl _ _).alloc (Nat.le_refl _) _⟩
  case round =>
    obtain ⟨k, hk, rfl, hr, hb⟩ := hrel
    have HR := Lib.hid hr; clear hr
    by_cases hlt : k < n
    · obtain ⟨b, off, x, rfl, hbB, hx, hc⟩ := (H.out.below hb (Nat.le_refl _)).at_ hlt
      have hlen : Hid ((bv (xs.take k)).length = k) := by show _ = k; rw [bv_length, List.length_take, hl.out]; omega
      have hc2 : wr.cell? ⟨w.heap.size, k, none⟩ = some (.bool false) := by rw [HR.out.cell, fill_at hlen.out hlt]
      have hf2 := HR.out.frozen k
      go_wp2_with fail
      go_roundw
      case rel => exact ⟨k + 1, by omega, by go_num, by rw [bv_take hx.out, ← fill_set hlen.out hlt]; exact HR.out.set_ _ _, hb.setCell (Nat.le_refl _) _⟩
      case measure => simp [intOf]; omega
    · obtain rfl : n = k := by omega
      go_wp2_with fail
      go_ret
      refine ⟨_, rfl, Nat.le_refl _, ?_, hb⟩
      have := HR.out
      rw [take_all hl.out, fill_full (by rw [bv_length, hl.out])] at this
      exact this
set_option maxHeartbeats 400000 in
theorem eqBoolS_same (A : Option Addr) (n c : Nat) (A' : Option Addr) (c' : Nat) (xs : List Bool) (w : World) {B B' : Nat} (h : SlB w B A n xs) (h' : SlB w B' A' n xs) (hn : n ≤ 4294967296) :
    Calls Try.prog 51 #[.slice A n c, .slice A' n c'] w fun e w' => e = .returned (.bool true) ∧ Below w.heap.size w w' := by
  have H := Lib.hid h; clear h
  have H' := Lib.hid h'; clear h'
  go_enter Try.func51, Try.ntmps51
  go_wp2_with fail
  go_loopw [5] (fun i wr => ∃ k : Nat, k ≤ n ∧ i = .int .i64 k ∧ ∃ q, wr = w.drewN q) (fun i wr => n - (intOf i).toNat)
  case atStart => exact ⟨0, by omega, rfl, 0, rfl⟩
  case round =>
    obtain ⟨k, hk, rfl, q, rfl⟩ := hrel
    by_cases hlt : k < n
    · obtain ⟨b, off, x, rfl, hbB, hx, hc⟩ := H.out.at_ hlt
      obtain ⟨b', off', y, rfl, hbB', hy, hc'⟩ := H'.out.at_ hlt
      obtain rfl : x = y := by have h1 := hx.out; rw [hy.out] at h1; exact (Option.some.inj h1).symm
      have hi0 : (0 : Int) ≤ (k : Int) := by omega
      have hi1 : (k : Int) < (n : Int) := by omega
      have q1 : (x != x) = false := by simp
      have q2 : (x == x) = true := by simp
      go_wp2_with fail
      go_quiet (fail)
      go_wp2_with fail
      exact ⟨⟨k + 1, by omega, by go_num, _, rfl⟩, by simp [intOf]; omega⟩
    · obtain rfl : n = k := by omega
      go_wp2_with fail
      go_ret
      exact ⟨rfl, below_draws (Below.refl _ _) _⟩
end Go.Proofs.Ytchacfienafhlaa
