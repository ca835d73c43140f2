/- Numbers in words: what both programs write. -/
import Derived.Test.YtpmklldochpnlaaDoorTxt
import Derived.Deep.QuietTactic
import Derived.BigQuiet
import Derived.Deep.Cut

namespace Go.Proofs.YtpmklldochpnlaaDoor
open Go.RowKit
set_option linter.unusedVariables false

/-- At any place of a walk the world may be forgotten but for what is said of it. -/
theorem wp_gen {P : Program} {c : Code} {Q : Exit → Act → World → Prop} {a : Act} {w : World} (I : World → Prop) (h : I w) (k : ∀ w', I w' → Code.wp P c Q a w') : Code.wp P c Q a w := k w h

def onesL : List ByteArray := [⟨#[122, 101, 114, 111]⟩, ⟨#[111, 110, 101]⟩, ⟨#[116, 119, 111]⟩, ⟨#[116, 104, 114, 101, 101]⟩, ⟨#[102, 111, 117, 114]⟩, ⟨#[102, 105, 118, 101]⟩, ⟨#[115, 105, 120]⟩, ⟨#[115, 101, 118, 101, 110]⟩, ⟨#[101, 105, 103, 104, 116]⟩, ⟨#[110, 105, 110, 101]⟩, ⟨#[116, 101, 110]⟩, ⟨#[101, 108, 101, 118, 101, 110]⟩, ⟨#[116, 119, 101, 108, 118, 101]⟩, ⟨#[116, 104, 105, 114, 116, 101, 101, 110]⟩, ⟨#[102, 111, 117, 114, 116, 101, 101, 110]⟩, ⟨#[102, 105, 102, 116, 101, 101, 110]⟩, ⟨#[115, 105, 120, 116, 101, 101, 110]⟩, ⟨#[115, 101, 118, 101, 110, 116, 101, 101, 110]⟩, ⟨#[101, 105, 103, 104, 116, 101, 101, 110]⟩, ⟨#[110, 105, 110, 101, 116, 101, 101, 110]⟩]
def tensL : List ByteArray := [⟨#[116, 119, 101, 110, 116, 121]⟩, ⟨#[116, 104, 105, 114, 116, 121]⟩, ⟨#[102, 111, 114, 116, 121]⟩, ⟨#[102, 105, 102, 116, 121]⟩, ⟨#[115, 105, 120, 116, 121]⟩, ⟨#[115, 101, 118, 101, 110, 116, 121]⟩, ⟨#[101, 105, 103, 104, 116, 121]⟩, ⟨#[110, 105, 110, 101, 116, 121]⟩]
def tens0L : List ByteArray := [⟨#[]⟩, ⟨#[]⟩, ⟨#[116, 119, 101, 110, 116, 121]⟩, ⟨#[116, 104, 105, 114, 116, 121]⟩, ⟨#[102, 111, 114, 116, 121]⟩, ⟨#[102, 105, 102, 116, 121]⟩, ⟨#[115, 105, 120, 116, 121]⟩, ⟨#[115, 101, 118, 101, 110, 116, 121]⟩, ⟨#[101, 105, 103, 104, 116, 121]⟩, ⟨#[110, 105, 110, 101, 116, 121]⟩]
def ones (i : Nat) : ByteArray := onesL.getD i ByteArray.empty
def tens (i : Nat) : ByteArray := tensL.getD i ByteArray.empty
def svN (l : List ByteArray) : List Value := l.map .string
theorem svN_get {l : List ByteArray} {i : Nat} (h : i < l.length) : (svN l)[i]? = some (.string (l.getD i ByteArray.empty)) := by
  simp [svN, h]
theorem ones_small (i : Nat) : (ones i).size ≤ 9 := by
  by_cases h : i < 20
  · have : ∀ i : Fin 20, (ones i.1).size ≤ 9 := by decide
    exact this ⟨i, h⟩
  · unfold ones; rw [List.getD_eq_getElem?_getD, List.getElem?_eq_none (by show 20 ≤ i; omega)]; exact Nat.zero_le _
theorem tens_small (i : Nat) : (tens i).size ≤ 7 := by
  by_cases h : i < 8
  · have : ∀ i : Fin 8, (tens i.1).size ≤ 7 := by decide
    exact this ⟨i, h⟩
  · unfold tens; rw [List.getD_eq_getElem?_getD, List.getElem?_eq_none (by show 8 ≤ i; omega)]; exact Nat.zero_le _
theorem tens0_at {i : Nat} (h0 : 2 ≤ i) : tens0L.getD i ByteArray.empty = tens (i - 2) := by
  obtain ⟨j, rfl⟩ : ∃ j, i = j + 2 := ⟨i - 2, by omega⟩
  rfl

def hundred : ByteArray := ⟨#[32, 104, 117, 110, 100, 114, 101, 100]⟩
def thousand : ByteArray := ⟨#[32, 116, 104, 111, 117, 115, 97, 110, 100]⟩
def w100 (n : Nat) : ByteArray := if n < 20 then ones n else if n % 10 = 0 then tens (n / 10 - 2) else tens (n / 10 - 2) ++ ⟨#[45]⟩ ++ ones (n % 10)
def w1000 (n : Nat) : ByteArray := if n < 100 then w100 n else if n % 100 = 0 then w100 (n / 100) ++ hundred else w100 (n / 100) ++ hundred ++ ⟨#[32]⟩ ++ w100 (n % 100)
def wAll (n : Nat) : ByteArray := if n < 1000 then w1000 n else if n % 1000 = 0 then w1000 (n / 1000) ++ thousand else w1000 (n / 1000) ++ thousand ++ ⟨#[32]⟩ ++ w1000 (n % 1000)
theorem w100_small (n : Nat) : (w100 n).size ≤ 17 := by
  have h1 := ones_small n
  have h2 := tens_small (n / 10 - 2)
  have h3 := ones_small (n % 10)
  have e : (⟨#[45]⟩ : ByteArray).size = 1 := rfl
  unfold w100
  split
  · omega
  · split
    · omega
    · rw [ByteArray.size_append, ByteArray.size_append, e]; omega
theorem w1000_small (n : Nat) : (w1000 n).size ≤ 50 := by
  have h1 := w100_small n
  have h2 := w100_small (n / 100)
  have h3 := w100_small (n % 100)
  have e : (⟨#[32]⟩ : ByteArray).size = 1 := rfl
  have e2 : hundred.size = 8 := rfl
  unfold w1000
  split
  · omega
  · split
    · rw [ByteArray.size_append, e2]; omega
    · rw [ByteArray.size_append, ByteArray.size_append, ByteArray.size_append, e, e2]; omega

def WTab (w : World) (B : Nat) (t : TypeId) (l m : List ByteArray) (w' : World) : Prop := Row w' B t (svN l) ∧ Row w' (B + 1) t (svN m) ∧ Below B w w'
theorem wtab (w : World) (t : TypeId) (l m : List ByteArray) : WTab w w.heap.size t l m ((w.alloc (.cells (svN l).toArray t)).alloc (.cells (svN m).toArray t)) := by
  refine ⟨(Row.new _ _ _).alloc _, ?_, ((Below.refl _ _).alloc (Nat.le_refl _) _).alloc (by simp) _⟩
  have := Row.new (w.alloc (.cells (svN l).toArray t)) t (svN m)
  rw [show (w.alloc (.cells (svN l).toArray t)).heap.size = w.heap.size + 1 from by simp] at this
  exact this
theorem WTab.one {w w' : World} {B : Nat} {t : TypeId} {l m : List ByteArray} (h : WTab w B t l m w') {i : Nat} (hi : i < l.length) : w'.cell? ⟨B, i, none⟩ = some (.string (l.getD i ByteArray.empty)) := by
  rw [h.1.cell, svN_get hi]
theorem WTab.two {w w' : World} {B : Nat} {t : TypeId} {l m : List ByteArray} (h : WTab w B t l m w') {i : Nat} (hi : i < m.length) : w'.cell? ⟨B + 1, i, none⟩ = some (.string (m.getD i ByteArray.empty)) := by
  rw [h.2.1.cell, svN_get hi]

set_option maxHeartbeats 400000 in
theorem below100_any (x : Int) (h0 : 0 ≤ x) (h1 : x < 100) (w : World) :
    Calls Tryd.prog 41 #[.int .i64 x] w fun e w' => e = .returned (.string (w100 x.toNat)) ∧ Below w.heap.size w w' := by
  obtain ⟨n, rfl⟩ := Int.eq_ofNat_of_zero_le h0
  rw [Int.toNat_natCast]
  have s1 := ones_small (n % 10)
  have s2 := tens_small (n / 10 - 2)
  by_cases ha : n < 20
  · have hR := Lib.hid (show w100 n = ones n from if_pos ha)
    go_enter Tryd.func41, Tryd.ntmps41
    go_upto_region 3 with fail
    refine wp_gen (WTab w w.heap.size 9 onesL tensL) (wtab w _ onesL tensL) (fun w2 hI => ?_)
    have hc : w2.cell? ⟨w.heap.size, n, none⟩ = some (.string (ones n)) := hI.one (i := n) (by show n < 20; omega)
    have HI := Lib.hid hI; clear hI
    go_wp2
    go_ret
    exact ⟨ret_str hR.out.symm, HI.out.2.2⟩
  · have hi := Lib.hid (show w100 n = _ from if_neg ha)
    have ha' : 20 ≤ n := by omega
    clear ha
    by_cases hz : n % 10 = 0
    · have hR := Lib.hid (show w100 n = tens (n / 10 - 2) from hi.out.trans (if_pos hz))
      have hz1 : ((n : Int) % 10 == 0) = true := by rw [beq_iff_eq]; omega
      have HZ := Lib.hid hz; clear hz
      go_enter Tryd.func41, Tryd.ntmps41
      go_upto_region 3 with fail
      refine wp_gen (WTab w w.heap.size 9 onesL tensL) (wtab w _ onesL tensL) (fun w2 hI => ?_)
      have hc : w2.cell? ⟨w.heap.size + 1, n / 10 - 2, none⟩ = some (.string (tens (n / 10 - 2))) := hI.two (i := n / 10 - 2) (by show n / 10 - 2 < 8; omega)
      have HI := Lib.hid hI; clear hI
      go_wp2
      go_ret
      exact ⟨ret_str hR.out.symm, HI.out.2.2⟩
    · have hR := Lib.hid (show w100 n = _ from hi.out.trans (if_neg hz))
      have hz1 : ((n : Int) % 10 == 0) = false := by rw [beq_eq_false_iff_ne]; omega
      have HZ := Lib.hid hz; clear hz
      go_enter Tryd.func41, Tryd.ntmps41
      go_upto_region 3 with fail
      refine wp_gen (WTab w w.heap.size 9 onesL tensL) (wtab w _ onesL tensL) (fun w2 hI => ?_)
      have hc : w2.cell? ⟨w.heap.size + 1, n / 10 - 2, none⟩ = some (.string (tens (n / 10 - 2))) := hI.two (i := n / 10 - 2) (by show n / 10 - 2 < 8; omega)
      have hc2 : w2.cell? ⟨w.heap.size, n % 10, none⟩ = some (.string (ones (n % 10))) := hI.one (i := n % 10) (by show n % 10 < 20; omega)
      have HI := Lib.hid hI; clear hI
      have b0 : (0 : Int) ≤ (n : Int) / 10 - 2 := by omega
      have b1 : (n : Int) / 10 - 2 < 8 := by omega
      have b0' : (2 : Int) ≤ (n : Int) / 10 := by omega
      have b1' : (n : Int) / 10 < 8 + 2 := by omega
      have b1'' : (n : Int) / 10 < 10 := by omega
      have b2 : (0 : Int) ≤ (n : Int) % 10 := by omega
      have b3 : (n : Int) % 10 < 20 := by omega
      have q1 : ¬ 9223372036854775807 < (tens (n / 10 - 2)).size + 1 := by omega
      have q2 : ¬ 9223372036854775807 < (tens (n / 10 - 2)).size + 1 + (ones (n % 10)).size := by omega
      have q3 : (tens (n / 10 - 2)).size + 1 ≤ 9223372036854775807 := by omega
      have q4 : (tens (n / 10 - 2)).size + 1 + (ones (n % 10)).size ≤ 9223372036854775807 := by omega
      have e1 : IntKind.i64.wrap ((n : Int) / 10) = (n : Int) / 10 := IntWalk.i64_in _ (by omega)
      have e2 : IntKind.i64.wrap ((n : Int) / 10 - 2) = (n : Int) / 10 - 2 := IntWalk.i64_in _ (by omega)
      have e3 : ((n : Int) / 10 - 2).toNat = n / 10 - 2 := by omega
      have e4 : ((n : Int) % 10).toNat = n % 10 := by omega
      go_wp2
      go_quiet (fail)
      clear e1 e2 e3 e4
      go_wp2
      go_ret
      exact ⟨ret_str hR.out.symm, below_draws HI.out.2.2 _⟩
end Go.Proofs.YtpmklldochpnlaaDoor
