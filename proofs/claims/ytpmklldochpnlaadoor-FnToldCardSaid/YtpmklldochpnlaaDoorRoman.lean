/- Roman digits: both programs' loops over thirteen values compute 'rom'. -/
import Derived.Test.YtpmklldochpnlaaDoorTxt

namespace Go.Proofs.YtpmklldochpnlaaDoor
open Go.RowKit
set_option linter.unusedVariables false

def rv (i : Nat) : Int := [1000, 900, 500, 400, 100, 90, 50, 40, 10, 9, 5, 4, 1].getD i 0
def rd (i : Nat) : ByteArray := ([⟨#[77]⟩, ⟨#[67, 77]⟩, ⟨#[68]⟩, ⟨#[67, 68]⟩, ⟨#[67]⟩, ⟨#[88, 67]⟩, ⟨#[76]⟩, ⟨#[88, 76]⟩, ⟨#[88]⟩, ⟨#[73, 88]⟩, ⟨#[86]⟩, ⟨#[73, 86]⟩, ⟨#[73]⟩] : List ByteArray).getD i ByteArray.empty
/-- The rest of the work from value i on, with n left and 'out' written. -/
def rom : Nat → Nat → Int → ByteArray → ByteArray
  | 0, _, _, out => out
  | f + 1, i, n, out => if 13 ≤ i then out else if rv i ≤ n then rom f i (n - rv i) (out ++ rd i) else rom f (i + 1) n out
def romanS (n : Int) : ByteArray := rom (n.toNat + 14) 0 n ByteArray.empty
theorem rv_pos {i : Nat} (h : i < 13) : 1 ≤ rv i ∧ rv i ≤ 1000 := by
  match i, h with
  | 0, _ | 1, _ | 2, _ | 3, _ | 4, _ | 5, _ | 6, _ | 7, _ | 8, _ | 9, _ | 10, _ | 11, _ | 12, _ => decide
theorem rd_small {i : Nat} (h : i < 13) : (rd i).size ≤ 2 := by
  match i, h with
  | 0, _ | 1, _ | 2, _ | 3, _ | 4, _ | 5, _ | 6, _ | 7, _ | 8, _ | 9, _ | 10, _ | 11, _ | 12, _ => decide
theorem rom_end {f : Nat} {n : Int} {out : ByteArray} : rom f 13 n out = out := by cases f <;> simp [rom]
theorem rom_take {f i : Nat} {n : Int} {out : ByteArray} (hi : i < 13) (h : rv i ≤ n) : rom (f + 1) i n out = rom f i (n - rv i) (out ++ rd i) := by
  rw [rom, if_neg (by omega), if_pos h]
theorem rom_next {f i : Nat} {n : Int} {out : ByteArray} (hi : i < 13) (h : n < rv i) : rom (f + 1) i n out = rom f (i + 1) n out := by
  rw [rom, if_neg (by omega), if_neg (by omega)]

/-- Where the work stands. -/
def RomAt (R : ByteArray) (i : Nat) (n : Int) (out : ByteArray) : Prop := ∃ f : Nat, n.toNat + 14 ≤ f + i ∧ rom f i n out = R
theorem RomAt.start (n : Int) : RomAt (romanS n) 0 n ⟨#[]⟩ := ⟨n.toNat + 14, by omega, rfl⟩
theorem RomAt.take {R : ByteArray} {i : Nat} {n : Int} {out : ByteArray} (h : RomAt R i n out) (hi : i < 13) (h0 : 0 ≤ n) (hv : rv i ≤ n) : RomAt R i (n - rv i) (out ++ rd i) := by
  obtain ⟨f, hf, rfl⟩ := h
  have := rv_pos hi
  obtain ⟨g, rfl⟩ : ∃ g, f = g + 1 := ⟨f - 1, by omega⟩
  exact ⟨g, by omega, (rom_take hi hv).symm⟩
theorem RomAt.next {R : ByteArray} {i : Nat} {n : Int} {out : ByteArray} (h : RomAt R i n out) (hi : i < 13) (hv : n < rv i) : RomAt R (i + 1) n out := by
  obtain ⟨f, hf, rfl⟩ := h
  obtain ⟨g, rfl⟩ : ∃ g, f = g + 1 := ⟨f - 1, by omega⟩
  exact ⟨g, by omega, (rom_next hi hv).symm⟩
theorem RomAt.done {R : ByteArray} {n : Int} {out : ByteArray} (h : RomAt R 13 n out) : out = R := by
  obtain ⟨f, hf, rfl⟩ := h
  exact rom_end.symm

def RCells (w : World) (a b : Nat) : Prop := ∀ i, i < 13 → w.cell? ⟨a, i, none⟩ = some (.int .i64 (rv i)) ∧ w.cell? ⟨b, i, none⟩ = some (.string (rd i))
theorem rcells (w : World) (t u : TypeId) :
    RCells ((w.alloc (.cells #[.int .i64 1000, .int .i64 900, .int .i64 500, .int .i64 400, .int .i64 100, .int .i64 90, .int .i64 50, .int .i64 40, .int .i64 10, .int .i64 9, .int .i64 5, .int .i64 4, .int .i64 1] t)).alloc
      (.cells #[.string ⟨#[77]⟩, .string ⟨#[67, 77]⟩, .string ⟨#[68]⟩, .string ⟨#[67, 68]⟩, .string ⟨#[67]⟩, .string ⟨#[88, 67]⟩, .string ⟨#[76]⟩, .string ⟨#[88, 76]⟩, .string ⟨#[88]⟩, .string ⟨#[73, 88]⟩, .string ⟨#[86]⟩, .string ⟨#[73, 86]⟩, .string ⟨#[73]⟩] u)) w.heap.size (w.heap.size + 1) := by
  intro i hi
  have h1 := heap_alloc_new w (.cells #[.int .i64 1000, .int .i64 900, .int .i64 500, .int .i64 400, .int .i64 100, .int .i64 90, .int .i64 50, .int .i64 40, .int .i64 10, .int .i64 9, .int .i64 5, .int .i64 4, .int .i64 1] t)
  constructor
  · rw [World.cell?_alloc_lt _ _ _ (by simp)]
    rw [cell_of_row _ _ _ _ _ _ h1]
    match i, hi with
    | 0, _ | 1, _ | 2, _ | 3, _ | 4, _ | 5, _ | 6, _ | 7, _ | 8, _ | 9, _ | 10, _ | 11, _ | 12, _ => rfl
  · have h2 := heap_alloc_new (w.alloc (.cells #[.int .i64 1000, .int .i64 900, .int .i64 500, .int .i64 400, .int .i64 100, .int .i64 90, .int .i64 50, .int .i64 40, .int .i64 10, .int .i64 9, .int .i64 5, .int .i64 4, .int .i64 1] t)) (.cells #[.string ⟨#[77]⟩, .string ⟨#[67, 77]⟩, .string ⟨#[68]⟩, .string ⟨#[67, 68]⟩, .string ⟨#[67]⟩, .string ⟨#[88, 67]⟩, .string ⟨#[76]⟩, .string ⟨#[88, 76]⟩, .string ⟨#[88]⟩, .string ⟨#[73, 88]⟩, .string ⟨#[86]⟩, .string ⟨#[73, 86]⟩, .string ⟨#[73]⟩] u)
    rw [show (w.alloc (.cells #[.int .i64 1000, .int .i64 900, .int .i64 500, .int .i64 400, .int .i64 100, .int .i64 90, .int .i64 50, .int .i64 40, .int .i64 10, .int .i64 9, .int .i64 5, .int .i64 4, .int .i64 1] t)).heap.size = w.heap.size + 1 from by simp] at h2
    rw [cell_of_row _ _ _ _ _ _ h2]
    match i, hi with
    | 0, _ | 1, _ | 2, _ | 3, _ | 4, _ | 5, _ | 6, _ | 7, _ | 8, _ | 9, _ | 10, _ | 11, _ | 12, _ => rfl

set_option maxHeartbeats 400000 in
theorem iRoman_any (n : Int) (h0 : 0 ≤ n) (h1 : n ≤ 100000) (w : World) :
    Calls Tryd.prog 30 #[.int .i64 n] w fun e w' => e = .returned (.string (romanS n)) ∧ Below w.heap.size w w' := by
  go_enter Tryd.func30, Tryd.ntmps30
  go_wp2
  have hrc := rcells w 2 9
  go_loopw [0, 5, 12] (fun n' out i wr => ∃ (m : Int) (o : ByteArray) (k : Nat), k ≤ 13 ∧ 0 ≤ m ∧ m ≤ 100000 ∧ n' = .int .i64 m ∧ out = .string o ∧ i = .int .i64 k ∧ (o.size : Int) + 2 * m ≤ 200000 ∧ RomAt (romanS n) k m o ∧ RCells wr w.heap.size (w.heap.size + 1) ∧ Below w.heap.size w wr)
    (fun n' out i wr => 13 - (intOf i).toNat)
  case atStart => exact ⟨n, _, 0, by omega, h0, h1, rfl, rfl, rfl, (by show ((0 : Nat) : Int) + 2 * n ≤ 200000; omega), RomAt.start n, hrc, ((Below.refl _ _).alloc (Nat.le_refl _) _).alloc (by simp) _⟩
  case round =>
    obtain ⟨m, o, k, hk, hm0, hm1, rfl, rfl, rfl, hos, hat, hcs, hb⟩ := hrel
    by_cases hlt : k < 13
    · obtain ⟨hc1, hc2⟩ := hcs k hlt
      have hcs' := Lib.hid hcs; clear hcs hrc
      go_wp2
      go_loop [0, 5] (fun n' out => ∃ (m : Int) (o : ByteArray), 0 ≤ m ∧ m ≤ 100000 ∧ n' = .int .i64 m ∧ out = .string o ∧ (o.size : Int) + 2 * m ≤ 200000 ∧ RomAt (romanS n) k m o) (fun n' out => (intOf n').toNat)
      case atStart => exact ⟨m, o, hm0, hm1, rfl, rfl, hos, hat⟩
      case round =>
        obtain ⟨m, o, hm0, hm1, rfl, rfl, hos, hat⟩ := hrel
        have hrv := rv_pos hlt
        have hrd := rd_small hlt
        by_cases hv : rv k ≤ m
        · go_wp2
          exact ⟨⟨m - rv k, o ++ rd k, by omega, by omega, rfl, rfl, by simp; omega, hat.take hlt hm0 hv⟩, by simp [intOf]; omega⟩
        · go_wp2
          exact ⟨⟨m, o, k + 1, by omega, by omega, by omega, rfl, rfl, by go_num, hos, hat.next hlt (by omega), hcs'.out, hb⟩, by simp [intOf]; omega⟩
    · obtain rfl : k = 13 := by omega
      clear hcs hrc
      go_wp2
      go_ret
      exact ⟨ret_str hat.done, hb⟩

theorem iRomanOf_any (n : Int) (w : World) :
    Calls Tryd.prog 14 #[.int .i64 n] w fun e w' => e = .returned (.tuple #[.string (if inB n 1 3999 then romanS n else ⟨#[]⟩), .bool (inB n 1 3999)]) ∧ Below w.heap.size w w' := by
  by_cases h : inB n 1 3999 = true
  · have hb := inB_true h
    go_enter Tryd.func14, Tryd.ntmps14
    go_wp2_with (first | (go_at_call 26; refine (iIn_any _ _ _ _).mono ?_; rintro e w' ⟨rfl, rfl⟩) | (go_at_call 30; refine (iRoman_any _ (by omega) (by omega) _).mono ?_; rintro e w1 ⟨rfl, hb1⟩))
    go_ret2
    exact ⟨by simp [h], hb1⟩
  · go_enter Tryd.func14, Tryd.ntmps14
    go_wp2_with (first | (go_at_call 26; refine (iIn_any _ _ _ _).mono ?_; rintro e w' ⟨rfl, rfl⟩))
    go_ret2
    exact ⟨by simp [h], Below.refl _ _⟩
end Go.Proofs.YtpmklldochpnlaaDoor
