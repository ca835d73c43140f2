/- Reading Roman digits: both programs try 1 to 3999. -/
import Derived.Test.YtpmklldochpnlaaDoorRoman

namespace Go.Proofs.YtpmklldochpnlaaDoor
open Go.RowKit
set_option linter.unusedVariables false

def searchR (t : ByteArray) : Nat → Int → Int × Bool
  | 0, _ => (0, false)
  | f + 1, n => if romanS n = t then (n, true) else searchR t f (n + 1)
def srch (t : ByteArray) : Int × Bool := searchR t 3999 1
def rrI (t : ByteArray) : Int × Bool := if 15 < t.size then (0, false) else srch t
def rrS (t : ByteArray) : Int × Bool := if 16 < t.size then (0, false) else srch t

/-- How long the digits are. -/
def romL : Nat → Nat → Nat → Nat → Nat
  | 0, _, _, l => l
  | f + 1, i, n, l => if 13 ≤ i then l else if (rv i).toNat ≤ n then romL f i (n - (rv i).toNat) (l + (rd i).size) else romL f (i + 1) n l
theorem romL_eq : ∀ (f i n : Nat) (out : ByteArray), (rom f i n out).size = romL f i n out.size := by
  intro f
  induction f with
  | zero => intro i n out; rfl
  | succ f ih =>
    intro i n out
    by_cases hi : 13 ≤ i
    · simp [rom, romL, hi]
    · have hp := rv_pos (i := i) (by omega)
      by_cases hv : rv i ≤ n
      · have hv' : (rv i).toNat ≤ n := by omega
        have e : ((n : Int) - rv i) = ((n - (rv i).toNat : Nat) : Int) := by omega
        rw [rom, romL, if_neg hi, if_neg hi, if_pos hv, if_pos hv', e, ih, ByteArray.size_append]
      · have hv' : ¬ (rv i).toNat ≤ n := by omega
        rw [rom, romL, if_neg hi, if_neg hi, if_neg hv, if_neg hv', ih]
def romLs (k : Nat) : Bool := (List.range k).all fun n => decide (romL (n + 14) 0 n 0 ≤ 15)
theorem romLs_all : romLs 4000 = true := by decide +kernel
theorem roman_short {n : Int} (h0 : 0 ≤ n) (h1 : n < 4000) : (romanS n).size ≤ 15 := by
  obtain ⟨m, rfl⟩ := Int.eq_ofNat_of_zero_le h0
  have h := romLs_all
  unfold romLs at h
  rw [List.all_eq_true] at h
  have := of_decide_eq_true (h m (List.mem_range.2 (by omega)))
  unfold romanS
  rw [Int.toNat_natCast, romL_eq]
  exact this
theorem searchR_none {t : ByteArray} (ht : 15 < t.size) : ∀ (f : Nat) (n : Int), 0 ≤ n → n + f ≤ 4000 → searchR t f n = (0, false) := by
  intro f
  induction f with
  | zero => intro n _ _; rfl
  | succ f ih =>
    intro n h0 h1
    have hs := roman_short (n := n) h0 (by omega)
    rw [searchR, if_neg (fun e => by rw [e] at hs; omega), ih _ (by omega) (by omega)]
theorem rr_same (t : ByteArray) : rrI t = rrS t := by
  unfold rrI rrS
  by_cases h1 : 16 < t.size
  · rw [if_pos (by omega), if_pos h1]
  · rw [if_neg h1]
    by_cases h2 : 15 < t.size
    · rw [if_pos h2]; exact (searchR_none h2 _ _ (by omega) (by omega)).symm
    · rw [if_neg h2]


set_option maxHeartbeats 400000 in
theorem iReadRoman_any (t : ByteArray) (ht : t.size ≤ maxLen) (w : World) :
    Calls Tryd.prog 15 #[.string t] w fun e w' => e = .returned (.tuple #[.int .i64 (rrI t).1, .bool (rrI t).2]) ∧ Below w.heap.size w w' := by
  unfold maxLen at ht
  by_cases hl : 15 < t.size
  · go_enter Tryd.func15, Tryd.ntmps15
    go_wp2
    go_ret2
    exact ⟨by simp [rrI, hl], Below.refl _ _⟩
  · have hR := Lib.hid (show rrI t = srch t from if_neg hl)
    go_enter Tryd.func15, Tryd.ntmps15
    go_wp2
    go_loopw [4] (fun n wr => ∃ k : Int, 1 ≤ k ∧ k ≤ 4000 ∧ n = .int .i64 k ∧ searchR t (4000 - k).toNat k = srch t ∧ Below w.heap.size w wr) (fun n wr => (4000 - intOf n).toNat)
    case atStart => exact ⟨1, by omega, by omega, rfl, rfl, Below.refl _ _⟩
    case round =>
      obtain ⟨k, hk1, hk2, rfl, hs, hb⟩ := hrel
      have HS := Lib.hid hs; clear hs
      by_cases hk : k < 4000
      · obtain ⟨f, hf⟩ : ∃ f : Nat, (4000 - k).toNat = f + 1 := ⟨(4000 - k).toNat - 1, by omega⟩
        have Hf := Lib.hid hf; clear hf
        by_cases he : romanS k = t
        · have he' := str_eq he
          have HE := Lib.hid he; clear he
          go_wp2_with (go_at_call 30; refine (iRoman_any _ (by omega) (by omega) _).mono ?_; rintro e w1 ⟨rfl, hb1⟩)
          go_ret2
          refine ⟨?_, hb.trans (hb1.mono hb.size)⟩
          rw [hR.out, ← HS.out, Hf.out, searchR, if_pos HE.out]
          rfl
        · have he' := str_ne he
          have HE := Lib.hid he; clear he
          go_wp2_with (go_at_call 30; refine (iRoman_any _ (by omega) (by omega) _).mono ?_; rintro e w1 ⟨rfl, hb1⟩)
          refine ⟨⟨k + 1, by omega, by omega, rfl, ?_, hb.trans (hb1.mono hb.size)⟩, by simp [intOf]; omega⟩
          rw [← HS.out, Hf.out, searchR, if_neg HE.out, show (4000 - (k + 1)).toNat = f from by have := Hf.out; omega]
      · obtain rfl : k = 4000 := by omega
        go_wp2
        go_ret2
        refine ⟨?_, hb⟩
        rw [hR.out, ← HS.out]
        rfl

end Go.Proofs.YtpmklldochpnlaaDoor
