/- What FnTold's parts answer, gathered (plainly); its two small helpers. -/
import Derived.Test.YtpmklldochpnlaaDoorToW
import Derived.Test.YtpmklldochpnlaaDoorToH
import Derived.Test.YtpmklldochpnlaaDoorUpB
import Derived.Test.YtpmklldochpnlaaDoorSkT
import Derived.Test.YtpmklldochpnlaaDoorMgd
import Derived.Test.YtpmklldochpnlaaDoorSrcT
import Derived.Test.YtpmklldochpnlaaDoorNumW2
import Derived.Test.YtpmklldochpnlaaDoorRwI

namespace Go.Proofs.YtpmklldochpnlaaDoor
open Go.RowKit
set_option linter.unusedVariables false
def r8v (z : List Int) (k : Nat) (m : Int) : Int := if z.length ≤ k then 0 else z.getD k 0 % m
theorem r8v_bd {z : List Int} {k : Nat} {m : Int} (h : 0 < m) : 0 ≤ r8v z k m ∧ r8v z k m < m := by
  unfold r8v
  split
  · omega
  · exact ⟨Int.emod_nonneg _ (by omega), Int.emod_lt_of_pos _ h⟩
set_option maxHeartbeats 1000000 in
theorem r8At_any (a : Option Addr) (n c : Nat) (z : List Int) (lo : Nat) (w : World) (hz : SlB w lo a n z) (k : Nat) (m : Int) (h1 : 1 < m) (h2 : m ≤ 100000) (hk : k ≤ 100000) (hn : n ≤ maxLen) :
    Calls Tryd.prog 11 #[.slice a n c, .int .i64 k, .int .i64 m] w fun e w' => e = .returned (.int .i64 (r8v z k m)) ∧ w = w' := by
  unfold maxLen at hn
  have hl := hz.len
  by_cases hlt : k < n
  · obtain ⟨b, off, x, rfl, hb, x0, x1, hx, hc⟩ := hz.at_ hlt
    have HV : Hid (r8v z k m = x % m) := by
      show _ = _
      unfold r8v
      rw [if_neg (by omega), List.getD_eq_getElem?_getD, hx.out]; rfl
    clear hz hx hl
    go_enter Tryd.func11, Tryd.ntmps11
    go_wp2
    go_ret
    exact ⟨ret_int HV.out.symm, rfl⟩
  · have HV : Hid (r8v z k m = 0) := by
      show _ = _
      unfold r8v
      rw [if_pos (by omega)]
    have l1 : (n : Int) ≤ (k : Int) := by omega
    clear hz hl hlt
    go_enter Tryd.func11, Tryd.ntmps11
    go_wp2
    go_ret
    exact ⟨ret_int HV.out.symm, rfl⟩
theorem r8Long_no (a : Option Addr) (n c : Nat) (a' : Option Addr) (n' c' : Nat) (w : World) (h : n ≤ 48) (h' : n' ≤ 48) :
    Calls Tryd.prog 10 #[.slice a n c, .slice a' n' c'] w fun e w' => e = .returned (.bool false) ∧ w = w' := by
  go_enter Tryd.func10, Tryd.ntmps10
  go_wp2
  all_goals go_ret
  all_goals exact ⟨ret_bool (by first | rfl | (simp; omega)), rfl⟩
theorem r8Long_yes (a : Option Addr) (n c : Nat) (a' : Option Addr) (n' c' : Nat) (w : World) (hn : n ≤ maxLen) (hn' : n' ≤ maxLen) (h : 48 < n ∨ 48 < n') :
    Calls Tryd.prog 10 #[.slice a n c, .slice a' n' c'] w fun e w' => e = .returned (.bool true) ∧ w = w' := by
  go_enter Tryd.func10, Tryd.ntmps10
  go_wp2
  all_goals go_ret
  all_goals exact ⟨ret_bool (by first | rfl | (simp; omega)), rfl⟩
theorem numOut_in {n : Int} (h0 : 0 ≤ n) (h1 : n ≤ 999999) : inB n 0 999999 = true := decide_eq_true ⟨h0, h1⟩
/-- Numbers in words. -/
theorem told_num {n : Int} (h0 : 0 ≤ n) (h1 : n ≤ 999999) : ∃ W : ByteArray, numOut n = W ∧ W.size ≤ 1000 ∧ rwV W = (n, true) ∧ (rwV (W ++ ⟨#[32]⟩)).2 = false ∧ W.toList.isEmpty = false := by
  obtain ⟨k, rfl⟩ := Int.eq_ofNat_of_zero_le h0
  have hk : k < 1000000 := by omega
  refine ⟨wAll k, by unfold numOut; rw [if_pos (numOut_in h0 h1), Int.toNat_natCast], wAll_small k, rw_back hk, rw_blank hk, ?_⟩
  have := wAll_ne hk
  rw [ByteArray.toList_eq]
  cases h : (wAll k).data.toList with
  | nil => exact absurd h this
  | cons a r => rfl
theorem told_rom {m : Int} (h0 : 1 ≤ m) (h1 : m ≤ 3999) : ∃ R : ByteArray, (if inB m 1 3999 then romanS m else ⟨#[]⟩) = R ∧ R.size ≤ 15 ∧ rrI R = (m, true) ∧ ((rrI (R ++ ⟨#[77]⟩)).2 = true → m % 1000 = 0 ∨ m % 1000 = 100) :=
  ⟨romanS m, if_pos (decide_eq_true ⟨h0, h1⟩), roman_short (by omega) (by omega), rr_back h0 h1, rr_more h0 h1⟩
theorem told_text {s : ByteArray} (hs : s.size ≤ 15) (ha : ABC s) : ∃ t : ByteArray, (⟨#[99]⟩ : ByteArray) ++ s = t ∧ t.size = s.size + 1 ∧ letB t = true ∧ skB t = true ∧ skB (t ++ aaa) = true ∧ b8 t 0 = 99 := by
  have z1 : (⟨#[99]⟩ : ByteArray).size = 1 := rfl
  have hA : ABC ((⟨#[99]⟩ : ByteArray) ++ s) := ABC.app (fun j hj => by
    obtain rfl : j = 0 := by omega
    exact .inr (.inr rfl)) ha
  have hL {u : ByteArray} (h : ABC u) : letsB u = true := letsB_of (fun j hj => by
    rcases h j hj with e | e | e <;> rw [e] <;> decide)
  have sz : ((⟨#[99]⟩ : ByteArray) ++ s).size = s.size + 1 := by rw [ByteArray.size_append, z1]; omega
  have l1 : letB ((⟨#[99]⟩ : ByteArray) ++ s) = true := by
    show (letsB _ && txtB _) = true
    rw [hL hA, show txtB ((⟨#[99]⟩ : ByteArray) ++ s) = true from decide_eq_true (by omega)]; rfl
  have hA3 : ABC ((⟨#[99]⟩ : ByteArray) ++ s ++ aaa) := hA.app (fun j hj => by
    have h3 : aaa.size = 3 := rfl
    have : j = 0 ∨ j = 1 ∨ j = 2 := by omega
    rcases this with rfl | rfl | rfl <;> exact .inl rfl)
  have sz3 : ((⟨#[99]⟩ : ByteArray) ++ s ++ aaa).size = s.size + 4 := by rw [ByteArray.size_append, sz]; rfl
  refine ⟨_, rfl, sz, l1, ?_, ?_, ?_⟩
  · show (letB _ && decide _) = true
    rw [l1, decide_eq_true (by omega)]; rfl
  · show ((letsB _ && txtB _) && decide _) = true
    rw [hL hA3, show txtB ((⟨#[99]⟩ : ByteArray) ++ s ++ aaa) = true from decide_eq_true (by omega), decide_eq_true (by omega)]; rfl
  · rw [show b8 ((⟨#[99]⟩ : ByteArray) ++ s) 0 = b8 (⟨#[99]⟩ : ByteArray) 0 from b8_left (by decide)]; rfl
theorem placeS {w : World} {base : Nat} {T : TypeId} {v : Value} {r : List Int} (h : RowI w base T v r) : ∃ A c, v = .slice A r.length c ∧ SlI w w.heap.size A r.length r := by
  have h0 := h
  rcases h0.2 with ⟨rfl, h1⟩ | ⟨g, cap, cur, rfl, hb, hg, hnc, hm, hs, ht⟩
  · have : r = [] := List.eq_nil_of_length_eq_zero (by simpa using h1)
    subst this
    exact ⟨none, 0, rfl, SlV.nil _ _ _⟩
  · exact ⟨_, cap, rfl, h.sl rfl⟩
theorem pair_list {t : ByteArray} {k : Nat} (h1 : 1 ≤ k) (h2 : k < t.size) : (t.extract (k - 1) (k + 1)).toList = [b8 t (k - 1), b8 t k] := by
  have e : t.extract (k - 1) (k + 1) = ⟨#[b8 t (k - 1), b8 t k]⟩ := by
    have z : (⟨#[b8 t (k - 1), b8 t k]⟩ : ByteArray).size = 2 := rfl
    refine ext_b8 (by rw [ByteArray.size_extract, z]; omega) (fun j hj => ?_)
    rw [ByteArray.size_extract] at hj
    rw [b8_ext (by omega) (by omega)]
    have : j = 0 ∨ j = 1 := by omega
    rcases this with rfl | rfl
    · rfl
    · rw [show k - 1 + 1 = k by omega]; rfl
  rw [e, ByteArray.toList_eq]
theorem pair_is {t : ByteArray} {k : Nat} (h1 : 1 ≤ k) (h2 : k < t.size) (x y : UInt8) : ((t.extract (k - 1) (k + 1)).toList == [x, y]) = decide (b8 t (k - 1) = x ∧ b8 t k = y) := by
  rw [pair_list h1 h2, Bool.eq_iff_iff]
  simp
/-- The ways of a round. -/
theorem round_ways {t : ByteArray} {k : Nat} (h1 : 2 ≤ k) (h2 : k + 2 ≤ t.size) :
    (((t.extract (k - 1) (k + 1)).toList == [97, 98]) = true ∧ part t k = true) ∨
    (((t.extract (k - 1) (k + 1)).toList == [97, 98]) = false ∧ ((t.extract (k - 1) (k + 1)).toList == [98, 99]) = false ∧ part t k = false) ∨
    (((t.extract (k - 1) (k + 1)).toList == [97, 98]) = false ∧ ((t.extract (k - 1) (k + 1)).toList == [98, 99]) = true ∧ (((b8 t (k - 2)).toNat : Int) != 97) = false ∧ part t k = false) ∨
    (((t.extract (k - 1) (k + 1)).toList == [97, 98]) = false ∧ ((t.extract (k - 1) (k + 1)).toList == [98, 99]) = true ∧ (((b8 t (k - 2)).toNat : Int) != 97) = true ∧ part t k = true) := by
  rw [pair_is (by omega) (by omega), pair_is (by omega) (by omega)]
  unfold part
  by_cases p : b8 t (k - 1) = 97 ∧ b8 t k = 98
  · exact .inl ⟨decide_eq_true p, by rw [decide_eq_true p]; rfl⟩
  · by_cases q : b8 t (k - 1) = 98 ∧ b8 t k = 99
    · by_cases c : b8 t (k - 2) = 97
      · exact .inr (.inr (.inl ⟨decide_eq_false p, decide_eq_true q, by rw [c]; rfl, by rw [decide_eq_false p, decide_eq_false (fun x => x.2 c)]; rfl⟩))
      · exact .inr (.inr (.inr ⟨decide_eq_false p, decide_eq_true q, by have h := u8neH (n := 97) (by decide) c; show (!_) = true; rw [show (((b8 t (k - 2)).toNat : Int) == 97) = false from h]; rfl, by rw [decide_eq_false p, decide_eq_true (show (b8 t (k - 1) = 98 ∧ b8 t k = 99) ∧ b8 t (k - 2) ≠ 97 from ⟨q, c⟩)]; rfl⟩))
    · exact .inr (.inl ⟨decide_eq_false p, decide_eq_false q, by rw [decide_eq_false p, decide_eq_false (fun x => q x.1)]; rfl⟩)
theorem hyC_end {t : ByteArray} {k : Nat} (h1 : 2 ≤ k) (h2 : t.size < k + 2) (h3 : k + 1 ≤ t.size ∨ k = 2) : (hyC t k).length = (hyR t patsL).length := by
  rw [← hyC_all]
  unfold hyC
  rw [show k - 2 = t.size - 1 - 2 by omega]
end Go.Proofs.YtpmklldochpnlaaDoor
