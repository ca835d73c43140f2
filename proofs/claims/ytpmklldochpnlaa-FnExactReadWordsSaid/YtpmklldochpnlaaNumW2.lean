/- Numbers in words: the recursion of the program and of the reference. -/
import Derived.Test.YtpmklldochpnlaaNumW
namespace Go.Proofs.Ytpmklldochpnlaa
open Go.RowKit
set_option linter.unusedVariables false

set_option maxHeartbeats 400000 in
theorem nw100_any (x : Int) (h0 : 0 ≤ x) (h1 : x < 100) (w : World) :
    Calls Try.prog 72 #[.int .i64 x] w fun e w' => e = .returned (.string (w100 x.toNat)) ∧ Below w.heap.size w w' := by
  go_enter Try.func72, Try.ntmps72
  go_wp2_with (go_at_call 91; refine (below100_any _ (by omega) (by omega) _).mono ?_; rintro e w1 ⟨rfl, hb1⟩)
  go_ret
  exact ⟨rfl, hb1⟩

theorem withRest_gen (N : Nat → ByteArray) (m : Int) (hN : ∀ n, (N n).size ≤ 1000)
    (hc : ∀ (x : Int) (h0 : 0 ≤ x) (h1 : x < m) (w : World), Calls Try.prog 72 #[.int .i64 x] w fun e w' => e = .returned (.string (N x.toNat)) ∧ Below w.heap.size w w')
    (s : ByteArray) (hs : s.size ≤ 1000) (r : Int) (h0 : 0 ≤ r) (h1 : r < m) (w : World) :
    Calls Try.prog 92 #[.string s, .int .i64 r] w fun e w' => e = .returned (.string (if r = 0 then s else s ++ ⟨#[32]⟩ ++ N r.toNat)) ∧ Below w.heap.size w w' := by
  have HC := Lib.hid hc; clear hc
  have s1 := hN r.toNat
  have HN := Lib.hid hN; clear hN
  by_cases h : r = 0
  · have hz : (r == 0) = true := by simp [h]
    have H := Lib.hid h; clear h
    go_enter Try.func92, Try.ntmps92
    go_wp2
    go_ret
    exact ⟨rfl, Below.refl _ _⟩
  · have hz : (r == 0) = false := by simp [h]
    have H := Lib.hid h; clear h
    go_enter Try.func92, Try.ntmps92
    go_wp2_with (go_at_call 72; refine (HC.out _ h0 h1 _).mono ?_; rintro e w1 ⟨rfl, hb1⟩)
    go_ret
    exact ⟨rfl, hb1⟩

set_option maxHeartbeats 400000 in
theorem nw1000_any (x : Int) (h0 : 0 ≤ x) (h1 : x < 1000) (w : World) :
    Calls Try.prog 72 #[.int .i64 x] w fun e w' => e = .returned (.string (w1000 x.toNat)) ∧ Below w.heap.size w w' := by
  by_cases h : x < 100
  · refine (nw100_any x h0 h w).mono fun e w' ⟨he, hb⟩ => ⟨?_, hb⟩
    rw [he]
    exact ret_str (if_pos (by omega)).symm
  · have s1 := w100_small (x / 100).toNat
    have s2 := w100_small (x % 100).toNat
    have e8 : hundred.size = 8 := rfl
    have hR : Hid (w1000 x.toNat = if x % 100 = 0 then w100 (x / 100).toNat ++ hundred else w100 (x / 100).toNat ++ hundred ++ ⟨#[32]⟩ ++ w100 (x % 100).toNat) := by
      show w1000 x.toNat = _
      unfold w1000
      rw [if_neg (by omega), show (x / 100).toNat = x.toNat / 100 from by omega, show (x % 100).toNat = x.toNat % 100 from by omega]
      by_cases hz : x % 100 = 0
      · rw [if_pos (by omega), if_pos hz]
      · rw [if_neg (by omega), if_neg hz]
    clear e8
    have h' : 100 ≤ x := by omega
    clear h
    go_enter Try.func72, Try.ntmps72
    go_wp2_with fail
    refine (below100_any _ (by omega) (by omega) _).mono ?_; rintro e w1 ⟨rfl, hb1⟩
    go_wp2_with fail
    refine (withRest_gen w100 100 (fun n => by have := w100_small n; omega) nw100_any _ ?_ _ (by omega) (by omega) _).mono ?_
    · rw [ByteArray.size_append]; have : (⟨#[32, 104, 117, 110, 100, 114, 101, 100]⟩ : ByteArray).size = 8 := rfl; omega
    rintro e w2 ⟨rfl, hb2⟩
    have HB := Lib.hid (hb1.trans (hb2.mono hb1.size)); clear hb1 hb2
    go_wp2
    all_goals go_ret
    all_goals refine ⟨ret_str (Eq.trans ?_ hR.out.symm), HB.out⟩
    all_goals first | (rw [if_pos ‹_›]; rfl) | (rw [if_neg ‹_›]; rfl) | rfl

set_option maxHeartbeats 400000 in
theorem nwAll_any (x : Int) (h0 : 0 ≤ x) (h1 : x < 1000000) (w : World) :
    Calls Try.prog 72 #[.int .i64 x] w fun e w' => e = .returned (.string (wAll x.toNat)) ∧ Below w.heap.size w w' := by
  by_cases h : x < 1000
  · refine (nw1000_any x h0 h w).mono fun e w' ⟨he, hb⟩ => ⟨?_, hb⟩
    rw [he]
    exact ret_str (if_pos (by omega)).symm
  · have s1 := w1000_small (x / 1000).toNat
    have s2 := w1000_small (x % 1000).toNat
    have hR : Hid (wAll x.toNat = if x % 1000 = 0 then w1000 (x / 1000).toNat ++ thousand else w1000 (x / 1000).toNat ++ thousand ++ ⟨#[32]⟩ ++ w1000 (x % 1000).toNat) := by
      show wAll x.toNat = _
      unfold wAll
      rw [if_neg (by omega), show (x / 1000).toNat = x.toNat / 1000 from by omega, show (x % 1000).toNat = x.toNat % 1000 from by omega]
      by_cases hz : x % 1000 = 0
      · rw [if_pos (by omega), if_pos hz]
      · rw [if_neg (by omega), if_neg hz]
    have h' : 1000 ≤ x := by omega
    clear h
    go_enter Try.func72, Try.ntmps72
    go_wp2_with fail
    refine (nw1000_any _ (by omega) (by omega) _).mono ?_; rintro e w1 ⟨rfl, hb1⟩
    go_wp2_with fail
    refine (withRest_gen w1000 1000 (fun n => by have := w1000_small n; omega) nw1000_any _ ?_ _ (by omega) (by omega) _).mono ?_
    · rw [ByteArray.size_append]; have : (⟨#[32, 116, 104, 111, 117, 115, 97, 110, 100]⟩ : ByteArray).size = 9 := rfl; omega
    rintro e w2 ⟨rfl, hb2⟩
    have HB := Lib.hid (hb1.trans (hb2.mono hb1.size)); clear hb1 hb2
    go_wp2
    all_goals go_ret
    all_goals refine ⟨ret_str (Eq.trans ?_ hR.out.symm), HB.out⟩
    all_goals first | (rw [if_pos ‹_›]; rfl) | (rw [if_neg ‹_›]; rfl) | rfl

theorem small_ten {n : Nat} (h : n < 10) : w100 n = ones n := if_pos (by omega)
set_option maxHeartbeats 400000 in
theorem sSmall100_any (x : Int) (h0 : 0 ≤ x) (h1 : x < 100) (w : World) :
    Calls Try.prog 89 #[.int .i64 x] w fun e w' => e = .returned (.string (w100 x.toNat)) ∧ Below w.heap.size w w' := by
  obtain ⟨n, rfl⟩ := Int.eq_ofNat_of_zero_le h0
  rw [Int.toNat_natCast]
  have s1 := ones_small (n % 10)
  have s2 := tens_small (n / 10 - 2)
  by_cases ha : n < 20
  · have hR := Lib.hid (show w100 n = ones n from if_pos ha)
    go_enter Try.func89, Try.ntmps89
    go_upto_region 3 with fail
    refine wp_gen (WTab w w.heap.size 9 onesL tens0L) (wtab w _ onesL tens0L) (fun w2 hI => ?_)
    have hc : w2.cell? ⟨w.heap.size, n, none⟩ = some (.string (ones n)) := hI.one (i := n) (by show n < 20; omega)
    have HI := Lib.hid hI; clear hI
    go_wp2
    go_ret
    exact ⟨ret_str hR.out.symm, HI.out.2.2⟩
  · have hi := Lib.hid (show w100 n = _ from if_neg ha)
    have ha' : 20 ≤ n := by omega
    clear ha
    by_cases hz : n % 10 = 0
    · have hR := Lib.hid (show w100 n = tens (n / 10 - 2) from hi.out.trans (if_pos hz))
      have hz1 : (n : Int) % 10 ≤ 0 := by omega
      have HZ := Lib.hid hz; clear hz
      go_enter Try.func89, Try.ntmps89
      go_upto_region 3 with fail
      refine wp_gen (WTab w w.heap.size 9 onesL tens0L) (wtab w _ onesL tens0L) (fun w2 hI => ?_)
      have hc : w2.cell? ⟨w.heap.size + 1, n / 10, none⟩ = some (.string (tens (n / 10 - 2))) := by rw [← tens0_at (i := n / 10) (by omega)]; exact hI.two (i := n / 10) (by show n / 10 < 10; omega)
      have HI := Lib.hid hI; clear hI
      go_wp2
      go_ret
      exact ⟨ret_str hR.out.symm, HI.out.2.2⟩
    · have hR := Lib.hid (show w100 n = _ from hi.out.trans (if_neg hz))
      have hz1 : (0 : Int) < (n : Int) % 10 := by omega
      have HZ := Lib.hid hz; clear hz
      go_enter Try.func89, Try.ntmps89
      go_upto_region 3 with fail
      refine wp_gen (WTab w w.heap.size 9 onesL tens0L) (wtab w _ onesL tens0L) (fun w2 hI => ?_)
      have hc : w2.cell? ⟨w.heap.size + 1, n / 10, none⟩ = some (.string (tens (n / 10 - 2))) := by rw [← tens0_at (i := n / 10) (by omega)]; exact hI.two (i := n / 10) (by show n / 10 < 10; omega)
      have hc2 : w2.cell? ⟨w.heap.size, n % 10, none⟩ = some (.string (ones (n % 10))) := hI.one (i := n % 10) (by show n % 10 < 20; omega)
      have HI := Lib.hid hI; clear hI
      go_wp2
      go_ret
      exact ⟨ret_str (by rw [hR.out, ByteArray.append_assoc]), HI.out.2.2⟩

set_option maxRecDepth 100000 in
set_option maxHeartbeats 400000 in
theorem sSmall_any (x : Int) (h0 : 0 ≤ x) (h1 : x < 1000) (w : World) :
    Calls Try.prog 89 #[.int .i64 x] w fun e w' => e = .returned (.string (w1000 x.toNat)) ∧ Below w.heap.size w w' := by
  by_cases h : x < 100
  · refine (sSmall100_any x h0 h w).mono fun e w' ⟨he, hb⟩ => ⟨?_, hb⟩
    rw [he]
    exact ret_str (if_pos (by omega)).symm
  · obtain ⟨n, rfl⟩ := Int.eq_ofNat_of_zero_le h0
    rw [Int.toNat_natCast]
    have s1 := ones_small (n / 100)
    have s2 := w100_small (n % 100)
    have hi := Lib.hid (show w1000 n = _ from if_neg (by omega))
    have h' : 100 ≤ (n : Int) := by omega
    clear h
    by_cases hz : n % 100 = 0
    · have hR := Lib.hid (show w1000 n = ones (n / 100) ++ hundred from (hi.out.trans (if_pos hz)).trans (by rw [small_ten (by omega)]))
      have hz1 : (n : Int) % 100 ≤ 0 := by omega
      have HZ := Lib.hid hz; clear hz
      go_enter Try.func89, Try.ntmps89
      go_upto_region 3 with fail
      refine wp_gen (WTab w w.heap.size 9 onesL tens0L) (wtab w _ onesL tens0L) (fun w2 hI => ?_)
      have hc : w2.cell? ⟨w.heap.size, n / 100, none⟩ = some (.string (ones (n / 100))) := hI.one (i := n / 100) (by show n / 100 < 20; omega)
      have HI := Lib.hid hI; clear hI
      go_wp2
      go_ret
      exact ⟨ret_str hR.out.symm, HI.out.2.2⟩
    · have hR := Lib.hid (show w1000 n = ones (n / 100) ++ hundred ++ ⟨#[32]⟩ ++ w100 (n % 100) from (hi.out.trans (if_neg hz)).trans (by rw [small_ten (by omega)]))
      have hz1 : (0 : Int) < (n : Int) % 100 := by omega
      have HZ := Lib.hid hz; clear hz
      go_enter Try.func89, Try.ntmps89
      go_upto_region 3 with fail
      refine wp_gen (WTab w w.heap.size 9 onesL tens0L) (wtab w _ onesL tens0L) (fun w2 hI => ?_)
      have hc : w2.cell? ⟨w.heap.size, n / 100, none⟩ = some (.string (ones (n / 100))) := hI.one (i := n / 100) (by show n / 100 < 20; omega)
      have HI := Lib.hid hI; clear hI
      have hsz := HI.out.2.2.size
      go_wp2_with (go_at_call 89; refine (sSmall100_any _ (by omega) (by omega) _).mono ?_; rintro e w3 ⟨rfl, hb3⟩)
      go_ret
      refine ⟨ret_str ?_, HI.out.2.2.trans (hb3.mono hsz)⟩
      rw [hR.out, ByteArray.append_assoc (b := ⟨#[32]⟩)]
      rfl

end Go.Proofs.Ytpmklldochpnlaa
