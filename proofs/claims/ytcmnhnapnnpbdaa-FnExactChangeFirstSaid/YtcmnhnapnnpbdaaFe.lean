/- Features of both programs. -/
import Derived.Test.YtcmnhnapnnpbdaaFeP
import Derived.Deep.LoopGhost
import Derived.Deep.QuietTactic
import Derived.BigQuiet
namespace Go.Proofs.Ytcmnhnapnnpbdaa
open Go.RowKit
set_option linter.unusedVariables false
theorem quiet_left {P : Program} {f : FuncId} {args : Array Value} {w : World} {n : Nat} {v : Value}
    (h : Calls P f args (w.drewN n) fun e w' => e = .returned v ∧ w.drewN n = w') : Calls P f args (w.drewN n) fun e w'' => e = .returned v ∧ ∃ m, w'' = w.drewN m :=
  h.mono fun _ _ ⟨he, hm⟩ => ⟨he, n, hm.symm⟩
set_option maxHeartbeats 1000000 in
theorem sHas_any (A : Option Addr) (n c : Nat) (xs : List Int) (v : Int) (B : Nat) (w : World) (h : SlI w B A n xs) (hn : n ≤ 4294967296) :
    Calls Try.prog 89 #[.slice A n c, .int .i64 v] w fun e w' => e = .returned (.bool (decide (v ∈ xs))) ∧ w' = w := by
  have hl := Lib.hid h.len
  have H := Lib.hid h; clear h
  go_enter Try.func89, Try.ntmps89
  go_wp2_with fail
  go_loopg [5] n (fun m i wr => ∃ k : Nat, i = .int .i64 k ∧ k ≤ n ∧ n ≤ m + k ∧ Hid (v ∉ xs.take k) ∧ wr = w)
  case atStart => exact ⟨0, rfl, by omega, by omega, by show _ ∉ _; simp, rfl⟩
  case round =>
    obtain ⟨k, rfl, hk, hm, hno, rfl⟩ := hrel
    by_cases hlt : k < n
    · obtain ⟨b, off, x, rfl, hbB, hx, hc⟩ := H.out.at_ hlt
      have l1 : (0 : Int) ≤ (k : Int) := by omega
      by_cases hq : x = v
      · have HM : Hid (decide (v ∈ xs) = true) := decide_eq_true (hq ▸ List.mem_of_getElem? hx.out)
        go_wp2_with fail
        go_ret
        exact ⟨ret_bool HM.out.symm, rfl⟩
      · have HM : Hid (v ∉ xs.take (k + 1)) := mem_take_succ hx.out hno.out hq
        go_wp2_with fail
        go_roundg (gk - 1)
        case measure => omega
        case rel => exact ⟨k + 1, by go_num, by omega, by omega, HM, rfl⟩
    · obtain rfl : n = k := by omega
      have HM : Hid (decide (v ∈ xs) = false) := decide_eq_false (by have := hno.out; rw [take_all hl.out] at this; exact this)
      go_wp2_with fail
      go_ret
      exact ⟨ret_bool HM.out.symm, rfl⟩
set_option maxHeartbeats 1000000 in
theorem iIndex_any (A : Option Addr) (n c : Nat) (xs : List Int) (v : Int) (B : Nat) (w : World) (h : SlI w B A n xs) (hn : n ≤ 4294967296) :
    Calls Try.prog 60 #[.slice A n c, .int .i64 v] w fun e w' => ∃ z : Int, e = .returned (.int .i64 z) ∧ ((z = -1 ∧ v ∉ xs) ∨ ∃ k : Nat, z = (k : Int) ∧ k < n ∧ xs[k]? = some v ∧ v ∉ xs.take k) ∧ w' = w := by
  have hl := Lib.hid h.len
  have H := Lib.hid h; clear h
  go_enter Try.func60, Try.ntmps60
  go_wp2_with fail
  go_loopg [8] n (fun m i wr => ∃ k : Nat, i = .int .i64 k ∧ k ≤ n ∧ n ≤ m + k ∧ Hid (v ∉ xs.take k) ∧ wr = w)
  case atStart => exact ⟨0, rfl, by omega, by omega, by show _ ∉ _; simp, rfl⟩
  case round =>
    obtain ⟨k, rfl, hk, hm, hno, rfl⟩ := hrel
    by_cases hlt : k < n
    · obtain ⟨b, off, x, rfl, hbB, hx, hc⟩ := H.out.at_ hlt
      have l1 : (0 : Int) ≤ (k : Int) := by omega
      by_cases hq : v = x
      · have HM : Hid (xs[k]? = some v) := by show _ = _; rw [hq]; exact hx.out
        go_wp2_with fail
        go_ret
        exact ⟨k, rfl, .inr ⟨k, rfl, hlt, HM.out, hno.out⟩, rfl⟩
      · have HM : Hid (v ∉ xs.take (k + 1)) := mem_take_succ hx.out hno.out (fun e => hq e.symm)
        go_wp2_with fail
        go_roundg (gk - 1)
        case measure => omega
        case rel => exact ⟨k + 1, by go_num, by omega, by omega, HM, rfl⟩
    · obtain rfl : n = k := by omega
      have HM : Hid (v ∉ xs) := by have := hno.out; rw [take_all hl.out] at this; exact this
      go_wp2_with fail
      go_ret
      exact ⟨-1, rfl, .inl ⟨rfl, HM.out⟩, rfl⟩
theorem iContains_any (A : Option Addr) (n c : Nat) (xs : List Int) (v : Int) (B : Nat) (w : World) (h : SlI w B A n xs) (hn : n ≤ 4294967296) :
    Calls Try.prog 90 #[.slice A n c, .int .i64 v] w fun e w' => e = .returned (.bool (decide (v ∈ xs))) ∧ w' = w := by
  have hI := iIndex_any A n c xs v B w h hn
  clear h
  go_enter Try.func90, Try.ntmps90
  go_wp2_with fail
  refine hI.mono ?_
  rintro e w' ⟨z, rfl, hz, hw⟩
  obtain rfl := hw
  rcases hz with ⟨rfl, hno⟩ | ⟨k, rfl, hk, hx, _⟩
  · have HM : Hid (decide (v ∈ xs) = false) := decide_eq_false hno
    clear hI
    go_wp2_with fail
    go_ret
    exact ⟨ret_bool HM.out.symm, rfl⟩
  · have HM : Hid (decide (v ∈ xs) = true) := decide_eq_true (List.mem_of_getElem? hx)
    have l1 : (0 : Int) ≤ (k : Int) := by omega
    clear hI hx
    go_wp2_with fail
    go_ret
    exact ⟨ret_bool HM.out.symm, rfl⟩
theorem iBytes_any (A : Option Addr) (n c : Nat) (xs : List Int) (B : Nat) (w : World) (h : SlI w B A n xs) (hn : n ≤ 4294967296) :
    Calls Try.prog 57 #[.slice A n c] w fun e w' => e = .returned (.bool (allIn xs 0 255)) ∧ w = w' := by
  have H := Lib.hid h; clear h
  go_enter Try.func57, Try.ntmps57
  go_wp2_with (first | (go_at_call 88; refine (iAllIn_any _ _ _ _ _ _ _ _ H.out hn).mono ?_; rintro e w' ⟨rfl, rfl⟩))
  go_ret
  exact ⟨rfl, rfl⟩
set_option maxHeartbeats 1000000 in
theorem iFeat_any (A : Option Addr) (n c : Nat) (xs : List Int) (B : Nat) (w : World) (h : SlI w B A n xs) (hn : n ≤ 4294967296) (hnc : n ≤ c) :
    Calls Try.prog 56 #[.slice A n c] w fun e w' => e = .returned (.bool (feB xs)) ∧ w' = w := by
  have hl := Lib.hid h.len
  have H := Lib.hid h; clear h
  go_enter Try.func56, Try.ntmps56
  go_wp2_with fail
  go_loopg [7] n (fun m i wr => ∃ k : Nat, i = .int .i64 k ∧ k ≤ n ∧ n ≤ m + k ∧ Hid ((xs.take k).Nodup) ∧ wr = w)
  case atStart => exact ⟨0, rfl, by omega, by omega, by show (List.take 0 xs).Nodup; simp, rfl⟩
  case round =>
    obtain ⟨k, rfl, hk, hm, hno, rfl⟩ := hrel
    by_cases hlt : k < n
    · obtain ⟨b, off, x, rfl, hbB, hx, hc⟩ := H.out.at_ hlt
      have l1 : (0 : Int) ≤ (k : Int) := by omega
      have hC := iContains_any (some ⟨b, off, none⟩) k c (xs.take k) x B _ (H.out.take hk) (by omega)
      by_cases hq : x ∈ xs.take k
      · have HM := Lib.hid (feB_dup (nodup_no hx.out hq))
        rw [decide_eq_true hq] at hC
        clear hq
        go_wp2_with (first | (go_at_call 90; refine hC.mono ?_; rintro e w' ⟨rfl, hw⟩; obtain rfl := hw; clear hC))
        go_ret
        exact ⟨ret_bool HM.out.symm, rfl⟩
      · have HM : Hid ((xs.take (k + 1)).Nodup) := nodup_succ hno.out hx.out hq
        rw [decide_eq_false hq] at hC
        clear hq
        go_wp2_with (first | (go_at_call 90; refine hC.mono ?_; rintro e w' ⟨rfl, hw⟩; obtain rfl := hw; clear hC))
        go_roundg (gk - 1)
        case measure => omega
        case rel => exact ⟨k + 1, by go_num, by omega, by omega, HM, rfl⟩
    · obtain rfl : n = k := by omega
      have hnd : xs.Nodup := by have := hno.out; rw [take_all hl.out] at this; exact this
      have HD := Lib.hid hnd; clear hnd hno
      by_cases h1 : 1 ≤ n
      · by_cases h4 : n ≤ 4
        · have HM := Lib.hid (feB_nodup HD.out (by rw [hl.out]; omega))
          go_wp2_with (first | (go_at_call 57; refine (iBytes_any _ _ _ _ _ _ H.out hn).mono ?_; rintro e w' ⟨rfl, hw⟩; subst hw))
          go_ret
          exact ⟨ret_bool HM.out.symm, rfl⟩
        · have HM := Lib.hid (feB_len (fs := xs) (by rw [hl.out]; omega))
          have h4' : 4 < n := by omega
          clear h4
          go_wp2_with fail
          go_ret
          exact ⟨ret_bool HM.out.symm, rfl⟩
      · have HM := Lib.hid (feB_len (fs := xs) (by rw [hl.out]; omega))
        obtain rfl : n = 0 := by omega
        go_wp2_with fail
        go_ret
        exact ⟨ret_bool HM.out.symm, rfl⟩
theorem feB_zero {fs : List Int} {k : Nat} {x : Int} (hx : fs[k]? = some x) (h : inB x 0 255 = false) : feB fs = false := feB_in (by rw [← allIn_no hx (by rw [h]; simp)])
set_option maxHeartbeats 1000000 in
theorem sFeat_any (A : Option Addr) (n c : Nat) (xs : List Int) (B : Nat) (w : World) (h : SlI w B A n xs) (hn : n ≤ 4294967296) (hnc : n ≤ c) :
    Calls Try.prog 54 #[.slice A n c] w fun e w' => e = .returned (.bool (feB xs)) ∧ Below w.heap.size w w' := by
  have hl := Lib.hid h.len
  have H := Lib.hid h; clear h
  go_enter Try.func54, Try.ntmps54
  go_wp2_with fail
  go_loopg [6] n (fun m i wr => ∃ k : Nat, i = .int .i64 k ∧ k ≤ n ∧ n ≤ m + k ∧ Hid ((xs.take k).Nodup ∧ allIn (xs.take k) 0 255 = true) ∧ Below w.heap.size w wr ∧ SlI wr B A n xs)
  case atStart => exact ⟨0, rfl, by omega, by omega, ⟨by simp, rfl⟩, Below.refl _ _, H.out⟩
  case round =>
    obtain ⟨k, rfl, hk, hm, hno, hb, hsl⟩ := hrel
    have HS := Lib.hid hsl; clear hsl
    by_cases hlt : k < n
    · obtain ⟨b, off, x, rfl, hbB, hx, hc⟩ := HS.out.at_ hlt
      have l1 : (0 : Int) ≤ (k : Int) := by omega
      have l2 : (k : Int) < (n : Int) := by omega
      have l3 : (k : Int) ≤ (c : Int) := by omega
      have hC := fun q => sHas_any (some ⟨b, off, none⟩) k c (xs.take k) x B _ (SlV.drewN (HS.out.take hk) q) (by omega)
      have hI := sIn_any x 0 255
      cases hin : inB x 0 255 with
      | false =>
        have HM := Lib.hid (feB_zero hx.out hin)
        rw [hin] at hI
        clear hC hin
        go_wp2_with fail
        go_quiet ((go_at_call 55; exact quiet_left (hI _)))
        go_wp2_with fail
        go_ret
        exact ⟨ret_bool HM.out.symm, below_draws hb _⟩
      | true =>
        rw [hin] at hI
        by_cases hq : x ∈ xs.take k
        · have HM := Lib.hid (feB_dup (nodup_no hx.out hq))
          rw [decide_eq_true hq] at hC
          clear hq hin
          go_wp2_with fail
          go_quiet ((first | (go_at_call 55; exact quiet_left (hI _)) | (go_at_call 89; exact Calls.quiet_of_same (hC _))))
          go_wp2_with fail
          go_ret
          exact ⟨ret_bool HM.out.symm, below_draws hb _⟩
        · have HM : Hid ((xs.take (k + 1)).Nodup ∧ allIn (xs.take (k + 1)) 0 255 = true) := ⟨nodup_succ hno.out.1 hx.out hq, allIn_take hno.out.2 hx.out hin⟩
          rw [decide_eq_false hq] at hC
          clear hq hin
          go_wp2_with fail
          go_quiet ((first | (go_at_call 55; exact quiet_left (hI _)) | (go_at_call 89; exact Calls.quiet_of_same (hC _))))
          go_wp2_with fail
          go_roundg (gk - 1)
          case measure => omega
          case rel => exact ⟨k + 1, by go_num, by omega, by omega, HM, below_draws hb _, SlV.drewN HS.out _⟩
    · obtain rfl : n = k := by omega
      have hnd : xs.Nodup ∧ allIn xs 0 255 = true := by have := hno.out; rw [take_all hl.out] at this; exact this
      have HD := Lib.hid hnd; clear hnd hno
      have HE : Hid (decide (1 ≤ n) = true → decide (n ≤ 4) = true → feB xs = true) := by
        intro h1 h4
        rw [feB_nodup HD.out.1 (by rw [hl.out]; exact ⟨of_decide_eq_true h1, of_decide_eq_true h4⟩)]; exact HD.out.2
      by_cases h1 : 1 ≤ n
      · by_cases h4 : n ≤ 4
        · have HM := Lib.hid (HE.out (decide_eq_true h1) (decide_eq_true h4))
          go_wp2_with fail
          go_ret
          exact ⟨ret_bool (by rw [HM.out]; exact decide_eq_true (by omega)), hb⟩
        · have HM := Lib.hid (feB_len (fs := xs) (by rw [hl.out]; omega))
          have h4' : 4 < n := by omega
          clear h4
          go_wp2_with fail
          go_ret
          exact ⟨ret_bool (by rw [HM.out]; exact decide_eq_false (by omega)), hb⟩
      · have HM := Lib.hid (feB_len (fs := xs) (by rw [hl.out]; omega))
        obtain rfl : n = 0 := by omega
        go_wp2_with fail
        go_ret
        exact ⟨ret_bool HM.out.symm, hb⟩
end Go.Proofs.Ytcmnhnapnnpbdaa
