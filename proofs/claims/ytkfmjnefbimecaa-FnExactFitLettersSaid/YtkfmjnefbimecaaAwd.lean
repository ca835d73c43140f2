/- areWords of the program. -/
import Derived.Test.YtkfmjnefbimecaaSsl
import Derived.Test.YtkfmjnefbimecaaWrd
namespace Go.Proofs.Ytkfmjnefbimecaa
open Go.RowKit
set_option linter.unusedVariables false
theorem allW_take {α : Type} {f : α → Bool} {ws : List α} {k : Nat} {x : α} (h : ws[k]? = some x) (h1 : (ws.take k).all f = true) (h2 : f x = true) : (ws.take (k + 1)).all f = true := by
  obtain ⟨hk, rfl⟩ := List.getElem?_eq_some_iff.1 h
  rw [List.take_succ_eq_append_getElem hk, List.all_append, h1]
  simp [h2]
theorem allW_no {α : Type} {f : α → Bool} {ws : List α} {k : Nat} {x : α} (h : ws[k]? = some x) (h2 : f x = false) : ws.all f = false := by
  rw [List.all_eq_false]
  exact ⟨x, List.mem_of_getElem? h, by simp [h2]⟩
set_option maxHeartbeats 1000000 in
theorem iAreWords_any (A : Option Addr) (n c : Nat) (ws : List (List Int)) (T : Int) (w : World) (h : SlL w w.heap.size A n ws) (hn : n ≤ 4294967296) (hm : ∀ r ∈ ws, r.length ≤ 4294967296) :
    Calls Try.prog 115 #[.slice A n c, .int .i64 T] w fun e w' => e = .returned (.bool (ws.all (fun xs => wordB xs T))) ∧ w = w' := by
  have hl := Lib.hid h.len
  have H := Lib.hid h; clear h
  have HM := Lib.hid hm; clear hm
  go_enter Try.func115, Try.ntmps115
  go_wp2_with fail
  go_loopg [9] n (fun m i wr => ∃ k : Nat, k ≤ n ∧ n ≤ m + k ∧ i = .int .i64 k ∧ Hid ((ws.take k).all (fun xs => wordB xs T) = true) ∧ wr = w)
  case atStart => exact ⟨0, by omega, by omega, rfl, by show _ = _; simp, rfl⟩
  case round =>
    obtain ⟨k, hk, hm, rfl, ha, rfl⟩ := hrel
    by_cases hlt : k < n
    · obtain ⟨b, off, A', c', x, rfl, hbB, hx, hc, hxs, hxm⟩ := H.out.at_ hlt
      have hT := iIsWord_any A' x.length c' x T wr hxs.out (HM.out x (List.mem_of_getElem? hx.out))
      have l1 : (0 : Int) ≤ (k : Int) := by omega
      cases q : wordB x T with
      | true =>
        rw [q] at hT
        have HQ := Lib.hid q; clear q
        go_wp2_with (first | (go_at_call 52; refine hT.mono ?_; rintro e w2 ⟨rfl, hw⟩; obtain rfl := hw; clear hT))
        go_roundg (gk - 1)
        case measure => omega
        case rel => exact ⟨k + 1, by omega, by omega, by go_num, allW_take hx.out ha.out HQ.out, rfl⟩
      | false =>
        rw [q] at hT
        have HQ := Lib.hid q; clear q
        go_wp2_with (first | (go_at_call 52; refine hT.mono ?_; rintro e w2 ⟨rfl, hw⟩; obtain rfl := hw; clear hT))
        go_ret
        exact ⟨ret_bool (allW_no (f := fun xs => wordB xs T) hx.out HQ.out).symm, rfl⟩
    · obtain rfl : n = k := by omega
      go_wp2_with fail
      go_ret
      refine ⟨ret_bool ?_, rfl⟩
      have := ha.out
      rw [take_all hl.out] at this
      exact this.symm
end Go.Proofs.Ytkfmjnefbimecaa
