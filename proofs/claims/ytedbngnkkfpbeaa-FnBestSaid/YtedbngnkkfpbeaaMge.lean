/- Several texts in one: Two texts, and costs: what the predicates return. Small words that many texts want. -/
import Derived.Test.YtedbngnkkfpbeaaMga
import Derived.Deep.LoopGhost
import Derived.Deep.QuietTactic
import Derived.BigQuiet

namespace Go.Proofs.Ytedbngnkkfpbeaa
open Go.RowKit
set_option linter.unusedVariables false

def allIn (xs : List Int) (lo hi : Int) : Bool := xs.all fun x => inB x lo hi
theorem allIn_take {xs : List Int} {lo hi x : Int} {k : Nat} (h : allIn (xs.take k) lo hi = true) (hx : xs[k]? = some x) (hi' : inB x lo hi = true) : allIn (xs.take (k + 1)) lo hi = true := by
  unfold allIn at *
  obtain ⟨hk, rfl⟩ := List.getElem?_eq_some_iff.1 hx
  rw [List.take_succ_eq_append_getElem hk, List.all_append, h]
  simpa using hi'
theorem allIn_no {xs : List Int} {lo hi x : Int} {k : Nat} (hx : xs[k]? = some x) (hi' : ¬ inB x lo hi = true) : false = allIn xs lo hi := by
  unfold allIn
  rw [eq_comm, List.all_eq_false]
  exact ⟨x, List.mem_of_getElem? hx, by simpa using hi'⟩
theorem allIn_full {xs : List Int} {lo hi : Int} {n : Nat} (h : allIn (xs.take n) lo hi = true) (hn : xs.length = n) : true = allIn xs lo hi := by
  rw [List.take_of_length_le (by omega)] at h; exact h.symm

set_option maxHeartbeats 400000 in
theorem iAllIn_any (A : Option Addr) (n c : Nat) (xs : List Int) (lo hi : Int) (B : Nat) (w : World) (h : SlI w B A n xs) (hn : n ≤ 4294967296) :
    Calls Try.prog 60 #[.slice A n c, .int .i64 lo, .int .i64 hi] w fun e w' => e = .returned (.bool (allIn xs lo hi)) ∧ w = w' := by
  have hl := Lib.hid h.len
  have H := Lib.hid h; clear h
  go_enter Try.func60, Try.ntmps60
  go_wp2
  go_loop [11] (fun i => ∃ k : Nat, k ≤ n ∧ i = .int .i64 k ∧ allIn (xs.take k) lo hi = true) (fun i => n - (intOf i).toNat)
  case atStart => exact ⟨0, by omega, rfl, rfl⟩
  case round =>
    obtain ⟨k, hk, rfl, ha⟩ := hrel
    have HA := Lib.hid ha; clear ha
    by_cases hlt : k < n
    · obtain ⟨b, off, x, rfl, hbB, hx, hc⟩ := H.out.at_ hlt
      by_cases hin : inB x lo hi = true
      · go_wp2_with (first | (go_at_call 39; refine (iIn_any _ _ _ _).mono ?_; rintro e w' ⟨rfl, rfl⟩))
        go_round
        case rel => exact ⟨k + 1, by omega, by go_num, allIn_take HA.out hx.out hin⟩
        case measure => simp [intOf]; omega
      · go_wp2_with (first | (go_at_call 39; refine (iIn_any _ _ _ _).mono ?_; rintro e w' ⟨rfl, rfl⟩))
        go_ret
        exact ⟨ret_bool (allIn_no hx.out hin), rfl⟩
    · obtain rfl : n = k := by omega
      go_wp2
      go_ret
      exact ⟨ret_bool (allIn_full HA.out hl.out), rfl⟩
end Go.Proofs.Ytedbngnkkfpbeaa


namespace Go.Proofs.Ytedbngnkkfpbeaa
open Go.RowKit
set_option linter.unusedVariables false
theorem quietL {P : Program} {f : FuncId} {args : Array Value} {w : World} {n : Nat} {v : Value}
    (h : Calls P f args (w.drewN n) fun e w' => e = .returned v ∧ w.drewN n = w') : Calls P f args (w.drewN n) fun e w'' => e = .returned v ∧ ∃ m, w'' = w.drewN m :=
  h.mono fun _ _ ⟨he, hm⟩ => ⟨he, n, hm.symm⟩
theorem infoQ : (Try.prog.info? 2).map (fun i => (i.zero, i.size, i.bytes)) = some (some (.int .i64 0), 1, 8) := by kernel_rfl
theorem allT {α : Type} {p : α → Bool} {L : List α} {k : Nat} {a : α} (h : (L.take k).all p = true) (ha : L[k]? = some a) (hp : p a = true) : (L.take (k + 1)).all p = true := by
  obtain ⟨hk, rfl⟩ := List.getElem?_eq_some_iff.1 ha
  rw [List.take_succ_eq_append_getElem hk, List.all_append, h]
  simp [hp]
theorem allN {α : Type} {p : α → Bool} {L : List α} {k : Nat} {a : α} (ha : L[k]? = some a) (hp : p a = false) : L.all p = false := by
  rw [List.all_eq_false]
  exact ⟨a, List.mem_of_getElem? ha, by simp [hp]⟩
end Go.Proofs.Ytedbngnkkfpbeaa
