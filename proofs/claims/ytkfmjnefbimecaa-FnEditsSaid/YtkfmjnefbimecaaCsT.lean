/- Lists of texts: what the predicates of both programs return. -/
import Derived.Test.YtkfmjnefbimecaaMga
import Derived.Test.YtkfmjnefbimecaaCpS

namespace Go.Proofs.Ytkfmjnefbimecaa
open Go.RowKit Go.PlainAid
set_option linter.unusedVariables false
def ltB (ss : List ByteArray) : Bool := decide (ss.length ≤ 32) && ss.all txtB
theorem all_at {ss : List ByteArray} {k : Nat} {x : ByteArray} (hx : ss[k]? = some x) (h : txtB x = false) : ss.all txtB = false := by
  rcases Bool.eq_false_or_eq_true (ss.all txtB) with h' | h'
  · have := List.all_eq_true.1 h' x (List.mem_of_getElem? hx)
    rw [h] at this; cases this
  · exact h'
theorem all_take_succ {ss : List ByteArray} {k : Nat} {x : ByteArray} (h : (ss.take k).all txtB = true) (hx : ss[k]? = some x) (h1 : txtB x = true) : (ss.take (k + 1)).all txtB = true := by
  obtain ⟨hk, rfl⟩ := List.getElem?_eq_some_iff.1 hx
  rw [List.take_succ_eq_append_getElem hk, List.all_append, h]
  simp [h1]
theorem iNotText (t : ByteArray) (ht : t.size ≤ maxLen) (w : World) :
    Calls Try.prog 122 #[.string t] w fun e w' => e = .returned (.bool (!txtB t)) ∧ w' = w := by
  go_enter Try.func122, Try.ntmps122
  go_wp2_with (first | (go_at_call 79; refine (iIsText_any _ ht _).mono ?_; rintro e w' ⟨rfl, rfl⟩))
  go_ret
  exact ⟨rfl, rfl⟩
set_option maxHeartbeats 400000 in
theorem iIndexNot (A : Option Addr) (n c : Nat) (ss : List ByteArray) (w : World) (B : Nat) (h : SlS w B A n ss) (hn : n ≤ 4294967296) :
    Calls Try.prog 140 #[.slice A n c, .func (.func 122) #[] #[]] w fun e w' => ∃ z : Int, e = .returned (.int .i64 z) ∧ (0 ≤ z ↔ ss.all txtB = false) ∧ -1 ≤ z ∧ z ≤ 4294967296 ∧ w' = w := by
  have hl := Lib.hid h.len
  have H := Lib.hid h; clear h
  go_enter Try.func140, Try.ntmps140
  go_wp2
  go_loopg [8] n (fun m i wr => ∃ k : Nat, i = .int .i64 k ∧ k ≤ n ∧ n ≤ m + k ∧ (ss.take k).all txtB = true ∧ wr = w)
  case atStart => exact ⟨0, rfl, by omega, by omega, rfl, rfl⟩
  case round =>
    obtain ⟨k, rfl, hk, hm, ha, rfl⟩ := hrel
    have HA := Lib.hid ha; clear ha
    by_cases hlt : k < n
    · obtain ⟨b, off, x, rfl, hbB, hx, hc, hxs⟩ := H.out.at_ hlt
      have l1 : (0 : Int) ≤ (k : Int) := by omega
      by_cases ht : txtB x = true
      · have HT := Lib.hid (all_take_succ HA.out hx.out ht)
        go_wp2_with (first | (go_at_call 122; refine (iNotText _ hxs _).mono ?_; rintro e w' ⟨rfl, rfl⟩))
        go_roundg (gk - 1)
        case measure => omega
        case rel => exact ⟨k + 1, by go_num, by omega, by omega, HT.out, rfl⟩
      · have ht' : txtB x = false := by simpa using ht
        have HT := Lib.hid (all_at hx.out ht')
        clear ht
        go_wp2_with (first | (go_at_call 122; refine (iNotText _ hxs _).mono ?_; rintro e w' ⟨rfl, rfl⟩))
        go_ret
        exact ⟨k, rfl, ⟨fun _ => HT.out, fun _ => by omega⟩, by omega, by omega, rfl⟩
    · obtain rfl : n = k := by omega
      have HT := Lib.hid (show ss.all txtB = true by have := HA.out; rw [take_all hl.out] at this; exact this)
      go_wp2
      go_ret
      exact ⟨-1, rfl, ⟨fun h => by omega, fun h => by rw [HT.out] at h; cases h⟩, by omega, by omega, rfl⟩
theorem iHasNot (A : Option Addr) (n c : Nat) (ss : List ByteArray) (w : World) (B : Nat) (h : SlS w B A n ss) (hn : n ≤ 4294967296) :
    Calls Try.prog 121 #[.slice A n c, .func (.func 122) #[] #[]] w fun e w' => e = .returned (.bool (!ss.all txtB)) ∧ w' = w := by
  have hI := fun w (h : SlS w B A n ss) => iIndexNot A n c ss w B h hn
  have H := Lib.hid h; clear h
  go_enter Try.func121, Try.ntmps121
  go_wp2_with (first | (go_at_call 140; refine (hI _ H.out).mono ?_; rintro e w' ⟨z, rfl, hz, hz0, hz1, rfl⟩; clear hI; have HZ := Lib.hid hz; clear hz))
  go_ret
  refine ⟨ret_bool ?_, rfl⟩
  rcases Bool.eq_false_or_eq_true (ss.all txtB) with h' | h'
  · have : ¬ 0 ≤ z := fun h => by have := HZ.out.1 h; rw [h'] at this; cases this
    simp [h']; omega
  · have := HZ.out.2 h'
    simp [h', this]
theorem iTexts_any (A : Option Addr) (n c : Nat) (ss : List ByteArray) (w : World) (B : Nat) (h : SlS w B A n ss) (hn : n ≤ maxLen) :
    Calls Try.prog 92 #[.slice A n c] w fun e w' => e = .returned (.bool (ltB ss)) ∧ w' = w := by
  have hl := Lib.hid h.len
  unfold maxLen at hn
  by_cases h32 : n ≤ 32
  · have hI := iHasNot A n c ss w B h (by omega)
    have HB := Lib.hid (show ltB ss = ss.all txtB by simp [ltB, hl.out, h32])
    clear h
    go_enter Try.func92, Try.ntmps92
    go_wp2_with (first | (go_at_call 121; refine hI.mono ?_; rintro e w' ⟨rfl, rfl⟩; clear hI))
    go_ret
    exact ⟨ret_bool (by simp [HB.out]), rfl⟩
  · have HB := Lib.hid (show ltB ss = false by simp [ltB, hl.out]; omega)
    have h32' : 32 < n := by omega
    clear h h32
    go_enter Try.func92, Try.ntmps92
    go_wp2
    go_ret
    exact ⟨ret_bool HB.out.symm, rfl⟩
end Go.Proofs.Ytkfmjnefbimecaa
