/- Several texts in one: Least edits with swaps: the table of the reference. Costs with swaps of a list of texts, and NearShared, in both programs. -/
import Derived.Test.YtkfmjnefbimecaaMga
import Derived.Test.YtkfmjnefbimecaaTab
import Derived.Test.YtkfmjnefbimecaaMgc
import Derived.Deep.QuietTactic
import Derived.BigQuiet
import Derived.Deep.Cut
import Derived.Test.YtkfmjnefbimecaaCsT
import Derived.Test.YtkfmjnefbimecaaSw
import Derived.Deep.LoopGhost

namespace Go.Proofs.Ytkfmjnefbimecaa
open Go.RowKit Go.PlainAid
set_option linter.unusedVariables false
theorem infoI4 : (Try.prog.info? 2).map (fun i => (i.zero, i.size, i.bytes)) = some (some (.int .i64 0), 1, 8) := by kernel_rfl
theorem infoS4 : (Try.prog.info? 26).map (fun i => (i.zero, i.size, i.bytes)) = some (some (.slice none 0 0), 1, 24) := by kernel_rfl
theorem bx2 {x y : Int} (h : x = y) : (x == y) = true := by simp [h]
theorem by2 {x y : Int} (h : x ≠ y) : (x == y) = false := by simp [h]
theorem push_val {w : World} {b : Nat} {t : TypeId} {v : Value} {r : List Int} {x y : Int} (h : RowI w b t v (r ++ [x])) (e : y = x) : RowI w b t v (r ++ [y]) := e ▸ h
theorem wp_gen2 {P : Program} {c : Code} {Q : Exit → Act → World → Prop} {a : Act} {w : World} (I : World → Prop) (h : I w) (k : ∀ w', I w' → Code.wp P c Q a w') : Code.wp P c Q a w := k w h

end Go.Proofs.Ytkfmjnefbimecaa


namespace Go.Proofs.Ytkfmjnefbimecaa
open Go.RowKit Go.PlainAid
set_option linter.unusedVariables false
def nrs (ss : List ByteArray) (t : ByteArray) : List Int := ss.map fun s => sw s t s.size t.size
theorem nrs_take {ss : List ByteArray} {t : ByteArray} {k : Nat} {x : ByteArray} (h : ss[k]? = some x) : nrs (ss.take (k + 1)) t = nrs (ss.take k) t ++ [sw x t x.size t.size] := by
  obtain ⟨hk, rfl⟩ := List.getElem?_eq_some_iff.1 h
  rw [List.take_succ_eq_append_getElem hk, nrs, List.map_append]; rfl
theorem nrs_length (ss : List ByteArray) (t : ByteArray) : (nrs ss t).length = ss.length := by simp [nrs]
theorem infoI7 : (Try.prog.info? 2).map (fun i => (i.zero, i.size, i.bytes)) = some (some (.int .i64 0), 1, 8) := by kernel_rfl
theorem txt_all {ss : List ByteArray} {k : Nat} {x : ByteArray} (h : ss.all txtB = true) (hx : ss[k]? = some x) : x.size ≤ 48 :=
  txtB_true (List.all_eq_true.1 h x (List.mem_of_getElem? hx))
def nsB (ss : List ByteArray) (t : ByteArray) : Bool := ltB ss && txtB t
/-- What both hand out: a row of the call's own that reads as the costs, or nil. -/
def NsOut (w : World) (base : Nat) (v : Value) (ok : Bool) (r : List Int) : Prop := if ok then RowI w base 2 v r else v = .slice none 0 0
set_option maxHeartbeats 1000000 in
theorem iSwapCosts_any (A : Option Addr) (n c : Nat) (ss : List ByteArray) (t : ByteArray) (w : World) (h : SlS w w.heap.size A n ss) (hn : n ≤ maxLen) (wt : t.size ≤ maxLen) :
    Calls Try.prog 90 #[.slice A n c, .string t] w fun e w' => ∃ v, e = .returned (.tuple #[v, .bool (nsB ss t)]) ∧ NsOut w' w.heap.size v (nsB ss t) (nrs ss t) ∧ Below w.heap.size w w' := by
  have hl := Lib.hid h.len
  have hL := iTexts_any A n c ss w w.heap.size h hn
  have H := Lib.hid h; clear h
  by_cases hlt : ltB ss = true
  · by_cases htt : txtB t = true
    · have hlt2 : decide (ss.length ≤ 32) = true ∧ ss.all txtB = true := by
        have h : (decide (ss.length ≤ 32) && ss.all txtB) = true := hlt
        rw [Bool.and_eq_true] at h
        exact h
      have h32 : n ≤ 32 := by have := of_decide_eq_true hlt2.1; rw [hl.out] at this; exact this
      have HT := Lib.hid hlt2.2
      clear hlt2
      have ht := txtB_true htt
      have hB := Lib.hid (show nsB ss t = true by rw [nsB, hlt, htt]; rfl)
      rw [hlt] at hL
      clear hlt
      unfold maxLen at hn
      go_enter Try.func90, Try.ntmps90
      go_wp2_with (first | (go_at_call 92; refine hL.mono ?_; rintro e w' ⟨rfl, hw⟩; obtain rfl := hw.symm; clear hL) | (go_at_call 79; refine (iIsText_any _ wt _).mono ?_; rintro e w' ⟨rfl, hw⟩; subst hw))
      go_loopg [6, 20] n (fun m o i wr => ∃ k : Nat, i = .int .i64 k ∧ k ≤ n ∧ n ≤ m + k ∧ RowI wr w.heap.size 2 o (nrs (ss.take k) t) ∧ Below w.heap.size w wr)
      case atStart => exact ⟨0, rfl, by omega, by omega, RowI.made _ _ _ (Nat.le_refl _), (Below.refl _ _).alloc (Nat.le_refl _) _⟩
      case round =>
        obtain ⟨k, rfl, hk, hm, hr, hb⟩ := hrel
        have HR := Lib.hid hr; clear hr
        have hs1 := hb.size
        by_cases hlt : k < n
        · obtain ⟨b, off, x, rfl, hbB, hx, hc, hxs⟩ := (H.out.below hb (Nat.le_refl _)).at_ hlt
          have hx48 := txt_all HT.out hx.out
          have l1 : (0 : Int) ≤ (k : Int) := by omega
          have hS := iSwap_any x t hx48 ht wr
          obtain ⟨z, hz⟩ : ∃ z, z = sw x t x.size t.size := ⟨_, rfl⟩
          rw [← hz] at hS
          have HZ := Lib.hid hz; clear hz
          have hrl : Hid ((nrs (ss.take k) t).length = k) := by show _ = k; rw [nrs_length, List.length_take, hl.out]; omega
          go_wp2_with (first
            | (go_at_call 84; refine hS.mono ?_; rintro e w2 ⟨rfl, hb2⟩; clear hS; have HR2 := Lib.hid (HR.out.keep hb2 (Nat.le_refl _)); have hs2 : w.heap.size ≤ w2.heap.size := Nat.le_trans hs1 hb2.size)
            | (at_builtin; refine wpList_int_push _ rfl (.tmp 24) (.tmp 28) _ rfl w.heap.size 2 Try.underlying26 infoI7 _ (nrs (ss.take k) t) rfl HR2.out _ rfl (by rw [hrl.out]; omega) hs2 ?_; intro g' cap w' hown hbl hat hgr))
          go_roundg (gk - 1)
          case measure => omega
          case rel => exact ⟨k + 1, by go_num, by omega, by omega, by rw [nrs_take hx.out, ← HZ.out]; exact hown, (hb.trans (hb2.mono hs1)).trans hbl⟩
        · obtain rfl : n = k := by omega
          go_wp2
          go_ret2
          have := HR.out
          rw [take_all hl.out] at this
          exact ⟨_, by rw [hB.out]; rfl, by rw [NsOut, hB.out]; exact this, hb⟩
    · have htt' : txtB t = false := by simpa using htt
      have hB := Lib.hid (show nsB ss t = false by rw [nsB, htt', Bool.and_false])
      rw [hlt] at hL
      clear hlt
      go_enter Try.func90, Try.ntmps90
      go_wp2_with (first | (go_at_call 92; refine hL.mono ?_; rintro e w' ⟨rfl, hw⟩; obtain rfl := hw.symm; clear hL) | (go_at_call 79; refine (iIsText_any _ wt _).mono ?_; rintro e w' ⟨rfl, hw⟩; subst hw))
      go_ret2
      exact ⟨_, by rw [hB.out]; rfl, by rw [NsOut, hB.out]; rfl, Below.refl _ _⟩
  · have hlt' : ltB ss = false := by simpa using hlt
    have hB := Lib.hid (show nsB ss t = false by rw [nsB, hlt', Bool.false_and])
    rw [hlt'] at hL
    clear hlt hlt'
    go_enter Try.func90, Try.ntmps90
    go_wp2_with (first | (go_at_call 92; refine hL.mono ?_; rintro e w' ⟨rfl, hw⟩; obtain rfl := hw.symm; clear hL))
    go_ret2
    exact ⟨_, by rw [hB.out]; rfl, by rw [NsOut, hB.out]; rfl, Below.refl _ _⟩
end Go.Proofs.Ytkfmjnefbimecaa
