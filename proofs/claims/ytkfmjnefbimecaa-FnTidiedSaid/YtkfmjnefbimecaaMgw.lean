/- Several texts in one: EitherOf of the program. JoinedOf of the program. CostOf of the reference, whole; both contracts as the law's walk wants them. areWords of the program. WordsShared, both programs. The contracts as FnMachines's walk wants them. -/
import Derived.Test.YtkfmjnefbimecaaMgm
import Derived.Test.YtkfmjnefbimecaaMgk
import Derived.Test.YtkfmjnefbimecaaSsl
import Derived.Test.YtkfmjnefbimecaaMgj
import Derived.Test.YtkfmjnefbimecaaFmP
import Derived.Test.YtkfmjnefbimecaaDrT
import Derived.Test.YtkfmjnefbimecaaBk


namespace Go.Proofs.Ytkfmjnefbimecaa
open Go.RowKit
set_option linter.unusedVariables false
end Go.Proofs.Ytkfmjnefbimecaa



namespace Go.Proofs.Ytkfmjnefbimecaa
open Go.RowKit
set_option linter.unusedVariables false
end Go.Proofs.Ytkfmjnefbimecaa



namespace Go.Proofs.Ytkfmjnefbimecaa
open Go.RowKit
set_option linter.unusedVariables false
theorem iCostOfL_any (v : Value) (b off n c : Nat) (S T : Int) (L : List A4) (P E xs : List Int) (w : World) (h : Mc w w.heap.size v S T L P E) (hx : SlI w w.heap.size (some ⟨b, off, none⟩) n xs) (hL : L.length ≤ 1048576) (hP : P.length ≤ 1048576) (hE : E.length ≤ 1048576) (hn : n ≤ 1048576) :
    Calls Try.prog 12 #[v, .slice (some ⟨b, off, none⟩) n c] w fun e w' => e = .returned (.tuple #[.int .i64 (coR 1099511627776 S T L P E xs), .bool (coB S T L P E xs)]) ∧ Below w.heap.size w w' := iCostOf_any v S T L P E _ n c xs w h hx hL hP hE (by omega)
end Go.Proofs.Ytkfmjnefbimecaa



namespace Go.Proofs.Ytkfmjnefbimecaa
open Go.RowKit
set_option linter.unusedVariables false
theorem allW_take {α : Type} {f : α → Bool} {ws : List α} {k : Nat} {x : α} (h : ws[k]? = some x) (h1 : (ws.take k).all f = true) (h2 : f x = true) : (ws.take (k + 1)).all f = true := by
  obtain ⟨hk, rfl⟩ := List.getElem?_eq_some_iff.1 h
  rw [List.take_succ_eq_append_getElem hk, List.all_append, h1]
  simp [h2]
theorem allW_no {α : Type} {f : α → Bool} {ws : List α} {k : Nat} {x : α} (h : ws[k]? = some x) (h2 : f x = false) : ws.all f = false := by
  rw [List.all_eq_false]
  exact ⟨x, List.mem_of_getElem? h, by simp [h2]⟩
set_option maxHeartbeats 1000000 in
theorem iAreWords_any (A : Option Addr) (n c : Nat) (ws : List (List Int)) (T : Int) (w : World) (h : SlL w w.heap.size A n ws) (hn : n ≤ 4294967296) (hm : ∀ r ∈ ws, r.length ≤ 4294967296) :
    Calls Try.prog 115 #[.slice A n c, .int .i64 T] w fun e w' => e = .returned (.bool (ws.all (fun xs => wordB xs T))) ∧ w = w' := by
  have hl := Lib.hid h.len
  have H := Lib.hid h; clear h
  have HM := Lib.hid hm; clear hm
  go_enter Try.func115, Try.ntmps115
  go_wp2_with fail
  go_loopg [9] n (fun m i wr => ∃ k : Nat, k ≤ n ∧ n ≤ m + k ∧ i = .int .i64 k ∧ Hid ((ws.take k).all (fun xs => wordB xs T) = true) ∧ wr = w)
  case atStart => exact ⟨0, by omega, by omega, rfl, by show _ = _; simp, rfl⟩
  case round =>
    obtain ⟨k, hk, hm, rfl, ha, rfl⟩ := hrel
    by_cases hlt : k < n
    · obtain ⟨b, off, A', c', x, rfl, hbB, hx, hc, hxs, hxm⟩ := H.out.at_ hlt
      have hT := iIsWord_any A' x.length c' x T wr hxs.out (HM.out x (List.mem_of_getElem? hx.out))
      have l1 : (0 : Int) ≤ (k : Int) := by omega
      cases q : wordB x T with
      | true =>
        rw [q] at hT
        have HQ := Lib.hid q; clear q
        go_wp2_with (first | (go_at_call 52; refine hT.mono ?_; rintro e w2 ⟨rfl, hw⟩; obtain rfl := hw; clear hT))
        go_roundg (gk - 1)
        case measure => omega
        case rel => exact ⟨k + 1, by omega, by omega, by go_num, allW_take hx.out ha.out HQ.out, rfl⟩
      | false =>
        rw [q] at hT
        have HQ := Lib.hid q; clear q
        go_wp2_with (first | (go_at_call 52; refine hT.mono ?_; rintro e w2 ⟨rfl, hw⟩; obtain rfl := hw; clear hT))
        go_ret
        exact ⟨ret_bool (allW_no (f := fun xs => wordB xs T) hx.out HQ.out).symm, rfl⟩
    · obtain rfl : n = k := by omega
      go_wp2_with fail
      go_ret
      refine ⟨ret_bool ?_, rfl⟩
      have := ha.out
      rw [take_all hl.out] at this
      exact this.symm
end Go.Proofs.Ytkfmjnefbimecaa



namespace Go.Proofs.Ytkfmjnefbimecaa
open Go.RowKit
set_option linter.unusedVariables false
def wsB (S T : Int) (L : List A4) (P E : List Int) (ws : List (List Int)) (k : Int) : Bool := vmB S T L P E && (decide (ws.length ≤ 64) && (ws.all (fun xs => wordB xs T) && inB k 1 8))
def wsR (L : List A4) (P E : List Int) (ws : List (List Int)) : List Int := ws.map (coV 1099511627776 L P E)
def wsO (ok : Bool) (r : List Int) : List Int := if ok then r else []
theorem wsR_len {n : Nat} {ws : List (List Int)} (hn : n ≤ 1048576) (hl : ws.length = n) (S T : Int) (L : List A4) (P E : List Int) (k : Int) : (wsO (wsB S T L P E ws k) (wsR L P E ws)).length ≤ 1048576 := by
  unfold wsO
  split
  · rw [wsR, List.length_map]; omega
  · simp
theorem wsR_take {L : List A4} {P E : List Int} {ws : List (List Int)} {k : Nat} {x : List Int} (h : ws[k]? = some x) : (wsR L P E ws).take (k + 1) = (wsR L P E ws).take k ++ [coV 1099511627776 L P E x] := by
  obtain ⟨hk, rfl⟩ := List.getElem?_eq_some_iff.1 h
  rw [List.take_succ_eq_append_getElem (by simpa [wsR] using hk)]
  simp [wsR]
end Go.Proofs.Ytkfmjnefbimecaa



namespace Go.Proofs.Ytkfmjnefbimecaa
open Go.RowKit
set_option linter.unusedVariables false
theorem mcO_mc {w : World} {lo hi : Nat} {v : Value} {S T : Int} {L : List A4} {P E : List Int} (h : McO w lo hi v S T L P E) : Mc w w.heap.size v S T L P E := by
  obtain ⟨v2, v3, v4, rfl, o2, o3, o4, _⟩ := h
  obtain ⟨A2, c2, rfl, s2⟩ := o2.slA
  obtain ⟨A3, c3, rfl, s3⟩ := o3.slV
  obtain ⟨A4, c4, rfl, s4⟩ := o4.slV
  exact ⟨_, _, _, _, _, _, _, _, _, rfl, s2, s3, s4⟩
/-- A machine in a block. -/
def Mx (w : World) (g : Nat) (S T : Int) (L : List A4) (P E : List Int) : Prop := ∃ A2 n2 c2 A3 n3 c3 A4 n4 c4, Row w g 28 [.int .i64 S, .int .i64 T, .slice A2 n2 c2, .slice A3 n3 c3, .slice A4 n4 c4] ∧ SlA w w.heap.size A2 n2 L ∧ SlI w w.heap.size A3 n3 P ∧ SlI w w.heap.size A4 n4 E
theorem Mx.below {w w' : World} {g B : Nat} {S T : Int} {L : List A4} {P E : List Int} (h : Mx w g S T L P E) (hb : Below B w w') (hB : w.heap.size ≤ B) : Mx w' g S T L P E := by
  obtain ⟨A2, n2, c2, A3, n3, c3, A4, n4, c4, hr, h2, h3, h4⟩ := h
  exact ⟨A2, n2, c2, A3, n3, c3, A4, n4, c4, hr.below hb (Nat.lt_of_lt_of_le hr.lt hB), (h2.below hb hB).more hb.size, (h3.below hb hB).more hb.size, (h4.below hb hB).more hb.size⟩
theorem Mx.new {w : World} {S T : Int} {L : List A4} {P E : List Int} {A2 : Option Addr} {n2 c2 : Nat} {A3 : Option Addr} {n3 c3 : Nat} {A4 : Option Addr} {n4 c4 : Nat} (h2 : SlA w w.heap.size A2 n2 L) (h3 : SlI w w.heap.size A3 n3 P) (h4 : SlI w w.heap.size A4 n4 E) : Mx (w.alloc (.cells ([.int .i64 S, .int .i64 T, .slice A2 n2 c2, .slice A3 n3 c3, .slice A4 n4 c4] : List Value).toArray 28)) w.heap.size S T L P E := by
  have hb : Below w.heap.size w (w.alloc (.cells ([.int .i64 S, .int .i64 T, .slice A2 n2 c2, .slice A3 n3 c3, .slice A4 n4 c4] : List Value).toArray 28)) := (Below.refl _ _).alloc (Nat.le_refl _) _
  exact ⟨A2, n2, c2, A3, n3, c3, A4, n4, c4, Row.new _ _ _, (h2.below hb (Nat.le_refl _)).more hb.size, (h3.below hb (Nat.le_refl _)).more hb.size, (h4.below hb (Nat.le_refl _)).more hb.size⟩
/-- A drawn machine in a block: its lists' places. -/
def Ma (w : World) (g p2 p3 p4 c2 c3 c4 : Nat) (S T : Int) (L : List A4) (P E : List Int) : Prop := Row w g 28 [.int .i64 S, .int .i64 T, .slice (some ⟨p2, 0, none⟩) L.length c2, .slice (some ⟨p3, 0, none⟩) P.length c3, .slice (some ⟨p4, 0, none⟩) E.length c4] ∧ SlA w w.heap.size (some ⟨p2, 0, none⟩) L.length L ∧ SlI w w.heap.size (some ⟨p3, 0, none⟩) P.length P ∧ SlI w w.heap.size (some ⟨p4, 0, none⟩) E.length E
theorem Ma.below {w w' : World} {g p2 p3 p4 c2 c3 c4 B : Nat} {S T : Int} {L : List A4} {P E : List Int} (h : Ma w g p2 p3 p4 c2 c3 c4 S T L P E) (hb : Below B w w') (hB : w.heap.size ≤ B) : Ma w' g p2 p3 p4 c2 c3 c4 S T L P E := by
  obtain ⟨hr, h2, h3, h4⟩ := h
  exact ⟨hr.below hb (Nat.lt_of_lt_of_le hr.lt hB), (h2.below hb hB).more hb.size, (h3.below hb hB).more hb.size, (h4.below hb hB).more hb.size⟩
theorem Ma.new {w : World} {S T : Int} {L : List A4} {P E : List Int} {p2 p3 p4 c2 c3 c4 : Nat} (h2 : SlA w w.heap.size (some ⟨p2, 0, none⟩) L.length L) (h3 : SlI w w.heap.size (some ⟨p3, 0, none⟩) P.length P) (h4 : SlI w w.heap.size (some ⟨p4, 0, none⟩) E.length E) : Ma (w.alloc (.cells ([.int .i64 S, .int .i64 T, .slice (some ⟨p2, 0, none⟩) L.length c2, .slice (some ⟨p3, 0, none⟩) P.length c3, .slice (some ⟨p4, 0, none⟩) E.length c4] : List Value).toArray 28)) w.heap.size p2 p3 p4 c2 c3 c4 S T L P E := by
  have hb : Below w.heap.size w (w.alloc (.cells ([.int .i64 S, .int .i64 T, .slice (some ⟨p2, 0, none⟩) L.length c2, .slice (some ⟨p3, 0, none⟩) P.length c3, .slice (some ⟨p4, 0, none⟩) E.length c4] : List Value).toArray 28)) := (Below.refl _ _).alloc (Nat.le_refl _) _
  exact ⟨Row.new _ _ _, (h2.below hb (Nat.le_refl _)).more hb.size, (h3.below hb (Nat.le_refl _)).more hb.size, (h4.below hb (Nat.le_refl _)).more hb.size⟩
theorem fCost (S T : Int) (L : List A4) (P E : List Int) (A2 : Option Addr) (n2 c2 : Nat) (A3 : Option Addr) (n3 c3 : Nat) (A4 : Option Addr) (n4 c4 : Nat) (A : Option Addr) (n c : Nat) (xs : List Int) (x : World) (h2 : SlA x x.heap.size A2 n2 L) (h3 : SlI x x.heap.size A3 n3 P) (h4 : SlI x x.heap.size A4 n4 E) (hx : SlI x x.heap.size A n xs) (v1 : vmB S T L P E = true) (hw : wordB xs T = true) (r : Int) (hr : r = cst L P E xs) :
    Calls Try.prog 12 #[.agg #[.int .i64 S, .int .i64 T, .slice A2 n2 c2, .slice A3 n3 c3, .slice A4 n4 c4], .slice A n c] x fun e y => e = .returned (.tuple #[.int .i64 r, .bool true]) ∧ Below x.heap.size x y := by
  have hok : coB S T L P E xs = true := by unfold coB; rw [v1, hw]; rfl
  have hv : coR 1099511627776 S T L P E xs = r := by unfold coR; rw [hok, if_pos rfl, hr]
  obtain ⟨_, _, _, _, hPE, hPn, hLn, _, _, _⟩ := vm_okM v1
  have hl := hx.len
  have hwl := wordB_len hw
  have h := iCostOf_any (.agg #[.int .i64 S, .int .i64 T, .slice A2 n2 c2, .slice A3 n3 c3, .slice A4 n4 c4]) S T L P E A n c xs x ⟨_, _, _, _, _, _, _, _, _, rfl, h2, h3, h4⟩ hx (by omega) (by omega) (by omega) (by omega)
  rw [hok, hv] at h
  exact h
theorem wordB_mk {xs : List Int} {t : Nat} (ht : 1 ≤ t) (ht' : t ≤ 4) (hl : xs.length ≤ 12) (hx : ∀ x ∈ xs, 0 ≤ x ∧ x < (t : Int)) : wordB xs t = true := by
  simp only [wordB, allIn, Bool.and_eq_true, decide_eq_true_eq, List.all_eq_true]
  refine ⟨decide_eq_true (by omega), hl, fun x h => decide_eq_true ?_⟩
  have := hx x h
  omega
end Go.Proofs.Ytkfmjnefbimecaa
