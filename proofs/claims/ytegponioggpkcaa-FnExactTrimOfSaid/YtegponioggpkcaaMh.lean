/- Machines: what is given back if it is valid; arcs with later states; lists of -1. -/
import Derived.Test.YtegponioggpkcaaVm
import Derived.Test.YtegponioggpkcaaMachineOw
import Derived.Test.YtegponioggpkcaaStO
import Derived.Test.YtegponioggpkcaaRpt
import Derived.Test.YtegponioggpkcaaTab
namespace Go.Proofs.Ytegponioggpkcaa
open Go.RowKit
set_option linter.unusedVariables false
def ckV (ok : Bool) (v : Value) : Value := if ok then v else .agg #[.int .i64 0, .int .i64 0, .slice none 0 0, .slice none 0 0, .slice none 0 0]
def ckI (ok : Bool) (x : Int) : Int := if ok then x else 0
def ckL {α : Type} (ok : Bool) (xs : List α) : List α := if ok then xs else []
theorem ckL_len {α : Type} {ok : Bool} {xs : List α} {n : Nat} (h : ok = true → xs.length ≤ n) : (ckL ok xs).length ≤ n := by
  cases ok
  · exact Nat.zero_le _
  · exact h rfl
/-- What is handed out of a machine that has been looked at. -/
theorem ckO {w : World} {lo hi : Nat} {v : Value} {S T : Int} {L : List A4} {P E : List Int} (ok : Bool) (h : McO w lo hi v S T L P E) : McO w lo hi (ckV ok v) (ckI ok S) (ckI ok T) (ckL ok L) (ckL ok P) (ckL ok E) := by
  cases ok
  · exact ⟨_, _, _, rfl, OwnV.nil _ _ _ _ _, OwnV.nil _ _ _ _ _, OwnV.nil _ _ _ _ _, fun k hk => by simp [Value.ownBlock] at hk, fun k hk => by simp [Value.ownBlock] at hk, fun k hk => by simp [Value.ownBlock] at hk⟩
  · exact h
set_option maxHeartbeats 4000000 in
theorem iChecked_any (S T : Int) (L : List A4) (P E : List Int) (A2 : Option Addr) (n2 c2 : Nat) (A3 : Option Addr) (n3 c3 : Nat) (A4 : Option Addr) (n4 c4 : Nat) (w : World) (h2 : SlA w w.heap.size A2 n2 L) (h3 : SlI w w.heap.size A3 n3 P) (h4 : SlI w w.heap.size A4 n4 E) (hL : n2 ≤ 4294967296) (hP : n3 ≤ 4294967296) (hE : n4 ≤ 4294967296) :
    Calls Try.prog 38 #[.agg #[.int .i64 S, .int .i64 T, .slice A2 n2 c2, .slice A3 n3 c3, .slice A4 n4 c4]] w fun e w' => e = .returned (.tuple #[ckV (vmB S T L P E) (.agg #[.int .i64 S, .int .i64 T, .slice A2 n2 c2, .slice A3 n3 c3, .slice A4 n4 c4]), .bool (vmB S T L P E)]) ∧ Below w.heap.size w w' := by
  have H2 := Lib.hid h2; have H3 := Lib.hid h3; have H4 := Lib.hid h4
  clear h2 h3 h4
  have rb := (Row.new w 28 [.int .i64 S, .int .i64 T, .slice A2 n2 c2, .slice A3 n3 c3, .slice A4 n4 c4]).alloc (.cells ([.int .i64 0, .int .i64 0, .slice none 0 0, .slice none 0 0, .slice none 0 0] : List Value).toArray 28)
  have rr := Row.new (w.alloc (.cells ([.int .i64 S, .int .i64 T, .slice A2 n2 c2, .slice A3 n3 c3, .slice A4 n4 c4] : List Value).toArray 28)) 28 [.int .i64 0, .int .i64 0, .slice none 0 0, .slice none 0 0, .slice none 0 0]
  rw [show (w.alloc (.cells ([.int .i64 S, .int .i64 T, .slice A2 n2 c2, .slice A3 n3 c3, .slice A4 n4 c4] : List Value).toArray 28)).heap.size = w.heap.size + 1 by simp] at rr
  have bx : Below w.heap.size w ((w.alloc (.cells ([.int .i64 S, .int .i64 T, .slice A2 n2 c2, .slice A3 n3 c3, .slice A4 n4 c4] : List Value).toArray 28)).alloc (.cells ([.int .i64 0, .int .i64 0, .slice none 0 0, .slice none 0 0, .slice none 0 0] : List Value).toArray 28)) := ((Below.refl _ _).alloc (Nat.le_refl _) _).alloc (by simp) _
  have RB := Lib.hid rb; have RR := Lib.hid rr; have BX := Lib.hid bx; clear rb rr bx
  go_enter Try.func38, Try.ntmps38
  go_wp2_with fail
  obtain ⟨x0, hx0⟩ : ∃ x, x = (w.alloc (.cells ([.int .i64 S, .int .i64 T, .slice A2 n2 c2, .slice A3 n3 c3, .slice A4 n4 c4] : List Value).toArray 28)).alloc (.cells ([.int .i64 0, .int .i64 0, .slice none 0 0, .slice none 0 0, .slice none 0 0] : List Value).toArray 28) := ⟨_, rfl⟩
  rw [← hx0] at RB RR BX
  change Calls _ _ _ ((w.alloc (.cells ([.int .i64 S, .int .i64 T, .slice A2 n2 c2, .slice A3 n3 c3, .slice A4 n4 c4] : List Value).toArray 28)).alloc (.cells ([.int .i64 0, .int .i64 0, .slice none 0 0, .slice none 0 0, .slice none 0 0] : List Value).toArray 28)) _
  rw [← hx0]
  clear hx0
  refine (iValidMachine_any _ S T L P E x0 ⟨_, _, _, _, _, _, _, _, _, rfl, (H2.out.below BX.out (Nat.le_refl _)).more BX.out.size, (H3.out.below BX.out (Nat.le_refl _)).more BX.out.size, (H4.out.below BX.out (Nat.le_refl _)).more BX.out.size⟩ (by rw [H2.out.len]; exact hL) (by rw [H3.out.len]; exact hP) (by rw [H4.out.len]; exact hE)).mono ?_
  rintro e w1 ⟨rfl, hb1⟩
  have BX1 := Lib.hid (BX.out.trans (hb1.mono BX.out.size))
  have RB1 := Lib.hid (RB.out.below hb1 RB.out.lt)
  have RR1 := Lib.hid (RR.out.below hb1 RR.out.lt)
  clear hb1
  obtain ⟨ok, hok⟩ : ∃ ok, ok = vmB S T L P E := ⟨_, rfl⟩
  rw [← hok]
  have HOK := Lib.hid hok; clear hok
  have r0 := RR1.out.cell 0; have r1 := RR1.out.cell 1; have r2 := RR1.out.cell 2; have r3 := RR1.out.cell 3; have r4 := RR1.out.cell 4
  have f0 := RR1.out.frozen 0; have f1 := RR1.out.frozen 1; have f2 := RR1.out.frozen 2; have f3 := RR1.out.frozen 3; have f4 := RR1.out.frozen 4
  cases ok with
  | false =>
    go_wp2_with fail
    clear r0 f0 r1 f1 r2 f2 r3 f3 r4 f4
    have hF := (((((RR1.out.set_ 0 (.int .i64 0)).set_ 1 (.int .i64 0)).set_ 2 (.slice none 0 0)).set_ 3 (.slice none 0 0)).set_ 4 (.slice none 0 0))
    refine bodyPost_ret (results_cell2 rfl _ _ (w.heap.size + 1) 28 #[.int .i64 0, .int .i64 0, .slice none 0 0, .slice none 0 0, .slice none 0 0] (0, 0) _ (.bool false) rfl rfl hF Try.underlying28 rfl (by kernel_rfl)) rfl ?_
    rw [← HOK.out]
    exact ⟨rfl, (((((BX1.out.setCell (p := ⟨w.heap.size + 1, 0, none⟩) (show w.heap.size ≤ w.heap.size + 1 by omega) (.int .i64 0)).setCell (p := ⟨w.heap.size + 1, 1, none⟩) (show w.heap.size ≤ w.heap.size + 1 by omega) (.int .i64 0)).setCell (p := ⟨w.heap.size + 1, 2, none⟩) (show w.heap.size ≤ w.heap.size + 1 by omega) (.slice none 0 0)).setCell (p := ⟨w.heap.size + 1, 3, none⟩) (show w.heap.size ≤ w.heap.size + 1 by omega) (.slice none 0 0)).setCell (p := ⟨w.heap.size + 1, 4, none⟩) (show w.heap.size ≤ w.heap.size + 1 by omega) (.slice none 0 0))⟩
  | true =>
    have k0 := RB1.out.cell 0; have k1 := RB1.out.cell 1; have k2 := RB1.out.cell 2; have k3 := RB1.out.cell 3; have k4 := RB1.out.cell 4
    go_wp2_with fail
    clear r0 f0 k0 r1 f1 k1 r2 f2 k2 r3 f3 k3 r4 f4 k4
    have hF := (((((RR1.out.set_ 0 (.int .i64 S)).set_ 1 (.int .i64 T)).set_ 2 (.slice A2 n2 c2)).set_ 3 (.slice A3 n3 c3)).set_ 4 (.slice A4 n4 c4))
    refine bodyPost_ret (results_cell2 rfl _ _ (w.heap.size + 1) 28 #[.int .i64 S, .int .i64 T, .slice A2 n2 c2, .slice A3 n3 c3, .slice A4 n4 c4] (0, 0) _ (.bool true) rfl rfl hF Try.underlying28 rfl (by kernel_rfl)) rfl ?_
    rw [← HOK.out]
    exact ⟨rfl, (((((BX1.out.setCell (p := ⟨w.heap.size + 1, 0, none⟩) (show w.heap.size ≤ w.heap.size + 1 by omega) (.int .i64 S)).setCell (p := ⟨w.heap.size + 1, 1, none⟩) (show w.heap.size ≤ w.heap.size + 1 by omega) (.int .i64 T)).setCell (p := ⟨w.heap.size + 1, 2, none⟩) (show w.heap.size ≤ w.heap.size + 1 by omega) (.slice A2 n2 c2)).setCell (p := ⟨w.heap.size + 1, 3, none⟩) (show w.heap.size ≤ w.heap.size + 1 by omega) (.slice A3 n3 c3)).setCell (p := ⟨w.heap.size + 1, 4, none⟩) (show w.heap.size ≤ w.heap.size + 1 by omega) (.slice A4 n4 c4))⟩
set_option maxHeartbeats 4000000 in
theorem sGive_any (S T : Int) (L : List A4) (P E : List Int) (A2 : Option Addr) (n2 c2 : Nat) (A3 : Option Addr) (n3 c3 : Nat) (A4 : Option Addr) (n4 c4 : Nat) (w : World) (h2 : SlA w w.heap.size A2 n2 L) (h3 : SlI w w.heap.size A3 n3 P) (h4 : SlI w w.heap.size A4 n4 E) (hL : n2 ≤ 4294967296) (hP : n3 ≤ 4294967296) (hE : n4 ≤ 4294967296) :
    Calls Try.prog 76 #[.agg #[.int .i64 S, .int .i64 T, .slice A2 n2 c2, .slice A3 n3 c3, .slice A4 n4 c4]] w fun e w' => e = .returned (.tuple #[ckV (vmB S T L P E) (.agg #[.int .i64 S, .int .i64 T, .slice A2 n2 c2, .slice A3 n3 c3, .slice A4 n4 c4]), .bool (vmB S T L P E)]) ∧ Below w.heap.size w w' := by
  have H2 := Lib.hid h2; have H3 := Lib.hid h3; have H4 := Lib.hid h4
  clear h2 h3 h4
  have rb := (Row.new w 28 [.int .i64 S, .int .i64 T, .slice A2 n2 c2, .slice A3 n3 c3, .slice A4 n4 c4]).alloc (.cells ([.int .i64 0, .int .i64 0, .slice none 0 0, .slice none 0 0, .slice none 0 0] : List Value).toArray 28)
  have rr := Row.new (w.alloc (.cells ([.int .i64 S, .int .i64 T, .slice A2 n2 c2, .slice A3 n3 c3, .slice A4 n4 c4] : List Value).toArray 28)) 28 [.int .i64 0, .int .i64 0, .slice none 0 0, .slice none 0 0, .slice none 0 0]
  rw [show (w.alloc (.cells ([.int .i64 S, .int .i64 T, .slice A2 n2 c2, .slice A3 n3 c3, .slice A4 n4 c4] : List Value).toArray 28)).heap.size = w.heap.size + 1 by simp] at rr
  have bx : Below w.heap.size w ((w.alloc (.cells ([.int .i64 S, .int .i64 T, .slice A2 n2 c2, .slice A3 n3 c3, .slice A4 n4 c4] : List Value).toArray 28)).alloc (.cells ([.int .i64 0, .int .i64 0, .slice none 0 0, .slice none 0 0, .slice none 0 0] : List Value).toArray 28)) := ((Below.refl _ _).alloc (Nat.le_refl _) _).alloc (by simp) _
  have RB := Lib.hid rb; have RR := Lib.hid rr; have BX := Lib.hid bx; clear rb rr bx
  go_enter Try.func76, Try.ntmps76
  go_wp2_with fail
  obtain ⟨x0, hx0⟩ : ∃ x, x = (w.alloc (.cells ([.int .i64 S, .int .i64 T, .slice A2 n2 c2, .slice A3 n3 c3, .slice A4 n4 c4] : List Value).toArray 28)).alloc (.cells ([.int .i64 0, .int .i64 0, .slice none 0 0, .slice none 0 0, .slice none 0 0] : List Value).toArray 28) := ⟨_, rfl⟩
  rw [← hx0] at RB RR BX
  change Calls _ _ _ ((w.alloc (.cells ([.int .i64 S, .int .i64 T, .slice A2 n2 c2, .slice A3 n3 c3, .slice A4 n4 c4] : List Value).toArray 28)).alloc (.cells ([.int .i64 0, .int .i64 0, .slice none 0 0, .slice none 0 0, .slice none 0 0] : List Value).toArray 28)) _
  rw [← hx0]
  clear hx0
  refine (sIs_any w.heap.size S T L P E A2 n2 c2 A3 n3 c3 A4 n4 c4 w.heap.size x0 RB.out BX.out.size (H2.out.below BX.out (Nat.le_refl _)) (H3.out.below BX.out (Nat.le_refl _)) (H4.out.below BX.out (Nat.le_refl _)) hL hP hE).mono ?_
  rintro e w1 ⟨rfl, hb1⟩
  have BX1 := Lib.hid (BX.out.trans (hb1.mono BX.out.size))
  have RB1 := Lib.hid (RB.out.below hb1 RB.out.lt)
  have RR1 := Lib.hid (RR.out.below hb1 RR.out.lt)
  clear hb1
  obtain ⟨ok, hok⟩ : ∃ ok, ok = vmB S T L P E := ⟨_, rfl⟩
  rw [← hok]
  have HOK := Lib.hid hok; clear hok
  have r0 := RR1.out.cell 0; have r1 := RR1.out.cell 1; have r2 := RR1.out.cell 2; have r3 := RR1.out.cell 3; have r4 := RR1.out.cell 4
  have f0 := RR1.out.frozen 0; have f1 := RR1.out.frozen 1; have f2 := RR1.out.frozen 2; have f3 := RR1.out.frozen 3; have f4 := RR1.out.frozen 4
  cases ok with
  | false =>
    go_wp2_with fail
    clear r0 f0 r1 f1 r2 f2 r3 f3 r4 f4
    have hF := (((((RR1.out.set_ 0 (.int .i64 0)).set_ 1 (.int .i64 0)).set_ 2 (.slice none 0 0)).set_ 3 (.slice none 0 0)).set_ 4 (.slice none 0 0))
    refine bodyPost_ret (results_cell2 rfl _ _ (w.heap.size + 1) 28 #[.int .i64 0, .int .i64 0, .slice none 0 0, .slice none 0 0, .slice none 0 0] (0, 0) _ (.bool false) rfl rfl hF Try.underlying28 rfl (by kernel_rfl)) rfl ?_
    rw [← HOK.out]
    exact ⟨rfl, (((((BX1.out.setCell (p := ⟨w.heap.size + 1, 0, none⟩) (show w.heap.size ≤ w.heap.size + 1 by omega) (.int .i64 0)).setCell (p := ⟨w.heap.size + 1, 1, none⟩) (show w.heap.size ≤ w.heap.size + 1 by omega) (.int .i64 0)).setCell (p := ⟨w.heap.size + 1, 2, none⟩) (show w.heap.size ≤ w.heap.size + 1 by omega) (.slice none 0 0)).setCell (p := ⟨w.heap.size + 1, 3, none⟩) (show w.heap.size ≤ w.heap.size + 1 by omega) (.slice none 0 0)).setCell (p := ⟨w.heap.size + 1, 4, none⟩) (show w.heap.size ≤ w.heap.size + 1 by omega) (.slice none 0 0))⟩
  | true =>
    have k0 := RB1.out.cell 0; have k1 := RB1.out.cell 1; have k2 := RB1.out.cell 2; have k3 := RB1.out.cell 3; have k4 := RB1.out.cell 4
    go_wp2_with fail
    clear r0 f0 k0 r1 f1 k1 r2 f2 k2 r3 f3 k3 r4 f4 k4
    have hF := (((((RR1.out.set_ 0 (.int .i64 S)).set_ 1 (.int .i64 T)).set_ 2 (.slice A2 n2 c2)).set_ 3 (.slice A3 n3 c3)).set_ 4 (.slice A4 n4 c4))
    refine bodyPost_ret (results_cell2 rfl _ _ (w.heap.size + 1) 28 #[.int .i64 S, .int .i64 T, .slice A2 n2 c2, .slice A3 n3 c3, .slice A4 n4 c4] (0, 0) _ (.bool true) rfl rfl hF Try.underlying28 rfl (by kernel_rfl)) rfl ?_
    rw [← HOK.out]
    exact ⟨rfl, (((((BX1.out.setCell (p := ⟨w.heap.size + 1, 0, none⟩) (show w.heap.size ≤ w.heap.size + 1 by omega) (.int .i64 S)).setCell (p := ⟨w.heap.size + 1, 1, none⟩) (show w.heap.size ≤ w.heap.size + 1 by omega) (.int .i64 T)).setCell (p := ⟨w.heap.size + 1, 2, none⟩) (show w.heap.size ≤ w.heap.size + 1 by omega) (.slice A2 n2 c2)).setCell (p := ⟨w.heap.size + 1, 3, none⟩) (show w.heap.size ≤ w.heap.size + 1 by omega) (.slice A3 n3 c3)).setCell (p := ⟨w.heap.size + 1, 4, none⟩) (show w.heap.size ≤ w.heap.size + 1 by omega) (.slice A4 n4 c4))⟩
/-- Arcs with later states. -/
def mvA (by' : Int) (a : A4) : A4 := (a.1 + by', a.2.1 + by', a.2.2.1, a.2.2.2)
theorem mv_succ {L : List A4} {k : Nat} {a : A4} {d : Int} (h : L[k]? = some a) : fa ((L.take (k + 1)).map (mvA d)) = fa ((L.take k).map (mvA d)) ++ [.int .i64 (a.1 + d), .int .i64 (a.2.1 + d), .int .i64 a.2.2.1, .int .i64 a.2.2.2] := by
  obtain ⟨hk, rfl⟩ := List.getElem?_eq_some_iff.1 h
  rw [List.take_succ_eq_append_getElem hk, List.map_append, fa_append]; rfl
set_option maxHeartbeats 4000000 in
theorem iMoved_any (lo : Nat) (A : Option Addr) (m cA : Nat) (M : List A4) (B : Option Addr) (n c : Nat) (L : List A4) (d : Int) (w : World) (hO : w.ownsRow lo 62 4 (.slice A m cA) m (fa M)) (hlo : lo ≤ w.heap.size) (h : SlA w lo B n L) (hn : m + n ≤ 1048576) (hd : 0 ≤ d ∧ d ≤ 1000) (hok : ∀ a ∈ L, -1000 ≤ a.1 ∧ a.1 ≤ 1000 ∧ -1000 ≤ a.2.1 ∧ a.2.1 ≤ 1000) :
    Calls Try.prog 39 #[.slice A m cA, .slice B n c, .int .i64 d] w fun e w' => ∃ A' c', e = .returned (.slice A' (m + n) c') ∧ w'.ownsRow lo 62 4 (.slice A' (m + n) c') (m + n) (fa (M ++ L.map (mvA d))) ∧ Below lo w w' := by
  have hl := Lib.hid h.len
  have H := Lib.hid h; have HO := Lib.hid hO; have HK := Lib.hid hok; clear h hO hok
  go_enter Try.func39, Try.ntmps39
  go_wp2_with fail
  go_loopg [0, 8, 11] n (fun q o u i wr => ∃ (k : Nat) (A' : Option Addr) (c' : Nat), i = .int .i64 k ∧ k ≤ n ∧ n ≤ q + k ∧ o = .slice A' (m + k) c' ∧ Hid (wr.ownsRow lo 62 4 (.slice A' (m + k) c') (m + k) (fa (M ++ (L.take k).map (mvA d)))) ∧ Hid (Below lo w wr))
  case atStart => exact ⟨0, A, cA, rfl, by omega, by omega, rfl, by show World.ownsRow _ _ _ _ _ _ _; simpa using HO.out, Below.refl _ _⟩
  case round =>
    obtain ⟨k, A', c', rfl, hk, hm, rfl, HR, HB⟩ := hrel
    by_cases hlt : k < n
    · obtain ⟨b, off, a0, a1, a2, a3, rfl, hbB, hx, k0, k1, k2, k3⟩ := (H.out.below HB.out (Nat.le_refl _)).at_ hlt
      have hrange := HK.out _ (List.mem_of_getElem? hx.out)
      simp only at hrange
      have l0 : (0 : Int) ≤ (k : Int) := by omega
      have l1 : (k : Int) < (n : Int) := by omega
      have hls : lo ≤ wr.heap.size := Nat.le_trans hlo HB.out.size
      have HBS : Hid (lo ≤ (wr.alloc (.cells ([.int .i64 (a0 + d), .int .i64 (a1 + d), .int .i64 a2, .int .i64 a3] : List Value).toArray 62)).heap.size) := by show _ ≤ _; simp; omega
      have HX := Lib.hid (mv_succ (d := d) hx.out)
      obtain ⟨p1, p2, p3, p4⟩ := hrange
      go_wp2_with (first | (at_builtin; refine wpList_one_push (wr.alloc (.cells ([.int .i64 (a0 + d), .int .i64 (a1 + d), .int .i64 a2, .int .i64 a3] : List Value).toArray 62)) rfl (.tmp 25) (.tmp 27) _ rfl lo 62 (.agg #[.int .i64 0, .int .i64 0, .int .i64 0, .int .i64 0]) 4 32 Try.underlying25 infoAr rfl (by omega) (by omega) _ (m + k) _ rfl (HR.out.alloc _) [.int .i64 (a0 + d), .int .i64 (a1 + d), .int .i64 a2, .int .i64 a3] rfl (fa_one [(a0 + d, a1 + d, a2, a3)]) (wr.heap.size + 1) (by simp) rfl (by omega) HBS.out ?_; intro v' w' hown hgr hat; obtain ⟨A2, c2, hv', _, _⟩ := own_form hown; subst hv'; have HG := Lib.hid (grown_below' (HR.out.alloc _) hgr HBS.out); have HOW := Lib.hid hown; clear hgr hown hat))
      go_roundg (gk - 1)
      case measure => omega
      case rel =>
        refine ⟨k + 1, A2, c2, by go_num, by omega, by omega, rfl, ?_, (HB.out.alloc hls _).trans HG.out⟩
        show World.ownsRow _ _ _ _ _ _ _
        have := HOW.out
        rw [fa_append, List.append_assoc, ← HX.out, ← fa_append] at this
        exact this
    · obtain rfl : n = k := by omega
      go_wp2_with fail
      go_ret
      refine ⟨A', c', rfl, ?_, HB.out⟩
      have := HR.out
      rw [take_all hl.out] at this
      exact this
set_option maxHeartbeats 1000000 in
theorem iNone_any (n : Nat) (w : World) (h0 : 0 < n) (hn : n ≤ 1048576) :
    Calls Try.prog 42 #[.int .i64 n] w fun e w' => ∃ g, e = .returned (.slice (some ⟨g, 0, none⟩) n n) ∧ w.heap.size ≤ g ∧ Row w' g 2 (iv (List.replicate n (-1))) ∧ Below w.heap.size w w' := by
  have hc := (Row.new w 2 [.int .i64 (-1)]).cell 0
  have hR := iRepeat1_any w.heap.size 1 (-1) n _ hc h0 hn
  have hb0 : Below w.heap.size w (w.alloc (.cells ([.int .i64 (-1)] : List Value).toArray 2)) := (Below.refl _ _).alloc (Nat.le_refl _) _
  have HB0 := Lib.hid hb0; clear hb0 hc
  go_enter Try.func42, Try.ntmps42
  go_wp2_with fail
  refine hR.mono ?_
  rintro e w' ⟨g, rfl, hg, hr, hb⟩
  have hs : w.heap.size ≤ (w.alloc (.cells ([.int .i64 (-1)] : List Value).toArray 2)).heap.size := HB0.out.size
  have HR := Lib.hid hr; have HG : Hid (w.heap.size ≤ g) := Nat.le_trans hs hg; have HB := Lib.hid (HB0.out.trans (hb.mono hs))
  clear hR hr hg hb hs
  go_wp2_with fail
  go_ret
  exact ⟨g, rfl, HG.out, HR.out, HB.out⟩
set_option maxHeartbeats 1000000 in
theorem sNone_any (n : Nat) (w : World) (hn : n ≤ 1048576) :
    Calls Try.prog 75 #[.int .i64 n] w fun e w' => ∃ A c, e = .returned (.slice A n c) ∧ RowI w' w.heap.size 2 (.slice A n c) (List.replicate n (-1)) ∧ Below w.heap.size w w' := by
  go_enter Try.func75, Try.ntmps75
  go_wp2_with fail
  go_loopg [0, 3] n (fun q z o wr => ∃ (k : Nat) (A : Option Addr) (c : Nat), z = .int .i64 ((n : Int) - (k : Int)) ∧ k ≤ n ∧ n ≤ q + k ∧ o = .slice A k c ∧ Hid (RowI wr w.heap.size 2 (.slice A k c) (List.replicate k (-1))) ∧ Hid (Below w.heap.size w wr))
  case atStart => exact ⟨0, _, _, by simp, by omega, by omega, rfl, RowI.made _ _ _ (Nat.le_refl _), (Below.refl _ _).alloc (Nat.le_refl _) _⟩
  case round =>
    obtain ⟨k, A, c, rfl, hk, hm, rfl, HR, HB⟩ := hrel
    by_cases hlt : k < n
    · have l0 : (0 : Int) < (n : Int) - (k : Int) := by omega
      have hs := HB.out.size
      have hlen : Hid ((List.replicate k (-1 : Int)).length + 1 ≤ 4294967296) := by show _ ≤ _; simp; omega
      go_wp2_with (first | (at_builtin; refine wpList_int_push _ rfl (.tmp 9) (.tmp 10) _ rfl w.heap.size 2 Try.underlying26 infoQ _ (List.replicate k (-1)) rfl HR.out _ rfl hlen.out hs ?_; intro g' cap w' hown hbl hat hgr; clear hat hgr; have HO := Lib.hid hown; have HBL := Lib.hid hbl; clear hown hbl))
      go_roundg (gk - 1)
      case measure => omega
      case rel =>
        refine ⟨k + 1, some ⟨g', 0, none⟩, cap, by go_num, by omega, by omega, by simp, ?_, HB.out.trans HBL.out⟩
        show RowI _ _ _ _ _
        rw [List.replicate_succ']
        have := HO.out
        rw [List.length_replicate] at this
        exact this
    · obtain rfl : n = k := by omega
      go_wp2_with fail
      go_ret
      exact ⟨A, c, rfl, HR.out, HB.out⟩
end Go.Proofs.Ytegponioggpkcaa
