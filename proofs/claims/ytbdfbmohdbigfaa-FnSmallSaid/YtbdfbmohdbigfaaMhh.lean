/- Several texts in one: R8Machine, R8Word; the small functions of the laws. R8Plain. The contracts as FnPlains's walk wants them. -/
import Derived.Test.YtbdfbmohdbigfaaDrS
import Derived.Test.YtbdfbmohdbigfaaMgn
import Derived.Test.YtbdfbmohdbigfaaMhg
import Derived.Test.YtbdfbmohdbigfaaMgx
import Derived.Test.YtbdfbmohdbigfaaMhf

namespace Go.Proofs.Ytbdfbmohdbigfaa
open Go.RowKit
set_option linter.unusedVariables false
def r8v (z : List Int) (k : Nat) (m : Int) : Int := if z.length ≤ k then 0 else z.getD k 0 % m
theorem r8v_bd {z : List Int} {k : Nat} {m : Int} (h : 0 < m) : 0 ≤ r8v z k m ∧ r8v z k m < m := by
  unfold r8v
  split
  · omega
  · exact ⟨Int.emod_nonneg _ (by omega), Int.emod_lt_of_pos _ h⟩
set_option maxHeartbeats 1000000 in
theorem r8At_any (a : Option Addr) (n c : Nat) (z : List Int) (lo : Nat) (w : World) (hz : SlY w lo a n z) (k : Nat) (m : Int) (h1 : 1 < m) (h2 : m ≤ 100000) (hk : k ≤ 100000) (hn : n ≤ maxLen) :
    Calls Try.prog 8 #[.slice a n c, .int .i64 k, .int .i64 m] w fun e w' => e = .returned (.int .i64 (r8v z k m)) ∧ w = w' := by
  unfold maxLen at hn
  have hl := hz.len
  by_cases hlt : k < n
  · obtain ⟨b, off, x, rfl, hb, x0, x1, hx, hc⟩ := hz.at_ hlt
    have HV : Hid (r8v z k m = x % m) := by
      show _ = _
      unfold r8v
      rw [if_neg (by omega), List.getD_eq_getElem?_getD, hx.out]; rfl
    clear hz hx hl
    go_enter Try.func8, Try.ntmps8
    go_wp2
    go_ret
    exact ⟨ret_int HV.out.symm, rfl⟩
  · have HV : Hid (r8v z k m = 0) := by
      show _ = _
      unfold r8v
      rw [if_pos (by omega)]
    have l1 : (n : Int) ≤ (k : Int) := by omega
    clear hz hl hlt
    go_enter Try.func8, Try.ntmps8
    go_wp2
    go_ret
    exact ⟨ret_int HV.out.symm, rfl⟩
theorem r8Long_no (a : Option Addr) (n c : Nat) (a' : Option Addr) (n' c' : Nat) (w : World) (h : n ≤ 48) (h' : n' ≤ 48) :
    Calls Try.prog 7 #[.slice a n c, .slice a' n' c'] w fun e w' => e = .returned (.bool false) ∧ w = w' := by
  go_enter Try.func7, Try.ntmps7
  go_wp2
  all_goals go_ret
  all_goals exact ⟨ret_bool (by first | rfl | (simp; omega)), rfl⟩
theorem r8Long_yes (a : Option Addr) (n c : Nat) (a' : Option Addr) (n' c' : Nat) (w : World) (hn : n ≤ maxLen) (hn' : n' ≤ maxLen) (h : 48 < n ∨ 48 < n') :
    Calls Try.prog 7 #[.slice a n c, .slice a' n' c'] w fun e w' => e = .returned (.bool true) ∧ w = w' := by
  go_enter Try.func7, Try.ntmps7
  go_wp2
  all_goals go_ret
  all_goals exact ⟨ret_bool (by first | rfl | (simp; omega)), rfl⟩

theorem own_slAD {w : World} {lo n c : Nat} {A : Option Addr} {M : List A4} (h : w.ownsRow lo 73 4 (.slice A n c) n (fa M)) (hl : M.length = n) : SlA w w.heap.size A n M := by
  subst hl
  obtain ⟨A', c', e, hs⟩ := (OwnV.of h).slA
  injection e with e1 _ _
  subst e1
  exact hs
set_option maxRecDepth 100000 in
set_option maxHeartbeats 4000000 in
theorem r8Machine_any (w : World) (a : Option Addr) (n c : Nat) (z : List Int) (hz : SlY w w.heap.size a n z) (hn : n ≤ maxLen) (s t : Nat) (hs1 : 1 ≤ s) (hs2 : s ≤ 6) (ht1 : 1 ≤ t) (ht2 : t ≤ 4) (em : Bool) :
    Calls Try.prog 9 #[.slice a n c, .int .i64 (s : Int), .int .i64 (t : Int), .bool em] w fun e w' => ∃ (L : List A4) (P E : List Int) (p2 p3 p4 c2 c3 c4 : Nat), Dwn s t em L P E ∧ e = .returned (.agg #[.int .i64 (s : Int), .int .i64 (t : Int), .slice (some ⟨p2, 0, none⟩) L.length c2, .slice (some ⟨p3, 0, none⟩) P.length c3, .slice (some ⟨p4, 0, none⟩) E.length c4]) ∧ SlA w' w'.heap.size (some ⟨p2, 0, none⟩) L.length L ∧ SlI w' w'.heap.size (some ⟨p3, 0, none⟩) P.length P ∧ SlI w' w'.heap.size (some ⟨p4, 0, none⟩) E.length E ∧ Below w.heap.size w w' := by
  have r8 := Row.new w 28 [.int .i64 0, .int .i64 0, .slice none 0 0, .slice none 0 0, .slice none 0 0]
  have bx : Below w.heap.size w (w.alloc (.cells ([.int .i64 0, .int .i64 0, .slice none 0 0, .slice none 0 0, .slice none 0 0] : List Value).toArray 28)) := (Below.refl _ _).alloc (Nat.le_refl _) _
  have hsz : (w.alloc (.cells ([.int .i64 0, .int .i64 0, .slice none 0 0, .slice none 0 0, .slice none 0 0] : List Value).toArray 28)).heap.size = w.heap.size + 1 := by simp
  have hF := from_any (w.alloc (.cells ([.int .i64 0, .int .i64 0, .slice none 0 0, .slice none 0 0, .slice none 0 0] : List Value).toArray 28)) a n c z ((hz.below bx (Nat.le_refl _)).more bx.size)
  rw [hsz] at hF
  have R8 := Lib.hid r8; have BX := Lib.hid bx
  clear hz hsz r8 bx
  go_enter Try.func9, Try.ntmps9
  go_wp2_with fail
  refine hF.mono ?_
  clear hF
  rintro e w1 ⟨rfl, hs, hb1, hz1⟩
  have R81 := Lib.hid (R8.out.below hb1 (by omega))
  have B1 : Hid (Below w.heap.size w w1) := BX.out.trans (hb1.mono (by omega))
  have hS := sides_any w1 (w.heap.size + 1) a n c z 0 hs hn s t hs1 hs2 ht1 ht2 em
  clear hs hb1 hz1
  go_wp2_with fail
  refine hS.mono ?_
  clear hS
  rintro e w2 ⟨L, P, E, p2, p3, p4, c2, c3, c4, hD, rfl, o2, o3, o4, hb2⟩
  have r82 := R81.out.below hb2 (by omega)
  have s0 := r82.cell 0; have s1 := r82.cell 1; have s2 := r82.cell 2; have s3 := r82.cell 3; have s4 := r82.cell 4
  have f0 := r82.frozen 0; have f1 := r82.frozen 1; have f2 := r82.frozen 2; have f3 := r82.frozen 3; have f4 := r82.frozen 4
  have R82 := Lib.hid r82; have O2 := Lib.hid o2; have O3 := Lib.hid o3; have O4 := Lib.hid o4; have HD := Lib.hid hD
  have B2 : Hid (Below w.heap.size w w2) := B1.out.trans (hb2.mono (by omega))
  clear r82 o2 o3 o4 hD hb2
  go_wp2_with fail
  clear s0 s1 s2 s3 s4 f0 f1 f2 f3 f4
  have hF := (((((R82.out.set_ 0 (.int .i64 (s : Int))).set_ 1 (.int .i64 (t : Int))).set_ 2 (.slice (some ⟨p2, 0, none⟩) L.length c2)).set_ 3 (.slice (some ⟨p3, 0, none⟩) P.length c3)).set_ 4 (.slice (some ⟨p4, 0, none⟩) E.length c4))
  refine bodyPost_ret (results_cell_row rfl _ _ w.heap.size 28 #[.int .i64 (s : Int), .int .i64 (t : Int), .slice (some ⟨p2, 0, none⟩) L.length c2, .slice (some ⟨p3, 0, none⟩) P.length c3, .slice (some ⟨p4, 0, none⟩) E.length c4] (0, 0) _ rfl hF Try.underlying28 rfl (by kernel_rfl)) rfl ?_
  have keepF : ∀ q, w.heap.size + 1 + 1 ≤ q → (((((w2.setCell ⟨w.heap.size, 0, none⟩ (.int .i64 (s : Int))).setCell ⟨w.heap.size, 1, none⟩ (.int .i64 (t : Int))).setCell ⟨w.heap.size, 2, none⟩ (.slice (some ⟨p2, 0, none⟩) L.length c2)).setCell ⟨w.heap.size, 3, none⟩ (.slice (some ⟨p3, 0, none⟩) P.length c3)).setCell ⟨w.heap.size, 4, none⟩ (.slice (some ⟨p4, 0, none⟩) E.length c4)).heap[q]? = w2.heap[q]? := fun q h1 => heap_set5 _ _ _ _ _ (by omega)
  have hbF := (((((B2.out.setCell (p := ⟨w.heap.size, 0, none⟩) (Nat.le_refl _) (.int .i64 (s : Int))).setCell (p := ⟨w.heap.size, 1, none⟩) (Nat.le_refl _) (.int .i64 (t : Int))).setCell (p := ⟨w.heap.size, 2, none⟩) (Nat.le_refl _) (.slice (some ⟨p2, 0, none⟩) L.length c2)).setCell (p := ⟨w.heap.size, 3, none⟩) (Nat.le_refl _) (.slice (some ⟨p3, 0, none⟩) P.length c3)).setCell (p := ⟨w.heap.size, 4, none⟩) (Nat.le_refl _) (.slice (some ⟨p4, 0, none⟩) E.length c4))
  have q2 := own_move O2.out (fun q hq => keepF q (O2.out.lt q hq).1)
  have q3 := own_move O3.out (fun q hq => keepF q (World.ownsRow.lt O3.out q hq).1)
  have q4 := own_move O4.out (fun q hq => keepF q (World.ownsRow.lt O4.out q hq).1)
  exact ⟨L, P, E, p2, p3, p4, c2, c3, c4, HD.out, rfl, own_slAD q2 rfl, own_sl q3, own_sl q4, hbF⟩
theorem SlY.row {w w' : World} {lo n : Nat} {a : Option Addr} {z : List Int} (h : SlY w lo a n z) (hk : ∀ k, k < lo → w'.heap[k]? = w.heap[k]?) : SlY w' lo a n z := h.keep fun b o hlt => World.cell?_of_block (a := ⟨b, o, none⟩) (hk b hlt)
set_option maxRecDepth 100000 in
set_option maxHeartbeats 4000000 in
theorem r8Word_any (w : World) (a : Option Addr) (n c : Nat) (z : List Int) (hz : SlY w w.heap.size a n z) (hn : n ≤ maxLen) (m t : Nat) (hm : m ≤ 12) (ht1 : 1 ≤ t) (ht2 : t ≤ 4) :
    Calls Try.prog 10 #[.slice a n c, .int .i64 (m : Int), .int .i64 (t : Int)] w fun e w' => ∃ (xs : List Int) (g d : Nat), xs.length = m ∧ (∀ x ∈ xs, 0 ≤ x ∧ x < t) ∧ e = .returned (.slice (some ⟨g, 0, none⟩) m d) ∧ RowI w' w.heap.size 2 (.slice (some ⟨g, 0, none⟩) m d) xs ∧ Below w.heap.size w w' := by
  have hF := from_any w a n c z hz
  clear hz
  go_enter Try.func10, Try.ntmps10
  go_wp2_with fail
  refine hF.mono ?_
  clear hF
  rintro e w1 ⟨rfl, hs, hb1, hz1⟩
  have HS := Lib.hid hs; have B1 := Lib.hid hb1; have HZ1 := Lib.hid hz1
  have HS2 := Lib.hid (HS.out.keep ((Below.refl _ _).alloc (Nat.le_refl _) (.cells #[] 2)) HS.out.1.lt)
  have HR0 := Lib.hid (RowI.made w1 (w.heap.size + 1) 2 (by rw [hz1]; exact Nat.le_refl _))
  have B2 : Hid (Below w.heap.size w (w1.alloc (.cells #[] 2))) := hb1.alloc hb1.size _
  clear hs hb1 hz1
  go_wp2_with fail
  go_loopg [1, 8] m (fun q cn o wr => ∃ (k i g d : Nat) (sd : Int) (xs : List Int), cn = .int .i64 ((m - k : Nat) : Int) ∧ k ≤ m ∧ m ≤ q + k ∧ i ≤ 2 * k ∧ o = .slice (some ⟨g, 0, none⟩) k d ∧ Hid (xs.length = k) ∧ Hid (∀ x ∈ xs, 0 ≤ x ∧ x < t) ∧ Hid (RowI wr (w.heap.size + 1) 2 (.slice (some ⟨g, 0, none⟩) k d) xs) ∧ Hid (Src wr w.heap.size w.heap.size a n c z i sd) ∧ Hid (Below w.heap.size w wr))
  case atStart => exact ⟨0, 0, w1.heap.size, 0, 0, [], by simp, by omega, by omega, by omega, rfl, rfl, (fun x h => by cases h), HR0.out, HS2.out, B2.out⟩
  case round =>
    clear HS HS2 HR0 B2 B1 HZ1
    obtain ⟨k, i, g, d, sd, xs, rfl, hk, hq, hi, rfl, HL, HX, HR, HS, HB⟩ := hrel
    obtain ⟨wo, rfl⟩ : ∃ x : World, x = wr := ⟨_, rfl⟩
    by_cases hlt : k < m
    · have q1 : (0 : Int) < ((m - k : Nat) : Int) := by omega
      have hP := pick1_any wo w.heap.size w.heap.size a n c z i sd HS.out (by omega) hn t ht1 (by omega)
      go_wp2_with fail
      refine hP.mono ?_
      clear hP
      rintro e y ⟨x, j, sd', x0, x1, hj, rfl, hs', hb', hz', hk'⟩
      have HRy : Hid (RowI y (w.heap.size + 1) 2 (.slice (some ⟨g, 0, none⟩) k d) xs) := own_move HR.out (fun q hq => hk' q (by have := (World.ownsRow.lt HR.out q hq).1; omega))
      have HSy := Lib.hid hs'; have HBy := Lib.hid (HB.out.trans hb')
      have hbs : w.heap.size + 1 ≤ y.heap.size := by have := HSy.out.1.lt; omega
      have HLEN : Hid (xs.length + 1 ≤ 4294967296) := by show _ ≤ _; rw [HL.out]; omega
      clear hs' hb' hz' hk'
      go_wp2_with (first | (at_builtin; refine wpList_int_push y rfl (.tmp 16) (.tmp 20) _ rfl (w.heap.size + 1) 2 Try.underlying26 infoQ (.slice (some ⟨g, 0, none⟩) k d) xs rfl HRy.out x rfl HLEN.out hbs ?_; intro g' cap w' hown hbl hat hgr; have HGR := Lib.hid hgr; have HOW := Lib.hid hown; have HBL := Lib.hid hbl; clear hown hbl hat hgr))
      go_roundg (gk - 1)
      case measure => omega
      case rel =>
        refine ⟨k + 1, j, g', cap, sd', xs ++ [x], by go_num, by omega, by omega, by omega, by first | rfl | (rw [HL.out]), ?_, ?_, ?_, ?_, HBy.out.trans (HBL.out.mono (by omega))⟩
        · show _ = _; rw [List.length_append, HL.out]; rfl
        · intro y hy
          rw [List.mem_append, List.mem_singleton] at hy
          rcases hy with hy | rfl
          · exact HX.out y hy
          · exact ⟨x0, x1⟩
        · show RowI _ _ _ _ _
          have := HOW.out
          rw [HL.out] at this
          exact this
        · exact HSy.out.move (fun q hq => HBL.out.block q (by omega))
    · have hkm : k = m := by omega
      subst hkm
      have q1 : ¬ (0 : Int) < ((k - k : Nat) : Int) := by omega
      have q2 : ((k - k : Nat) : Int) ≤ 0 := by omega
      go_wp2_with fail
      go_ret
      exact ⟨xs, HL.out, HX.out, g, d, rfl, World.ownsRow.mono HR.out (Nat.le_succ _), HB.out⟩
end Go.Proofs.Ytbdfbmohdbigfaa


namespace Go.Proofs.Ytbdfbmohdbigfaa
open Go.RowKit
set_option linter.unusedVariables false
set_option maxRecDepth 100000 in
set_option maxHeartbeats 4000000 in
theorem r8Plain_any (w : World) (a : Option Addr) (n c : Nat) (z : List Int) (hz : SlY w w.heap.size a n z) (hn : n ≤ maxLen) (s t : Nat) (hs1 : 1 ≤ s) (hs2 : s ≤ 6) (ht1 : 1 ≤ t) (ht2 : t ≤ 4) :
    Calls Try.prog 15 #[.slice a n c, .int .i64 (s : Int), .int .i64 (t : Int)] w fun e w' => ∃ (P : List Int) (E : List Bool) (p2 p3 c2 c3 : Nat), P.length = s * t ∧ (∀ x ∈ P, 0 ≤ x ∧ x < (s : Int)) ∧ E.length = s ∧ e = .returned (.agg #[.int .i64 (s : Int), .int .i64 (t : Int), .slice (some ⟨p2, 0, none⟩) P.length c2, .slice (some ⟨p3, 0, none⟩) E.length c3]) ∧ SlI w' w'.heap.size (some ⟨p2, 0, none⟩) P.length P ∧ SlB w' w'.heap.size (some ⟨p3, 0, none⟩) E.length E ∧ Below w.heap.size w w' := by
  have r8 := Row.new w 33 [.int .i64 0, .int .i64 0, .slice none 0 0, .slice none 0 0]
  have bx : Below w.heap.size w (w.alloc (.cells ([.int .i64 0, .int .i64 0, .slice none 0 0, .slice none 0 0] : List Value).toArray 33)) := (Below.refl _ _).alloc (Nat.le_refl _) _
  have hsz : (w.alloc (.cells ([.int .i64 0, .int .i64 0, .slice none 0 0, .slice none 0 0] : List Value).toArray 33)).heap.size = w.heap.size + 1 := by simp
  have hF := from_any (w.alloc (.cells ([.int .i64 0, .int .i64 0, .slice none 0 0, .slice none 0 0] : List Value).toArray 33)) a n c z ((hz.below bx (Nat.le_refl _)).more bx.size)
  rw [hsz] at hF
  have R8 := Lib.hid r8; have BX := Lib.hid bx
  clear hz hsz r8 bx
  go_enter Try.func15, Try.ntmps15
  go_wp2_with fail
  refine hF.mono ?_
  clear hF
  rintro e w1 ⟨rfl, hs, hb1, hz1⟩
  have R81 := Lib.hid (R8.out.below hb1 (by omega))
  have B1 : Hid (Below w.heap.size w w1) := BX.out.trans (hb1.mono (by omega))
  have hS := plainSides_any w1 (w.heap.size + 1) a n c z 0 hs hn s t hs1 hs2 ht1 ht2
  clear hs hb1 hz1
  go_wp2_with fail
  refine hS.mono ?_
  clear hS
  rintro e w2 ⟨P, E, p2, p3, c2, c3, hl2, hP, hl3, rfl, o2, o3, hb2⟩
  have r82 := R81.out.below hb2 (by omega)
  have s0 := r82.cell 0; have s1 := r82.cell 1; have s2 := r82.cell 2; have s3 := r82.cell 3
  have f0 := r82.frozen 0; have f1 := r82.frozen 1; have f2 := r82.frozen 2; have f3 := r82.frozen 3
  have R82 := Lib.hid r82; have O2 := Lib.hid o2; have O3 := Lib.hid o3; have HL2 := Lib.hid hl2; have HL3 := Lib.hid hl3; have HP := Lib.hid hP
  have B2 : Hid (Below w.heap.size w w2) := B1.out.trans (hb2.mono (by omega))
  clear r82 o2 o3 hl2 hl3 hP hb2
  go_wp2_with fail
  clear s0 s1 s2 s3 f0 f1 f2 f3
  have hF := ((((R82.out.set_ 0 (.int .i64 (s : Int))).set_ 1 (.int .i64 (t : Int))).set_ 2 (.slice (some ⟨p2, 0, none⟩) P.length c2)).set_ 3 (.slice (some ⟨p3, 0, none⟩) E.length c3))
  refine bodyPost_ret (results_cell_row rfl _ _ w.heap.size 33 #[.int .i64 (s : Int), .int .i64 (t : Int), .slice (some ⟨p2, 0, none⟩) P.length c2, .slice (some ⟨p3, 0, none⟩) E.length c3] (0, 0) _ rfl hF Try.underlying33 rfl (by kernel_rfl)) rfl ?_
  have keepF : ∀ q, w.heap.size + 1 + 1 ≤ q → ((((w2.setCell ⟨w.heap.size, 0, none⟩ (.int .i64 (s : Int))).setCell ⟨w.heap.size, 1, none⟩ (.int .i64 (t : Int))).setCell ⟨w.heap.size, 2, none⟩ (.slice (some ⟨p2, 0, none⟩) P.length c2)).setCell ⟨w.heap.size, 3, none⟩ (.slice (some ⟨p3, 0, none⟩) E.length c3)).heap[q]? = w2.heap[q]? := fun q h1 => heap_set4 _ _ _ _ (by omega)
  have hbF := ((((B2.out.setCell (p := ⟨w.heap.size, 0, none⟩) (Nat.le_refl _) (.int .i64 (s : Int))).setCell (p := ⟨w.heap.size, 1, none⟩) (Nat.le_refl _) (.int .i64 (t : Int))).setCell (p := ⟨w.heap.size, 2, none⟩) (Nat.le_refl _) (.slice (some ⟨p2, 0, none⟩) P.length c2)).setCell (p := ⟨w.heap.size, 3, none⟩) (Nat.le_refl _) (.slice (some ⟨p3, 0, none⟩) E.length c3))
  have q2 := own_move O2.out (fun q hq => keepF q (World.ownsRow.lt O2.out q hq).1)
  have q3 := own_move O3.out (fun q hq => keepF q (World.ownsRow.lt O3.out q hq).1)
  exact ⟨P, E, p2, p3, c2, c3, HL2.out, HP.out, HL3.out, rfl, own_sl q2, own_sl q3, hbF⟩
end Go.Proofs.Ytbdfbmohdbigfaa


namespace Go.Proofs.Ytbdfbmohdbigfaa
open Go.RowKit
set_option linter.unusedVariables false
/-- What is handed out is a plain machine as the walks want it. -/
theorem plw_ok {w : World} {lo : Nat} {v : Value} {N T : Nat} {P : List Int} {E : List Bool} (h : PlW w lo v (N : Int) (T : Int) P E) (hN : 1 ≤ N ∧ N ≤ 64) (hT : 1 ≤ T ∧ T ≤ 4) (hl : P.length = N * T) (hP : ∀ x ∈ P, 0 ≤ x ∧ x < (N : Int)) (hE : E.length = N) :
    ∃ B2 d2 B3 d3, v = .agg #[.int .i64 (N : Int), .int .i64 (T : Int), .slice B2 P.length d2, .slice B3 E.length d3] ∧ PlOk w N T B2 P.length B3 E.length P E := by
  obtain ⟨v2, v3, rfl, h2, h3, -⟩ := h
  obtain ⟨B2, d2, rfl, s2⟩ := h2.slV
  obtain ⟨B3, d3, rfl, s3⟩ := h3.slV
  exact ⟨B2, d2, B3, d3, rfl, s2, s3, hN, hT, hl, hP, hE⟩
theorem fPlain {s t : Nat} {L : List A4} {P E : List Int} {A2 : Option Addr} {n2 : Nat} (c2 : Nat) {A3 : Option Addr} {n3 : Nat} (c3 : Nat) {A4' : Option Addr} {n4 : Nat} (c4 : Nat) {x : World} (h2 : SlA x x.heap.size A2 n2 L) (h3 : SlI x x.heap.size A3 n3 P) (h4 : SlI x x.heap.size A4' n4 E) (hv : vmB (s : Int) (t : Int) L P E = true) (hs : P.length = s) (hs4 : s ≤ 4) (ht : 1 ≤ t ∧ t ≤ 4) :
    Calls Try.prog 11 #[.agg #[.int .i64 (s : Int), .int .i64 (t : Int), .slice A2 n2 c2, .slice A3 n3 c3, .slice A4' n4 c4]] x fun e y => ∃ (N : Nat) (B2 : Option Addr) (d2 : Nat) (B3 : Option Addr) (d3 : Nat) (P' : List Int) (E' : List Bool), e = .returned (.tuple #[.agg #[.int .i64 (N : Int), .int .i64 (t : Int), .slice B2 P'.length d2, .slice B3 E'.length d3], .bool true]) ∧ N ≤ 16 ∧ PlOk y N t B2 P'.length B3 E'.length P' E' ∧ (∀ ys : List Nat, (∀ z ∈ ys, z < t) → ys.length ≤ 12 → rdP t P' E' ys = decide (0 ≤ cst L P E (natW ys))) ∧ Below x.heap.size x y := by
  obtain ⟨hL, -, -, -, hPE, h16, hL128, -⟩ := vm_okM hv
  obtain ⟨N, hN, hN16⟩ := po_is hv hs hs4
  have hl2 := h2.len; have hl3 := h3.len; have hl4 := h4.len
  refine (iPlainOf_any (s : Int) (t : Int) L P E A2 n2 c2 A3 n3 c3 A4' n4 c4 x h2 h3 h4 (by omega) (by omega) (by omega)).mono ?_
  rintro e y ⟨v, rfl, hw, hb⟩
  have r1 : poR (s : Int) (t : Int) L P E = some N := by unfold poR; rw [hv, if_pos rfl, Int.toNat_natCast, hN]
  have r2 : poN (s : Int) (t : Int) L P E = (N : Int) := by unfold poN exN; rw [hv, if_pos rfl, Int.toNat_natCast, hN]; rfl
  have r3 : poT (s : Int) (t : Int) L P E = (t : Int) := by unfold poT exT; rw [hv, if_pos rfl, Int.toNat_natCast, hN]
  have r4 : poP (s : Int) (t : Int) L P E = (exA (pxN L P.length) (pxF L P) t N).2 := by unfold poP exP; rw [hv, if_pos rfl, Int.toNat_natCast, hN]
  have r5 : poD (s : Int) (t : Int) L P E = (exA (pxN L P.length) (pxF L P) t N).1.map (pxE E) := by unfold poD exD; rw [hv, if_pos rfl, Int.toNat_natCast, hN]
  rw [r2, r3, r4, r5] at hw
  obtain ⟨q1, q2, q3, q4, q5, q6⟩ := ex_res (pxE E) hN
  obtain ⟨B2, d2, B3, d3, rfl, hok⟩ := plw_ok hw ⟨q1, q2⟩ ht q3 q4 q5
  refine ⟨N, B2, d2, B3, d3, _, _, by rw [r1]; rfl, hN16, hok, fun ys hy hl => ?_, hb⟩
  rw [q6 ys hy]
  exact po_reads hv hl
theorem fOther {S T : Nat} {A2 : Option Addr} {n2 : Nat} (c2 : Nat) {A3 : Option Addr} {n3 : Nat} (c3 : Nat) {P : List Int} {E : List Bool} {x : World} (h : PlOk x S T A2 n2 A3 n3 P E) :
    Calls Try.prog 14 #[.agg #[.int .i64 (S : Int), .int .i64 (T : Int), .slice A2 n2 c2, .slice A3 n3 c3]] x fun e y => ∃ (B2 : Option Addr) (d2 : Nat) (B3 : Option Addr) (d3 : Nat) (E2 : List Bool), e = .returned (.tuple #[.agg #[.int .i64 (S : Int), .int .i64 (T : Int), .slice B2 P.length d2, .slice B3 E2.length d3], .bool true]) ∧ Hid (E2 = E.map (!·)) ∧ PlOk y S T B2 P.length B3 E2.length P E2 ∧ Below x.heap.size x y := by
  refine (iOther_any S T A2 n2 c2 A3 n3 c3 P E x h).mono ?_
  rintro e y ⟨v, rfl, hw, hb⟩
  obtain ⟨B2, d2, B3, d3, rfl, hok⟩ := plw_ok hw h.hS h.hT (by rw [h.h2.len, h.hn]) h.hP (by rw [List.length_map, h.h3.len, h.hE])
  exact ⟨B2, d2, B3, d3, _, rfl, rfl, hok, hb⟩
theorem fMeetP {Sa Sb T : Nat} {A2 : Option Addr} {n2 : Nat} (c2 : Nat) {A3 : Option Addr} {n3 : Nat} (c3 : Nat) {Pa : List Int} {Ea : List Bool} {B2 : Option Addr} {m2 : Nat} (d2 : Nat) {B3 : Option Addr} {m3 : Nat} (d3 : Nat) {Pb : List Int} {Eb : List Bool} {x : World} (ha : PlOk x Sa T A2 n2 A3 n3 Pa Ea) (hb : PlOk x Sb T B2 m2 B3 m3 Pb Eb) (h8 : Sa ≤ 8) (h8' : Sb ≤ 8) :
    Calls Try.prog 16 #[.agg #[.int .i64 (Sa : Int), .int .i64 (T : Int), .slice A2 n2 c2, .slice A3 n3 c3], .agg #[.int .i64 (Sb : Int), .int .i64 (T : Int), .slice B2 m2 d2, .slice B3 m3 d3]] x fun e y => ∃ (N : Nat) (C2 : Option Addr) (e2 : Nat) (C3 : Option Addr) (e3 : Nat) (P' : List Int) (E' : List Bool), e = .returned (.tuple #[.agg #[.int .i64 (N : Int), .int .i64 (T : Int), .slice C2 P'.length e2, .slice C3 E'.length e3], .bool true]) ∧ PlOk y N T C2 P'.length C3 E'.length P' E' ∧ (∀ ys : List Nat, (∀ z ∈ ys, z < T) → rdP T P' E' ys = (rdP T Pa Ea ys && rdP T Pb Eb ys)) ∧ Below x.heap.size x y := by
  have hS := ha.hS; have hS' := hb.hS
  obtain ⟨N, hN, -⟩ := mt_is ha.hn ha.h2.len ha.hP hb.hn hb.h2.len hb.hP (by omega) (by omega) h8 h8'
  refine (iMeetPlain_any Sa Sb T A2 n2 c2 A3 n3 c3 Pa Ea B2 m2 d2 B3 m3 d3 Pb Eb x ha hb).mono ?_
  rintro e y ⟨v, rfl, hw, hbl⟩
  have r2 : eqN (plX T Pa Pb) (0, 0) T = N := by unfold eqN; rw [hN]; rfl
  have r3 : eqT (plX T Pa Pb) (0, 0) T = T := by unfold eqT; rw [hN]
  have r4 : eqP (plX T Pa Pb) (0, 0) T = (exA (plX T Pa Pb) (0, 0) T N).2 := by unfold eqP; rw [hN]
  have r5 : eqD (plX T Pa Pb) (plM Ea Eb) (0, 0) T = (exA (plX T Pa Pb) (0, 0) T N).1.map (plM Ea Eb) := by unfold eqD; rw [hN]
  rw [r2, r3, r4, r5] at hw
  obtain ⟨q1, q2, q3, q4, q5, q6⟩ := ex_res (plM Ea Eb) hN
  obtain ⟨C2, e2, C3, e3, rfl, hok⟩ := plw_ok hw ⟨q1, q2⟩ ha.hT q3 q4 q5
  refine ⟨N, C2, e2, C3, e3, _, _, by rw [hN]; rfl, hok, fun ys hy => ?_, hbl⟩
  rw [q6 ys hy, plX_fold]; rfl
theorem fCostP (S T : Int) (L : List A4) (P E : List Int) (A2 : Option Addr) (n2 c2 : Nat) (A3 : Option Addr) (n3 c3 : Nat) (A4 : Option Addr) (n4 c4 : Nat) (A : Option Addr) (n c : Nat) (xs : List Int) (x : World) (h2 : SlA x x.heap.size A2 n2 L) (h3 : SlI x x.heap.size A3 n3 P) (h4 : SlI x x.heap.size A4 n4 E) (hx : SlI x x.heap.size A n xs) (v1 : vmB S T L P E = true) (hw : wordB xs T = true) (r : Int) (hr : r = cst L P E xs) :
    Calls Try.prog 12 #[.agg #[.int .i64 S, .int .i64 T, .slice A2 n2 c2, .slice A3 n3 c3, .slice A4 n4 c4], .slice A n c] x fun e y => e = .returned (.tuple #[.int .i64 r, .bool true]) ∧ Below x.heap.size x y := by
  have hok : coB S T L P E xs = true := by unfold coB; rw [v1, hw]; rfl
  have hv : coR 1099511627776 S T L P E xs = r := by unfold coR; rw [hok, if_pos rfl, hr]
  obtain ⟨_, _, _, _, hPE, hPn, hLn, _, _, _⟩ := vm_okM v1
  have hl := hx.len
  have hwl := wordB_len hw
  have h := iCostOf_any (.agg #[.int .i64 S, .int .i64 T, .slice A2 n2 c2, .slice A3 n3 c3, .slice A4 n4 c4]) S T L P E A n c xs x ⟨_, _, _, _, _, _, _, _, _, rfl, h2, h3, h4⟩ hx (by omega) (by omega) (by omega) (by omega)
  rw [hok, hv] at h
  exact h
/-- A plain machine in a block. -/
def Px (w : World) (g S T : Nat) (A2 : Option Addr) (n2 c2 : Nat) (A3 : Option Addr) (n3 c3 : Nat) (P : List Int) (E : List Bool) : Prop := Row w g 33 [.int .i64 (S : Int), .int .i64 (T : Int), .slice A2 n2 c2, .slice A3 n3 c3] ∧ PlOk w S T A2 n2 A3 n3 P E
theorem Px.below {w w' : World} {g S T : Nat} {A2 : Option Addr} {n2 c2 : Nat} {A3 : Option Addr} {n3 c3 : Nat} {P : List Int} {E : List Bool} {B : Nat} (h : Px w g S T A2 n2 c2 A3 n3 c3 P E) (hb : Below B w w') (hB : w.heap.size ≤ B) : Px w' g S T A2 n2 c2 A3 n3 c3 P E :=
  ⟨h.1.below hb (Nat.lt_of_lt_of_le h.1.lt hB), h.2.below hb hB⟩
theorem Px.new {w : World} {S T : Nat} {A2 : Option Addr} {n2 c2 : Nat} {A3 : Option Addr} {n3 c3 : Nat} {P : List Int} {E : List Bool} (h : PlOk w S T A2 n2 A3 n3 P E) : Px (w.alloc (.cells ([.int .i64 (S : Int), .int .i64 (T : Int), .slice A2 n2 c2, .slice A3 n3 c3] : List Value).toArray 33)) w.heap.size S T A2 n2 c2 A3 n3 c3 P E :=
  ⟨Row.new _ _ _, h.below (B := w.heap.size) ((Below.refl _ _).alloc (Nat.le_refl _) _) (Nat.le_refl _)⟩
/-- A drawn machine in a block. -/
def Mb' (w : World) (g p2 p3 p4 c2 c3 c4 : Nat) (S T : Int) (L : List A4) (P E : List Int) : Prop := Row w g 28 [.int .i64 S, .int .i64 T, .slice (some ⟨p2, 0, none⟩) L.length c2, .slice (some ⟨p3, 0, none⟩) P.length c3, .slice (some ⟨p4, 0, none⟩) E.length c4] ∧ SlA w w.heap.size (some ⟨p2, 0, none⟩) L.length L ∧ SlI w w.heap.size (some ⟨p3, 0, none⟩) P.length P ∧ SlI w w.heap.size (some ⟨p4, 0, none⟩) E.length E
theorem Mb'.below {w w' : World} {g p2 p3 p4 c2 c3 c4 B : Nat} {S T : Int} {L : List A4} {P E : List Int} (h : Mb' w g p2 p3 p4 c2 c3 c4 S T L P E) (hb : Below B w w') (hB : w.heap.size ≤ B) : Mb' w' g p2 p3 p4 c2 c3 c4 S T L P E := by
  obtain ⟨hr, h2, h3, h4⟩ := h
  exact ⟨hr.below hb (Nat.lt_of_lt_of_le hr.lt hB), (h2.below hb hB).more hb.size, (h3.below hb hB).more hb.size, (h4.below hb hB).more hb.size⟩
theorem Mb'.new {w : World} {S T : Int} {L : List A4} {P E : List Int} {p2 p3 p4 c2 c3 c4 : Nat} (h2 : SlA w w.heap.size (some ⟨p2, 0, none⟩) L.length L) (h3 : SlI w w.heap.size (some ⟨p3, 0, none⟩) P.length P) (h4 : SlI w w.heap.size (some ⟨p4, 0, none⟩) E.length E) : Mb' (w.alloc (.cells ([.int .i64 S, .int .i64 T, .slice (some ⟨p2, 0, none⟩) L.length c2, .slice (some ⟨p3, 0, none⟩) P.length c3, .slice (some ⟨p4, 0, none⟩) E.length c4] : List Value).toArray 28)) w.heap.size p2 p3 p4 c2 c3 c4 S T L P E := by
  have hb : Below w.heap.size w (w.alloc (.cells ([.int .i64 S, .int .i64 T, .slice (some ⟨p2, 0, none⟩) L.length c2, .slice (some ⟨p3, 0, none⟩) P.length c3, .slice (some ⟨p4, 0, none⟩) E.length c4] : List Value).toArray 28)) := (Below.refl _ _).alloc (Nat.le_refl _) _
  exact ⟨Row.new _ _ _, (h2.below hb (Nat.le_refl _)).more hb.size, (h3.below hb (Nat.le_refl _)).more hb.size, (h4.below hb (Nat.le_refl _)).more hb.size⟩
end Go.Proofs.Ytbdfbmohdbigfaa
