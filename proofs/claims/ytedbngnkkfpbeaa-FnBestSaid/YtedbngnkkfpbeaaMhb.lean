/- Several texts in one: R8Machine, R8Word; the small functions of the laws. FnBest: the calls' contracts as the law's walk wants them. -/
import Derived.Test.YtedbngnkkfpbeaaDrS
import Derived.Test.YtedbngnkkfpbeaaMgn
import Derived.Test.YtedbngnkkfpbeaaMha
import Derived.Deep.LoopGhost
import Derived.Deep.QuietTactic
import Derived.BigQuiet

namespace Go.Proofs.Ytedbngnkkfpbeaa
open Go.RowKit
set_option linter.unusedVariables false
def r8v (z : List Int) (k : Nat) (m : Int) : Int := if z.length ≤ k then 0 else z.getD k 0 % m
theorem r8v_bd {z : List Int} {k : Nat} {m : Int} (h : 0 < m) : 0 ≤ r8v z k m ∧ r8v z k m < m := by
  unfold r8v
  split
  · omega
  · exact ⟨Int.emod_nonneg _ (by omega), Int.emod_lt_of_pos _ h⟩
set_option maxHeartbeats 1000000 in
theorem r8At_any (a : Option Addr) (n c : Nat) (z : List Int) (lo : Nat) (w : World) (hz : SlY w lo a n z) (k : Nat) (m : Int) (h1 : 1 < m) (h2 : m ≤ 100000) (hk : k ≤ 100000) (hn : n ≤ maxLen) :
    Calls Try.prog 6 #[.slice a n c, .int .i64 k, .int .i64 m] w fun e w' => e = .returned (.int .i64 (r8v z k m)) ∧ w = w' := by
  unfold maxLen at hn
  have hl := hz.len
  by_cases hlt : k < n
  · obtain ⟨b, off, x, rfl, hb, x0, x1, hx, hc⟩ := hz.at_ hlt
    have HV : Hid (r8v z k m = x % m) := by
      show _ = _
      unfold r8v
      rw [if_neg (by omega), List.getD_eq_getElem?_getD, hx.out]; rfl
    clear hz hx hl
    go_enter Try.func6, Try.ntmps6
    go_wp2
    go_ret
    exact ⟨ret_int HV.out.symm, rfl⟩
  · have HV : Hid (r8v z k m = 0) := by
      show _ = _
      unfold r8v
      rw [if_pos (by omega)]
    have l1 : (n : Int) ≤ (k : Int) := by omega
    clear hz hl hlt
    go_enter Try.func6, Try.ntmps6
    go_wp2
    go_ret
    exact ⟨ret_int HV.out.symm, rfl⟩
theorem r8Long_no (a : Option Addr) (n c : Nat) (a' : Option Addr) (n' c' : Nat) (w : World) (h : n ≤ 48) (h' : n' ≤ 48) :
    Calls Try.prog 5 #[.slice a n c, .slice a' n' c'] w fun e w' => e = .returned (.bool false) ∧ w = w' := by
  go_enter Try.func5, Try.ntmps5
  go_wp2
  all_goals go_ret
  all_goals exact ⟨ret_bool (by first | rfl | (simp; omega)), rfl⟩
theorem r8Long_yes (a : Option Addr) (n c : Nat) (a' : Option Addr) (n' c' : Nat) (w : World) (hn : n ≤ maxLen) (hn' : n' ≤ maxLen) (h : 48 < n ∨ 48 < n') :
    Calls Try.prog 5 #[.slice a n c, .slice a' n' c'] w fun e w' => e = .returned (.bool true) ∧ w = w' := by
  go_enter Try.func5, Try.ntmps5
  go_wp2
  all_goals go_ret
  all_goals exact ⟨ret_bool (by first | rfl | (simp; omega)), rfl⟩

theorem own_slAD {w : World} {lo n c : Nat} {A : Option Addr} {M : List A4} (h : w.ownsRow lo 89 4 (.slice A n c) n (fa M)) (hl : M.length = n) : SlA w w.heap.size A n M := by
  subst hl
  obtain ⟨A', c', e, hs⟩ := (OwnV.of h).slA
  injection e with e1 _ _
  subst e1
  exact hs
set_option maxRecDepth 100000 in
set_option maxHeartbeats 4000000 in
theorem r8Machine_any (w : World) (a : Option Addr) (n c : Nat) (z : List Int) (hz : SlY w w.heap.size a n z) (hn : n ≤ maxLen) (s t : Nat) (hs1 : 1 ≤ s) (hs2 : s ≤ 6) (ht1 : 1 ≤ t) (ht2 : t ≤ 4) (em : Bool) :
    Calls Try.prog 7 #[.slice a n c, .int .i64 (s : Int), .int .i64 (t : Int), .bool em] w fun e w' => ∃ (L : List A4) (P E : List Int) (p2 p3 p4 c2 c3 c4 : Nat), Dwn s t em L P E ∧ e = .returned (.agg #[.int .i64 (s : Int), .int .i64 (t : Int), .slice (some ⟨p2, 0, none⟩) L.length c2, .slice (some ⟨p3, 0, none⟩) P.length c3, .slice (some ⟨p4, 0, none⟩) E.length c4]) ∧ SlA w' w'.heap.size (some ⟨p2, 0, none⟩) L.length L ∧ SlI w' w'.heap.size (some ⟨p3, 0, none⟩) P.length P ∧ SlI w' w'.heap.size (some ⟨p4, 0, none⟩) E.length E ∧ Below w.heap.size w w' := by
  have r8 := Row.new w 28 [.int .i64 0, .int .i64 0, .slice none 0 0, .slice none 0 0, .slice none 0 0]
  have bx : Below w.heap.size w (w.alloc (.cells ([.int .i64 0, .int .i64 0, .slice none 0 0, .slice none 0 0, .slice none 0 0] : List Value).toArray 28)) := (Below.refl _ _).alloc (Nat.le_refl _) _
  have hsz : (w.alloc (.cells ([.int .i64 0, .int .i64 0, .slice none 0 0, .slice none 0 0, .slice none 0 0] : List Value).toArray 28)).heap.size = w.heap.size + 1 := by simp
  have hF := from_any (w.alloc (.cells ([.int .i64 0, .int .i64 0, .slice none 0 0, .slice none 0 0, .slice none 0 0] : List Value).toArray 28)) a n c z ((hz.below bx (Nat.le_refl _)).more bx.size)
  rw [hsz] at hF
  have R8 := Lib.hid r8; have BX := Lib.hid bx
  clear hz hsz r8 bx
  go_enter Try.func7, Try.ntmps7
  go_wp2_with fail
  refine hF.mono ?_
  clear hF
  rintro e w1 ⟨rfl, hs, hb1, hz1⟩
  have R81 := Lib.hid (R8.out.below hb1 (by omega))
  have B1 : Hid (Below w.heap.size w w1) := BX.out.trans (hb1.mono (by omega))
  have hS := sides_any w1 (w.heap.size + 1) a n c z 0 hs hn s t hs1 hs2 ht1 ht2 em
  clear hs hb1 hz1
  go_wp2_with fail
  refine hS.mono ?_
  clear hS
  rintro e w2 ⟨L, P, E, p2, p3, p4, c2, c3, c4, hD, rfl, o2, o3, o4, hb2⟩
  have r82 := R81.out.below hb2 (by omega)
  have s0 := r82.cell 0; have s1 := r82.cell 1; have s2 := r82.cell 2; have s3 := r82.cell 3; have s4 := r82.cell 4
  have f0 := r82.frozen 0; have f1 := r82.frozen 1; have f2 := r82.frozen 2; have f3 := r82.frozen 3; have f4 := r82.frozen 4
  have R82 := Lib.hid r82; have O2 := Lib.hid o2; have O3 := Lib.hid o3; have O4 := Lib.hid o4; have HD := Lib.hid hD
  have B2 : Hid (Below w.heap.size w w2) := B1.out.trans (hb2.mono (by omega))
  clear r82 o2 o3 o4 hD hb2
  go_wp2_with fail
  clear s0 s1 s2 s3 s4 f0 f1 f2 f3 f4
  have hF := (((((R82.out.set_ 0 (.int .i64 (s : Int))).set_ 1 (.int .i64 (t : Int))).set_ 2 (.slice (some ⟨p2, 0, none⟩) L.length c2)).set_ 3 (.slice (some ⟨p3, 0, none⟩) P.length c3)).set_ 4 (.slice (some ⟨p4, 0, none⟩) E.length c4))
  refine bodyPost_ret (results_cell_row rfl _ _ w.heap.size 28 #[.int .i64 (s : Int), .int .i64 (t : Int), .slice (some ⟨p2, 0, none⟩) L.length c2, .slice (some ⟨p3, 0, none⟩) P.length c3, .slice (some ⟨p4, 0, none⟩) E.length c4] (0, 0) _ rfl hF Try.underlying28 rfl (by kernel_rfl)) rfl ?_
  have keepF : ∀ q, w.heap.size + 1 + 1 ≤ q → (((((w2.setCell ⟨w.heap.size, 0, none⟩ (.int .i64 (s : Int))).setCell ⟨w.heap.size, 1, none⟩ (.int .i64 (t : Int))).setCell ⟨w.heap.size, 2, none⟩ (.slice (some ⟨p2, 0, none⟩) L.length c2)).setCell ⟨w.heap.size, 3, none⟩ (.slice (some ⟨p3, 0, none⟩) P.length c3)).setCell ⟨w.heap.size, 4, none⟩ (.slice (some ⟨p4, 0, none⟩) E.length c4)).heap[q]? = w2.heap[q]? := fun q h1 => heap_set5 _ _ _ _ _ (by omega)
  have hbF := (((((B2.out.setCell (p := ⟨w.heap.size, 0, none⟩) (Nat.le_refl _) (.int .i64 (s : Int))).setCell (p := ⟨w.heap.size, 1, none⟩) (Nat.le_refl _) (.int .i64 (t : Int))).setCell (p := ⟨w.heap.size, 2, none⟩) (Nat.le_refl _) (.slice (some ⟨p2, 0, none⟩) L.length c2)).setCell (p := ⟨w.heap.size, 3, none⟩) (Nat.le_refl _) (.slice (some ⟨p3, 0, none⟩) P.length c3)).setCell (p := ⟨w.heap.size, 4, none⟩) (Nat.le_refl _) (.slice (some ⟨p4, 0, none⟩) E.length c4))
  have q2 := own_move O2.out (fun q hq => keepF q (O2.out.lt q hq).1)
  have q3 := own_move O3.out (fun q hq => keepF q (World.ownsRow.lt O3.out q hq).1)
  have q4 := own_move O4.out (fun q hq => keepF q (World.ownsRow.lt O4.out q hq).1)
  exact ⟨L, P, E, p2, p3, p4, c2, c3, c4, HD.out, rfl, own_slAD q2 rfl, own_sl q3, own_sl q4, hbF⟩
theorem SlY.row {w w' : World} {lo n : Nat} {a : Option Addr} {z : List Int} (h : SlY w lo a n z) (hk : ∀ k, k < lo → w'.heap[k]? = w.heap[k]?) : SlY w' lo a n z := h.keep fun b o hlt => World.cell?_of_block (a := ⟨b, o, none⟩) (hk b hlt)
set_option maxRecDepth 100000 in
set_option maxHeartbeats 4000000 in
theorem r8Word_any (w : World) (a : Option Addr) (n c : Nat) (z : List Int) (hz : SlY w w.heap.size a n z) (hn : n ≤ maxLen) (m t : Nat) (hm : m ≤ 12) (ht1 : 1 ≤ t) (ht2 : t ≤ 4) :
    Calls Try.prog 8 #[.slice a n c, .int .i64 (m : Int), .int .i64 (t : Int)] w fun e w' => ∃ (xs : List Int) (g d : Nat), xs.length = m ∧ (∀ x ∈ xs, 0 ≤ x ∧ x < t) ∧ e = .returned (.slice (some ⟨g, 0, none⟩) m d) ∧ RowI w' w.heap.size 2 (.slice (some ⟨g, 0, none⟩) m d) xs ∧ Below w.heap.size w w' := by
  have hF := from_any w a n c z hz
  clear hz
  go_enter Try.func8, Try.ntmps8
  go_wp2_with fail
  refine hF.mono ?_
  clear hF
  rintro e w1 ⟨rfl, hs, hb1, hz1⟩
  have HS := Lib.hid hs; have B1 := Lib.hid hb1; have HZ1 := Lib.hid hz1
  have HS2 := Lib.hid (HS.out.keep ((Below.refl _ _).alloc (Nat.le_refl _) (.cells #[] 2)) HS.out.1.lt)
  have HR0 := Lib.hid (RowI.made w1 (w.heap.size + 1) 2 (by rw [hz1]; exact Nat.le_refl _))
  have B2 : Hid (Below w.heap.size w (w1.alloc (.cells #[] 2))) := hb1.alloc hb1.size _
  clear hs hb1 hz1
  go_wp2_with fail
  go_loopg [1, 8] m (fun q cn o wr => ∃ (k i g d : Nat) (sd : Int) (xs : List Int), cn = .int .i64 ((m - k : Nat) : Int) ∧ k ≤ m ∧ m ≤ q + k ∧ i ≤ 2 * k ∧ o = .slice (some ⟨g, 0, none⟩) k d ∧ Hid (xs.length = k) ∧ Hid (∀ x ∈ xs, 0 ≤ x ∧ x < t) ∧ Hid (RowI wr (w.heap.size + 1) 2 (.slice (some ⟨g, 0, none⟩) k d) xs) ∧ Hid (Src wr w.heap.size w.heap.size a n c z i sd) ∧ Hid (Below w.heap.size w wr))
  case atStart => exact ⟨0, 0, w1.heap.size, 0, 0, [], by simp, by omega, by omega, by omega, rfl, rfl, (fun x h => by cases h), HR0.out, HS2.out, B2.out⟩
  case round =>
    clear HS HS2 HR0 B2 B1 HZ1
    obtain ⟨k, i, g, d, sd, xs, rfl, hk, hq, hi, rfl, HL, HX, HR, HS, HB⟩ := hrel
    obtain ⟨wo, rfl⟩ : ∃ x : World, x = wr := ⟨_, rfl⟩
    by_cases hlt : k < m
    · have q1 : (0 : Int) < ((m - k : Nat) : Int) := by omega
      have hP := pick1_any wo w.heap.size w.heap.size a n c z i sd HS.out (by omega) hn t ht1 (by omega)
      go_wp2_with fail
      refine hP.mono ?_
      clear hP
      rintro e y ⟨x, j, sd', x0, x1, hj, rfl, hs', hb', hz', hk'⟩
      have HRy : Hid (RowI y (w.heap.size + 1) 2 (.slice (some ⟨g, 0, none⟩) k d) xs) := own_move HR.out (fun q hq => hk' q (by have := (World.ownsRow.lt HR.out q hq).1; omega))
      have HSy := Lib.hid hs'; have HBy := Lib.hid (HB.out.trans hb')
      have hbs : w.heap.size + 1 ≤ y.heap.size := by have := HSy.out.1.lt; omega
      have HLEN : Hid (xs.length + 1 ≤ 4294967296) := by show _ ≤ _; rw [HL.out]; omega
      clear hs' hb' hz' hk'
      go_wp2_with (first | (at_builtin; refine wpList_int_push y rfl (.tmp 16) (.tmp 20) _ rfl (w.heap.size + 1) 2 Try.underlying26 infoQ (.slice (some ⟨g, 0, none⟩) k d) xs rfl HRy.out x rfl HLEN.out hbs ?_; intro g' cap w' hown hbl hat hgr; have HGR := Lib.hid hgr; have HOW := Lib.hid hown; have HBL := Lib.hid hbl; clear hown hbl hat hgr))
      go_roundg (gk - 1)
      case measure => omega
      case rel =>
        refine ⟨k + 1, j, g', cap, sd', xs ++ [x], by go_num, by omega, by omega, by omega, by first | rfl | (rw [HL.out]), ?_, ?_, ?_, ?_, HBy.out.trans (HBL.out.mono (by omega))⟩
        · show _ = _; rw [List.length_append, HL.out]; rfl
        · intro y hy
          rw [List.mem_append, List.mem_singleton] at hy
          rcases hy with hy | rfl
          · exact HX.out y hy
          · exact ⟨x0, x1⟩
        · show RowI _ _ _ _ _
          have := HOW.out
          rw [HL.out] at this
          exact this
        · exact HSy.out.move (fun q hq => HBL.out.block q (by omega))
    · have hkm : k = m := by omega
      subst hkm
      have q1 : ¬ (0 : Int) < ((k - k : Nat) : Int) := by omega
      have q2 : ((k - k : Nat) : Int) ≤ 0 := by omega
      go_wp2_with fail
      go_ret
      exact ⟨xs, HL.out, HX.out, g, d, rfl, World.ownsRow.mono HR.out (Nat.le_succ _), HB.out⟩
end Go.Proofs.Ytedbngnkkfpbeaa


namespace Go.Proofs.Ytedbngnkkfpbeaa
open Go.RowKit
set_option linter.unusedVariables false
set_option maxHeartbeats 4000000 in
theorem r8Same_yes (A : Option Addr) (n c : Nat) (A' : Option Addr) (c' : Nat) (xs : List Int) (w : World) (h : SlI w w.heap.size A n xs) (h' : SlI w w.heap.size A' n xs) (hn : n ≤ 1000000) :
    Calls Try.prog 12 #[.slice A n c, .slice A' n c'] w fun e w' => e = .returned (.bool true) ∧ ∃ d, w' = w.drewN d := by
  have H := Lib.hid h; have H' := Lib.hid h'
  clear h h'
  go_enter Try.func12, Try.ntmps12
  go_wp2_with fail
  go_loopg [5] n (fun m i wr => ∃ k : Nat, i = .int .i64 k ∧ k ≤ n ∧ n ≤ m + k ∧ Hid (∃ d, wr = w.drewN d))
  case atStart => exact ⟨0, rfl, by omega, by omega, ⟨0, rfl⟩⟩
  case round =>
    obtain ⟨k, rfl, hk, hm, HD⟩ := hrel
    obtain ⟨wo, rfl⟩ : ∃ x : World, x = wr := ⟨_, rfl⟩
    have HB : Hid (Below w.heap.size w wo) := by obtain ⟨d, hd⟩ := HD.out; show Below _ _ _; rw [hd]; exact below_draws (Below.refl _ _) d
    by_cases hlt : k < n
    · have q1 : (k : Int) < (n : Int) := by omega
      have q2 : (0 : Int) ≤ (k : Int) := by omega
      obtain ⟨b1, off1, x, rfl, _, hx, cx⟩ := (H.out.below HB.out (Nat.le_refl _)).at_ hlt
      obtain ⟨b2, off2, y, rfl, _, hy, cy⟩ := (H'.out.below HB.out (Nat.le_refl _)).at_ hlt
      obtain rfl : x = y := Option.some.inj (hx.out.symm.trans hy.out)
      clear hx hy
      go_wp2_with fail
      go_quiet (fail)
      go_wp2_with fail
      go_roundg (gk - 1)
      case measure => omega
      case rel => exact ⟨k + 1, by go_num, by omega, by omega, by obtain ⟨d, hd⟩ := HD.out; rw [hd]; exact ⟨_, World.drewN_drewN _ _ _⟩⟩
    · have hkk : k = n := by omega
      have q1 : ¬ (k : Int) < (n : Int) := by omega
      clear hkk hlt
      go_wp2_with fail
      go_ret
      exact ⟨rfl, HD.out⟩
/-- Where one comes ahead of another as long: they part at a place, and are alike ahead of it. -/
theorem Bf.at_ : ∀ {x y : List Int}, Bf x y → ∃ (k : Nat) (a b : Int), x[k]? = some a ∧ y[k]? = some b ∧ a < b ∧ ∀ j, j < k → x[j]? = y[j]?
  | a :: x, b :: y, h => by
    rcases h with h | ⟨rfl, h⟩
    · exact ⟨0, a, b, rfl, rfl, h, fun j hj => by omega⟩
    · obtain ⟨k, a', b', h1, h2, h3, h4⟩ := Bf.at_ h
      refine ⟨k + 1, a', b', by simpa using h1, by simpa using h2, h3, fun j hj => ?_⟩
      cases j with
      | zero => rfl
      | succ j => simpa using h4 j (by omega)
  | [], [], h => h.elim
  | [], _ :: _, h => h.elim
  | _ :: _, [], h => h.elim
set_option maxHeartbeats 4000000 in
theorem r8Before_yes (A : Option Addr) (n c : Nat) (A' : Option Addr) (c' : Nat) (xs ys : List Int) (w : World) (h : SlI w w.heap.size A n xs) (h' : SlI w w.heap.size A' n ys) (hn : n ≤ 1000000) (hb : Bf xs ys) :
    Calls Try.prog 13 #[.slice A n c, .slice A' n c'] w fun e w' => e = .returned (.bool true) ∧ ∃ d, w' = w.drewN d := by
  obtain ⟨p, a, b, hp1, hp2, hab, hpj⟩ := hb.at_
  have hpn : p < n := by have := (List.getElem?_eq_some_iff.1 hp1).1; have := h.len; omega
  have H := Lib.hid h; have H' := Lib.hid h'; have HP1 := Lib.hid hp1; have HP2 := Lib.hid hp2; have HAB := Lib.hid hab; have HPJ := Lib.hid hpj; have HPN := Lib.hid hpn
  clear h h' hb hp1 hp2 hab hpj hpn
  go_enter Try.func13, Try.ntmps13
  go_wp2_with fail
  go_loopg [5] n (fun m i wr => ∃ k : Nat, i = .int .i64 k ∧ k ≤ p ∧ n ≤ m + k ∧ Hid (∃ d, wr = w.drewN d))
  case atStart => exact ⟨0, rfl, by omega, by omega, ⟨0, rfl⟩⟩
  case round =>
    obtain ⟨k, rfl, hk, hm, HD⟩ := hrel
    obtain ⟨wo, rfl⟩ : ∃ x : World, x = wr := ⟨_, rfl⟩
    have HB : Hid (Below w.heap.size w wo) := by obtain ⟨d, hd⟩ := HD.out; show Below _ _ _; rw [hd]; exact below_draws (Below.refl _ _) d
    have hlt : k < n := by have := HPN.out; omega
    have q1 : (k : Int) < (n : Int) := by omega
    have q2 : (0 : Int) ≤ (k : Int) := by omega
    obtain ⟨b1, off1, x, rfl, _, hx, cx⟩ := (H.out.below HB.out (Nat.le_refl _)).at_ hlt
    obtain ⟨b2, off2, y, rfl, _, hy, cy⟩ := (H'.out.below HB.out (Nat.le_refl _)).at_ hlt
    by_cases hkp : k < p
    · obtain rfl : x = y := Option.some.inj (hx.out.symm.trans ((HPJ.out k hkp).trans hy.out))
      clear hx hy
      go_wp2_with fail
      go_quiet (fail)
      go_wp2_with fail
      go_roundg (gk - 1)
      case measure => omega
      case rel => exact ⟨k + 1, by go_num, by omega, by omega, by obtain ⟨d, hd⟩ := HD.out; rw [hd]; exact ⟨_, World.drewN_drewN _ _ _⟩⟩
    · obtain rfl : k = p := by omega
      obtain rfl : a = x := Option.some.inj (HP1.out.symm.trans hx.out)
      obtain rfl : b = y := Option.some.inj (HP2.out.symm.trans hy.out)
      have n1 := HAB.out
      have n2 : (a == b) = false := by rw [beq_eq_false_iff_ne]; omega
      have n3 : ¬ a = b := by omega
      clear hx hy
      go_wp2_with fail
      go_quiet (fail)
      go_wp2_with fail
      go_quiet (fail)
      go_wp2_with fail
      go_ret
      exact ⟨rfl, by obtain ⟨d, hd⟩ := HD.out; rw [hd]; exact ⟨_, by rw [World.drewN_drewN, World.drewN_drewN]⟩⟩
/-- A machine in a block. -/
def Mf (w : World) (g p2 p3 p4 c2 c3 c4 : Nat) (S T : Int) (L : List A4) (P E : List Int) : Prop := Row w g 28 [.int .i64 S, .int .i64 T, .slice (some ⟨p2, 0, none⟩) L.length c2, .slice (some ⟨p3, 0, none⟩) P.length c3, .slice (some ⟨p4, 0, none⟩) E.length c4] ∧ SlA w w.heap.size (some ⟨p2, 0, none⟩) L.length L ∧ SlI w w.heap.size (some ⟨p3, 0, none⟩) P.length P ∧ SlI w w.heap.size (some ⟨p4, 0, none⟩) E.length E
theorem Mf.below {w w' : World} {g p2 p3 p4 c2 c3 c4 B : Nat} {S T : Int} {L : List A4} {P E : List Int} (h : Mf w g p2 p3 p4 c2 c3 c4 S T L P E) (hb : Below B w w') (hB : w.heap.size ≤ B) : Mf w' g p2 p3 p4 c2 c3 c4 S T L P E := by
  obtain ⟨hr, h2, h3, h4⟩ := h
  exact ⟨hr.below hb (Nat.lt_of_lt_of_le hr.lt hB), (h2.below hb hB).more hb.size, (h3.below hb hB).more hb.size, (h4.below hb hB).more hb.size⟩
theorem Mf.new {w : World} {S T : Int} {L : List A4} {P E : List Int} {p2 p3 p4 c2 c3 c4 : Nat} (h2 : SlA w w.heap.size (some ⟨p2, 0, none⟩) L.length L) (h3 : SlI w w.heap.size (some ⟨p3, 0, none⟩) P.length P) (h4 : SlI w w.heap.size (some ⟨p4, 0, none⟩) E.length E) : Mf (w.alloc (.cells ([.int .i64 S, .int .i64 T, .slice (some ⟨p2, 0, none⟩) L.length c2, .slice (some ⟨p3, 0, none⟩) P.length c3, .slice (some ⟨p4, 0, none⟩) E.length c4] : List Value).toArray 28)) w.heap.size p2 p3 p4 c2 c3 c4 S T L P E := by
  have hb : Below w.heap.size w (w.alloc (.cells ([.int .i64 S, .int .i64 T, .slice (some ⟨p2, 0, none⟩) L.length c2, .slice (some ⟨p3, 0, none⟩) P.length c3, .slice (some ⟨p4, 0, none⟩) E.length c4] : List Value).toArray 28)) := (Below.refl _ _).alloc (Nat.le_refl _) _
  exact ⟨Row.new w _ _, (h2.below hb (Nat.le_refl _)).more hb.size, (h3.below hb (Nat.le_refl _)).more hb.size, (h4.below hb (Nat.le_refl _)).more hb.size⟩
section
variable {x : World} {g p2 p3 p4 c2 c3 c4 : Nat} {S T : Int} {L : List A4} {P E : List Int}
/-- CostOf at a word. -/
theorem fCostB (h : Mf x g p2 p3 p4 c2 c3 c4 S T L P E) (v1 : vmB S T L P E = true) (A : Option Addr) (n c : Nat) (xs : List Int) (hx : SlI x x.heap.size A n xs) (hw : wordB xs T = true) (r : Int) (hr : r = coV 1099511627776 L P E xs) :
    Calls Try.prog 9 #[.agg #[.int .i64 S, .int .i64 T, .slice (some ⟨p2, 0, none⟩) L.length c2, .slice (some ⟨p3, 0, none⟩) P.length c3, .slice (some ⟨p4, 0, none⟩) E.length c4], .slice A n c] x fun e y => e = .returned (.tuple #[.int .i64 r, .bool true]) ∧ Below x.heap.size x y := by
  obtain ⟨-, h2, h3, h4⟩ := h
  have hok : coB S T L P E xs = true := by unfold coB; rw [v1, hw]; rfl
  have hv : coR 1099511627776 S T L P E xs = r := by unfold coR; rw [hok, if_pos rfl, hr]
  obtain ⟨_, _, _, _, hPE, hPn, hLn, _, _, _⟩ := vm_okM v1
  have hl := hx.len
  have hwl := wordB_len hw
  have h := iCostOf_any (.agg #[.int .i64 S, .int .i64 T, .slice (some ⟨p2, 0, none⟩) L.length c2, .slice (some ⟨p3, 0, none⟩) P.length c3, .slice (some ⟨p4, 0, none⟩) E.length c4]) S T L P E A n c xs x ⟨_, _, _, _, _, _, _, _, _, rfl, h2, h3, h4⟩ hx (by omega) (by omega) (by omega) (by omega)
  rw [hok, hv] at h
  exact h
/-- BestWord. -/
theorem fBestB (h : Mf x g p2 p3 p4 c2 c3 c4 S T L P E) (v1 : vmB S T L P E = true) (W : List Int) (C : Int) (b : Bool) (hW : W = bwW 1099511627776 S T L P E) (hC : C = bwC 1099511627776 S T L P E) (hb : b = bwB 1099511627776 S T L P E) :
    Calls Try.prog 10 #[.agg #[.int .i64 S, .int .i64 T, .slice (some ⟨p2, 0, none⟩) L.length c2, .slice (some ⟨p3, 0, none⟩) P.length c3, .slice (some ⟨p4, 0, none⟩) E.length c4]] x fun e y => ∃ A c, e = .returned (.tuple #[.slice A W.length c, .int .i64 C, .bool b]) ∧ RowI y x.heap.size 2 (.slice A W.length c) W ∧ Below x.heap.size x y := by
  subst hW hC hb
  obtain ⟨-, h2, h3, h4⟩ := h
  obtain ⟨_, _, _, _, hPE, hPn, hLn, _, _, _⟩ := vm_okM v1
  exact iBest_any S T L P E p2 0 p3 0 P.length p4 0 E.length c2 c3 c4 x h2 h3 h4 (by omega) (by omega) (by omega)
end
/-- BestWords. -/
theorem fBwsB {x : World} {g p2 p3 p4 c2 c3 c4 : Nat} {S : Int} {t : Nat} {L : List A4} {P E : List Int} (h : Mf x g p2 p3 p4 c2 c3 c4 S (t : Int) L P E) (v1 : vmB S (t : Int) L P E = true) (m cnt : Nat) (hm : m ≤ 5) (hc : 1 ≤ cnt) (hc2 : cnt ≤ 64) (R : List (List Int × Int)) (hR : R = (bsA 1099511627776 t m L P E).take cnt) :
    Calls Try.prog 11 #[.agg #[.int .i64 S, .int .i64 (t : Int), .slice (some ⟨p2, 0, none⟩) L.length c2, .slice (some ⟨p3, 0, none⟩) P.length c3, .slice (some ⟨p4, 0, none⟩) E.length c4], .int .i64 (m : Int), .int .i64 (cnt : Int)] x fun e y => ∃ g c g' c', e = .returned (.tuple #[.slice (some ⟨g, 0, none⟩) R.length c, .slice (some ⟨g', 0, none⟩) R.length c', .bool true]) ∧ TabI y x.heap.size 26 (.slice (some ⟨g, 0, none⟩) R.length c) (R.map Prod.fst) ∧ RowI y x.heap.size 2 (.slice (some ⟨g', 0, none⟩) R.length c') (R.map Prod.snd) ∧ Below x.heap.size x y := by
  obtain ⟨-, h2, h3, h4⟩ := h
  refine (iBws_yes S t m cnt L P E _ _ c2 _ _ c3 _ _ c4 x h2 h3 h4 v1 hm hc hc2).mono ?_
  rintro e y ⟨R', g, c, g', c', B, hR', rfl, h5, h6, -, -, h9⟩
  have : R' = R := by rw [hR', hR]; rfl
  subst this
  exact ⟨g, c, g', c', rfl, h5.tabI, h6, h9⟩
end Go.Proofs.Ytedbngnkkfpbeaa
