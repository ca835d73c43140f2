/- tidy of the program: clones of what may be nil, arcs in order, of those that lead alike the first one. -/
import Derived.Test.YtegponioggpkcaaTiB
import Derived.Test.YtegponioggpkcaaCat
namespace Go.Proofs.Ytegponioggpkcaa
open Go.RowKit Go.Sort Go.Lib
set_option linter.unusedVariables false
/-- A plain head of a slice: nil, or a place of its own. -/
def PlA (A : Option Addr) : Prop := A = none ∨ ∃ b o, A = some ⟨b, o, none⟩
theorem ownA_pl {w : World} {lo n c sz : Nat} {t : TypeId} {A : Option Addr} {xs : List Value} (h : w.ownsRow lo t sz (.slice A n c) n xs) : PlA A := by
  obtain ⟨_, h2⟩ := h
  rcases h2 with ⟨e, -⟩ | ⟨g', cap, cur, e, hb, hg, hnc, hm, hs, ht⟩
  · injection e with e1 _ _; exact .inl e1
  · injection e with e1 _ _; exact .inr ⟨_, _, e1⟩
set_option maxHeartbeats 1000000 in
theorem iCloneA0 (c : Nat) (w : World) :
    Calls Try.prog 40 #[.slice none 0 c] w fun e w' => e = .returned (.slice none 0 0) ∧ w = w' := by
  have hnil := fun w => Lib.run_eql_slice_nil (P := Try.prog) w 25 62 none 0 c 0 0 Try.underlying25
  go_enter Try.func40, Try.ntmps40
  go_wp2_with fail
  go_ret
  exact ⟨rfl, rfl⟩
set_option maxHeartbeats 1000000 in
theorem iCloneI0 (c : Nat) (w : World) :
    Calls Try.prog 43 #[.slice none 0 c] w fun e w' => e = .returned (.slice none 0 0) ∧ w = w' := by
  have hnil := fun w => Lib.run_eql_slice_nil (P := Try.prog) w 26 2 none 0 c 0 0 Try.underlying26
  go_enter Try.func43, Try.ntmps43
  go_wp2_with fail
  go_ret
  exact ⟨rfl, rfl⟩
theorem iCloneAo_any (A : Option Addr) (n c : Nat) (L : List A4) (w : World) (hp : PlA A) (h : SlA w w.heap.size A n L) (hn : n ≤ 4294967296) :
    Calls Try.prog 40 #[.slice A n c] w fun e w' => ∃ A' c', e = .returned (.slice A' n c') ∧ w'.ownsRow w.heap.size 62 4 (.slice A' n c') n (fa L) ∧ Below w.heap.size w w' := by
  rcases hp with rfl | ⟨b, o, rfl⟩
  · have h0 : n = 0 := by
      rcases Nat.eq_zero_or_pos n with h0 | h0
      · exact h0
      · obtain ⟨_, _, e, _⟩ := h.2 h0; cases e
    subst h0
    have hl : L = [] := List.length_eq_zero_iff.1 h.len
    subst hl
    refine (iCloneA0 c w).mono ?_
    rintro e w' ⟨rfl, rfl⟩
    exact ⟨none, 0, rfl, World.ownsRow_nil w _ _ 4, Below.refl _ _⟩
  · exact iCloneA_any b o n c L w h hn
theorem iCloneIo_any (A : Option Addr) (n c : Nat) (xs : List Int) (w : World) (hp : PlA A) (h : SlI w w.heap.size A n xs) (hn : n ≤ 4294967296) :
    Calls Try.prog 43 #[.slice A n c] w fun e w' => ∃ A' c', e = .returned (.slice A' xs.length c') ∧ RowI w' w.heap.size 2 (.slice A' xs.length c') xs ∧ Below w.heap.size w w' := by
  rcases hp with rfl | ⟨b, o, rfl⟩
  · have h0 : n = 0 := by
      rcases Nat.eq_zero_or_pos n with h0 | h0
      · exact h0
      · obtain ⟨_, _, e, _⟩ := h.2 h0; cases e
    subst h0
    have hl : xs = [] := List.length_eq_zero_iff.1 h.len
    subst hl
    refine (iCloneI0 c w).mono ?_
    rintro e w' ⟨rfl, rfl⟩
    exact ⟨none, 0, rfl, World.ownsRow_nil w _ _ 1, Below.refl _ _⟩
  · exact iCloneI_any b o n c xs w h hn
theorem iSort0 (A : Option Addr) (c : Nat) (w : World) :
    Calls Try.prog 91 #[.slice A 0 c, .func (.func 92) #[] #[]] w fun e w' => e = .returned (.tuple #[]) ∧ w' = w :=
  AnyF.slices_SortFunc_none Try.laysSlF06_f91 A c _ w
set_option maxHeartbeats 1000000 in
theorem iCompact0 (A : Option Addr) (c : Nat) (w : World) :
    Calls Try.prog 95 #[.slice A 0 c, .func (.func 96) #[] #[]] w fun e w' => e = .returned (.slice A 0 c) ∧ w = w' := by
  go_enter Try.func95, Try.ntmps95
  go_wp2_with fail
  go_ret
  exact ⟨rfl, rfl⟩
set_option maxHeartbeats 1000000 in
theorem iTidy_any (A : Option Addr) (n c : Nat) (L : List A4) (w : World) (hp : PlA A) (h : SlA w w.heap.size A n L) (hn : n ≤ 1048576) :
    Calls Try.prog 72 #[.slice A n c] w fun e w' => ∃ A' c', e = .returned (.slice A' (tdy L).length c') ∧ w'.ownsRow w.heap.size 62 4 (.slice A' (tdy L).length c') (tdy L).length (fa (tdy L)) ∧ Below w.heap.size w w' := by
  have hl := h.len
  have hc := iCloneAo_any A n c L w hp h (by omega)
  go_enter Try.func72, Try.ntmps72
  go_wp2_with fail
  refine hc.mono ?_
  rintro e w1 ⟨A1, c1, rfl, h1, b1⟩
  clear hc
  have HO := Lib.hid h1; have HB := Lib.hid b1
  clear h h1 b1
  rcases Nat.eq_zero_or_pos n with h0 | h0
  · subst h0
    have hL : L = [] := List.length_eq_zero_iff.1 hl
    subst hL
    go_wp2_with fail
    refine (iSort0 A1 c1 w1).mono ?_
    rintro e w' ⟨rfl, rfl⟩
    go_wp2_with fail
    refine (iCompact0 A1 c1 w').mono ?_
    rintro e w2 ⟨rfl, hw⟩
    obtain rfl := hw
    go_wp2_with fail
    go_ret
    exact ⟨A1, c1, rfl, HO.out, HB.out⟩
  · obtain ⟨g, c2, hv, hgb, hgl⟩ := World.ownsRow.form HO.out h0
    injection hv with e1 _ e3
    subst e1 e3
    have HT : Hid (tdy L = pG (tdS L) n) := by show pG (tdS L) L.length = _; rw [hl]
    have hs := iSortA_any w.heap.size g n c1 L w1 HO.out hl hn
    go_wp2_with fail
    refine hs.mono ?_
    rintro e w2 ⟨rfl, ho2, hb2⟩
    clear hs
    have hk := iCompact_any w.heap.size g n c1 (tdS L) w2 ho2 (by rw [tdS_len]; exact hl) hn (Nat.le_trans HB.out.size hb2.size)
    have HB2 := Lib.hid (HB.out.trans hb2)
    clear ho2 hb2
    go_wp2_with fail
    refine hk.mono ?_
    rintro e w3 ⟨rfl, ho3, hb3⟩
    rw [← HT.out] at ho3
    clear hk
    have HO3 := Lib.hid ho3; have HB3 := Lib.hid (HB2.out.trans hb3)
    clear ho3 hb3
    rw [← HT.out]
    go_wp2_with fail
    go_ret
    exact ⟨_, _, rfl, HO3.out, HB3.out⟩
end Go.Proofs.Ytegponioggpkcaa
