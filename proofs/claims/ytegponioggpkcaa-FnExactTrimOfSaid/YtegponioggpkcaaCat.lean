/- slices.Grow of nil and slices.Concat, for lists of numbers. -/
import Derived.Test.YtegponioggpkcaaBas
import Derived.Test.YtegponioggpkcaaRowS
import Derived.Test.YtegponioggpkcaaOwn
import Derived.Lib.AppendZeros
import Derived.Deep.LoopGhost
import Derived.Lib.SliceRun
namespace Go.Proofs.Ytegponioggpkcaa
open Go.RowKit
set_option linter.unusedVariables false
/-- A part of a concatenation: where it lies, and what it reads. -/
structure Part where
  b : Nat
  off : Nat
  n : Nat
  c : Nat
  xs : List Int
def Part.val (p : Part) : Value := .slice (some ⟨p.b, p.off, none⟩) p.n p.c
def catL (ps : List Part) : List Int := ps.flatMap Part.xs
theorem catL_succ {ps : List Part} {k : Nat} {p : Part} (h : ps[k]? = some p) : catL (ps.take (k + 1)) = catL (ps.take k) ++ p.xs := by
  obtain ⟨hk, rfl⟩ := List.getElem?_eq_some_iff.1 h
  unfold catL
  rw [List.take_succ_eq_append_getElem hk, List.flatMap_append]; simp
theorem catL_le {ps : List Part} (k : Nat) : (catL (ps.take k)).length ≤ (catL ps).length := by
  have : catL ps = catL (ps.take k) ++ catL (ps.drop k) := by unfold catL; rw [← List.flatMap_append, List.take_append_drop]
  rw [this, List.length_append]; omega
theorem zeros_own (w : World) (t : TypeId) (n cap : Nat) (hm : n + cap ≤ maxLen) : (w.alloc (.cells (Builtin.zeroCells (Value.int .i64 0).cells n ++ Builtin.zeroCells (Value.int .i64 0).cells cap) t)).ownsRow w.heap.size t 1 (.slice (some ⟨w.heap.size, 0, none⟩) 0 (n + cap)) 0 [] :=
  World.ownsRow_made w _ (n + cap) (Nat.le_refl _) hm (by simp [Builtin.zeroCells, Value.cells])
theorem SlV.cells0 {w : World} {B n b : Nat} {xs : List Value} (h : SlV w B (some ⟨b, 0, none⟩) n xs) : ∀ j u, xs[j]? = some u → w.cell? ⟨b, j, none⟩ = some u := by
  intro j u hu
  have hj := (List.getElem?_eq_some_iff.1 hu).1
  have hl := h.len
  obtain ⟨b', off', e, _, hc⟩ := h.2 (by omega)
  have e2 := Option.some.inj e
  injection e2 with e3 e4 _
  subst e3 e4
  have := hc j u hu
  rw [Nat.zero_add] at this; exact this
theorem iGrow0_zero (w : World) :
    Calls Try.prog 80 #[.slice none 0 0, .int .i64 0] w fun e w' => e = .returned (.slice none 0 0) ∧ w = w' := by
  go_enter Try.func80, Try.ntmps80
  go_wp2_with fail
  go_ret
  exact ⟨rfl, rfl⟩
set_option maxRecDepth 100000 in
set_option maxHeartbeats 1000000 in
theorem iGrow0_some (n : Nat) (w : World) (h0 : 0 < n) (hn : n ≤ 4294967296) :
    Calls Try.prog 80 #[.slice none 0 0, .int .i64 n] w fun e w' => ∃ c, e = .returned (.slice (some ⟨w.heap.size, 0, none⟩) 0 c) ∧ w'.ownsRow w.heap.size 2 1 (.slice (some ⟨w.heap.size, 0, none⟩) 0 c) 0 [] ∧ Below w.heap.size w w' := by
  obtain ⟨i, hi, hz, hs, hb⟩ := info_parts infoQ
  have hr := Lib.run_append_nil_zeros (P := Try.prog) w 26 3 26 2 i (.int .i64 0) .i64 .i64 Try.underlying26 Try.underlying3 hi hz n h0 (by rw [hs]; omega) (by omega) (by rw [hb]; omega)
  obtain ⟨cc, hcc⟩ : ∃ cc, cc = grownCap w n 0 2 := ⟨_, rfl⟩
  rw [← hcc] at hr
  obtain ⟨cs, hcs⟩ : ∃ cs, cs = Builtin.zeroCells (Value.int .i64 0).cells n ++ Builtin.zeroCells (Value.int .i64 0).cells (cc - n) := ⟨_, rfl⟩
  rw [← hcs] at hr
  have hge : n ≤ cc := by rw [hcc]; exact grownCap_ge _ _ _ _
  have hmx : cc ≤ maxLen := by rw [hcc]; exact grownCap_le_maxLen _ _ _ _ (by unfold maxLen; omega)
  have hsz : cs.size = cc * 1 := by rw [hcs]; simp [Builtin.zeroCells, Value.cells]; omega
  have l1 : (0 : Int) < (n : Int) := by omega
  have HS := Lib.hid hsz; have HG := Lib.hid hge; have HM := Lib.hid hmx
  clear hcs hcc hsz hmx hi hz hs hb
  go_enter Try.func80, Try.ntmps80
  go_wp2_with (first | (at_builtin; refine Lib.wpList_append_run _ rfl (.tmp 20) (.tmp 21) _ _ rfl _ _ rfl rfl _ _ hr ?_; clear hr))
  go_ret
  refine ⟨cc, rfl, ?_, (Below.drew (Below.refl _ _)).alloc (Nat.le_refl _) _⟩
  exact World.ownsRow_made w.drew cs cc (Nat.le_refl _) HM.out HS.out
set_option maxRecDepth 100000 in
set_option maxHeartbeats 1000000 in
theorem iCloneI_any (b off n c : Nat) (xs : List Int) (w : World) (h : SlI w w.heap.size (some ⟨b, off, none⟩) n xs) (hn : n ≤ 4294967296) :
    Calls Try.prog 43 #[.slice (some ⟨b, off, none⟩) n c] w fun e w' => ∃ A' c', e = .returned (.slice A' xs.length c') ∧ RowI w' w.heap.size 2 (.slice A' xs.length c') xs ∧ Below w.heap.size w w' := by
  have hl := Lib.hid h.len
  have H := Lib.hid h; clear h
  have hR0 := RowI.made w w.heap.size 2 (Nat.le_refl _)
  have HS := Lib.hid (SlV.alloc H.out (Nat.le_refl _) (.cells #[] 2))
  have hb0 : Below w.heap.size w (w.alloc (.cells #[] 2)) := (Below.refl _ _).alloc (Nat.le_refl _) _
  have HR0 := Lib.hid hR0; have HB0 := Lib.hid hb0; clear hR0 hb0
  have hnil := fun w => Lib.run_eql_slice_nil (P := Try.prog) w 26 2 (some ⟨b, off, none⟩) n c 0 0 Try.underlying26
  go_enter Try.func43, Try.ntmps43
  go_wp2_with (first | (at_builtin; refine wpList_ints_push rfl (.tmp 5) (.tmp 6) _ rfl w.heap.size 2 Try.underlying26 infoQ _ [] rfl HR0.out b off n c w.heap.size xs rfl HS.out (by show 0 + n ≤ _; omega) HB0.out.size ?_; intro v' w' hown hbl))
  go_ret
  obtain ⟨A', c', rfl, _, _⟩ := own_form hown
  exact ⟨A', c', rfl, hown, HB0.out.trans hbl⟩
set_option maxHeartbeats 2000000 in
theorem iConcat_any (gp m c : Nat) (ps : List Part) (w : World) (hv : SlV w w.heap.size (some ⟨gp, 0, none⟩) m (ps.map Part.val)) (hp : ∀ p ∈ ps, SlI w w.heap.size (some ⟨p.b, p.off, none⟩) p.n p.xs) (hm : m ≤ 1048576) (ht : (catL ps).length ≤ 4294967296) :
    Calls Try.prog 41 #[.slice (some ⟨gp, 0, none⟩) m c] w fun e w' => ∃ A' c', e = .returned (.slice A' (catL ps).length c') ∧ RowI w' w.heap.size 2 (.slice A' (catL ps).length c') (catL ps) ∧ Below w.heap.size w w' := by
  have hl : ps.length = m := by have := hv.len; simpa using this
  have HL := Lib.hid hl
  have HV := Lib.hid hv; have HP := Lib.hid hp; have HT := Lib.hid ht
  have hat : Hid (∀ k, k < m → ∃ p, ps[k]? = some p ∧ w.cell? ⟨gp, k, none⟩ = some (.slice (some ⟨p.b, p.off, none⟩) p.n p.c) ∧ p.xs.length = p.n) := by
    intro k hk
    have hk' : k < ps.length := by omega
    have hget := List.getElem?_eq_getElem hk'
    refine ⟨ps[k], hget, ?_, (hp _ (List.getElem_mem hk')).len⟩
    have := SlV.cells0 hv k _ (by rw [List.getElem?_map, hget]; rfl)
    exact this
  clear hl hv hp ht
  go_enter Try.func41, Try.ntmps41
  go_wp2_with fail
  go_loopg [3, 5, 11] m (fun q s u i wr => ∃ k : Nat, i = .int .i64 k ∧ k ≤ m ∧ m ≤ q + k ∧ s = .int .i64 ((catL (ps.take k)).length : Nat) ∧ wr = w)
  case atStart => exact ⟨0, rfl, by omega, by omega, by simp [catL], rfl⟩
  case round =>
    obtain ⟨k, rfl, hk, hmq, rfl, hww⟩ := hrel
    obtain rfl : w = wr := hww.symm
    have hle := catL_le (ps := ps) k
    have ht := HT.out
    by_cases hlt : k < m
    · obtain ⟨p, hpk, hc, hpl⟩ := hat.out k hlt
      have hsu := catL_succ hpk
      have hle1 := catL_le (ps := ps) (k + 1)
      have hln : (catL (ps.take (k + 1))).length = (catL (ps.take k)).length + p.n := by rw [hsu, List.length_append, hpl]
      obtain ⟨t, ht0⟩ : ∃ t : Nat, t = (catL (ps.take k)).length := ⟨_, rfl⟩
      rw [← ht0] at hln hle ⊢
      have htn : t + p.n ≤ 4294967296 := by omega
      have HLN := Lib.hid hln
      clear hsu hle1 hln ht0 hpl hle ht
      have l0 : (0 : Int) ≤ (k : Int) := by omega
      have l1 : (k : Int) < (m : Int) := by omega
      go_wp2_with fail
      go_roundg (gk - 1)
      case measure => omega
      case rel => exact ⟨k + 1, by go_num, by omega, by omega, by rw [HLN.out]; go_num, rfl⟩
    · obtain rfl : m = k := by omega
      have hfull : ps.take m = ps := List.take_of_length_le (by have := HL.out; omega)
      rw [hfull]
      have HTot := Lib.hid (rfl : (catL ps).length = (catL ps).length)
      obtain ⟨t, ht0⟩ : ∃ t : Nat, t = (catL ps).length := ⟨_, rfl⟩
      have HT0 := Lib.hid ht0
      rw [← ht0] at ht ⊢
      clear hfull hle ht0
      go_wp2_with fail
      have hgrow : Calls Try.prog 80 #[.slice none 0 0, .int .i64 t] w fun e w' => ∃ A c, e = .returned (.slice A 0 c) ∧ RowI w' w.heap.size 2 (.slice A 0 c) [] ∧ Below w.heap.size w w' := by
        by_cases h0 : t = 0
        · subst h0
          refine (iGrow0_zero w).mono ?_
          rintro e w' ⟨rfl, rfl⟩
          exact ⟨none, 0, rfl, RowI.nil _ _ _, Below.refl _ _⟩
        · refine (iGrow0_some t w (by omega) ht).mono ?_
          rintro e w' ⟨c, rfl, h1, h2⟩
          exact ⟨_, c, rfl, h1, h2⟩
      refine hgrow.mono ?_
      rintro e w1 ⟨A, c1, rfl, hA, hb1⟩
      have HA := Lib.hid hA; have HB1 := Lib.hid hb1
      clear hgrow hA hb1
      go_wp2_with fail
      go_loopg [6, 8, 27] m (fun q o u i wr' => ∃ (k : Nat) (A : Option Addr) (n c : Nat), i = .int .i64 k ∧ k ≤ m ∧ m ≤ q + k ∧ o = .slice A n c ∧ Hid (n = (catL (ps.take k)).length) ∧ Hid (RowI wr' w.heap.size 2 (.slice A n c) (catL (ps.take k))) ∧ Hid (Below w.heap.size w wr'))
      case atStart => exact ⟨0, A, 0, c1, rfl, by omega, by omega, rfl, by show 0 = _; simp [catL], by show RowI _ _ _ _ (catL (ps.take 0)); rw [show catL (ps.take 0) = [] by simp [catL]]; exact HA.out, HB1.out⟩
      case round =>
        obtain ⟨k, A, n, c, rfl, hk, hmq, rfl, HN, HR, HB⟩ := hrel
        by_cases hlt : k < m
        · obtain ⟨p, hpk, hc, hpl⟩ := hat.out k hlt
          have hc2 := (HB.out.cell (p := ⟨gp, k, none⟩) (World.block_lt_of_cell? _ _ hc)).trans hc
          have HSU := Lib.hid (catL_succ hpk)
          have HSL := Lib.hid ((HP.out p (List.mem_of_getElem? hpk)).below HB.out (Nat.le_refl _))
          have hle1 := catL_le (ps := ps) (k + 1)
          have hroom : Hid ((catL (ps.take k)).length + p.n ≤ 4294967296) := by
            show _ ≤ _
            rw [HSU.out, List.length_append, hpl] at hle1; have := HT.out; omega
          have l0 : (0 : Int) ≤ (k : Int) := by omega
          have l1 : (k : Int) < (m : Int) := by omega
          have hsz : w.heap.size ≤ wr.heap.size := HB.out.size
          clear hle1 hpl hc
          go_wp2_with (first | (at_builtin; refine wpList_ints_push rfl (.tmp 31) (.tmp 32) _ rfl w.heap.size 2 Try.underlying26 infoQ _ (catL (ps.take k)) rfl HR.out p.b p.off p.n p.c w.heap.size p.xs rfl HSL.out hroom.out hsz ?_; intro v' w' hown hbl; obtain ⟨A', c', hv', _, _⟩ := own_form hown; subst hv'; have HO := Lib.hid hown; have HBL := Lib.hid hbl; clear hown hbl))
          go_roundg (gk - 1)
          case measure => omega
          case rel => exact ⟨k + 1, A', _, c', by go_num, by omega, by omega, rfl, by rw [HSU.out]; show _ = _; rw [List.length_append], by rw [HSU.out]; have := HO.out; rw [List.length_append] at this; exact this, HB.out.trans HBL.out⟩
        · obtain rfl : m = k := by omega
          have hfull : Hid (ps.take m = ps) := List.take_of_length_le (by have := HL.out; omega)
          go_wp2_with fail
          go_ret
          have hn := HN.out; have hR := HR.out
          rw [hfull.out] at hn hR
          subst hn
          exact ⟨A, c, rfl, hR, HB.out⟩
end Go.Proofs.Ytegponioggpkcaa
