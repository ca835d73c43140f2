/- l02Apart of the reference: the first word behind which two plain machines differ, in a queue of pairs of states. -/
import Derived.Test.YtbdfbmohdbigfaaMgy
import Derived.Test.YtbdfbmohdbigfaaLnL
import Derived.Deep.LoopGhost
import Derived.Deep.QuietTactic
import Derived.BigQuiet

namespace Go.Proofs.Ytbdfbmohdbigfaa
open Go.RowKit
set_option linter.unusedVariables false
/-- The queue in memory: numbers of pairs, and words. -/
structure Ap (x0 w : World) (gp cp gw cw : Nat) (C : List Int) (W : List (List Nat)) (ws : List Value) : Prop where
  bel : Below x0.heap.size x0 w
  op : w.ownsRow x0.heap.size 2 1 (.slice (some ⟨gp, 0, none⟩) C.length cp) C.length (iv C)
  ow : w.ownsRow x0.heap.size 26 1 (.slice (some ⟨gw, 0, none⟩) W.length cw) W.length ws
  ne : gp ≠ gw
  el : El w W ws (fun b => b = gp ∨ b = gw)
  sm : ∀ u ∈ ws, ∃ b o n c, u = .slice (some ⟨b, o, none⟩) n c ∧ n ≤ c ∧ x0.heap.size ≤ b
theorem tdivU {a b c : Nat} (h : a / b = c) : (a : Int).tdiv (b : Int) = (c : Int) := by subst h; rfl
theorem tmodU {a b c : Nat} (h : a % b = c) : (a : Int).tmod (b : Int) = (c : Int) := by subst h; rfl
theorem own_someU {w : World} {lo sz n c : Nat} {t : TypeId} {A : Option Addr} {xs : List Value} (h : w.ownsRow lo t sz (.slice A n c) n xs) (hn : 0 < n) : ∃ g, A = some ⟨g, 0, none⟩ := by
  obtain ⟨h1, h2⟩ := h
  rcases h2 with ⟨h2, h3⟩ | ⟨g, c', cs, e, -⟩
  · omega
  · injection e with e1 _ _
    exact ⟨g, e1⟩
section
variable {x0 w w' : World} {gp cp gw cw : Nat} {C : List Int} {W : List (List Nat)} {ws : List Value}
theorem Ap.size (h : Ap x0 w gp cp gw cw C W ws) : x0.heap.size ≤ w.heap.size := h.bel.size
theorem Ap.wl (h : Ap x0 w gp cp gw cw C W ws) : ws.length = W.length := by have := h.ow.1; omega
theorem Ap.call (h : Ap x0 w gp cp gw cw C W ws) (hb : Below w.heap.size w w') : Ap x0 w' gp cp gw cw C W ws :=
  ⟨h.bel.trans (hb.mono h.size), own_move h.op (fun k hk => hb.block k (h.op.lt k hk).2), own_move h.ow (fun k hk => hb.block k (h.ow.lt k hk).2), h.ne, h.el.step hb.size (fun b hlt _ => hb.block b hlt) (fun _ _ q => q), h.sm⟩
theorem Ap.drewN (h : Ap x0 w gp cp gw cw C W ws) (n : Nat) : Ap x0 (w.drewN n) gp cp gw cw C W ws := h.call (below_draws (Below.refl _ _) n)
theorem Ap.index (h : Ap x0 w gp cp gw cw C W ws) {g' c' : Nat} {C' : List Int} (ho : w'.ownsRow x0.heap.size 2 1 (.slice (some ⟨g', 0, none⟩) C'.length c') C'.length (iv C')) (hg : w.grownBy w' (some gp)) (hq : g' = gp ∨ w.heap.size ≤ g') : Ap x0 w' g' c' gw cw C' W ws := by
  have l1 := h.op.lt gp rfl; have l2 := h.ow.lt gw rfl; have hne := h.ne
  have hbl : ∀ b, b < w.heap.size → b ≠ gp → w'.heap[b]? = w.heap[b]? := fun b hb hn => hg.block b hb (fun e => hn (Option.some.inj e))
  refine ⟨h.bel.trans ⟨hg.os, hg.tape, hg.output, hg.size, fun b hb => hbl b (by have := h.size; omega) (by omega)⟩, ho, own_move h.ow (fun k hk => hbl k (by simp [Value.ownBlock] at hk; omega) (by simp [Value.ownBlock] at hk; omega)), by omega, h.el.step hg.size (fun b hb hn => hbl b hb (fun e => hn (.inl e))) (fun b hb q => q.imp (fun e => by omega) id), h.sm⟩
theorem Ap.word (h : Ap x0 w gp cp gw cw C W ws) {gw' cw' : Nat} {wd : List Nat} {b o c : Nat} (ho : w'.ownsRow x0.heap.size 26 1 (.slice (some ⟨gw', 0, none⟩) (W.length + 1) cw') (W.length + 1) (ws ++ [.slice (some ⟨b, o, none⟩) wd.length c])) (hg : w.grownBy w' (some gw)) (hq : gw' = gw ∨ w.heap.size ≤ gw')
    (h2 : SlI w w.heap.size (some ⟨b, o, none⟩) wd.length (natW wd)) (h3 : b ≠ gp ∧ b ≠ gw) (h4 : wd.length ≤ c) (h5 : x0.heap.size ≤ b) : Ap x0 w' gp cp gw' cw' C (W ++ [wd]) (ws ++ [.slice (some ⟨b, o, none⟩) wd.length c]) := by
  have l1 := h.op.lt gp rfl; have l2 := h.ow.lt gw rfl; have hne := h.ne
  have hbl : ∀ b, b < w.heap.size → b ≠ gw → w'.heap[b]? = w.heap[b]? := fun b hb hn => hg.block b hb (fun e => hn (Option.some.inj e))
  refine ⟨h.bel.trans ⟨hg.os, hg.tape, hg.output, hg.size, fun b hb => hbl b (by have := h.size; omega) (by omega)⟩, own_move h.op (fun k hk => hbl k (by simp [Value.ownBlock] at hk; omega) (by simp [Value.ownBlock] at hk; omega)), by rw [List.length_append]; exact ho, by omega, ?_, fun u hu => ?_⟩
  · exact (h.el.snoc h.wl (.inr ⟨b, o, rfl⟩) h2 (fun b' o' e _ => by
      injection e with e
      injection e with e1 _ _
      omega)).step hg.size (fun b hb hn => hbl b hb (fun e => hn (.inr e))) (fun b hb q => q.imp id (fun e => by omega))
  · rcases List.mem_append.1 hu with hu | hu
    · exact h.sm u hu
    · exact ⟨_, _, _, _, List.mem_singleton.1 hu, h4, h5⟩
/-- The number is there. -/
theorem Ap.ixOld (h : Ap x0 w gp cp gw cw C W ws) {x : Int} (hx : x ∈ C) (hl : C.length ≤ 100000) :
    Calls Try.prog 66 #[.slice (some ⟨gp, 0, none⟩) C.length cp, .int .i64 x] w fun e w' => ∃ (g' c' : Nat) (z : Int), e = .returned (.tuple #[.int .i64 z, .slice (some ⟨g', 0, none⟩) C.length c']) ∧ Ap x0 w' g' c' gw cw C W ws := by
  have l1 := h.op.lt gp rfl
  refine (sIndex_any x0.heap.size (some ⟨gp, 0, none⟩) C.length cp C x w h.op rfl h.size hl).mono ?_
  rintro e w' ⟨A', c', rfl, hrow, hgr, hat⟩
  rw [addL_in hx] at hrow hat ⊢
  have hpos := List.length_pos_of_mem hx
  obtain ⟨g', rfl⟩ := own_someU hrow hpos
  exact ⟨g', c', _, rfl, h.index hrow hgr ((hat g' rfl).imp (fun e => (Option.some.inj e).symm) id)⟩
/-- The number is new. -/
theorem Ap.ixNew (h : Ap x0 w gp cp gw cw C W ws) {x : Int} (hx : x ∉ C) (hl : C.length ≤ 100000) :
    Calls Try.prog 66 #[.slice (some ⟨gp, 0, none⟩) C.length cp, .int .i64 x] w fun e w' => ∃ (g' c' : Nat) (z : Int), e = .returned (.tuple #[.int .i64 z, .slice (some ⟨g', 0, none⟩) (C.length + 1) c']) ∧ Ap x0 w' g' c' gw cw (C ++ [x]) W ws := by
  have l1 := h.op.lt gp rfl
  refine (sIndex_any x0.heap.size (some ⟨gp, 0, none⟩) C.length cp C x w h.op rfl h.size hl).mono ?_
  rintro e w' ⟨A', c', rfl, hrow, hgr, hat⟩
  rw [addL_new hx] at hrow hat ⊢
  have hpos : 0 < (C ++ [x]).length := by simp
  obtain ⟨g', rfl⟩ := own_someU hrow hpos
  have e1 : (C ++ [x]).length = C.length + 1 := by simp
  refine ⟨g', c', _, by rw [← e1], h.index hrow hgr ((hat g' rfl).imp (fun e => (Option.some.inj e).symm) id)⟩
end
theorem Ap.start (w : World) : Ap w (((w.alloc (.cells #[.int .i64 0] 2)).alloc (.cells #[] 2)).alloc (.cells #[.slice (some ⟨w.heap.size + 1, 0, none⟩) 0 0] 26)) w.heap.size 1 (w.heap.size + 1 + 1) 1 [0] [[]] [.slice (some ⟨w.heap.size + 1, 0, none⟩) 0 0] := by
  have r1 := ((Row.new w 2 [.int .i64 0]).alloc (.cells #[] 2)).alloc (.cells #[.slice (some ⟨w.heap.size + 1, 0, none⟩) 0 0] 26)
  have r2 := Row.new ((w.alloc (.cells #[.int .i64 0] 2)).alloc (.cells #[] 2)) 26 [.slice (some ⟨w.heap.size + 1, 0, none⟩) 0 0]
  rw [show ((w.alloc (.cells #[.int .i64 0] 2)).alloc (.cells #[] 2)).heap.size = w.heap.size + 1 + 1 by simp] at r2
  refine ⟨((((Below.refl _ _).alloc (by omega) _).alloc (by simp) _).alloc (by simp; omega) _), own_rowX r1 (by omega) rfl (by unfold maxLen; simp), own_rowX r2 (by omega) rfl (by unfold maxLen; simp), by omega, ?_, fun u hu => ⟨_, _, _, _, List.mem_singleton.1 hu, Nat.le_refl _, Nat.le_succ _⟩⟩
  intro i wd u hi hu
  have h0 : i = 0 := by have := (List.getElem?_eq_some_iff.1 hi).1; simp at this; exact this
  subst h0
  obtain rfl : [] = wd := by simpa using hi
  obtain rfl : Value.slice (some ⟨w.heap.size + 1, 0, none⟩) 0 0 = u := by simpa using hu
  exact ⟨some ⟨w.heap.size + 1, 0, none⟩, 0, rfl, .inr ⟨_, _, rfl⟩, slI_zero _, fun b o _ h => absurd h (by simp)⟩
/-- What l02Apart hands out. -/
def FuPost (r : Option (List Int)) (w : World) (e : Ending) (w' : World) : Prop := Below w.heap.size w w' ∧ match r with
  | none => e = .returned (.tuple #[.slice none 0 0, .bool false])
  | some wd => ∃ b o c, e = .returned (.tuple #[.slice (some ⟨b, o, none⟩) wd.length c, .bool (decide (wd.length ≤ 12))]) ∧ wd.length ≤ c ∧ w.heap.size ≤ b ∧ SlI w' w'.heap.size (some ⟨b, o, none⟩) wd.length wd
theorem FuPost.no {w w' : World} (h : Below w.heap.size w w') : FuPost none w (.returned (.tuple #[.slice none 0 0, .bool false])) w' := ⟨h, rfl⟩
theorem FuPost.yes {w w' : World} {wd : List Int} {b o c n : Nat} {q : Bool} (h : Below w.heap.size w w') (hn : n = wd.length) (hq : q = decide (wd.length ≤ 12)) (hc : n ≤ c) (hb : w.heap.size ≤ b) (h2 : SlI w' w'.heap.size (some ⟨b, o, none⟩) n wd) : FuPost (some wd) w (.returned (.tuple #[.slice (some ⟨b, o, none⟩) n c, .bool q])) w' := by
  subst hn; subst hq
  exact ⟨h, b, o, c, rfl, hc, hb, h2⟩
/-- The word of a place. -/
def wN (p : (Nat × Nat) × List Int) : List Nat := p.2.map Int.toNat
theorem FuN.wNp {nx : Nat × Nat → Nat → Nat × Nat} {T : Nat} {L : QL} (h : FuN nx (0, 0) T L) {i : Nat} {p : (Nat × Nat) × List Int} (hp : L[i]? = some p) : natW (wN p) = p.2 ∧ (wN p).length ≤ i ∧ ∀ x ∈ wN p, x < T := by
  obtain ⟨e1, xs, e2, e3, e4⟩ := h.wd i p hp
  have e : wN p = xs := by unfold wN; rw [e2]; exact faAll_nat
  rw [e]
  refine ⟨e2.symm, ?_, e3⟩
  rw [e2] at e1
  simpa using e1
theorem wN_snoc (q : Nat × Nat) (wd : List Int) (l : Nat) : wN (q, wd ++ [(l : Int)]) = wN ((0, 0), wd) ++ [l] := by unfold wN; simp

set_option maxRecDepth 100000 in
set_option maxHeartbeats 16000000 in
theorem sApart_any (ga gb Sa Sb T : Nat) (A2 : Option Addr) (n2 c2 : Nat) (A3 : Option Addr) (n3 c3 : Nat) (Pa : List Int) (Ea : List Bool) (B2 : Option Addr) (m2 d2 : Nat) (B3 : Option Addr) (m3 d3 : Nat) (Pb : List Int) (Eb : List Bool) (w : World) (hra : Row w ga 33 (BxP (Sa : Int) (T : Int) A2 n2 c2 A3 n3 c3)) (hrb : Row w gb 33 (BxP (Sb : Int) (T : Int) B2 m2 d2 B3 m3 d3)) (ha : PlOk w Sa T A2 n2 A3 n3 Pa Ea) (hb : PlOk w Sb T B2 m2 B3 m3 Pb Eb) :
    Calls Try.prog 80 #[.pointer (some ⟨ga, 0, none⟩), .pointer (some ⟨gb, 0, none⟩)] w (FuPost (fuAll (plX T Pa Pb) (plD Ea Eb) (0, 0) T) w) := by
  have hT4 := ha.hT; have hSa := ha.hS; have hSb := hb.hS
  have hnx : ∀ (p : Nat × Nat) (j : Nat), p.1 < Sa → p.2 < Sb → j < T → (plX T Pa Pb p j).1 < Sa ∧ (plX T Pa Pb p j).2 < Sb := fun p j h1 h2 h3 => ⟨(plT_bd ha.hn ha.h2.len ha.hP h1 h3).2, (plT_bd hb.hn hb.h2.len hb.hP h2 h3).2⟩
  have hlen : ∀ (L : QL), FuN (plX T Pa Pb) (0, 0) T L → (∀ p ∈ L, p.1.1 < Sa ∧ p.1.2 < Sb) ∧ L.length ≤ 4096 := fun L h => fuN_len ha.hS.2 hb.hS.2 ⟨by omega, by omega⟩ hnx h
  have HRA := Lib.hid hra; have HRB := Lib.hid hrb; have HA := Lib.hid ha; have HB := Lib.hid hb; have HNX := Lib.hid hnx; have HLEN := Lib.hid hlen; have HT := Lib.hid hT4; have HSA := Lib.hid hSa; have HSB := Lib.hid hSb
  obtain ⟨nx, hnxe⟩ : ∃ f, f = plX T Pa Pb := ⟨_, rfl⟩
  obtain ⟨df, hdfe⟩ : ∃ f, f = plD Ea Eb := ⟨_, rfl⟩
  rw [← hnxe] at HLEN HNX
  rw [← hnxe, ← hdfe]
  have HNXE : Hid (∀ p j, nx p j = (plT T Pa p.1 j, plT T Pb p.2 j)) := fun p j => by rw [hnxe]; rfl
  have HDFE : Hid (∀ p, df p = (Ea.getD p.1 false != Eb.getD p.2 false)) := fun p => by rw [hdfe]; rfl
  have ap0 := Ap.start w
  rw [show ([0] : List Int) = List.map (fun p => cdP Sb p.1) [(((0, 0), []) : (Nat × Nat) × List Int)] from by simp [cdP]] at ap0
  have AP0 := Lib.hid ap0
  clear hra hrb ha hb hnx hlen hT4 hSa hSb hnxe hdfe ap0
  go_enter Try.func80, Try.ntmps80
  go_wp2_with fail
  go_loopg [6, 7, 8] 4097 (fun m v6 v7 v8 wr => ∃ (n gp cp gw cw : Nat) (L : QL) (ws : List Value), v6 = .slice (some ⟨gp, 0, none⟩) L.length cp ∧ v7 = .slice (some ⟨gw, 0, none⟩) L.length cw ∧ v8 = .int .i64 (n : Int) ∧ Hid (m + n = 4097) ∧ n ≤ L.length ∧ Hid (FuN nx (0, 0) T L) ∧ Hid (fuE nx df T m L n = fuAll nx df (0, 0) T) ∧ Hid (Ap w wr gp cp gw cw (L.map fun p => cdP Sb p.1) (L.map wN) ws))
  case atStart => exact ⟨0, _, 1, _, 1, [((0, 0), [])], [.slice (some ⟨w.heap.size + 1, 0, none⟩) 0 0], rfl, rfl, rfl, rfl, Nat.zero_le _, FuN.start, rfl, AP0.out⟩
  case round =>
    obtain ⟨n, gp, cp, gw, cw, L, ws, rfl, rfl, rfl, HMN, hn, HN, HE, HAP⟩ := hrel
    obtain ⟨wo, rfl⟩ : ∃ x : World, x = wr := ⟨_, rfl⟩
    obtain ⟨gq, hgq⟩ : ∃ q : Nat, q = gk := ⟨_, rfl⟩
    rw [← hgq] at HMN HE
    have hl4 := (HLEN.out L HN.out).2
    have HL4 := Lib.hid hl4
    have j0 : (0 : Int) ≤ (n : Int) := by omega
    have HCL : Hid ((L.map fun p => cdP Sb p.1).length = L.length) := by show _ = _; rw [List.length_map]
    have HWL : Hid ((L.map wN).length = L.length) := by show _ = _; rw [List.length_map]
    by_cases hlt : n < L.length
    · obtain ⟨p, hp⟩ : ∃ p, L[n]? = some p := ⟨_, List.getElem?_eq_getElem hlt⟩
      obtain ⟨u, hu⟩ : ∃ u, ws[n]? = some u := ⟨_, List.getElem?_eq_getElem (by have := HAP.out.wl; have := HWL.out; omega)⟩
      have hpb := (HLEN.out L HN.out).1 _ (List.mem_of_getElem? hp)
      have hwn := HN.out.wNp hp
      obtain ⟨⟨a, b⟩, wd⟩ := p
      simp only at hpb hwn
      obtain ⟨xs, hxs⟩ : ∃ x, x = wN ((a, b), wd) := ⟨_, rfl⟩
      rw [← hxs] at hwn
      have hWn : (L.map wN)[n]? = some xs := by rw [List.getElem?_map, hp, hxs]; rfl
      obtain ⟨Au, cu, rfl, -, hsu, hbu⟩ := HAP.out.el n xs u hWn hu
      obtain ⟨bu, ou, nu, cu', e, hcn, hcb⟩ := HAP.out.sm _ (List.mem_of_getElem? hu)
      simp only [Value.slice.injEq] at e
      obtain ⟨rfl, rfl, rfl⟩ := e
      have HCN := Lib.hid hcn
      have HCB := Lib.hid hcb
      clear hcn hcb
      obtain ⟨M, hM⟩ : ∃ x, x = a * Sb + b := ⟨_, rfl⟩
      have HCD : Hid ((iv (L.map fun p => cdP Sb p.1))[n]? = some (.int .i64 (M : Int))) := by
        show _ = _
        unfold iv
        rw [List.getElem?_map, List.getElem?_map, hp, hM]
        show some (Value.int .i64 (cdP Sb (a, b))) = _
        rw [cdP_nat]
      have hdv := cdP_div (Sb := Sb) (p := (a, b)) hpb.2
      simp only at hdv
      rw [← hM] at hdv
      have hSB := HSB.out
      have hMb : M ≤ 64 * 64 := by
        have := HSA.out
        have : a * Sb ≤ 63 * 64 := Nat.mul_le_mul (by omega) hSB.2
        omega
      have TD : (M : Int).tdiv (Sb : Int) = (a : Int) := tdivU hdv.1
      have TM : (M : Int).tmod (Sb : Int) = (b : Int) := tmodU hdv.2
      have SZ : ((Sb : Int) == 0) = false := by rw [beq_eq_false_iff_ne]; omega
      have SN : (Sb : Int) ≠ 0 := by omega
      have Wa : IntKind.i64.wrap (a : Int) = (a : Int) := IntWalk.i64_in _ (by have := HSA.out; omega)
      have Wb : IntKind.i64.wrap (b : Int) = (b : Int) := IntWalk.i64_in _ (by omega)
      have W1 : IntKind.i64.wrap ((n : Int) + 1) = (n : Int) + 1 := IntWalk.i64_in _ (by omega)
      have l1 : (n : Int) < (L.length : Int) := by omega
      obtain ⟨f, hf⟩ : ∃ f, gq = f + 1 := ⟨gq - 1, by have := HMN.out; omega⟩
      have HF := Lib.hid hf; have HP := Lib.hid hp; have HU := Lib.hid hu; have HPB := Lib.hid hpb; have HWN := Lib.hid hwn; have HXS := Lib.hid hxs; have HM := Lib.hid hM; have HSU := Lib.hid hsu; have HBU := Lib.hid hbu; have HLT := Lib.hid hlt
      have hrb := HRB.out.below HAP.out.bel HRB.out.lt
      have qb0 := hrb.cell 0
      have cP := own_cellU HAP.out.op HCD.out
      have hAp := HA.out.below HAP.out.bel (Nat.le_refl _)
      have hBp := HB.out.below HAP.out.bel (Nat.le_refl _)
      obtain ⟨b3, o3, ea, rfl, -, hea, cea⟩ := hAp.h3.at_ (show a < n3 by rw [hAp.hE]; exact hpb.1)
      obtain ⟨b4, o4, eb, rfl, -, heb, ceb⟩ := hBp.h3.at_ (show b < m3 by rw [hBp.hE]; exact hpb.2)
      have HDF : Hid (df (a, b) = (ea != eb)) := by show _ = _; rw [HDFE.out]; simp only [List.getD_eq_getElem?_getD, hea.out, heb.out, Option.getD_some]
      have a0 : (0 : Int) ≤ (a : Int) := by omega
      have b0 : (0 : Int) ≤ (b : Int) := by omega
      have a1 : (a : Int) < (n3 : Int) := by rw [hAp.hE]; omega
      have b1 : (b : Int) < (m3 : Int) := by rw [hBp.hE]; omega
      have hra := HRA.out.below HAP.out.bel HRA.out.lt
      have qa3 := hra.cell 3; have qb3 := hrb.cell 3
      have cW := own_cellU HAP.out.ow HU.out
      obtain ⟨dq, hdq⟩ : ∃ q, q = (ea != eb) := ⟨_, rfl⟩
      rw [← hdq] at HDF
      clear hp hu hpb hwn hxs hWn hsu hbu hM hdv hSB hMb hf hrb hra hl4 hn hlt hAp hBp hea heb
      cases dq with
      | true =>
        have z1 : (ea == eb) = false := by revert hdq; cases ea <;> cases eb <;> simp
        obtain ⟨β, hβ⟩ : ∃ β, β = decide (xs.length ≤ 12) := ⟨_, rfl⟩
        have hβ2 : decide ((xs.length : Int) ≤ 12) = β := by rw [hβ]; simp only [decide_eq_decide]; omega
        have HBE := Lib.hid hβ
        have HR : Hid (fuAll nx df (0, 0) T = some wd) := by show _ = _; rw [← HE.out, HF.out, fuE_hit HP.out HDF.out]
        clear hdq hβ
        go_wp2_with fail
        go_quiet (fail)
        go_wp2_with fail
        go_quiet (fail)
        go_wp2_with fail
        go_quiet (fail)
        go_wp2_with fail
        go_quiet (fail)
        go_wp2_with fail
        go_ret2
        rw [HR.out]
        refine FuPost.yes (by (repeat (refine below_draws ?_ _)); exact HAP.out.bel) (by have := HWN.out.1; rw [← this, natW_len]) (by have := HWN.out.1; rw [HBE.out, ← this, natW_len]) HCN.out HCB.out ?_
        have := HWN.out.1
        rw [← this]
        exact HSU.out
      | false =>
        have z1 : (ea == eb) = true := by revert hdq; cases ea <;> cases eb <;> simp
        clear hdq
        go_wp2_with fail
        go_quiet (fail)
        go_wp2_with fail
        go_quiet (fail)
        go_wp2_with fail
        go_quiet (fail)
        go_wp2_with fail
        go_loopg [6, 7, 11] T (fun m v6 v7 v11 wr => ∃ (i gp cp gw cw : Nat) (Li : QL) (wsi : List Value), v6 = .slice (some ⟨gp, 0, none⟩) Li.length cp ∧ v7 = .slice (some ⟨gw, 0, none⟩) Li.length cw ∧ v11 = .int .i64 (i : Int) ∧ i ≤ T ∧ T ≤ m + i ∧ Hid (Li = faR nx (a, b) wd L i) ∧ Hid (FuN nx (0, 0) T Li) ∧ Hid (Ap w wr gp cp gw cw (Li.map fun p => cdP Sb p.1) (Li.map wN) wsi) ∧ Hid (wsi[n]? = some (.slice (some ⟨bu, ou, none⟩) xs.length cu)))
        case atStart => exact ⟨0, gp, cp, gw, cw, L, ws, rfl, rfl, rfl, Nat.zero_le _, by omega, rfl, HN.out, (by (repeat (refine Ap.drewN ?_ _)); exact HAP.out), HU.out⟩
        case round =>
          clear qa3 qb3 qb0 cea ceb cP cW
          obtain ⟨i, gp2, cp2, gw2, cw2, Li, wsi, rfl, rfl, rfl, hi, hm, HLI, HNI, HAI, HUI⟩ := hrel
          obtain ⟨wi, rfl⟩ : ∃ x : World, x = wr := ⟨_, rfl⟩
          have hra := HRA.out.below HAI.out.bel HRA.out.lt
          have hrb := HRB.out.below HAI.out.bel HRB.out.lt
          have hAp := HA.out.below HAI.out.bel (Nat.le_refl _)
          have hBp := HB.out.below HAI.out.bel (Nat.le_refl _)
          have hLi4 := (HLEN.out Li HNI.out).2
          have HLI4 := Lib.hid hLi4
          have i0 : (0 : Int) ≤ (i : Int) := by omega
          have hTT := HT.out
          have WI : IntKind.i64.wrap ((i : Int) + 1) = (i : Int) + 1 := IntWalk.i64_in _ (by omega)
          have qa1 := hra.cell 1
          by_cases hlt2 : i < T
          · have hab := HPB.out
            have hSa := HSA.out; have hSb := HSB.out
            obtain ⟨p1, hp1⟩ : ∃ x, x = a * T := ⟨_, rfl⟩
            obtain ⟨p3, hp3⟩ : ∃ x, x = b * T := ⟨_, rfl⟩
            have hp1b : p1 ≤ 63 * 4 := by rw [hp1]; exact Nat.mul_le_mul (by omega) hTT.2
            have hp3b : p3 ≤ 63 * 4 := by rw [hp3]; exact Nat.mul_le_mul (by omega) hTT.2
            obtain ⟨j1, hj1⟩ : ∃ x, x = p1 + i := ⟨_, rfl⟩
            obtain ⟨j2, hj2⟩ : ∃ x, x = p3 + i := ⟨_, rfl⟩
            have hl1 : j1 < n2 := by rw [hj1, hp1, ← hAp.h2.len]; exact plT_at hAp.hn hAp.h2.len hab.1 hlt2
            have hl2 : j2 < m2 := by rw [hj2, hp3, ← hBp.h2.len]; exact plT_at hBp.hn hBp.h2.len hab.2 hlt2
            have hva := plT_bd hAp.hn hAp.h2.len hAp.hP hab.1 hlt2
            have hvb := plT_bd hBp.hn hBp.h2.len hBp.hP hab.2 hlt2
            rw [← hp1, ← hj1] at hva
            rw [← hp3, ← hj2] at hvb
            obtain ⟨b5, o5, v5, rfl, -, hv5, cA⟩ := hAp.h2.at_ hl1
            obtain ⟨b6, o6, v6, rfl, -, hv6, cB⟩ := hBp.h2.at_ hl2
            rw [List.getD_eq_getElem?_getD, hv5.out, Option.getD_some] at hva
            rw [List.getD_eq_getElem?_getD, hv6.out, Option.getD_some] at hvb
            obtain ⟨va, hvae⟩ : ∃ x, x = plT T Pa a i := ⟨_, rfl⟩
            obtain ⟨vb, hvbe⟩ : ∃ x, x = plT T Pb b i := ⟨_, rfl⟩
            rw [← hvae] at hva
            rw [← hvbe] at hvb
            rw [← hva.1] at cA
            rw [← hvb.1] at cB
            have hnxe : nx (a, b) i = (va, vb) := by rw [HNXE.out, hvae, hvbe]
            obtain ⟨p2, hp2⟩ : ∃ x, x = va * Sb := ⟨_, rfl⟩
            have hp2b : p2 ≤ 63 * 64 := by rw [hp2]; exact Nat.mul_le_mul (by omega) hSb.2
            obtain ⟨M2, hM2⟩ : ∃ x, x = p2 + vb := ⟨_, rfl⟩
            have X1 : IntKind.i64.wrap ((a : Int) * (T : Int)) = (p1 : Int) := by rw [hp1, Int.natCast_mul]; exact IntWalk.i64_in _ (by rw [← Int.natCast_mul, ← hp1]; omega)
            have X3 : IntKind.i64.wrap ((b : Int) * (T : Int)) = (p3 : Int) := by rw [hp3, Int.natCast_mul]; exact IntWalk.i64_in _ (by rw [← Int.natCast_mul, ← hp3]; omega)
            have X2 : IntKind.i64.wrap ((va : Int) * (Sb : Int)) = (p2 : Int) := by rw [hp2, Int.natCast_mul]; exact IntWalk.i64_in _ (by rw [← Int.natCast_mul, ← hp2]; omega)
            have Y1 : IntKind.i64.wrap ((p1 : Int) + (i : Int)) = (j1 : Int) := by rw [hj1, Int.natCast_add]; exact IntWalk.i64_in _ (by omega)
            have Y2 : IntKind.i64.wrap ((p3 : Int) + (i : Int)) = (j2 : Int) := by rw [hj2, Int.natCast_add]; exact IntWalk.i64_in _ (by omega)
            have Y3 : IntKind.i64.wrap ((p2 : Int) + (vb : Int)) = (M2 : Int) := by rw [hM2, Int.natCast_add]; exact IntWalk.i64_in _ (by omega)
            have l1a : (0 : Int) ≤ (j1 : Int) := by omega
            have l1b : (j1 : Int) < (n2 : Int) := by omega
            have l2a : (0 : Int) ≤ (j2 : Int) := by omega
            have l2b : (j2 : Int) < (m2 : Int) := by omega
            have li : (i : Int) < (T : Int) := by omega
            have hcd : cdP Sb (va, vb) = (M2 : Int) := by rw [cdP_nat, hM2, hp2]
            have hmem := cdP_mem (Sb := Sb) (L := Li) (q := (va, vb)) (fun p hp => ((HLEN.out Li HNI.out).1 p hp).2) hvb.2
            rw [hcd] at hmem
            have qa2 := hra.cell 2; have qb0 := hrb.cell 0; have qb1 := hrb.cell 1; have qb2 := hrb.cell 2
            have HNXI := Lib.hid hnxe; have HCD2 := Lib.hid hcd
            have HMEM := Lib.hid hmem
            clear hab hSa hSb hp1 hp3 hp1b hp3b hj1 hj2 hl1 hl2 hva hvb hv5 hv6 hvae hvbe hnxe hp2 hp2b hM2 hcd hmem hra hrb hAp hBp hLi4 hTT
            by_cases hin : (va, vb) ∈ Li.map Prod.fst
            · have CI : Hid (∀ q, Calls Try.prog 66 #[.slice (some ⟨gp2, 0, none⟩) Li.length cp2, .int .i64 (M2 : Int)] (wi.drewN q) fun e w' => ∃ (g' c' : Nat) (z : Int), e = .returned (.tuple #[.int .i64 z, .slice (some ⟨g', 0, none⟩) Li.length c']) ∧ Ap w w' g' c' gw2 cw2 (Li.map fun p => cdP Sb p.1) (Li.map wN) wsi) := by
                intro q
                have h := (HAI.out.drewN q).ixOld (x := (M2 : Int)) (HMEM.out.2 hin) (by rw [List.length_map]; have := HLI4.out; omega)
                rw [List.length_map] at h
                exact h
              have HRN : Hid (faR nx (a, b) wd L (i + 1) = Li) := by show _ = _; rw [faR_in (by rw [← HLI.out, HNXI.out]; exact hin), ← HLI.out]
              clear hin
              go_wp2_with fail
              go_quiet (fail)
              go_wp2_with fail
              refine (CI.out _).mono ?_
              rintro e w2 ⟨g3, c3', z, rfl, hA3⟩
              have HA3 := Lib.hid hA3
              clear hA3 CI qa1 qa2 qb0 qb1 qb2 cA cB
              go_wp2_with fail
              go_roundg (gk - 1)
              case measure => omega
              case rel => exact ⟨i + 1, g3, c3', gw2, cw2, Li, wsi, rfl, rfl, by go_num, by omega, by omega, HRN.out.symm, HNI.out, HA3.out, HUI.out⟩
            · have CI : Hid (∀ q, Calls Try.prog 66 #[.slice (some ⟨gp2, 0, none⟩) Li.length cp2, .int .i64 (M2 : Int)] (wi.drewN q) fun e w' => ∃ (g' c' : Nat) (z : Int), e = .returned (.tuple #[.int .i64 z, .slice (some ⟨g', 0, none⟩) (Li.length + 1) c']) ∧ Ap w w' g' c' gw2 cw2 ((Li.map fun p => cdP Sb p.1) ++ [(M2 : Int)]) (Li.map wN) wsi) := by
                intro q
                have h := (HAI.out.drewN q).ixNew (x := (M2 : Int)) (fun h => hin (HMEM.out.1 h)) (by rw [List.length_map]; have := HLI4.out; omega)
                rw [List.length_map] at h
                exact h
              have HRN : Hid (faR nx (a, b) wd L (i + 1) = Li ++ [((va, vb), wd ++ [(i : Int)])]) := by show _ = _; rw [faR_new (by rw [← HLI.out, HNXI.out]; exact hin), ← HLI.out, HNXI.out]
              have HPI : Hid (Li[n]? = some ((a, b), wd)) := by
                obtain ⟨r, hr⟩ := faR_app (nx := nx) (a, b) wd L i
                show _ = _
                rw [HLI.out, hr]; exact get_left HP.out
              have HNN : Hid (FuN nx (0, 0) T (Li ++ [((va, vb), wd ++ [(i : Int)])])) := by
                have h := HNI.out.push HPI.out hlt2 (by rw [HNXI.out]; exact hin)
                rw [HNXI.out] at h
                exact h
              clear hin
              go_wp2_with fail
              go_quiet (fail)
              go_wp2_with fail
              refine (CI.out _).mono ?_
              rintro e w2 ⟨g3, c3', z, rfl, hA3⟩
              have l9 : (Li.length : Int) < (Li.length : Int) + 1 := by omega
              have hsu := hA3.el n xs _ (by rw [List.getElem?_map, HPI.out, HXS.out]; rfl) HUI.out
              obtain ⟨Au, cu2, e1, -, hsu2, hbu2⟩ := hsu
              simp only [Value.slice.injEq] at e1
              obtain ⟨rfl, -, rfl⟩ := e1
              have hb0 : Below w2.heap.size w2 (w2.alloc (.cells #[] 2)) := (Below.refl _ _).alloc (Nat.le_refl _) _
              have HC : Hid (∀ j u, (iv (natW xs))[j]? = some u → (w2.alloc (.cells #[] 2)).cell? ⟨bu, ou + j, none⟩ = some u) := slI_cells (hsu2.below hb0 (Nat.le_refl _))
              have HO : Hid ((w2.alloc (.cells #[] 2)).ownsRow w2.heap.size 2 1 (.slice (some ⟨w2.heap.size, 0, none⟩) 0 0) 0 []) := World.ownsRow_made w2 #[] 0 (Nat.le_refl _) (by unfold maxLen; omega) rfl
              have HLX : Hid ((iv (natW xs)).length = xs.length * 1) := by show _ = _; rw [iv_length, natW_len]; omega
              have hxn := HWN.out.2.1
              have hln := HL4.out
              have HXL : Hid (xs.length ≤ 5000) := by show _ ≤ _; have := HLT.out; omega
              have PXL : Hid ((natW xs).length + 1 ≤ 4294967296) := by show _ ≤ _; rw [natW_len]; have := HXL.out; omega
              have LNW : Hid (Li.length + 1 ≤ 4294967296) := by show _ ≤ _; have := HLI4.out; omega
              have cW : (w2.alloc (.cells #[] 2)).cell? ⟨gw2, n, none⟩ = some (.slice (some ⟨bu, ou, none⟩) xs.length cu) := (hb0.cell (p := ⟨gw2, n, none⟩) (hA3.ow.lt gw2 rfl).2).trans (own_cellU hA3.ow HUI.out)
              have HA3 := Lib.hid hA3; have HB0 := Lib.hid hb0; have HNWL : Hid ((natW xs).length = xs.length) := natW_len xs
              have hsz2 := hA3.size
              have HSZ2 := Lib.hid hsz2
              have l10 : (n : Int) < (Li.length : Int) := by have := (List.getElem?_eq_some_iff.1 HPI.out).1; omega
              have HWLi : Hid ((Li.map wN).length = Li.length) := by show _ = _; rw [List.length_map]
              have HOWW : Hid (w2.ownsRow w.heap.size 26 1 (.slice (some ⟨gw2, 0, none⟩) Li.length cw2) Li.length wsi) := by have h := hA3.ow; rw [HWLi.out] at h; exact h
              clear hA3 CI qa1 qa2 qb0 qb1 qb2 cA cB hsu2 hbu2 hb0 hxn hln hsz2
              go_wp2_with (first
                | (at_builtin; refine wpList_cells_push rfl (.tmp 121) (.tmp 125) _ rfl w2.heap.size 2 (.int .i64 0) 1 8 Try.underlying26 infoIU rfl (by omega) (by omega) (.slice (some ⟨w2.heap.size, 0, none⟩) 0 0) 0 [] rfl HO.out bu ou xs.length cu (iv (natW xs)) rfl HLX.out HC.out (iv_one (natW xs)) (by have := HXL.out; omega) HB0.out.size ?_; intro v' w3 hown hgr hat; obtain ⟨A', c9, hv', q1, q2⟩ := own_form hown; subst hv'; have HG := Lib.hid (HB0.out.trans (grown_below' HO.out hgr HB0.out.size)); rw [Nat.zero_add, List.nil_append] at hown; rw [Nat.zero_add]; have HOW := Lib.hid hown; clear hgr hown hat)
                | (at_builtin; refine wpList_int_push w3 rfl (.tmp 126) (.tmp 128) _ rfl w2.heap.size 2 Try.underlying26 infoIU (.slice A' xs.length c9) (natW xs) rfl (show RowI w3 w2.heap.size 2 (.slice A' xs.length c9) (natW xs) by unfold RowI; rw [HNWL.out]; exact HOW.out) (i : Int) rfl PXL.out HG.out.size ?_; intro g4 c4 w4 hown hbl hat hgr; have HR4 := Lib.hid hown; have HB4 := Lib.hid (HG.out.trans hbl); have HA4 := Lib.hid (HA3.out.call HB4.out); have HOW4 : Hid (w4.ownsRow w.heap.size 26 1 (.slice (some ⟨gw2, 0, none⟩) Li.length cw2) Li.length wsi) := own_move HOWW.out (fun g hg => HB4.out.block g (HOWW.out.lt g hg).2); rw [HNWL.out] at HR4; rw [HNWL.out]; clear hown hbl hat hgr)
                | (at_builtin; refine wpList_push w4 rfl (.tmp 120) (.tmp 130) _ rfl w.heap.size 26 (.slice none 0 0) 24 Try.underlying63 infoSL rfl (.slice (some ⟨gw2, 0, none⟩) Li.length cw2) Li.length wsi rfl HOW4.out (.slice (some ⟨g4, 0, none⟩) (xs.length + 1) c4) rfl rfl LNW.out (by omega) HA4.out.size ?_; intro g9 c10 w9 hown hgr hat hlt9 hcap9; have HOW9 := Lib.hid hown; have HGR9 := Lib.hid hgr; have HAT9 := Lib.hid hat; clear hown hgr hat hlt9 hcap9))
              have HX4 : Hid ((xs ++ [i]).length = xs.length + 1) := by show _ = _; simp
              have HS4 : Hid (SlI w4 w4.heap.size (some ⟨g4, 0, none⟩) (xs ++ [i]).length (natW (xs ++ [i]))) := by
                rw [HX4.out]
                have h := RowI.sl HR4.out (show (natW xs ++ [(i : Int)]).length = xs.length + 1 by rw [List.length_append, HNWL.out]; rfl)
                rw [show natW (xs ++ [i]) = natW xs ++ [(i : Int)] from by unfold natW; rw [List.map_append]; rfl]
                exact h
              have HA9 := Lib.hid (HA4.out.word (gw' := g9) (cw' := c10) (wd := xs ++ [i]) (b := g4) (o := 0) (c := c4) (by rw [HX4.out, HWLi.out]; exact HOW9.out) HGR9.out (HAT9.out.imp (fun e => (Option.some.inj e).symm) id) HS4.out (by
                have h1 := (World.ownsRow.lt HR4.out g4 rfl).1
                have h2 := (HA3.out.op.lt g3 rfl).2
                have h3 := (HA3.out.ow.lt gw2 rfl).2
                omega) (by
                have h := HR4.out
                unfold RowI at h
                rw [List.length_append, HNWL.out] at h
                obtain ⟨A5, c5, h5, h6, -⟩ := own_form h
                simp only [Value.slice.injEq] at h5
                obtain ⟨-, -, h7⟩ := h5
                rw [HX4.out, h7]
                exact h6) (by
                have h1 := (World.ownsRow.lt HR4.out g4 rfl).1
                exact Nat.le_trans HSZ2.out h1))
              go_roundg (gk - 1)
              case measure => omega
              case rel =>
                refine ⟨i + 1, g3, c3', g9, c10, Li ++ [((va, vb), wd ++ [(i : Int)])], wsi ++ [.slice (some ⟨g4, 0, none⟩) (xs ++ [i]).length c4], by simp, by simp, by go_num, by omega, by omega, HRN.out.symm, HNN.out, ?_, ?_⟩
                · have h := HA9.out
                  rw [← HCD2.out] at h
                  rw [List.map_append, List.map_append]
                  show Ap w w9 g3 c3' g9 c10 (_ ++ [cdP Sb (va, vb)]) (_ ++ [wN ((va, vb), wd ++ [(i : Int)])]) _
                  rw [wN_snoc, show wN ((0, 0), wd) = xs from HXS.out.symm]
                  exact h
                · show _ = _
                  rw [List.getElem?_append_left (List.getElem?_eq_some_iff.1 HUI.out).1]
                  exact HUI.out
          · have hT' : i = T := by omega
            have l3 : (T : Int) ≤ (i : Int) := by omega
            clear hlt2 hra hrb hAp hBp hLi4 hTT
            go_wp2_with fail
            go_roundg (gq - 1)
            case measure => have := HF.out; omega
            case rel =>
              refine ⟨n + 1, gp2, cp2, gw2, cw2, Li, wsi, rfl, rfl, by go_num, ?_, ?_, HNI.out, ?_, HAI.out⟩
              · show _ + _ = 4097
                have := HMN.out; have := HF.out; omega
              · obtain ⟨r, hr⟩ := faR_app (nx := nx) (a, b) wd L i
                rw [HLI.out, hr, List.length_append]; have := HLT.out; omega
              · rw [← HE.out, HF.out, fuE_miss HP.out HDF.out, HLI.out, hT']; rfl
    · have hnl : L.length ≤ n := by omega
      have l1 : (L.length : Int) ≤ (n : Int) := by omega
      have HNL := Lib.hid hnl
      clear hnl hlt hl4
      go_wp2_with fail
      go_ret2
      have HR : Hid (fuAll nx df (0, 0) T = none) := by show _ = _; rw [← HE.out, fuE_end HNL.out]
      rw [HR.out]
      exact FuPost.no HAP.out.bel

end Go.Proofs.Ytbdfbmohdbigfaa