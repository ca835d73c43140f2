/- firstApart: the walk. -/
import Derived.Test.YtbdfbmohdbigfaaMgt
import Derived.Deep.LoopGhost
import Derived.Deep.CutRange
import Derived.Deep.QuietTactic
import Derived.Deep.RegionHeld3
import Derived.Deep.RegionLaw
import Derived.Deep.DrawnRows
import Derived.BigQuiet

namespace Go.Proofs.Ytbdfbmohdbigfaa
open Go.RowKit Go.Maps
attribute [local go_sem ↓] Go.wp_at_zero Go.wp_at_succ
set_option linter.unusedVariables false
theorem infoPlc : (Try.prog.info? 139).map (fun i => (i.zero, i.size, i.bytes)) = some (some (.agg #[.int .i64 0, .int .i64 0, .slice none 0 0]), 3, 40) := by kernel_rfl
theorem infoI6 : (Try.prog.info? 2).map (fun i => (i.zero, i.size, i.bytes)) = some (some (.int .i64 0), 1, 8) := by kernel_rfl
def plX (T : Nat) (Pa Pb : List Int) (p : Nat × Nat) (j : Nat) : Nat × Nat := (plT T Pa p.1 j, plT T Pb p.2 j)
def plD (Ea Eb : List Bool) (p : Nat × Nat) : Bool := Ea.getD p.1 false != Eb.getD p.2 false
theorem own_row3 {w : World} {g base n : Nat} {t : TypeId} {vs : List Value} (h : Row w g t vs) (hb : base ≤ g) (hn : vs.length = n * 3) (hm : n ≤ maxLen) : w.ownsRow base t 3 (.slice (some ⟨g, 0, none⟩) n n) n vs :=
  ⟨by omega, .inr ⟨g, n, vs.toArray, rfl, hb, h, Nat.le_refl _, hm, by simp [hn], by rw [List.toList_toArray]; exact List.take_of_length_le (by omega)⟩⟩
theorem Qw.start (x0 : World) : Qw x0 ((x0.alloc (.cells ([.int .i64 0, .int .i64 0, .slice none 0 0] : List Value).toArray 139)).alloc (.map #[] 0)) (x0.heap.size + 1) (.map #[] 0) (.slice (some ⟨x0.heap.size, 0, none⟩) 1 1) [((0, 0), [])] [.slice none 0 0] where
  bel := (((Below.refl _ _).alloc (Nat.le_refl _) _).alloc (by simp) _)
  lg := by omega
  hm := by
    have := heap_alloc_new (x0.alloc (.cells ([.int .i64 0, .int .i64 0, .slice none 0 0] : List Value).toArray 139)) (.map #[] 0)
    simpa using this
  own := own_row3 ((Row.new x0 139 [.int .i64 0, .int .i64 0, .slice none 0 0]).alloc _) (Nat.le_refl _) rfl (by unfold maxLen; simp)
  ne := by simp [Value.ownBlock]
  len := rfl
  wd := fun i p u hi hu => by
    cases i with
    | zero =>
      simp at hi hu; subst hi; subst hu
      exact ⟨World.ownsRow_nil _ _ _ _, fun k hk => by simp [Value.ownBlock] at hk⟩
    | succ i => simp at hi
/-- What firstApart hands out. -/
def FaPost (r : Option (List Int)) (w : World) (e : Ending) (w' : World) : Prop := Below w.heap.size w w' ∧ match r with
  | none => e = .returned (.tuple #[.slice none 0 0, .bool false])
  | some wd => ∃ A c, e = .returned (.tuple #[.slice A wd.length c, .bool true]) ∧ RowI w' w.heap.size 2 (.slice A wd.length c) wd
theorem FaPost.none {w w' : World} (h : Below w.heap.size w w') : FaPost none w (.returned (.tuple #[.slice none 0 0, .bool false])) w' := ⟨h, rfl⟩
theorem FaPost.some {w w' : World} {wd : List Int} {A : Option Addr} {c : Nat} (h : Below w.heap.size w w') (h2 : RowI w' w.heap.size 2 (.slice A wd.length c) wd) : FaPost (some wd) w (.returned (.tuple #[.slice A wd.length c, .bool true])) w' := ⟨h, A, c, rfl, h2⟩
theorem lo_grown {lo g : Nat} {x y : World} {n c : Nat} (h : x.grownBy y (Value.slice (some ⟨g, 0, none⟩) n c).ownBlock) (hs : lo ≤ x.heap.size) : Lo lo g x y :=
  ⟨h.os, h.tape, h.output, h.size, fun k hk hne => h.block k (by omega) (by simp [Value.ownBlock]; exact hne)⟩
theorem bool_ne (a b : Bool) : (a != b) = !(a == b) := rfl

set_option maxRecDepth 100000 in
set_option maxHeartbeats 16000000 in
theorem iFirstApart_any (Sa Sb T : Nat) (A2 : Option Addr) (n2 c2 : Nat) (A3 : Option Addr) (n3 c3 : Nat) (Pa : List Int) (Ea : List Bool) (B2 : Option Addr) (m2 d2 : Nat) (B3 : Option Addr) (m3 d3 : Nat) (Pb : List Int) (Eb : List Bool) (w : World) (ha : PlOk w Sa T A2 n2 A3 n3 Pa Ea) (hb : PlOk w Sb T B2 m2 B3 m3 Pb Eb) :
    Calls Try.prog 55 #[.agg #[.int .i64 (Sa : Int), .int .i64 (T : Int), .slice A2 n2 c2, .slice A3 n3 c3], .agg #[.int .i64 (Sb : Int), .int .i64 (T : Int), .slice B2 m2 d2, .slice B3 m3 d3]] w (FaPost (faAll (plX T Pa Pb) (plD Ea Eb) (0, 0) T) w) := by
  have hwx : Below w.heap.size w ((w.alloc (.cells (BxP (Sa : Int) (T : Int) A2 n2 c2 A3 n3 c3).toArray 33)).alloc (.cells (BxP (Sb : Int) (T : Int) B2 m2 d2 B3 m3 d3).toArray 33)) := ((Below.refl _ _).alloc (Nat.le_refl _) _).alloc (by simp) _
  have ra := (Row.new w 33 (BxP (Sa : Int) (T : Int) A2 n2 c2 A3 n3 c3)).alloc (.cells (BxP (Sb : Int) (T : Int) B2 m2 d2 B3 m3 d3).toArray 33)
  have rb := Row.new (w.alloc (.cells (BxP (Sa : Int) (T : Int) A2 n2 c2 A3 n3 c3).toArray 33)) 33 (BxP (Sb : Int) (T : Int) B2 m2 d2 B3 m3 d3)
  have hT4 := ha.hT.2
  have hsz : ((w.alloc (.cells (BxP (Sa : Int) (T : Int) A2 n2 c2 A3 n3 c3).toArray 33)).alloc (.cells (BxP (Sb : Int) (T : Int) B2 m2 d2 B3 m3 d3).toArray 33)).heap.size = w.heap.size + 2 := by simp
  rw [show (w.alloc (.cells (BxP (Sa : Int) (T : Int) A2 n2 c2 A3 n3 c3).toArray 33)).heap.size = w.heap.size + 1 by simp] at rb
  have hnx : ∀ (p : Nat × Nat) (j : Nat), p.1 < Sa → p.2 < Sb → j < T → (plX T Pa Pb p j).1 < Sa ∧ (plX T Pa Pb p j).2 < Sb := fun p j h1 h2 h3 => ⟨(plT_bd ha.hn ha.h2.len ha.hP h1 h3).2, (plT_bd hb.hn hb.h2.len hb.hP h2 h3).2⟩
  have hlen : ∀ (L : QL) (n : Nat), FaI (plX T Pa Pb) (plD Ea Eb) (0, 0) T L n → (∀ p ∈ L, p.1.1 < Sa ∧ p.1.2 < Sb) ∧ L.length ≤ 4096 := fun L n h => faI_len ha.hS.2 hb.hS.2 ⟨by have := ha.hS; omega, by have := hb.hS; omega⟩ hnx h
  have ha0 := ha.below hwx (Nat.le_refl _)
  have hb0 := hb.below hwx (Nat.le_refl _)
  obtain ⟨x0, hx0⟩ : ∃ x, x = ((w.alloc (.cells (BxP (Sa : Int) (T : Int) A2 n2 c2 A3 n3 c3).toArray 33)).alloc (.cells (BxP (Sb : Int) (T : Int) B2 m2 d2 B3 m3 d3).toArray 33)) := ⟨_, rfl⟩
  rw [← hx0] at hwx ra rb hsz ha0 hb0
  have hq0 := Qw.start x0
  rw [hsz] at hq0
  obtain ⟨w1, hw1⟩ : ∃ x, x = ((x0.alloc (.cells ([.int .i64 0, .int .i64 0, .slice none 0 0] : List Value).toArray 139)).alloc (.map #[] 0)) := ⟨_, rfl⟩
  rw [← hw1] at hq0
  have WX := Lib.hid hwx; have RA := Lib.hid ra; have RB := Lib.hid rb; have HSZ := Lib.hid hsz; have HNX := Lib.hid hnx; have HLEN := Lib.hid hlen; have HA := Lib.hid ha0; have HB := Lib.hid hb0; have HQ0 := Lib.hid hq0; have HT4 := Lib.hid hT4
  obtain ⟨nx, hnxe⟩ : ∃ f, f = plX T Pa Pb := ⟨_, rfl⟩
  obtain ⟨df, hdfe⟩ : ∃ f, f = plD Ea Eb := ⟨_, rfl⟩
  rw [← hnxe, ← hdfe] at HLEN ⊢
  rw [← hnxe] at HNX
  have HNXE : Hid (∀ p j, nx p j = (plT T Pa p.1 j, plT T Pb p.2 j)) := fun p j => by rw [hnxe]; rfl
  have HDFE : Hid (∀ p, df p = (Ea.getD p.1 false != Eb.getD p.2 false)) := fun p => by rw [hdfe]; rfl
  have HOKQ : Hid (∀ (L : QL) (n : Nat), FaI nx df (0, 0) T L n → ∀ y ∈ L.map Prod.fst, okQ y) := fun L n h y hy => by
    obtain ⟨p, hp, rfl⟩ := List.mem_map.1 hy
    have := (HLEN.out L n h).1 p hp
    have h1 := ha.hS; have h2 := hb.hS
    exact ⟨by omega, by omega⟩
  have hmm := @run_makeMap Try.prog
  have SO0 : Hid (SetO qv (.map #[] 0) ([] : List (Nat × Nat))) := SetO.nil _
  clear hwx ra rb hnx hlen ha0 hb0 hq0 hnxe hdfe ha hb hsz hT4
  have E1 : w1 = ((((w.alloc (.cells (BxP (Sa : Int) (T : Int) A2 n2 c2 A3 n3 c3).toArray 33)).alloc (.cells (BxP (Sb : Int) (T : Int) B2 m2 d2 B3 m3 d3).toArray 33)).alloc (.cells ([.int .i64 0, .int .i64 0, .slice none 0 0] : List Value).toArray 139)).alloc (.map #[] 0)) := by rw [hw1, hx0]
  have HW1 := Lib.hid E1
  clear E1 hw1 hx0
  go_enter Try.func55, Try.ntmps55
  go_wp2_with (first | (refine wpList_setO_put setQ _ rfl (.tmp 14) (.tmp 15) (.const (.bool true)) (.inr rfl) (w.heap.size + 2 + 1) (L := ([] : List (Nat × Nat))) (fun y hy => by cases hy) (by first | exact HQ0.out.hm | (rw [← HW1.out]; exact HQ0.out.hm)) SO0.out (y := ((0 : Nat), (0 : Nat))) ⟨by decide, by decide⟩ (by simp) rfl rfl rfl ?_; intro w2 om2 hb2 ho2 hbut; have hbut' : But (w.heap.size + 2 + 1) w1 w2 := (by rw [HW1.out]; exact hbut); have HQ2 := Lib.hid (HQ0.out.map hbut' hb2); have SO2 := Lib.hid ho2; clear hb2 ho2 hbut hbut'))

  clear hmm HQ0 SO0
  go_loopg [6, 8] 4097 (fun m l i wr => ∃ (n g c : Nat) (om : Obj) (L : QL) (ws : List Value), l = .slice (some ⟨g, 0, none⟩) L.length c ∧ i = .int .i64 n ∧ Hid (m + n = 4097) ∧ Hid (FaI nx df (0, 0) T L n) ∧ Hid (faE nx df T m L n = faAll nx df (0, 0) T) ∧ Hid (Qw x0 wr (w.heap.size + 2 + 1) om (.slice (some ⟨g, 0, none⟩) L.length c) L ws) ∧ Hid (SetO qv om (L.map Prod.fst)))
  case atStart => exact ⟨0, w.heap.size + 2, 1, om2, [((0, 0), [])], [.slice none 0 0], rfl, rfl, rfl, FaI.start, rfl, HQ2.out, SO2.out⟩
  case round =>
    clear HQ2 SO2
    obtain ⟨n, g, c, om, L, ws, rfl, rfl, HMN, HI, HE, HQ, HS⟩ := hrel
    obtain ⟨wo, rfl⟩ : ∃ x : World, x = wr := ⟨_, rfl⟩
    obtain ⟨gq, hgq⟩ : ∃ q : Nat, q = gk := ⟨_, rfl⟩
    rw [← hgq] at HMN HE
    have hl4 := (HLEN.out L n HI.out).2
    have HL4 := Lib.hid hl4
    have j0 : (0 : Int) ≤ (n : Int) := by omega
    by_cases hlt : n < L.length
    · obtain ⟨p, hp⟩ : ∃ p, L[n]? = some p := ⟨_, List.getElem?_eq_getElem hlt⟩
      obtain ⟨u, hu⟩ : ∃ u, ws[n]? = some u := ⟨_, List.getElem?_eq_getElem (by rw [HQ.out.len]; exact hlt)⟩
      obtain ⟨⟨a, b⟩, wd⟩ := p
      have hpb := (HLEN.out L n HI.out).1 _ (List.mem_of_getElem? hp)
      simp only at hpb
      obtain ⟨hru, hdu⟩ := HQ.out.wd n _ u hp hu
      have c0 := (HQ.out.at_ hp hu).1; have c1 := (HQ.out.at_ hp hu).2.1; have c2' := (HQ.out.at_ hp hu).2.2
      obtain ⟨Au, cu, rfl, -, -⟩ := own_form hru
      simp only at hru c0 c1 c2'
      have HRU := Lib.hid hru; have HDU := Lib.hid hdu; have HP := Lib.hid hp; have HU := Lib.hid hu
      have hsx : x0.heap.size ≤ wo.heap.size := HQ.out.size
      have hA0 := RA.out.below HQ.out.bel (show w.heap.size < x0.heap.size by rw [HSZ.out]; omega)
      have hB0 := RB.out.below HQ.out.bel (show w.heap.size + 1 < x0.heap.size by rw [HSZ.out]; omega)
      have hAp := HA.out.below HQ.out.bel (Nat.le_refl _)
      have hBp := HB.out.below HQ.out.bel (Nat.le_refl _)
      have l1 : (n : Int) < (L.length : Int) := by omega
      have hgp : (w.heap.size + 2 + 1) < wo.heap.size := hp_lt HQ.out.hm
      have HQ1 := Lib.hid (HQ.out.alloc (.cells ([.int .i64 (a : Int), .int .i64 (b : Int), .slice Au wd.length cu] : List Value).toArray 139))
      have RP := Lib.hid (Row.new wo 139 [.int .i64 (a : Int), .int .i64 (b : Int), .slice Au wd.length cu])
      have RA1 := Lib.hid (hA0.alloc (.cells ([.int .i64 (a : Int), .int .i64 (b : Int), .slice Au wd.length cu] : List Value).toArray 139))
      have RB1 := Lib.hid (hB0.alloc (.cells ([.int .i64 (a : Int), .int .i64 (b : Int), .slice Au wd.length cu] : List Value).toArray 139))
      have hg1 : Below wo.heap.size wo (wo.alloc (.cells ([.int .i64 (a : Int), .int .i64 (b : Int), .slice Au wd.length cu] : List Value).toArray 139)) := (Below.refl _ _).alloc (Nat.le_refl _) _
      have HA1 := Lib.hid (hAp.below hg1 (Nat.le_refl _))
      have HB1 := Lib.hid (hBp.below hg1 (Nat.le_refl _))
      have HRU1 : Hid (RowI (wo.alloc (.cells ([.int .i64 (a : Int), .int .i64 (b : Int), .slice Au wd.length cu] : List Value).toArray 139)) x0.heap.size 2 (.slice Au wd.length cu) wd) := RowI.keep hru hg1 (Nat.le_refl _)
      obtain ⟨b3, o3, ea, rfl, -, hea, cea⟩ := HA1.out.h3.at_ (show a < n3 by rw [HA1.out.hE]; exact hpb.1)
      obtain ⟨b4, o4, eb, rfl, -, heb, ceb⟩ := HB1.out.h3.at_ (show b < m3 by rw [HB1.out.hE]; exact hpb.2)
      have HDF : Hid (df (a, b) = (ea != eb)) := by show _ = _; rw [HDFE.out]; simp only [List.getD_eq_getElem?_getD, hea.out, heb.out, Option.getD_some]
      have a0 : (0 : Int) ≤ (a : Int) := by omega
      have b0 : (0 : Int) ≤ (b : Int) := by omega
      have a1 : (a : Int) < (n3 : Int) := by rw [HA1.out.hE]; omega
      have b1 : (b : Int) < (m3 : Int) := by rw [HB1.out.hE]; omega
      have k3 := RA1.out.cell 3; have q3 := RB1.out.cell 3
      have p0 := RP.out.cell 0; have p1 := RP.out.cell 1; have p2 := RP.out.cell 2
      have HPB := Lib.hid hpb
      obtain ⟨f, hf⟩ : ∃ f, gq = f + 1 := ⟨gq - 1, by have := HMN.out; have := HL4.out; omega⟩
      have HF := Lib.hid hf
      have W1 : IntKind.i64.wrap ((n : Int) + 1) = (n : Int) + 1 := IntWalk.i64_in _ (by omega)
      clear hp hu hru hdu hA0 hB0 hAp hBp hg1 hea heb hpb hl4 hf
      have HLT := Lib.hid hlt
      obtain ⟨dq, hdq⟩ : ∃ q, q = (ea != eb) := ⟨_, rfl⟩
      rw [← hdq] at HDF
      cases dq with
      | true =>
        have z1 : (ea == eb) = false := by revert hdq; cases ea <;> cases eb <;> simp
        clear hdq
        go_wp2_with fail
        go_quiet (fail)
        go_wp2_with fail
        go_ret2
        have HR : Hid (faAll nx df (0, 0) T = some wd) := by show _ = _; rw [← HE.out, HF.out, faE_hit HP.out HDF.out]
        rw [HR.out]
        exact FaPost.some (below_draws (WX.out.trans (HQ1.out.bel.mono WX.out.size)) _) (RowI.drewN (World.ownsRow.mono HRU1.out (by rw [HSZ.out]; omega)) _)
      | false =>
        have z1 : (ea == eb) = true := by revert hdq; cases ea <;> cases eb <;> simp
        clear hdq
        have HLE := Lib.hid ((HI.out.wd n _ HP.out).1)
        by_cases h12 : wd.length = 12
        · have z2 : ((wd.length : Int) == 12) = true := by rw [h12]; rfl
          have H12 := Lib.hid h12
          clear h12
          go_wp2_with fail
          go_quiet (fail)
          go_wp2_with fail
          go_roundg (gq - 1)
          case measure => have := HF.out; omega
          case rel =>
            refine ⟨n + 1, g, c, om, L, ws, rfl, by go_num, ?_, ?_, ?_, HQ1.out.drewN _, HS.out⟩
            · show _ + _ = 4097
              have := HMN.out; have := HF.out; omega
            · have := HI.out.next HP.out HDF.out
              unfold faS at this
              rw [if_pos H12.out] at this
              exact this
            · rw [← HE.out, HF.out, faE_miss HP.out HDF.out]
              show faE nx df T f L (n + 1) = _
              unfold faS
              rw [if_pos H12.out]
        · have z2 : ((wd.length : Int) == 12) = false := by rw [beq_eq_false_iff_ne]; omega
          have H12 : Hid (wd.length < 12) := by show _ < _; have := HLE.out; simp only at this; omega
          clear h12
          go_wp2_with fail
          go_quiet (fail)

          have W2 := W1
          clear W1 k3 q3 p0 p1 p2 c0 c1 c2' cea ceb z1 a0 b0 a1 b1
          obtain ⟨gp, hgpe⟩ : ∃ q, q = wo.heap.size := ⟨_, rfl⟩
          obtain ⟨wq, hwq⟩ : ∃ x, x = (wo.alloc (.cells ([.int .i64 (a : Int), .int .i64 (b : Int), .slice Au wd.length cu] : List Value).toArray 139)).drewN nq := ⟨_, rfl⟩
          have RPq : Hid (Row wq gp 139 [.int .i64 (a : Int), .int .i64 (b : Int), .slice Au wd.length cu]) := by rw [hwq, hgpe]; exact RP.out
          have HQq : Hid (Qw x0 wq (w.heap.size + 2 + 1) om (.slice (some ⟨g, 0, none⟩) L.length c) L ws) := by rw [hwq]; exact HQ1.out.drewN nq
          have hgn : gp ≠ g := by have := (HQ.out.own.lt g rfl).2; omega
          have HGN := Lib.hid hgn
          have hgm : (w.heap.size + 2 + 1) < gp := by omega
          have HGM := Lib.hid hgm
          have k1 : wq.cell? ⟨w.heap.size, 1, none⟩ = some (.int .i64 (T : Int)) := by rw [hwq]; exact RA1.out.cell 1
          have k2q := RPq.out.cell 2
          rw [← hwq]
          try rw [← hgpe]
          clear hwq hgpe hgn hgm hgp HQ1 RP RA1 RB1 HRU1 HQ
          go_wp2_with fail
          clear k1 k2q
          go_loopg [6, 50] T (fun m l j wr => ∃ (i g5 c5 : Nat) (om' : Obj) (Li : QL) (wsi : List Value), l = (.slice (some ⟨g5, 0, none⟩) Li.length c5) ∧ j = .int .i64 i ∧ i ≤ T ∧ T ≤ m + i ∧ Hid (Li = faR nx (a, b) wd L i) ∧ Hid (FaJ nx df (0, 0) T L Li n ((a, b), wd) i) ∧ Hid (Qw x0 wr (w.heap.size + 2 + 1) om' (.slice (some ⟨g5, 0, none⟩) Li.length c5) Li wsi) ∧ Hid (SetO qv om' (Li.map Prod.fst)) ∧ Hid (Row wr gp 139 [.int .i64 (a : Int), .int .i64 (b : Int), .slice Au wd.length cu]) ∧ Hid (gp ≠ g5) ∧ Hid (wsi[n]? = some (.slice Au wd.length cu)))
          case atStart => exact ⟨0, g, c, om, L, ws, rfl, rfl, by omega, by omega, rfl, HI.out.begin HP.out, HQq.out, HS.out, RPq.out, HGN.out, HU.out⟩
          case round =>
            clear HQq HS RPq HGN HU
            obtain ⟨i, g5, c5, om', Li, wsi, rfl, rfl, hiT, hmi, HLI, HJ, HQ, HS, RP, HGN, HU⟩ := hrel
            obtain ⟨wi, rfl⟩ : ∃ x : World, x = wr := ⟨_, rfl⟩
            obtain ⟨gi, hgi⟩ : ∃ q : Nat, q = gk := ⟨_, rfl⟩
            rw [← hgi] at hmi
            have i0 : (0 : Int) ≤ (i : Int) := by omega
            have hw4 : IntKind.i64.wrap ((i : Int) + 1) = (i : Int) + 1 := IntWalk.i64_in _ (by have := HT4.out; omega)
            by_cases hlt2 : i < T
            · have l3 : (i : Int) < (T : Int) := by omega
              have RAi := Lib.hid (RA.out.below HQ.out.bel (show w.heap.size < x0.heap.size by rw [HSZ.out]; omega))
              have RBi := Lib.hid (RB.out.below HQ.out.bel (show w.heap.size + 1 < x0.heap.size by rw [HSZ.out]; omega))
              have hcel : Hid (∀ x : World, Below wi.heap.size wi x → (Below wi.heap.size wi x ∧ x.cell? ⟨w.heap.size, 0, none⟩ = some (.int .i64 (Sa : Int)) ∧ x.cell? ⟨w.heap.size, 1, none⟩ = some (.int .i64 (T : Int)) ∧ x.cell? ⟨w.heap.size, 2, none⟩ = some (.slice A2 n2 c2) ∧ x.cell? ⟨w.heap.size, 3, none⟩ = some (.slice (some ⟨b3, o3, none⟩) n3 c3) ∧ x.cell? ⟨w.heap.size + 1, 0, none⟩ = some (.int .i64 (Sb : Int)) ∧ x.cell? ⟨w.heap.size + 1, 1, none⟩ = some (.int .i64 (T : Int)) ∧ x.cell? ⟨w.heap.size + 1, 2, none⟩ = some (.slice B2 m2 d2) ∧ x.cell? ⟨w.heap.size + 1, 3, none⟩ = some (.slice (some ⟨b4, o4, none⟩) m3 d3) ∧ x.cell? ⟨gp, 0, none⟩ = some (.int .i64 (a : Int)) ∧ x.cell? ⟨gp, 1, none⟩ = some (.int .i64 (b : Int)))) := by
                intro x hx
                have r1 := RAi.out.below hx RAi.out.lt
                have r2 := RBi.out.below hx RBi.out.lt
                have r3 := RP.out.below hx RP.out.lt
                exact ⟨hx, r1.cell 0, r1.cell 1, r1.cell 2, r1.cell 3, r2.cell 0, r2.cell 1, r2.cell 2, r2.cell 3, r3.cell 0, r3.cell 1⟩
              have hkeep : Hid (∀ x y : World, Below wi.heap.size wi x → Below x.heap.size x y → (Below wi.heap.size wi y ∧ y.cell? ⟨w.heap.size, 0, none⟩ = some (.int .i64 (Sa : Int)) ∧ y.cell? ⟨w.heap.size, 1, none⟩ = some (.int .i64 (T : Int)) ∧ y.cell? ⟨w.heap.size, 2, none⟩ = some (.slice A2 n2 c2) ∧ y.cell? ⟨w.heap.size, 3, none⟩ = some (.slice (some ⟨b3, o3, none⟩) n3 c3) ∧ y.cell? ⟨w.heap.size + 1, 0, none⟩ = some (.int .i64 (Sb : Int)) ∧ y.cell? ⟨w.heap.size + 1, 1, none⟩ = some (.int .i64 (T : Int)) ∧ y.cell? ⟨w.heap.size + 1, 2, none⟩ = some (.slice B2 m2 d2) ∧ y.cell? ⟨w.heap.size + 1, 3, none⟩ = some (.slice (some ⟨b4, o4, none⟩) m3 d3) ∧ y.cell? ⟨gp, 0, none⟩ = some (.int .i64 (a : Int)) ∧ y.cell? ⟨gp, 1, none⟩ = some (.int .i64 (b : Int)))) := fun x y h1 h2 => hcel.out y (h1.trans (h2.mono h1.size))
              have hkeepD : Hid (∀ (x : World) (d : Nat), Below wi.heap.size wi x → (Below wi.heap.size wi (x.drewN d) ∧ (x.drewN d).cell? ⟨w.heap.size, 0, none⟩ = some (.int .i64 (Sa : Int)) ∧ (x.drewN d).cell? ⟨w.heap.size, 1, none⟩ = some (.int .i64 (T : Int)) ∧ (x.drewN d).cell? ⟨w.heap.size, 2, none⟩ = some (.slice A2 n2 c2) ∧ (x.drewN d).cell? ⟨w.heap.size, 3, none⟩ = some (.slice (some ⟨b3, o3, none⟩) n3 c3) ∧ (x.drewN d).cell? ⟨w.heap.size + 1, 0, none⟩ = some (.int .i64 (Sb : Int)) ∧ (x.drewN d).cell? ⟨w.heap.size + 1, 1, none⟩ = some (.int .i64 (T : Int)) ∧ (x.drewN d).cell? ⟨w.heap.size + 1, 2, none⟩ = some (.slice B2 m2 d2) ∧ (x.drewN d).cell? ⟨w.heap.size + 1, 3, none⟩ = some (.slice (some ⟨b4, o4, none⟩) m3 d3) ∧ (x.drewN d).cell? ⟨gp, 0, none⟩ = some (.int .i64 (a : Int)) ∧ (x.drewN d).cell? ⟨gp, 1, none⟩ = some (.int .i64 (b : Int)))) := fun x d h1 => hcel.out _ (below_draws h1 d)
              have hkeepA : Hid (∀ (x : World) (ob : Obj), Below wi.heap.size wi x → (Below wi.heap.size wi (x.alloc ob) ∧ (x.alloc ob).cell? ⟨w.heap.size, 0, none⟩ = some (.int .i64 (Sa : Int)) ∧ (x.alloc ob).cell? ⟨w.heap.size, 1, none⟩ = some (.int .i64 (T : Int)) ∧ (x.alloc ob).cell? ⟨w.heap.size, 2, none⟩ = some (.slice A2 n2 c2) ∧ (x.alloc ob).cell? ⟨w.heap.size, 3, none⟩ = some (.slice (some ⟨b3, o3, none⟩) n3 c3) ∧ (x.alloc ob).cell? ⟨w.heap.size + 1, 0, none⟩ = some (.int .i64 (Sb : Int)) ∧ (x.alloc ob).cell? ⟨w.heap.size + 1, 1, none⟩ = some (.int .i64 (T : Int)) ∧ (x.alloc ob).cell? ⟨w.heap.size + 1, 2, none⟩ = some (.slice B2 m2 d2) ∧ (x.alloc ob).cell? ⟨w.heap.size + 1, 3, none⟩ = some (.slice (some ⟨b4, o4, none⟩) m3 d3) ∧ (x.alloc ob).cell? ⟨gp, 0, none⟩ = some (.int .i64 (a : Int)) ∧ (x.alloc ob).cell? ⟨gp, 1, none⟩ = some (.int .i64 (b : Int)))) := fun x ob h1 => hcel.out _ (h1.alloc h1.size ob)
              have hkeepT : Hid (∀ (x : World) (gz : Nat) (v0 v1 : Value), Below wi.heap.size wi x → wi.heap.size ≤ gz → (Below wi.heap.size wi ((x.setCell ⟨gz, 0, none⟩ v0).setCell ⟨gz, 1, none⟩ v1) ∧ ((x.setCell ⟨gz, 0, none⟩ v0).setCell ⟨gz, 1, none⟩ v1).cell? ⟨w.heap.size, 0, none⟩ = some (.int .i64 (Sa : Int)) ∧ ((x.setCell ⟨gz, 0, none⟩ v0).setCell ⟨gz, 1, none⟩ v1).cell? ⟨w.heap.size, 1, none⟩ = some (.int .i64 (T : Int)) ∧ ((x.setCell ⟨gz, 0, none⟩ v0).setCell ⟨gz, 1, none⟩ v1).cell? ⟨w.heap.size, 2, none⟩ = some (.slice A2 n2 c2) ∧ ((x.setCell ⟨gz, 0, none⟩ v0).setCell ⟨gz, 1, none⟩ v1).cell? ⟨w.heap.size, 3, none⟩ = some (.slice (some ⟨b3, o3, none⟩) n3 c3) ∧ ((x.setCell ⟨gz, 0, none⟩ v0).setCell ⟨gz, 1, none⟩ v1).cell? ⟨w.heap.size + 1, 0, none⟩ = some (.int .i64 (Sb : Int)) ∧ ((x.setCell ⟨gz, 0, none⟩ v0).setCell ⟨gz, 1, none⟩ v1).cell? ⟨w.heap.size + 1, 1, none⟩ = some (.int .i64 (T : Int)) ∧ ((x.setCell ⟨gz, 0, none⟩ v0).setCell ⟨gz, 1, none⟩ v1).cell? ⟨w.heap.size + 1, 2, none⟩ = some (.slice B2 m2 d2) ∧ ((x.setCell ⟨gz, 0, none⟩ v0).setCell ⟨gz, 1, none⟩ v1).cell? ⟨w.heap.size + 1, 3, none⟩ = some (.slice (some ⟨b4, o4, none⟩) m3 d3) ∧ ((x.setCell ⟨gz, 0, none⟩ v0).setCell ⟨gz, 1, none⟩ v1).cell? ⟨gp, 0, none⟩ = some (.int .i64 (a : Int)) ∧ ((x.setCell ⟨gz, 0, none⟩ v0).setCell ⟨gz, 1, none⟩ v1).cell? ⟨gp, 1, none⟩ = some (.int .i64 (b : Int)))) := fun x gz v0 v1 h1 h2 => hcel.out _ ((h1.setCell (p := ⟨gz, 0, none⟩) h2 v0).setCell (p := ⟨gz, 1, none⟩) h2 v1)
              have hlow : Hid (∀ (x : World), Below wi.heap.size wi x → wi.heap.size ≤ x.heap.size) := fun x h => h.size
              have HAi := Lib.hid (HA.out.below HQ.out.bel (Nat.le_refl _))
              have HBi := Lib.hid (HB.out.below HQ.out.bel (Nat.le_refl _))
              have hTA : Hid (∀ x : World, Below wi.heap.size wi x → Calls Try.prog 51 #[.agg #[.int .i64 (Sa : Int), .int .i64 (T : Int), .slice A2 n2 c2, .slice (some ⟨b3, o3, none⟩) n3 c3], .int .i64 (a : Int), .int .i64 (i : Int)] x fun e y => e = .returned (.int .i64 ((plT T Pa a i : Nat) : Int)) ∧ Below x.heap.size x y) := fun x hx => iToN_any c2 c3 a i x (HAi.out.below hx (Nat.le_refl _)) HPB.out.1 hlt2
              have hTB : Hid (∀ x : World, Below wi.heap.size wi x → Calls Try.prog 51 #[.agg #[.int .i64 (Sb : Int), .int .i64 (T : Int), .slice B2 m2 d2, .slice (some ⟨b4, o4, none⟩) m3 d3], .int .i64 (b : Int), .int .i64 (i : Int)] x fun e y => e = .returned (.int .i64 ((plT T Pb b i : Nat) : Int)) ∧ Below x.heap.size x y) := fun x hx => iToN_any d2 d3 b i x (HBi.out.below hx (Nat.le_refl _)) HPB.out.2 hlt2
              have hfrom := hcel.out wi.drew (Below.drew (Below.refl _ _))
              have hfrom2 := hcel.out (wi.alloc (.cells ([.int .i64 0, .int .i64 0] : List Value).toArray 84)).drew (Below.drew ((Below.refl _ _).alloc (Nat.le_refl _) _))
              go_upto_region 13 with fail
              go_cut [11] from 53 to 65 (fun p wx => ∃ gr : Nat, p = .pointer (some ⟨gr, 0, none⟩) ∧ Hid (wi.heap.size ≤ gr) ∧ Hid (Row wx gr 84 ([.int .i64 ((plT T Pa a i : Nat) : Int), .int .i64 ((plT T Pb b i : Nat) : Int)] : List Value)) ∧ Hid (Below wi.heap.size wi wx))
              case first =>
                go_region_held3 (fun x => Below wi.heap.size wi x ∧ x.cell? ⟨w.heap.size, 0, none⟩ = some (.int .i64 (Sa : Int)) ∧ x.cell? ⟨w.heap.size, 1, none⟩ = some (.int .i64 (T : Int)) ∧ x.cell? ⟨w.heap.size, 2, none⟩ = some (.slice A2 n2 c2) ∧ x.cell? ⟨w.heap.size, 3, none⟩ = some (.slice (some ⟨b3, o3, none⟩) n3 c3) ∧ x.cell? ⟨w.heap.size + 1, 0, none⟩ = some (.int .i64 (Sb : Int)) ∧ x.cell? ⟨w.heap.size + 1, 1, none⟩ = some (.int .i64 (T : Int)) ∧ x.cell? ⟨w.heap.size + 1, 2, none⟩ = some (.slice B2 m2 d2) ∧ x.cell? ⟨w.heap.size + 1, 3, none⟩ = some (.slice (some ⟨b4, o4, none⟩) m3 d3) ∧ x.cell? ⟨gp, 0, none⟩ = some (.int .i64 (a : Int)) ∧ x.cell? ⟨gp, 1, none⟩ = some (.int .i64 (b : Int))) (first | (with_reducible assumption) | (with_reducible exact hkeepD.out _ _ (by first | (with_reducible assumption) | (with_reducible (apply And.left; assumption)))) | (with_reducible exact hkeepA.out _ _ (by first | (with_reducible assumption) | (with_reducible (apply And.left; assumption)))) | (with_reducible refine hkeepT.out _ _ _ _ (by first | (with_reducible assumption) | (with_reducible (apply And.left; assumption))) (by first | (with_reducible exact Nat.le_refl _) | (with_reducible exact hlow.out _ (by first | (with_reducible assumption) | (with_reducible (apply And.left; assumption)))))) | go_keep)
                  (first
                    | (go_at_call 51; ((with_reducible refine (hTA.out _ (by first | (with_reducible assumption) | (with_reducible (apply And.left; assumption)))).mono ?_); rintro e yA ⟨rfl, hbA⟩); have sA := (fun h => hkeep.out _ _ h hbA) (by first | (with_reducible assumption) | (with_reducible (apply And.left; assumption))); (try (have ra : Row yA wi.heap.size 84 ([.int .i64 0, .int .i64 0] : List Value) := (Row.new wi 84 ([.int .i64 0, .int .i64 0] : List Value)).drew.below hbA (by simp)); have RZ1 := Lib.hid ra; clear ra); (try (have ra : Row yA wi.heap.size 84 ([.int .i64 0, .int .i64 0] : List Value) := RY1.out.below hbA RY1.out.lt); have z0 := ra.cell 0; have z1 := ra.cell 1; have f0 := ra.frozen 0; have f1 := ra.frozen 1; have RX1 := Lib.hid ra; clear ra); (try (have ra : Row yA yB.heap.size 84 ([.int .i64 0, .int .i64 0] : List Value) := (Row.new yB 84 ([.int .i64 0, .int .i64 0] : List Value)).below hbA (by simp)); have z0 := ra.cell 0; have z1 := ra.cell 1; have f0 := ra.frozen 0; have f1 := ra.frozen 1; have RX2 := Lib.hid ra; clear ra); clear hbA)
                    | (go_at_call 51; ((with_reducible refine (hTB.out _ (by first | (with_reducible assumption) | (with_reducible (apply And.left; assumption)))).mono ?_); rintro e yB ⟨rfl, hbB⟩); have sB := (fun h => hkeep.out _ _ h hbB) (by first | (with_reducible assumption) | (with_reducible (apply And.left; assumption))); (try (have ra : Row yB wi.heap.size 84 ([.int .i64 0, .int .i64 0] : List Value) := (Row.new wi 84 ([.int .i64 0, .int .i64 0] : List Value)).drew.below hbB (by simp)); have RY1 := Lib.hid ra; clear ra); (try (have ra : Row yB wi.heap.size 84 ([.int .i64 0, .int .i64 0] : List Value) := RZ1.out.below hbB RZ1.out.lt); have z0 := ra.cell 0; have z1 := ra.cell 1; have f0 := ra.frozen 0; have f1 := ra.frozen 1; have RX1 := Lib.hid ra; clear ra); (try (have ra : Row yB yA.heap.size 84 ([.int .i64 0, .int .i64 0] : List Value) := (Row.new yA 84 ([.int .i64 0, .int .i64 0] : List Value)).below hbB (by simp)); have z0 := ra.cell 0; have z1 := ra.cell 1; have f0 := ra.frozen 0; have f1 := ra.frozen 1; have RX3 := Lib.hid ra; clear ra); clear hbB))
                all_goals
                  try go_wp2_with fail
                  go_meet
                  first
                    | (refine ⟨yB.heap.size, rfl, ?_, ?_, ?_⟩
                       · exact hlow.out _ sB.1
                       · exact Row.new yB 84 ([.int .i64 ((plT T Pa a i : Nat) : Int), .int .i64 ((plT T Pb b i : Nat) : Int)] : List Value)
                       · exact sB.1.alloc (hlow.out _ sB.1) _)
                    | (refine ⟨yA.heap.size, rfl, ?_, ?_, ?_⟩
                       · exact hlow.out _ sA.1
                       · exact Row.new yA 84 ([.int .i64 ((plT T Pa a i : Nat) : Int), .int .i64 ((plT T Pb b i : Nat) : Int)] : List Value)
                       · exact sA.1.alloc (hlow.out _ sA.1) _)
                    | (refine ⟨yB.heap.size, rfl, ?_, ?_, ?_⟩
                       · exact hlow.out _ sB.1
                       · exact (RX2.out.set_ 0 _).set_ 1 _
                       · exact (sA.1.setCell (p := ⟨yB.heap.size, 0, none⟩) (hlow.out _ sB.1) _).setCell (p := ⟨yB.heap.size, 1, none⟩) (hlow.out _ sB.1) _)
                    | (refine ⟨yA.heap.size, rfl, ?_, ?_, ?_⟩
                       · exact hlow.out _ sA.1
                       · exact (RX3.out.set_ 0 _).set_ 1 _
                       · exact (sB.1.setCell (p := ⟨yA.heap.size, 0, none⟩) (hlow.out _ sA.1) _).setCell (p := ⟨yA.heap.size, 1, none⟩) (hlow.out _ sA.1) _)
                    | (refine ⟨wi.heap.size, rfl, Nat.le_refl _, ?_, ?_⟩
                       · exact (RX1.out.set_ 0 _).set_ 1 _
                       · first
                           | exact (sA.1.setCell (p := ⟨wi.heap.size, 0, none⟩) (Nat.le_refl _) _).setCell (p := ⟨wi.heap.size, 1, none⟩) (Nat.le_refl _) _
                           | exact (sB.1.setCell (p := ⟨wi.heap.size, 0, none⟩) (Nat.le_refl _) _).setCell (p := ⟨wi.heap.size, 1, none⟩) (Nat.le_refl _) _)
              case rest =>
              clear hfrom hfrom2 hcel hkeep hkeepD hkeepA hkeepT hlow hTA hTB HAi HBi RAi RBi
              obtain ⟨gr, rfl, HGR, RR, HBC⟩ := hcut
              obtain ⟨w4, rfl⟩ : ∃ x : World, x = wc := ⟨_, rfl⟩
              obtain ⟨a', ha'⟩ : ∃ x, x = plT T Pa a i := ⟨_, rfl⟩
              obtain ⟨b', hb'⟩ : ∃ x, x = plT T Pb b i := ⟨_, rfl⟩
              rw [← ha', ← hb'] at RR
              have HX : Hid (nx (a, b) i = (a', b')) := by show _ = _; rw [HNXE.out, ha', hb']
              have hokx : okQ (a', b') := by
                have h1 := HNX.out (a, b) i HPB.out.1 HPB.out.2 hlt2
                rw [HX.out] at h1
                have h2 := HA.out.hS; have h3 := HB.out.hS
                exact ⟨by have := h1.1; simp only at this ⊢; omega, by have := h1.2; simp only at this ⊢; omega⟩
              have HOKX := Lib.hid hokx
              have HOKL : Hid (∀ y ∈ Li.map Prod.fst, okQ y) := fun y hy => by
                obtain ⟨q, hq, rfl⟩ := List.mem_map.1 hy
                have h1 := faJ_in ⟨by have := HA.out.hS; omega, by have := HB.out.hS; omega⟩ HNX.out HJ.out q hq
                have h2 := HA.out.hS; have h3 := HB.out.hS
                exact ⟨by omega, by omega⟩
              have HQ4 := Lib.hid (HQ.out.call HBC.out (Nat.le_refl _))
              have RP4 := Lib.hid (RP.out.below HBC.out RP.out.lt)
              have r0 := RR.out.cell 0; have r1 := RR.out.cell 1
              have HLN : Hid (Li.length + 1 ≤ 1048576) := by
                show _ ≤ _
                have h1 := faR_len (nx := nx) (a, b) wd L i
                rw [← HLI.out] at h1
                have := HL4.out; have := HT4.out; omega
              have HGRM : Hid ((w.heap.size + 2 + 1) < gr) := by show _ < _; have h1 := hp_lt HQ.out.hm; have h2 := HGR.out; omega
              clear ha' hb' hokx
              by_cases hin : (a', b') ∈ Li.map Prod.fst
              · have HDC : Hid ((a', b') ∈ Li.map Prod.fst ↔ true = true) := ⟨fun _ => rfl, fun _ => hin⟩
                have HJN : Hid (FaJ nx df (0, 0) T L Li n ((a, b), wd) (i + 1)) := HJ.out.old HP.out H12.out hlt2 (by rw [show nx ((a, b), wd).1 i = (a', b') from HX.out]; exact hin)
                have HLIN : Hid (faR nx (a, b) wd L (i + 1) = Li) := by show _ = _; rw [HLI.out]; exact faR_in (by rw [← HLI.out, HX.out]; exact hin)
                clear hin
                go_wp2_with (refine wpList_setO_look setQ w4 rfl (.tmp 66) (.tmp 67) rfl (w.heap.size + 2 + 1) HOKL.out HQ4.out.hm HS.out (y := (a', b')) HOKX.out true HDC.out rfl rfl ?_)
                go_roundg (gi - 1)
                case measure => omega
                case rel => exact ⟨i + 1, g5, c5, om', Li, wsi, rfl, by go_num, by omega, by omega, HLIN.out.symm, HJN.out, HQ4.out, HS.out, RP4.out, HGN.out, HU.out⟩
              · have HDC : Hid ((a', b') ∈ Li.map Prod.fst ↔ false = true) := ⟨fun h => absurd h hin, fun h => by cases h⟩
                have HJN : Hid (FaJ nx df (0, 0) T L (Li ++ [((a', b'), wd ++ [(i : Int)])]) n ((a, b), wd) (i + 1)) := by
                  have h := HJ.out.new HP.out H12.out hlt2 (by rw [show nx ((a, b), wd).1 i = (a', b') from HX.out]; exact hin)
                  rw [show nx ((a, b), wd).1 i = (a', b') from HX.out] at h
                  exact h
                have HLIN : Hid (faR nx (a, b) wd L (i + 1) = Li ++ [((a', b'), wd ++ [(i : Int)])]) := by
                  show _ = _
                  have h := faR_new (nx := nx) (k := (a, b)) (wd := wd) (L := L) (l := i) (by rw [← HLI.out, HX.out]; exact hin)
                  rw [h, ← HLI.out, HX.out]
                have HIN := Lib.hid hin
                clear hin
                go_wp2_with (first
                  | (refine wpList_setO_look setQ w4 rfl (.tmp 66) (.tmp 67) rfl (w.heap.size + 2 + 1) HOKL.out HQ4.out.hm HS.out (y := (a', b')) HOKX.out false HDC.out rfl rfl ?_)
                  | (refine wpList_setO_put setQ w4 rfl (.tmp 70) (.tmp 71) (.const (.bool true)) (.inl rfl) (w.heap.size + 2 + 1) HOKL.out HQ4.out.hm HS.out (y := (a', b')) HOKX.out HIN.out rfl rfl rfl ?_; intro w6 om6 hb6 ho6 hbut; have HQ6 := Lib.hid (HQ4.out.map hbut hb6); have HS6 := Lib.hid ho6; have RR6 : Hid (Row w6 gr 84 [.int .i64 (a' : Int), .int .i64 (b' : Int)]) := ((hbut.2.2.2.2 gr RR.out.lt (by have := HGRM.out; omega)).trans RR.out); have RP6 : Hid (Row w6 gp 139 [.int .i64 (a : Int), .int .i64 (b : Int), .slice Au wd.length cu]) := ((hbut.2.2.2.2 gp RP4.out.lt (by have := HGM.out; omega)).trans RP4.out); clear hb6 ho6 hbut))
                have HQW := HQ
                clear r0 r1 HQ4 RP4 HQ HS RP RR HBC HDC HIN
                have hruw := (HQ6.out.wd n _ _ (by
                  obtain ⟨r, hr⟩ := HJ.out.app
                  rw [hr]; exact get_left HP.out) HU.out)
                have hru := hruw.1
                have HDU6 := Lib.hid hruw.2
                clear hruw
                have HRU6 := Lib.hid hru
                have HNA := Lib.hid (ownA_nil hru)
                clear hru
                have hg56 := (HQ6.out.own.lt g5 rfl).2
                have HRG : Hid (gr ≠ g5) := by
                  show _ ≠ _
                  have h1 := (HQW.out.own.lt g5 rfl).2
                  have h2 := HGR.out
                  omega
                have hcel : Hid (∀ x : World, Lo w6.heap.size g5 w6 x → (Lo w6.heap.size g5 w6 x ∧ x.cell? ⟨gr, 0, none⟩ = some (.int .i64 (a' : Int)) ∧ x.cell? ⟨gr, 1, none⟩ = some (.int .i64 (b' : Int)) ∧ x.cell? ⟨gp, 2, none⟩ = some (.slice Au wd.length cu))) := by
                  intro x hx
                  have r1 := hx.row RR6.out RR6.out.lt HRG.out
                  have r2 := hx.row RP6.out RP6.out.lt HGN.out
                  exact ⟨hx, r1.cell 0, r1.cell 1, r2.cell 2⟩
                have hkeep : Hid (∀ x y : World, Lo w6.heap.size g5 w6 x → Below x.heap.size x y → (Lo w6.heap.size g5 w6 y ∧ y.cell? ⟨gr, 0, none⟩ = some (.int .i64 (a' : Int)) ∧ y.cell? ⟨gr, 1, none⟩ = some (.int .i64 (b' : Int)) ∧ y.cell? ⟨gp, 2, none⟩ = some (.slice Au wd.length cu))) := fun x y h1 h2 => hcel.out y (h1.trans (Lo.below h2 h1.2.2.2.1))
                have hkeepB : Hid (∀ x : World, Below w6.heap.size w6 x → (Lo w6.heap.size g5 w6 x ∧ x.cell? ⟨gr, 0, none⟩ = some (.int .i64 (a' : Int)) ∧ x.cell? ⟨gr, 1, none⟩ = some (.int .i64 (b' : Int)) ∧ x.cell? ⟨gp, 2, none⟩ = some (.slice Au wd.length cu))) := fun x h1 => hcel.out x (Lo.below h1 (Nat.le_refl _))
                have hkeepD : Hid (∀ (x : World) (d : Nat), Lo w6.heap.size g5 w6 x → (Lo w6.heap.size g5 w6 (x.drewN d) ∧ (x.drewN d).cell? ⟨gr, 0, none⟩ = some (.int .i64 (a' : Int)) ∧ (x.drewN d).cell? ⟨gr, 1, none⟩ = some (.int .i64 (b' : Int)) ∧ (x.drewN d).cell? ⟨gp, 2, none⟩ = some (.slice Au wd.length cu))) := fun x d h1 => hcel.out _ (h1.trans (Lo.below (below_draws (Below.refl w6.heap.size x) d) (Nat.le_refl _)))
                have hkeepA : Hid (∀ (x : World) (ob : Obj), Lo w6.heap.size g5 w6 x → (Lo w6.heap.size g5 w6 (x.alloc ob) ∧ (x.alloc ob).cell? ⟨gr, 0, none⟩ = some (.int .i64 (a' : Int)) ∧ (x.alloc ob).cell? ⟨gr, 1, none⟩ = some (.int .i64 (b' : Int)) ∧ (x.alloc ob).cell? ⟨gp, 2, none⟩ = some (.slice Au wd.length cu))) := fun x ob h1 => hcel.out _ (h1.trans (Lo.alloc _ _ _ ob h1.2.2.2.1))
                have hCL : Hid (∀ x : World, Lo w6.heap.size g5 w6 x → Calls Try.prog 48 #[.slice Au wd.length cu] x fun e y => ∃ A' c', e = .returned (.slice A' wd.length c') ∧ RowI y w6.heap.size 2 (.slice A' wd.length c') wd ∧ Below x.heap.size x y) := fun x hx => by
                  have hux : RowI x x0.heap.size 2 (.slice Au wd.length cu) wd := own_move HRU6.out (fun k hk => hx.2.2.2.2 k (World.ownsRow.lt HRU6.out k hk).2 (fun e => (HDU6.out k hk).2 (by simp [Value.ownBlock, e])))
                  refine (iClo_any Au wd.length cu wd x HNA.out (RowI.sl hux rfl) (by have := H12.out; omega)).mono ?_
                  rintro e y ⟨A', c', rfl, h1, h2⟩
                  exact ⟨A', c', rfl, World.ownsRow.mono h1 hx.2.2.2.1, h2⟩
                have PWD : Hid (wd.length + 1 ≤ 4294967296) := by show _ ≤ _; have := H12.out; omega
                have P03 : 0 < 3 := by omega
                have P40 : 40 ≤ 64 := by omega
                have hfrom := hkeepB.out w6.drew (Below.drew (Below.refl _ _))
                have hfrom2 := hkeepB.out (w6.alloc (.cells ([.int .i64 (i : Int)] : List Value).toArray 2)).drew (Below.drew ((Below.refl _ _).alloc (Nat.le_refl _) _))
                have HONE : Hid (∀ (g7 cap7 : Nat), ∀ u ∈ ([.int .i64 (a' : Int), .int .i64 (b' : Int), .slice (some ⟨g7, 0, none⟩) (wd.length + 1) cap7] : List Value), u.oneCell' = true) := fun g7 cap7 u hu => by
                  simp only [List.mem_cons, List.not_mem_nil, or_false] at hu
                  rcases hu with rfl | rfl | rfl <;> rfl
                go_region_held3 (fun x => Lo w6.heap.size g5 w6 x ∧ x.cell? ⟨gr, 0, none⟩ = some (.int .i64 (a' : Int)) ∧ x.cell? ⟨gr, 1, none⟩ = some (.int .i64 (b' : Int)) ∧ x.cell? ⟨gp, 2, none⟩ = some (.slice Au wd.length cu)) (first | (with_reducible assumption) | (with_reducible exact hkeepD.out _ _ (by first | (with_reducible assumption) | (with_reducible (apply And.left; assumption)))) | (with_reducible exact hkeepA.out _ _ (by first | (with_reducible assumption) | (with_reducible (apply And.left; assumption)))) | go_keep)
                    (first
                      | (go_at_call 48; ((with_reducible refine (hCL.out _ (by first | (with_reducible assumption) | (with_reducible (apply And.left; assumption)))).mono ?_); rintro e yC ⟨A', c', rfl, hrC, hbC⟩); have sC := (fun h => hkeep.out _ _ h hbC) (by first | (with_reducible assumption) | (with_reducible (apply And.left; assumption))); (try (have ra : Row yC w6.heap.size 2 [.int .i64 (i : Int)] := (Row.new w6 2 [.int .i64 (i : Int)]).drew.below hbC (by simp)); have LB := Lib.hid (ra.cell 0); clear ra); have HBC : Hid (Below w6.heap.size w6 yC) := (by first | exact (Below.drew (Below.refl w6.heap.size w6)).trans (hbC.mono (Nat.le_refl _)) | exact ((Below.drew ((Below.refl w6.heap.size w6).alloc (Nat.le_refl _) _))).trans (hbC.mono (by simp))); have HRC := Lib.hid hrC; have HRD : Hid (RowI (yC.alloc (.cells ([.int .i64 (i : Int)] : List Value).toArray 2)) w6.heap.size 2 (.slice A' wd.length c') wd) := RowI.keep hrC ((Below.refl yC.heap.size yC).alloc (Nat.le_refl _) _) (Nat.le_refl _); have LC := Lib.hid ((Row.new yC 2 [.int .i64 (i : Int)]).cell 0); have hyl := HBC.out.size; have hyl2 : w6.heap.size ≤ (yC.alloc (.cells ([.int .i64 (i : Int)] : List Value).toArray 2)).heap.size := (by simp; omega); clear hrC hbC)
                      | (refine step_int_push yC rfl (.tmp 76) (.tmp 78) _ rfl w6.heap.size 2 Try.underlying26 infoI6 (.slice A' wd.length c') wd ?_ HRC.out w6.heap.size (i : Int) ?_ LB.out PWD.out hyl ?_; rfl; rfl; intro g7 cap7 w7 hr7 hb7; have HB7 : Hid (Below w6.heap.size w6 w7) := HBC.out.trans hb7; have s7 := hkeepB.out w7 HB7.out; have HR7 := Lib.hid hr7; clear hr7 hb7; have HB8 : Hid (Below w6.heap.size w6 (w7.alloc (.cells ([.int .i64 (a' : Int), .int .i64 (b' : Int), .slice (some ⟨g7, 0, none⟩) (wd.length + 1) cap7] : List Value).toArray 139))) := HB7.out.alloc HB7.out.size _; have HQ8 := Lib.hid (HQ6.out.call HB8.out (Nat.le_refl _)); have HN8 : Hid (∀ j u, ([.int .i64 (a' : Int), .int .i64 (b' : Int), .slice (some ⟨g7, 0, none⟩) (wd.length + 1) cap7] : List Value)[j]? = some u → (w7.alloc (.cells ([.int .i64 (a' : Int), .int .i64 (b' : Int), .slice (some ⟨g7, 0, none⟩) (wd.length + 1) cap7] : List Value).toArray 139)).cell? ⟨w7.heap.size, 0 + j, none⟩ = some u) := (fun j u hu => by rw [Nat.zero_add]; exact ((Row.new w7 139 [.int .i64 (a' : Int), .int .i64 (b' : Int), .slice (some ⟨g7, 0, none⟩) (wd.length + 1) cap7]).cell j).trans hu))
                      | (refine step_int_push (yC.alloc (.cells ([.int .i64 (i : Int)] : List Value).toArray 2)) rfl (.tmp 76) (.tmp 78) _ rfl w6.heap.size 2 Try.underlying26 infoI6 (.slice A' wd.length c') wd ?_ HRD.out yC.heap.size (i : Int) ?_ LC.out PWD.out hyl2 ?_; rfl; rfl; intro g7 cap7 w7 hr7 hb7; have HB7 : Hid (Below w6.heap.size w6 w7) := (HBC.out.alloc HBC.out.size _).trans hb7; have s7 := hkeepB.out w7 HB7.out; have HR7 := Lib.hid hr7; clear hr7 hb7; have HB8 : Hid (Below w6.heap.size w6 (w7.alloc (.cells ([.int .i64 (a' : Int), .int .i64 (b' : Int), .slice (some ⟨g7, 0, none⟩) (wd.length + 1) cap7] : List Value).toArray 139))) := HB7.out.alloc HB7.out.size _; have HQ8 := Lib.hid (HQ6.out.call HB8.out (Nat.le_refl _)); have HN8 : Hid (∀ j u, ([.int .i64 (a' : Int), .int .i64 (b' : Int), .slice (some ⟨g7, 0, none⟩) (wd.length + 1) cap7] : List Value)[j]? = some u → (w7.alloc (.cells ([.int .i64 (a' : Int), .int .i64 (b' : Int), .slice (some ⟨g7, 0, none⟩) (wd.length + 1) cap7] : List Value).toArray 139)).cell? ⟨w7.heap.size, 0 + j, none⟩ = some u) := (fun j u hu => by rw [Nat.zero_add]; exact ((Row.new w7 139 [.int .i64 (a' : Int), .int .i64 (b' : Int), .slice (some ⟨g7, 0, none⟩) (wd.length + 1) cap7]).cell j).trans hu))
                      | (refine step_cells_pushW rfl (.tmp 72) (.tmp 81) _ rfl x0.heap.size 139 (.agg #[.int .i64 0, .int .i64 0, .slice none 0 0]) 3 40 Try.underlying140 infoPlc rfl P03 P40 (.slice (some ⟨g5, 0, none⟩) Li.length c5) Li.length (qc Li wsi) ?_ HQ8.out.own w7.heap.size 0 1 1 [.int .i64 (a' : Int), .int .i64 (b' : Int), .slice (some ⟨g7, 0, none⟩) (wd.length + 1) cap7] ?_ rfl HN8.out (HONE.out g7 cap7) HLN.out HQ8.out.size ?_; rfl; rfl; intro A9 c9 A9w hown hgr hbl hat; have HO9 := Lib.hid hown; have HG9 := Lib.hid hgr; have HT9 := Lib.hid hat; have s9 := hcel.out A9w ((Lo.below HB8.out (Nat.le_refl _)).trans (lo_grown hgr HB8.out.size)); clear hown hgr hbl hat))
                all_goals
                  have hform := own_form HO9.out
                  go_wp2_with fail
                  go_roundg (gi - 1)
                  case measure => omega
                  case rel =>
                    have hg9 : ∃ g9, A9 = some ⟨g9, 0, none⟩ := by
                      obtain ⟨g9, c9', hv, _, _⟩ := World.ownsRow.form HO9.out (by omega)
                      injection hv with h1 _ _
                      exact ⟨g9, h1⟩
                    obtain ⟨g9, rfl⟩ := hg9
                    have hq9 : ∀ k, (Value.slice (some ⟨g9, 0, none⟩) (Li.length + 1) c9).ownBlock = some k → (Value.slice (some ⟨g5, 0, none⟩) Li.length c5).ownBlock = some k ∨ (w7.alloc (.cells ([.int .i64 (a' : Int), .int .i64 (b' : Int), .slice (some ⟨g7, 0, none⟩) (wd.length + 1) cap7] : List Value).toArray 139)).heap.size ≤ k := fun k hk => by
                      rcases HT9.out with e | e
                      · exact .inl (by rw [← e]; exact hk)
                      · rw [hk] at e; injection e with e; exact .inr (by omega)
                    have hg7 := World.ownsRow.lt HR7.out g7 rfl
                    have hu8 : RowI (w7.alloc (.cells ([.int .i64 (a' : Int), .int .i64 (b' : Int), .slice (some ⟨g7, 0, none⟩) (wd.length + 1) cap7] : List Value).toArray 139)) x0.heap.size 2 (.slice (some ⟨g7, 0, none⟩) (wd.length + 1) cap7) (wd ++ [(i : Int)]) := RowI.keep (World.ownsRow.mono HR7.out HQ6.out.size) ((Below.refl w7.heap.size w7).alloc (Nat.le_refl _) _) (Nat.le_refl _)
                    have hg5 := (HQ6.out.own.lt g5 rfl).2
                    have hgm6 := hp_lt HQ6.out.hm
                    have hQ9 := HQ8.out.push (p := ((a', b'), wd ++ [(i : Int)])) HO9.out HG9.out hq9 hu8 (fun k hk => by
                      simp [Value.ownBlock] at hk ⊢
                      omega)
                    have hgp6 := RP6.out.lt
                    have hRP9 : Row _ gp 139 [.int .i64 (a : Int), .int .i64 (b : Int), .slice Au wd.length cu] := (RP6.out.below HB8.out RP6.out.lt).grown HG9.out (by simp [Value.ownBlock]; exact HGN.out)
                    refine ⟨i + 1, g9, c9, om6, Li ++ [((a', b'), wd ++ [(i : Int)])], wsi ++ [.slice (some ⟨g7, 0, none⟩) (wd.length + 1) cap7], by simp, by go_num, by omega, by omega, HLIN.out.symm, HJN.out, ?_, ?_, hRP9, ?_, ?_⟩
                    · have := hQ9; simp only [List.length_append, List.length_cons, List.length_nil] at this ⊢; exact this
                    · have := HS6.out; rw [List.map_append]; exact this
                    · show gp ≠ g9
                      rcases hq9 g9 rfl with e | e
                      · simp [Value.ownBlock] at e; have := HGN.out; omega
                      · exact Nat.ne_of_lt (Nat.lt_of_lt_of_le hgp6 (Nat.le_trans HB8.out.size e))
                    · show _ = _
                      have h1 : n < wsi.length := (List.getElem?_eq_some_iff.1 HU.out).1
                      rw [List.getElem?_append_left h1]; exact HU.out
            · have hT' : i = T := by omega
              have l3 : (T : Int) ≤ (i : Int) := by omega
              clear hlt2
              go_wp2_with fail
              go_roundg (gq - 1)
              case measure => have := HF.out; omega
              case rel =>
                have hS' : faS nx T L ((a, b), wd) = Li := by
                  unfold faS
                  rw [if_neg (by show ¬ wd.length = 12; have := H12.out; omega), HLI.out, hT']
                refine ⟨n + 1, g5, c5, om', Li, wsi, rfl, by go_num, ?_, ?_, ?_, HQ.out, HS.out⟩
                · show _ + _ = 4097
                  have := HMN.out; have := HF.out; omega
                · exact HJ.out.close HI.out HP.out HDF.out (fun _ => by omega)
                · rw [← HE.out, HF.out, faE_miss HP.out HDF.out, hS']; rfl
    · have hnl : L.length ≤ n := by omega
      have l1 : (L.length : Int) ≤ (n : Int) := by omega
      have HNL := Lib.hid hnl
      clear hnl hlt hl4
      go_wp2_with fail
      go_ret2
      have HR : Hid (faAll nx df (0, 0) T = none) := by show _ = _; rw [← HE.out, faE_end HNL.out]
      rw [HR.out]
      exact FaPost.none (WX.out.trans (HQ.out.bel.mono WX.out.size))


end Go.Proofs.Ytbdfbmohdbigfaa