/- TurnSided of both programs. -/
import Derived.Test.YtcmnhnapnnpbdaaVs
import Derived.Test.YtcmnhnapnnpbdaaSidedOw
import Derived.Test.YtcmnhnapnnpbdaaStO
import Derived.Deep.RegionHeld3
import Derived.Deep.RegionLaw
import Derived.Outline
namespace Go.Proofs.Ytcmnhnapnnpbdaa
open Go.RowKit
set_option linter.unusedVariables false
def tsI (b : Bool) (x : Int) : Int := if b then x else 0
def sw (a : A4) : A4 := (a.1, a.2.1, a.2.2.2, a.2.2.1)
def tsL (b : Bool) (L : List A4) : List A4 := if b then L.map sw else []
def tsE (b : Bool) (E : List Bool) : List Bool := if b then E else []
theorem tsL_len {b : Bool} {L : List A4} (h : L.length ≤ 1048576) : (tsL b L).length ≤ 1048576 := by unfold tsL; split <;> simp [h]
theorem tsE_len {b : Bool} {E : List Bool} (h : E.length ≤ 1048576) : (tsE b E).length ≤ 1048576 := by unfold tsE; split <;> simp [h]
/-- v is a Sided whose lists are no nil. -/
def SdS (w : World) (B : Nat) (v : Value) (S T : Int) (L : List A4) (E : List Bool) : Prop :=
  ∃ b2 o2 n2 c2 b3 o3 n3 c3, v = .agg #[.int .i64 S, .int .i64 T, .slice (some ⟨b2, o2, none⟩) n2 c2, .slice (some ⟨b3, o3, none⟩) n3 c3] ∧ SlA w B (some ⟨b2, o2, none⟩) n2 L ∧ SlB w B (some ⟨b3, o3, none⟩) n3 E
theorem SdS.below {w w' : World} {B B' : Nat} {v : Value} {S T : Int} {L : List A4} {E : List Bool} (h : SdS w B v S T L E) (hb : Below B' w w') (hB : B ≤ B') : SdS w' B v S T L E := by
  obtain ⟨b2, o2, n2, c2, b3, o3, n3, c3, e, h2, h3⟩ := h
  exact ⟨_, _, _, _, _, _, _, _, e, h2.below hb hB, h3.below hb hB⟩
theorem SdS.more {w : World} {B B' : Nat} {v : Value} {S T : Int} {L : List A4} {E : List Bool} (h : SdS w B v S T L E) (hB : B ≤ B') : SdS w B' v S T L E := by
  obtain ⟨b2, o2, n2, c2, b3, o3, n3, c3, e, h2, h3⟩ := h
  exact ⟨_, _, _, _, _, _, _, _, e, h2.more hB, h3.more hB⟩
theorem SdS.sd {w : World} {B : Nat} {v : Value} {S T : Int} {L : List A4} {E : List Bool} (h : SdS w B v S T L E) : Sd w B v S T L E := by
  obtain ⟨b2, o2, n2, c2, b3, o3, n3, c3, e, h2, h3⟩ := h
  exact ⟨_, _, _, _, _, _, e, h2, h3⟩
theorem SdR.cgs {w : World} {base : Nat} {v : Value} {S T : Int} {L : List A4} {E : List Bool} (h : SdR w base v S T L E) : SdS w w.heap.size v S T L E := by
  obtain ⟨g2, g3, e, _, _, h2, h3⟩ := h
  exact ⟨_, _, _, _, _, _, _, _, e, h2.slA, h3.slB⟩
set_option maxRecDepth 100000 in
set_option maxHeartbeats 8000000 in
theorem iTurn_any (v : Value) (S T : Int) (L : List A4) (E : List Bool) (w : World) (h : SdS w w.heap.size v S T L E) (hL : L.length ≤ 1048576) (hE : E.length ≤ 1048576) :
    Calls Try.prog 42 #[v] w fun e w' => ∃ v', e = .returned (.tuple #[v', .bool (vsB S T L E)]) ∧ SdW w' w.heap.size v' (tsI (vsB S T L E) S) (tsI (vsB S T L E) T) (tsL (vsB S T L E) L) (tsE (vsB S T L E) E) ∧ Below w.heap.size w w' := by
  have hsd := Lib.hid h.sd
  obtain ⟨b2, o2, n2, c2, b3, o3, n3, c3, rfl, h2, h3⟩ := h
  have e2 := h2.len; have e3 := h3.len
  subst e2 e3
  have H2 := Lib.hid h2; have H3 := Lib.hid h3
  clear h2 h3
  have rb := (Row.new w 51 [.int .i64 S, .int .i64 T, .slice (some ⟨b2, o2, none⟩) L.length c2, .slice (some ⟨b3, o3, none⟩) E.length c3]).alloc (.cells ([.int .i64 0, .int .i64 0, .slice none 0 0, .slice none 0 0] : List Value).toArray 51)
  have rr := Row.new (w.alloc (.cells ([.int .i64 S, .int .i64 T, .slice (some ⟨b2, o2, none⟩) L.length c2, .slice (some ⟨b3, o3, none⟩) E.length c3] : List Value).toArray 51)) 51 [.int .i64 0, .int .i64 0, .slice none 0 0, .slice none 0 0]
  rw [show (w.alloc (.cells ([.int .i64 S, .int .i64 T, .slice (some ⟨b2, o2, none⟩) L.length c2, .slice (some ⟨b3, o3, none⟩) E.length c3] : List Value).toArray 51)).heap.size = w.heap.size + 1 by simp] at rr
  have bx : Below w.heap.size w ((w.alloc (.cells ([.int .i64 S, .int .i64 T, .slice (some ⟨b2, o2, none⟩) L.length c2, .slice (some ⟨b3, o3, none⟩) E.length c3] : List Value).toArray 51)).alloc (.cells ([.int .i64 0, .int .i64 0, .slice none 0 0, .slice none 0 0] : List Value).toArray 51)) := ((Below.refl _ _).alloc (Nat.le_refl _) _).alloc (by simp) _
  have RB := Lib.hid rb; have RR := Lib.hid rr; have BX := Lib.hid bx; clear rb rr bx
  go_enter Try.func42, Try.ntmps42
  go_wp2_with fail
  obtain ⟨x0, hx0⟩ : ∃ x, x = (w.alloc (.cells ([.int .i64 S, .int .i64 T, .slice (some ⟨b2, o2, none⟩) L.length c2, .slice (some ⟨b3, o3, none⟩) E.length c3] : List Value).toArray 51)).alloc (.cells ([.int .i64 0, .int .i64 0, .slice none 0 0, .slice none 0 0] : List Value).toArray 51) := ⟨_, rfl⟩
  rw [← hx0] at RB RR BX
  change Calls _ _ _ ((w.alloc (.cells ([.int .i64 S, .int .i64 T, .slice (some ⟨b2, o2, none⟩) L.length c2, .slice (some ⟨b3, o3, none⟩) E.length c3] : List Value).toArray 51)).alloc (.cells ([.int .i64 0, .int .i64 0, .slice none 0 0, .slice none 0 0] : List Value).toArray 51)) _
  rw [← hx0]
  clear hx0
  refine (iValidSided_any _ S T L E x0 ((hsd.out.below BX.out (Nat.le_refl _)).more BX.out.size) (by omega) (by omega)).mono ?_
  rintro e w1 ⟨rfl, hb1⟩
  have BX1 := Lib.hid (BX.out.trans (hb1.mono BX.out.size))
  have RB1 := Lib.hid (RB.out.below hb1 RB.out.lt)
  have RR1 := Lib.hid (RR.out.below hb1 RR.out.lt)
  clear hb1
  obtain ⟨ok, hok⟩ : ∃ ok, ok = vsB S T L E := ⟨_, rfl⟩
  rw [← hok]
  have HOK := Lib.hid hok; clear hok
  cases ok with
  | false =>
    have r0 := RR1.out.cell 0; have r1 := RR1.out.cell 1; have r2 := RR1.out.cell 2; have r3 := RR1.out.cell 3
    have f0 := RR1.out.frozen 0; have f1 := RR1.out.frozen 1; have f2 := RR1.out.frozen 2; have f3 := RR1.out.frozen 3
    go_wp2_with fail
    clear r0 r1 r2 r3 f0 f1 f2 f3
    have hF := ((((RR1.out.set_ 0 (.int .i64 0)).set_ 1 (.int .i64 0)).set_ 2 (.slice none 0 0)).set_ 3 (.slice none 0 0))
    refine bodyPost_ret (results_cell2 rfl _ _ (w.heap.size + 1) 51 #[.int .i64 0, .int .i64 0, .slice none 0 0, .slice none 0 0] (0, 0) _ (.bool false) rfl rfl hF Try.underlying51 rfl (by kernel_rfl)) rfl ?_
    rw [← HOK.out]
    refine ⟨_, rfl, ⟨_, _, rfl, OwnV.nil _ _ _ _ _, OwnV.nil _ _ _ _ _, fun k hk => by simp [Value.ownBlock] at hk⟩, ?_⟩
    exact ((((BX1.out.setCell (p := ⟨w.heap.size + 1, 0, none⟩) (show w.heap.size ≤ w.heap.size + 1 by omega) _).setCell (p := ⟨w.heap.size + 1, 1, none⟩) (show w.heap.size ≤ w.heap.size + 1 by omega) _).setCell (p := ⟨w.heap.size + 1, 2, none⟩) (show w.heap.size ≤ w.heap.size + 1 by omega) _).setCell (p := ⟨w.heap.size + 1, 3, none⟩) (show w.heap.size ≤ w.heap.size + 1 by omega) _)
  | true =>
    go_wp2_with fail
    have HC := Lib.hid (fun (x : World) (hx : Below w1.heap.size w1 x) => iCloneB_any b3 o3 E.length c3 E x ((H3.out.below (BX1.out.trans (hx.mono BX1.out.size)) (Nat.le_refl _)).more (BX1.out.trans (hx.mono BX1.out.size)).size) (by omega))
    have hcells : ∀ x : World, Below w1.heap.size w1 x → (x.cell? ⟨w.heap.size, 0, none⟩ = some (.int .i64 S) ∧ x.cell? ⟨w.heap.size, 1, none⟩ = some (.int .i64 T) ∧ x.cell? ⟨w.heap.size, 3, none⟩ = some (.slice (some ⟨b3, o3, none⟩) E.length c3)) := by
      intro x hx
      have r := RB1.out.below hx RB1.out.lt
      exact ⟨r.cell 0, r.cell 1, r.cell 3⟩
    have hcells := Lib.hid hcells
    have hkeep : Hid (∀ x y : World, Below w1.heap.size w1 x → Below x.heap.size x y → (Below w1.heap.size w1 y ∧ y.cell? ⟨w.heap.size, 0, none⟩ = some (.int .i64 S) ∧ y.cell? ⟨w.heap.size, 1, none⟩ = some (.int .i64 T) ∧ y.cell? ⟨w.heap.size, 3, none⟩ = some (.slice (some ⟨b3, o3, none⟩) E.length c3))) := by
      intro x y h1 h2
      have h3 := h1.trans (h2.mono h1.size)
      exact ⟨h3, hcells.out y h3⟩
    have hkeepA : Hid (∀ (x : World) (o : Obj), Below w1.heap.size w1 x → (Below w1.heap.size w1 (x.alloc o) ∧ (x.alloc o).cell? ⟨w.heap.size, 0, none⟩ = some (.int .i64 S) ∧ (x.alloc o).cell? ⟨w.heap.size, 1, none⟩ = some (.int .i64 T) ∧ (x.alloc o).cell? ⟨w.heap.size, 3, none⟩ = some (.slice (some ⟨b3, o3, none⟩) E.length c3))) := by
      intro x o h1
      have h3 := h1.alloc h1.size o
      exact ⟨h3, hcells.out _ h3⟩
    have hkeepD : Hid (∀ (x : World) (o : Obj), Below w1.heap.size w1 x.drew → (Below w1.heap.size w1 ((x.alloc o).drew) ∧ ((x.alloc o).drew).cell? ⟨w.heap.size, 0, none⟩ = some (.int .i64 S) ∧ ((x.alloc o).drew).cell? ⟨w.heap.size, 1, none⟩ = some (.int .i64 T) ∧ ((x.alloc o).drew).cell? ⟨w.heap.size, 3, none⟩ = some (.slice (some ⟨b3, o3, none⟩) E.length c3))) := by
      intro x o h1
      have h3 : Below w1.heap.size w1 (x.alloc o).drew := (h1.alloc h1.size o)
      exact ⟨h3, hcells.out _ h3⟩
    have hkeepS0 : Hid (∀ (x : World) (u0 u1 u2 u3 : Value), Below w1.heap.size w1 x → (Below w1.heap.size w1 ((((x.setCell ⟨w1.heap.size, 0, none⟩ u0).setCell ⟨w1.heap.size, 1, none⟩ u1).setCell ⟨w1.heap.size, 2, none⟩ u2).setCell ⟨w1.heap.size, 3, none⟩ u3) ∧ ((((x.setCell ⟨w1.heap.size, 0, none⟩ u0).setCell ⟨w1.heap.size, 1, none⟩ u1).setCell ⟨w1.heap.size, 2, none⟩ u2).setCell ⟨w1.heap.size, 3, none⟩ u3).cell? ⟨w.heap.size, 0, none⟩ = some (.int .i64 S) ∧ ((((x.setCell ⟨w1.heap.size, 0, none⟩ u0).setCell ⟨w1.heap.size, 1, none⟩ u1).setCell ⟨w1.heap.size, 2, none⟩ u2).setCell ⟨w1.heap.size, 3, none⟩ u3).cell? ⟨w.heap.size, 1, none⟩ = some (.int .i64 T) ∧ ((((x.setCell ⟨w1.heap.size, 0, none⟩ u0).setCell ⟨w1.heap.size, 1, none⟩ u1).setCell ⟨w1.heap.size, 2, none⟩ u2).setCell ⟨w1.heap.size, 3, none⟩ u3).cell? ⟨w.heap.size, 3, none⟩ = some (.slice (some ⟨b3, o3, none⟩) E.length c3))) := by
      intro x u0 u1 u2 u3 h1
      have h3 := (((h1.setCell (p := ⟨w1.heap.size, 0, none⟩) (show w1.heap.size ≤ w1.heap.size by omega) u0).setCell (p := ⟨w1.heap.size, 1, none⟩) (show w1.heap.size ≤ w1.heap.size by omega) u1).setCell (p := ⟨w1.heap.size, 2, none⟩) (show w1.heap.size ≤ w1.heap.size by omega) u2).setCell (p := ⟨w1.heap.size, 3, none⟩) (show w1.heap.size ≤ w1.heap.size by omega) u3
      exact ⟨h3, hcells.out _ h3⟩
    have hfrom := hcells.out w1 (Below.refl _ _)
    have hdr : Below w1.heap.size w1 w1.drew := Below.drew (Below.refl _ _)
    go_region_held3 (fun x => Below w1.heap.size w1 x ∧ x.cell? ⟨w.heap.size, 0, none⟩ = some (.int .i64 S) ∧ x.cell? ⟨w.heap.size, 1, none⟩ = some (.int .i64 T) ∧ x.cell? ⟨w.heap.size, 3, none⟩ = some (.slice (some ⟨b3, o3, none⟩) E.length c3)) (first | assumption | (exact hkeepA.out _ _ (by first | assumption | (apply And.left; assumption))) | (exact hkeepD.out _ _ (by first | assumption | (apply And.left; assumption))) | (exact hkeepS0.out _ _ _ _ _ (by first | assumption | (apply And.left; assumption))) | go_keep)
      (first
        | (go_at_call 77; refine (HC.out _ (by first | assumption | (apply And.left; assumption))).mono ?_; rintro e wz ⟨AE, cE, rfl, hvE, hbz⟩; have hkz := (fun h => hkeep.out _ _ h hbz) (by first | assumption | (apply And.left; assumption)); have HvE := Lib.hid hvE; clear hvE; (try (have hz := Row.below (Row.drew (Row.new w1 51 [.int .i64 0, .int .i64 0, .slice none 0 0, .slice none 0 0])) hbz (by simp); have z0 := hz.cell 0; have z1 := hz.cell 1; have z2 := hz.cell 2; have z3 := hz.cell 3; have y0 := hz.frozen 0; have y1 := hz.frozen 1; have y2 := hz.frozen 2; have y3 := hz.frozen 3; have HZ := Lib.hid hz; clear hz))))
    · have hbw := hkz.1
      have R4 := Row.new wz 51 [.int .i64 S, .int .i64 T, .slice none 0 0, .slice AE E.length cE]
      have B3 : Below w1.heap.size w1 (wz.alloc (.cells ([.int .i64 S, .int .i64 T, .slice none 0 0, .slice AE E.length cE] : List Value).toArray 51)) := hbw.alloc hbw.size _
      have OE : (wz.alloc (.cells ([.int .i64 S, .int .i64 T, .slice none 0 0, .slice AE E.length cE] : List Value).toArray 51)).ownsRow w1.heap.size 4 1 (.slice AE E.length cE) E.length (bv E) := HvE.out.alloc _
      have DE : ∀ k, (Value.slice AE E.length cE).ownBlock = some k → k ≠ wz.heap.size := fun k hk => Nat.ne_of_lt (HvE.out.lt k hk).2
      have HBW := Lib.hid hbw
      clear hkz hfrom hdr hkeep hkeepA hkeepD hkeepS0 hcells hbw
      try clear z0 z1 z2 z3 y0 y1 y2 y3
      obtain ⟨g4, hg4⟩ : ∃ g, g = wz.heap.size := ⟨_, rfl⟩
      obtain ⟨x3, hx3⟩ : ∃ x, x = (wz.alloc (.cells ([.int .i64 S, .int .i64 T, .slice none 0 0, .slice AE E.length cE] : List Value).toArray 51)) := ⟨_, rfl⟩
      have G1 : w1.heap.size ≤ g4 := by rw [hg4]; exact hbz.size
      have G1 := Lib.hid G1
      rw [← hx3] at R4 B3 OE ⊢
      rw [← hg4] at R4 DE ⊢
      clear hx3 hg4 hbz HvE HBW
      try clear HZ
      have R4 := Lib.hid R4; have B3 := Lib.hid B3; have OE := Lib.hid OE; have DE := Lib.hid DE
      have RB3 := Lib.hid (RB1.out.below B3.out RB1.out.lt)
      have RR3 := Lib.hid (RR1.out.below B3.out RR1.out.lt)
      have BX3 := Lib.hid (BX1.out.trans (B3.out.mono BX1.out.size))
      have SZ : Hid (w.heap.size + 2 ≤ w1.heap.size ∧ w1.heap.size ≤ x3.heap.size ∧ g4 < x3.heap.size) := ⟨by have := RR1.out.lt; omega, B3.out.size, R4.out.lt⟩
      have kb := RB3.out.cell 2
      go_wp2_with fail
      clear kb
      go_loopg [6, 22] L.length (fun m u0 i wr => ∃ (k : Nat) (A : Option Addr) (c : Nat), i = .int .i64 k ∧ k ≤ L.length ∧ L.length ≤ m + k ∧ Hid (wr.ownsRow x3.heap.size 81 4 (.slice A k c) k (fa ((L.take k).map sw))) ∧ Hid (Row wr g4 51 [.int .i64 S, .int .i64 T, .slice A k c, .slice AE E.length cE]) ∧ Hid (Lo x3.heap.size g4 x3 wr))
      case atStart => exact ⟨0, none, 0, rfl, by omega, by omega, World.ownsRow_nil _ _ _ _, R4.out, Lo.refl _ _ _⟩
      case round =>
        obtain ⟨k, A, c, rfl, hk, hm, HO, HR, HL⟩ := hrel
        have hBr : Below w1.heap.size x3 wr := HL.out.bel SZ.out.2.1 G1.out
        have hBw := Lib.hid (BX3.out.trans (hBr.mono (by have := SZ.out; omega)))
        have hls := Lib.hid (show x3.heap.size ≤ wr.heap.size from HL.out.2.2.2.1)
        clear hBr
        by_cases hlt : k < L.length
        · have HAT := (H2.out.below hBw.out (Nat.le_refl _)).at_ hlt
          obtain ⟨b, off, a0, a1, a2, a3, hA, hbB, hx, k0, k1, k2, k3⟩ := HAT
          cases hA
          have l0 : (0 : Int) ≤ (k : Int) := by omega
          have l1 : (k : Int) < (L.length : Int) := by omega
          have HX : Hid ((L.take (k + 1)).map sw = (L.take k).map sw ++ [(a0, a1, a3, a2)]) := by
            obtain ⟨hk', e⟩ := List.getElem?_eq_some_iff.1 hx.out
            show _ = _
            rw [List.take_succ_eq_append_getElem hk', List.map_append, e]; rfl
          have RA := HR.out.alloc (.cells ([.int .i64 a0, .int .i64 a1, .int .i64 a2, .int .i64 a3] : List Value).toArray 81)
          have r2 := RA.cell 2
          have hbs : x3.heap.size ≤ (wr.alloc (.cells ([.int .i64 a0, .int .i64 a1, .int .i64 a2, .int .i64 a3] : List Value).toArray 81)).heap.size := by have := hls.out; simp; omega
          have HBS := Lib.hid hbs; clear hbs
          have HRA := Lib.hid RA; clear RA
          have NE : Hid (∀ k', (Value.slice A k c).ownBlock = some k' → x3.heap.size ≤ k') := fun k' hk' => (HO.out.lt k' hk').1
          go_wp2_with (first | (at_builtin; refine wpList_one_push (wr.alloc (.cells ([.int .i64 a0, .int .i64 a1, .int .i64 a2, .int .i64 a3] : List Value).toArray 81)) rfl (.tmp 27) (.tmp 37) _ rfl x3.heap.size 81 (.agg #[.int .i64 0, .int .i64 0, .int .i64 0, .int .i64 0]) 4 32 Try.underlying49 infoPA rfl (by omega) (by omega) _ k _ rfl (HO.out.alloc _) [.int .i64 a0, .int .i64 a1, .int .i64 a3, .int .i64 a2] rfl (fa_one [(a0, a1, a3, a2)]) (wr.heap.size + 1) (by simp) rfl (by omega) HBS.out ?_; intro v' w' hown hgr hat; obtain ⟨A', c', hv', _, _⟩ := own_form hown; subst hv'; have HG := Lib.hid hgr; have HOW := Lib.hid hown; have HT := Lib.hid hat; clear hgr hown hat; have RG := Lib.hid (HRA.out.grown HG.out (fun e => by have := NE.out _ e.symm; have := SZ.out; omega)); have j2 := RG.out.cell 2; have f2 := RG.out.frozen 2))
          clear j2 f2 r2 k0 k1 k2 k3
          have HOW2 : Hid (w'.ownsRow x3.heap.size 81 4 (.slice A' (k + 1) c') (k + 1) (fa ((L.take (k + 1)).map sw))) := by
            show World.ownsRow _ _ _ _ _ _ _
            rw [HX.out, fa_append]; exact HOW.out
          go_roundg (gk - 1)
          case measure => omega
          case rel =>
            refine ⟨k + 1, A', c', by go_num, by omega, by omega, ?_, RG.out.set_ 2 _, ?_⟩
            · exact own_move HOW2.out (fun g hg => Below.heap_setCell _ _ _ _ (by have := (HOW2.out.lt g hg).1; have := SZ.out; show g ≠ g4; omega))
            · exact ((HL.out.trans (Lo.alloc _ _ _ _ hls.out)).trans (Lo.grown HG.out (fun k' hk' => NE.out k' hk') HBS.out)).trans (Lo.set _ _ _ _ _)
        · obtain rfl : k = L.length := by omega
          have r0 := HR.out.cell 0; have r1 := HR.out.cell 1; have r2 := HR.out.cell 2; have r3 := HR.out.cell 3
          have RRr := Lib.hid (HL.out.row RR3.out (by have := SZ.out; omega) (by have := SZ.out; have := G1.out; omega))
          have y0 := RRr.out.cell 0; have y1 := RRr.out.cell 1; have y2 := RRr.out.cell 2; have y3 := RRr.out.cell 3
          have f0 := RRr.out.frozen 0; have f1 := RRr.out.frozen 1; have f2 := RRr.out.frozen 2; have f3 := RRr.out.frozen 3
          go_wp2_with fail
          clear r0 r1 r2 r3 y0 y1 y2 y3 f0 f1 f2 f3
          have hF := ((((RRr.out.set_ 0 (.int .i64 S)).set_ 1 (.int .i64 T)).set_ 2 (.slice A L.length c)).set_ 3 (.slice AE E.length cE))
          have hFb := ((((hBw.out.setCell (p := ⟨w.heap.size + 1, 0, none⟩) (show w.heap.size ≤ w.heap.size + 1 by omega) (.int .i64 S)).setCell (p := ⟨w.heap.size + 1, 1, none⟩) (show w.heap.size ≤ w.heap.size + 1 by omega) (.int .i64 T)).setCell (p := ⟨w.heap.size + 1, 2, none⟩) (show w.heap.size ≤ w.heap.size + 1 by omega) (.slice A L.length c)).setCell (p := ⟨w.heap.size + 1, 3, none⟩) (show w.heap.size ≤ w.heap.size + 1 by omega) (.slice AE E.length cE))
          refine bodyPost_ret (results_cell2 rfl _ _ (w.heap.size + 1) 51 #[.int .i64 S, .int .i64 T, .slice A L.length c, .slice AE E.length cE] (0, 0) _ (.bool true) rfl rfl hF Try.underlying51 rfl (by kernel_rfl)) rfl ?_
          rw [← HOK.out]
          have OA := HO.out
          rw [List.take_length] at OA
          have OA2 := OwnV.of (own_move (World.ownsRow.mono OA (show w.heap.size ≤ x3.heap.size by have := SZ.out; omega)) (fun g hg => by have hne : g ≠ w.heap.size + 1 := (by have := (OA.lt g hg).1; have := SZ.out; omega); exact heap_set4 (.int .i64 S) (.int .i64 T) (.slice A L.length c) (.slice AE E.length cE) hne))
          have OE1 := own_move OE.out (fun g hg => HL.out.2.2.2.2 g (OE.out.lt g hg).2 (DE.out g hg))
          have OE2 := OwnV.of (own_move (World.ownsRow.mono OE1 (show w.heap.size ≤ w1.heap.size by have := SZ.out; omega)) (fun g hg => by have hne : g ≠ w.heap.size + 1 := (by have := (OE.out.lt g hg).1; have := SZ.out; omega); exact heap_set4 (.int .i64 S) (.int .i64 T) (.slice A L.length c) (.slice AE E.length cE) hne))
          refine ⟨_, rfl, ⟨_, _, rfl, ?_, OE2, fun k hk hk2 => ?_⟩, hFb⟩
          · have el : (tsL true L).length = L.length := by simp [tsL]
            rw [el]; exact OA2
          · have h1 := (OA.lt k hk).1
            have h2 := (OE.out.lt k hk2).2
            omega
    · have hbw := hkz.1
      have R4 : Row ((((wz.setCell ⟨w1.heap.size, 0, none⟩ (.int .i64 S)).setCell ⟨w1.heap.size, 1, none⟩ (.int .i64 T)).setCell ⟨w1.heap.size, 2, none⟩ (.slice none 0 0)).setCell ⟨w1.heap.size, 3, none⟩ (.slice AE E.length cE)) w1.heap.size 51 [.int .i64 S, .int .i64 T, .slice none 0 0, .slice AE E.length cE] := ((((HZ.out.set_ 0 _).set_ 1 _).set_ 2 _).set_ 3 _)
      have B3 : Below w1.heap.size w1 ((((wz.setCell ⟨w1.heap.size, 0, none⟩ (.int .i64 S)).setCell ⟨w1.heap.size, 1, none⟩ (.int .i64 T)).setCell ⟨w1.heap.size, 2, none⟩ (.slice none 0 0)).setCell ⟨w1.heap.size, 3, none⟩ (.slice AE E.length cE)) := (hkeepS0.out wz _ _ _ _ hbw).1
      have DE : ∀ k, (Value.slice AE E.length cE).ownBlock = some k → k ≠ w1.heap.size := fun k hk => by have := (HvE.out.lt k hk).1; simp at this; omega
      have OE : ((((wz.setCell ⟨w1.heap.size, 0, none⟩ (.int .i64 S)).setCell ⟨w1.heap.size, 1, none⟩ (.int .i64 T)).setCell ⟨w1.heap.size, 2, none⟩ (.slice none 0 0)).setCell ⟨w1.heap.size, 3, none⟩ (.slice AE E.length cE)).ownsRow w1.heap.size 4 1 (.slice AE E.length cE) E.length (bv E) := own_move (World.ownsRow.mono HvE.out (show w1.heap.size ≤ _ by simp)) (fun g hg => by have hne := DE g hg; exact heap_set4 _ _ _ _ hne)
      have HBW := Lib.hid hbw
      clear hkz hfrom hdr hkeep hkeepA hkeepD hkeepS0 hcells hbw
      try clear z0 z1 z2 z3 y0 y1 y2 y3
      obtain ⟨g4, hg4⟩ : ∃ g, g = w1.heap.size := ⟨_, rfl⟩
      obtain ⟨x3, hx3⟩ : ∃ x, x = ((((wz.setCell ⟨w1.heap.size, 0, none⟩ (.int .i64 S)).setCell ⟨w1.heap.size, 1, none⟩ (.int .i64 T)).setCell ⟨w1.heap.size, 2, none⟩ (.slice none 0 0)).setCell ⟨w1.heap.size, 3, none⟩ (.slice AE E.length cE)) := ⟨_, rfl⟩
      have G1 : w1.heap.size ≤ g4 := by rw [hg4]; exact Nat.le_refl _
      have G1 := Lib.hid G1
      rw [← hx3] at R4 B3 OE ⊢
      rw [← hg4] at R4 DE ⊢
      clear hx3 hg4 hbz HvE HBW
      try clear HZ
      have R4 := Lib.hid R4; have B3 := Lib.hid B3; have OE := Lib.hid OE; have DE := Lib.hid DE
      have RB3 := Lib.hid (RB1.out.below B3.out RB1.out.lt)
      have RR3 := Lib.hid (RR1.out.below B3.out RR1.out.lt)
      have BX3 := Lib.hid (BX1.out.trans (B3.out.mono BX1.out.size))
      have SZ : Hid (w.heap.size + 2 ≤ w1.heap.size ∧ w1.heap.size ≤ x3.heap.size ∧ g4 < x3.heap.size) := ⟨by have := RR1.out.lt; omega, B3.out.size, R4.out.lt⟩
      have kb := RB3.out.cell 2
      go_wp2_with fail
      clear kb
      go_loopg [6, 22] L.length (fun m u0 i wr => ∃ (k : Nat) (A : Option Addr) (c : Nat), i = .int .i64 k ∧ k ≤ L.length ∧ L.length ≤ m + k ∧ Hid (wr.ownsRow x3.heap.size 81 4 (.slice A k c) k (fa ((L.take k).map sw))) ∧ Hid (Row wr g4 51 [.int .i64 S, .int .i64 T, .slice A k c, .slice AE E.length cE]) ∧ Hid (Lo x3.heap.size g4 x3 wr))
      case atStart => exact ⟨0, none, 0, rfl, by omega, by omega, World.ownsRow_nil _ _ _ _, R4.out, Lo.refl _ _ _⟩
      case round =>
        obtain ⟨k, A, c, rfl, hk, hm, HO, HR, HL⟩ := hrel
        have hBr : Below w1.heap.size x3 wr := HL.out.bel SZ.out.2.1 G1.out
        have hBw := Lib.hid (BX3.out.trans (hBr.mono (by have := SZ.out; omega)))
        have hls := Lib.hid (show x3.heap.size ≤ wr.heap.size from HL.out.2.2.2.1)
        clear hBr
        by_cases hlt : k < L.length
        · have HAT := (H2.out.below hBw.out (Nat.le_refl _)).at_ hlt
          obtain ⟨b, off, a0, a1, a2, a3, hA, hbB, hx, k0, k1, k2, k3⟩ := HAT
          cases hA
          have l0 : (0 : Int) ≤ (k : Int) := by omega
          have l1 : (k : Int) < (L.length : Int) := by omega
          have HX : Hid ((L.take (k + 1)).map sw = (L.take k).map sw ++ [(a0, a1, a3, a2)]) := by
            obtain ⟨hk', e⟩ := List.getElem?_eq_some_iff.1 hx.out
            show _ = _
            rw [List.take_succ_eq_append_getElem hk', List.map_append, e]; rfl
          have RA := HR.out.alloc (.cells ([.int .i64 a0, .int .i64 a1, .int .i64 a2, .int .i64 a3] : List Value).toArray 81)
          have r2 := RA.cell 2
          have hbs : x3.heap.size ≤ (wr.alloc (.cells ([.int .i64 a0, .int .i64 a1, .int .i64 a2, .int .i64 a3] : List Value).toArray 81)).heap.size := by have := hls.out; simp; omega
          have HBS := Lib.hid hbs; clear hbs
          have HRA := Lib.hid RA; clear RA
          have NE : Hid (∀ k', (Value.slice A k c).ownBlock = some k' → x3.heap.size ≤ k') := fun k' hk' => (HO.out.lt k' hk').1
          go_wp2_with (first | (at_builtin; refine wpList_one_push (wr.alloc (.cells ([.int .i64 a0, .int .i64 a1, .int .i64 a2, .int .i64 a3] : List Value).toArray 81)) rfl (.tmp 27) (.tmp 37) _ rfl x3.heap.size 81 (.agg #[.int .i64 0, .int .i64 0, .int .i64 0, .int .i64 0]) 4 32 Try.underlying49 infoPA rfl (by omega) (by omega) _ k _ rfl (HO.out.alloc _) [.int .i64 a0, .int .i64 a1, .int .i64 a3, .int .i64 a2] rfl (fa_one [(a0, a1, a3, a2)]) (wr.heap.size + 1) (by simp) rfl (by omega) HBS.out ?_; intro v' w' hown hgr hat; obtain ⟨A', c', hv', _, _⟩ := own_form hown; subst hv'; have HG := Lib.hid hgr; have HOW := Lib.hid hown; have HT := Lib.hid hat; clear hgr hown hat; have RG := Lib.hid (HRA.out.grown HG.out (fun e => by have := NE.out _ e.symm; have := SZ.out; omega)); have j2 := RG.out.cell 2; have f2 := RG.out.frozen 2))
          clear j2 f2 r2 k0 k1 k2 k3
          have HOW2 : Hid (w'.ownsRow x3.heap.size 81 4 (.slice A' (k + 1) c') (k + 1) (fa ((L.take (k + 1)).map sw))) := by
            show World.ownsRow _ _ _ _ _ _ _
            rw [HX.out, fa_append]; exact HOW.out
          go_roundg (gk - 1)
          case measure => omega
          case rel =>
            refine ⟨k + 1, A', c', by go_num, by omega, by omega, ?_, RG.out.set_ 2 _, ?_⟩
            · exact own_move HOW2.out (fun g hg => Below.heap_setCell _ _ _ _ (by have := (HOW2.out.lt g hg).1; have := SZ.out; show g ≠ g4; omega))
            · exact ((HL.out.trans (Lo.alloc _ _ _ _ hls.out)).trans (Lo.grown HG.out (fun k' hk' => NE.out k' hk') HBS.out)).trans (Lo.set _ _ _ _ _)
        · obtain rfl : k = L.length := by omega
          have r0 := HR.out.cell 0; have r1 := HR.out.cell 1; have r2 := HR.out.cell 2; have r3 := HR.out.cell 3
          have RRr := Lib.hid (HL.out.row RR3.out (by have := SZ.out; omega) (by have := SZ.out; have := G1.out; omega))
          have y0 := RRr.out.cell 0; have y1 := RRr.out.cell 1; have y2 := RRr.out.cell 2; have y3 := RRr.out.cell 3
          have f0 := RRr.out.frozen 0; have f1 := RRr.out.frozen 1; have f2 := RRr.out.frozen 2; have f3 := RRr.out.frozen 3
          go_wp2_with fail
          clear r0 r1 r2 r3 y0 y1 y2 y3 f0 f1 f2 f3
          have hF := ((((RRr.out.set_ 0 (.int .i64 S)).set_ 1 (.int .i64 T)).set_ 2 (.slice A L.length c)).set_ 3 (.slice AE E.length cE))
          have hFb := ((((hBw.out.setCell (p := ⟨w.heap.size + 1, 0, none⟩) (show w.heap.size ≤ w.heap.size + 1 by omega) (.int .i64 S)).setCell (p := ⟨w.heap.size + 1, 1, none⟩) (show w.heap.size ≤ w.heap.size + 1 by omega) (.int .i64 T)).setCell (p := ⟨w.heap.size + 1, 2, none⟩) (show w.heap.size ≤ w.heap.size + 1 by omega) (.slice A L.length c)).setCell (p := ⟨w.heap.size + 1, 3, none⟩) (show w.heap.size ≤ w.heap.size + 1 by omega) (.slice AE E.length cE))
          refine bodyPost_ret (results_cell2 rfl _ _ (w.heap.size + 1) 51 #[.int .i64 S, .int .i64 T, .slice A L.length c, .slice AE E.length cE] (0, 0) _ (.bool true) rfl rfl hF Try.underlying51 rfl (by kernel_rfl)) rfl ?_
          rw [← HOK.out]
          have OA := HO.out
          rw [List.take_length] at OA
          have OA2 := OwnV.of (own_move (World.ownsRow.mono OA (show w.heap.size ≤ x3.heap.size by have := SZ.out; omega)) (fun g hg => by have hne : g ≠ w.heap.size + 1 := (by have := (OA.lt g hg).1; have := SZ.out; omega); exact heap_set4 (.int .i64 S) (.int .i64 T) (.slice A L.length c) (.slice AE E.length cE) hne))
          have OE1 := own_move OE.out (fun g hg => HL.out.2.2.2.2 g (OE.out.lt g hg).2 (DE.out g hg))
          have OE2 := OwnV.of (own_move (World.ownsRow.mono OE1 (show w.heap.size ≤ w1.heap.size by have := SZ.out; omega)) (fun g hg => by have hne : g ≠ w.heap.size + 1 := (by have := (OE.out.lt g hg).1; have := SZ.out; omega); exact heap_set4 (.int .i64 S) (.int .i64 T) (.slice A L.length c) (.slice AE E.length cE) hne))
          refine ⟨_, rfl, ⟨_, _, rfl, ?_, OE2, fun k hk hk2 => ?_⟩, hFb⟩
          · have el : (tsL true L).length = L.length := by simp [tsL]
            rw [el]; exact OA2
          · have h1 := (OA.lt k hk).1
            have h2 := (OE.out.lt k hk2).2
            omega
set_option maxRecDepth 100000 in
set_option maxHeartbeats 8000000 in
theorem sTurn_any (v : Value) (S T : Int) (L : List A4) (E : List Bool) (w : World) (h : SdS w w.heap.size v S T L E) (hL : L.length ≤ 1048576) (hE : E.length ≤ 1048576) :
    Calls Try.prog 41 #[v] w fun e w' => ∃ v', e = .returned (.tuple #[v', .bool (vsB S T L E)]) ∧ SdW w' w.heap.size v' (tsI (vsB S T L E) S) (tsI (vsB S T L E) T) (tsL (vsB S T L E) L) (tsE (vsB S T L E) E) ∧ Below w.heap.size w w' := by
  have hsd := Lib.hid h.sd
  obtain ⟨b2, o2, n2, c2, b3, o3, n3, c3, rfl, h2, h3⟩ := h
  have e2 := h2.len; have e3 := h3.len
  subst e2 e3
  have H2 := Lib.hid h2; have H3 := Lib.hid h3
  clear h2 h3
  have rb := (Row.new w 51 [.int .i64 S, .int .i64 T, .slice (some ⟨b2, o2, none⟩) L.length c2, .slice (some ⟨b3, o3, none⟩) E.length c3]).alloc (.cells ([.int .i64 0, .int .i64 0, .slice none 0 0, .slice none 0 0] : List Value).toArray 51)
  have rr := Row.new (w.alloc (.cells ([.int .i64 S, .int .i64 T, .slice (some ⟨b2, o2, none⟩) L.length c2, .slice (some ⟨b3, o3, none⟩) E.length c3] : List Value).toArray 51)) 51 [.int .i64 0, .int .i64 0, .slice none 0 0, .slice none 0 0]
  rw [show (w.alloc (.cells ([.int .i64 S, .int .i64 T, .slice (some ⟨b2, o2, none⟩) L.length c2, .slice (some ⟨b3, o3, none⟩) E.length c3] : List Value).toArray 51)).heap.size = w.heap.size + 1 by simp] at rr
  have bx : Below w.heap.size w ((w.alloc (.cells ([.int .i64 S, .int .i64 T, .slice (some ⟨b2, o2, none⟩) L.length c2, .slice (some ⟨b3, o3, none⟩) E.length c3] : List Value).toArray 51)).alloc (.cells ([.int .i64 0, .int .i64 0, .slice none 0 0, .slice none 0 0] : List Value).toArray 51)) := ((Below.refl _ _).alloc (Nat.le_refl _) _).alloc (by simp) _
  have RB := Lib.hid rb; have RR := Lib.hid rr; have BX := Lib.hid bx; clear rb rr bx
  go_enter Try.func41, Try.ntmps41
  go_wp2_with fail
  obtain ⟨x0, hx0⟩ : ∃ x, x = (w.alloc (.cells ([.int .i64 S, .int .i64 T, .slice (some ⟨b2, o2, none⟩) L.length c2, .slice (some ⟨b3, o3, none⟩) E.length c3] : List Value).toArray 51)).alloc (.cells ([.int .i64 0, .int .i64 0, .slice none 0 0, .slice none 0 0] : List Value).toArray 51) := ⟨_, rfl⟩
  rw [← hx0] at RB RR BX
  change Calls _ _ _ ((w.alloc (.cells ([.int .i64 S, .int .i64 T, .slice (some ⟨b2, o2, none⟩) L.length c2, .slice (some ⟨b3, o3, none⟩) E.length c3] : List Value).toArray 51)).alloc (.cells ([.int .i64 0, .int .i64 0, .slice none 0 0, .slice none 0 0] : List Value).toArray 51)) _
  rw [← hx0]
  clear hx0
  refine (sSided_any w.heap.size S T L E _ _ _ _ _ _ w.heap.size x0 RB.out (H2.out.below BX.out (Nat.le_refl _)) rfl (by omega) (by omega)).mono ?_
  rintro e w1 ⟨rfl, q, hq⟩
  have hb1 : Below x0.heap.size x0 w1 := by rw [hq]; exact below_draws (Below.refl _ _) _
  clear hq
  have BX1 := Lib.hid (BX.out.trans (hb1.mono BX.out.size))
  have RB1 := Lib.hid (RB.out.below hb1 RB.out.lt)
  have RR1 := Lib.hid (RR.out.below hb1 RR.out.lt)
  clear hb1
  obtain ⟨ok, hok⟩ : ∃ ok, ok = vsB S T L E := ⟨_, rfl⟩
  rw [← hok]
  have HOK := Lib.hid hok; clear hok
  cases ok with
  | false =>
    have r0 := RR1.out.cell 0; have r1 := RR1.out.cell 1; have r2 := RR1.out.cell 2; have r3 := RR1.out.cell 3
    have f0 := RR1.out.frozen 0; have f1 := RR1.out.frozen 1; have f2 := RR1.out.frozen 2; have f3 := RR1.out.frozen 3
    go_wp2_with fail
    clear r0 r1 r2 r3 f0 f1 f2 f3
    have hF := ((((RR1.out.set_ 0 (.int .i64 0)).set_ 1 (.int .i64 0)).set_ 2 (.slice none 0 0)).set_ 3 (.slice none 0 0))
    refine bodyPost_ret (results_cell2 rfl _ _ (w.heap.size + 1) 51 #[.int .i64 0, .int .i64 0, .slice none 0 0, .slice none 0 0] (0, 0) _ (.bool false) rfl rfl hF Try.underlying51 rfl (by kernel_rfl)) rfl ?_
    rw [← HOK.out]
    refine ⟨_, rfl, ⟨_, _, rfl, OwnV.nil _ _ _ _ _, OwnV.nil _ _ _ _ _, fun k hk => by simp [Value.ownBlock] at hk⟩, ?_⟩
    exact ((((BX1.out.setCell (p := ⟨w.heap.size + 1, 0, none⟩) (show w.heap.size ≤ w.heap.size + 1 by omega) _).setCell (p := ⟨w.heap.size + 1, 1, none⟩) (show w.heap.size ≤ w.heap.size + 1 by omega) _).setCell (p := ⟨w.heap.size + 1, 2, none⟩) (show w.heap.size ≤ w.heap.size + 1 by omega) _).setCell (p := ⟨w.heap.size + 1, 3, none⟩) (show w.heap.size ≤ w.heap.size + 1 by omega) _)
  | true =>
    go_wp2_with fail
    have HC := Lib.hid (fun (x : World) (hx : Below w1.heap.size w1 x) => SlV.cells (SlB.below H3.out (BX1.out.trans (hx.mono BX1.out.size)) (Nat.le_refl _)))
    have hcells : ∀ x : World, Below w1.heap.size w1 x → (x.cell? ⟨w.heap.size, 0, none⟩ = some (.int .i64 S) ∧ x.cell? ⟨w.heap.size, 1, none⟩ = some (.int .i64 T) ∧ x.cell? ⟨w.heap.size, 3, none⟩ = some (.slice (some ⟨b3, o3, none⟩) E.length c3)) := by
      intro x hx
      have r := RB1.out.below hx RB1.out.lt
      exact ⟨r.cell 0, r.cell 1, r.cell 3⟩
    have hcells := Lib.hid hcells
    have hkeep : Hid (∀ x y : World, Below w1.heap.size w1 x → Below x.heap.size x y → (Below w1.heap.size w1 y ∧ y.cell? ⟨w.heap.size, 0, none⟩ = some (.int .i64 S) ∧ y.cell? ⟨w.heap.size, 1, none⟩ = some (.int .i64 T) ∧ y.cell? ⟨w.heap.size, 3, none⟩ = some (.slice (some ⟨b3, o3, none⟩) E.length c3))) := by
      intro x y h1 h2
      have h3 := h1.trans (h2.mono h1.size)
      exact ⟨h3, hcells.out y h3⟩
    have hkeepA : Hid (∀ (x : World) (o : Obj), Below w1.heap.size w1 x → (Below w1.heap.size w1 (x.alloc o) ∧ (x.alloc o).cell? ⟨w.heap.size, 0, none⟩ = some (.int .i64 S) ∧ (x.alloc o).cell? ⟨w.heap.size, 1, none⟩ = some (.int .i64 T) ∧ (x.alloc o).cell? ⟨w.heap.size, 3, none⟩ = some (.slice (some ⟨b3, o3, none⟩) E.length c3))) := by
      intro x o h1
      have h3 := h1.alloc h1.size o
      exact ⟨h3, hcells.out _ h3⟩
    have hkeepD : Hid (∀ (x : World) (o : Obj), Below w1.heap.size w1 x.drew → (Below w1.heap.size w1 ((x.alloc o).drew) ∧ ((x.alloc o).drew).cell? ⟨w.heap.size, 0, none⟩ = some (.int .i64 S) ∧ ((x.alloc o).drew).cell? ⟨w.heap.size, 1, none⟩ = some (.int .i64 T) ∧ ((x.alloc o).drew).cell? ⟨w.heap.size, 3, none⟩ = some (.slice (some ⟨b3, o3, none⟩) E.length c3))) := by
      intro x o h1
      have h3 : Below w1.heap.size w1 (x.alloc o).drew := (h1.alloc h1.size o)
      exact ⟨h3, hcells.out _ h3⟩
    have hkeepS0 : Hid (∀ (x : World) (u0 u1 u2 u3 : Value), Below w1.heap.size w1 x → (Below w1.heap.size w1 ((((x.setCell ⟨w1.heap.size, 0, none⟩ u0).setCell ⟨w1.heap.size, 1, none⟩ u1).setCell ⟨w1.heap.size, 2, none⟩ u2).setCell ⟨w1.heap.size, 3, none⟩ u3) ∧ ((((x.setCell ⟨w1.heap.size, 0, none⟩ u0).setCell ⟨w1.heap.size, 1, none⟩ u1).setCell ⟨w1.heap.size, 2, none⟩ u2).setCell ⟨w1.heap.size, 3, none⟩ u3).cell? ⟨w.heap.size, 0, none⟩ = some (.int .i64 S) ∧ ((((x.setCell ⟨w1.heap.size, 0, none⟩ u0).setCell ⟨w1.heap.size, 1, none⟩ u1).setCell ⟨w1.heap.size, 2, none⟩ u2).setCell ⟨w1.heap.size, 3, none⟩ u3).cell? ⟨w.heap.size, 1, none⟩ = some (.int .i64 T) ∧ ((((x.setCell ⟨w1.heap.size, 0, none⟩ u0).setCell ⟨w1.heap.size, 1, none⟩ u1).setCell ⟨w1.heap.size, 2, none⟩ u2).setCell ⟨w1.heap.size, 3, none⟩ u3).cell? ⟨w.heap.size, 3, none⟩ = some (.slice (some ⟨b3, o3, none⟩) E.length c3))) := by
      intro x u0 u1 u2 u3 h1
      have h3 := (((h1.setCell (p := ⟨w1.heap.size, 0, none⟩) (show w1.heap.size ≤ w1.heap.size by omega) u0).setCell (p := ⟨w1.heap.size, 1, none⟩) (show w1.heap.size ≤ w1.heap.size by omega) u1).setCell (p := ⟨w1.heap.size, 2, none⟩) (show w1.heap.size ≤ w1.heap.size by omega) u2).setCell (p := ⟨w1.heap.size, 3, none⟩) (show w1.heap.size ≤ w1.heap.size by omega) u3
      exact ⟨h3, hcells.out _ h3⟩
    have hkeepS1 : Hid (∀ (x : World) (u0 u1 u2 u3 : Value), Below w1.heap.size w1 x → (Below w1.heap.size w1 ((((x.setCell ⟨(w1.heap.size + 1), 0, none⟩ u0).setCell ⟨(w1.heap.size + 1), 1, none⟩ u1).setCell ⟨(w1.heap.size + 1), 2, none⟩ u2).setCell ⟨(w1.heap.size + 1), 3, none⟩ u3) ∧ ((((x.setCell ⟨(w1.heap.size + 1), 0, none⟩ u0).setCell ⟨(w1.heap.size + 1), 1, none⟩ u1).setCell ⟨(w1.heap.size + 1), 2, none⟩ u2).setCell ⟨(w1.heap.size + 1), 3, none⟩ u3).cell? ⟨w.heap.size, 0, none⟩ = some (.int .i64 S) ∧ ((((x.setCell ⟨(w1.heap.size + 1), 0, none⟩ u0).setCell ⟨(w1.heap.size + 1), 1, none⟩ u1).setCell ⟨(w1.heap.size + 1), 2, none⟩ u2).setCell ⟨(w1.heap.size + 1), 3, none⟩ u3).cell? ⟨w.heap.size, 1, none⟩ = some (.int .i64 T) ∧ ((((x.setCell ⟨(w1.heap.size + 1), 0, none⟩ u0).setCell ⟨(w1.heap.size + 1), 1, none⟩ u1).setCell ⟨(w1.heap.size + 1), 2, none⟩ u2).setCell ⟨(w1.heap.size + 1), 3, none⟩ u3).cell? ⟨w.heap.size, 3, none⟩ = some (.slice (some ⟨b3, o3, none⟩) E.length c3))) := by
      intro x u0 u1 u2 u3 h1
      have h3 := (((h1.setCell (p := ⟨(w1.heap.size + 1), 0, none⟩) (show w1.heap.size ≤ (w1.heap.size + 1) by omega) u0).setCell (p := ⟨(w1.heap.size + 1), 1, none⟩) (show w1.heap.size ≤ (w1.heap.size + 1) by omega) u1).setCell (p := ⟨(w1.heap.size + 1), 2, none⟩) (show w1.heap.size ≤ (w1.heap.size + 1) by omega) u2).setCell (p := ⟨(w1.heap.size + 1), 3, none⟩) (show w1.heap.size ≤ (w1.heap.size + 1) by omega) u3
      exact ⟨h3, hcells.out _ h3⟩
    have PBL : Hid ((bv E).length = E.length * 1) := by show _ = _; rw [bv_length]; omega
    have PE4 : Hid (0 + E.length ≤ 4294967296) := by show _ ≤ _; omega
    have P01 : 0 < 1 := by omega
    have P132 : 1 ≤ 32 := by omega
    have hkeepB : Hid (∀ x y : World, Below w1.heap.size w1 x → Below w1.heap.size x y → (Below w1.heap.size w1 y ∧ y.cell? ⟨w.heap.size, 0, none⟩ = some (.int .i64 S) ∧ y.cell? ⟨w.heap.size, 1, none⟩ = some (.int .i64 T) ∧ y.cell? ⟨w.heap.size, 3, none⟩ = some (.slice (some ⟨b3, o3, none⟩) E.length c3))) := by
      intro x y h1 h2
      have h3 := h1.trans h2
      exact ⟨h3, hcells.out y h3⟩
    have OM1 : Hid ((w1.alloc (.cells #[] 4)).ownsRow w1.heap.size 4 1 (.slice (some ⟨w1.heap.size, 0, none⟩) 0 0) 0 []) := own_made w1 w1.heap.size 4 1 (Nat.le_refl _)
    have OM2 : Hid (((w1.alloc (.cells #[] 4)).alloc (.cells ([.int .i64 0, .int .i64 0, .slice none 0 0, .slice none 0 0] : List Value).toArray 51)).ownsRow w1.heap.size 4 1 (.slice (some ⟨w1.heap.size, 0, none⟩) 0 0) 0 []) := OM1.out.alloc _
    have om3 := own_made (w1.alloc (.cells ([.int .i64 0, .int .i64 0, .slice none 0 0, .slice none 0 0] : List Value).toArray 51)) w1.heap.size 4 1 (by simp)
    rw [show (w1.alloc (.cells ([.int .i64 0, .int .i64 0, .slice none 0 0, .slice none 0 0] : List Value).toArray 51)).heap.size = w1.heap.size + 1 by simp] at om3
    have OM3 := Lib.hid om3; clear om3
    have OB1 : Hid (w1.heap.size ≤ (w1.alloc (.cells #[] 4)).heap.size) := by show _ ≤ _; simp
    have OB2 : Hid (w1.heap.size ≤ ((w1.alloc (.cells #[] 4)).alloc (.cells ([.int .i64 0, .int .i64 0, .slice none 0 0, .slice none 0 0] : List Value).toArray 51)).heap.size) := by show _ ≤ _; simp; omega
    have OB3 : Hid (w1.heap.size ≤ ((w1.alloc (.cells ([.int .i64 0, .int .i64 0, .slice none 0 0, .slice none 0 0] : List Value).toArray 51)).alloc (.cells #[] 4)).heap.size) := by show _ ≤ _; simp; omega
    have rz2 := Row.new (w1.alloc (.cells #[] 4)) 51 [.int .i64 0, .int .i64 0, .slice none 0 0, .slice none 0 0]
    rw [show (w1.alloc (.cells #[] 4)).heap.size = w1.heap.size + 1 by simp] at rz2
    have RZ2 := Lib.hid rz2.drew; clear rz2
    have RZ3 := Lib.hid ((Row.new w1 51 [.int .i64 0, .int .i64 0, .slice none 0 0, .slice none 0 0]).alloc (.cells #[] 4)).drew
    have hfrom := hcells.out w1 (Below.refl _ _)
    have hdr : Below w1.heap.size w1 w1.drew := Below.drew (Below.refl _ _)
    go_region_held3 (fun x => Below w1.heap.size w1 x ∧ x.cell? ⟨w.heap.size, 0, none⟩ = some (.int .i64 S) ∧ x.cell? ⟨w.heap.size, 1, none⟩ = some (.int .i64 T) ∧ x.cell? ⟨w.heap.size, 3, none⟩ = some (.slice (some ⟨b3, o3, none⟩) E.length c3)) (first | assumption | (exact hkeepA.out _ _ (by first | assumption | (apply And.left; assumption))) | (exact hkeepD.out _ _ (by first | assumption | (apply And.left; assumption))) | (exact hkeepS0.out _ _ _ _ _ (by first | assumption | (apply And.left; assumption))) | (exact hkeepS1.out _ _ _ _ _ (by first | assumption | (apply And.left; assumption))) | go_keep)
      (first
        | (refine step_cells_push rfl (.tmp 14) (.tmp 16) _ rfl w1.heap.size 4 (.bool false) 1 1 Try.underlying44 infoBool rfl P01 P132 (.slice (some ⟨w1.heap.size, 0, none⟩) 0 0) 0 [] ?_ OM1.out b3 o3 E.length c3 (bv E) ?_ PBL.out (HC.out _ ?_) (bv_one _) PE4.out OB1.out ?_; rfl; rfl; (first | assumption | (apply And.left; assumption)); intro AE cE wz hvE hgr hbz hat; have hkz := (fun h => hkeepB.out _ _ h hbz) (by first | assumption | (apply And.left; assumption)); simp only [Nat.zero_add, List.nil_append] at hvE hat; simp only [Nat.zero_add]; have HvE := Lib.hid hvE; have HAT := Lib.hid hat; clear hvE hat; have HGR := Lib.hid hgr; clear hgr)
        | (refine step_cells_push rfl (.tmp 14) (.tmp 16) _ rfl w1.heap.size 4 (.bool false) 1 1 Try.underlying44 infoBool rfl P01 P132 (.slice (some ⟨w1.heap.size, 0, none⟩) 0 0) 0 [] ?_ OM2.out b3 o3 E.length c3 (bv E) ?_ PBL.out (HC.out _ ?_) (bv_one _) PE4.out OB2.out ?_; rfl; rfl; (first | assumption | (apply And.left; assumption)); intro AE cE wz hvE hgr hbz hat; have hkz := (fun h => hkeepB.out _ _ h hbz) (by first | assumption | (apply And.left; assumption)); simp only [Nat.zero_add, List.nil_append] at hvE hat; simp only [Nat.zero_add]; have HvE := Lib.hid hvE; have HAT := Lib.hid hat; clear hvE hat; have HGR := Lib.hid hgr; clear hgr; have hz := RZ2.out.grown HGR.out (by simp [Value.ownBlock]); have z0 := hz.cell 0; have z1 := hz.cell 1; have z2 := hz.cell 2; have z3 := hz.cell 3; have y0 := hz.frozen 0; have y1 := hz.frozen 1; have y2 := hz.frozen 2; have y3 := hz.frozen 3; have HZ := Lib.hid hz; clear hz)
        | (refine step_cells_push rfl (.tmp 14) (.tmp 16) _ rfl w1.heap.size 4 (.bool false) 1 1 Try.underlying44 infoBool rfl P01 P132 (.slice (some ⟨w1.heap.size + 1, 0, none⟩) 0 0) 0 [] ?_ OM3.out b3 o3 E.length c3 (bv E) ?_ PBL.out (HC.out _ ?_) (bv_one _) PE4.out OB3.out ?_; rfl; rfl; (first | assumption | (apply And.left; assumption)); intro AE cE wz hvE hgr hbz hat; have hkz := (fun h => hkeepB.out _ _ h hbz) (by first | assumption | (apply And.left; assumption)); simp only [Nat.zero_add, List.nil_append] at hvE hat; simp only [Nat.zero_add]; have HvE := Lib.hid hvE; have HAT := Lib.hid hat; clear hvE hat; have HGR := Lib.hid hgr; clear hgr; have hz := RZ3.out.grown HGR.out (by simp [Value.ownBlock]); have z0 := hz.cell 0; have z1 := hz.cell 1; have z2 := hz.cell 2; have z3 := hz.cell 3; have y0 := hz.frozen 0; have y1 := hz.frozen 1; have y2 := hz.frozen 2; have y3 := hz.frozen 3; have HZ := Lib.hid hz; clear hz))
    · have hbw := hkz.1
      have R4 := Row.new wz 51 [.int .i64 S, .int .i64 T, .slice none 0 0, .slice AE E.length cE]
      have B3 : Below w1.heap.size w1 (wz.alloc (.cells ([.int .i64 S, .int .i64 T, .slice none 0 0, .slice AE E.length cE] : List Value).toArray 51)) := hbw.alloc hbw.size _
      have OE : (wz.alloc (.cells ([.int .i64 S, .int .i64 T, .slice none 0 0, .slice AE E.length cE] : List Value).toArray 51)).ownsRow w1.heap.size 4 1 (.slice AE E.length cE) E.length (bv E) := HvE.out.alloc _
      have DE : ∀ k, (Value.slice AE E.length cE).ownBlock = some k → k ≠ wz.heap.size := fun k hk => Nat.ne_of_lt (HvE.out.lt k hk).2
      have HBW := Lib.hid hbw
      clear hkz hfrom hdr hkeep hkeepA hkeepD hkeepS0 hkeepS1 hcells hbw
      clear OM1 OM2 OM3 OB1 OB2 OB3 RZ2 RZ3 hkeepB HGR HAT
      try clear z0 z1 z2 z3 y0 y1 y2 y3
      obtain ⟨g4, hg4⟩ : ∃ g, g = wz.heap.size := ⟨_, rfl⟩
      obtain ⟨x3, hx3⟩ : ∃ x, x = (wz.alloc (.cells ([.int .i64 S, .int .i64 T, .slice none 0 0, .slice AE E.length cE] : List Value).toArray 51)) := ⟨_, rfl⟩
      have G1 : w1.heap.size ≤ g4 := by rw [hg4]; exact HBW.out.size
      have G1 := Lib.hid G1
      rw [← hx3] at R4 B3 OE ⊢
      rw [← hg4] at R4 DE ⊢
      clear hx3 hg4 hbz HvE HBW
      try clear HZ
      have R4 := Lib.hid R4; have B3 := Lib.hid B3; have OE := Lib.hid OE; have DE := Lib.hid DE
      have RB3 := Lib.hid (RB1.out.below B3.out RB1.out.lt)
      have RR3 := Lib.hid (RR1.out.below B3.out RR1.out.lt)
      have BX3 := Lib.hid (BX1.out.trans (B3.out.mono BX1.out.size))
      have SZ : Hid (w.heap.size + 2 ≤ w1.heap.size ∧ w1.heap.size ≤ x3.heap.size ∧ g4 < x3.heap.size) := ⟨by have := RR1.out.lt; omega, B3.out.size, R4.out.lt⟩
      have kb := RB3.out.cell 2
      go_wp2_with fail
      clear kb
      go_loopg [5, 6, 22] L.length (fun m u0 u1 i wr => ∃ (k : Nat) (A : Option Addr) (c : Nat), i = .int .i64 k ∧ k ≤ L.length ∧ L.length ≤ m + k ∧ Hid (wr.ownsRow x3.heap.size 81 4 (.slice A k c) k (fa ((L.take k).map sw))) ∧ Hid (Row wr g4 51 [.int .i64 S, .int .i64 T, .slice A k c, .slice AE E.length cE]) ∧ Hid (Lo x3.heap.size g4 x3 wr))
      case atStart => exact ⟨0, none, 0, rfl, by omega, by omega, World.ownsRow_nil _ _ _ _, R4.out, Lo.refl _ _ _⟩
      case round =>
        obtain ⟨k, A, c, rfl, hk, hm, HO, HR, HL⟩ := hrel
        have hBr : Below w1.heap.size x3 wr := HL.out.bel SZ.out.2.1 G1.out
        have hBw := Lib.hid (BX3.out.trans (hBr.mono (by have := SZ.out; omega)))
        have hls := Lib.hid (show x3.heap.size ≤ wr.heap.size from HL.out.2.2.2.1)
        clear hBr
        by_cases hlt : k < L.length
        · have HAT := (H2.out.below hBw.out (Nat.le_refl _)).at_ hlt
          obtain ⟨b, off, a0, a1, a2, a3, hA, hbB, hx, k0, k1, k2, k3⟩ := HAT
          cases hA
          have l0 : (0 : Int) ≤ (k : Int) := by omega
          have l1 : (k : Int) < (L.length : Int) := by omega
          have HX : Hid ((L.take (k + 1)).map sw = (L.take k).map sw ++ [(a0, a1, a3, a2)]) := by
            obtain ⟨hk', e⟩ := List.getElem?_eq_some_iff.1 hx.out
            show _ = _
            rw [List.take_succ_eq_append_getElem hk', List.map_append, e]; rfl
          have RA := HR.out.alloc (.cells ([.int .i64 a0, .int .i64 a1, .int .i64 a2, .int .i64 a3] : List Value).toArray 81)
          have r2 := RA.cell 2
          have sb : wr.cell? ⟨w.heap.size, 2, none⟩ = some (.slice (some ⟨b2, o2, none⟩) L.length c2) := by
            have := HL.out.row RB3.out (by have := SZ.out; omega) (by have := SZ.out; have := G1.out; omega)
            exact this.cell 2
          have hbs : x3.heap.size ≤ (wr.alloc (.cells ([.int .i64 a0, .int .i64 a1, .int .i64 a2, .int .i64 a3] : List Value).toArray 81)).heap.size := by have := hls.out; simp; omega
          have HBS := Lib.hid hbs; clear hbs
          have HRA := Lib.hid RA; clear RA
          have NE : Hid (∀ k', (Value.slice A k c).ownBlock = some k' → x3.heap.size ≤ k') := fun k' hk' => (HO.out.lt k' hk').1
          go_wp2_with (first | (at_builtin; refine wpList_one_push (wr.alloc (.cells ([.int .i64 a0, .int .i64 a1, .int .i64 a2, .int .i64 a3] : List Value).toArray 81)) rfl (.tmp 31) (.tmp 41) _ rfl x3.heap.size 81 (.agg #[.int .i64 0, .int .i64 0, .int .i64 0, .int .i64 0]) 4 32 Try.underlying49 infoPA rfl (by omega) (by omega) _ k _ rfl (HO.out.alloc _) [.int .i64 a0, .int .i64 a1, .int .i64 a3, .int .i64 a2] rfl (fa_one [(a0, a1, a3, a2)]) (wr.heap.size + 1) (by simp) rfl (by omega) HBS.out ?_; intro v' w' hown hgr hat; obtain ⟨A', c', hv', _, _⟩ := own_form hown; subst hv'; have HG := Lib.hid hgr; have HOW := Lib.hid hown; have HT := Lib.hid hat; clear hgr hown hat; have RG := Lib.hid (HRA.out.grown HG.out (fun e => by have := NE.out _ e.symm; have := SZ.out; omega)); have j2 := RG.out.cell 2; have f2 := RG.out.frozen 2))
          clear j2 f2 r2 k0 k1 k2 k3
          have HOW2 : Hid (w'.ownsRow x3.heap.size 81 4 (.slice A' (k + 1) c') (k + 1) (fa ((L.take (k + 1)).map sw))) := by
            show World.ownsRow _ _ _ _ _ _ _
            rw [HX.out, fa_append]; exact HOW.out
          go_roundg (gk - 1)
          case measure => omega
          case rel =>
            refine ⟨k + 1, A', c', by go_num, by omega, by omega, ?_, RG.out.set_ 2 _, ?_⟩
            · exact own_move HOW2.out (fun g hg => Below.heap_setCell _ _ _ _ (by have := (HOW2.out.lt g hg).1; have := SZ.out; show g ≠ g4; omega))
            · exact ((HL.out.trans (Lo.alloc _ _ _ _ hls.out)).trans (Lo.grown HG.out (fun k' hk' => NE.out k' hk') HBS.out)).trans (Lo.set _ _ _ _ _)
        · obtain rfl : k = L.length := by omega
          have r0 := HR.out.cell 0; have r1 := HR.out.cell 1; have r2 := HR.out.cell 2; have r3 := HR.out.cell 3
          have RRr := Lib.hid (HL.out.row RR3.out (by have := SZ.out; omega) (by have := SZ.out; have := G1.out; omega))
          have y0 := RRr.out.cell 0; have y1 := RRr.out.cell 1; have y2 := RRr.out.cell 2; have y3 := RRr.out.cell 3
          have f0 := RRr.out.frozen 0; have f1 := RRr.out.frozen 1; have f2 := RRr.out.frozen 2; have f3 := RRr.out.frozen 3
          have sb : wr.cell? ⟨w.heap.size, 2, none⟩ = some (.slice (some ⟨b2, o2, none⟩) L.length c2) := by
            have := HL.out.row RB3.out (by have := SZ.out; omega) (by have := SZ.out; have := G1.out; omega)
            exact this.cell 2
          go_wp2_with fail
          clear r0 r1 r2 r3 y0 y1 y2 y3 f0 f1 f2 f3
          have hF := ((((RRr.out.set_ 0 (.int .i64 S)).set_ 1 (.int .i64 T)).set_ 2 (.slice A L.length c)).set_ 3 (.slice AE E.length cE))
          have hFb := ((((hBw.out.setCell (p := ⟨w.heap.size + 1, 0, none⟩) (show w.heap.size ≤ w.heap.size + 1 by omega) (.int .i64 S)).setCell (p := ⟨w.heap.size + 1, 1, none⟩) (show w.heap.size ≤ w.heap.size + 1 by omega) (.int .i64 T)).setCell (p := ⟨w.heap.size + 1, 2, none⟩) (show w.heap.size ≤ w.heap.size + 1 by omega) (.slice A L.length c)).setCell (p := ⟨w.heap.size + 1, 3, none⟩) (show w.heap.size ≤ w.heap.size + 1 by omega) (.slice AE E.length cE))
          refine bodyPost_ret (results_cell2 rfl _ _ (w.heap.size + 1) 51 #[.int .i64 S, .int .i64 T, .slice A L.length c, .slice AE E.length cE] (0, 0) _ (.bool true) rfl rfl hF Try.underlying51 rfl (by kernel_rfl)) rfl ?_
          rw [← HOK.out]
          have OA := HO.out
          rw [List.take_length] at OA
          have OA2 := OwnV.of (own_move (World.ownsRow.mono OA (show w.heap.size ≤ x3.heap.size by have := SZ.out; omega)) (fun g hg => by have hne : g ≠ w.heap.size + 1 := (by have := (OA.lt g hg).1; have := SZ.out; omega); exact heap_set4 (.int .i64 S) (.int .i64 T) (.slice A L.length c) (.slice AE E.length cE) hne))
          have OE1 := own_move OE.out (fun g hg => HL.out.2.2.2.2 g (OE.out.lt g hg).2 (DE.out g hg))
          have OE2 := OwnV.of (own_move (World.ownsRow.mono OE1 (show w.heap.size ≤ w1.heap.size by have := SZ.out; omega)) (fun g hg => by have hne : g ≠ w.heap.size + 1 := (by have := (OE.out.lt g hg).1; have := SZ.out; omega); exact heap_set4 (.int .i64 S) (.int .i64 T) (.slice A L.length c) (.slice AE E.length cE) hne))
          refine ⟨_, rfl, ⟨_, _, rfl, ?_, OE2, fun k hk hk2 => ?_⟩, hFb⟩
          · have el : (tsL true L).length = L.length := by simp [tsL]
            rw [el]; exact OA2
          · have h1 := (OA.lt k hk).1
            have h2 := (OE.out.lt k hk2).2
            omega
    · have hbw := hkz.1
      have R4 : Row ((((wz.setCell ⟨w1.heap.size + 1, 0, none⟩ (.int .i64 S)).setCell ⟨w1.heap.size + 1, 1, none⟩ (.int .i64 T)).setCell ⟨w1.heap.size + 1, 2, none⟩ (.slice none 0 0)).setCell ⟨w1.heap.size + 1, 3, none⟩ (.slice AE E.length cE)) (w1.heap.size + 1) 51 [.int .i64 S, .int .i64 T, .slice none 0 0, .slice AE E.length cE] := ((((HZ.out.set_ 0 _).set_ 1 _).set_ 2 _).set_ 3 _)
      have B3 : Below w1.heap.size w1 ((((wz.setCell ⟨w1.heap.size + 1, 0, none⟩ (.int .i64 S)).setCell ⟨w1.heap.size + 1, 1, none⟩ (.int .i64 T)).setCell ⟨w1.heap.size + 1, 2, none⟩ (.slice none 0 0)).setCell ⟨w1.heap.size + 1, 3, none⟩ (.slice AE E.length cE)) := (hkeepS1.out wz _ _ _ _ hbw).1
      have DE : ∀ k, (Value.slice AE E.length cE).ownBlock = some k → k ≠ (w1.heap.size + 1) := fun k hk => by rcases HAT.out with h | h <;> (rw [h] at hk; simp [Value.ownBlock] at hk; omega)
      have OE : ((((wz.setCell ⟨w1.heap.size + 1, 0, none⟩ (.int .i64 S)).setCell ⟨w1.heap.size + 1, 1, none⟩ (.int .i64 T)).setCell ⟨w1.heap.size + 1, 2, none⟩ (.slice none 0 0)).setCell ⟨w1.heap.size + 1, 3, none⟩ (.slice AE E.length cE)).ownsRow w1.heap.size 4 1 (.slice AE E.length cE) E.length (bv E) := own_move HvE.out (fun g hg => by have hne := DE g hg; exact heap_set4 _ _ _ _ hne)
      have HBW := Lib.hid hbw
      clear hkz hfrom hdr hkeep hkeepA hkeepD hkeepS0 hkeepS1 hcells hbw
      clear OM1 OM2 OM3 OB1 OB2 OB3 RZ2 RZ3 hkeepB HGR HAT
      try clear z0 z1 z2 z3 y0 y1 y2 y3
      obtain ⟨g4, hg4⟩ : ∃ g, g = (w1.heap.size + 1) := ⟨_, rfl⟩
      obtain ⟨x3, hx3⟩ : ∃ x, x = ((((wz.setCell ⟨w1.heap.size + 1, 0, none⟩ (.int .i64 S)).setCell ⟨w1.heap.size + 1, 1, none⟩ (.int .i64 T)).setCell ⟨w1.heap.size + 1, 2, none⟩ (.slice none 0 0)).setCell ⟨w1.heap.size + 1, 3, none⟩ (.slice AE E.length cE)) := ⟨_, rfl⟩
      have G1 : w1.heap.size ≤ g4 := by rw [hg4]; omega
      have G1 := Lib.hid G1
      rw [← hx3] at R4 B3 OE ⊢
      rw [← hg4] at R4 DE ⊢
      clear hx3 hg4 hbz HvE HBW
      try clear HZ
      have R4 := Lib.hid R4; have B3 := Lib.hid B3; have OE := Lib.hid OE; have DE := Lib.hid DE
      have RB3 := Lib.hid (RB1.out.below B3.out RB1.out.lt)
      have RR3 := Lib.hid (RR1.out.below B3.out RR1.out.lt)
      have BX3 := Lib.hid (BX1.out.trans (B3.out.mono BX1.out.size))
      have SZ : Hid (w.heap.size + 2 ≤ w1.heap.size ∧ w1.heap.size ≤ x3.heap.size ∧ g4 < x3.heap.size) := ⟨by have := RR1.out.lt; omega, B3.out.size, R4.out.lt⟩
      have kb := RB3.out.cell 2
      go_wp2_with fail
      clear kb
      go_loopg [5, 6, 22] L.length (fun m u0 u1 i wr => ∃ (k : Nat) (A : Option Addr) (c : Nat), i = .int .i64 k ∧ k ≤ L.length ∧ L.length ≤ m + k ∧ Hid (wr.ownsRow x3.heap.size 81 4 (.slice A k c) k (fa ((L.take k).map sw))) ∧ Hid (Row wr g4 51 [.int .i64 S, .int .i64 T, .slice A k c, .slice AE E.length cE]) ∧ Hid (Lo x3.heap.size g4 x3 wr))
      case atStart => exact ⟨0, none, 0, rfl, by omega, by omega, World.ownsRow_nil _ _ _ _, R4.out, Lo.refl _ _ _⟩
      case round =>
        obtain ⟨k, A, c, rfl, hk, hm, HO, HR, HL⟩ := hrel
        have hBr : Below w1.heap.size x3 wr := HL.out.bel SZ.out.2.1 G1.out
        have hBw := Lib.hid (BX3.out.trans (hBr.mono (by have := SZ.out; omega)))
        have hls := Lib.hid (show x3.heap.size ≤ wr.heap.size from HL.out.2.2.2.1)
        clear hBr
        by_cases hlt : k < L.length
        · have HAT := (H2.out.below hBw.out (Nat.le_refl _)).at_ hlt
          obtain ⟨b, off, a0, a1, a2, a3, hA, hbB, hx, k0, k1, k2, k3⟩ := HAT
          cases hA
          have l0 : (0 : Int) ≤ (k : Int) := by omega
          have l1 : (k : Int) < (L.length : Int) := by omega
          have HX : Hid ((L.take (k + 1)).map sw = (L.take k).map sw ++ [(a0, a1, a3, a2)]) := by
            obtain ⟨hk', e⟩ := List.getElem?_eq_some_iff.1 hx.out
            show _ = _
            rw [List.take_succ_eq_append_getElem hk', List.map_append, e]; rfl
          have RA := HR.out.alloc (.cells ([.int .i64 a0, .int .i64 a1, .int .i64 a2, .int .i64 a3] : List Value).toArray 81)
          have r2 := RA.cell 2
          have sb : wr.cell? ⟨w.heap.size, 2, none⟩ = some (.slice (some ⟨b2, o2, none⟩) L.length c2) := by
            have := HL.out.row RB3.out (by have := SZ.out; omega) (by have := SZ.out; have := G1.out; omega)
            exact this.cell 2
          have hbs : x3.heap.size ≤ (wr.alloc (.cells ([.int .i64 a0, .int .i64 a1, .int .i64 a2, .int .i64 a3] : List Value).toArray 81)).heap.size := by have := hls.out; simp; omega
          have HBS := Lib.hid hbs; clear hbs
          have HRA := Lib.hid RA; clear RA
          have NE : Hid (∀ k', (Value.slice A k c).ownBlock = some k' → x3.heap.size ≤ k') := fun k' hk' => (HO.out.lt k' hk').1
          go_wp2_with (first | (at_builtin; refine wpList_one_push (wr.alloc (.cells ([.int .i64 a0, .int .i64 a1, .int .i64 a2, .int .i64 a3] : List Value).toArray 81)) rfl (.tmp 31) (.tmp 41) _ rfl x3.heap.size 81 (.agg #[.int .i64 0, .int .i64 0, .int .i64 0, .int .i64 0]) 4 32 Try.underlying49 infoPA rfl (by omega) (by omega) _ k _ rfl (HO.out.alloc _) [.int .i64 a0, .int .i64 a1, .int .i64 a3, .int .i64 a2] rfl (fa_one [(a0, a1, a3, a2)]) (wr.heap.size + 1) (by simp) rfl (by omega) HBS.out ?_; intro v' w' hown hgr hat; obtain ⟨A', c', hv', _, _⟩ := own_form hown; subst hv'; have HG := Lib.hid hgr; have HOW := Lib.hid hown; have HT := Lib.hid hat; clear hgr hown hat; have RG := Lib.hid (HRA.out.grown HG.out (fun e => by have := NE.out _ e.symm; have := SZ.out; omega)); have j2 := RG.out.cell 2; have f2 := RG.out.frozen 2))
          clear j2 f2 r2 k0 k1 k2 k3
          have HOW2 : Hid (w'.ownsRow x3.heap.size 81 4 (.slice A' (k + 1) c') (k + 1) (fa ((L.take (k + 1)).map sw))) := by
            show World.ownsRow _ _ _ _ _ _ _
            rw [HX.out, fa_append]; exact HOW.out
          go_roundg (gk - 1)
          case measure => omega
          case rel =>
            refine ⟨k + 1, A', c', by go_num, by omega, by omega, ?_, RG.out.set_ 2 _, ?_⟩
            · exact own_move HOW2.out (fun g hg => Below.heap_setCell _ _ _ _ (by have := (HOW2.out.lt g hg).1; have := SZ.out; show g ≠ g4; omega))
            · exact ((HL.out.trans (Lo.alloc _ _ _ _ hls.out)).trans (Lo.grown HG.out (fun k' hk' => NE.out k' hk') HBS.out)).trans (Lo.set _ _ _ _ _)
        · obtain rfl : k = L.length := by omega
          have r0 := HR.out.cell 0; have r1 := HR.out.cell 1; have r2 := HR.out.cell 2; have r3 := HR.out.cell 3
          have RRr := Lib.hid (HL.out.row RR3.out (by have := SZ.out; omega) (by have := SZ.out; have := G1.out; omega))
          have y0 := RRr.out.cell 0; have y1 := RRr.out.cell 1; have y2 := RRr.out.cell 2; have y3 := RRr.out.cell 3
          have f0 := RRr.out.frozen 0; have f1 := RRr.out.frozen 1; have f2 := RRr.out.frozen 2; have f3 := RRr.out.frozen 3
          have sb : wr.cell? ⟨w.heap.size, 2, none⟩ = some (.slice (some ⟨b2, o2, none⟩) L.length c2) := by
            have := HL.out.row RB3.out (by have := SZ.out; omega) (by have := SZ.out; have := G1.out; omega)
            exact this.cell 2
          go_wp2_with fail
          clear r0 r1 r2 r3 y0 y1 y2 y3 f0 f1 f2 f3
          have hF := ((((RRr.out.set_ 0 (.int .i64 S)).set_ 1 (.int .i64 T)).set_ 2 (.slice A L.length c)).set_ 3 (.slice AE E.length cE))
          have hFb := ((((hBw.out.setCell (p := ⟨w.heap.size + 1, 0, none⟩) (show w.heap.size ≤ w.heap.size + 1 by omega) (.int .i64 S)).setCell (p := ⟨w.heap.size + 1, 1, none⟩) (show w.heap.size ≤ w.heap.size + 1 by omega) (.int .i64 T)).setCell (p := ⟨w.heap.size + 1, 2, none⟩) (show w.heap.size ≤ w.heap.size + 1 by omega) (.slice A L.length c)).setCell (p := ⟨w.heap.size + 1, 3, none⟩) (show w.heap.size ≤ w.heap.size + 1 by omega) (.slice AE E.length cE))
          refine bodyPost_ret (results_cell2 rfl _ _ (w.heap.size + 1) 51 #[.int .i64 S, .int .i64 T, .slice A L.length c, .slice AE E.length cE] (0, 0) _ (.bool true) rfl rfl hF Try.underlying51 rfl (by kernel_rfl)) rfl ?_
          rw [← HOK.out]
          have OA := HO.out
          rw [List.take_length] at OA
          have OA2 := OwnV.of (own_move (World.ownsRow.mono OA (show w.heap.size ≤ x3.heap.size by have := SZ.out; omega)) (fun g hg => by have hne : g ≠ w.heap.size + 1 := (by have := (OA.lt g hg).1; have := SZ.out; omega); exact heap_set4 (.int .i64 S) (.int .i64 T) (.slice A L.length c) (.slice AE E.length cE) hne))
          have OE1 := own_move OE.out (fun g hg => HL.out.2.2.2.2 g (OE.out.lt g hg).2 (DE.out g hg))
          have OE2 := OwnV.of (own_move (World.ownsRow.mono OE1 (show w.heap.size ≤ w1.heap.size by have := SZ.out; omega)) (fun g hg => by have hne : g ≠ w.heap.size + 1 := (by have := (OE.out.lt g hg).1; have := SZ.out; omega); exact heap_set4 (.int .i64 S) (.int .i64 T) (.slice A L.length c) (.slice AE E.length cE) hne))
          refine ⟨_, rfl, ⟨_, _, rfl, ?_, OE2, fun k hk hk2 => ?_⟩, hFb⟩
          · have el : (tsL true L).length = L.length := by simp [tsL]
            rw [el]; exact OA2
          · have h1 := (OA.lt k hk).1
            have h2 := (OE.out.lt k hk2).2
            omega
    · have hbw := hkz.1
      have R4 : Row ((((wz.setCell ⟨w1.heap.size, 0, none⟩ (.int .i64 S)).setCell ⟨w1.heap.size, 1, none⟩ (.int .i64 T)).setCell ⟨w1.heap.size, 2, none⟩ (.slice none 0 0)).setCell ⟨w1.heap.size, 3, none⟩ (.slice AE E.length cE)) w1.heap.size 51 [.int .i64 S, .int .i64 T, .slice none 0 0, .slice AE E.length cE] := ((((HZ.out.set_ 0 _).set_ 1 _).set_ 2 _).set_ 3 _)
      have B3 : Below w1.heap.size w1 ((((wz.setCell ⟨w1.heap.size, 0, none⟩ (.int .i64 S)).setCell ⟨w1.heap.size, 1, none⟩ (.int .i64 T)).setCell ⟨w1.heap.size, 2, none⟩ (.slice none 0 0)).setCell ⟨w1.heap.size, 3, none⟩ (.slice AE E.length cE)) := (hkeepS0.out wz _ _ _ _ hbw).1
      have DE : ∀ k, (Value.slice AE E.length cE).ownBlock = some k → k ≠ w1.heap.size := fun k hk => by rcases HAT.out with h | h <;> (rw [h] at hk; simp [Value.ownBlock] at hk; omega)
      have OE : ((((wz.setCell ⟨w1.heap.size, 0, none⟩ (.int .i64 S)).setCell ⟨w1.heap.size, 1, none⟩ (.int .i64 T)).setCell ⟨w1.heap.size, 2, none⟩ (.slice none 0 0)).setCell ⟨w1.heap.size, 3, none⟩ (.slice AE E.length cE)).ownsRow w1.heap.size 4 1 (.slice AE E.length cE) E.length (bv E) := own_move HvE.out (fun g hg => by have hne := DE g hg; exact heap_set4 _ _ _ _ hne)
      have HBW := Lib.hid hbw
      clear hkz hfrom hdr hkeep hkeepA hkeepD hkeepS0 hkeepS1 hcells hbw
      clear OM1 OM2 OM3 OB1 OB2 OB3 RZ2 RZ3 hkeepB HGR HAT
      try clear z0 z1 z2 z3 y0 y1 y2 y3
      obtain ⟨g4, hg4⟩ : ∃ g, g = w1.heap.size := ⟨_, rfl⟩
      obtain ⟨x3, hx3⟩ : ∃ x, x = ((((wz.setCell ⟨w1.heap.size, 0, none⟩ (.int .i64 S)).setCell ⟨w1.heap.size, 1, none⟩ (.int .i64 T)).setCell ⟨w1.heap.size, 2, none⟩ (.slice none 0 0)).setCell ⟨w1.heap.size, 3, none⟩ (.slice AE E.length cE)) := ⟨_, rfl⟩
      have G1 : w1.heap.size ≤ g4 := by rw [hg4]; omega
      have G1 := Lib.hid G1
      rw [← hx3] at R4 B3 OE ⊢
      rw [← hg4] at R4 DE ⊢
      clear hx3 hg4 hbz HvE HBW
      try clear HZ
      have R4 := Lib.hid R4; have B3 := Lib.hid B3; have OE := Lib.hid OE; have DE := Lib.hid DE
      have RB3 := Lib.hid (RB1.out.below B3.out RB1.out.lt)
      have RR3 := Lib.hid (RR1.out.below B3.out RR1.out.lt)
      have BX3 := Lib.hid (BX1.out.trans (B3.out.mono BX1.out.size))
      have SZ : Hid (w.heap.size + 2 ≤ w1.heap.size ∧ w1.heap.size ≤ x3.heap.size ∧ g4 < x3.heap.size) := ⟨by have := RR1.out.lt; omega, B3.out.size, R4.out.lt⟩
      have kb := RB3.out.cell 2
      go_wp2_with fail
      clear kb
      go_loopg [5, 6, 22] L.length (fun m u0 u1 i wr => ∃ (k : Nat) (A : Option Addr) (c : Nat), i = .int .i64 k ∧ k ≤ L.length ∧ L.length ≤ m + k ∧ Hid (wr.ownsRow x3.heap.size 81 4 (.slice A k c) k (fa ((L.take k).map sw))) ∧ Hid (Row wr g4 51 [.int .i64 S, .int .i64 T, .slice A k c, .slice AE E.length cE]) ∧ Hid (Lo x3.heap.size g4 x3 wr))
      case atStart => exact ⟨0, none, 0, rfl, by omega, by omega, World.ownsRow_nil _ _ _ _, R4.out, Lo.refl _ _ _⟩
      case round =>
        obtain ⟨k, A, c, rfl, hk, hm, HO, HR, HL⟩ := hrel
        have hBr : Below w1.heap.size x3 wr := HL.out.bel SZ.out.2.1 G1.out
        have hBw := Lib.hid (BX3.out.trans (hBr.mono (by have := SZ.out; omega)))
        have hls := Lib.hid (show x3.heap.size ≤ wr.heap.size from HL.out.2.2.2.1)
        clear hBr
        by_cases hlt : k < L.length
        · have HAT := (H2.out.below hBw.out (Nat.le_refl _)).at_ hlt
          obtain ⟨b, off, a0, a1, a2, a3, hA, hbB, hx, k0, k1, k2, k3⟩ := HAT
          cases hA
          have l0 : (0 : Int) ≤ (k : Int) := by omega
          have l1 : (k : Int) < (L.length : Int) := by omega
          have HX : Hid ((L.take (k + 1)).map sw = (L.take k).map sw ++ [(a0, a1, a3, a2)]) := by
            obtain ⟨hk', e⟩ := List.getElem?_eq_some_iff.1 hx.out
            show _ = _
            rw [List.take_succ_eq_append_getElem hk', List.map_append, e]; rfl
          have RA := HR.out.alloc (.cells ([.int .i64 a0, .int .i64 a1, .int .i64 a2, .int .i64 a3] : List Value).toArray 81)
          have r2 := RA.cell 2
          have sb : wr.cell? ⟨w.heap.size, 2, none⟩ = some (.slice (some ⟨b2, o2, none⟩) L.length c2) := by
            have := HL.out.row RB3.out (by have := SZ.out; omega) (by have := SZ.out; have := G1.out; omega)
            exact this.cell 2
          have hbs : x3.heap.size ≤ (wr.alloc (.cells ([.int .i64 a0, .int .i64 a1, .int .i64 a2, .int .i64 a3] : List Value).toArray 81)).heap.size := by have := hls.out; simp; omega
          have HBS := Lib.hid hbs; clear hbs
          have HRA := Lib.hid RA; clear RA
          have NE : Hid (∀ k', (Value.slice A k c).ownBlock = some k' → x3.heap.size ≤ k') := fun k' hk' => (HO.out.lt k' hk').1
          go_wp2_with (first | (at_builtin; refine wpList_one_push (wr.alloc (.cells ([.int .i64 a0, .int .i64 a1, .int .i64 a2, .int .i64 a3] : List Value).toArray 81)) rfl (.tmp 31) (.tmp 41) _ rfl x3.heap.size 81 (.agg #[.int .i64 0, .int .i64 0, .int .i64 0, .int .i64 0]) 4 32 Try.underlying49 infoPA rfl (by omega) (by omega) _ k _ rfl (HO.out.alloc _) [.int .i64 a0, .int .i64 a1, .int .i64 a3, .int .i64 a2] rfl (fa_one [(a0, a1, a3, a2)]) (wr.heap.size + 1) (by simp) rfl (by omega) HBS.out ?_; intro v' w' hown hgr hat; obtain ⟨A', c', hv', _, _⟩ := own_form hown; subst hv'; have HG := Lib.hid hgr; have HOW := Lib.hid hown; have HT := Lib.hid hat; clear hgr hown hat; have RG := Lib.hid (HRA.out.grown HG.out (fun e => by have := NE.out _ e.symm; have := SZ.out; omega)); have j2 := RG.out.cell 2; have f2 := RG.out.frozen 2))
          clear j2 f2 r2 k0 k1 k2 k3
          have HOW2 : Hid (w'.ownsRow x3.heap.size 81 4 (.slice A' (k + 1) c') (k + 1) (fa ((L.take (k + 1)).map sw))) := by
            show World.ownsRow _ _ _ _ _ _ _
            rw [HX.out, fa_append]; exact HOW.out
          go_roundg (gk - 1)
          case measure => omega
          case rel =>
            refine ⟨k + 1, A', c', by go_num, by omega, by omega, ?_, RG.out.set_ 2 _, ?_⟩
            · exact own_move HOW2.out (fun g hg => Below.heap_setCell _ _ _ _ (by have := (HOW2.out.lt g hg).1; have := SZ.out; show g ≠ g4; omega))
            · exact ((HL.out.trans (Lo.alloc _ _ _ _ hls.out)).trans (Lo.grown HG.out (fun k' hk' => NE.out k' hk') HBS.out)).trans (Lo.set _ _ _ _ _)
        · obtain rfl : k = L.length := by omega
          have r0 := HR.out.cell 0; have r1 := HR.out.cell 1; have r2 := HR.out.cell 2; have r3 := HR.out.cell 3
          have RRr := Lib.hid (HL.out.row RR3.out (by have := SZ.out; omega) (by have := SZ.out; have := G1.out; omega))
          have y0 := RRr.out.cell 0; have y1 := RRr.out.cell 1; have y2 := RRr.out.cell 2; have y3 := RRr.out.cell 3
          have f0 := RRr.out.frozen 0; have f1 := RRr.out.frozen 1; have f2 := RRr.out.frozen 2; have f3 := RRr.out.frozen 3
          have sb : wr.cell? ⟨w.heap.size, 2, none⟩ = some (.slice (some ⟨b2, o2, none⟩) L.length c2) := by
            have := HL.out.row RB3.out (by have := SZ.out; omega) (by have := SZ.out; have := G1.out; omega)
            exact this.cell 2
          go_wp2_with fail
          clear r0 r1 r2 r3 y0 y1 y2 y3 f0 f1 f2 f3
          have hF := ((((RRr.out.set_ 0 (.int .i64 S)).set_ 1 (.int .i64 T)).set_ 2 (.slice A L.length c)).set_ 3 (.slice AE E.length cE))
          have hFb := ((((hBw.out.setCell (p := ⟨w.heap.size + 1, 0, none⟩) (show w.heap.size ≤ w.heap.size + 1 by omega) (.int .i64 S)).setCell (p := ⟨w.heap.size + 1, 1, none⟩) (show w.heap.size ≤ w.heap.size + 1 by omega) (.int .i64 T)).setCell (p := ⟨w.heap.size + 1, 2, none⟩) (show w.heap.size ≤ w.heap.size + 1 by omega) (.slice A L.length c)).setCell (p := ⟨w.heap.size + 1, 3, none⟩) (show w.heap.size ≤ w.heap.size + 1 by omega) (.slice AE E.length cE))
          refine bodyPost_ret (results_cell2 rfl _ _ (w.heap.size + 1) 51 #[.int .i64 S, .int .i64 T, .slice A L.length c, .slice AE E.length cE] (0, 0) _ (.bool true) rfl rfl hF Try.underlying51 rfl (by kernel_rfl)) rfl ?_
          rw [← HOK.out]
          have OA := HO.out
          rw [List.take_length] at OA
          have OA2 := OwnV.of (own_move (World.ownsRow.mono OA (show w.heap.size ≤ x3.heap.size by have := SZ.out; omega)) (fun g hg => by have hne : g ≠ w.heap.size + 1 := (by have := (OA.lt g hg).1; have := SZ.out; omega); exact heap_set4 (.int .i64 S) (.int .i64 T) (.slice A L.length c) (.slice AE E.length cE) hne))
          have OE1 := own_move OE.out (fun g hg => HL.out.2.2.2.2 g (OE.out.lt g hg).2 (DE.out g hg))
          have OE2 := OwnV.of (own_move (World.ownsRow.mono OE1 (show w.heap.size ≤ w1.heap.size by have := SZ.out; omega)) (fun g hg => by have hne : g ≠ w.heap.size + 1 := (by have := (OE.out.lt g hg).1; have := SZ.out; omega); exact heap_set4 (.int .i64 S) (.int .i64 T) (.slice A L.length c) (.slice AE E.length cE) hne))
          refine ⟨_, rfl, ⟨_, _, rfl, ?_, OE2, fun k hk hk2 => ?_⟩, hFb⟩
          · have el : (tsL true L).length = L.length := by simp [tsL]
            rw [el]; exact OA2
          · have h1 := (OA.lt k hk).1
            have h2 := (OE.out.lt k hk2).2
            omega
end Go.Proofs.Ytcmnhnapnnpbdaa
