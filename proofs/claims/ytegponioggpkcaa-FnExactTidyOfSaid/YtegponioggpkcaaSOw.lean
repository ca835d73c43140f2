/- l02Own of the reference: a machine of one's own (under way). -/
import Derived.Test.YtegponioggpkcaaArr
import Derived.Test.YtegponioggpkcaaRt
import Derived.Test.YtegponioggpkcaaStO
import Derived.Deep.RegionHeld3
import Derived.Deep.CutRange
namespace Go.Proofs.Ytegponioggpkcaa
open Go.RowKit
set_option linter.unusedVariables false
theorem results_cell1M {P : Program} {fn : Func} {p : Tmp} {ty : TypeId} (h : fn.results = #[.cell p ty]) (tmps : Array Value) (w : World) (g : Nat) (t : TypeId) (cs : Array Value) (fr : Nat × Nat) (d : TypeDesc)
    (hp : tmps.getD p undef = .pointer (some ⟨g, 0, none⟩)) (hg : w.heap[g]? = some (.cells cs t fr))
    (hu : P.underlying ty = some d) (hd : (match d with | .struct _ | .array _ _ => true | _ => false) = true) (hi : (P.info? ty).map (·.size) = some cs.size) :
    (results fn tmps).run P w = .ok (.agg cs) w := by
  have hp' : tmps[p]?.getD undef = .pointer (some ⟨g, 0, none⟩) := by simpa using hp
  simp [results, h, hp', asAddr, run_loadVar_row w g t ty cs fr d hg hu hd hi]
theorem SlI.cellsL {w : World} {B n b off : Nat} {xs : List Int} (h : SlI w B (some ⟨b, off, none⟩) n xs) : ∀ j u, (iv xs)[j]? = some u → w.cell? ⟨b, off + j, none⟩ = some u := by
  intro j u hu
  obtain ⟨hl, h2⟩ := h
  have hj := (List.getElem?_eq_some_iff.1 hu).1
  obtain ⟨b', off', e, hb, hc⟩ := h2 (by omega)
  cases e
  exact hc j u hu
theorem bwA {w x : World} (h : Below w.heap.size w x) (o : Obj) : Below w.heap.size w (x.alloc o) := h.alloc h.size o
theorem bwS {w x : World} (h : Below w.heap.size w x) {p : Addr} (hp : w.heap.size ≤ p.block) (u : Value) : Below w.heap.size w (x.setCell p u) := h.setCell hp u
set_option maxRecDepth 100000 in
set_option maxHeartbeats 4000000 in
theorem sOwn_any (gm : Nat) (S T : Int) (L : List A4) (P E : List Int) (p2 p3 p4 C2 C3 C4 : Nat) (w : World)
    (ra : Row w gm 28 [.int .i64 S, .int .i64 T, .slice (some ⟨p2, 0, none⟩) L.length C2, .slice (some ⟨p3, 0, none⟩) P.length C3, .slice (some ⟨p4, 0, none⟩) E.length C4])
    (h2 : SlA w w.heap.size (some ⟨p2, 0, none⟩) L.length L) (h3 : SlI w w.heap.size (some ⟨p3, 0, none⟩) P.length P) (h4 : SlI w w.heap.size (some ⟨p4, 0, none⟩) E.length E)
    (hL : L.length ≤ 1048576) (hP : P.length ≤ 1048576) (hE : E.length ≤ 1048576) :
    Calls Try.prog 70 #[.pointer (some ⟨gm, 0, none⟩)] w fun e w' => ∃ A' c' B3 d3 B4 d4, e = .returned (.agg #[.int .i64 S, .int .i64 T, .slice A' L.length c', .slice B3 P.length d3, .slice B4 E.length d4]) ∧ w'.ownsRow w.heap.size 62 4 (.slice A' L.length c') L.length (fa L) ∧ w'.ownsRow w.heap.size 2 1 (.slice B3 P.length d3) P.length (iv P) ∧ w'.ownsRow w.heap.size 2 1 (.slice B4 E.length d4) E.length (iv E) ∧ (∀ k, (Value.slice A' L.length c').ownBlock = some k → (Value.slice B3 P.length d3).ownBlock ≠ some k) ∧ (∀ k, (Value.slice A' L.length c').ownBlock = some k → (Value.slice B4 E.length d4).ownBlock ≠ some k) ∧ (∀ k, (Value.slice B3 P.length d3).ownBlock = some k → (Value.slice B4 E.length d4).ownBlock ≠ some k) ∧ Below w.heap.size w w' := by
  have hgm := ra.lt
  have P04 : 0 < 4 := by omega
  have P3232 : 32 ≤ 32 := by omega
  have HRA := Lib.hid ra
  have HS : Hid (∀ x : World, Below w.heap.size w x → (x.cell? ⟨gm, 0, none⟩ = some (.int .i64 S) ∧ x.cell? ⟨gm, 1, none⟩ = some (.int .i64 T) ∧ x.cell? ⟨gm, 2, none⟩ = some (.slice (some ⟨p2, 0, none⟩) L.length C2))) := fun x hx => by
    have r := HRA.out.below hx hgm
    exact ⟨r.cell 0, r.cell 1, r.cell 2⟩
  have HCE : Hid (∀ x : World, Below w.heap.size w x → ∀ j u, (fa L)[j]? = some u → x.cell? ⟨p2, 0 + j, none⟩ = some u) := fun x hx => (h2.below hx (Nat.le_refl _)).cells
  clear ra
  have hz0 : (w.alloc (.cells ([.int .i64 0, .int .i64 0, .slice none 0 0, .slice none 0 0, .slice none 0 0] : List Value).toArray 28)).heap.size = w.heap.size + 1 := by simp
  have hz1 : ((w.alloc (.cells ([.int .i64 0, .int .i64 0, .slice none 0 0, .slice none 0 0, .slice none 0 0] : List Value).toArray 28)).alloc (.cells ([.int .i64 0, .int .i64 0, .slice none 0 0, .slice none 0 0, .slice none 0 0] : List Value).toArray 28)).heap.size = w.heap.size + 1 + 1 := by simp
  have hz2 : ((w.alloc (.cells ([.int .i64 0, .int .i64 0, .slice none 0 0, .slice none 0 0, .slice none 0 0] : List Value).toArray 28)).alloc (.cells #[] 62)).heap.size = w.heap.size + 1 + 1 := by simp
  have HB0 : Hid (Below w.heap.size w (w.alloc (.cells ([.int .i64 0, .int .i64 0, .slice none 0 0, .slice none 0 0, .slice none 0 0] : List Value).toArray 28))) := (Below.refl _ _).alloc (Nat.le_refl _) _
  have RR0 := Row.new w 28 [.int .i64 0, .int .i64 0, .slice none 0 0, .slice none 0 0, .slice none 0 0]
  have LEN : Hid ((fa L).length = L.length * 4) := by show _ = _; rw [fa_length]; omega
  have ROOM : Hid (0 + L.length ≤ 4294967296) := by show _ ≤ _; omega
  have HM1 : Hid (((w.alloc (.cells ([.int .i64 0, .int .i64 0, .slice none 0 0, .slice none 0 0, .slice none 0 0] : List Value).toArray 28)).alloc (.cells #[] 62)).drew.ownsRow w.heap.size 62 4 (.slice (some ⟨w.heap.size + 1, 0, none⟩) 0 0) 0 []) := by
    have := own_made (w.alloc (.cells ([.int .i64 0, .int .i64 0, .slice none 0 0, .slice none 0 0, .slice none 0 0] : List Value).toArray 28)) w.heap.size 62 4 (by omega)
    rw [hz0] at this
    exact this
  have HM2 : Hid ((((w.alloc (.cells ([.int .i64 0, .int .i64 0, .slice none 0 0, .slice none 0 0, .slice none 0 0] : List Value).toArray 28)).alloc (.cells ([.int .i64 0, .int .i64 0, .slice none 0 0, .slice none 0 0, .slice none 0 0] : List Value).toArray 28)).alloc (.cells #[] 62)).drew.ownsRow w.heap.size 62 4 (.slice (some ⟨w.heap.size + 1 + 1, 0, none⟩) 0 0) 0 []) := by
    have := own_made ((w.alloc (.cells ([.int .i64 0, .int .i64 0, .slice none 0 0, .slice none 0 0, .slice none 0 0] : List Value).toArray 28)).alloc (.cells ([.int .i64 0, .int .i64 0, .slice none 0 0, .slice none 0 0, .slice none 0 0] : List Value).toArray 28)) w.heap.size 62 4 (by omega)
    rw [hz1] at this
    exact this
  have HM3 : Hid ((((w.alloc (.cells ([.int .i64 0, .int .i64 0, .slice none 0 0, .slice none 0 0, .slice none 0 0] : List Value).toArray 28)).alloc (.cells #[] 62)).alloc (.cells ([.int .i64 0, .int .i64 0, .slice none 0 0, .slice none 0 0, .slice none 0 0] : List Value).toArray 28)).drew.ownsRow w.heap.size 62 4 (.slice (some ⟨w.heap.size + 1, 0, none⟩) 0 0) 0 []) := World.ownsRow.alloc (own_move HM1.out (fun _ _ => rfl) : ((w.alloc (.cells ([.int .i64 0, .int .i64 0, .slice none 0 0, .slice none 0 0, .slice none 0 0] : List Value).toArray 28)).alloc (.cells #[] 62)).ownsRow w.heap.size 62 4 (.slice (some ⟨w.heap.size + 1, 0, none⟩) 0 0) 0 []) _
  have HB1 : Hid (Below w.heap.size w ((w.alloc (.cells ([.int .i64 0, .int .i64 0, .slice none 0 0, .slice none 0 0, .slice none 0 0] : List Value).toArray 28)).alloc (.cells #[] 62)).drew) := Below.drew (bwA HB0.out _)
  have HB2 : Hid (Below w.heap.size w (((w.alloc (.cells ([.int .i64 0, .int .i64 0, .slice none 0 0, .slice none 0 0, .slice none 0 0] : List Value).toArray 28)).alloc (.cells ([.int .i64 0, .int .i64 0, .slice none 0 0, .slice none 0 0, .slice none 0 0] : List Value).toArray 28)).alloc (.cells #[] 62)).drew) := Below.drew (bwA (bwA HB0.out _) _)
  have HB3 : Hid (Below w.heap.size w (((w.alloc (.cells ([.int .i64 0, .int .i64 0, .slice none 0 0, .slice none 0 0, .slice none 0 0] : List Value).toArray 28)).alloc (.cells #[] 62)).alloc (.cells ([.int .i64 0, .int .i64 0, .slice none 0 0, .slice none 0 0, .slice none 0 0] : List Value).toArray 28)).drew) := Below.drew (bwA (bwA HB0.out _) _)
  have RB2 : Hid (Row (((w.alloc (.cells ([.int .i64 0, .int .i64 0, .slice none 0 0, .slice none 0 0, .slice none 0 0] : List Value).toArray 28)).alloc (.cells ([.int .i64 0, .int .i64 0, .slice none 0 0, .slice none 0 0, .slice none 0 0] : List Value).toArray 28)).alloc (.cells #[] 62)).drew (w.heap.size + 1) 28 [.int .i64 0, .int .i64 0, .slice none 0 0, .slice none 0 0, .slice none 0 0]) := by
    have := (Row.new (w.alloc (.cells ([.int .i64 0, .int .i64 0, .slice none 0 0, .slice none 0 0, .slice none 0 0] : List Value).toArray 28)) 28 [.int .i64 0, .int .i64 0, .slice none 0 0, .slice none 0 0, .slice none 0 0]).alloc (.cells #[] 62)
    rw [hz0] at this
    exact this
  have RB3 : Hid (Row (((w.alloc (.cells ([.int .i64 0, .int .i64 0, .slice none 0 0, .slice none 0 0, .slice none 0 0] : List Value).toArray 28)).alloc (.cells #[] 62)).alloc (.cells ([.int .i64 0, .int .i64 0, .slice none 0 0, .slice none 0 0, .slice none 0 0] : List Value).toArray 28)).drew (w.heap.size + 1 + 1) 28 [.int .i64 0, .int .i64 0, .slice none 0 0, .slice none 0 0, .slice none 0 0]) := by
    have := Row.new ((w.alloc (.cells ([.int .i64 0, .int .i64 0, .slice none 0 0, .slice none 0 0, .slice none 0 0] : List Value).toArray 28)).alloc (.cells #[] 62)) 28 [.int .i64 0, .int .i64 0, .slice none 0 0, .slice none 0 0, .slice none 0 0]
    rw [hz2] at this
    exact this
  have RR1 : Hid (Row ((w.alloc (.cells ([.int .i64 0, .int .i64 0, .slice none 0 0, .slice none 0 0, .slice none 0 0] : List Value).toArray 28)).alloc (.cells #[] 62)).drew w.heap.size 28 [.int .i64 0, .int .i64 0, .slice none 0 0, .slice none 0 0, .slice none 0 0]) := RR0.alloc _
  have RR2 : Hid (Row (((w.alloc (.cells ([.int .i64 0, .int .i64 0, .slice none 0 0, .slice none 0 0, .slice none 0 0] : List Value).toArray 28)).alloc (.cells ([.int .i64 0, .int .i64 0, .slice none 0 0, .slice none 0 0, .slice none 0 0] : List Value).toArray 28)).alloc (.cells #[] 62)).drew w.heap.size 28 [.int .i64 0, .int .i64 0, .slice none 0 0, .slice none 0 0, .slice none 0 0]) := (RR0.alloc _).alloc _
  have RR3 : Hid (Row (((w.alloc (.cells ([.int .i64 0, .int .i64 0, .slice none 0 0, .slice none 0 0, .slice none 0 0] : List Value).toArray 28)).alloc (.cells #[] 62)).alloc (.cells ([.int .i64 0, .int .i64 0, .slice none 0 0, .slice none 0 0, .slice none 0 0] : List Value).toArray 28)).drew w.heap.size 28 [.int .i64 0, .int .i64 0, .slice none 0 0, .slice none 0 0, .slice none 0 0]) := (RR0.alloc _).alloc _
  have CE1 := Lib.hid (HCE.out _ HB1.out); have BASE1 : Hid (w.heap.size ≤ ((w.alloc (.cells ([.int .i64 0, .int .i64 0, .slice none 0 0, .slice none 0 0, .slice none 0 0] : List Value).toArray 28)).alloc (.cells #[] 62)).drew.heap.size) := HB1.out.size
  have CE2 := Lib.hid (HCE.out _ HB2.out); have BASE2 : Hid (w.heap.size ≤ (((w.alloc (.cells ([.int .i64 0, .int .i64 0, .slice none 0 0, .slice none 0 0, .slice none 0 0] : List Value).toArray 28)).alloc (.cells ([.int .i64 0, .int .i64 0, .slice none 0 0, .slice none 0 0, .slice none 0 0] : List Value).toArray 28)).alloc (.cells #[] 62)).drew.heap.size) := HB2.out.size
  have CE3 := Lib.hid (HCE.out _ HB3.out); have BASE3 : Hid (w.heap.size ≤ (((w.alloc (.cells ([.int .i64 0, .int .i64 0, .slice none 0 0, .slice none 0 0, .slice none 0 0] : List Value).toArray 28)).alloc (.cells #[] 62)).alloc (.cells ([.int .i64 0, .int .i64 0, .slice none 0 0, .slice none 0 0, .slice none 0 0] : List Value).toArray 28)).drew.heap.size) := HB3.out.size
  clear hz0 hz1 hz2 RR0
  go_enter Try.func70, Try.ntmps70
  go_upto_region 1 with fail
  have hfrom := HS.out (w.alloc (.cells ([.int .i64 0, .int .i64 0, .slice none 0 0, .slice none 0 0, .slice none 0 0] : List Value).toArray 28)).drew (Below.drew HB0.out)
  go_cut [3] from 4 to 33 (fun p wx => ∃ (gb : Nat) (A' : Option Addr) (c' : Nat), p = .pointer (some ⟨gb, 0, none⟩) ∧ Hid (Row wx gb 28 [.int .i64 S, .int .i64 T, .slice A' L.length c', .slice none 0 0, .slice none 0 0]) ∧ Hid (wx.ownsRow w.heap.size 62 4 (.slice A' L.length c') L.length (fa L)) ∧ w.heap.size < gb ∧ Hid ((Value.slice A' L.length c').ownBlock ≠ some gb ∧ (Value.slice A' L.length c').ownBlock ≠ some w.heap.size) ∧ Hid (Row wx w.heap.size 28 [.int .i64 0, .int .i64 0, .slice none 0 0, .slice none 0 0, .slice none 0 0]) ∧ Hid (Below w.heap.size w wx))
  case first =>
    go_region_held3 (fun x => x.cell? ⟨gm, 0, none⟩ = some (.int .i64 S) ∧ x.cell? ⟨gm, 1, none⟩ = some (.int .i64 T) ∧ x.cell? ⟨gm, 2, none⟩ = some (.slice (some ⟨p2, 0, none⟩) L.length C2)) (first | (with_reducible assumption) | (exact HS.out _ (by repeat (first | (with_reducible assumption) | (with_reducible exact Below.refl _ _) | (with_reducible refine Below.drew ?_) | (with_reducible refine bwA ?_ _) | (with_reducible refine bwS ?_ (by simp; try omega) _)))) | go_keep)
      (first | (refine step_cells_push rfl (.tmp 12) (.tmp 16) _ rfl w.heap.size 62 (.agg #[.int .i64 0, .int .i64 0, .int .i64 0, .int .i64 0]) 4 32 Try.underlying25 infoAr rfl P04 P3232 (.slice (some ⟨w.heap.size + 1, 0, none⟩) 0 0) 0 [] ?_ HM1.out p2 0 L.length C2 (fa L) ?_ LEN.out CE1.out (fa_one _) ROOM.out BASE1.out ?_; rfl; rfl; intro A' c' wz hvE hgr hbl hat; have hbz : Below w.heap.size w wz := HB1.out.trans hbl; have hrz := RR1.out.grown hgr (fun e => by simp [Value.ownBlock] at e; try omega); have HRZ := Lib.hid hrz; have hx8 : True ∧ True := ⟨trivial, trivial⟩; rw [Nat.zero_add, List.nil_append] at hvE; rw [Nat.zero_add] at hat; have HN0 : Hid (∀ k, (Value.slice A' L.length c').ownBlock = some k → k = w.heap.size + 1 ∨ k = w.heap.size + 1 + 1) := (fun k hk => by rw [hk] at hat; simp [Value.ownBlock] at hat; omega); have HvE := Lib.hid hvE; have HAT := Lib.hid hat; clear hvE hat hgr hbl hrz hx8) | (refine step_cells_push rfl (.tmp 12) (.tmp 16) _ rfl w.heap.size 62 (.agg #[.int .i64 0, .int .i64 0, .int .i64 0, .int .i64 0]) 4 32 Try.underlying25 infoAr rfl P04 P3232 (.slice (some ⟨w.heap.size + 1 + 1, 0, none⟩) 0 0) 0 [] ?_ HM2.out p2 0 L.length C2 (fa L) ?_ LEN.out CE2.out (fa_one _) ROOM.out BASE2.out ?_; rfl; rfl; intro A' c' wz hvE hgr hbl hat; have hbz : Below w.heap.size w wz := HB2.out.trans hbl; have hrz := RR2.out.grown hgr (fun e => by simp [Value.ownBlock] at e; try omega); have HRZ := Lib.hid hrz; have hx8 : True ∧ True := ⟨trivial, trivial⟩; rw [Nat.zero_add, List.nil_append] at hvE; rw [Nat.zero_add] at hat; have hbx := RB2.out.grown hgr (fun e => by simp [Value.ownBlock] at e; try omega); have y0 := hbx.cell 0; have y1 := hbx.cell 1; have y2 := hbx.cell 2; have y3 := hbx.cell 3; have y4 := hbx.cell 4; have f0 := hbx.frozen 0; have f1 := hbx.frozen 1; have f2 := hbx.frozen 2; have f3 := hbx.frozen 3; have f4 := hbx.frozen 4; have HBX := Lib.hid hbx; clear hbx; have HN0 : Hid (∀ k, (Value.slice A' L.length c').ownBlock = some k → k = w.heap.size + 1 + 1 ∨ k = w.heap.size + 1 + 1 + 1) := (fun k hk => by rw [hk] at hat; simp [Value.ownBlock] at hat; omega); have HvE := Lib.hid hvE; have HAT := Lib.hid hat; clear hvE hat hgr hbl hrz hx8) | (refine step_cells_push rfl (.tmp 12) (.tmp 16) _ rfl w.heap.size 62 (.agg #[.int .i64 0, .int .i64 0, .int .i64 0, .int .i64 0]) 4 32 Try.underlying25 infoAr rfl P04 P3232 (.slice (some ⟨w.heap.size + 1, 0, none⟩) 0 0) 0 [] ?_ HM3.out p2 0 L.length C2 (fa L) ?_ LEN.out CE3.out (fa_one _) ROOM.out BASE3.out ?_; rfl; rfl; intro A' c' wz hvE hgr hbl hat; have hbz : Below w.heap.size w wz := HB3.out.trans hbl; have hrz := RR3.out.grown hgr (fun e => by simp [Value.ownBlock] at e; try omega); have HRZ := Lib.hid hrz; have hx8 : True ∧ True := ⟨trivial, trivial⟩; rw [Nat.zero_add, List.nil_append] at hvE; rw [Nat.zero_add] at hat; have hbx := RB3.out.grown hgr (fun e => by simp [Value.ownBlock] at e; try omega); have y0 := hbx.cell 0; have y1 := hbx.cell 1; have y2 := hbx.cell 2; have y3 := hbx.cell 3; have y4 := hbx.cell 4; have f0 := hbx.frozen 0; have f1 := hbx.frozen 1; have f2 := hbx.frozen 2; have f3 := hbx.frozen 3; have f4 := hbx.frozen 4; have HBX := Lib.hid hbx; clear hbx; have HN0 : Hid (∀ k, (Value.slice A' L.length c').ownBlock = some k → k = w.heap.size + 1 ∨ k = w.heap.size + 1 + 1 + 1) := (fun k hk => by rw [hk] at hat; simp [Value.ownBlock] at hat; omega); have HvE := Lib.hid hvE; have HAT := Lib.hid hat; clear hvE hat hgr hbl hrz hx8))
    all_goals
      go_wp2_with fail
      go_meet
      first
        | (refine ⟨wz.heap.size, A', c', by with_reducible rfl, ?_, ?_, ?_, ?_, ?_, ?_⟩
           · exact Row.new wz 28 [.int .i64 S, .int .i64 T, .slice A' L.length c', .slice none 0 0, .slice none 0 0]
           · exact World.ownsRow.alloc HvE.out _
           · exact HRZ.out.lt
           · exact ⟨fun e => by have := (HvE.out.lt _ e).2; omega, fun e => by have := HN0.out _ e; omega⟩
           · exact HRZ.out.alloc _
           · exact bwA hbz _)
        | (refine ⟨(w.heap.size + 1), A', c', by with_reducible rfl, ?_, ?_, ?_, ?_, ?_, ?_⟩
           · exact ((((HBX.out.set_ 0 (.int .i64 S)).set_ 1 (.int .i64 T)).set_ 2 (.slice A' L.length c')).set_ 3 (.slice none 0 0)).set_ 4 (.slice none 0 0)
           · exact own_move HvE.out (fun g hg => heap_set5 _ _ _ _ _ (by have := HN0.out _ hg; omega))
           · exact by omega
           · exact ⟨fun e => by have := HN0.out _ e; omega, fun e => by have := HN0.out _ e; omega⟩
           · exact ((((HRZ.out.far (show _ by first | (simp; done) | (simp; omega) | omega) _).far (show _ by first | (simp; done) | (simp; omega) | omega) _).far (show _ by first | (simp; done) | (simp; omega) | omega) _).far (show _ by first | (simp; done) | (simp; omega) | omega) _).far (show _ by first | (simp; done) | (simp; omega) | omega) _
           · exact bwS (bwS (bwS (bwS (bwS hbz (show _ by first | (simp; done) | (simp; omega) | omega) _) (show _ by first | (simp; done) | (simp; omega) | omega) _) (show _ by first | (simp; done) | (simp; omega) | omega) _) (show _ by first | (simp; done) | (simp; omega) | omega) _) (show _ by first | (simp; done) | (simp; omega) | omega) _)
        | (refine ⟨(w.heap.size + 1 + 1), A', c', by with_reducible rfl, ?_, ?_, ?_, ?_, ?_, ?_⟩
           · exact ((((HBX.out.set_ 0 (.int .i64 S)).set_ 1 (.int .i64 T)).set_ 2 (.slice A' L.length c')).set_ 3 (.slice none 0 0)).set_ 4 (.slice none 0 0)
           · exact own_move HvE.out (fun g hg => heap_set5 _ _ _ _ _ (by have := HN0.out _ hg; omega))
           · exact by omega
           · exact ⟨fun e => by have := HN0.out _ e; omega, fun e => by have := HN0.out _ e; omega⟩
           · exact ((((HRZ.out.far (show _ by first | (simp; done) | (simp; omega) | omega) _).far (show _ by first | (simp; done) | (simp; omega) | omega) _).far (show _ by first | (simp; done) | (simp; omega) | omega) _).far (show _ by first | (simp; done) | (simp; omega) | omega) _).far (show _ by first | (simp; done) | (simp; omega) | omega) _
           · exact bwS (bwS (bwS (bwS (bwS hbz (show _ by first | (simp; done) | (simp; omega) | omega) _) (show _ by first | (simp; done) | (simp; omega) | omega) _) (show _ by first | (simp; done) | (simp; omega) | omega) _) (show _ by first | (simp; done) | (simp; omega) | omega) _) (show _ by first | (simp; done) | (simp; omega) | omega) _)
  case rest =>
  obtain ⟨gb, A', c', rfl, HBX, HvE, hgb, HNE, HRZ, HBz⟩ := hcut
  obtain ⟨wz, rfl⟩ : ∃ x : World, x = wc := ⟨_, rfl⟩
  have hgl := HBX.out.lt
  have P01 : 0 < 1 := by omega
  have P832 : 8 ≤ 32 := by omega
  clear HM1 HM2 HM3 HB1 HB2 HB3 RB2 RB3 RR1 RR2 RR3 CE1 CE2 CE3 BASE1 BASE2 BASE3 HCE HS HB0 hfrom
  have OM3 : Hid ((wz.alloc (.cells #[] 2)).ownsRow wz.heap.size 2 1 (.slice (some ⟨wz.heap.size, 0, none⟩) 0 0) 0 []) := own_made wz wz.heap.size 2 1 (Nat.le_refl _)
  have BX3 : Hid (Below w.heap.size w (wz.alloc (.cells #[] 2))) := bwA HBz.out _
  have CL3 : Hid (∀ j u, (iv P)[j]? = some u → (wz.alloc (.cells #[] 2)).cell? ⟨p3, 0 + j, none⟩ = some u) := fun j u hu => (SlI.below h3 BX3.out (Nat.le_refl _)).cellsL j u hu
  have LN3 : Hid ((iv P).length = P.length * 1) := by show _ = _; rw [iv_length]; omega
  have RM3 : Hid (0 + P.length ≤ 4294967296) := by show _ ≤ _; omega
  have BS3 : Hid (wz.heap.size ≤ (wz.alloc (.cells #[] 2)).heap.size) := by show _ ≤ _; simp
  have m3 := (HRA.out.below BX3.out hgm).cell 3
  go_upto_region 3 with (at_builtin; refine wpList_cells_push (w0 := (wz.alloc (.cells #[] 2))) rfl (.tmp 19) (.tmp 23) _ rfl wz.heap.size 2 (.int .i64 0) 1 8 Try.underlying26 infoQ rfl P01 P832 (.slice (some ⟨wz.heap.size, 0, none⟩) 0 0) 0 [] rfl OM3.out p3 0 P.length C3 (iv P) rfl LN3.out CL3.out (iv_one _) RM3.out BS3.out ?_; intro v3 w3 ho3 hgr3 hat3; rw [Nat.zero_add, List.nil_append] at ho3; obtain ⟨B3, d3, hv3, hu3, hx3⟩ := own_form ho3; subst hv3; clear hu3 hx3; have HO3 := Lib.hid ho3; have HG3 : Hid (Below wz.heap.size wz w3) := ((Below.refl _ _).alloc (Nat.le_refl _) _).trans (grown_below OM3.out hgr3 BS3.out); have hbx := HBX.out.below HG3.out hgl; have k3 := hbx.cell 3; have f3 := hbx.frozen 3; have HBX3 := Lib.hid hbx; clear hbx ho3 hgr3 hat3)
  clear k3 f3 m3
  have HY3 := Lib.hid (HBX3.out.set_ 3 (.slice B3 P.length d3))
  have HBY3 : Hid (Below w.heap.size w (w3.setCell ⟨gb, 3, none⟩ (.slice B3 P.length d3))) := bwS (HBz.out.trans (HG3.out.mono HBz.out.size)) (by show w.heap.size ≤ gb; omega) _
  have HRR3 : Hid (Row (w3.setCell ⟨gb, 3, none⟩ (.slice B3 P.length d3)) w.heap.size 28 [.int .i64 0, .int .i64 0, .slice none 0 0, .slice none 0 0, .slice none 0 0]) := (HRZ.out.below HG3.out HRZ.out.lt).far (by show w.heap.size ≠ gb; omega) _
  have HOO3 : Hid ((w3.setCell ⟨gb, 3, none⟩ (.slice B3 P.length d3)).ownsRow wz.heap.size 2 1 (.slice B3 P.length d3) P.length (iv P)) := own_move HO3.out (fun g hg => Below.heap_setCell _ _ _ _ (by have := (HO3.out.lt g hg).1; have := hgl; show g ≠ gb; omega))
  have HA3 : Hid ((w3.setCell ⟨gb, 3, none⟩ (.slice B3 P.length d3)).ownsRow w.heap.size 62 4 (.slice A' L.length c') L.length (fa L)) := own_move HvE.out (fun g hg => (Below.heap_setCell _ _ _ _ (by show g ≠ gb; intro e; rw [e] at hg; exact HNE.out.1 hg)).trans (HG3.out.block g (HvE.out.lt g hg).2))
  have hsz3 : wz.heap.size ≤ w3.heap.size := HG3.out.size
  obtain ⟨y3, hy3⟩ : ∃ x, x = w3.setCell ⟨gb, 3, none⟩ (.slice B3 P.length d3) := ⟨_, rfl⟩
  have hsy3 : wz.heap.size ≤ y3.heap.size := by rw [hy3]; simpa using hsz3
  rw [← hy3] at HY3 HBY3 HRR3 HOO3 HA3 ⊢
  clear hy3 HO3 HBX3
  have hgy : gb < y3.heap.size := HY3.out.lt
  have OM4 : Hid ((y3.alloc (.cells #[] 2)).ownsRow y3.heap.size 2 1 (.slice (some ⟨y3.heap.size, 0, none⟩) 0 0) 0 []) := own_made y3 y3.heap.size 2 1 (Nat.le_refl _)
  have BX4 : Hid (Below w.heap.size w (y3.alloc (.cells #[] 2))) := bwA HBY3.out _
  have CL4 : Hid (∀ j u, (iv E)[j]? = some u → (y3.alloc (.cells #[] 2)).cell? ⟨p4, 0 + j, none⟩ = some u) := fun j u hu => (SlI.below h4 BX4.out (Nat.le_refl _)).cellsL j u hu
  have LN4 : Hid ((iv E).length = E.length * 1) := by show _ = _; rw [iv_length]; omega
  have RM4 : Hid (0 + E.length ≤ 4294967296) := by show _ ≤ _; omega
  have BS4 : Hid (y3.heap.size ≤ (y3.alloc (.cells #[] 2)).heap.size) := by show _ ≤ _; simp
  have m4 := (HRA.out.below BX4.out hgm).cell 4
  go_upto_region 4 with (at_builtin; refine wpList_cells_push (w0 := (y3.alloc (.cells #[] 2))) rfl (.tmp 26) (.tmp 30) _ rfl y3.heap.size 2 (.int .i64 0) 1 8 Try.underlying26 infoQ rfl P01 P832 (.slice (some ⟨y3.heap.size, 0, none⟩) 0 0) 0 [] rfl OM4.out p4 0 E.length C4 (iv E) rfl LN4.out CL4.out (iv_one _) RM4.out BS4.out ?_; intro v4 w4 ho4 hgr4 hat4; rw [Nat.zero_add, List.nil_append] at ho4; obtain ⟨B4, d4, hv4, hu4, hx4⟩ := own_form ho4; subst hv4; clear hu4 hx4; have HO4 := Lib.hid ho4; have HG4 : Hid (Below y3.heap.size y3 w4) := ((Below.refl _ _).alloc (Nat.le_refl _) _).trans (grown_below OM4.out hgr4 BS4.out); have hbx := HY3.out.below HG4.out hgy; have k4 := hbx.cell 4; have f4 := hbx.frozen 4; have HBX4 := Lib.hid hbx; clear hbx ho4 hgr4 hat4)
  clear k4 f4 m4
  have HY4 := Lib.hid (HBX4.out.set_ 4 (.slice B4 E.length d4))
  have HBY4 : Hid (Below w.heap.size w (w4.setCell ⟨gb, 4, none⟩ (.slice B4 E.length d4))) := bwS (HBY3.out.trans (HG4.out.mono HBY3.out.size)) (by show w.heap.size ≤ gb; omega) _
  have HRR4 : Hid (Row (w4.setCell ⟨gb, 4, none⟩ (.slice B4 E.length d4)) w.heap.size 28 [.int .i64 0, .int .i64 0, .slice none 0 0, .slice none 0 0, .slice none 0 0]) := (HRR3.out.below HG4.out HRR3.out.lt).far (by show w.heap.size ≠ gb; omega) _
  have HOO4 : Hid ((w4.setCell ⟨gb, 4, none⟩ (.slice B4 E.length d4)).ownsRow y3.heap.size 2 1 (.slice B4 E.length d4) E.length (iv E)) := own_move HO4.out (fun g hg => Below.heap_setCell _ _ _ _ (by have := (HO4.out.lt g hg).1; have := hgy; show g ≠ gb; omega))
  have HA4 : Hid ((w4.setCell ⟨gb, 4, none⟩ (.slice B4 E.length d4)).ownsRow w.heap.size 62 4 (.slice A' L.length c') L.length (fa L)) := own_move HA3.out (fun g hg => (Below.heap_setCell _ _ _ _ (by show g ≠ gb; intro e; rw [e] at hg; exact HNE.out.1 hg)).trans (HG4.out.block g (HA3.out.lt g hg).2))
  have HP4 : Hid ((w4.setCell ⟨gb, 4, none⟩ (.slice B4 E.length d4)).ownsRow wz.heap.size 2 1 (.slice B3 P.length d3) P.length (iv P)) := own_move HOO3.out (fun g hg => (Below.heap_setCell _ _ _ _ (by show g ≠ gb; intro e; have := (HOO3.out.lt g hg).1; omega)).trans (HG4.out.block g (HOO3.out.lt g hg).2))
  have hsz4 : y3.heap.size ≤ w4.heap.size := HG4.out.size
  obtain ⟨y4, hy4⟩ : ∃ x, x = w4.setCell ⟨gb, 4, none⟩ (.slice B4 E.length d4) := ⟨_, rfl⟩
  have hsy4 : y3.heap.size ≤ y4.heap.size := by rw [hy4]; simpa using hsz4
  rw [← hy4] at HY4 HBY4 HRR4 HOO4 HA4 HP4 ⊢
  clear hy4 HO4 HBX4
  have k0 := HY4.out.cell 0; have k1 := HY4.out.cell 1; have k2 := HY4.out.cell 2; have k3 := HY4.out.cell 3; have k4 := HY4.out.cell 4
  have s0 := HRR4.out.cell 0; have s1 := HRR4.out.cell 1; have s2 := HRR4.out.cell 2; have s3 := HRR4.out.cell 3; have s4 := HRR4.out.cell 4
  have f0 := HRR4.out.frozen 0; have f1 := HRR4.out.frozen 1; have f2 := HRR4.out.frozen 2; have f3 := HRR4.out.frozen 3; have f4 := HRR4.out.frozen 4
  go_wp2_with fail
  clear k0 k1 k2 k3 k4 s0 s1 s2 s3 s4 f0 f1 f2 f3 f4
  have hF := (((((HRR4.out.set_ 0 (.int .i64 S)).set_ 1 (.int .i64 T)).set_ 2 (.slice A' L.length c')).set_ 3 (.slice B3 P.length d3)).set_ 4 (.slice B4 E.length d4))
  refine bodyPost_ret (results_cell1M rfl _ _ w.heap.size 28 #[.int .i64 S, .int .i64 T, .slice A' L.length c', .slice B3 P.length d3, .slice B4 E.length d4] (0, 0) _ rfl hF Try.underlying28 rfl (by kernel_rfl)) rfl ?_
  have hzz := HRZ.out.lt; have hzw := HBz.out.size
  have hka : ∀ k, (Value.slice A' L.length c').ownBlock = some k → k < wz.heap.size := fun k hk => (HvE.out.lt k hk).2
  refine ⟨A', c', B3, d3, B4, d4, rfl, own_move HA4.out (fun g hg => heap_set5 _ _ _ _ _ (by intro e; rw [e] at hg; exact HNE.out.2 hg)), World.ownsRow.mono (own_move HP4.out (fun g hg => heap_set5 _ _ _ _ _ (by have := (HP4.out.lt g hg).1; omega))) (by omega), World.ownsRow.mono (own_move HOO4.out (fun g hg => heap_set5 _ _ _ _ _ (by have := (HOO4.out.lt g hg).1; omega))) (by omega), ?_, ?_, ?_, ?_⟩
  · intro k h1 h2; have := hka k h1; have := (HP4.out.lt k h2).1; omega
  · intro k h1 h2; have := hka k h1; have := (HOO4.out.lt k h2).1; omega
  · intro k h1 h2; have := (HOO3.out.lt k h1).2; have := (HOO4.out.lt k h2).1; omega
  · exact bwS (bwS (bwS (bwS (bwS (HBY4.out) (Nat.le_refl _) _) (Nat.le_refl _) _) (Nat.le_refl _) _) (Nat.le_refl _) _) (Nat.le_refl _) _
end Go.Proofs.Ytegponioggpkcaa
