/- guess of the program. -/
import Derived.Test.YtbdfbmohdbigfaaMhc
import Derived.Deep.LoopGhost
import Derived.Deep.CutRange
import Derived.Deep.RegionHeld3
import Derived.Deep.RegionLaw
import Derived.Deep.DrawnRows

namespace Go.Proofs.Ytbdfbmohdbigfaa
open Go.RowKit Go.Maps
attribute [local go_sem ↓] Go.wp_at_zero Go.wp_at_succ
set_option linter.unusedVariables false
theorem infoSL : (Try.prog.info? 26).map (fun i => (i.zero, i.size, i.bytes)) = some (some (.slice none 0 0), 1, 24) := by kernel_rfl
theorem results_2cell {P : Program} {fn : Func} {p q : Tmp} {ty : TypeId} (h : fn.results = #[.tmp q, .cell p ty]) (tmps : Array Value) (w : World) (g : Nat) (t : TypeId) (cs : Array Value) (fr : Nat × Nat) (d : TypeDesc) (u : Value)
    (hp : tmps.getD p undef = .pointer (some ⟨g, 0, none⟩)) (hq : tmps.getD q undef = u) (hg : w.heap[g]? = some (.cells cs t fr))
    (hu : P.underlying ty = some d) (hd : (match d with | .struct _ | .array _ _ => true | _ => false) = true) (hi : (P.info? ty).map (·.size) = some cs.size) :
    (results fn tmps).run P w = .ok (.tuple #[u, .agg cs]) w := by
  have hp' : tmps[p]?.getD undef = .pointer (some ⟨g, 0, none⟩) := by simpa using hp
  have hq' : tmps[q]?.getD undef = u := by simpa using hq
  simp [results, h, hp', hq', asAddr, run_loadVar_row w g t ty cs fr d hg hu hd hi]
theorem iReadsN_any {S T : Nat} {A2 : Option Addr} {n2 : Nat} (c2 : Nat) {A3 : Option Addr} {n3 : Nat} (c3 : Nat) {P : List Int} {E : List Bool} {A : Option Addr} {n : Nat} (c : Nat) {x : World} (h : PlOk x S T A2 n2 A3 n3 P E) (ys : List Nat) (hx : SlI x x.heap.size A n (natW ys)) (hy : ∀ y ∈ ys, y < T) (hl : n ≤ 1000) :
    Calls Try.prog 47 #[.agg #[.int .i64 (S : Int), .int .i64 (T : Int), .slice A2 n2 c2, .slice A3 n3 c3], .slice A n c] x fun e y => e = .returned (.bool (rdP T P E ys)) ∧ Below x.heap.size x y := by
  have hS := h.hS; have hT := h.hT
  have C := iReads_any S (T : Int) A2 n2 c2 A3 n3 c3 P A n c (natW ys) x h.h2 hx E h.h3 h.hE ⟨by omega, by omega⟩ ⟨by omega, by omega⟩ (by rw [h.hn]; simp) h.hP (by
    unfold allIn
    rw [List.all_eq_true]
    intro z hz
    obtain ⟨y, hy1, rfl⟩ := List.mem_map.1 hz
    have := hy y hy1
    exact decide_eq_true (by omega)) hl
  rw [rnW_nat h.hn h.h2.len h.hP (by omega) hy, Int.toNat_natCast] at C
  exact C
theorem own_raise {w : World} {lo lo' sz n : Nat} {t : TypeId} {v : Value} {xs : List Value} (h : w.ownsRow lo t sz v n xs) (hb : ∀ k, v.ownBlock = some k → lo' ≤ k) : w.ownsRow lo' t sz v n xs := by
  obtain ⟨h1, h2⟩ := h
  rcases h2 with h2 | ⟨g, c, cs, rfl, -, h4⟩
  · exact ⟨h1, .inl h2⟩
  · exact ⟨h1, .inr ⟨g, c, cs, rfl, hb g rfl, h4⟩⟩
theorem xb_endR {x0 w x' : World} {lo lo' g : Nat} {t4 : TypeId} {z4 : Nat} {a b v2 v3 v4 : Value} {n3 n4 : Nat} {Nx : List Int} {E : List Bool} {X4 : List Value} {gm gr : Nat} {om og : Obj} (h : Xb x0 w lo g 33 2 4 t4 z4 a b v2 v3 v4 Nx.length n3 n4 (iv Nx) (bv E) X4 gm gr om og) (hn : n3 = E.length)
    (hs : x'.heap.size = w.heap.size) (hk : ∀ k, k ≠ g → k ≠ gr → x'.heap[k]? = w.heap[k]?) (l2 : ∀ k, v2.ownBlock = some k → lo' ≤ k) (l3 : ∀ k, v3.ownBlock = some k → lo' ≤ k) (S T : Int) : PlW x' lo' (.agg #[.int .i64 S, .int .i64 T, v2, v3]) S T Nx E := by
  subst hn
  have o2 : x'.ownsRow lo 2 1 v2 Nx.length (iv Nx) := own_move h.o2 (fun k q => hk k (h.d2 k q).1 (h.d2 k q).2.2.1)
  have o3 : x'.ownsRow lo 4 1 v3 E.length (bv E) := own_move h.o3 (fun k q => hk k (h.d3 k q).1 (h.d3 k q).2.2.1)
  exact ⟨v2, v3, rfl, OwnV.of (own_raise o2 l2), OwnV.of (own_raise o3 l3), fun k q => (h.d2 k q).2.2.2.1⟩
/-- What guess hands out. -/
def GuPost (bd : Nat → Prop) (S T : Nat) (P : List Int) (E : List Bool) (Q W : List (List Nat)) (base g1 : Nat) (w : World) (e : Ending) (w' : World) : Prop := ∃ (g' c' : Nat) (ws' : List Value) (v : Value), e = .returned (.tuple #[.slice (some ⟨g', 0, none⟩) (gsW T P E Q W).length c', v])
  ∧ w'.ownsRow base 26 1 (.slice (some ⟨g', 0, none⟩) (gsW T P E Q W).length c') (gsW T P E Q W).length ws' ∧ El w' (gsW T P E Q W) ws' (fun b => b = g' ∨ bd b) ∧ (g' = g1 ∨ w.heap.size ≤ g')
  ∧ PlW w' w.heap.size v ((gsW T P E Q W).length : Int) (T : Int) (gsP T P E Q W) (gsD T P E Q W) ∧ Lo w.heap.size g1 w w'

set_option maxRecDepth 100000 in
set_option maxHeartbeats 16000000 in
theorem iGuess_any (S T : Nat) (A2 : Option Addr) (n2 c2 : Nat) (A3 : Option Addr) (n3 c3 : Nat) (P : List Int) (E : List Bool) (base g1 c1 : Nat) (W : List (List Nat)) (ws : List Value) (AQ : Option Addr) (nQ cQ : Nat) (Q : List (List Nat)) (w : World)
    (hte : TeO S T P E) (hwd : WdO T P E Q W) (hq1 : ∀ q ∈ Q, ∀ y ∈ q, y < T) (hq2 : ∀ q ∈ Q, q.length ≤ 1000) (hq3 : Q.length ≤ 100000)
    (hown : w.ownsRow base 26 1 (.slice (some ⟨g1, 0, none⟩) W.length c1) W.length ws) (bd : Nat → Prop) (hbd : ∀ b, bd b → b < w.heap.size) (hel : El w W ws (fun b => b = g1 ∨ bd b))
    (hPl : ∀ x, Lo w.heap.size g1 w x → PlOk x S T A2 n2 A3 n3 P E) (hQ : ∀ x, Lo w.heap.size g1 w x → TsO x AQ nQ Q) :
    Calls Try.prog 83 #[.agg #[.int .i64 (S : Int), .int .i64 (T : Int), .slice A2 n2 c2, .slice A3 n3 c3], .slice (some ⟨g1, 0, none⟩) W.length c1, .slice AQ nQ cQ] w (GuPost bd S T P E Q W base g1 w) := by
  have hbg := hown.lt g1 rfl
  have hW64 : W.length ≤ 64 := Nat.le_trans (hwd.len hte) hte.hS.2
  have hS64 := hte.hS; have hT4 := hte.hT
  have r1 := Row.new w 33 (BxP (S : Int) (T : Int) A2 n2 c2 A3 n3 c3)
  have r2 := Row.new (w.alloc (.cells (BxP (S : Int) (T : Int) A2 n2 c2 A3 n3 c3).toArray 33)) 33 [.int .i64 0, .int .i64 0, .slice none 0 0, .slice none 0 0]
  rw [show (w.alloc (.cells (BxP (S : Int) (T : Int) A2 n2 c2 A3 n3 c3).toArray 33)).heap.size = w.heap.size + 1 by simp] at r2
  have hm := heap_alloc_new ((w.alloc (.cells (BxP (S : Int) (T : Int) A2 n2 c2 A3 n3 c3).toArray 33)).alloc (.cells ([.int .i64 0, .int .i64 0, .slice none 0 0, .slice none 0 0] : List Value).toArray 33)) (.map #[] 0)
  rw [show ((w.alloc (.cells (BxP (S : Int) (T : Int) A2 n2 c2 A3 n3 c3).toArray 33)).alloc (.cells ([.int .i64 0, .int .i64 0, .slice none 0 0, .slice none 0 0] : List Value).toArray 33)).heap.size = w.heap.size + 2 by simp] at hm
  have hx1 : Below w.heap.size w (((w.alloc (.cells (BxP (S : Int) (T : Int) A2 n2 c2 A3 n3 c3).toArray 33)).alloc (.cells ([.int .i64 0, .int .i64 0, .slice none 0 0, .slice none 0 0] : List Value).toArray 33)).alloc (.map #[] 0)) := (((Below.refl _ _).alloc (Nat.le_refl _) _).alloc (by simp) _).alloc (by simp; omega) _
  have r1' := (r1.alloc (.cells ([.int .i64 0, .int .i64 0, .slice none 0 0, .slice none 0 0] : List Value).toArray 33)).alloc (.map #[] 0)
  have r2' := r2.alloc (.map #[] 0)
  obtain ⟨w1, hw1⟩ : ∃ x, x = (((w.alloc (.cells (BxP (S : Int) (T : Int) A2 n2 c2 A3 n3 c3).toArray 33)).alloc (.cells ([.int .i64 0, .int .i64 0, .slice none 0 0, .slice none 0 0] : List Value).toArray 33)).alloc (.map #[] 0)) := ⟨_, rfl⟩
  rw [← hw1] at hm hx1 r1' r2'
  have R1 := Lib.hid r1'; have R2 := Lib.hid r2'; have HM := Lib.hid hm; have HX1 := Lib.hid hx1; have HTE := Lib.hid hte; have HWD := Lib.hid hwd; have HQ1 := Lib.hid hq1; have HQ2 := Lib.hid hq2; have HQ3 := Lib.hid hq3; have HOWN := Lib.hid hown; have HEL := Lib.hid hel; have HPL := Lib.hid hPl; have HQ := Lib.hid hQ; have HBG := Lib.hid hbg; have HW64 := Lib.hid hW64; have HBD := Lib.hid hbd
  have HW1 := Lib.hid hw1
  have hmm := @run_makeMap Try.prog
  have KU := keyS
  have HRK : Hid (∀ (x : World) (A : Option Addr) (c : Nat) (wd : List Nat), Lo w.heap.size g1 w x → SlI x x.heap.size A wd.length (natW wd) → (∀ y ∈ wd, y < T) → wd.length ≤ 1000 → Calls Try.prog 115 #[.agg #[.int .i64 (S : Int), .int .i64 (T : Int), .slice A2 n2 c2, .slice A3 n3 c3], .slice A wd.length c, .slice AQ nQ cQ] x fun e y => e = .returned (.string (kbS ((rkW T P E Q) wd))) ∧ Below x.heap.size x y) := fun x A c wd hx hs hy hl => iRowKey_any c2 c3 c cQ x (HPL.out x hx) wd hs hy hl (HQ.out x hx) HQ1.out HQ2.out HQ3.out
  have HOKS : Hid (∀ wd : List Nat, okS ((rkW T P E Q) wd)) := fun wd => by unfold okS rkW; rw [List.length_map]; exact HQ3.out
  have HT4 := Lib.hid hT4
  clear hbd r1 r2 hm hx1 r1' r2' hte hwd hq1 hq2 hq3 hown hel hPl hQ hbg hw1 hS64 hT4
  go_enter Try.func83, Try.ntmps83
  go_wp2_with fail
  clear hmm
  go_loopg [21] W.length (fun m i wr => ∃ (k : Nat) (om : Obj), i = .int .i64 (k : Int) ∧ k ≤ W.length ∧ W.length ≤ m + k ∧ Hid (But (w.heap.size + 2) w1 wr) ∧ Hid (wr.heap[w.heap.size + 2]? = some om) ∧ Hid (NamesO kvS om ((W.map (rkW T P E Q)).take k)))
  case atStart => exact ⟨0, .map #[] 0, rfl, by omega, by omega, (by first | exact But.refl _ _ | (rw [HW1.out]; exact But.refl _ _)), (by first | exact HM.out | (rw [← HW1.out]; exact HM.out)), NamesO.nil _⟩
  case round =>
    obtain ⟨k, om, rfl, hk, hm, HB, HMo, HNO⟩ := hrel
    obtain ⟨wo, rfl⟩ : ∃ x : World, x = wr := ⟨_, rfl⟩
    have HLo : Hid (Lo w.heap.size g1 w wo) := (Lo.below HX1.out (Nat.le_refl _)).trans ⟨HB.out.1, HB.out.2.1, HB.out.2.2.1, HB.out.2.2.2.1, fun q hq _ => HB.out.2.2.2.2 q (by have := HX1.out.size; omega) (by omega)⟩
    have HR1 : Hid (Row wo w.heap.size 33 (BxP (S : Int) (T : Int) A2 n2 c2 A3 n3 c3)) := (HB.out.2.2.2.2 _ R1.out.lt (by omega)).trans R1.out
    by_cases hlt : k < W.length
    · obtain ⟨wd, hwd⟩ : ∃ x, W[k]? = some x := ⟨_, List.getElem?_eq_getElem hlt⟩
      have hwl : ws.length = W.length := by have := HOWN.out.1; omega
      obtain ⟨u, hu⟩ : ∃ u, ws[k]? = some u := ⟨_, List.getElem?_eq_getElem (by omega)⟩
      obtain ⟨A, c, rfl, hnA, hsl, hbd⟩ := HEL.out k wd u hwd hu
      have c0w := own_cellU HOWN.out hu
      have hxw : Below w.heap.size w wo := HX1.out.trans (HB.out.below (by omega) HX1.out.size)
      have c0 : wo.cell? ⟨g1, k, none⟩ = some (.slice A wd.length c) := (hxw.cell (p := ⟨g1, k, none⟩) HBG.out.2).trans c0w
      have C := Lib.hid (HRK.out wo A c wd HLo.out ((hsl.below hxw (Nat.le_refl _)).more hxw.size) (HWD.out.let_ wd (List.mem_of_getElem? hwd)) (by have := HWD.out.short k wd hwd; have := HW64.out; omega))
      have k0 := HR1.out.cell 0; have k1 := HR1.out.cell 1; have k2 := HR1.out.cell 2; have k3 := HR1.out.cell 3
      have q1 : (k : Int) < (W.length : Int) := by omega
      have q0 : (0 : Int) ≤ (k : Int) := by omega
      have HTK : Hid ((W.map (rkW T P E Q)).take (k + 1) = (W.map (rkW T P E Q)).take k ++ [(rkW T P E Q) wd]) := by
        show _ = _
        obtain ⟨h1, h2⟩ := List.getElem?_eq_some_iff.1 hwd
        rw [List.take_succ_eq_append_getElem (by rw [List.length_map]; exact h1), List.getElem_map, h2]
      have HND := HWD.out.nd
      have HNW : Hid ((rkW T P E Q) wd ∉ (W.map (rkW T P E Q)).take k) := by
        intro hin
        have h1 : ((W.map (rkW T P E Q)).take k ++ [(rkW T P E Q) wd]).Nodup := by rw [← HTK.out]; exact HND.sublist (List.take_sublist _ _)
        rw [List.nodup_append] at h1
        exact h1.2.2 _ hin _ (by simp) rfl
      have HNT : Hid (((W.map (rkW T P E Q)).take k).Nodup) := HND.sublist (List.take_sublist _ _)
      have HLK : Hid (((W.map (rkW T P E Q)).take k).length = k) := by show _ = _; rw [List.length_take, List.length_map]; omega
      have HOL : Hid (∀ y ∈ (W.map (rkW T P E Q)).take k, okS y) := fun y hy => by
        obtain ⟨x, -, rfl⟩ := List.mem_map.1 (List.mem_of_mem_take hy)
        exact HOKS.out x
      have hwk : IntKind.i64.wrap ((k : Int) + 1) = (k : Int) + 1 := IntWalk.i64_in _ (by have := HW64.out; omega)
      clear hwd hu hsl hbd c0w hxw HND
      go_wp2_with fail
      refine C.out.mono ?_
      rintro e w2 ⟨rfl, hb2⟩
      have HB2 : Hid (But (w.heap.size + 2) w1 w2) := HB.out.trans (But.of_below hb2 (Nat.le_refl _))
      have HM2 : Hid (w2.heap[w.heap.size + 2]? = some om) := (hb2.block _ (hp_lt HMo.out)).trans HMo.out
      clear C hb2 k0 k1 k2 k3 c0
      go_wp2_with (refine wpList_names_put2 KU w2 rfl (.tmp 26) (.tmp 30) (.tmp 31) (.inl rfl) (w.heap.size + 2) (L := (W.map (rkW T P E Q)).take k) HOL.out HNT.out HM2.out HNO.out (y := (rkW T P E Q) wd) (HOKS.out wd) HNW.out rfl rfl (by rw [HLK.out]; rfl) ?_; intro w3 om3 hb3 ho3 hbut; have HM3 := Lib.hid hb3; have HN3 := Lib.hid ho3; have HB3 := Lib.hid (HB2.out.trans hbut); clear hb3 ho3 hbut)
      go_roundg (gk - 1)
      case measure => omega
      case rel => exact ⟨k + 1, om3, by go_num, by omega, by omega, HB3.out, HM3.out, by rw [HTK.out]; exact HN3.out⟩
    · have hkn : k = W.length := by omega
      subst hkn
      have dk : decide (W.length < W.length) = false := decide_eq_false (by omega)
      have HNO' : Hid (NamesO kvS om (W.map (rkW T P E Q))) := by
        have := HNO.out
        rw [List.take_of_length_le (by rw [List.length_map]; omega)] at this
        exact this
      have k1 := HR1.out.cell 1
      clear hlt HNO

      have hxw : Below w.heap.size w wo := HX1.out.trans (HB.out.below (by omega) HX1.out.size)
      have hlB : Below w.heap.size w (w.alloc (.cells (BxP (S : Int) (T : Int) A2 n2 c2 A3 n3 c3).toArray 33)) := (Below.refl _ _).alloc (Nat.le_refl _) _
      have hszB : (w.alloc (.cells (BxP (S : Int) (T : Int) A2 n2 c2 A3 n3 c3).toArray 33)).heap.size = w.heap.size + 1 := by simp
      have hrB : Row (w.alloc (.cells (BxP (S : Int) (T : Int) A2 n2 c2 A3 n3 c3).toArray 33)) w.heap.size 33 (BxP (S : Int) (T : Int) A2 n2 c2 A3 n3 c3) := Row.new w 33 (BxP (S : Int) (T : Int) A2 n2 c2 A3 n3 c3)
      have hkB : ∀ q, q < w.heap.size + 1 → wo.heap[q]? = (w.alloc (.cells (BxP (S : Int) (T : Int) A2 n2 c2 A3 n3 c3).toArray 33)).heap[q]? := fun q hq => by
        rcases Nat.lt_or_ge q w.heap.size with h1 | h1
        · exact (hxw.block q h1).trans (hlB.block q h1).symm
        · rw [show q = w.heap.size by omega]; exact HR1.out.trans hrB.symm
      obtain ⟨wB, hwB⟩ : ∃ x, x = (w.alloc (.cells (BxP (S : Int) (T : Int) A2 n2 c2 A3 n3 c3).toArray 33)) := ⟨_, rfl⟩
      rw [← hwB] at hlB hszB hrB hkB
      have hbB : Below w.heap.size wB wo := ⟨by rw [hxw.os, hlB.os], by rw [hxw.tape, hlB.tape], by rw [hxw.output, hlB.output], by rw [hszB]; exact HR1.out.lt, fun q hq => hkB q (by omega)⟩
      have HLB : Hid (∀ x, Lo (w.heap.size + 1) g1 wB x → Lo w.heap.size g1 w x) := fun x hx => ⟨by rw [hx.1, hlB.os], by rw [hx.2.1, hlB.tape], by rw [hx.2.2.1, hlB.output], by have := hx.2.2.2.1; omega, fun q h1 h2 => (hx.2.2.2.2 q (by omega) h2).trans (hlB.block q h1)⟩
      have HRB := Lib.hid hrB
      have hgr0 : Row wo (w.heap.size + 1) 33 [.int .i64 0, .int .i64 0, .slice none 0 0, .slice none 0 0] := (HB.out.2.2.2.2 _ R2.out.lt (by omega)).trans R2.out
      have hwoS : w.heap.size + 2 < wo.heap.size := hp_lt HMo.out
      obtain ⟨g, hg⟩ : ∃ q, q = wo.heap.size := ⟨_, rfl⟩
      obtain ⟨wG, hwG⟩ : ∃ x, x = wo.alloc (.cells ([.int .i64 0, .int .i64 (T : Int), .slice none 0 0, .slice none 0 0] : List Value).toArray 33) := ⟨_, rfl⟩
      have hrG : Row wG g 33 ([.int .i64 0, .int .i64 (T : Int), .slice none 0 0, .slice none 0 0] : List Value) := by rw [hwG, hg]; exact Row.new wo 33 _
      have hbG : Below wo.heap.size wo wG := by rw [hwG]; exact (Below.refl _ _).alloc (Nat.le_refl _) _
      have hel2 := HEL.out
      have hgsz : wo.heap.size ≤ wG.heap.size := hbG.size
      have HGS : Hid (Gs bd wB wG base (w.heap.size + 1) g1 g (w.heap.size + 2) (w.heap.size + 1) T (.slice none 0 0) (.slice none 0 0) (.slice (some ⟨g1, 0, none⟩) W.length c1) ([] : List Int) ([] : List Bool) W ws om) := by
        have hbase : base ≤ w.heap.size := by have := HBG.out; omega
        refine ⟨⟨hrG, ((hbB.mono hbase).trans (hbG.mono (by omega))), by omega, by omega, World.ownsRow_nil _ _ _ _, World.ownsRow_nil _ _ _ _, own_move HOWN.out (fun k hk => ?_), fun k hk => by simp [Value.ownBlock] at hk, fun k hk => by simp [Value.ownBlock] at hk, fun k hk => ?_, (hbG.block _ hwoS).trans HMo.out, (hbG.block _ (by omega)).trans hgr0, ⟨by omega, by omega, by omega⟩, ⟨by omega, by omega⟩⟩, ?_, ?_, fun k hk => by simp [Value.ownBlock] at hk, fun k hk => by simp [Value.ownBlock] at hk, fun k hk => ?_, ⟨by omega, by omega, by omega⟩, by omega⟩
        · have h1 := (HOWN.out.lt k hk).2
          exact (hbG.block k (by omega)).trans (hxw.block k h1)
        · simp [Value.ownBlock] at hk
          subst hk
          have := HBG.out
          exact ⟨by omega, by omega, by omega⟩
        · refine hel2.step (by omega) (fun b hb hn => (hbG.block b (by omega)).trans (hxw.block b hb)) (fun b hb q => ?_)
          rcases q with q | q | q | q | q | q | q
          · omega
          · omega
          · omega
          · simp [Value.ownBlock] at q
          · simp [Value.ownBlock] at q
          · simp [Value.ownBlock] at q; exact .inl q.symm
          · exact .inr q
        · exact ⟨by rw [hbG.os, hbB.os], by rw [hbG.tape, hbB.tape], by rw [hbG.output, hbB.output], by omega, fun q hq h2 => (hbG.block q (by omega)).trans (hkB q hq)⟩
        · simp [Value.ownBlock] at hk; exact .inl hk.symm
      have HWG := Lib.hid hwG; have HGG := Lib.hid hg
      have HB1 : Hid (wB.heap.size = w.heap.size + 1) := hszB
      clear hwG hg hlB hszB hrB hkB hbB hgr0 hwoS hrG hbG hel2 hgsz hxw HB HMo HR1 HLo
      go_upto_region 8 with fail
      rw [← HWG.out]
      try rw [← HGG.out]
      clear k1
      go_wp2_with fail
      go_loopg [1, 12] 65 (fun m l i wr => ∃ (n g4 c4 : Nat) (v2 v3 : Value) (om : Obj) (ws' : List Value), l = .slice (some ⟨g4, 0, none⟩) (gsA T P E Q W n).1.length c4 ∧ i = .int .i64 (n : Int) ∧ Hid (m + n = 65) ∧ Hid (n ≤ (gsA T P E Q W n).1.length) ∧ Hid (gsE T P E Q W m n = gsN T P E Q W) ∧ Hid (Gs bd wB wr base (w.heap.size + 1) g1 g (w.heap.size + 2) (w.heap.size + 1) T v2 v3 (.slice (some ⟨g4, 0, none⟩) (gsA T P E Q W n).1.length c4) (gsA T P E Q W n).2 (((gsA T P E Q W n).1.take n).map (rdP T P E)) (gsA T P E Q W n).1 ws' om) ∧ Hid (NamesO kvS om ((gsA T P E Q W n).1.map (rkW T P E Q))))
      case atStart => exact ⟨0, g1, c1, .slice none 0 0, .slice none 0 0, om, ws, rfl, rfl, rfl, Nat.zero_le _, rfl, HGS.out, HNO'.out⟩
      case round =>
        clear HGS HNO'
        obtain ⟨n, g4, c4, v2, v3, om, ws', rfl, rfl, HMN, HNL, HE, HG, HNO⟩ := hrel
        obtain ⟨wo, rfl⟩ : ∃ x : World, x = wr := ⟨_, rfl⟩
        obtain ⟨gq, hgq⟩ : ∃ q : Nat, q = gk := ⟨_, rfl⟩
        rw [← hgq] at HMN HE
        have INV : Hid (GsI T P E Q W (gsA T P E Q W n) n 0) := gsA_inv HWD.out n HNL.out
        have HL64 : Hid ((gsA T P E Q W n).1.length ≤ 64) := Nat.le_trans (INV.out.wd.len HTE.out) HTE.out.hS.2
        obtain ⟨st, hst⟩ : ∃ s, s = gsA T P E Q W n := ⟨_, rfl⟩
        rw [← hst] at HNL HG HNO INV HL64 ⊢
        have HST := Lib.hid hst
        clear hst
        have j0 : (0 : Int) ≤ (n : Int) := by omega
        have hl64 := HL64.out
        have hnl := HNL.out
        have WN : IntKind.i64.wrap ((n : Int) + 1) = (n : Int) + 1 := IntWalk.i64_in _ (by omega)
        clear hl64 hnl
        by_cases hlt : n < st.1.length
        · obtain ⟨wd, hwd⟩ : ∃ x, st.1[n]? = some x := ⟨_, List.getElem?_eq_getElem hlt⟩
          obtain ⟨u, hu⟩ : ∃ u, ws'[n]? = some u := ⟨_, List.getElem?_eq_getElem (by rw [HG.out.wl]; exact hlt)⟩
          obtain ⟨A, c, rfl, hnA, hsl, -⟩ := HG.out.el n wd u hwd hu
          have c0 := own_cellU HG.out.xb.o4 hu
          have HK := Lib.hid hwd
          have hLo := HLB.out wo HG.out.kp
          have hbx : Row wo w.heap.size 33 (BxP (S : Int) (T : Int) A2 n2 c2 A3 n3 c3) := (HG.out.kp.2.2.2.2 _ (by omega) (by have := HBG.out; omega)).trans HRB.out
          have k0 := hbx.cell 0; have k1 := hbx.cell 1; have k2 := hbx.cell 2; have k3 := hbx.cell 3
          have e3 := HG.out.xb.row.cell 3
          have l1 : (n : Int) < (st.1.length : Int) := by omega
          obtain ⟨e, he⟩ : ∃ e, e = rdP T P E wd := ⟨_, rfl⟩
          have HEN := Lib.hid he
          have hwl := INV.out.wd.let_ wd (List.mem_of_getElem? hwd)
          have hwsh := INV.out.wd.short n wd hwd
          have HWL := Lib.hid hwl
          have HWS : Hid (wd.length ≤ 64) := by show _ ≤ _; have := HL64.out; omega
          have CR : Hid (Calls Try.prog 47 #[.agg #[.int .i64 (S : Int), .int .i64 (T : Int), .slice A2 n2 c2, .slice A3 n3 c3], .slice A wd.length c] wo.drew fun e' y => e' = .returned (.bool e) ∧ Below wo.heap.size wo.drew y) := by
            rw [he]
            exact iReadsN_any c2 c3 c (HPL.out wo.drew hLo) wd hsl hwl (by have := HWS.out; omega)
          have P01 : 0 < 1 := by omega
          have P132 : 1 ≤ 32 := by omega
          have ROOM : Hid (n + 1 ≤ 4294967296) := by show _ ≤ _; have := HL64.out; omega
          have HTL : Hid (((st.1.take n).map (rdP T P E)).length = n) := by show _ = _; rw [List.length_map, List.length_take]; omega
          have HTL2 : Hid (((st.1.take (n + 1)).map (rdP T P E)).length = n + 1) := by show _ = _; rw [List.length_map, List.length_take]; omega
          have HTE2 : Hid (bv ((st.1.take n).map (rdP T P E)) ++ [.bool e] = bv ((st.1.take (n + 1)).map (rdP T P E))) := by
            show _ = _
            obtain ⟨hh, hk'⟩ := List.getElem?_eq_some_iff.1 hwd
            rw [List.take_succ_eq_append_getElem hh, List.map_append, bv_append, hk', HEN.out]; rfl
          have hv3 := own_form HG.out.xb.o3
          obtain ⟨A3', c3', rfl, -, -⟩ := hv3
          rw [HTL.out] at e3
          clear hwd hu hsl hnA he hwl hwsh hLo hbx
          go_upto_region 11 with fail
          go_cut [] from 42 to 52 (fun wx => ∃ (A5 : Option Addr) (d5 : Nat), Hid (Gs bd wB wx base (w.heap.size + 1) g1 g (w.heap.size + 2) (w.heap.size + 1) T v2 (.slice A5 (n + 1) d5) (.slice (some ⟨g4, 0, none⟩) st.1.length c4) st.2 ((st.1.take (n + 1)).map (rdP T P E)) st.1 ws' om))
          case first =>
            go_region_law (first
              | (rw [if_pos (by rfl)]; go_simp; go_at_call 47; refine (CR.out).mono ?_; rintro e' wz ⟨rfl, hbz⟩; have HZ := Lib.hid (HG.out.drew.call hbz (Nat.le_refl _)); clear hbz; have z3 := HZ.out.xb.row.cell 3; have HZA := Lib.hid (HZ.out.alloc (.cells ([.bool e] : List Value).toArray 4)); have za3 := HZA.out.xb.row.cell 3; rw [HTL.out] at z3 za3; have HNEW : Hid (∀ j' u, ([.bool e] : List Value)[j']? = some u → (wz.alloc (.cells ([.bool e] : List Value).toArray 4)).cell? ⟨wz.heap.size, 0 + j', none⟩ = some u) := (fun j' u hu => by rw [Nat.zero_add]; exact ((Row.new wz 4 [.bool e]).cell j').trans hu); have HO3 : Hid ((wz.alloc (.cells ([.bool e] : List Value).toArray 4)).ownsRow base 4 1 (.slice A3' n c3') n (bv ((st.1.take n).map (rdP T P E)))) := (by have h := HZA.out.xb.o3; rw [HTL.out] at h; exact h))
              | (refine step_cells_push rfl (.tmp 43) (.tmp 50) _ rfl base 4 (.bool false) 1 1 Try.underlying31 infoBU rfl P01 P132 (.slice A3' n c3') n (bv ((st.1.take n).map (rdP T P E))) ?_ HO3.out wz.heap.size 0 1 1 [.bool e] ?_ rfl HNEW.out (bv_one [e]) ROOM.out HZA.out.xb.size ?_; rfl; rfl; intro A5 d5 wv hown hgr hbl hat; have hgr2 := hgr; have hrow := HZA.out.xb.row.grown (row := (Value.slice A3' n c3').ownBlock) hgr (fun e => (HZA.out.xb.d3 _ (by rw [HTL.out]; exact e.symm)).1 rfl); have y3 := hrow.cell 3; rw [HTL.out] at y3; have f3 := hrow.frozen 3; have HP := Lib.hid (HZA.out.push3 (D' := ((st.1.take (n + 1)).map (rdP T P E))) (u := .slice A5 (n + 1) d5) (by rw [HTL2.out, ← HTE2.out]; exact hown) (by rw [HTL.out]; exact hgr) (by rw [HTL.out]; exact at_grown hat)); clear hrow hown hgr hbl hat hgr2))
            all_goals
              try clear e3
              try clear z3
              try clear za3
              try clear y3
              try clear f3
              try clear k0
              try clear k1
              try clear k2
              try clear k3
              try clear c0
              go_wp2_with fail
              go_meet
              exact ⟨A5, d5, HP.out⟩
          case rest =>
          obtain ⟨A5, d5, HP⟩ := hcut
          clear e3 P01 P132 ROOM HTE2 CR k0 k2 k3 c0 HG HTL
          have hbx : Row wc w.heap.size 33 (BxP (S : Int) (T : Int) A2 n2 c2 A3 n3 c3) := (HP.out.kp.2.2.2.2 _ (by omega) (by have := HBG.out; omega)).trans HRB.out
          have k1' := hbx.cell 1
          clear hbx k1
          go_wp2_with fail
          clear k1'
          go_loopg [1, 55] T (fun m l j wr => ∃ (i g5 c5 : Nat) (u2 : Value) (om' : Obj) (wz : List Value), l = .slice (some ⟨g5, 0, none⟩) (gsR T P E Q wd st i).1.length c5 ∧ j = .int .i64 (i : Int) ∧ i ≤ T ∧ T ≤ m + i ∧ Hid (GsI T P E Q W (gsR T P E Q wd st i) n i) ∧ Hid (Gs bd wB wr base (w.heap.size + 1) g1 g (w.heap.size + 2) (w.heap.size + 1) T u2 (.slice A5 (n + 1) d5) (.slice (some ⟨g5, 0, none⟩) (gsR T P E Q wd st i).1.length c5) (gsR T P E Q wd st i).2 ((st.1.take (n + 1)).map (rdP T P E)) (gsR T P E Q wd st i).1 wz om') ∧ Hid (NamesO kvS om' ((gsR T P E Q wd st i).1.map (rkW T P E Q))))
          case atStart => exact ⟨0, g4, c4, v2, om, ws', rfl, rfl, by omega, by omega, INV.out, HP.out, HNO.out⟩
          case round =>
            clear HP HNO
            obtain ⟨i, g5, c5, u2, om', wz, rfl, rfl, hiT, hmi, HV, HG, HNO⟩ := hrel
            obtain ⟨wi, rfl⟩ : ∃ x : World, x = wr := ⟨_, rfl⟩
            obtain ⟨gi, hgi⟩ : ∃ q : Nat, q = gk := ⟨_, rfl⟩
            rw [← hgi] at hmi
            have HSTE : Hid ((gsR T P E Q wd st i).1[n]? = some wd) := by
              show _ = _
              obtain ⟨r, hr⟩ := gsR_app (T := T) (P := P) (E := E) (Q := Q) wd st i
              rw [hr]; exact get_left HK.out
            obtain ⟨si, hsi⟩ : ∃ s, s = gsR T P E Q wd st i := ⟨_, rfl⟩
            rw [← hsi] at HV HG HNO HSTE ⊢
            have HSI := Lib.hid hsi
            clear hsi
            have hlen2 := HV.out.len
            have HL64i : Hid (si.1.length ≤ 64) := Nat.le_trans (HV.out.wd.len HTE.out) HTE.out.hS.2
            have hl64 := HL64i.out
            have ht4 := HT4.out
            have i0 : (0 : Int) ≤ (i : Int) := by omega
            have wii : IntKind.i64.wrap ((i : Int) + 1) = (i : Int) + 1 := IntWalk.i64_in _ (by omega)
            have hnl : n < si.1.length := (List.getElem?_eq_some_iff.1 HSTE.out).1
            have LN2 : Hid (si.2.length + 1 ≤ 4294967296) := by
              show _ ≤ _
              have : n * T ≤ 64 * 4 := Nat.mul_le_mul (by omega) ht4.2
              omega
            have LN1 : Hid (si.1.length + 1 ≤ 4294967296) := by show _ ≤ _; omega
            have HNLS := Lib.hid hnl
            have ht4b : T ≤ 4 := ht4.2
            have HT4b := Lib.hid ht4b
            clear hlen2 hl64 ht4 ht4b
            by_cases hlt2 : i < T
            · have l3 : (i : Int) < (T : Int) := by omega
              obtain ⟨ui, hui⟩ : ∃ u, wz[n]? = some u := ⟨_, List.getElem?_eq_getElem (by rw [HG.out.wl]; exact HNLS.out)⟩
              obtain ⟨Ai, ci, rfl, hnA, hsl, -⟩ := HG.out.el n wd ui HSTE.out hui
              have c0 := own_cellU HG.out.xb.o4 hui
              have l1i : (n : Int) < (si.1.length : Int) := by have := HNLS.out; omega
              have hnw : (natW wd).length = wd.length := by unfold natW; simp
              have HNWL := Lib.hid hnw
              have CC : Hid (Calls Try.prog 48 #[.slice Ai wd.length ci] wi fun e y => ∃ A' c', e = .returned (.slice A' wd.length c') ∧ RowI y wi.heap.size 2 (.slice A' wd.length c') (natW wd) ∧ Below wi.heap.size wi y) := by
                refine (iClo_any Ai wd.length ci (natW wd) wi hnA hsl (by have := HWS.out; omega)).mono ?_
                rintro e y ⟨A', c', rfl, h1, h2⟩
                rw [HNWL.out] at h1 ⊢
                exact ⟨A', c', rfl, h1, h2⟩
              have PWD : Hid ((natW wd).length + 1 ≤ 4294967296) := by show _ ≤ _; rw [hnw]; have := HWS.out; omega
              have HXW : Hid (∀ y ∈ wd ++ [i], y < T) := fun y hy => by
                rcases List.mem_append.1 hy with h | h
                · exact HWL.out y h
                · rw [show y = i from by simpa using h]; exact hlt2
              clear hui hsl hnA hnw
              go_wp2_with (first
                | (go_at_call 48; refine CC.out.mono ?_; rintro e yC ⟨A', c', rfl, hrC, hbC⟩; have HRC := Lib.hid hrC; have HBC := Lib.hid hbC; have HLEN : Hid ((natW wd).length = wd.length) := HNWL.out; have hszC : wi.heap.size ≤ yC.heap.size := hbC.size; clear hrC hbC)
                | (at_builtin; refine wpList_int_push yC rfl (.tmp 62) (.tmp 64) _ rfl wi.heap.size 2 Try.underlying26 infoIU (.slice A' wd.length c') (natW wd) rfl HRC.out (i : Int) rfl PWD.out hszC ?_; intro g6 c6 w6 hown hbl hat hgr; have HR6 := Lib.hid hown; have HB6 := Lib.hid (HBC.out.trans hbl); have HG6 := Lib.hid (HG.out.call HB6.out (Nat.le_refl _)); have hbx : Row w6 w.heap.size 33 (BxP (S : Int) (T : Int) A2 n2 c2 A3 n3 c3) := ((HG6.out.kp.2.2.2.2 _ (by omega) (by have := HBG.out; omega)).trans HRB.out); have k0 := hbx.cell 0; have k1 := hbx.cell 1; have k2 := hbx.cell 2; have k3 := hbx.cell 3; clear hown hbl hat hgr hbx))
              rw [HNWL.out] at HR6
              try rw [HNWL.out]
              have HR6' : Hid (RowI w6 wi.heap.size 2 (.slice (some ⟨g6, 0, none⟩) (wd ++ [i]).length c6) (natW (wd ++ [i]))) := by
                show RowI _ _ _ _ _
                rw [List.length_append, show natW (wd ++ [i]) = natW wd ++ [(i : Int)] from by unfold natW; rw [List.map_append]; rfl]
                exact HR6.out
              have HX6 : Hid ((wd ++ [i]).length = wd.length + 1) := by show _ = _; simp
              have HS6 : Hid (SlI w6 w6.heap.size (some ⟨g6, 0, none⟩) (wd ++ [i]).length (natW (wd ++ [i]))) := RowI.sl HR6'.out (by unfold natW; simp)
              have hg6 := World.ownsRow.lt HR6.out g6 rfl
              have HBAD : Hid (¬ badG bd g (w.heap.size + 2) (w.heap.size + 1) u2 (.slice A5 (n + 1) d5) (.slice (some ⟨g5, 0, none⟩) si.1.length c5) g6) := by
                intro q
                have h1 := hg6.1
                rcases q with q | q | q | q | q | q | q
                · have := HG.out.xb.row.lt; omega
                · have := heap_lt HG.out.xb.hm; omega
                · have := heap_lt HG.out.xb.hr; omega
                · have := (HG.out.xb.o2.lt _ q).2; omega
                · have := (HG.out.xb.o3.lt _ q).2; omega
                · have := (HG.out.xb.o4.lt _ q).2; omega
                · have := HBD.out _ q; have := HG.out.size; omega
              have CK := Lib.hid (HRK.out w6 (some ⟨g6, 0, none⟩) c6 (wd ++ [i]) (HLB.out w6 HG6.out.kp) HS6.out HXW.out (by rw [HX6.out]; have := HWS.out; omega))
              rw [HX6.out] at CK
              obtain ⟨key, hkey⟩ : ∃ x, x = (rkW T P E Q) (wd ++ [i]) := ⟨_, rfl⟩
              rw [← hkey] at CK
              have HKEY := Lib.hid hkey
              clear hkey hg6 c0 CC
              try go_wp2_with fail
              refine CK.out.mono ?_
              rintro e w7 ⟨rfl, hb7⟩
              have HG7 := Lib.hid (HG6.out.call hb7 (Nat.le_refl _))
              have HS7 : Hid (SlI w7 w7.heap.size (some ⟨g6, 0, none⟩) (wd ++ [i]).length (natW (wd ++ [i]))) := (HS6.out.below hb7 (Nat.le_refl _)).more hb7.size
              have HOLi : Hid (∀ y ∈ si.1.map (rkW T P E Q), okS y) := fun y hy => by
                obtain ⟨x, -, rfl⟩ := List.mem_map.1 hy
                exact HOKS.out x
              have HOKK : Hid (okS key) := by rw [HKEY.out]; exact HOKS.out _
              clear hb7 CK k0 k1 k2 k3 HG6 HS6
              by_cases hin : key ∈ si.1.map (rkW T P E Q)
              · obtain ⟨q, hq⟩ : ∃ q, q = ixL (si.1.map (rkW T P E Q)) key := ⟨_, rfl⟩
                have HQE : Hid ((q : Int) = ((ixL (si.1.map (rkW T P E Q)) key : Nat) : Int)) := by show _ = _; rw [hq]
                have HIN := Lib.hid hin
                have HRN : Hid (gsR T P E Q wd st (i + 1) = (si.1, si.2 ++ [(q : Int)])) := by
                  show _ = _
                  have h := gsR_in (T := T) (P := P) (E := E) (Q := Q) (w := wd) (st := st) (l := i) (by rw [← HSI.out, ← HKEY.out]; exact hin)
                  rw [h, ← HSI.out, ← HKEY.out, hq]
                have HVN : Hid (GsI T P E Q W (si.1, si.2 ++ [(q : Int)]) n (i + 1)) := by
                  have h := HV.out.old HSTE.out hlt2 (by rw [← HKEY.out]; exact hin)
                  rw [← HKEY.out, ← hq] at h
                  exact h
                have e2 := HG7.out.xb.row.cell 2
                clear hin hq
                go_wp2_with (first
                  | (refine wpList_names_look2 KU w7 rfl (.tmp 71) (.tmp 72) rfl (w.heap.size + 2) HOLi.out HV.out.wd.nd HG7.out.xb.hm HNO.out (y := key) HOKK.out (q : Int) true (.inl ⟨rfl, HIN.out, HQE.out⟩) rfl rfl ?_)
                  | (at_builtin; refine wpList_int_push w7 rfl (.tmp 88) (.tmp 90) _ rfl base 2 Try.underlying26 infoIU u2 si.2 rfl HG7.out.xb.o2 (q : Int) rfl LN2.out HG7.out.xb.size ?_; intro g8 c8 w8 hown hbl hat hgr; have hrow := HG7.out.xb.row.grown hgr (fun e => (HG7.out.xb.d2 _ e.symm).1 rfl); have y2 := hrow.cell 2; have f2 := hrow.frozen 2; have HG8 := Lib.hid (HG7.out.push2 (u := .slice (some ⟨g8, 0, none⟩) (si.2.length + 1) c8) (N' := si.2 ++ [(q : Int)]) hown hgr (at_push hat)); clear hrow hown hbl hat hgr))
                try clear e2
                try clear y2
                try clear f2
                clear HG7
                go_roundg (gi - 1)
                case measure => omega
                case rel =>
                  refine ⟨i + 1, g5, c5, .slice (some ⟨g8, 0, none⟩) (si.2.length + 1) c8, om', wz, by rw [HRN.out], by go_num, by omega, by omega, ?_⟩
                  rw [HRN.out]
                  exact ⟨HVN.out, HG8.out, HNO.out⟩
              · have HRN : Hid (gsR T P E Q wd st (i + 1) = (si.1 ++ [wd ++ [i]], si.2 ++ [((si.1.length : Nat) : Int)])) := by
                  show _ = _
                  have h := gsR_new (T := T) (P := P) (E := E) (Q := Q) (w := wd) (st := st) (l := i) (by rw [← HSI.out, ← HKEY.out]; exact hin)
                  rw [h, ← HSI.out]
                have HVN : Hid (GsI T P E Q W (si.1 ++ [wd ++ [i]], si.2 ++ [((si.1.length : Nat) : Int)]) n (i + 1)) := HV.out.fresh HSTE.out hlt2 (by rw [← HKEY.out]; exact hin)
                have HIN := Lib.hid hin
                have HML : Hid ((si.1.map (rkW T P E Q)).length = si.1.length) := by show _ = _; rw [List.length_map]
                clear hin
                go_wp2_with (first
                  | (refine wpList_names_look2 KU w7 rfl (.tmp 71) (.tmp 72) rfl (w.heap.size + 2) HOLi.out HV.out.wd.nd HG7.out.xb.hm HNO.out (y := key) HOKK.out 0 false (.inr ⟨rfl, HIN.out, rfl⟩) rfl rfl ?_)
                  | (refine wpList_names_put2 KU w7 rfl (.tmp 80) (.tmp 81) (.tmp 82) (.inl rfl) (w.heap.size + 2) (L := si.1.map (rkW T P E Q)) HOLi.out HV.out.wd.nd HG7.out.xb.hm HNO.out (y := key) HOKK.out HIN.out rfl rfl (by rw [HML.out]; rfl) ?_; intro w8 om8 hb8 ho8 hbut; have HG8 := Lib.hid (HG7.out.map hbut hb8); have HN8 := Lib.hid ho8; have HS8 : Hid (SlI w8 w8.heap.size (some ⟨g6, 0, none⟩) (wd ++ [i]).length (natW (wd ++ [i]))) := slI_keep HS7.out hbut.2.2.2.1 (fun b o e h0 => hbut.2.2.2.2 b (by injection e with e; injection e with e1 _ _; have := World.ownsRow.lt HR6.out g6 rfl; have := HG7.out.xb.bel.size; have hq := HS7.out.2 h0; obtain ⟨b', o', e', hb', -⟩ := hq; injection e' with e'; injection e' with e2 _ _; omega) (fun e3 => HBAD.out (.inr (.inl (by injection e with e; injection e with e1 _ _; omega))))); clear hb8 ho8 hbut)
                  | (at_builtin; (refine wpList_push w8 rfl (.tmp 83) (.tmp 85) _ rfl base 26 (.slice none 0 0) 24 Try.underlying63 infoSL rfl (.slice (some ⟨g5, 0, none⟩) si.1.length c5) si.1.length wz rfl HG8.out.xb.o4 (.slice (some ⟨g6, 0, none⟩) (wd.length + 1) c6) rfl rfl LN1.out (by omega) HG8.out.xb.size ?_; intro g9 c9 w9 hown hgr hat hlt9 hcap9; have HG9 := Lib.hid (HG8.out.push4 (u := .slice (some ⟨g9, 0, none⟩) (si.1.length + 1) c9) (wd := wd ++ [i]) (A := some ⟨g6, 0, none⟩) (c := c6) (by rw [HX6.out]; exact hown) hgr (at_push hat) (.inr ⟨g6, 0, rfl⟩) HS8.out (fun b o e _ q => HBAD.out (by injection e with e; injection e with e1 _ _; rw [e1]; exact q))); have e2 := HG9.out.xb.row.cell 2; clear hown hgr hat hlt9 hcap9))
                  | (at_builtin; (refine wpList_int_push w9 rfl (.tmp 88) (.tmp 90) _ rfl base 2 Try.underlying26 infoIU u2 si.2 rfl HG9.out.xb.o2 (si.1.length : Int) rfl LN2.out HG9.out.xb.size ?_; intro g8 c8 wv hown hbl hat hgr; have hrow := HG9.out.xb.row.grown hgr (fun e => (HG9.out.xb.d2 _ e.symm).1 rfl); have y2 := hrow.cell 2; have f2 := hrow.frozen 2; have HGv := Lib.hid (HG9.out.push2 (u := .slice (some ⟨g8, 0, none⟩) (si.2.length + 1) c8) (N' := si.2 ++ [(si.1.length : Int)]) hown hgr (at_push hat)); clear hrow hown hbl hat hgr)))
                try clear e2
                try clear y2
                try clear f2
                clear HG7
                clear HG8
                clear HG9
                go_roundg (gi - 1)
                case measure => omega
                case rel =>
                  refine ⟨i + 1, g9, c9, .slice (some ⟨g8, 0, none⟩) (si.2.length + 1) c8, om8, wz ++ [.slice (some ⟨g6, 0, none⟩) (wd ++ [i]).length c6], by rw [HRN.out]; simp, by go_num, by omega, by omega, ?_⟩
                  rw [HRN.out]
                  refine ⟨HVN.out, ?_, ?_⟩
                  · have := HGv.out
                    simp only [List.length_append, List.length_cons, List.length_nil] at this ⊢
                    exact this
                  · have := HN8.out
                    rw [HKEY.out] at this
                    rw [List.map_append]; exact this
            · have hT' : i = T := by omega
              have l3 : (T : Int) ≤ (i : Int) := by omega
              have HEX : Hid (gsA T P E Q W (n + 1) = si) := by show _ = _; rw [gsA_succ (by rw [← HST.out]; exact HK.out), ← HST.out, HSI.out, hT']
              have hfu : ∃ f, gq = f + 1 := ⟨gq - 1, by have := HMN.out; have := HL64.out; omega⟩
              clear hlt2
              go_wp2_with fail
              go_roundg (gq - 1)
              case measure => obtain ⟨f, hf⟩ := hfu; omega
              case rel =>
                obtain ⟨f, hf⟩ := hfu
                have hge : n + 1 ≤ si.1.length := HNLS.out
                have hEE : gsE T P E Q W (gq - 1) (n + 1) = gsN T P E Q W := by
                  rw [← HE.out, hf, gsE, ← HST.out, if_pos hlt]; rfl
                have hte : ((st.1.take (n + 1)).map (rdP T P E)) = ((si.1.take (n + 1)).map (rdP T P E)) := by
                  obtain ⟨r, hr⟩ := gsR_app (T := T) (P := P) (E := E) (Q := Q) wd st i
                  rw [← HSI.out] at hr
                  rw [hr, List.take_append_of_le_length (by omega)]
                have hX := HG.out
                rw [hte] at hX
                refine ⟨n + 1, g5, c5, u2, (.slice A5 (n + 1) d5), om', wz, by rw [HEX.out], by go_num, ?_, ?_⟩
                · have q1 := HMN.out
                  show _ + _ = 65
                  omega
                rw [HEX.out]
                exact ⟨hge, hEE, hX, HNO.out⟩
        · have hnn : n = st.1.length := by have := HNL.out; omega
          have l1 : (st.1.length : Int) ≤ (n : Int) := by omega
          have HGN : Hid (gsN T P E Q W = n) := by
            show _ = _
            rw [← HE.out]
            cases gq with
            | zero => rfl
            | succ f => rw [gsE, ← HST.out, if_neg hlt]
          have hGW : gsW T P E Q W = st.1 := by unfold gsW; rw [HGN.out, ← HST.out]
          have hGP : gsP T P E Q W = st.2 := by unfold gsP; rw [HGN.out, ← HST.out]
          have hGD : gsD T P E Q W = ((st.1.take n).map (rdP T P E)) := by unfold gsD; rw [hGW, List.take_of_length_le (by omega)]
          have HGW := Lib.hid hGW; have HGP := Lib.hid hGP; have HGD := Lib.hid hGD
          have hR : Row wo (w.heap.size + 1) 33 [.int .i64 0, .int .i64 0, .slice none 0 0, .slice none 0 0] := HG.out.xb.hr
          have RR := Lib.hid hR
          have hG := HG.out.xb.row
          have b0 := hG.cell 0; have b1 := hG.cell 1; have b2 := hG.cell 2; have b3 := hG.cell 3; have z0 := hG.frozen 0
          have k0 := hR.cell 0; have k1 := hR.cell 1; have k2 := hR.cell 2; have k3 := hR.cell 3
          have f0 := hR.frozen 0; have f1 := hR.frozen 1; have f2 := hR.frozen 2; have f3 := hR.frozen 3
          obtain ⟨A2', c2', hv2, -⟩ := own_form HG.out.xb.o2
          obtain ⟨A3', c3', hv3, -⟩ := own_form HG.out.xb.o3
          have HLE : Hid (((st.1.take n).map (rdP T P E)).length = n) := by show _ = _; rw [List.length_map, List.length_take]; omega
          rw [HLE.out] at hv3
          have HNE := Lib.hid hnn
          have hgr : w.heap.size + 1 ≠ g := HG.out.xb.er.2
          clear hGW hGP hGD hG hR hlt hnn
          subst hv2; subst hv3
          have RR2 := Lib.hid (RR.out.far (p := ⟨g, 0, none⟩) hgr (.int .i64 (st.1.length : Int)))
          go_upto_region 25 with fail
          go_region_law fail
          go_wp2_with fail
          clear b0 b1 b2 b3 z0 k0 k1 k2 k3 f0 f1 f2 f3
          have hF := (((((RR2.out.set_ 0 (.int .i64 (st.1.length : Int))).set_ 1 (.int .i64 (T : Int))).set_ 2 (.slice A2' st.2.length c2')).set_ 3 (.slice A3' n c3'))).drew
          refine bodyPost_ret (results_2cell rfl _ _ (w.heap.size + 1) 33 #[.int .i64 (st.1.length : Int), .int .i64 (T : Int), .slice A2' st.2.length c2', .slice A3' n c3'] (0, 0) _ (.slice (some ⟨g4, 0, none⟩) st.1.length c4) rfl rfl hF Try.underlying33 rfl (by kernel_rfl)) rfl ?_
          clear hF
          obtain ⟨wF, hwF⟩ : ∃ x, x = ((((((wo.setCell ⟨g, 0, none⟩ (.int .i64 (st.1.length : Int))).setCell ⟨w.heap.size + 1, 0, none⟩ (.int .i64 (st.1.length : Int))).setCell ⟨w.heap.size + 1, 1, none⟩ (.int .i64 (T : Int))).setCell ⟨w.heap.size + 1, 2, none⟩ (.slice A2' st.2.length c2')).setCell ⟨w.heap.size + 1, 3, none⟩ (.slice A3' n c3')).drew : World) := ⟨_, rfl⟩
          rw [← hwF]
          have hsz : wF.heap.size = wo.heap.size := by rw [hwF]; simp [World.setCell, World.drew]
          have hke : ∀ k, k ≠ g → k ≠ w.heap.size + 1 → wF.heap[k]? = wo.heap[k]? := fun k h1 h2 => by
            rw [hwF]
            exact (set4_heap _ _ _ _ _ _ _ h2).trans (Below.heap_setCell _ _ _ _ h1)
          have hot : wF.os = wo.os ∧ wF.tape = wo.tape ∧ wF.output = wo.output := by rw [hwF]; exact ⟨rfl, rfl, rfl⟩
          have hlo : w.heap.size + 1 ≤ g := HG.out.lg.1
          have hLo := HLB.out wo HG.out.kp
          clear hwF
          refine ⟨g4, c4, ws', .agg #[.int .i64 (st.1.length : Int), .int .i64 (T : Int), .slice A2' st.2.length c2', .slice A3' n c3'], by rw [HGW.out], ?_, ?_, ?_, ?_, ?_⟩
          · rw [HGW.out]
            exact own_move HG.out.xb.o4 (fun k q => hke k (HG.out.xb.d4 k q).1 (HG.out.xb.d4 k q).2.2)
          · rw [HGW.out]
            exact HG.out.el.step (by rw [hsz]; exact Nat.le_refl _) (fun b _ hn => hke b (fun e => hn (.inl e)) (fun e => hn (.inr (.inr (.inl e))))) (fun b _ q => Or.elim q (fun q => .inr (.inr (.inr (.inr (.inr (.inl (by rw [q]; rfl))))))) (fun q => .inr (.inr (.inr (.inr (.inr (.inr q)))))))
          · rcases HG.out.l4 g4 rfl with e | e
            · exact .inl e
            · exact .inr (by omega)
          · rw [HGW.out, HGP.out, HGD.out]
            exact xb_endR HG.out.xb rfl hsz hke (fun k h => by have := HG.out.l2 k h; omega) (fun k h => by have := HG.out.l3 k h; omega) _ _
          · exact hLo.trans ⟨hot.1, hot.2.1, hot.2.2, by rw [hsz]; exact Nat.le_refl _, fun k hk hg => hke k (by omega) (by omega)⟩

end Go.Proofs.Ytbdfbmohdbigfaa