/- LeastPlain: its closures and the whole. -/
import Derived.Test.YtbdfbmohdbigfaaMhd
import Derived.Test.YtbdfbmohdbigfaaMhe
import Derived.Deep.RegionHeld3
import Derived.Deep.CutRange

namespace Go.Proofs.Ytbdfbmohdbigfaa
open Go.RowKit
set_option linter.unusedVariables false
@[local go_sem] theorem run_store_func {P : Program} {w : World} {a : Addr} {m : Mode} (f : Fn) (cs bs : Array Value) : (store a (.func f cs bs) m).run P w = stored P w a (.func f cs bs) m := run_store P w a _ m rfl
theorem iMember_any (gc g S : Nat) (C : List Nat) (k : Nat) (w : World) (hc : Row w gc 26 [.slice (some ⟨g, 0, none⟩) S S]) (hr : Row w g 2 (iv (natW C))) (hn : C.length = S) (hS : S ≤ 64) (hk : k ∈ C) :
    Calls Try.prog 88 #[.int .i64 (k : Int), .pointer (some ⟨gc, 0, none⟩)] w fun e w' => e = .returned (.int .i64 ((ixL C k : Nat) : Int)) ∧ Below w.heap.size w w' := by
  have CI := iIndexN_any g S S C k w hr hn (by omega) hk
  have c0 := hc.cell 0
  clear hc hr hn hS hk
  go_enter Try.func88, Try.ntmps88
  go_wp2_with fail
  refine CI.mono ?_
  rintro e w' ⟨rfl, d, rfl⟩
  clear CI c0
  go_wp2_with fail
  go_ret
  exact ⟨rfl, below_draws (Below.refl _ _) d⟩

set_option maxRecDepth 100000 in
set_option maxHeartbeats 8000000 in
theorem iLpN_any (gc gp gf g S T : Nat) (A2 : Option Addr) (n2 c2 : Nat) (A3 : Option Addr) (n3 c3 : Nat) (P : List Int) (E : List Bool) (C : List Nat) (w : World) (hc : Row w gc 26 [.slice (some ⟨g, 0, none⟩) S S]) (hp : Row w gp 33 (BxP (S : Int) (T : Int) A2 n2 c2 A3 n3 c3)) (hf : Row w gf 68 [.func (.func 88) #[] #[.pointer (some ⟨gc, 0, none⟩)]]) (hr : Row w g 2 (iv (natW C))) (hn : C.length = S) (h : PlOk w S T A2 n2 A3 n3 P E) (k l : Nat) (hk : k ∈ C) (hl : l < T) :
    Calls Try.prog 90 #[.int .i64 (k : Int), .int .i64 (l : Int), .pointer (some ⟨gc, 0, none⟩), .pointer (some ⟨gp, 0, none⟩), .pointer (some ⟨gf, 0, none⟩)] w fun e w' => e = .returned (.int .i64 ((C.getD (plT T P (ixL C k) l) 0 : Nat) : Int)) ∧ Below w.heap.size w w' := by
  have hix := (ix_at hk).2
  obtain ⟨s, hs⟩ : ∃ x, x = ixL C k := ⟨_, rfl⟩
  rw [← hs] at hix ⊢
  have hsS : s < S := by omega
  have htS := (plT_bd h.hn h.h2.len h.hP hsS hl).2
  obtain ⟨t, ht⟩ : ∃ x, x = plT T P s l := ⟨_, rfl⟩
  rw [← ht] at htS ⊢
  obtain ⟨cv, hcv⟩ : ∃ x, x = C.getD t 0 := ⟨_, rfl⟩
  rw [← hcv]
  have hMem : Hid (∀ x : World, Below w.heap.size w x → Calls Try.prog 88 #[.int .i64 (k : Int), .pointer (some ⟨gc, 0, none⟩)] x fun e y => e = .returned (.int .i64 (s : Int)) ∧ Below x.heap.size x y) := fun x hx => by
    rw [hs]; exact iMember_any gc g S C k x (hc.below hx hc.lt) (hr.below hx hr.lt) hn h.hS.2 hk
  have hTo : Hid (∀ x : World, Below w.heap.size w x → Calls Try.prog 51 #[.agg #[.int .i64 (S : Int), .int .i64 (T : Int), .slice A2 n2 c2, .slice A3 n3 c3], .int .i64 (s : Int), .int .i64 (l : Int)] x fun e y => e = .returned (.int .i64 (t : Int)) ∧ Below x.heap.size x y) := fun x hx => by
    rw [ht]; exact iToN_any c2 c3 s l x (h.below hx (Nat.le_refl _)) hsS hl
  have hcel : Hid (∀ x : World, Below w.heap.size w x → (Below w.heap.size w x ∧ x.cell? ⟨gc, 0, none⟩ = some (.slice (some ⟨g, 0, none⟩) S S) ∧ x.cell? ⟨gp, 0, none⟩ = some (.int .i64 (S : Int)) ∧ x.cell? ⟨gp, 1, none⟩ = some (.int .i64 (T : Int)) ∧ x.cell? ⟨gp, 2, none⟩ = some (.slice A2 n2 c2) ∧ x.cell? ⟨gp, 3, none⟩ = some (.slice A3 n3 c3) ∧ x.cell? ⟨gf, 0, none⟩ = some (.func (.func 88) #[] #[.pointer (some ⟨gc, 0, none⟩)]) ∧ x.cell? ⟨g, t, none⟩ = some (.int .i64 (cv : Int)))) := by
    intro x hx
    have r1 := hc.below hx hc.lt; have r2 := hp.below hx hp.lt; have r3 := hf.below hx hf.lt; have r4 := hr.below hx hr.lt
    have r5 := row_nat r4 (k := t) (by omega)
    rw [← hcv] at r5
    exact ⟨hx, r1.cell 0, r2.cell 0, r2.cell 1, r2.cell 2, r2.cell 3, r3.cell 0, r5⟩
  have hkeep : Hid (∀ x y : World, Below w.heap.size w x → Below x.heap.size x y → (Below w.heap.size w y ∧ y.cell? ⟨gc, 0, none⟩ = some (.slice (some ⟨g, 0, none⟩) S S) ∧ y.cell? ⟨gp, 0, none⟩ = some (.int .i64 (S : Int)) ∧ y.cell? ⟨gp, 1, none⟩ = some (.int .i64 (T : Int)) ∧ y.cell? ⟨gp, 2, none⟩ = some (.slice A2 n2 c2) ∧ y.cell? ⟨gp, 3, none⟩ = some (.slice A3 n3 c3) ∧ y.cell? ⟨gf, 0, none⟩ = some (.func (.func 88) #[] #[.pointer (some ⟨gc, 0, none⟩)]) ∧ y.cell? ⟨g, t, none⟩ = some (.int .i64 (cv : Int)))) := fun x y hx hy => hcel.out y (hx.trans (hy.mono hx.size))
  have hfrom := hcel.out w.drew (Below.drew (Below.refl _ _))
  have t0 : (0 : Int) ≤ (t : Int) := by omega
  have t1 : (t : Int) < (S : Int) := by omega
  clear hix hs hsS htS ht hcv hc hp hf hr hn h hk hl
  go_enter Try.func90, Try.ntmps90
  go_wp2_with fail
  go_region_held3 (fun x => Below w.heap.size w x ∧ x.cell? ⟨gc, 0, none⟩ = some (.slice (some ⟨g, 0, none⟩) S S) ∧ x.cell? ⟨gp, 0, none⟩ = some (.int .i64 (S : Int)) ∧ x.cell? ⟨gp, 1, none⟩ = some (.int .i64 (T : Int)) ∧ x.cell? ⟨gp, 2, none⟩ = some (.slice A2 n2 c2) ∧ x.cell? ⟨gp, 3, none⟩ = some (.slice A3 n3 c3) ∧ x.cell? ⟨gf, 0, none⟩ = some (.func (.func 88) #[] #[.pointer (some ⟨gc, 0, none⟩)]) ∧ x.cell? ⟨g, t, none⟩ = some (.int .i64 (cv : Int))) (first | (with_reducible assumption) | (have h := hcel.out _ (by (with_reducible (apply And.left; assumption))); exact h))
    (first
      | (go_at_call 88; ((with_reducible refine (hMem.out _ (by first | (with_reducible assumption) | (with_reducible (apply And.left; assumption)))).mono ?_); rintro e yA ⟨rfl, hbA⟩); have sA := (fun h => hkeep.out _ _ h hbA) (by first | (with_reducible assumption) | (with_reducible (apply And.left; assumption))); clear hbA)
      | (go_at_call 51; ((with_reducible refine (hTo.out _ (by first | (with_reducible assumption) | (with_reducible (apply And.left; assumption)))).mono ?_); rintro e yB ⟨rfl, hbB⟩); have sB := (fun h => hkeep.out _ _ h hbB) (by first | (with_reducible assumption) | (with_reducible (apply And.left; assumption))); clear hbB))

  all_goals
    go_wp2_with fail
    go_ret
    exact ⟨rfl, sB.1⟩

set_option maxRecDepth 100000 in
set_option maxHeartbeats 8000000 in
theorem iLpE_any (gc gp gf g S T : Nat) (A2 : Option Addr) (n2 c2 : Nat) (A3 : Option Addr) (n3 c3 : Nat) (P : List Int) (E : List Bool) (C : List Nat) (w : World) (hc : Row w gc 26 [.slice (some ⟨g, 0, none⟩) S S]) (hp : Row w gp 33 (BxP (S : Int) (T : Int) A2 n2 c2 A3 n3 c3)) (hf : Row w gf 68 [.func (.func 88) #[] #[.pointer (some ⟨gc, 0, none⟩)]]) (hr : Row w g 2 (iv (natW C))) (hn : C.length = S) (h : PlOk w S T A2 n2 A3 n3 P E) (k : Nat) (hk : k ∈ C) :
    Calls Try.prog 92 #[.int .i64 (k : Int), .pointer (some ⟨gp, 0, none⟩), .pointer (some ⟨gf, 0, none⟩)] w fun e w' => e = .returned (.bool (E.getD (ixL C k) false)) ∧ Below w.heap.size w w' := by
  have hix := (ix_at hk).2
  obtain ⟨s, hs⟩ : ∃ x, x = ixL C k := ⟨_, rfl⟩
  rw [← hs] at hix ⊢
  have hsS : s < S := by omega
  obtain ⟨b3, o3, ev, rfl, hbl, hev, cev⟩ := h.h3.at_ (show s < n3 by rw [h.hE]; exact hsS)
  have HEV : Hid (E.getD s false = ev) := by show _ = _; rw [List.getD_eq_getElem?_getD, hev.out]; rfl
  have hMem : Hid (∀ x : World, Below w.heap.size w x → Calls Try.prog 88 #[.int .i64 (k : Int), .pointer (some ⟨gc, 0, none⟩)] x fun e y => e = .returned (.int .i64 (s : Int)) ∧ Below x.heap.size x y) := fun x hx => by
    rw [hs]; exact iMember_any gc g S C k x (hc.below hx hc.lt) (hr.below hx hr.lt) hn h.hS.2 hk
  have hcel : Hid (∀ x : World, Below w.heap.size w x → (Below w.heap.size w x ∧ x.cell? ⟨gp, 3, none⟩ = some (.slice (some ⟨b3, o3, none⟩) n3 c3) ∧ x.cell? ⟨gf, 0, none⟩ = some (.func (.func 88) #[] #[.pointer (some ⟨gc, 0, none⟩)]) ∧ x.cell? ⟨b3, o3 + s, none⟩ = some (.bool ev))) := by
    intro x hx
    have r2 := hp.below hx hp.lt; have r3 := hf.below hx hf.lt
    exact ⟨hx, r2.cell 3, r3.cell 0, (hx.cell (p := ⟨b3, o3 + s, none⟩) hbl).trans cev⟩
  have hkeep : Hid (∀ x y : World, Below w.heap.size w x → Below x.heap.size x y → (Below w.heap.size w y ∧ y.cell? ⟨gp, 3, none⟩ = some (.slice (some ⟨b3, o3, none⟩) n3 c3) ∧ y.cell? ⟨gf, 0, none⟩ = some (.func (.func 88) #[] #[.pointer (some ⟨gc, 0, none⟩)]) ∧ y.cell? ⟨b3, o3 + s, none⟩ = some (.bool ev))) := fun x y hx hy => hcel.out y (hx.trans (hy.mono hx.size))
  have hfrom := hcel.out w.drew (Below.drew (Below.refl _ _))
  have t0 : (0 : Int) ≤ (s : Int) := by omega
  have t1 : (s : Int) < (n3 : Int) := by rw [h.hE]; omega
  clear hix hs hsS hc hp hf hr hn h hk hbl hev cev
  go_enter Try.func92, Try.ntmps92
  go_wp2_with fail
  go_region_held3 (fun x => Below w.heap.size w x ∧ x.cell? ⟨gp, 3, none⟩ = some (.slice (some ⟨b3, o3, none⟩) n3 c3) ∧ x.cell? ⟨gf, 0, none⟩ = some (.func (.func 88) #[] #[.pointer (some ⟨gc, 0, none⟩)]) ∧ x.cell? ⟨b3, o3 + s, none⟩ = some (.bool ev)) (first | (with_reducible assumption) | (have h := hcel.out _ (by (with_reducible (apply And.left; assumption))); exact h))
    (first
      | (go_at_call 88; ((with_reducible refine (hMem.out _ (by first | (with_reducible assumption) | (with_reducible (apply And.left; assumption)))).mono ?_); rintro e yA ⟨rfl, hbA⟩); have sA := (fun h => hkeep.out _ _ h hbA) (by first | (with_reducible assumption) | (with_reducible (apply And.left; assumption))); clear hbA))
  all_goals
    go_wp2_with fail
    go_ret
    exact ⟨ret_bool HEV.out.symm, sA.1⟩

/-- What LeastPlain hands out. -/
def LpPost (N T : Nat) (P' : List Int) (E' : List Bool) (w : World) (e : Ending) (w' : World) : Prop := ∃ v, e = .returned (.tuple #[v, .bool true]) ∧ PlW w' w.heap.size v (N : Int) (T : Int) P' E' ∧ Below w.heap.size w w'
set_option maxRecDepth 100000 in
set_option maxHeartbeats 16000000 in
theorem iLeastP_any (S T : Nat) (A2 : Option Addr) (n2 c2 : Nat) (A3 : Option Addr) (n3 c3 : Nat) (P : List Int) (E : List Bool) (w : World) (h : PlOk w S T A2 n2 A3 n3 P E) (hte : TeO S T P E) (N : Nat) (hN : exAll (lsN S T P E) (lsF S T P E) T = some N) :
    Calls Try.prog 31 #[.agg #[.int .i64 (S : Int), .int .i64 (T : Int), .slice A2 n2 c2, .slice A3 n3 c3]] w (LpPost N T (exA (lsN S T P E) (lsF S T P E) T N).2 ((exA (lsN S T P E) (lsF S T P E) T N).1.map (lsE S T P E)) w) := by
  have hS := h.hS; have hT := h.hT
  have r1 := (Row.new w 33 (BxP (S : Int) (T : Int) A2 n2 c2 A3 n3 c3)).alloc (.cells ([.int .i64 0, .int .i64 0, .slice none 0 0, .slice none 0 0] : List Value).toArray 33)
  have r2 := Row.new (w.alloc (.cells (BxP (S : Int) (T : Int) A2 n2 c2 A3 n3 c3).toArray 33)) 33 [.int .i64 0, .int .i64 0, .slice none 0 0, .slice none 0 0]
  rw [show (w.alloc (.cells (BxP (S : Int) (T : Int) A2 n2 c2 A3 n3 c3).toArray 33)).heap.size = w.heap.size + 1 by simp] at r2
  have hb0 : Below w.heap.size w ((w.alloc (.cells (BxP (S : Int) (T : Int) A2 n2 c2 A3 n3 c3).toArray 33)).alloc (.cells ([.int .i64 0, .int .i64 0, .slice none 0 0, .slice none 0 0] : List Value).toArray 33)) := ((Below.refl _ _).alloc (Nat.le_refl _) _).alloc (by simp) _
  have hs0 : ((w.alloc (.cells (BxP (S : Int) (T : Int) A2 n2 c2 A3 n3 c3).toArray 33)).alloc (.cells ([.int .i64 0, .int .i64 0, .slice none 0 0, .slice none 0 0] : List Value).toArray 33)).heap.size = w.heap.size + 2 := by simp
  obtain ⟨x0, hx0⟩ : ∃ x, x = ((w.alloc (.cells (BxP (S : Int) (T : Int) A2 n2 c2 A3 n3 c3).toArray 33)).alloc (.cells ([.int .i64 0, .int .i64 0, .slice none 0 0, .slice none 0 0] : List Value).toArray 33)) := ⟨_, rfl⟩
  rw [← hx0] at r1 r2 hb0 hs0
  have HV := Lib.hid ((h.below hb0 (Nat.le_refl _)).valid c2 c3)
  have HOK := Lib.hid h; have HTE := Lib.hid hte; have HN := Lib.hid hN; have R1 := Lib.hid r1; have R2 := Lib.hid r2; have HB0 := Lib.hid hb0; have HS0 := Lib.hid hs0; have HLT := Lib.hid hT
  clear r1 r2 hb0 hs0 h hte hN hS hT
  go_enter Try.func31, Try.ntmps31
  go_wp2_with fail
  change Calls _ _ _ ((w.alloc (.cells (BxP (S : Int) (T : Int) A2 n2 c2 A3 n3 c3).toArray 33)).alloc (.cells ([.int .i64 0, .int .i64 0, .slice none 0 0, .slice none 0 0] : List Value).toArray 33)) _
  rw [← hx0]
  clear hx0
  refine HV.out.mono ?_
  rintro e w1 ⟨rfl, hb1⟩
  have HB1 := Lib.hid (HB0.out.trans (hb1.mono HB0.out.size))
  have R1a := Lib.hid (R1.out.below hb1 R1.out.lt); have R2a := Lib.hid (R2.out.below hb1 R2.out.lt)
  have k0 := R1a.out.cell 0; have k1 := R1a.out.cell 1; have k2 := R1a.out.cell 2; have k3 := R1a.out.cell 3
  have CC := Lib.hid (iClasses_any S T A2 n2 c2 A3 n3 c3 P E w1 (HOK.out.below HB1.out (Nat.le_refl _)) HTE.out)
  have HSW1 : Hid (w.heap.size + 2 ≤ w1.heap.size) := by show _ ≤ _; have := hb1.size; have := HS0.out; omega
  clear hb1 HV R1 R2 HB0
  go_wp2_with fail
  refine CC.out.mono ?_
  rintro e w2 ⟨g, rfl, hrg, hgl, hb2⟩
  have HB2 := Lib.hid (HB1.out.trans (hb2.mono HB1.out.size))
  have R1b := Lib.hid (R1a.out.below hb2 R1a.out.lt); have R2b := Lib.hid (R2a.out.below hb2 R2a.out.lt)
  have HRG := Lib.hid hrg; have HGL := Lib.hid hgl
  have HSW2 : Hid (w.heap.size + 2 ≤ w2.heap.size) := by show _ ≤ _; have := hb2.size; have := HSW1.out; omega
  obtain ⟨gc, hgc⟩ : ∃ q, q = w2.heap.size := ⟨_, rfl⟩
  obtain ⟨w3, hw3⟩ : ∃ x, x = (w2.alloc (.cells ([.slice (some ⟨g, 0, none⟩) S S] : List Value).toArray 26)).alloc (.cells ([.func (.func 88) #[] #[.pointer (some ⟨gc, 0, none⟩)]] : List Value).toArray 68) := ⟨_, rfl⟩
  have hs2 : (w2.alloc (.cells ([.slice (some ⟨g, 0, none⟩) S S] : List Value).toArray 26)).heap.size = gc + 1 := by simp [hgc]
  have hb3 : Below w2.heap.size w2 w3 := by rw [hw3]; exact ((Below.refl _ _).alloc (Nat.le_refl _) _).alloc (by simp) _
  have hrc : Row w3 gc 26 [.slice (some ⟨g, 0, none⟩) S S] := by rw [hw3, hgc]; exact (Row.new w2 26 _).alloc _
  have hrf : Row w3 (gc + 1) 68 [.func (.func 88) #[] #[.pointer (some ⟨gc, 0, none⟩)]] := by rw [hw3, ← hs2]; exact Row.new _ 68 _
  have HRC := Lib.hid hrc; have HRF := Lib.hid hrf
  have HB3 := Lib.hid (HB2.out.trans (hb3.mono HB2.out.size))
  have R1c := Lib.hid (R1b.out.below hb3 R1b.out.lt); have R2c := Lib.hid (R2b.out.below hb3 R2b.out.lt)
  have HRG3 := Lib.hid (HRG.out.below hb3 HRG.out.lt)
  have HSW3 : Hid (w.heap.size + 2 ≤ w3.heap.size) := by show _ ≤ _; have := hb3.size; have := HSW2.out; omega
  have HW3 : Hid (w3 = (w2.alloc (.cells #[.slice (some ⟨g, 0, none⟩) S S] 26)).alloc (.cells #[.func (.func 88) #[] #[.pointer (some ⟨gc, 0, none⟩)]] 68)) := hw3
  have HGC := Lib.hid hgc
  have HCL : Hid ((clF S T P E).length = S) := clR_len HTE.out S
  clear hrg hgl hb2 hb3 hrc hrf hw3 hgc hs2 k0 k1 k2 k3 CC
  have k1 := R1b.out.cell 1
  go_upto_region 6 with fail

  try rw [← HGC.out]
  try rw [← HW3.out]
  clear k1
  obtain ⟨c0, hc0⟩ : ∃ x, x = lsF S T P E := ⟨_, rfl⟩
  have hcel : Hid (∀ x : World, Lo w3.heap.size (w.heap.size + 1) w3 x → (Lo w3.heap.size (w.heap.size + 1) w3 x ∧ x.cell? ⟨w.heap.size, 1, none⟩ = some (.int .i64 (T : Int)) ∧ x.cell? ⟨gc, 0, none⟩ = some (.slice (some ⟨g, 0, none⟩) S S) ∧ x.cell? ⟨g, 0, none⟩ = some (.int .i64 (c0 : Int)))) := by
    intro x hx
    have q1 := hx.row R1c.out R1c.out.lt (by omega); have q2 := hx.row HRC.out HRC.out.lt (by have := HSW2.out; have := HGC.out; omega); have q3 := hx.row HRG3.out HRG3.out.lt (by have := HGL.out; have := HSW1.out; omega)
    have q4 := row_nat q3 (k := 0) (by rw [HCL.out]; have := HTE.out.hS; omega)
    rw [show (clF S T P E).getD 0 0 = c0 from hc0.symm] at q4
    exact ⟨hx, q1.cell 1, q2.cell 0, q4⟩
  have HEX : Hid (∀ x : World, Lo w3.heap.size (w.heap.size + 1) w3 x → Calls Try.prog 91 #[.int .i64 (T : Int), .int .i64 (c0 : Int), .func (.func 90) #[] #[.pointer (some ⟨gc, 0, none⟩), .pointer (some ⟨w.heap.size, 0, none⟩), .pointer (some ⟨gc + 1, 0, none⟩)], .func (.func 92) #[] #[.pointer (some ⟨w.heap.size, 0, none⟩), .pointer (some ⟨gc + 1, 0, none⟩)]] x fun e y => ∃ (G2 : Option Addr) (e2 : Nat) (G3 : Option Addr) (e3 : Nat), e = .returned (.tuple #[.agg #[.int .i64 (N : Int), .int .i64 (T : Int), .slice G2 (exA (lsN S T P E) (lsF S T P E) T N).2.length e2, .slice G3 ((exA (lsN S T P E) (lsF S T P E) T N).1.map (lsE S T P E)).length e3], .bool true]) ∧ PlW y x.heap.size (.agg #[.int .i64 (N : Int), .int .i64 (T : Int), .slice G2 (exA (lsN S T P E) (lsF S T P E) T N).2.length e2, .slice G3 ((exA (lsN S T P E) (lsF S T P E) T N).1.map (lsE S T P E)).length e3]) (N : Int) (T : Int) (exA (lsN S T P E) (lsF S T P E) T N).2 ((exA (lsN S T P E) (lsF S T P E) T N).1.map (lsE S T P E)) ∧ Below x.heap.size x y) := by
    intro x hx
    rw [hc0]
    have hst : ∀ y, Below x.heap.size x y → Lo w3.heap.size (w.heap.size + 1) w3 y := fun y hy => hx.trans (Lo.below hy hx.2.2.2.1)
    have hgl := HGL.out; have hw1 := HSW1.out; have hw2 := HSW2.out; have hgce := HGC.out
    have hbl : ∀ y, Lo w3.heap.size (w.heap.size + 1) w3 y → Below w.heap.size w y := fun y hy => HB3.out.trans (hy.bel (by have := HSW3.out; omega) (by omega))
    refine (iExploreI_any (lsN S T P E) (lsE S T P E) (lsF S T P E) T HLT.out.2 gc w.heap.size (gc + 1) x (fun y => Below x.heap.size x y) (Below.refl _ _) (fun a b h1 h2 _ => h1.trans h2) (fun c => c ∈ clF S T P E) (fun c hc => clF_lt HTE.out hc) (lsF_ok HTE.out) (lsN_ok HTE.out) ?_ ?_).mono ?_
    · intro y k l hy hs hk hl
      have hy' := hst y hy
      exact iLpN_any gc w.heap.size (gc + 1) g S T A2 n2 c2 A3 n3 c3 P E (clF S T P E) y (hy'.row HRC.out HRC.out.lt (by omega)) (hy'.row R1c.out R1c.out.lt (by omega)) (hy'.row HRF.out HRF.out.lt (by omega)) (hy'.row HRG3.out HRG3.out.lt (by omega)) HCL.out (HOK.out.below (hbl y hy') (Nat.le_refl _)) k l hk hl
    · intro y k hy hs hk
      have hy' := hst y hy
      exact iLpE_any gc w.heap.size (gc + 1) g S T A2 n2 c2 A3 n3 c3 P E (clF S T P E) y (hy'.row HRC.out HRC.out.lt (by omega)) (hy'.row R1c.out R1c.out.lt (by omega)) (hy'.row HRF.out HRF.out.lt (by omega)) (hy'.row HRG3.out HRG3.out.lt (by omega)) HCL.out (HOK.out.below (hbl y hy') (Nat.le_refl _)) k hk
    · rintro e y ⟨v, rfl, hv, hb⟩
      have e1 : exN (lsN S T P E) (lsF S T P E) T = N := by unfold exN; rw [HN.out]; rfl
      have e2 : exT (lsN S T P E) (lsF S T P E) T = T := by unfold exT; rw [HN.out]
      have e3 : exP (lsN S T P E) (lsF S T P E) T = (exA (lsN S T P E) (lsF S T P E) T N).2 := by unfold exP; rw [HN.out]
      have e4 : exD (lsN S T P E) (lsE S T P E) (lsF S T P E) T = (exA (lsN S T P E) (lsF S T P E) T N).1.map (lsE S T P E) := by unfold exD; rw [HN.out]
      rw [e1, e2, e3, e4] at hv
      rw [HN.out]
      obtain ⟨G2, q2, G3, q3, rfl⟩ := PlO.shape hv
      exact ⟨G2, q2, G3, q3, rfl, hv, hb⟩
  obtain ⟨rP, hrP⟩ : ∃ x, x = (exA (lsN S T P E) (lsF S T P E) T N).2 := ⟨_, rfl⟩
  obtain ⟨rD, hrD⟩ : ∃ x, x = (exA (lsN S T P E) (lsF S T P E) T N).1.map (lsE S T P E) := ⟨_, rfl⟩
  rw [← hrP, ← hrD] at HEX
  have HE3 := Lib.hid hrP; have HE4 := Lib.hid hrD
  have hfrom := hcel.out w3.drew (Lo.below (B := w3.heap.size) (Below.drew (Below.refl _ _)) (Nat.le_refl _))
  have hkeepT : Hid (∀ (x : World) (v0 v1 v2 v3 : Value), Lo w3.heap.size (w.heap.size + 1) w3 x → (Lo w3.heap.size (w.heap.size + 1) w3 ((((x.setCell ⟨w.heap.size + 1, 0, none⟩ v0).setCell ⟨w.heap.size + 1, 1, none⟩ v1).setCell ⟨w.heap.size + 1, 2, none⟩ v2).setCell ⟨w.heap.size + 1, 3, none⟩ v3) ∧ ((((x.setCell ⟨w.heap.size + 1, 0, none⟩ v0).setCell ⟨w.heap.size + 1, 1, none⟩ v1).setCell ⟨w.heap.size + 1, 2, none⟩ v2).setCell ⟨w.heap.size + 1, 3, none⟩ v3).cell? ⟨w.heap.size, 1, none⟩ = some (.int .i64 (T : Int)) ∧ ((((x.setCell ⟨w.heap.size + 1, 0, none⟩ v0).setCell ⟨w.heap.size + 1, 1, none⟩ v1).setCell ⟨w.heap.size + 1, 2, none⟩ v2).setCell ⟨w.heap.size + 1, 3, none⟩ v3).cell? ⟨gc, 0, none⟩ = some (.slice (some ⟨g, 0, none⟩) S S) ∧ ((((x.setCell ⟨w.heap.size + 1, 0, none⟩ v0).setCell ⟨w.heap.size + 1, 1, none⟩ v1).setCell ⟨w.heap.size + 1, 2, none⟩ v2).setCell ⟨w.heap.size + 1, 3, none⟩ v3).cell? ⟨g, 0, none⟩ = some (.int .i64 (c0 : Int)))) := fun x v0 v1 v2 v3 h1 => hcel.out _ ((((h1.trans (Lo.set _ _ _ 0 v0)).trans (Lo.set _ _ _ 1 v1)).trans (Lo.set _ _ _ 2 v2)).trans (Lo.set _ _ _ 3 v3))
  have u2 : 0 < S := by have := HTE.out.hS; omega
  have u1 : (0 : Int) < (S : Int) := by have := HTE.out.hS; omega
  clear hrP hrD hc0
  go_region_held3 (fun x => Lo w3.heap.size (w.heap.size + 1) w3 x ∧ x.cell? ⟨w.heap.size, 1, none⟩ = some (.int .i64 (T : Int)) ∧ x.cell? ⟨gc, 0, none⟩ = some (.slice (some ⟨g, 0, none⟩) S S) ∧ x.cell? ⟨g, 0, none⟩ = some (.int .i64 (c0 : Int))) (first | (with_reducible assumption) | (with_reducible exact hkeepT.out _ _ _ _ _ (by first | (with_reducible assumption) | (with_reducible (apply And.left; assumption)))) | (have h := hcel.out _ (by (with_reducible (apply And.left; assumption))); exact h))
    (first
      | (go_at_call 91; ((with_reducible refine (HEX.out _ (by first | (with_reducible assumption) | (with_reducible (apply And.left; assumption)))).mono ?_); rintro e y ⟨G2, e2, G3, e3, rfl, hp3, hb3⟩); have hloY := (fun (h : Lo w3.heap.size (w.heap.size + 1) w3 _) => h.trans (Lo.below hb3 h.2.2.2.1)) (by first | (with_reducible assumption) | (with_reducible (apply And.left; assumption))); have RRy : Row y (w.heap.size + 1) 33 [.int .i64 0, .int .i64 0, .slice none 0 0, .slice none 0 0] := R2c.out.drew.below hb3 R2c.out.lt; have HP3 := Lib.hid hp3; have HLY := Lib.hid hloY; have z0 := RRy.cell 0; have z1 := RRy.cell 1; have z2 := RRy.cell 2; have z3 := RRy.cell 3; have f0 := RRy.frozen 0; have f1 := RRy.frozen 1; have f2 := RRy.frozen 2; have f3 := RRy.frozen 3; have RR3 := Lib.hid RRy; have sA := hcel.out _ hloY; clear hp3 hb3 hloY RRy))

  all_goals
    try clear z0 z1 z2 z3 f0 f1 f2 f3
    go_wp2_with fail
    have hF := ((((RR3.out.set_ 0 (.int .i64 (N : Int))).set_ 1 (.int .i64 (T : Int))).set_ 2 (.slice G2 rP.length e2)).set_ 3 (.slice G3 rD.length e3))
    refine bodyPost_ret (results_cell2 rfl _ _ (w.heap.size + 1) 33 #[.int .i64 (N : Int), .int .i64 (T : Int), .slice G2 rP.length e2, .slice G3 rD.length e3] (0, 0) _ (.bool true) rfl rfl hF Try.underlying33 rfl (by kernel_rfl)) rfl ?_
    refine ⟨_, rfl, ?_, set4_below (HB3.out.trans (HLY.out.bel (by have := HSW3.out; omega) (by omega))) (show w.heap.size ≤ w.heap.size + 1 by omega) _ _ _ _⟩
    rw [← HE3.out, ← HE4.out]
    exact plw_low4 HP3.out (Nat.le_trans HB3.out.size (Nat.le_refl _)) (set4_size _ _ _ _ _ _) (fun k hk => set4_heap _ _ _ _ _ _ _ (by have := HSW3.out; simp at hk; omega))

end Go.Proofs.Ytbdfbmohdbigfaa