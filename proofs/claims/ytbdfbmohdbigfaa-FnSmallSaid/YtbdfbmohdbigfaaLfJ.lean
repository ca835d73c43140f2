/- LeastFit of the program: forcedEnds. -/
import Derived.Test.YtbdfbmohdbigfaaMgt

namespace Go.Proofs.Ytbdfbmohdbigfaa
open Go.RowKit
set_option linter.unusedVariables false
theorem allL_take {α : Type} {f : α → Bool} {ws : List α} {k : Nat} {x : α} (h : ws[k]? = some x) (h1 : (ws.take k).all f = true) (h2 : f x = true) : (ws.take (k + 1)).all f = true := by
  obtain ⟨hk, rfl⟩ := List.getElem?_eq_some_iff.1 h
  rw [List.take_succ_eq_append_getElem hk, List.all_append, h1]; simp [h2]
theorem allL_no {α : Type} {f : α → Bool} {ws : List α} {k : Nat} {x : α} (h : ws[k]? = some x) (h2 : f x = false) : ws.all f = false := by
  rw [List.all_eq_false]
  exact ⟨x, List.mem_of_getElem? h, by rw [h2]; simp⟩
theorem bv_set (E : List Bool) (i : Nat) (b : Bool) : (bv E).set i (.bool b) = bv (E.set i b) := by simp [bv, List.map_set]
/-- The world of a machine whose ends are written. -/
def LfW (w0 : World) (B gb gT gE : Nat) (bx : List Value) (t : List Int) (E : List Bool) (w : World) : Prop :=
  Row w gb 33 bx ∧ Row w gT 2 (iv t) ∧ Row w gE 4 (bv E) ∧ But gE w0 w
section
variable {w0 w w' : World} {B gb gT gE : Nat} {bx : List Value} {t : List Int} {E : List Bool}
theorem LfW.step (h : LfW w0 B gb gT gE bx t E w) (hb : Below w.heap.size w w') : LfW w0 B gb gT gE bx t E w' :=
  ⟨h.1.below hb h.1.lt, h.2.1.below hb h.2.1.lt, h.2.2.1.below hb h.2.2.1.lt, h.2.2.2.trans (But.of_below hb (Nat.le_refl _))⟩
theorem LfW.put (h : LfW w0 B gb gT gE bx t E w) (h1 : gb ≠ gE) (h2 : gT ≠ gE) (i : Nat) (b : Bool) : LfW w0 B gb gT gE bx t (E.set i b) (w.setCell ⟨gE, i, none⟩ (.bool b)) :=
  ⟨h.1.far h1 _, h.2.1.far h2 _, by rw [← bv_set]; exact h.2.2.1.set_ _ _, h.2.2.2.trans (But.set w i _)⟩
end
set_option maxRecDepth 100000 in
set_option maxHeartbeats 4000000 in
theorem iForced_any (S : Nat) (T : Int) (gT n2 c2 gE c3 : Nat) (t : List Int) (A : Option Addr) (n c : Nat) (good : List (List Int)) (A' : Option Addr) (n' c' : Nat) (bad : List (List Int)) (B : Nat) (w : World) (hR : Row w gT 2 (iv t)) (hE : Row w gE 4 (bv (List.replicate S false))) (hg : SlL w B A n good) (hb : SlL w B A' n' bad) (hB : B ≤ gT) (hBE : B ≤ gE) (hne : gT ≠ gE) (hS : 0 < S ∧ S ≤ 3) (hT : 1 ≤ T ∧ T ≤ 2) (hn2 : (n2 : Int) = (S : Int) * T) (hl2 : t.length = n2) (ht : ∀ x ∈ t, 0 ≤ x ∧ x < (S : Int)) (hwg : ∀ x ∈ good, allIn x 0 (T - 1) = true ∧ x.length ≤ 12) (hwb : ∀ x ∈ bad, allIn x 0 (T - 1) = true ∧ x.length ≤ 12) (hn : n ≤ 1000) (hn' : n' ≤ 1000) :
    Calls Try.prog 96 #[.agg #[.int .i64 (S : Int), .int .i64 T, .slice (some ⟨gT, 0, none⟩) n2 c2, .slice (some ⟨gE, 0, none⟩) S c3], .slice A n c, .slice A' n' c'] w fun e w' => e = .returned (.bool (fitF (fun x => (rnW t T x).toNat) S good bad)) ∧ Row w' gE 4 (bv (frcW (fun x => (rnW t T x).toNat) S good)) ∧ But gE w w' := by
  obtain ⟨f, hf⟩ : ∃ f : List Int → Nat, f = fun x => (rnW t T x).toNat := ⟨_, rfl⟩
  rw [← hf]
  have HF : Hid (∀ x, ∃ s : Nat, rnW t T x = (s : Int) ∧ f x = s ∧ s < S) := fun x => by
    have := rnW_bd (T := T) hS.1 ht x
    exact ⟨(rnW t T x).toNat, by omega, by rw [hf], by omega⟩
  clear hf
  obtain ⟨bx, hbx⟩ : ∃ b, b = BxP (S : Int) T (some ⟨gT, 0, none⟩) n2 c2 (some ⟨gE, 0, none⟩) S c3 := ⟨_, rfl⟩
  have hgT := hR.lt; have hgE := hE.lt
  have W1 : Hid (LfW w B w.heap.size gT gE bx t (frcW f S (good.take 0)) (w.alloc (.cells (BxP (S : Int) T (some ⟨gT, 0, none⟩) n2 c2 (some ⟨gE, 0, none⟩) S c3).toArray 33))) := by
    rw [hbx]
    exact ⟨Row.new _ _ _, hR.alloc _, hE.alloc _, (But.refl _ _).allocL _⟩
  have HBX := Lib.hid hbx; clear hbx
  have HNE : Hid (w.heap.size ≠ gE) := by show _ ≠ _; omega
  have HNT := Lib.hid hne
  have HTG : Hid (∀ x : World, Row x gT 2 (iv t) → SlI x x.heap.size (some ⟨gT, 0, none⟩) n2 t) := fun x h => by
    have := h.sl
    rw [iv_length, hl2] at this
    exact this
  have HG := Lib.hid hg; have HBD := Lib.hid hb; have HBE := Lib.hid hBE
  have HB0 : Hid (B ≤ w.heap.size) := by show _ ≤ _; omega
  have HN2 := Lib.hid hn2; have HT := Lib.hid ht; have HWG := Lib.hid hwg; have HWB := Lib.hid hwb
  have hS2 := hS.2
  have CS : Hid (∀ (x : World) (A0 : Option Addr) (c0 : Nat) (xs : List Int), Row x gT 2 (iv t) → SlI x x.heap.size A0 xs.length xs → allIn xs 0 (T - 1) = true ∧ xs.length ≤ 12 → Calls Try.prog 117 #[.agg #[.int .i64 (S : Int), .int .i64 T, .slice (some ⟨gT, 0, none⟩) n2 c2, .slice (some ⟨gE, 0, none⟩) S c3], .slice A0 xs.length c0] x fun e w' => e = .returned (.int .i64 (rnW t T xs)) ∧ Below x.heap.size x w') := fun x A0 c0 xs h1 h2 h3 => iState_any S T _ n2 c2 _ S c3 t A0 xs.length c0 xs x (HTG.out x h1) h2 hS hT hn2 ht h3.1 (by omega)
  clear hR hE hg hb hB hBE hne hn2 hl2 ht hwg hwb hgT hgE
  go_enter Try.func96, Try.ntmps96
  go_wp2_with fail
  go_loopg [13] n (fun m i wr => ∃ k : Nat, i = .int .i64 k ∧ k ≤ n ∧ n ≤ m + k ∧ Hid (LfW w B w.heap.size gT gE bx t (frcW f S (good.take k)) wr))
  case atStart => exact ⟨0, rfl, by omega, by omega, W1.out⟩
  case round =>
    clear W1
    obtain ⟨k, rfl, hk, hm, HW⟩ := hrel
    obtain ⟨wo, rfl⟩ : ∃ x : World, x = wr := ⟨_, rfl⟩
    by_cases hlt : k < n
    · have q1 : (k : Int) < (n : Int) := by omega
      have q0 : (0 : Int) ≤ (k : Int) := by omega
      obtain ⟨b, off, A0, c0, xs, rfl, _, hx, kx, hxs, _⟩ := (HG.out.below (HW.out.2.2.2.below HBE.out HB0.out) (Nat.le_refl _)).at_ hlt
      obtain ⟨st, hst, hfx, hs1⟩ := HF.out xs
      have HXW := Lib.hid (HWG.out xs (List.mem_of_getElem? hx.out))
      have HFR : Hid (frcW f S (good.take (k + 1)) = (frcW f S (good.take k)).set st true) := by show _ = _; rw [frcW_take hx.out, hfx]
      have hrb := HW.out.1
      rw [HBX.out] at hrb
      have r0 := hrb.cell 0; have r1 := hrb.cell 1; have r2 := hrb.cell 2; have r3 := hrb.cell 3
      have CSx := CS.out wo.drew A0 c0 xs HW.out.2.1 (hxs.out.more (Nat.le_trans HB0.out HW.out.2.2.2.2.2.2.1)) HXW.out
      rw [hst] at CSx
      have hlE : (frcW f S (good.take k)).length = S := frcW_len _ _ _
      obtain ⟨ev, hev⟩ : ∃ v, (bv (frcW f S (good.take k)))[st]? = some v := ⟨_, List.getElem?_eq_getElem (by rw [bv_length, hlE]; exact hs1)⟩
      have HEV := Lib.hid hev
      have q2 : (0 : Int) ≤ (st : Int) := by omega
      have q3 : (st : Int) < (S : Int) := by omega
      clear hst hfx hev hlE hrb hxs
      have hfrom : wo.drew.cell? ⟨w.heap.size, 0, none⟩ = some (.int .i64 (S : Int)) ∧ wo.drew.cell? ⟨w.heap.size, 1, none⟩ = some (.int .i64 T) ∧ wo.drew.cell? ⟨w.heap.size, 2, none⟩ = some (.slice (some ⟨gT, 0, none⟩) n2 c2) ∧ wo.drew.cell? ⟨w.heap.size, 3, none⟩ = some (.slice (some ⟨gE, 0, none⟩) S c3) := ⟨r0, r1, r2, r3⟩
      clear r0 r1 r2 r3
      go_upto_region 4 with fail
      go_region_held3 (fun x => x.cell? ⟨w.heap.size, 0, none⟩ = some (.int .i64 (S : Int)) ∧ x.cell? ⟨w.heap.size, 1, none⟩ = some (.int .i64 T) ∧ x.cell? ⟨w.heap.size, 2, none⟩ = some (.slice (some ⟨gT, 0, none⟩) n2 c2) ∧ x.cell? ⟨w.heap.size, 3, none⟩ = some (.slice (some ⟨gE, 0, none⟩) S c3)) (first | assumption | exact HKS.out _ | go_keep)
        (first
          | (go_at_call 117; refine CSx.mono ?_; rintro e wy ⟨rfl, hby⟩; have HW1 := Lib.hid (HW.out.step ((Below.drew (Below.refl wo.heap.size wo)).trans hby)); have hrb := HW1.out.1; rw [HBX.out] at hrb; have hky : wy.cell? ⟨w.heap.size, 0, none⟩ = some (.int .i64 (S : Int)) ∧ wy.cell? ⟨w.heap.size, 1, none⟩ = some (.int .i64 T) ∧ wy.cell? ⟨w.heap.size, 2, none⟩ = some (.slice (some ⟨gT, 0, none⟩) n2 c2) ∧ wy.cell? ⟨w.heap.size, 3, none⟩ = some (.slice (some ⟨gE, 0, none⟩) S c3) := ⟨hrb.cell 0, hrb.cell 1, hrb.cell 2, hrb.cell 3⟩; have HKS : Hid (∀ u : Value, (wy.setCell ⟨gE, st, none⟩ u).cell? ⟨w.heap.size, 0, none⟩ = some (.int .i64 (S : Int)) ∧ (wy.setCell ⟨gE, st, none⟩ u).cell? ⟨w.heap.size, 1, none⟩ = some (.int .i64 T) ∧ (wy.setCell ⟨gE, st, none⟩ u).cell? ⟨w.heap.size, 2, none⟩ = some (.slice (some ⟨gT, 0, none⟩) n2 c2) ∧ (wy.setCell ⟨gE, st, none⟩ u).cell? ⟨w.heap.size, 3, none⟩ = some (.slice (some ⟨gE, 0, none⟩) S c3)) := (fun u => ⟨(hrb.far HNE.out u).cell 0, (hrb.far HNE.out u).cell 1, (hrb.far HNE.out u).cell 2, (hrb.far HNE.out u).cell 3⟩); have c0y := (HW1.out.2.2.1.cell st).trans HEV.out; have f0y := HW1.out.2.2.1.frozen st; clear hby hrb))
      all_goals
        clear hfrom CSx
        have HW2 := Lib.hid (HW1.out.put HNE.out HNT.out st true)
        go_wp2_with fail
        go_roundg (gk - 1)
        case measure => omega
        case rel => exact ⟨k + 1, by go_num, by omega, by omega, by rw [HFR.out]; exact HW2.out⟩
    · have hkk : k = n := by omega
      have q1 : (n : Int) ≤ (k : Int) := by omega
      have HW0 : Hid (LfW w B w.heap.size gT gE bx t (frcW f S good) wo) := by
        have := HW.out
        rw [List.take_of_length_le (by rw [HG.out.len]; omega)] at this
        exact this
      have q9 : decide (k < n) = false := decide_eq_false (by omega)
      clear hkk HW hlt
      obtain ⟨E, hE⟩ : ∃ E, E = frcW f S good := ⟨_, rfl⟩
      have hlE : E.length = S := by rw [hE]; exact frcW_len _ _ _
      have HDF : Hid (fitF f S good bad = bad.all fun x => !E.getD (f x) false) := by show _ = _; rw [hE]; rfl
      rw [← hE] at HW0
      have HEE := Lib.hid hE; have HLE := Lib.hid hlE
      clear hE hlE
      go_wp2_with fail
      go_loopg [26] n' (fun m i wr => ∃ k : Nat, i = .int .i64 k ∧ k ≤ n' ∧ n' ≤ m + k ∧ Hid ((bad.take k).all (fun x => !E.getD (f x) false) = true) ∧ Hid (LfW w B w.heap.size gT gE bx t E wr))
      case atStart => exact ⟨0, rfl, by omega, by omega, rfl, HW0.out⟩
      case round =>
        clear HW0
        obtain ⟨k, rfl, hk, hm, HA, HW⟩ := hrel
        obtain ⟨wi, rfl⟩ : ∃ x : World, x = wr := ⟨_, rfl⟩
        by_cases hlt : k < n'
        · have q1 : (k : Int) < (n' : Int) := by omega
          have q0 : (0 : Int) ≤ (k : Int) := by omega
          obtain ⟨b, off, A0, c0, xs, rfl, _, hx, kx, hxs, _⟩ := (HBD.out.below (HW.out.2.2.2.below HBE.out HB0.out) (Nat.le_refl _)).at_ hlt
          obtain ⟨st, hst, hfx, hs1⟩ := HF.out xs
          have HXW := Lib.hid (HWB.out xs (List.mem_of_getElem? hx.out))
          have hrb := HW.out.1
          rw [HBX.out] at hrb
          have r0 := hrb.cell 0; have r1 := hrb.cell 1; have r2 := hrb.cell 2; have r3 := hrb.cell 3
          have CSx := CS.out wi.drew A0 c0 xs HW.out.2.1 (hxs.out.more (Nat.le_trans HB0.out HW.out.2.2.2.2.2.2.1)) HXW.out
          rw [hst] at CSx
          obtain ⟨ev, hev⟩ : ∃ v, E[st]? = some v := ⟨_, List.getElem?_eq_getElem (by rw [HLE.out]; exact hs1)⟩
          have HEV : Hid ((bv E)[st]? = some (.bool ev)) := by show _ = _; simp [bv, hev]
          have HGD : Hid (E.getD (f xs) false = ev) := by show _ = _; rw [hfx, List.getD_eq_getElem?_getD, hev]; rfl
          have q2 : (0 : Int) ≤ (st : Int) := by omega
          have q3 : (st : Int) < (S : Int) := by omega
          clear hst hfx hev hrb hxs
          have hfrom : wi.drew.cell? ⟨w.heap.size, 0, none⟩ = some (.int .i64 (S : Int)) ∧ wi.drew.cell? ⟨w.heap.size, 1, none⟩ = some (.int .i64 T) ∧ wi.drew.cell? ⟨w.heap.size, 2, none⟩ = some (.slice (some ⟨gT, 0, none⟩) n2 c2) ∧ wi.drew.cell? ⟨w.heap.size, 3, none⟩ = some (.slice (some ⟨gE, 0, none⟩) S c3) ∧ wi.drew.cell? ⟨gE, st, none⟩ = some (.bool ev) := ⟨r0, r1, r2, r3, (HW.out.2.2.1.cell st).trans HEV.out⟩
          clear r0 r1 r2 r3
          cases ev
          · have HA2 := Lib.hid (allL_take hx.out HA.out (by rw [HGD.out]; rfl))
            go_upto_region 9 with fail
            go_region_held3 (fun x => x.cell? ⟨w.heap.size, 0, none⟩ = some (.int .i64 (S : Int)) ∧ x.cell? ⟨w.heap.size, 1, none⟩ = some (.int .i64 T) ∧ x.cell? ⟨w.heap.size, 2, none⟩ = some (.slice (some ⟨gT, 0, none⟩) n2 c2) ∧ x.cell? ⟨w.heap.size, 3, none⟩ = some (.slice (some ⟨gE, 0, none⟩) S c3) ∧ x.cell? ⟨gE, st, none⟩ = some (.bool false)) (first | assumption | go_keep)
              (first
                | (go_at_call 117; refine CSx.mono ?_; rintro e wy ⟨rfl, hby⟩; have HW1 := Lib.hid (HW.out.step ((Below.drew (Below.refl wi.heap.size wi)).trans hby)); have hrb := HW1.out.1; rw [HBX.out] at hrb; have hky : wy.cell? ⟨w.heap.size, 0, none⟩ = some (.int .i64 (S : Int)) ∧ wy.cell? ⟨w.heap.size, 1, none⟩ = some (.int .i64 T) ∧ wy.cell? ⟨w.heap.size, 2, none⟩ = some (.slice (some ⟨gT, 0, none⟩) n2 c2) ∧ wy.cell? ⟨w.heap.size, 3, none⟩ = some (.slice (some ⟨gE, 0, none⟩) S c3) ∧ wy.cell? ⟨gE, st, none⟩ = some (.bool false) := ⟨hrb.cell 0, hrb.cell 1, hrb.cell 2, hrb.cell 3, (HW1.out.2.2.1.cell st).trans HEV.out⟩; clear hby hrb))
            all_goals
              clear hfrom CSx
              go_wp2_with fail
              go_roundg (gk - 1)
              case measure => omega
              case rel => exact ⟨k + 1, by go_num, by omega, by omega, HA2.out, HW1.out⟩
          · have HA2 := Lib.hid (allL_no (f := fun x => !E.getD (f x) false) hx.out (by rw [HGD.out]; rfl))
            go_upto_region 9 with fail
            go_region_held3 (fun x => x.cell? ⟨w.heap.size, 0, none⟩ = some (.int .i64 (S : Int)) ∧ x.cell? ⟨w.heap.size, 1, none⟩ = some (.int .i64 T) ∧ x.cell? ⟨w.heap.size, 2, none⟩ = some (.slice (some ⟨gT, 0, none⟩) n2 c2) ∧ x.cell? ⟨w.heap.size, 3, none⟩ = some (.slice (some ⟨gE, 0, none⟩) S c3) ∧ x.cell? ⟨gE, st, none⟩ = some (.bool true)) (first | assumption | go_keep)
              (first
                | (go_at_call 117; refine CSx.mono ?_; rintro e wy ⟨rfl, hby⟩; have HW1 := Lib.hid (HW.out.step ((Below.drew (Below.refl wi.heap.size wi)).trans hby)); have hrb := HW1.out.1; rw [HBX.out] at hrb; have hky : wy.cell? ⟨w.heap.size, 0, none⟩ = some (.int .i64 (S : Int)) ∧ wy.cell? ⟨w.heap.size, 1, none⟩ = some (.int .i64 T) ∧ wy.cell? ⟨w.heap.size, 2, none⟩ = some (.slice (some ⟨gT, 0, none⟩) n2 c2) ∧ wy.cell? ⟨w.heap.size, 3, none⟩ = some (.slice (some ⟨gE, 0, none⟩) S c3) ∧ wy.cell? ⟨gE, st, none⟩ = some (.bool true) := ⟨hrb.cell 0, hrb.cell 1, hrb.cell 2, hrb.cell 3, (HW1.out.2.2.1.cell st).trans HEV.out⟩; clear hby hrb))
            all_goals
              clear hfrom CSx
              go_wp2_with fail
              go_ret
              exact ⟨ret_bool (by rw [HDF.out, HA2.out]), by rw [← HEE.out]; exact HW1.out.2.2.1, HW1.out.2.2.2⟩
        · have hkk : k = n' := by omega
          have q1 : (n' : Int) ≤ (k : Int) := by omega
          have HA0 : Hid (bad.all (fun x => !E.getD (f x) false) = true) := by
            have := HA.out
            rw [List.take_of_length_le (by rw [HBD.out.len]; omega)] at this
            exact this
          clear hkk hlt
          go_wp2_with fail
          go_ret
          exact ⟨ret_bool (by rw [HDF.out, HA0.out]), by rw [← HEE.out]; exact HW.out.2.2.1, HW.out.2.2.2⟩
end Go.Proofs.Ytbdfbmohdbigfaa
