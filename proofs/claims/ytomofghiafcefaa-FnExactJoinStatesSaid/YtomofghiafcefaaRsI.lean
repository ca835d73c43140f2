/- RestOfModel of the program: at a valid model and bounds that are allowed. -/
import Derived.Test.YtomofghiafcefaaRsC
import Derived.Test.YtomofghiafcefaaMgb
import Derived.Deep.RegionHeld3
import Derived.Deep.CutRange
import Derived.Deep.RegionLaw
import Derived.Deep.DrawnRows
import Derived.Deep.QuietTactic
import Derived.BigQuiet

namespace Go.Proofs.Ytomofghiafcefaa
open Go.RowKit
set_option linter.unusedVariables false
attribute [local go_sem ↓] Go.wp_at_zero Go.wp_at_succ
/-- A row that is being filled: k numbers, and what is being added up. -/
def rowY (nx : List F32) (s k : Nat) (a : F32) : List F32 := nx.take k ++ (a :: List.replicate (s - k - 1) f0)
def rowZ (nx : List F32) (s k : Nat) : List F32 := nx.take k ++ List.replicate (s - k) f0
theorem rowZ_lt {nx : List F32} {s k : Nat} (h : k < s) : rowZ nx s k = rowY nx s k f0 := by
  unfold rowZ rowY
  obtain ⟨m, hm⟩ : ∃ m, s - k = m + 1 := ⟨s - k - 1, by omega⟩
  rw [hm, Nat.add_sub_cancel, List.replicate_succ]
theorem rowY_full {nx : List F32} {s k : Nat} {a : F32} (h : nx[k]? = some a) : rowY nx s k a = rowZ nx s (k + 1) := by
  unfold rowZ rowY
  obtain ⟨h1, rfl⟩ := List.getElem?_eq_some_iff.1 h
  rw [List.take_succ_eq_append_getElem h1, List.append_assoc, show s - (k + 1) = s - k - 1 by omega]; rfl
theorem rowZ_all {nx : List F32} {s : Nat} (h : nx.length = s) : rowZ nx s s = nx := by
  unfold rowZ
  rw [take_all h, Nat.sub_self]; simp
theorem rowY_len {nx : List F32} {s k : Nat} {a : F32} (h : nx.length = s) (hk : k < s) : (rowY nx s k a).length = s := by simp [rowY]; omega
theorem rowY_at {nx : List F32} {s k : Nat} {a : F32} (h : nx.length = s) (hk : k < s) : (rowY nx s k a)[k]? = some a := by
  unfold rowY
  rw [List.getElem?_append_right (by rw [List.length_take]; omega), List.length_take, Nat.min_eq_left (by omega), Nat.sub_self]; rfl
theorem rowY_set {nx : List F32} {s k : Nat} {a b : F32} (h : nx.length = s) (hk : k < s) : (rowY nx s k a).set k b = rowY nx s k b := by
  unfold rowY
  rw [List.set_append_right _ _ (by rw [List.length_take]; omega), List.length_take, Nat.min_eq_left (by omega), Nat.sub_self]; rfl
/-- The old row and the new one, apart. -/
structure Nr (w1 wr : World) (lo gr cr gn s : Nat) (X Y : List F32) : Prop where
  bel : Below lo w1 wr
  rx : RwF wr lo gr s cr X
  ry : RwF wr lo gn s s Y
  ne : gr ≠ gn
section
variable {w1 wr w' : World} {lo gr cr gn s : Nat} {X Y : List F32}
theorem Nr.size (h : Nr w1 wr lo gr cr gn s X Y) : lo ≤ wr.heap.size := by have := h.ry.lt; omega
theorem Nr.call {B : Nat} (h : Nr w1 wr lo gr cr gn s X Y) (hb : Below B wr w') (hB : wr.heap.size ≤ B) : Nr w1 w' lo gr cr gn s X Y :=
  ⟨h.bel.trans (hb.mono (Nat.le_trans h.size hB)), h.rx.keep hb hB, h.ry.keep hb hB, h.ne⟩
theorem Nr.set (h : Nr w1 wr lo gr cr gn s X Y) {k : Nat} (hk : k < Y.length) (x : F32) : Nr w1 (wr.setCell ⟨gn, k, none⟩ (.float .f32 x.b)) lo gr cr gn s X (Y.set k x) :=
  ⟨h.bel.setCell (p := ⟨gn, k, none⟩) h.ry.lt.1 _, own_move h.rx (fun g hg => Below.heap_setCell _ _ _ _ (by simp [Value.ownBlock] at hg; subst hg; exact h.ne)), h.ry.set hk x, h.ne⟩
end
theorem rwf_made (w : World) (lo s : Nat) (nx : List F32) (hlo : lo ≤ w.heap.size) (hs : s ≤ 5) : RwF (w.alloc (.cells (madeCells #[.float .f32 0] s) 25)) lo w.heap.size s s (rowZ nx s 0) := by
  have h := Row.made w (.float .f32 0) s 25
  have e : fv (rowZ nx s 0) = List.replicate s (.float .f32 0) := by unfold rowZ fv; simp [f0]
  unfold RwF
  rw [e]
  exact own_rowF h hlo (by simp) (by unfold maxLen; omega)
/-- What RestOfModel hands out. -/
def roL (o : Option (List F32 × Nat)) : List F32 := match o with | some (x, _) => x | none => []
def roK (o : Option (List F32 × Nat)) : Int := match o with | some (_, k) => (k : Int) | none => 0
def roB (o : Option (List F32 × Nat)) : Bool := o.isSome
def RowFl (w : World) (base : Nat) (v : Value) (xs : List F32) : Prop := OwnV w base w.heap.size 25 1 v xs.length (fv xs)
theorem RowFl.nil (w : World) (base : Nat) : RowFl w base (.slice none 0 0) [] := OwnV.nil _ _ _ _ _
theorem RwF.fl {w : World} {base g n c : Nat} {xs : List F32} (h : RwF w base g n c xs) (hn : xs.length = n) : RowFl w base (.slice (some ⟨g, 0, none⟩) n c) xs := by
  unfold RowFl; rw [hn]; exact OwnV.of h
theorem RwF.less {w : World} {base base' g n c : Nat} {xs : List F32} (h : RwF w base g n c xs) (hb : base' ≤ base) : RwF w base' g n c xs := World.ownsRow.mono h hb
def RsPost (o : Option (List F32 × Nat)) (w : World) (e : Ending) (w' : World) : Prop := ∃ v, e = .returned (.tuple #[v, .int .i64 (roK o), .bool (roB o)]) ∧ RowFl w' w.heap.size v (roL o) ∧ Below w.heap.size w w'
theorem rsF_yes {Q : List F32} {s m n : Nat} {near : F32} {row : List F32} (h : n < m) (hl : leF (cgL (nxL Q s row) row s).b near.b = true) : rsF Q s near (m - n) row n = some (nxL Q s row, n + 1) := by
  obtain ⟨q, hq⟩ : ∃ q, m - n = q + 1 := ⟨m - n - 1, by omega⟩
  rw [hq, rsF, if_pos hl]
theorem rsF_no {Q : List F32} {s m n : Nat} {near : F32} {row : List F32} (h : n < m) (hl : leF (cgL (nxL Q s row) row s).b near.b = false) : rsF Q s near (m - n) row n = rsF Q s near (m - (n + 1)) (nxL Q s row) (n + 1) := by
  obtain ⟨q, hq⟩ : ∃ q, m - n = q + 1 := ⟨m - n - 1, by omega⟩
  rw [hq, rsF, if_neg (by rw [hl]; exact Bool.false_ne_true), show m - (n + 1) = q by omega]
theorem numB_of {x : Nat} (h : x < 2139095040) : numB x = true := by
  obtain ⟨m, a, e, v⟩ := read_vl h
  unfold numB; rw [e]
set_option maxRecDepth 100000 in
set_option maxHeartbeats 16000000 in
theorem iRest_yes (s t : Nat) (P Q R : List F32) (near : F32) (m : Nat) (A2 : Option Addr) (n2 c2 b3 o3 n3 c3 : Nat) (A4 : Option Addr) (n4 c4 : Nat) (w : World) (h2 : SlF w w.heap.size A2 n2 P) (h3 : SlF w w.heap.size (some ⟨b3, o3, none⟩) n3 Q) (h4 : SlF w w.heap.size A4 n4 R) (k2 : n2 ≤ c2) (k2' : c2 ≤ 9223372036854775807) (k3 : n3 ≤ c3) (k3' : c3 ≤ 9223372036854775807) (k4 : n4 ≤ c4) (k4' : c4 ≤ 9223372036854775807)
    (hvd : vdM (s : Int) (t : Int) P Q R = true) (hs1 : 1 ≤ s) (hs5 : s ≤ 5) (hn3 : n3 = s * s) (hTb : Tb (tbF Q s) s) (hnr : leastB near.b = true) (hm1 : 1 ≤ m) (hm : m ≤ 256) :
    Calls Try.prog 8 #[.agg #[.int .i64 (s : Int), .int .i64 (t : Int), .slice A2 n2 c2, .slice (some ⟨b3, o3, none⟩) n3 c3, .slice A4 n4 c4], .float .f32 near.b, .int .i64 (m : Int)] w (RsPost (rsF Q s near m (evR s s) 0) w) := by
  have rb := Row.new w 29 [.int .i64 (s : Int), .int .i64 (t : Int), .slice A2 n2 c2, .slice (some ⟨b3, o3, none⟩) n3 c3, .slice A4 n4 c4]
  have bx : Below w.heap.size w (w.alloc (.cells ([.int .i64 (s : Int), .int .i64 (t : Int), .slice A2 n2 c2, .slice (some ⟨b3, o3, none⟩) n3 c3, .slice A4 n4 c4] : List Value).toArray 29)) := (Below.refl _ _).alloc (Nat.le_refl _) _
  have V := Lib.hid (iValidModel_any _ (s : Int) (t : Int) P Q R (w.alloc (.cells ([.int .i64 (s : Int), .int .i64 (t : Int), .slice A2 n2 c2, .slice (some ⟨b3, o3, none⟩) n3 c3, .slice A4 n4 c4] : List Value).toArray 29)) ⟨_, _, _, _, _, _, _, _, _, rfl, (h2.below bx (Nat.le_refl _)).more bx.size, (h3.below bx (Nat.le_refl _)).more bx.size, (h4.below bx (Nat.le_refl _)).more bx.size⟩ ⟨_, _, _, _, _, _, _, _, _, _, _, rfl, k2, k2', k3, k3', k4, k4'⟩)
  rw [hvd] at V
  have H3 := Lib.hid (h3.below bx (Nat.le_refl _))
  have W1 := Lib.hid (iIn_any (m : Int) 1 256)
  have W1 : Hid (∀ w, Calls Try.prog 25 #[.int .i64 (m : Int), .int .i64 1, .int .i64 256] w fun e w' => e = .returned (.bool true) ∧ w = w') := by
    have e : inB (m : Int) 1 256 = true := by simp [inB]; omega
    have := W1.out; rw [e] at this; exact this
  have hb := Bool.and_eq_true_iff.1 hnr
  have F := Lib.hid (fun w => iFin_yes (x := near.b) w hb.1)
  have hge : ((FloatKind.format .f32).order near.b 0 == some .gt || (FloatKind.format .f32).order near.b 0 == some .eq) = true := hb.2
  have hop := evQ_law hs1 hs5 Try.prog
  have RB := Lib.hid rb; have BX := Lib.hid bx
  have hmk := run_make_row' (P := Try.prog) 22 25 (.float .f32 0) 4 Try.underlying22 infoF32 rfl .i64 .i64 s (by omega) (by omega)
  have HTB := Lib.hid hTb; have HN3 := Lib.hid hn3
  clear h2 h3 h4 k2 k2' k3 k3' k4 k4' rb bx hvd hb hnr hTb hn3
  go_enter Try.func8, Try.ntmps8
  go_wp2_with (first
    | (go_at_call 23; refine V.out.mono ?_; rintro e w1 ⟨rfl, hb1⟩; have RB1 := Lib.hid (RB.out.below hb1 RB.out.lt); have BX1 := Lib.hid (BX.out.trans (hb1.mono BX.out.size)); have HSZ := Lib.hid (Nat.lt_of_lt_of_le RB.out.lt hb1.size); have H3' := Lib.hid (H3.out.below hb1 BX.out.size); have z0 := RB1.out.cell 0; have y0 := (RB1.out.alloc (.cells ([.float .f32 (evQ s).b] : List Value).toArray 25)).cell 0; clear V hb1)
    | (go_at_call 24; refine (F.out _).mono ?_; rintro e w' ⟨rfl, hw⟩; obtain rfl := hw; clear F)
    | (go_at_call 25; refine (W1.out _).mono ?_; rintro e w' ⟨rfl, hw⟩; obtain rfl := hw; clear W1))
  have c1 := (Row.new w1 25 [.float .f32 (evQ s).b]).cell 0
  have bx1 : Below w1.heap.size w1 (w1.alloc (.cells ([.float .f32 (evQ s).b] : List Value).toArray 25)) := (Below.refl _ _).alloc (Nat.le_refl _) _
  refine (iRepeatF_any w1.heap.size 1 (evQ s) s (w1.alloc (.cells ([.float .f32 (evQ s).b] : List Value).toArray 25)) c1 (by omega) (by omega)).mono ?_
  rintro e w2 ⟨g2, rfl, hg2, hr2, hb2⟩
  obtain ⟨lo, hlo⟩ : ∃ lo, lo = w.heap.size + 1 := ⟨_, rfl⟩
  have HLO : Hid (w.heap.size < lo ∧ lo ≤ w1.heap.size) := by show _ ∧ _; have := HSZ.out; omega
  have HB2 : Hid (Below lo w1 w2) := (bx1.trans (hb2.mono bx1.size)).mono HLO.out.2
  have HX2 : Hid (RwF w2 lo g2 s s (evR s s)) := own_rowF hr2 (by have := HLO.out; have := bx1.size; omega) (by rw [fv_length, evR_len]) (by unfold maxLen; omega)
  have HQ : Hid (∀ x, Below lo w1 x → SlF x w.heap.size (some ⟨b3, o3, none⟩) n3 Q) := fun x hx => H3'.out.below hx (Nat.le_of_lt HLO.out.1)
  have HBX : Hid (∀ x, Below lo w1 x → Row x w.heap.size 29 [.int .i64 (s : Int), .int .i64 (t : Int), .slice A2 n2 c2, .slice (some ⟨b3, o3, none⟩) n3 c3, .slice A4 n4 c4]) := fun x hx => RB1.out.below hx HLO.out.1
  have HG0 := Lib.hid (gd_even hs1 hs5)
  clear hlo hr2 hb2 hg2 bx1 c1 z0 y0 RB RB1 H3 H3' hop hge BX HSZ
  go_wp2_with fail
  go_loopg [9, 10, 11, 12, 13, 14, 42] m (fun q row cn nx ch kk ii ct wr => ∃ (n : Nat) (X : List F32) (gr cr : Nat), row = .slice (some ⟨gr, 0, none⟩) s cr ∧ ct = .int .i64 n ∧ n ≤ m ∧ m ≤ q + n ∧ Hid (rsF Q s near m (evR s s) 0 = rsF Q s near (m - n) X n) ∧ Hid (Gd s n X) ∧ Hid (RwF wr lo gr s cr X) ∧ Hid (Below lo w1 wr))
  case atStart => exact ⟨0, evR s s, g2, s, rfl, rfl, by omega, by omega, rfl, HG0.out, HX2.out, HB2.out⟩
  case round =>
    obtain ⟨wo, rfl⟩ : ∃ x : World, x = wr := ⟨_, rfl⟩
    obtain ⟨n, X, gr, cr, rfl, rfl, hnm, hmq, HE, HG, HX, HB⟩ := hrel
    obtain ⟨go, hgo⟩ : ∃ g : Nat, g = gk := ⟨_, rfl⟩
    by_cases hlt : n < m
    · have z0 := (HBX.out wo HB.out).cell 0
      have RD := Lib.hid (round_ok HTB.out HG.out (show n ≤ 256 by omega))
      obtain ⟨nx, hnx⟩ : ∃ x, x = nxL Q s X := ⟨_, rfl⟩
      have HNX := Lib.hid hnx
      have HNL : Hid (nx.length = s) := by show _ = _; rw [hnx, nxL_len]
      have bm : Below wo.heap.size wo (wo.alloc (.cells (madeCells #[.float .f32 0] s) 25)) := (Below.refl _ _).alloc (Nat.le_refl _) _
      have hszo : lo ≤ wo.heap.size := by have := HX.out.lt; omega
      have HN0 : Hid (Nr w1 (wo.alloc (.cells (madeCells #[.float .f32 0] s) 25)) lo gr cr wo.heap.size s X (rowZ nx s 0)) := ⟨HB.out.trans (bm.mono hszo), HX.out.keep bm (Nat.le_refl _), rwf_made wo lo s nx hszo hs5, by have := HX.out.lt; omega⟩
      have y0 := (HBX.out _ HN0.out.bel).cell 0
      clear hnx bm
      go_wp2_with fail
      go_loopg [12, 13, 14, 50] s (fun q ch kk ii ct wr => ∃ k : Nat, ct = .int .i64 k ∧ k ≤ s ∧ s ≤ q + k ∧ ch = .float .f32 (cgL nx X k).b ∧ Hid (Nr w1 wr lo gr cr wo.heap.size s X (rowZ nx s k)))
      case atStart => exact ⟨0, rfl, by omega, by omega, rfl, HN0.out⟩
      case round =>
        obtain ⟨wp, rfl⟩ : ∃ x : World, x = wr := ⟨_, rfl⟩
        obtain ⟨k, rfl, hks, hkq, rfl, HN⟩ := hrel
        obtain ⟨gp, hgp⟩ : ∃ g : Nat, g = gk := ⟨_, rfl⟩
        by_cases hlt2 : k < s
        · have z0 := (HBX.out wp HN.out.bel).cell 0
          have HN1 : Hid (Nr w1 wp lo gr cr wo.heap.size s X (rowY nx s k f0)) := by have := HN.out; rw [rowZ_lt hlt2] at this; exact this
          go_wp2_with fail
          go_loopg [14, 55] s (fun q ii ct wr => ∃ i : Nat, ct = .int .i64 i ∧ i ≤ s ∧ s ≤ q + i ∧ Hid (Nr w1 wr lo gr cr wo.heap.size s X (rowY nx s k (acc (fun i => fop .mul (atF X i) (tbF Q s i k)) i))))
          case atStart => exact ⟨0, rfl, by omega, by omega, HN1.out⟩
          case round =>
            obtain ⟨wl, rfl⟩ : ∃ x : World, x = wr := ⟨_, rfl⟩
            obtain ⟨i, rfl, his, hiq, HI⟩ := hrel
            by_cases hlt3 : i < s
            · obtain ⟨a, ha⟩ : ∃ x, x = acc (fun i => fop .mul (atF X i) (tbF Q s i k)) i := ⟨_, rfl⟩
              obtain ⟨xi, hxi⟩ : ∃ x, x = atF X i := ⟨_, rfl⟩
              obtain ⟨tb, htb⟩ : ∃ x, x = tbF Q s i k := ⟨_, rfl⟩
              obtain ⟨pr, hpr⟩ : ∃ x, x = fop .mul (atF X i) (tbF Q s i k) := ⟨_, rfl⟩
              have hmul := RD.out.mul k i hlt2 hlt3
              have hadd := RD.out.add k i hlt2 hlt3
              have HAS : Hid (acc (fun i => fop .mul (atF X i) (tbF Q s i k)) (i + 1) = fop .add a pr) := by show _ = _; rw [acc_succ, ← ha, ← hpr]
              rw [HAS.out] at hadd
              rw [← ha, ← hpr] at hadd
              rw [← hpr, ← hxi, ← htb] at hmul
              obtain ⟨a', ha'⟩ : ∃ x, x = fop .add a pr := ⟨_, rfl⟩
              rw [← ha'] at hadd HAS
              have o1 : ∀ (t : TypeId) (w : World), (binOp .mul t (.float .f32 xi.b) (.float .f32 tb.b)).run Try.prog w = .ok (.float .f32 pr.b) w := fun t w => run_float_arith w .mul t .f32 _ _ _ hmul
              have o2 : ∀ (t : TypeId) (w : World), (binOp .add t (.float .f32 a.b) (.float .f32 pr.b)).run Try.prog w = .ok (.float .f32 a'.b) w := fun t w => run_float_arith w .add t .f32 _ _ _ hadd
              rw [← ha] at HI
              have hcel : Hid (∀ x, Below wl.heap.size wl x → (Below wl.heap.size wl x ∧ x.cell? ⟨w.heap.size, 0, none⟩ = some (.int .i64 (s : Int)) ∧ x.cell? ⟨w.heap.size, 1, none⟩ = some (.int .i64 (t : Int)) ∧ x.cell? ⟨w.heap.size, 2, none⟩ = some (.slice A2 n2 c2) ∧ x.cell? ⟨w.heap.size, 3, none⟩ = some (.slice (some ⟨b3, o3, none⟩) n3 c3) ∧ x.cell? ⟨w.heap.size, 4, none⟩ = some (.slice A4 n4 c4) ∧ x.cell? ⟨wo.heap.size, k, none⟩ = some (.float .f32 a.b) ∧ x.cell? ⟨gr, i, none⟩ = some (.float .f32 xi.b))) := by
                intro x hx
                have hN := HI.out.call hx (Nat.le_refl _)
                have r := HBX.out x hN.bel
                exact ⟨hx, r.cell 0, r.cell 1, r.cell 2, r.cell 3, r.cell 4, (hN.ry.cell (rowY_at HNL.out hlt2)).1, (hN.rx.cell (by rw [hxi]; exact atF_get (by rw [HG.out.len]; exact hlt3))).1⟩
              have CS : Hid (∀ x, Below wl.heap.size wl x → Calls Try.prog 27 #[.agg #[.int .i64 (s : Int), .int .i64 (t : Int), .slice A2 n2 c2, .slice (some ⟨b3, o3, none⟩) n3 c3, .slice A4 n4 c4], .int .i64 (i : Int), .int .i64 (k : Int)] x fun e y => e = .returned (.float .f32 tb.b) ∧ Below x.heap.size x y) := by
                intro x hx
                have hN := HI.out.call hx (Nat.le_refl _)
                rw [htb]
                exact iStep_any s (.int .i64 (t : Int)) A2 A4 n2 c2 n4 c4 b3 o3 n3 c3 Q i k x w.heap.size (by have := HLO.out; have := hN.size; omega) (HQ.out x hN.bel) HN3.out hs5 hlt3 hlt2
              have hfrom := hcel.out wl.drew (Below.drew (Below.refl _ _))
              have l0 : (0 : Int) ≤ (i : Int) := by omega
              have l1 : (i : Int) < (s : Int) := by omega
              have l2 : (0 : Int) ≤ (k : Int) := by omega
              have l3 : (k : Int) < (s : Int) := by omega
              clear ha hxi htb hpr hmul hadd ha'
              obtain ⟨-, d0, d1, d2, d3, d4, d5, d6⟩ := hfrom
              have CSD := Lib.hid (CS.out wl.drew (Below.drew (Below.refl _ _)))
              go_wp2_with fail
              go_region_law (rw [if_pos (by rfl)]; go_simp; go_at_call 27; refine CSD.out.mono ?_; rintro e y ⟨rfl, hby⟩; have hyw := (Below.drew (Below.refl wl.heap.size wl)).trans (Below.mono hby (Nat.le_refl wl.heap.size)); have HNY := Lib.hid (HI.out.call hyw (Nat.le_refl _)); obtain ⟨-, e0, e1, e2, e3, e4, e5, e6⟩ := hcel.out y hyw; have cy2 := (HNY.out.ry.cell (rowY_at HNL.out hlt2)).2; clear hby hyw)
              all_goals
                go_wp2_with fail
                go_roundg (gk - 1)
                case measure => omega
                case rel =>
                  have h1 := HNY.out.set (k := k) (by rw [rowY_len HNL.out hlt2]; exact hlt2) a'
                  rw [rowY_set HNL.out hlt2] at h1
                  exact ⟨i + 1, by go_num, by omega, by omega, by rw [HAS.out]; exact h1⟩
            · obtain rfl : i = s := by omega
              obtain ⟨y, hy⟩ : ∃ x, x = nxF (atF X) (tbF Q i) i k := ⟨_, rfl⟩
              have hnk : nx[k]? = some y := by rw [HNX.out, hy]; exact nxL_take hlt2
              have HN2 : Hid (Nr w1 wl lo gr cr wo.heap.size i X (rowZ nx i (k + 1))) := by
                have h1 := HI.out
                rw [show acc (fun j => fop .mul (atF X j) (tbF Q i j k)) i = y from hy.symm, rowY_full hnk] at h1
                exact h1
              have c1 : wl.cell? ⟨wo.heap.size, k, none⟩ = some (.float .f32 y.b) := by
                have h1 := HI.out
                rw [show acc (fun j => fop .mul (atF X j) (tbF Q i j k)) i = y from hy.symm] at h1
                exact (h1.ry.cell (rowY_at HNL.out hlt2)).1
              obtain ⟨xk, hxk⟩ : ∃ x, x = atF X k := ⟨_, rfl⟩
              have c2 : wl.cell? ⟨gr, k, none⟩ = some (.float .f32 xk.b) := (HI.out.rx.cell (by rw [hxk]; exact atF_get (by rw [HG.out.len]; exact hlt2))).1
              obtain ⟨df, hdf⟩ : ∃ x, x = fop .sub y xk := ⟨_, rfl⟩
              have hsub := RD.out.sub k hlt2
              have hdif := RD.out.dif k hlt2
              rw [← hy, ← hxk, ← hdf] at hsub hdif
              obtain ⟨cc, hcc⟩ : ∃ x, x = cgL nx X k := ⟨_, rfl⟩
              have hcl : cc.b < 2139095040 := by rw [hcc, HNX.out]; exact RD.out.cg k hks
              have HC' : Hid (cgL nx X (k + 1) = mxF cc (abF df)) := by
                show mxF (cgL nx X k) (abF (fop .sub (atF nx k) (atF X k))) = _
                rw [← hcc, ← hxk, atF_some hnk, ← hdf]
              obtain ⟨ab, hab⟩ : ∃ x, x = abF df := ⟨_, rfl⟩
              rw [← hab] at hdif HC'
              rw [← hcc]
              obtain ⟨mx, hmx⟩ : ∃ x, x = mxF cc ab := ⟨_, rfl⟩
              rw [← hmx] at HC'
              have o1 : ∀ (t : TypeId) (w : World), (binOp .sub t (.float .f32 y.b) (.float .f32 xk.b)).run Try.prog w = .ok (.float .f32 df.b) w := fun t w => run_float_arith w .sub t .f32 _ _ _ hsub
              have hAb : ∃ v, (∀ w, Calls Try.prog 28 #[.float .f32 df.b] w fun e w' => e = .returned (.float .f32 v) ∧ w' = w) ∧ (∀ (tys : Array TypeId) (ty : TypeId) (w : World), (Builtin.max_ tys ty #[.float .f32 cc.b, .float .f32 v]).run Try.prog w = .ok (.float .f32 mx.b) w) := by
                by_cases hl : ordF df.b 0 = some .lt
                · refine ⟨ab.b, fun w => (iAbs_lt df.b w hl).mono fun e w' h => ⟨by rw [h.1, hdif.lo hl], h.2.symm⟩, fun tys ty w => ?_⟩
                  rw [hmx]; exact max_run hcl hdif.lt (.inl rfl) tys ty _ w
                · refine ⟨df.b, fun w => (iAbs_ge df.b w hl).mono fun e w' h => ⟨h.1, h.2.symm⟩, fun tys ty w => ?_⟩
                  rw [hmx]; exact max_run hcl hdif.lt (hdif.ge hl) tys ty _ w
              obtain ⟨av, hAb, hMx⟩ := hAb
              have HAb := Lib.hid hAb
              have l2 : (0 : Int) ≤ (k : Int) := by omega
              have l3 : (k : Int) < (i : Int) := by omega
              clear hsub hdif hcl hab hmx hdf hxk hy hnk hcc hAb
              go_wp2_with fail
              go_quiet ((go_at_call 28; exact Calls.quiet_of_same (HAb.out _)))
              go_wp2_with fail
              go_roundg (gp - 1)
              case measure => omega
              case rel => exact ⟨k + 1, by go_num, by omega, by omega, by rw [HC'.out], HN2.out.call (below_draws (Below.refl _ _) _) (Nat.le_refl _)⟩
        · obtain rfl : k = s := by omega
          have HYR : Hid (RwF wp lo wo.heap.size k k nx) := by have h1 := HN.out.ry; rw [rowZ_all HNL.out] at h1; exact h1
          have HBP : Hid (Below lo w1 wp) := HN.out.bel
          have hgn : Gd k (n + 1) nx := by rw [HNX.out]; exact RD.out.next
          have HGN := Lib.hid hgn
          obtain ⟨l, hle⟩ : ∃ g, ((FloatKind.format .f32).order (cgL nx X k).b near.b == some .lt || (FloatKind.format .f32).order (cgL nx X k).b near.b == some .eq) = g := ⟨_, rfl⟩
          have HLE : Hid (leF (cgL (nxL Q k X) X k).b near.b = l) := by rw [← HNX.out]; exact hle
          cases l with
          | true =>
            have HAF := Lib.hid (iAreFin (some ⟨wo.heap.size, 0, none⟩) k k nx wp wp.heap.size HYR.out.sl (fun x hx => by
              obtain ⟨j, hj, rfl⟩ := List.mem_iff_getElem.1 hx
              have h1 := hgn.fin j (by rw [← HNL.out]; exact hj)
              rw [atF_some (List.getElem?_eq_getElem hj)] at h1
              exact numB_of h1) (by omega))
            have HEY : Hid (rsF Q k near m (evR k k) 0 = some (nx, n + 1)) := by show _ = _; rw [HE.out, rsF_yes hlt HLE.out, ← HNX.out]
            have w5 : IntKind.i64.wrap ((n : Int) + 1) = ((n + 1 : Nat) : Int) := by rw [IntWalk.i64_in _ (by omega)]; omega
            go_wp2_with (go_at_call 29; refine HAF.out.mono ?_; rintro e w' ⟨rfl, hw⟩; obtain rfl := hw)
            refine bodyPost_ret (v := .tuple #[.slice (some ⟨wo.heap.size, 0, none⟩) k k, .int .i64 ((n + 1 : Nat) : Int), .bool true]) (by simp [results, Try.results8, go_sem]) rfl ?_
            refine ⟨.slice (some ⟨wo.heap.size, 0, none⟩) k k, ?_, ?_, ?_⟩
            · rw [HEY.out]; rfl
            · rw [HEY.out]; exact (HYR.out.less (Nat.le_of_lt HLO.out.1)).fl HNL.out
            · exact BX1.out.trans (HBP.out.mono (Nat.le_of_lt HLO.out.1))
          | false =>
            have HEN : Hid (rsF Q k near m (evR k k) 0 = rsF Q k near (m - (n + 1)) nx (n + 1)) := by show _ = _; rw [HE.out, rsF_no hlt HLE.out, ← HNX.out]
            go_wp2_with fail
            go_roundg (go - 1)
            case measure => omega
            case rel => exact ⟨n + 1, nx, _, _, rfl, by go_num, by omega, by omega, HEN.out, HGN.out, HYR.out, HBP.out⟩
    · obtain rfl : n = m := by omega
      have HEN : Hid (rsF Q s near n (evR s s) 0 = none) := by show _ = _; rw [HE.out, Nat.sub_self]; rfl
      go_wp2_with fail
      refine bodyPost_ret (v := .tuple #[.slice none 0 0, .int .i64 0, .bool false]) (by simp [results, Try.results8, go_sem]) rfl ?_
      refine ⟨.slice none 0 0, ?_, ?_, ?_⟩
      · rw [HEN.out]; rfl
      · rw [HEN.out]; exact RowFl.nil _ _
      · exact BX1.out.trans (HB.out.mono (Nat.le_of_lt HLO.out.1))
end Go.Proofs.Ytomofghiafcefaa
