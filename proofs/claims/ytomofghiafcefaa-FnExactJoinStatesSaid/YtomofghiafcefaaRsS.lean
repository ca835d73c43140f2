/- RestOfModel of the reference. -/
import Derived.Test.YtomofghiafcefaaRsJ
import Derived.Test.YtomofghiafcefaaTab

namespace Go.Proofs.Ytomofghiafcefaa
open Go.RowKit
set_option linter.unusedVariables false
attribute [local go_sem ↓] Go.wp_at_zero Go.wp_at_succ
set_option maxRecDepth 100000 in
set_option maxHeartbeats 16000000 in
theorem sRest_yes (s t : Nat) (P Q R : List F32) (near : F32) (m : Nat) (A2 : Option Addr) (n2 c2 b3 o3 n3 c3 : Nat) (A4 : Option Addr) (n4 c4 : Nat) (w : World) (h2 : SlF w w.heap.size A2 n2 P) (h3 : SlF w w.heap.size (some ⟨b3, o3, none⟩) n3 Q) (h4 : SlF w w.heap.size A4 n4 R) (k2 : n2 ≤ c2) (k2' : c2 ≤ 9223372036854775807) (k3 : n3 ≤ c3) (k3' : c3 ≤ 9223372036854775807) (k4 : n4 ≤ c4) (k4' : c4 ≤ 9223372036854775807)
    (hvd : vdM (s : Int) (t : Int) P Q R = true) (hs1 : 1 ≤ s) (hs5 : s ≤ 5) (hn3 : n3 = s * s) (hTb : Tb (tbF Q s) s) (hnr : leastB near.b = true) (hm1 : 1 ≤ m) (hm : m ≤ 256) :
    Calls Try.prog 6 #[.agg #[.int .i64 (s : Int), .int .i64 (t : Int), .slice A2 n2 c2, .slice (some ⟨b3, o3, none⟩) n3 c3, .slice A4 n4 c4], .float .f32 near.b, .int .i64 (m : Int)] w (RsPost (rsF Q s near m (evR s s) 0) w) := by
  have rb := Row.new w 29 [.int .i64 (s : Int), .int .i64 (t : Int), .slice A2 n2 c2, .slice (some ⟨b3, o3, none⟩) n3 c3, .slice A4 n4 c4]
  have bx : Below w.heap.size w (w.alloc (.cells ([.int .i64 (s : Int), .int .i64 (t : Int), .slice A2 n2 c2, .slice (some ⟨b3, o3, none⟩) n3 c3, .slice A4 n4 c4] : List Value).toArray 29)) := (Below.refl _ _).alloc (Nat.le_refl _) _
  have V := Lib.hid (sIsM_any w.heap.size (s : Int) (t : Int) P Q R A2 n2 c2 _ n3 c3 A4 n4 c4 w.heap.size _ rb (h2.below bx (Nat.le_refl _)) (h3.below bx (Nat.le_refl _)) (h4.below bx (Nat.le_refl _)) k2 k2' k3 k3' k4 k4')
  rw [hvd] at V
  have H3 := Lib.hid (h3.below bx (Nat.le_refl _))
  have W1 := Lib.hid (sIn_any (m : Int) 1 256)
  have W1 : Hid (∀ w, Calls Try.prog 20 #[.int .i64 (m : Int), .int .i64 1, .int .i64 256] w fun e w' => e = .returned (.bool true) ∧ w = w') := by
    have e : inB (m : Int) 1 256 = true := by simp [inB]; omega
    have := W1.out; rw [e] at this; exact this
  have F : Hid (∀ w, Calls Try.prog 19 #[.float .f32 near.b] w fun e w' => e = .returned (.bool true) ∧ ∃ q, w' = w.drewN q) := by
    have := fun w => sLeast_any near.b w
    rw [hnr] at this; exact this
  have RB := Lib.hid rb; have BX := Lib.hid bx
  have HTB := Lib.hid hTb; have HN3 := Lib.hid hn3
  clear h2 h3 h4 k2 k2' k3 k3' k4 k4' rb bx hvd hnr hTb hn3
  go_enter Try.func6, Try.ntmps6
  go_wp2_with (first
    | (go_at_call 18; refine V.out.mono ?_; rintro e wa ⟨rfl, hqa⟩; have hba := drew_below' hqa; have RBa := Lib.hid (RB.out.below hba RB.out.lt); have BXa := Lib.hid (BX.out.trans (hba.mono BX.out.size)); have HSZa := Lib.hid (Nat.lt_of_lt_of_le RB.out.lt hba.size); have Ha := Lib.hid (H3.out.below hba BX.out.size); clear V hba hqa)
    | (go_at_call 19; refine (F.out _).mono ?_; rintro e w1 ⟨rfl, hqb⟩; have hbb := drew_below' hqb; have RB1 := Lib.hid (RBa.out.below hbb RBa.out.lt); have BX1 := Lib.hid (BXa.out.trans (hbb.mono BXa.out.size)); have HSZ := Lib.hid (Nat.lt_of_lt_of_le HSZa.out hbb.size); have H3' := Lib.hid (Ha.out.below hbb (Nat.le_of_lt HSZa.out)); have z0 := RB1.out.cell 0; clear F hbb hqb)
    | (go_at_call 20; refine (W1.out _).mono ?_; rintro e w' ⟨rfl, hw⟩; obtain rfl := hw; clear W1)
    | (go_at_call 21; refine (sEven_any s hs1 hs5 w1).mono ?_; rintro e w2 ⟨A0, c0, rfl, ho2, hb2⟩))
  obtain ⟨lo, hlo⟩ : ∃ lo, lo = w.heap.size + 1 := ⟨_, rfl⟩
  have HLO : Hid (w.heap.size < lo ∧ lo ≤ w1.heap.size) := by show _ ∧ _; have := HSZ.out; omega
  have HB2 : Hid (Below lo w1 w2) := hb2.mono HLO.out.2
  have HX2 : Hid (w2.ownsRow lo 25 1 (.slice A0 s c0) s (fv (evR s s))) := World.ownsRow.mono ho2 HLO.out.2
  have HQ : Hid (∀ x, Below lo w1 x → SlF x w.heap.size (some ⟨b3, o3, none⟩) n3 Q) := fun x hx => H3'.out.below hx (Nat.le_of_lt HLO.out.1)
  have HBX : Hid (∀ x, Below lo w1 x → Row x w.heap.size 29 [.int .i64 (s : Int), .int .i64 (t : Int), .slice A2 n2 c2, .slice (some ⟨b3, o3, none⟩) n3 c3, .slice A4 n4 c4]) := fun x hx => RB1.out.below hx HLO.out.1
  have HG0 := Lib.hid (gd_even hs1 hs5)
  clear hlo ho2 hb2 z0 RB RBa RB1 H3 H3' Ha BX BXa HSZ HSZa
  go_loopg [9, 10, 11, 12, 13, 14, 15, 16] m (fun q row ct nx wst kk sm ii dd wr => ∃ (n r : Nat) (X : List F32) (A : Option Addr) (c : Nat), row = .slice A s c ∧ ct = .int .i64 (r : Int) ∧ Hid (r = n + 1) ∧ n ≤ m ∧ m ≤ q + n ∧ Hid (rsF Q s near m (evR s s) 0 = rsF Q s near (m - n) X n) ∧ Hid (Gd s n X) ∧ Hid (wr.ownsRow lo 25 1 (.slice A s c) s (fv X)) ∧ Hid (Below lo w1 wr))
  case atStart => exact ⟨0, 1, evR s s, A0, c0, rfl, rfl, rfl, by omega, by omega, rfl, HG0.out, HX2.out, HB2.out⟩
  case round =>
    obtain ⟨wo, rfl⟩ : ∃ x : World, x = wr := ⟨_, rfl⟩
    obtain ⟨n, r, X, A, c, rfl, rfl, HRN, hnm, hmq, HE, HG, HX, HB⟩ := hrel
    obtain ⟨go, hgo⟩ : ∃ g : Nat, g = gk := ⟨_, rfl⟩
    by_cases hlt : n < m
    · have RD := Lib.hid (round_ok HTB.out HG.out (show n ≤ 256 by omega))
      obtain ⟨gr, hA, hgl, hgs, hgc, hcl⟩ := own_form' HX.out (by omega)
      subst hA
      obtain ⟨hb, hhb⟩ : ∃ x, x = wo.heap.size := ⟨_, rfl⟩
      have HHB : Hid (lo ≤ hb) := by show _ ≤ _; omega
      have HCX : Hid (∀ x : World, Below hb wo x → ∀ i, i < s → x.cell? ⟨gr, i, none⟩ = some (.float .f32 (atF X i).b)) := by
        intro x hx i hi
        have h1 := hcl i _ (fv_at (atF_get (by rw [HG.out.len]; exact hi)))
        rw [Nat.zero_add] at h1
        exact (hx.cell (p := ⟨gr, i, none⟩) (show gr < hb by omega)).trans h1
      have HBT : Hid (∀ x, Below hb wo x → Below lo w1 x) := fun x hx => HB.out.trans (hx.mono HHB.out)
      obtain ⟨nx, hnx⟩ : ∃ x, x = nxL Q s X := ⟨_, rfl⟩
      have HNX := Lib.hid hnx
      have HNL : Hid (nx.length = s) := by show _ = _; rw [hnx, nxL_len]
      have HB0 : Hid (Below hb wo (wo.alloc (.cells #[] 25))) := (Below.refl _ _).alloc (by omega) _
      have HO0 : Hid ((wo.alloc (.cells #[] 25)).ownsRow hb 25 1 (.slice (some ⟨wo.heap.size, 0, none⟩) 0 0) 0 (fv (nx.take 0))) := own_made wo hb 25 1 (by omega)
      have HHS : Hid (hb ≤ wo.heap.size) := by show _ ≤ _; omega
      have q1 : (r : Int) ≤ (m : Int) := by have := HRN.out; omega
      have q1' : decide ((r : Int) ≤ (m : Int)) = true := decide_eq_true q1
      have q2 : IntKind.i64.wrap ((r : Int) + 1) = ((r + 1 : Nat) : Int) := by rw [IntWalk.i64_in _ (by omega)]; omega
      clear hnx hcl hhb hgl hgs
      go_wp2_with fail
      go_loopg [11, 12, 13, 14, 15, 16] s (fun q nv wst kk sm ii dd wr => ∃ (k : Nat) (A' : Option Addr) (c' : Nat), kk = .int .i64 k ∧ k ≤ s ∧ s ≤ q + k ∧ wst = .float .f32 (cgL nx X k).b ∧ nv = .slice A' k c' ∧ Hid (wr.ownsRow hb 25 1 (.slice A' k c') k (fv (nx.take k))) ∧ Hid (Below hb wo wr))
      case atStart => exact ⟨0, _, _, rfl, by omega, by omega, rfl, rfl, HO0.out, HB0.out⟩
      case round =>
        obtain ⟨wp, rfl⟩ : ∃ x : World, x = wr := ⟨_, rfl⟩
        obtain ⟨k, A', c', rfl, hks, hkq, rfl, rfl, HO, HBP⟩ := hrel
        obtain ⟨gp, hgp⟩ : ∃ g : Nat, g = gk := ⟨_, rfl⟩
        have z0 := (HBX.out wp (HBT.out wp HBP.out)).cell 0
        by_cases hlt2 : k < s
        · go_wp2_with fail
          go_loopg [14, 15] s (fun q sm ii wr => ∃ i : Nat, ii = .int .i64 i ∧ i ≤ s ∧ s ≤ q + i ∧ sm = .float .f32 (acc (fun i => fop .mul (atF X i) (tbF Q s i k)) i).b ∧ Hid (wr.ownsRow hb 25 1 (.slice A' k c') k (fv (nx.take k))) ∧ Hid (Below hb wo wr))
          case atStart => exact ⟨0, rfl, by omega, by omega, rfl, HO.out, HBP.out⟩
          case round =>
            obtain ⟨wl, rfl⟩ : ∃ x : World, x = wr := ⟨_, rfl⟩
            obtain ⟨i, rfl, his, hiq, rfl, HOL, HBL⟩ := hrel
            have y0 := (HBX.out wl (HBT.out wl HBL.out)).cell 0
            by_cases hlt3 : i < s
            · obtain ⟨a, ha⟩ : ∃ x, x = acc (fun i => fop .mul (atF X i) (tbF Q s i k)) i := ⟨_, rfl⟩
              obtain ⟨xi, hxi⟩ : ∃ x, x = atF X i := ⟨_, rfl⟩
              obtain ⟨tb, htb⟩ : ∃ x, x = tbF Q s i k := ⟨_, rfl⟩
              obtain ⟨pr, hpr⟩ : ∃ x, x = fop .mul (atF X i) (tbF Q s i k) := ⟨_, rfl⟩
              have hmul := RD.out.mul k i hlt2 hlt3
              have hadd := RD.out.add k i hlt2 hlt3
              have HAS : Hid (acc (fun i => fop .mul (atF X i) (tbF Q s i k)) (i + 1) = fop .add a pr) := by show _ = _; rw [acc_succ, ← ha, ← hpr]
              rw [HAS.out] at hadd
              rw [← ha, ← hpr] at hadd
              rw [← hpr, ← hxi, ← htb] at hmul
              obtain ⟨a', ha'⟩ : ∃ x, x = fop .add a pr := ⟨_, rfl⟩
              rw [← ha'] at hadd HAS
              have o1 : ∀ (t : TypeId) (w : World), (binOp .mul t (.float .f32 xi.b) (.float .f32 tb.b)).run Try.prog w = .ok (.float .f32 pr.b) w := fun t w => run_float_arith w .mul t .f32 _ _ _ hmul
              have o2 : ∀ (t : TypeId) (w : World), (binOp .add t (.float .f32 a.b) (.float .f32 pr.b)).run Try.prog w = .ok (.float .f32 a'.b) w := fun t w => run_float_arith w .add t .f32 _ _ _ hadd
              rw [← ha]
              have y3 := (HBX.out wl (HBT.out wl HBL.out)).cell 3
              have y5 := HCX.out wl HBL.out i hlt3
              rw [← hxi] at y5
              have hlt' : i * s + k < n3 := by
                have : (i + 1) * s ≤ s * s := Nat.mul_le_mul_right _ hlt3
                rw [Nat.add_mul, Nat.one_mul] at this
                rw [HN3.out]; omega
              obtain ⟨p, hp⟩ : ∃ p, p = i * s := ⟨_, rfl⟩
              have y6 : wl.cell? ⟨b3, o3 + (p + k), none⟩ = some (.float .f32 tb.b) := by
                obtain ⟨b', off', x, e, hb', hx, hc⟩ := (HQ.out wl (HBT.out wl HBL.out)).at_ hlt'
                injection e with e; injection e with e1 e2 _
                subst e1 e2
                rw [htb, hp, show tbF Q s i k = x from atF_some hx.out]; exact hc
              rw [← hp] at hlt'
              have w1' : IntKind.i64.wrap ((i : Int) * (s : Int)) = (p : Int) := mulw hp (by omega) hs5
              have w2' : IntKind.i64.wrap ((p : Int) + (k : Int)) = ((p + k : Nat) : Int) := by
                have : p ≤ 25 := by rw [hp]; exact Nat.mul_le_mul (show i ≤ 5 by omega) hs5
                rw [IntWalk.i64_in _ (by omega)]; omega
              have l0 : (0 : Int) ≤ (i : Int) := by omega
              have l1 : (i : Int) < (s : Int) := by omega
              have l2 : (0 : Int) ≤ ((p + k : Nat) : Int) := by omega
              have l3 : ((p + k : Nat) : Int) < (n3 : Int) := by omega
              have l4 : ((p + k : Nat) : Int).toNat = p + k := by omega
              clear ha hxi htb hpr hmul hadd ha' hp hlt'
              go_wp2_with fail
              go_quiet (fail)
              go_wp2_with fail
              go_roundg (gk - 1)
              case measure => omega
              case rel => exact ⟨i + 1, by go_num, by omega, by omega, by rw [HAS.out], (own_move HOL.out (fun g hg => rfl)), below_draws HBL.out _⟩
            · obtain rfl : i = s := by omega
              obtain ⟨y, hy⟩ : ∃ x, x = nxF (atF X) (tbF Q i) i k := ⟨_, rfl⟩
              rw [show acc (fun j => fop .mul (atF X j) (tbF Q i j k)) i = y from hy.symm]
              have hnk : nx[k]? = some y := by rw [HNX.out, hy]; exact nxL_take hlt2
              have HNK := Lib.hid hnk
              obtain ⟨xk, hxk⟩ : ∃ x, x = atF X k := ⟨_, rfl⟩
              have c2 := HCX.out wl HBL.out k hlt2
              rw [← hxk] at c2
              obtain ⟨df, hdf⟩ : ∃ x, x = fop .sub y xk := ⟨_, rfl⟩
              have hsub := RD.out.sub k hlt2
              have hdif := RD.out.dif k hlt2
              rw [← hy, ← hxk, ← hdf] at hsub hdif
              obtain ⟨cc, hcc⟩ : ∃ x, x = cgL nx X k := ⟨_, rfl⟩
              have hcl : cc.b < 2139095040 := by rw [hcc, HNX.out]; exact RD.out.cg k hks
              have HC' : Hid (cgL nx X (k + 1) = mxF cc (abF df)) := by
                show mxF (cgL nx X k) (abF (fop .sub (atF nx k) (atF X k))) = _
                rw [← hcc, ← hxk, atF_some hnk, ← hdf]
              obtain ⟨ab, hab⟩ : ∃ x, x = abF df := ⟨_, rfl⟩
              rw [← hab] at hdif HC'
              rw [← hcc]
              have o1 : ∀ (t : TypeId) (w : World), (binOp .sub t (.float .f32 y.b) (.float .f32 xk.b)).run Try.prog w = .ok (.float .f32 df.b) w := fun t w => run_float_arith w .sub t .f32 _ _ _ hsub
              have HHW : Hid (hb ≤ wl.heap.size) := Nat.le_trans HHS.out HBL.out.size
              have hgt : ((FloatKind.format .f32).order ab.b cc.b == some .gt) = decide (vz cc.b < vz ab.b) := ord_mx hcl hdif.lt
              have l2 : (0 : Int) ≤ (k : Int) := by omega
              have l3 : (k : Int) < (i : Int) := by omega
              obtain ⟨l, hle⟩ : ∃ g, ((FloatKind.format .f32).order df.b 0 == some .lt || (FloatKind.format .f32).order df.b 0 == some .eq) = g := ⟨_, rfl⟩
              obtain ⟨gv, hgv⟩ : ∃ g, decide (vz cc.b < vz ab.b) = g := ⟨_, rfl⟩
              rw [hgv] at hgt
              have HMX : Hid (mxF cc ab = if gv = true then ab else cc) := by
                show _ = _
                unfold mxF
                cases gv with
                | true => rw [if_pos (of_decide_eq_true hgv)]; rfl
                | false => rw [if_neg (of_decide_eq_false hgv)]; rfl
              rw [HMX.out] at HC'
              cases l with
              | true =>
                have o3 : ∀ (t : TypeId) (w : World), (binOp .sub t (.float .f32 0) (.float .f32 df.b)).run Try.prog w = .ok (.float .f32 ab.b) w := fun t w => run_float_arith w .sub t .f32 _ _ _ (hdif.le hle)
                clear hsub hdif hcl hab hdf hxk hy hnk hcc hgv HMX
                cases gv with
                | true =>
                  go_wp2_with (at_builtin; refine wpList_push wl rfl (.tmp 81) (.tmp 83) _ rfl hb 25 (.float .f32 0) 4 Try.underlying22 infoF32 rfl (.slice A' k c') k (fv (nx.take k)) rfl HOL.out (.float .f32 y.b) rfl rfl (by omega) (by omega) HHW.out ?_; intro g cap w' hown hgr hat hlt' hcap; have HOW := Lib.hid hown; have HG2 := Lib.hid (grown_below HOL.out hgr HHW.out); clear hown hgr hat hlt' hcap)
                  go_roundg (gp - 1)
                  case measure => omega
                  case rel => exact ⟨k + 1, _, _, by go_num, by omega, by omega, (by rw [HC'.out]; simp), rfl, by show World.ownsRow _ _ _ _ _ _ _; rw [fv_take HNK.out]; exact HOW.out, HBL.out.trans HG2.out⟩
                | false =>
                  go_wp2_with (at_builtin; refine wpList_push wl rfl (.tmp 81) (.tmp 83) _ rfl hb 25 (.float .f32 0) 4 Try.underlying22 infoF32 rfl (.slice A' k c') k (fv (nx.take k)) rfl HOL.out (.float .f32 y.b) rfl rfl (by omega) (by omega) HHW.out ?_; intro g cap w' hown hgr hat hlt' hcap; have HOW := Lib.hid hown; have HG2 := Lib.hid (grown_below HOL.out hgr HHW.out); clear hown hgr hat hlt' hcap)
                  go_roundg (gp - 1)
                  case measure => omega
                  case rel => exact ⟨k + 1, _, _, by go_num, by omega, by omega, (by rw [HC'.out]; simp), rfl, by show World.ownsRow _ _ _ _ _ _ _; rw [fv_take HNK.out]; exact HOW.out, HBL.out.trans HG2.out⟩
              | false =>
                have hda : df = ab := F32.eq (hdif.gt hle)
                rw [hda] at o1 hle
                clear hsub hdif hcl hab hdf hxk hy hnk hcc hgv HMX hda
                cases gv with
                | true =>
                  go_wp2_with (at_builtin; refine wpList_push wl rfl (.tmp 81) (.tmp 83) _ rfl hb 25 (.float .f32 0) 4 Try.underlying22 infoF32 rfl (.slice A' k c') k (fv (nx.take k)) rfl HOL.out (.float .f32 y.b) rfl rfl (by omega) (by omega) HHW.out ?_; intro g cap w' hown hgr hat hlt' hcap; have HOW := Lib.hid hown; have HG2 := Lib.hid (grown_below HOL.out hgr HHW.out); clear hown hgr hat hlt' hcap)
                  go_roundg (gp - 1)
                  case measure => omega
                  case rel => exact ⟨k + 1, _, _, by go_num, by omega, by omega, (by rw [HC'.out]; simp), rfl, by show World.ownsRow _ _ _ _ _ _ _; rw [fv_take HNK.out]; exact HOW.out, HBL.out.trans HG2.out⟩
                | false =>
                  go_wp2_with (at_builtin; refine wpList_push wl rfl (.tmp 81) (.tmp 83) _ rfl hb 25 (.float .f32 0) 4 Try.underlying22 infoF32 rfl (.slice A' k c') k (fv (nx.take k)) rfl HOL.out (.float .f32 y.b) rfl rfl (by omega) (by omega) HHW.out ?_; intro g cap w' hown hgr hat hlt' hcap; have HOW := Lib.hid hown; have HG2 := Lib.hid (grown_below HOL.out hgr HHW.out); clear hown hgr hat hlt' hcap)
                  go_roundg (gp - 1)
                  case measure => omega
                  case rel => exact ⟨k + 1, _, _, by go_num, by omega, by omega, (by rw [HC'.out]; simp), rfl, by show World.ownsRow _ _ _ _ _ _ _; rw [fv_take HNK.out]; exact HOW.out, HBL.out.trans HG2.out⟩
        · obtain rfl : k = s := by omega
          have HOE : Hid (wp.ownsRow hb 25 1 (.slice A' k c') k (fv nx)) := by have h1 := HO.out; rw [take_all HNL.out] at h1; exact h1
          have HBP' : Hid (Below lo w1 wp) := HBT.out wp HBP.out
          have hgn : Gd k (n + 1) nx := by rw [HNX.out]; exact RD.out.next
          have HGN := Lib.hid hgn
          obtain ⟨l, hle⟩ : ∃ g, ((FloatKind.format .f32).order (cgL nx X k).b near.b == some .lt || (FloatKind.format .f32).order (cgL nx X k).b near.b == some .eq) = g := ⟨_, rfl⟩
          have HLE : Hid (leF (cgL (nxL Q k X) X k).b near.b = l) := by rw [← HNX.out]; exact hle
          clear hgn
          cases l with
          | true =>
            have HEY : Hid (rsF Q k near m (evR k k) 0 = some (nx, n + 1)) := by show _ = _; rw [HE.out, rsF_yes hlt HLE.out, ← HNX.out]
            go_wp2_with fail
            refine bodyPost_ret (v := .tuple #[.slice A' k c', .int .i64 (r : Int), .bool true]) (by simp [results, Try.results6, go_sem]) rfl ?_
            refine ⟨.slice A' k c', ?_, ?_, ?_⟩
            · rw [HEY.out, HRN.out]; rfl
            · rw [HEY.out]
              show OwnV _ _ _ _ _ _ nx.length _
              rw [HNL.out]
              exact OwnV.of (World.ownsRow.mono HOE.out (by have := HLO.out; have := HHB.out; omega))
            · exact BX1.out.trans (HBP'.out.mono (Nat.le_of_lt HLO.out.1))
          | false =>
            have HEN : Hid (rsF Q k near m (evR k k) 0 = rsF Q k near (m - (n + 1)) nx (n + 1)) := by show _ = _; rw [HE.out, rsF_no hlt HLE.out, ← HNX.out]
            go_wp2_with fail
            go_roundg (go - 1)
            case measure => omega
            case rel => exact ⟨n + 1, r + 1, nx, _, _, rfl, by go_num, by show _ = _; rw [HRN.out], by omega, by omega, HEN.out, HGN.out, World.ownsRow.mono HOE.out HHB.out, HBP'.out⟩
    · obtain rfl : n = m := by omega
      have HEN : Hid (rsF Q s near n (evR s s) 0 = none) := by show _ = _; rw [HE.out, Nat.sub_self]; rfl
      have q1 : ¬ (r : Int) ≤ (n : Int) := by have := HRN.out; omega
      go_wp2_with fail
      refine bodyPost_ret (v := .tuple #[.slice none 0 0, .int .i64 0, .bool false]) (by simp [results, Try.results6, go_sem]) rfl ?_
      refine ⟨.slice none 0 0, ?_, ?_, ?_⟩
      · rw [HEN.out]; rfl
      · rw [HEN.out]; exact RowFl.nil _ _
      · exact BX1.out.trans (HB.out.mono (Nat.le_of_lt HLO.out.1))
set_option maxRecDepth 100000 in
set_option maxHeartbeats 16000000 in
theorem sRest_no (S T : Int) (P Q R : List F32) (near : F32) (m : Int) (A2 : Option Addr) (n2 c2 : Nat) (A3 : Option Addr) (n3 c3 : Nat) (A4 : Option Addr) (n4 c4 : Nat) (w : World) (h2 : SlF w w.heap.size A2 n2 P) (h3 : SlF w w.heap.size A3 n3 Q) (h4 : SlF w w.heap.size A4 n4 R) (k2 : n2 ≤ c2) (k2' : c2 ≤ 9223372036854775807) (k3 : n3 ≤ c3) (k3' : c3 ≤ 9223372036854775807) (k4 : n4 ≤ c4) (k4' : c4 ≤ 9223372036854775807)
    (hno : (vdM S T P Q R && (leastB near.b && inB m 1 256)) = false) :
    Calls Try.prog 6 #[.agg #[.int .i64 S, .int .i64 T, .slice A2 n2 c2, .slice A3 n3 c3, .slice A4 n4 c4], .float .f32 near.b, .int .i64 m] w (RsPost none w) := by
  have rb := Row.new w 29 [.int .i64 S, .int .i64 T, .slice A2 n2 c2, .slice A3 n3 c3, .slice A4 n4 c4]
  have bx : Below w.heap.size w (w.alloc (.cells ([.int .i64 S, .int .i64 T, .slice A2 n2 c2, .slice A3 n3 c3, .slice A4 n4 c4] : List Value).toArray 29)) := (Below.refl _ _).alloc (Nat.le_refl _) _
  have V := Lib.hid (sIsM_any w.heap.size S T P Q R A2 n2 c2 A3 n3 c3 A4 n4 c4 w.heap.size _ rb (h2.below bx (Nat.le_refl _)) (h3.below bx (Nat.le_refl _)) (h4.below bx (Nat.le_refl _)) k2 k2' k3 k3' k4 k4')
  have BX := Lib.hid bx
  clear h2 h3 h4 k2 k2' k3 k3' k4 k4' rb bx
  obtain ⟨vb, hvb⟩ : ∃ b, b = vdM S T P Q R := ⟨_, rfl⟩
  obtain ⟨ib, hib⟩ : ∃ b, b = inB m 1 256 := ⟨_, rfl⟩
  obtain ⟨lb, hlb⟩ : ∃ b, b = leastB near.b := ⟨_, rfl⟩
  rw [← hvb] at V hno
  rw [← hib, ← hlb] at hno
  have W1 : Hid (∀ w, Calls Try.prog 20 #[.int .i64 m, .int .i64 1, .int .i64 256] w fun e w' => e = .returned (.bool ib) ∧ w = w') := by
    show ∀ w, _
    intro w; rw [hib]; exact sIn_any m 1 256 w
  have F : Hid (∀ w, Calls Try.prog 19 #[.float .f32 near.b] w fun e w' => e = .returned (.bool lb) ∧ ∃ q, w' = w.drewN q) := by
    show ∀ w, _
    intro w; rw [hlb]; exact sLeast_any near.b w
  clear hvb hib hlb
  have fin : ∀ w', Below w.heap.size w w' → RsPost none w (.returned (.tuple #[.slice none 0 0, .int .i64 0, .bool false])) w' := fun w' hb => ⟨_, rfl, RowFl.nil _ _, hb⟩
  have FIN := Lib.hid fin
  clear fin
  cases vb with
  | false =>
    clear hno
    go_enter Try.func6, Try.ntmps6
    go_wp2_with (go_at_call 18; refine V.out.mono ?_; rintro e wa ⟨rfl, hqa⟩; have BXa := Lib.hid (BX.out.trans ((drew_below' hqa).mono BX.out.size)); clear V hqa)
    refine bodyPost_ret (v := .tuple #[.slice none 0 0, .int .i64 0, .bool false]) (by simp [results, Try.results6, go_sem]) rfl ?_
    exact FIN.out _ BXa.out
  | true =>
    cases lb with
    | false =>
      clear hno
      go_enter Try.func6, Try.ntmps6
      go_wp2_with (first | (go_at_call 18; refine V.out.mono ?_; rintro e wa ⟨rfl, hqa⟩; have BXa := Lib.hid (BX.out.trans ((drew_below' hqa).mono BX.out.size)); clear V hqa) | (go_at_call 19; refine (F.out _).mono ?_; rintro e wb ⟨rfl, hqb⟩; have BXb := Lib.hid (BXa.out.trans ((drew_below' hqb).mono BXa.out.size)); clear F hqb))
      refine bodyPost_ret (v := .tuple #[.slice none 0 0, .int .i64 0, .bool false]) (by simp [results, Try.results6, go_sem]) rfl ?_
      exact FIN.out _ BXb.out
    | true =>
      obtain rfl : ib = false := by simpa using hno
      clear hno
      go_enter Try.func6, Try.ntmps6
      go_wp2_with (first | (go_at_call 18; refine V.out.mono ?_; rintro e wa ⟨rfl, hqa⟩; have BXa := Lib.hid (BX.out.trans ((drew_below' hqa).mono BX.out.size)); clear V hqa) | (go_at_call 19; refine (F.out _).mono ?_; rintro e wb ⟨rfl, hqb⟩; have BXb := Lib.hid (BXa.out.trans ((drew_below' hqb).mono BXa.out.size)); clear F hqb) | (go_at_call 20; refine (W1.out _).mono ?_; rintro e w2 ⟨rfl, hw⟩; obtain rfl := hw; clear W1))
      refine bodyPost_ret (v := .tuple #[.slice none 0 0, .int .i64 0, .bool false]) (by simp [results, Try.results6, go_sem]) rfl ?_
      exact FIN.out _ BXb.out
theorem sRest_any (v : Value) (S T : Int) (P Q R : List F32) (near : F32) (m : Int) (w : World) (h : Md w w.heap.size v S T P Q R) (hcap : capOk v) :
    Calls Try.prog 6 #[v, .float .f32 near.b, .int .i64 m] w (RsPost (rsR S T P Q R near m) w) := by
  obtain ⟨A2, n2, c2, A3, n3, c3, A4, n4, c4, rfl, h2, h3, h4⟩ := h
  obtain ⟨S_, T_, A2_, n2_, c2_, A3_, n3_, c3_, A4_, n4_, c4_, e, k2, k2', k3, k3', k4, k4'⟩ := hcap
  simp only [Value.agg.injEq, Array.mk.injEq, List.cons.injEq, Value.slice.injEq, and_true] at e
  obtain ⟨-, -, ⟨-, e2, e3⟩, ⟨-, e4, e5⟩, ⟨-, e6, e7⟩⟩ := e
  subst e2 e3 e4 e5 e6 e7
  cases hno : vdM S T P Q R && (leastB near.b && inB m 1 256) with
  | false =>
    have e : rsR S T P Q R near m = none := by unfold rsR; rw [hno]; rfl
    rw [e]; exact sRest_no S T P Q R near m A2 n2 c2 A3 n3 c3 A4 n4 c4 w h2 h3 h4 k2 k2' k3 k3' k4 k4' hno
  | true =>
    have e : rsR S T P Q R near m = rsF Q S.toNat near m.toNat (evR S.toNat S.toNat) 0 := by unfold rsR; rw [hno]; rfl
    rw [e]
    have hb := Bool.and_eq_true_iff.1 hno
    have hc := Bool.and_eq_true_iff.1 hb.2
    obtain ⟨s, t, rfl, rfl, q1, q2, q3, q4, q5, q6, q7, q8⟩ := vdM_tb hb.1
    have hm := inB_true hc.2
    obtain ⟨mn, rfl⟩ : ∃ x : Nat, m = (x : Int) := ⟨m.toNat, by omega⟩
    have hn3 : n3 = s * s := by rw [← h3.len]; exact q6
    obtain ⟨b3, o3, rfl⟩ := slF_some h3 (by rw [hn3]; exact Nat.mul_pos q1 q1)
    simp only [Int.toNat_natCast]
    exact sRest_yes s t P Q R near mn A2 n2 c2 b3 o3 n3 c3 A4 n4 c4 w h2 h3 h4 k2 k2' k3 k3' k4 k4' hb.1 q1 q2 hn3 q8 hc.1 (by omega) (by omega)
end Go.Proofs.Ytomofghiafcefaa
