/- Alignments: AlignGain of the reference. -/
import Derived.Test.YtchacfienafhlaaAgS
namespace Go.Proofs.Ytchacfienafhlaa
open Go.RowKit Go.PlainAid
set_option linter.unusedVariables false
theorem R3.empty (w : World) (base : Nat) (t : TypeId) (hb : base ≤ w.heap.size) :
    R3 (((w.alloc (.cells #[] t)).alloc (.cells #[] t)).alloc (.cells #[] t)) base t (.slice (some ⟨w.heap.size, 0, none⟩) 0 0) (.slice (some ⟨w.heap.size + 1, 0, none⟩) 0 0) (.slice (some ⟨w.heap.size + 2, 0, none⟩) 0 0) [] [] [] := by
  have s1 : (w.alloc (.cells #[] t)).heap.size = w.heap.size + 1 := by simp
  have s2 : ((w.alloc (.cells #[] t)).alloc (.cells #[] t)).heap.size = w.heap.size + 2 := by simp
  have h1 := RowI.made w base t hb
  have h2 := RowI.made (w.alloc (.cells #[] t)) base t (by omega)
  have h3 := RowI.made ((w.alloc (.cells #[] t)).alloc (.cells #[] t)) base t (by omega)
  rw [s1] at h2; rw [s2] at h3
  have b1 : ∀ (x : World) (o : Obj), Below x.heap.size x (x.alloc o) := fun x o => (Below.refl _ _).alloc (Nat.le_refl _) _
  exact ⟨(h1.keep (b1 _ _) (Nat.le_refl _)).keep (b1 _ _) (Nat.le_refl _), h2.keep (b1 _ _) (Nat.le_refl _), h3, fun k h h' => by simp [Value.ownBlock] at h h'; omega, fun k h h' => by simp [Value.ownBlock] at h h'; omega, fun k h h' => by simp [Value.ownBlock] at h h'; omega⟩
def agR2 (a b : ByteArray) (s d o m : Int) : Int := if agOk a b s d o m then agB (ag a b s d o m 1000000000 a.size b.size) else 0
set_option maxRecDepth 100000 in
set_option maxHeartbeats 8000000 in
theorem sAlign_yes (a b : ByteArray) (s d o m : Int) (wa : a.size ≤ maxLen) (wb : b.size ≤ maxLen) (h12 : (txtB a && txtB b) = true) (h3 : allIn [s, d, o, m] 0 1000 = true) (w : World) :
    Calls Try.prog 7 #[.string a, .string b, .int .i64 s, .int .i64 d, .int .i64 o, .int .i64 m] w fun e w' => e = .returned (.tuple #[.int .i64 (agB (ag a b s d o m 1000000000 a.size b.size)), .bool true]) ∧ Below w.heap.size w w' := by
  have h1 : txtB a = true := by simp at h12; exact h12.1
  have h2 : txtB b = true := by simp at h12; exact h12.2
  have ha := txtB_true h1
  have hb := txtB_true h2
  obtain ⟨hs, hd, ho, hm⟩ := agc4 h3
  obtain ⟨F1, hF1⟩ : ∃ F : Nat → Nat → Int, F = fun i k => (ag a b s d o m 1000000000 i k).1 := ⟨_, rfl⟩
  obtain ⟨F2, hF2⟩ : ∃ F : Nat → Nat → Int, F = fun i k => (ag a b s d o m 1000000000 i k).2.1 := ⟨_, rfl⟩
  obtain ⟨F3, hF3⟩ : ∃ F : Nat → Nat → Int, F = fun i k => (ag a b s d o m 1000000000 i k).2.2 := ⟨_, rfl⟩
  have HBD : Hid (∀ i k, i ≤ a.size → k ≤ b.size → (-3000000000000 ≤ F1 i k ∧ F1 i k ≤ 1000000) ∧ (-3000000000000 ≤ F2 i k ∧ F2 i k ≤ 1000000) ∧ (-3000000000000 ≤ F3 i k ∧ F3 i k ≤ 1000000)) := fun i k hi hk => by rw [hF1, hF2, hF3]; exact ag_bd a b (by omega) hs hd ho hm (by omega)
  have hRR : ∀ v : Tri, agR o m v = max (max v.1 v.2.1 - o) v.2.2 - m := fun v => by unfold agR; omega
  have hLL : ∀ v : Tri, agL o m v = max (max v.1 v.2.2 - o) v.2.1 - m := fun v => by unfold agL; omega
  have E00 : Hid (F1 0 0 = 0 ∧ F2 0 0 = -1000000000 ∧ F3 0 0 = -1000000000) := by show _ ∧ _; rw [hF1, hF2, hF3]; exact ⟨rfl, rfl, rfl⟩
  have E0s : Hid (∀ k, F1 0 (k + 1) = -1000000000 ∧ F2 0 (k + 1) = -1000000000 ∧ F3 0 (k + 1) = max (max (F1 0 k) (F2 0 k) - o) (F3 0 k) - m) := fun k => by rw [hF1, hF2, hF3]; exact ⟨rfl, rfl, hRR _⟩
  have Es0 : Hid (∀ i, F1 (i + 1) 0 = -1000000000 ∧ F2 (i + 1) 0 = max (max (F1 i 0) (F3 i 0) - o) (F2 i 0) - m ∧ F3 (i + 1) 0 = -1000000000) := fun i => by rw [hF1, hF2, hF3]; show (ag a b s d o m 1000000000 (i + 1) 0).1 = _ ∧ (ag a b s d o m 1000000000 (i + 1) 0).2.1 = _ ∧ (ag a b s d o m 1000000000 (i + 1) 0).2.2 = _; rw [ag_s0]; exact ⟨rfl, hLL _, rfl⟩
  have Ess : Hid (∀ i k, F1 (i + 1) (k + 1) = max (F1 i k) (max (F2 i k) (F3 i k)) + (if bt a i = bt b k then s else -d) ∧ F2 (i + 1) (k + 1) = max (max (F1 i (k + 1)) (F3 i (k + 1)) - o) (F2 i (k + 1)) - m ∧ F3 (i + 1) (k + 1) = max (max (F1 (i + 1) k) (F2 (i + 1) k) - o) (F3 (i + 1) k) - m) := fun i k => by rw [hF1, hF2, hF3]; exact ⟨rfl, hLL _, hRR _⟩
  have HBB : Hid (agB (ag a b s d o m 1000000000 a.size b.size) = max (F1 a.size b.size) (max (F2 a.size b.size) (F3 a.size b.size))) := by show _ = _; rw [hF1, hF2, hF3]; rfl
  clear hF1 hF2 hF3 h1 h2 hRR hLL
  go_enter Try.func7, Try.ntmps7
  go_wp2_with (first | (go_at_call 33; refine (sTwo_any _ _ (by assumption) (by assumption) _).mono ?_; rintro e w' ⟨rfl, hw⟩; obtain rfl := hw) | (go_at_call 34; refine (sCosts_any (some ⟨w.heap.size, 0, none⟩) 4 4 [s, d, o, m] (w.heap.size + 1) _ (by have := (Row.new w 2 (iv [s, d, o, m])).sl; simp at this; exact this) (by omega)).mono ?_; rintro e w' ⟨rfl, hw⟩; obtain rfl := hw))
  clear h12 h3
  have hbel0 : Below w.heap.size w (w.alloc (.cells #[.int .i64 s, .int .i64 d, .int .i64 o, .int .i64 m] 2)) := (Below.refl w.heap.size w).alloc (Nat.le_refl _) _
  go_loopg [14, 15, 16, 17] (a.size + 1) (fun q t1 t2 t3 ii wr => ∃ (k : Nat) (q1 q2 q3 : Nat → Prop), k ≤ a.size + 1 ∧ a.size + 1 ≤ q + k ∧ ii = .int .i64 k ∧ Hid (T3 wr (w.heap.size + 1) 27 t1 t2 t3 (rowsOf F1 k (b.size + 1)) (rowsOf F2 k (b.size + 1)) (rowsOf F3 k (b.size + 1)) q1 q2 q3) ∧ Hid (Below w.heap.size w wr) ∧ w.heap.size + 1 ≤ wr.heap.size)
  case atStart =>
    have h4 := T3.empty (w.alloc (.cells #[.int .i64 s, .int .i64 d, .int .i64 o, .int .i64 m] 2)) (w.heap.size + 1) 27 (by simp)
    have hsz : (w.alloc (.cells #[.int .i64 s, .int .i64 d, .int .i64 o, .int .i64 m] 2)).heap.size = w.heap.size + 1 := by simp
    rw [hsz] at h4
    exact ⟨0, _, _, _, by omega, by omega, rfl, h4, ((hbel0.alloc (by simp) _).alloc (by simp; omega) _).alloc (by simp; omega) _, by simp⟩
  case round =>
    clear hbel0
    obtain ⟨i, q1, q2, q3, hi, hq, rfl, HT, HB, hbase⟩ := hrel
    obtain ⟨wo, rfl⟩ : ∃ x : World, x = wr := ⟨_, rfl⟩
    obtain ⟨go, hgo⟩ : ∃ g : Nat, g = gk := ⟨_, rfl⟩
    have hsz := HB.out.size
    have HQ1 : Hid (∀ k, q1 k → k < wo.heap.size) := HT.out.1.2.2
    have HQ2 : Hid (∀ k, q2 k → k < wo.heap.size) := HT.out.2.1.2.2
    have HQ3 : Hid (∀ k, q3 k → k < wo.heap.size) := HT.out.2.2.1.2.2
    have HO1 : Hid (∀ k, u14.ownBlock = some k → k < wo.heap.size) := fun k h => HQ1.out k (HT.out.1.2.1 k h)
    have HO2 : Hid (∀ k, u15.ownBlock = some k → k < wo.heap.size) := fun k h => HQ2.out k (HT.out.2.1.2.1 k h)
    have HO3 : Hid (∀ k, u16.ownBlock = some k → k < wo.heap.size) := fun k h => HQ3.out k (HT.out.2.2.1.2.1 k h)
    by_cases hlt : i < a.size + 1
    · have e1 : (i : Int) ≤ (a.size : Int) := by omega
      have e0 : (0 : Int) ≤ (i : Int) := by omega
      have RE := Lib.hid (R3.empty wo wo.heap.size 2 (Nat.le_refl _))
      have BE : Hid (Below wo.heap.size wo (((wo.alloc (.cells #[] 2)).alloc (.cells #[] 2)).alloc (.cells #[] 2))) := (((Below.refl _ _).alloc (Nat.le_refl _) _).alloc (by simp) _).alloc (by simp; omega) _
      go_wp2_with fail
      go_loopg [18, 19, 20, 21] (b.size + 1) (fun q p l r kk wr => ∃ k : Nat, k ≤ b.size + 1 ∧ b.size + 1 ≤ q + k ∧ kk = .int .i64 k ∧ Hid (R3 wr wo.heap.size 2 p l r (rowOf (F1 i) k) (rowOf (F2 i) k) (rowOf (F3 i) k)) ∧ Hid (Below wo.heap.size wo wr))
      case atStart => exact ⟨0, by omega, by omega, rfl, RE.out, BE.out⟩
      case round =>
        clear RE BE
        obtain ⟨k, hk, hqk, rfl, HR, HB2⟩ := hrel
        obtain ⟨wi, rfl⟩ : ∃ x : World, x = wr := ⟨_, rfl⟩
        by_cases hkl : k < b.size + 1
        · have e2 : (k : Int) ≤ (b.size : Int) := by omega
          have e3 : (0 : Int) ≤ (k : Int) := by omega
          have HRD : Hid (∀ q, R3 (wi.drewN q) wo.heap.size 2 u18 u19 u20 (rowOf (F1 i) k) (rowOf (F2 i) k) (rowOf (F3 i) k)) := fun q => HR.out
          have HLE1 : Hid ((rowOf (F1 i) k).length + 1 ≤ 4294967296) := by show _ ≤ _; rw [rowOf_length]; omega
          have HLE2 : Hid ((rowOf (F2 i) k).length + 1 ≤ 4294967296) := by show _ ≤ _; rw [rowOf_length]; omega
          have HLE3 : Hid ((rowOf (F3 i) k).length + 1 ≤ 4294967296) := by show _ ≤ _; rw [rowOf_length]; omega
          have hsi := HB2.out.size
          have HSI := Lib.hid hsi
          rcases Nat.eq_zero_or_pos i with h0 | h0
          · have z1 : ((i : Int) == 0) = true := by rw [h0]; rfl
            have z4 : decide ((0 : Int) < (i : Int)) = false := decide_eq_false (by omega)
            have z5 : (i : Int) ≤ 0 := by omega
            rcases Nat.eq_zero_or_pos k with h1 | h1
            · have z2 : ((k : Int) == 0) = true := by rw [h1]; rfl
              have z6 : decide ((0 : Int) < (k : Int)) = false := decide_eq_false (by omega)
              have z7 : (k : Int) ≤ 0 := by omega
              have HY1 : Hid (F1 i k = 0) := by show _ = _; rw [h0, h1]; exact E00.out.1
              have HY2 : Hid (F2 i k = -1000000000) := by show _ = _; rw [h0, h1]; exact E00.out.2.1
              have HY3 : Hid (F3 i k = -1000000000) := by show _ = _; rw [h0, h1]; exact E00.out.2.2
              clear h0 h1
              go_wp2_with (first | (at_builtin; (first | (refine wpList_int_push wi rfl (.tmp 169) (.tmp 171) _ rfl wo.heap.size 2 Try.underlying27 infoI2 u18 (rowOf (F1 i) k) rfl HR.out.1 _ rfl HLE1.out HSI.out ?_; intro g1 c1 w1 hown hbl hat hgr; have HP1 : Hid (R3 w1 wo.heap.size 2 (.slice (some ⟨g1, 0, none⟩) ((rowOf (F1 i) k).length + 1) c1) u19 u20 _ (rowOf (F2 i) k) (rowOf (F3 i) k)) := (by first | exact R3.push HR.out hown hgr hat | exact R3.push (HRD.out _) hown hgr hat); have HC1 : Hid (Below wo.heap.size wo w1) := (by first | exact HB2.out.trans hbl | exact (below_draws HB2.out _).trans hbl); have HS1 := Lib.hid HC1.out.size; clear hown hbl hat hgr) | (refine wpList_int_push _ rfl (.tmp 169) (.tmp 171) _ rfl wo.heap.size 2 Try.underlying27 infoI2 u18 (rowOf (F1 i) k) (by rfl) (HRD.out _).1 _ rfl HLE1.out HSI.out ?_; intro g1 c1 w1 hown hbl hat hgr; have HP1 : Hid (R3 w1 wo.heap.size 2 (.slice (some ⟨g1, 0, none⟩) ((rowOf (F1 i) k).length + 1) c1) u19 u20 _ (rowOf (F2 i) k) (rowOf (F3 i) k)) := (by first | exact R3.push HR.out hown hgr hat | exact R3.push (HRD.out _) hown hgr hat); have HC1 : Hid (Below wo.heap.size wo w1) := (by first | exact HB2.out.trans hbl | exact (below_draws HB2.out _).trans hbl); have HS1 := Lib.hid HC1.out.size; clear hown hbl hat hgr))) | (at_builtin; refine wpList_int_push w1 rfl (.tmp 173) (.tmp 175) _ rfl wo.heap.size 2 Try.underlying27 infoI2 u19 (rowOf (F2 i) k) rfl HP1.out.2.1 _ rfl HLE2.out HS1.out ?_; intro g2 c2 w2 hown hbl hat hgr; have HP2 := Lib.hid (R3.push HP1.out.rot hown hgr hat); have HC2 : Hid (Below wo.heap.size wo w2) := HC1.out.trans hbl; have HS2 := Lib.hid HC2.out.size; clear hown hbl hat hgr) | (at_builtin; refine wpList_int_push w2 rfl (.tmp 177) (.tmp 179) _ rfl wo.heap.size 2 Try.underlying27 infoI2 u20 (rowOf (F3 i) k) rfl HP2.out.2.1 _ rfl HLE3.out HS2.out ?_; intro g3 c3 w3 hown hbl hat hgr; have HP3 := Lib.hid (R3.push HP2.out.rot hown hgr hat); have HC3 : Hid (Below wo.heap.size wo w3) := HC2.out.trans hbl; clear hown hbl hat hgr))
              go_roundg (gk - 1)
              case measure => omega
              case rel =>
                refine ⟨k + 1, by omega, by omega, by go_num, ?_, HC3.out⟩
                have h := HP3.out.rot
                show R3 _ _ _ _ _ _ _ _ _
                rw [rowOf_succ, rowOf_succ, rowOf_succ, HY1.out, HY2.out, HY3.out]
                exact h
            · have z2 : ((k : Int) == 0) = false := by rw [beq_eq_false_iff_ne]; omega
              have z6 : decide ((0 : Int) < (k : Int)) = true := decide_eq_true (by omega)
              have z7 : (0 : Int) < (k : Int) := by omega
              obtain ⟨kp, hkp⟩ : ∃ j, k = j + 1 := ⟨k - 1, by omega⟩
              have e7 : IntKind.i64.wrap ((k : Int) - 1) = (kp : Int) := by rw [show (k : Int) - 1 = (kp : Int) from by omega]; exact IntWalk.i64_in _ (by omega)
              have e8 : (0 : Int) ≤ (kp : Int) := by omega
              have e9 : (kp : Int) < (k : Int) := by omega
              obtain ⟨gp, cgp, hv, hcgp, hbgp, hlgp, hrgp⟩ := HR.out.1.form (by rw [rowOf_length]; omega)
              rw [rowOf_length] at hv hcgp
              subst hv
              have m1 := hrgp kp _ (rowOf_get _ (by omega))
              clear hrgp
              obtain ⟨gl, cgl, hv, hcgl, hbgl, hlgl, hrgl⟩ := HR.out.2.1.form (by rw [rowOf_length]; omega)
              rw [rowOf_length] at hv hcgl
              subst hv
              have m2 := hrgl kp _ (rowOf_get _ (by omega))
              clear hrgl
              obtain ⟨gr, cgr, hv, hcgr, hbgr, hlgr, hrgr⟩ := HR.out.2.2.1.form (by rw [rowOf_length]; omega)
              rw [rowOf_length] at hv hcgr
              subst hv
              have m3 := hrgr kp _ (rowOf_get _ (by omega))
              clear hrgr
              have bl := HBD.out i kp (by omega) (by omega)
              obtain ⟨l1, hl1⟩ : ∃ x, x = F1 i kp := ⟨_, rfl⟩
              obtain ⟨l2, hl2⟩ : ∃ x, x = F2 i kp := ⟨_, rfl⟩
              obtain ⟨l3, hl3⟩ : ∃ x, x = F3 i kp := ⟨_, rfl⟩
              rw [← hl1] at m1; rw [← hl2] at m2; rw [← hl3] at m3; rw [← hl1, ← hl2, ← hl3] at bl
              have ul1 : IntKind.i64.wrap (max l1 l2 - o) = max l1 l2 - o := IntWalk.i64_in _ (by omega)
              have ul2 : IntKind.i64.wrap (max (max l1 l2 - o) l3 - m) = max (max l1 l2 - o) l3 - m := IntWalk.i64_in _ (by omega)
              have HY1 : Hid (F1 i k = -1000000000) := by show _ = _; rw [h0, hkp]; exact (E0s.out kp).1
              have HY2 : Hid (F2 i k = -1000000000) := by show _ = _; rw [h0, hkp]; exact (E0s.out kp).2.1
              have HY3 : Hid (F3 i k = max (max l1 l2 - o) l3 - m) := by show _ = _; rw [hl1, hl2, hl3, h0, hkp]; exact (E0s.out kp).2.2
              clear h0 h1 hkp hl1 hl2 hl3 bl
              go_wp2_with fail
              go_quiet ((go_at_call 35; first | exact Calls.quiet_of_same (sMaxQ _ _ _) | exact quiet_more (sMaxQ _ _ _)))
              go_wp2_with (first | (at_builtin; (first | (refine wpList_int_push wi rfl (.tmp 169) (.tmp 171) _ rfl wo.heap.size 2 Try.underlying27 infoI2 (.slice (some ⟨gp, 0, none⟩) k cgp) (rowOf (F1 i) k) rfl HR.out.1 _ rfl HLE1.out HSI.out ?_; intro g1 c1 w1 hown hbl hat hgr; have HP1 : Hid (R3 w1 wo.heap.size 2 (.slice (some ⟨g1, 0, none⟩) ((rowOf (F1 i) k).length + 1) c1) (.slice (some ⟨gl, 0, none⟩) k cgl) (.slice (some ⟨gr, 0, none⟩) k cgr) _ (rowOf (F2 i) k) (rowOf (F3 i) k)) := (by first | exact R3.push HR.out hown hgr hat | exact R3.push (HRD.out _) hown hgr hat); have HC1 : Hid (Below wo.heap.size wo w1) := (by first | exact HB2.out.trans hbl | exact (below_draws HB2.out _).trans hbl); have HS1 := Lib.hid HC1.out.size; clear hown hbl hat hgr) | (refine wpList_int_push _ rfl (.tmp 169) (.tmp 171) _ rfl wo.heap.size 2 Try.underlying27 infoI2 (.slice (some ⟨gp, 0, none⟩) k cgp) (rowOf (F1 i) k) (by rfl) (HRD.out _).1 _ rfl HLE1.out HSI.out ?_; intro g1 c1 w1 hown hbl hat hgr; have HP1 : Hid (R3 w1 wo.heap.size 2 (.slice (some ⟨g1, 0, none⟩) ((rowOf (F1 i) k).length + 1) c1) (.slice (some ⟨gl, 0, none⟩) k cgl) (.slice (some ⟨gr, 0, none⟩) k cgr) _ (rowOf (F2 i) k) (rowOf (F3 i) k)) := (by first | exact R3.push HR.out hown hgr hat | exact R3.push (HRD.out _) hown hgr hat); have HC1 : Hid (Below wo.heap.size wo w1) := (by first | exact HB2.out.trans hbl | exact (below_draws HB2.out _).trans hbl); have HS1 := Lib.hid HC1.out.size; clear hown hbl hat hgr))) | (at_builtin; refine wpList_int_push w1 rfl (.tmp 173) (.tmp 175) _ rfl wo.heap.size 2 Try.underlying27 infoI2 (.slice (some ⟨gl, 0, none⟩) k cgl) (rowOf (F2 i) k) rfl HP1.out.2.1 _ rfl HLE2.out HS1.out ?_; intro g2 c2 w2 hown hbl hat hgr; have HP2 := Lib.hid (R3.push HP1.out.rot hown hgr hat); have HC2 : Hid (Below wo.heap.size wo w2) := HC1.out.trans hbl; have HS2 := Lib.hid HC2.out.size; clear hown hbl hat hgr) | (at_builtin; refine wpList_int_push w2 rfl (.tmp 177) (.tmp 179) _ rfl wo.heap.size 2 Try.underlying27 infoI2 (.slice (some ⟨gr, 0, none⟩) k cgr) (rowOf (F3 i) k) rfl HP2.out.2.1 _ rfl HLE3.out HS2.out ?_; intro g3 c3 w3 hown hbl hat hgr; have HP3 := Lib.hid (R3.push HP2.out.rot hown hgr hat); have HC3 : Hid (Below wo.heap.size wo w3) := HC2.out.trans hbl; clear hown hbl hat hgr))
              go_roundg (gk - 1)
              case measure => omega
              case rel =>
                refine ⟨k + 1, by omega, by omega, by go_num, ?_, HC3.out⟩
                have h := HP3.out.rot
                show R3 _ _ _ _ _ _ _ _ _
                rw [rowOf_succ, rowOf_succ, rowOf_succ, HY1.out, HY2.out, HY3.out]
                exact h
          · have z1 : ((i : Int) == 0) = false := by rw [beq_eq_false_iff_ne]; omega
            have z4 : decide ((0 : Int) < (i : Int)) = true := decide_eq_true (by omega)
            have z5 : (0 : Int) < (i : Int) := by omega
            obtain ⟨ip, hip⟩ : ∃ j, i = j + 1 := ⟨i - 1, by omega⟩
            have d1 : IntKind.i64.wrap ((i : Int) - 1) = (ip : Int) := by rw [show (i : Int) - 1 = (ip : Int) from by omega]; exact IntWalk.i64_in _ (by omega)
            have d2 : (0 : Int) ≤ (ip : Int) := by omega
            have d3 : (ip : Int) < (i : Int) := by omega
            obtain ⟨t1, ct1, g1, cc1, hv, hct1, hgt1, hgtl1, hch1, hcc1, hg1, hgl1, hne1, hcs1⟩ := HT.out.1.tab.at_ (rowsOf_get F1 (j := ip) (i := i) (n := b.size + 1) (by omega))
            rw [rowOf_length] at hch1 hcc1
            rw [rowsOf_length] at hct1 hv
            subst hv
            have HH1 : Hid (∀ x : World, Below wo.heap.size wo x → x.cell? ⟨t1, ip, none⟩ = some (.slice (some ⟨g1, 0, none⟩) (b.size + 1) cc1) ∧ ∀ j, j < b.size + 1 → x.cell? ⟨g1, j, none⟩ = some (.int .i64 (F1 ip j))) := fun x hx => ⟨(hx.cell (p := ⟨t1, ip, none⟩) hgtl1).trans hch1, fun j hj => (hx.cell (p := ⟨g1, j, none⟩) hgl1).trans (hcs1 _ _ (rowOf_get _ hj))⟩
            clear hcs1 hch1 hne1
            obtain ⟨t2, ct2, g2, cc2, hv, hct2, hgt2, hgtl2, hch2, hcc2, hg2, hgl2, hne2, hcs2⟩ := HT.out.2.1.tab.at_ (rowsOf_get F2 (j := ip) (i := i) (n := b.size + 1) (by omega))
            rw [rowOf_length] at hch2 hcc2
            rw [rowsOf_length] at hct2 hv
            subst hv
            have HH2 : Hid (∀ x : World, Below wo.heap.size wo x → x.cell? ⟨t2, ip, none⟩ = some (.slice (some ⟨g2, 0, none⟩) (b.size + 1) cc2) ∧ ∀ j, j < b.size + 1 → x.cell? ⟨g2, j, none⟩ = some (.int .i64 (F2 ip j))) := fun x hx => ⟨(hx.cell (p := ⟨t2, ip, none⟩) hgtl2).trans hch2, fun j hj => (hx.cell (p := ⟨g2, j, none⟩) hgl2).trans (hcs2 _ _ (rowOf_get _ hj))⟩
            clear hcs2 hch2 hne2
            obtain ⟨t3, ct3, g3, cc3, hv, hct3, hgt3, hgtl3, hch3, hcc3, hg3, hgl3, hne3, hcs3⟩ := HT.out.2.2.1.tab.at_ (rowsOf_get F3 (j := ip) (i := i) (n := b.size + 1) (by omega))
            rw [rowOf_length] at hch3 hcc3
            rw [rowsOf_length] at hct3 hv
            subst hv
            have HH3 : Hid (∀ x : World, Below wo.heap.size wo x → x.cell? ⟨t3, ip, none⟩ = some (.slice (some ⟨g3, 0, none⟩) (b.size + 1) cc3) ∧ ∀ j, j < b.size + 1 → x.cell? ⟨g3, j, none⟩ = some (.int .i64 (F3 ip j))) := fun x hx => ⟨(hx.cell (p := ⟨t3, ip, none⟩) hgtl3).trans hch3, fun j hj => (hx.cell (p := ⟨g3, j, none⟩) hgl3).trans (hcs3 _ _ (rowOf_get _ hj))⟩
            clear hcs3 hch3 hne3
            have e2' : (k : Int) < (b.size : Int) + 1 := by omega
            rcases Nat.eq_zero_or_pos k with h1 | h1
            · have z2 : ((k : Int) == 0) = true := by rw [h1]; rfl
              have z6 : decide ((0 : Int) < (k : Int)) = false := decide_eq_false (by omega)
              have z7 : (k : Int) ≤ 0 := by omega
              obtain ⟨x1, hx1⟩ := HH1.out wi HB2.out
              have p1 := hx1 k hkl
              obtain ⟨x2, hx2⟩ := HH2.out wi HB2.out
              have p2 := hx2 k hkl
              obtain ⟨x3, hx3⟩ := HH3.out wi HB2.out
              have p3 := hx3 k hkl
              have bu := HBD.out ip k (by omega) (by omega)
              obtain ⟨y1, hy1⟩ : ∃ x, x = F1 ip k := ⟨_, rfl⟩
              obtain ⟨y2, hy2⟩ : ∃ x, x = F2 ip k := ⟨_, rfl⟩
              obtain ⟨y3, hy3⟩ : ∃ x, x = F3 ip k := ⟨_, rfl⟩
              rw [← hy1] at p1; rw [← hy2] at p2; rw [← hy3] at p3; rw [← hy1, ← hy2, ← hy3] at bu
              have uu1 : IntKind.i64.wrap (max y1 y3 - o) = max y1 y3 - o := IntWalk.i64_in _ (by omega)
              have uu2 : IntKind.i64.wrap (max (max y1 y3 - o) y2 - m) = max (max y1 y3 - o) y2 - m := IntWalk.i64_in _ (by omega)
              have HY1 : Hid (F1 i k = -1000000000) := by show _ = _; rw [h1, hip]; exact (Es0.out ip).1
              have HY2 : Hid (F2 i k = max (max y1 y3 - o) y2 - m) := by show _ = _; rw [hy1, hy2, hy3, h1, hip]; exact (Es0.out ip).2.1
              have HY3 : Hid (F3 i k = -1000000000) := by show _ = _; rw [h1, hip]; exact (Es0.out ip).2.2
              clear h0 h1 hip hy1 hy2 hy3 hx1 hx2 hx3 bu
              go_wp2_with fail
              go_quiet ((go_at_call 35; first | exact Calls.quiet_of_same (sMaxQ _ _ _) | exact quiet_more (sMaxQ _ _ _)))
              go_wp2_with (first | (at_builtin; (first | (refine wpList_int_push wi rfl (.tmp 169) (.tmp 171) _ rfl wo.heap.size 2 Try.underlying27 infoI2 u18 (rowOf (F1 i) k) rfl HR.out.1 _ rfl HLE1.out HSI.out ?_; intro g1 c1 w1 hown hbl hat hgr; have HP1 : Hid (R3 w1 wo.heap.size 2 (.slice (some ⟨g1, 0, none⟩) ((rowOf (F1 i) k).length + 1) c1) u19 u20 _ (rowOf (F2 i) k) (rowOf (F3 i) k)) := (by first | exact R3.push HR.out hown hgr hat | exact R3.push (HRD.out _) hown hgr hat); have HC1 : Hid (Below wo.heap.size wo w1) := (by first | exact HB2.out.trans hbl | exact (below_draws HB2.out _).trans hbl); have HS1 := Lib.hid HC1.out.size; clear hown hbl hat hgr) | (refine wpList_int_push _ rfl (.tmp 169) (.tmp 171) _ rfl wo.heap.size 2 Try.underlying27 infoI2 u18 (rowOf (F1 i) k) (by rfl) (HRD.out _).1 _ rfl HLE1.out HSI.out ?_; intro g1 c1 w1 hown hbl hat hgr; have HP1 : Hid (R3 w1 wo.heap.size 2 (.slice (some ⟨g1, 0, none⟩) ((rowOf (F1 i) k).length + 1) c1) u19 u20 _ (rowOf (F2 i) k) (rowOf (F3 i) k)) := (by first | exact R3.push HR.out hown hgr hat | exact R3.push (HRD.out _) hown hgr hat); have HC1 : Hid (Below wo.heap.size wo w1) := (by first | exact HB2.out.trans hbl | exact (below_draws HB2.out _).trans hbl); have HS1 := Lib.hid HC1.out.size; clear hown hbl hat hgr))) | (at_builtin; refine wpList_int_push w1 rfl (.tmp 173) (.tmp 175) _ rfl wo.heap.size 2 Try.underlying27 infoI2 u19 (rowOf (F2 i) k) rfl HP1.out.2.1 _ rfl HLE2.out HS1.out ?_; intro g2 c2 w2 hown hbl hat hgr; have HP2 := Lib.hid (R3.push HP1.out.rot hown hgr hat); have HC2 : Hid (Below wo.heap.size wo w2) := HC1.out.trans hbl; have HS2 := Lib.hid HC2.out.size; clear hown hbl hat hgr) | (at_builtin; refine wpList_int_push w2 rfl (.tmp 177) (.tmp 179) _ rfl wo.heap.size 2 Try.underlying27 infoI2 u20 (rowOf (F3 i) k) rfl HP2.out.2.1 _ rfl HLE3.out HS2.out ?_; intro g3 c3 w3 hown hbl hat hgr; have HP3 := Lib.hid (R3.push HP2.out.rot hown hgr hat); have HC3 : Hid (Below wo.heap.size wo w3) := HC2.out.trans hbl; clear hown hbl hat hgr))
              go_roundg (gk - 1)
              case measure => omega
              case rel =>
                refine ⟨k + 1, by omega, by omega, by go_num, ?_, HC3.out⟩
                have h := HP3.out.rot
                show R3 _ _ _ _ _ _ _ _ _
                rw [rowOf_succ, rowOf_succ, rowOf_succ, HY1.out, HY2.out, HY3.out]
                exact h
            · have z2 : ((k : Int) == 0) = false := by rw [beq_eq_false_iff_ne]; omega
              have z6 : decide ((0 : Int) < (k : Int)) = true := decide_eq_true (by omega)
              have z7 : (0 : Int) < (k : Int) := by omega
              obtain ⟨kp, hkp⟩ : ∃ j, k = j + 1 := ⟨k - 1, by omega⟩
              have e7 : IntKind.i64.wrap ((k : Int) - 1) = (kp : Int) := by rw [show (k : Int) - 1 = (kp : Int) from by omega]; exact IntWalk.i64_in _ (by omega)
              have e8 : (0 : Int) ≤ (kp : Int) := by omega
              have e9 : (kp : Int) < (k : Int) := by omega
              obtain ⟨x1, hx1⟩ := HH1.out wi HB2.out
              have p1 := hx1 k hkl
              obtain ⟨x2, hx2⟩ := HH2.out wi HB2.out
              have p2 := hx2 k hkl
              obtain ⟨x3, hx3⟩ := HH3.out wi HB2.out
              have p3 := hx3 k hkl
              have bu := HBD.out ip k (by omega) (by omega)
              obtain ⟨y1, hy1⟩ : ∃ x, x = F1 ip k := ⟨_, rfl⟩
              obtain ⟨y2, hy2⟩ : ∃ x, x = F2 ip k := ⟨_, rfl⟩
              obtain ⟨y3, hy3⟩ : ∃ x, x = F3 ip k := ⟨_, rfl⟩
              rw [← hy1] at p1; rw [← hy2] at p2; rw [← hy3] at p3; rw [← hy1, ← hy2, ← hy3] at bu
              have uu1 : IntKind.i64.wrap (max y1 y3 - o) = max y1 y3 - o := IntWalk.i64_in _ (by omega)
              have uu2 : IntKind.i64.wrap (max (max y1 y3 - o) y2 - m) = max (max y1 y3 - o) y2 - m := IntWalk.i64_in _ (by omega)
              obtain ⟨gp, cgp, hv, hcgp, hbgp, hlgp, hrgp⟩ := HR.out.1.form (by rw [rowOf_length]; omega)
              rw [rowOf_length] at hv hcgp
              subst hv
              have m1 := hrgp kp _ (rowOf_get _ (by omega))
              clear hrgp
              obtain ⟨gl, cgl, hv, hcgl, hbgl, hlgl, hrgl⟩ := HR.out.2.1.form (by rw [rowOf_length]; omega)
              rw [rowOf_length] at hv hcgl
              subst hv
              have m2 := hrgl kp _ (rowOf_get _ (by omega))
              clear hrgl
              obtain ⟨gr, cgr, hv, hcgr, hbgr, hlgr, hrgr⟩ := HR.out.2.2.1.form (by rw [rowOf_length]; omega)
              rw [rowOf_length] at hv hcgr
              subst hv
              have m3 := hrgr kp _ (rowOf_get _ (by omega))
              clear hrgr
              have bl := HBD.out i kp (by omega) (by omega)
              obtain ⟨l1, hl1⟩ : ∃ x, x = F1 i kp := ⟨_, rfl⟩
              obtain ⟨l2, hl2⟩ : ∃ x, x = F2 i kp := ⟨_, rfl⟩
              obtain ⟨l3, hl3⟩ : ∃ x, x = F3 i kp := ⟨_, rfl⟩
              rw [← hl1] at m1; rw [← hl2] at m2; rw [← hl3] at m3; rw [← hl1, ← hl2, ← hl3] at bl
              have ul1 : IntKind.i64.wrap (max l1 l2 - o) = max l1 l2 - o := IntWalk.i64_in _ (by omega)
              have ul2 : IntKind.i64.wrap (max (max l1 l2 - o) l3 - m) = max (max l1 l2 - o) l3 - m := IntWalk.i64_in _ (by omega)
              have r1 := hx1 kp (by omega)
              have r2 := hx2 kp (by omega)
              have r3 := hx3 kp (by omega)
              have bv := HBD.out ip kp (by omega) (by omega)
              obtain ⟨v1, hv1⟩ : ∃ x, x = F1 ip kp := ⟨_, rfl⟩
              obtain ⟨v2, hv2⟩ : ∃ x, x = F2 ip kp := ⟨_, rfl⟩
              obtain ⟨v3, hv3⟩ : ∃ x, x = F3 ip kp := ⟨_, rfl⟩
              rw [← hv1] at r1; rw [← hv2] at r2; rw [← hv3] at r3; rw [← hv1, ← hv2, ← hv3] at bv
              have hba := get_bt a
              have hbb := get_bt b
              have i1 : (ip : Int) < (a.size : Int) := by omega
              have i2 : (kp : Int) < (b.size : Int) := by omega
              have i3 : (kp : Int) < (b.size : Int) + 1 := by omega
              have hE := Ess.out ip kp
              rw [← hip, ← hkp, ← hv1, ← hv2, ← hv3, ← hy1, ← hy2, ← hy3, ← hl1, ← hl2, ← hl3] at hE
              have HY2 := Lib.hid hE.2.1
              have HY3 := Lib.hid hE.2.2
              have HYQ := Lib.hid hE.1
              have uq1 : IntKind.i64.wrap (max v1 (max v2 v3) + s) = max v1 (max v2 v3) + s := IntWalk.i64_in _ (by omega)
              have uq2 : IntKind.i64.wrap (max v1 (max v2 v3) - d) = max v1 (max v2 v3) - d := IntWalk.i64_in _ (by omega)
              clear h0 h1 hE hip hkp hl1 hl2 hl3 hy1 hy2 hy3 hv1 hv2 hv3 hx1 hx2 hx3 bl bu bv
              by_cases hq : bt a ip = bt b kp
              · have q1 : (bt a ip == bt b kp) = true := by simp [hq]
                have HY1 : Hid (F1 i k = max v1 (max v2 v3) + s) := by show _ = _; rw [HYQ.out, if_pos hq]
                clear hq HYQ
                go_wp2_with fail
                go_quiet ((go_at_call 35; first | exact Calls.quiet_of_same (sMaxQ _ _ _) | exact quiet_more (sMaxQ _ _ _)))
                go_wp2_with fail
                go_quiet (fail)
                go_wp2_with fail
                go_quiet ((go_at_call 35; first | exact Calls.quiet_of_same (sMaxQ _ _ _) | exact quiet_more (sMaxQ _ _ _)))
                go_wp2_with fail
                go_quiet ((go_at_call 35; first | exact Calls.quiet_of_same (sMaxQ _ _ _) | exact quiet_more (sMaxQ _ _ _)))
                go_wp2_with (first | (at_builtin; (first | (refine wpList_int_push wi rfl (.tmp 169) (.tmp 171) _ rfl wo.heap.size 2 Try.underlying27 infoI2 (.slice (some ⟨gp, 0, none⟩) k cgp) (rowOf (F1 i) k) rfl HR.out.1 _ rfl HLE1.out HSI.out ?_; intro g1 c1 w1 hown hbl hat hgr; have HP1 : Hid (R3 w1 wo.heap.size 2 (.slice (some ⟨g1, 0, none⟩) ((rowOf (F1 i) k).length + 1) c1) (.slice (some ⟨gl, 0, none⟩) k cgl) (.slice (some ⟨gr, 0, none⟩) k cgr) _ (rowOf (F2 i) k) (rowOf (F3 i) k)) := (by first | exact R3.push HR.out hown hgr hat | exact R3.push (HRD.out _) hown hgr hat); have HC1 : Hid (Below wo.heap.size wo w1) := (by first | exact HB2.out.trans hbl | exact (below_draws HB2.out _).trans hbl); have HS1 := Lib.hid HC1.out.size; clear hown hbl hat hgr) | (refine wpList_int_push _ rfl (.tmp 169) (.tmp 171) _ rfl wo.heap.size 2 Try.underlying27 infoI2 (.slice (some ⟨gp, 0, none⟩) k cgp) (rowOf (F1 i) k) (by rfl) (HRD.out _).1 _ rfl HLE1.out HSI.out ?_; intro g1 c1 w1 hown hbl hat hgr; have HP1 : Hid (R3 w1 wo.heap.size 2 (.slice (some ⟨g1, 0, none⟩) ((rowOf (F1 i) k).length + 1) c1) (.slice (some ⟨gl, 0, none⟩) k cgl) (.slice (some ⟨gr, 0, none⟩) k cgr) _ (rowOf (F2 i) k) (rowOf (F3 i) k)) := (by first | exact R3.push HR.out hown hgr hat | exact R3.push (HRD.out _) hown hgr hat); have HC1 : Hid (Below wo.heap.size wo w1) := (by first | exact HB2.out.trans hbl | exact (below_draws HB2.out _).trans hbl); have HS1 := Lib.hid HC1.out.size; clear hown hbl hat hgr))) | (at_builtin; refine wpList_int_push w1 rfl (.tmp 173) (.tmp 175) _ rfl wo.heap.size 2 Try.underlying27 infoI2 (.slice (some ⟨gl, 0, none⟩) k cgl) (rowOf (F2 i) k) rfl HP1.out.2.1 _ rfl HLE2.out HS1.out ?_; intro g2 c2 w2 hown hbl hat hgr; have HP2 := Lib.hid (R3.push HP1.out.rot hown hgr hat); have HC2 : Hid (Below wo.heap.size wo w2) := HC1.out.trans hbl; have HS2 := Lib.hid HC2.out.size; clear hown hbl hat hgr) | (at_builtin; refine wpList_int_push w2 rfl (.tmp 177) (.tmp 179) _ rfl wo.heap.size 2 Try.underlying27 infoI2 (.slice (some ⟨gr, 0, none⟩) k cgr) (rowOf (F3 i) k) rfl HP2.out.2.1 _ rfl HLE3.out HS2.out ?_; intro g3 c3 w3 hown hbl hat hgr; have HP3 := Lib.hid (R3.push HP2.out.rot hown hgr hat); have HC3 : Hid (Below wo.heap.size wo w3) := HC2.out.trans hbl; clear hown hbl hat hgr))
                go_roundg (gk - 1)
                case measure => omega
                case rel =>
                  refine ⟨k + 1, by omega, by omega, by go_num, ?_, HC3.out⟩
                  have h := HP3.out.rot
                  show R3 _ _ _ _ _ _ _ _ _
                  rw [rowOf_succ, rowOf_succ, rowOf_succ, HY1.out, HY2.out, HY3.out]
                  exact h
              · have q1 : (bt a ip == bt b kp) = false := by simp [hq]
                have HY1 : Hid (F1 i k = max v1 (max v2 v3) - d) := by show _ = _; rw [HYQ.out, if_neg hq]; omega
                clear hq HYQ
                go_wp2_with fail
                go_quiet ((go_at_call 35; first | exact Calls.quiet_of_same (sMaxQ _ _ _) | exact quiet_more (sMaxQ _ _ _)))
                go_wp2_with fail
                go_quiet (fail)
                go_wp2_with fail
                go_quiet ((go_at_call 35; first | exact Calls.quiet_of_same (sMaxQ _ _ _) | exact quiet_more (sMaxQ _ _ _)))
                go_wp2_with fail
                go_quiet ((go_at_call 35; first | exact Calls.quiet_of_same (sMaxQ _ _ _) | exact quiet_more (sMaxQ _ _ _)))
                go_wp2_with (first | (at_builtin; (first | (refine wpList_int_push wi rfl (.tmp 169) (.tmp 171) _ rfl wo.heap.size 2 Try.underlying27 infoI2 (.slice (some ⟨gp, 0, none⟩) k cgp) (rowOf (F1 i) k) rfl HR.out.1 _ rfl HLE1.out HSI.out ?_; intro g1 c1 w1 hown hbl hat hgr; have HP1 : Hid (R3 w1 wo.heap.size 2 (.slice (some ⟨g1, 0, none⟩) ((rowOf (F1 i) k).length + 1) c1) (.slice (some ⟨gl, 0, none⟩) k cgl) (.slice (some ⟨gr, 0, none⟩) k cgr) _ (rowOf (F2 i) k) (rowOf (F3 i) k)) := (by first | exact R3.push HR.out hown hgr hat | exact R3.push (HRD.out _) hown hgr hat); have HC1 : Hid (Below wo.heap.size wo w1) := (by first | exact HB2.out.trans hbl | exact (below_draws HB2.out _).trans hbl); have HS1 := Lib.hid HC1.out.size; clear hown hbl hat hgr) | (refine wpList_int_push _ rfl (.tmp 169) (.tmp 171) _ rfl wo.heap.size 2 Try.underlying27 infoI2 (.slice (some ⟨gp, 0, none⟩) k cgp) (rowOf (F1 i) k) (by rfl) (HRD.out _).1 _ rfl HLE1.out HSI.out ?_; intro g1 c1 w1 hown hbl hat hgr; have HP1 : Hid (R3 w1 wo.heap.size 2 (.slice (some ⟨g1, 0, none⟩) ((rowOf (F1 i) k).length + 1) c1) (.slice (some ⟨gl, 0, none⟩) k cgl) (.slice (some ⟨gr, 0, none⟩) k cgr) _ (rowOf (F2 i) k) (rowOf (F3 i) k)) := (by first | exact R3.push HR.out hown hgr hat | exact R3.push (HRD.out _) hown hgr hat); have HC1 : Hid (Below wo.heap.size wo w1) := (by first | exact HB2.out.trans hbl | exact (below_draws HB2.out _).trans hbl); have HS1 := Lib.hid HC1.out.size; clear hown hbl hat hgr))) | (at_builtin; refine wpList_int_push w1 rfl (.tmp 173) (.tmp 175) _ rfl wo.heap.size 2 Try.underlying27 infoI2 (.slice (some ⟨gl, 0, none⟩) k cgl) (rowOf (F2 i) k) rfl HP1.out.2.1 _ rfl HLE2.out HS1.out ?_; intro g2 c2 w2 hown hbl hat hgr; have HP2 := Lib.hid (R3.push HP1.out.rot hown hgr hat); have HC2 : Hid (Below wo.heap.size wo w2) := HC1.out.trans hbl; have HS2 := Lib.hid HC2.out.size; clear hown hbl hat hgr) | (at_builtin; refine wpList_int_push w2 rfl (.tmp 177) (.tmp 179) _ rfl wo.heap.size 2 Try.underlying27 infoI2 (.slice (some ⟨gr, 0, none⟩) k cgr) (rowOf (F3 i) k) rfl HP2.out.2.1 _ rfl HLE3.out HS2.out ?_; intro g3 c3 w3 hown hbl hat hgr; have HP3 := Lib.hid (R3.push HP2.out.rot hown hgr hat); have HC3 : Hid (Below wo.heap.size wo w3) := HC2.out.trans hbl; clear hown hbl hat hgr))
                go_roundg (gk - 1)
                case measure => omega
                case rel =>
                  refine ⟨k + 1, by omega, by omega, by go_num, ?_, HC3.out⟩
                  have h := HP3.out.rot
                  show R3 _ _ _ _ _ _ _ _ _
                  rw [rowOf_succ, rowOf_succ, rowOf_succ, HY1.out, HY2.out, HY3.out]
                  exact h
        · have hkk : k = b.size + 1 := by omega
          have e2 : (b.size : Int) < (k : Int) := by omega
          obtain ⟨gp, cgp, hv, hcgp, hbgp, hlgp, hrgp⟩ := HR.out.1.form (by rw [rowOf_length]; omega)
          rw [rowOf_length, hkk] at hv hcgp
          rw [hkk] at hrgp
          subst hv
          have HCgp := Lib.hid hrgp; clear hrgp
          obtain ⟨gl, cgl, hv, hcgl, hbgl, hlgl, hrgl⟩ := HR.out.2.1.form (by rw [rowOf_length]; omega)
          rw [rowOf_length, hkk] at hv hcgl
          rw [hkk] at hrgl
          subst hv
          have HCgl := Lib.hid hrgl; clear hrgl
          obtain ⟨gr, cgr, hv, hcgr, hbgr, hlgr, hrgr⟩ := HR.out.2.2.1.form (by rw [rowOf_length]; omega)
          rw [rowOf_length, hkk] at hv hcgr
          rw [hkk] at hrgr
          subst hv
          have HCgr := Lib.hid hrgr; clear hrgr
          have HAP : Hid (gp ≠ gl ∧ gl ≠ gr ∧ gr ≠ gp) := ⟨fun e => HR.out.2.2.2.1 gp rfl (by rw [e]; rfl), fun e => HR.out.2.2.2.2.1 gl rfl (by rw [e]; rfl), fun e => HR.out.2.2.2.2.2 gr rfl (by rw [e]; rfl)⟩
          have HTW := Lib.hid (HT.out.below HB2.out (Nat.le_refl _))
          have hbq : w.heap.size + 1 ≤ wi.heap.size := by have := HB2.out.size; omega
          have HN1 : Hid ((rowsOf F1 i (b.size + 1)).length + 1 ≤ 4294967296) := by show _ ≤ _; rw [rowsOf_length]; omega
          have HN2 : Hid ((rowsOf F2 i (b.size + 1)).length + 1 ≤ 4294967296) := by show _ ≤ _; rw [rowsOf_length]; omega
          have HN3 : Hid ((rowsOf F3 i (b.size + 1)).length + 1 ≤ 4294967296) := by show _ ≤ _; rw [rowsOf_length]; omega
          have hsi := HB2.out.size
          clear HR hkk
          go_wp2_with (first | (at_builtin; refine wpList_t3_push wi rfl (.tmp 181) (.tmp 183) _ rfl (w.heap.size + 1) 27 Try.underlying25 infoS2 u14 u15 u16 (rowsOf F1 i (b.size + 1)) (rowsOf F2 i (b.size + 1)) (rowsOf F3 i (b.size + 1)) q1 q2 q3 rfl HTW.out gp cgp (b.size + 1) (rowOf (F1 i) (b.size + 1)) (rowOf_length _ _) rfl (by omega) hlgp (fun h => by have := HQ1.out _ h; omega) (fun h => by have := HQ2.out _ h; omega) (fun h => by have := HQ3.out _ h; omega) hcgp HCgp.out HN1.out hbq ?_; intro k1 cap1 w1 ht hgr hbl hat; have HT1 := Lib.hid ht.rot; have HG1 := Lib.hid hgr; have HA1 := Lib.hid hat; have HZ1 := Lib.hid hbl; have HS1 := Lib.hid hgr.size; clear ht hgr hbl hat) | (at_builtin; refine wpList_t3_push w1 rfl (.tmp 185) (.tmp 187) _ rfl (w.heap.size + 1) 27 Try.underlying25 infoS2 u15 u16 _ (rowsOf F2 i (b.size + 1)) (rowsOf F3 i (b.size + 1)) _ q2 q3 _ rfl HT1.out gl cgl (b.size + 1) (rowOf (F2 i) (b.size + 1)) (rowOf_length _ _) rfl (by omega) (Nat.lt_of_lt_of_le hlgl HS1.out) (fun h => by have := HQ2.out _ h; omega) (fun h => by have := HQ3.out _ h; omega) (fun h => h.elim (fun h => absurd (HQ1.out _ h) (by omega)) (fun h => h.elim (fun h => HAP.out.1 h.symm) (fun h => HA1.out.elim (fun e => absurd (HO1.out _ e) (by omega)) (fun e => by omega)))) hcgl (fun kk x hx => HG1.out.cell (HCgl.out kk x hx) (fun e => by have := HO1.out gl e.symm; omega)) HN2.out (Nat.le_trans hbq HS1.out) ?_; intro k2 cap2 w2 ht hgr hbl hat; have HT2 := Lib.hid ht.rot; have HG2 := Lib.hid hgr; have HA2 := Lib.hid hat; have HZ2 := Lib.hid hbl; have HS2 := Lib.hid hgr.size; clear ht hgr hbl hat) | (at_builtin; refine wpList_t3_push w2 rfl (.tmp 189) (.tmp 191) _ rfl (w.heap.size + 1) 27 Try.underlying25 infoS2 u16 _ _ (rowsOf F3 i (b.size + 1)) _ _ q3 _ _ rfl HT2.out gr cgr (b.size + 1) (rowOf (F3 i) (b.size + 1)) (rowOf_length _ _) rfl (by omega) (Nat.lt_of_lt_of_le hlgr (Nat.le_trans HS1.out HS2.out)) (fun h => by have := HQ3.out _ h; omega) (fun h => h.elim (fun h => absurd (HQ1.out _ h) (by omega)) (fun h => h.elim (fun h => HAP.out.2.2 h) (fun h => HA1.out.elim (fun e => absurd (HO1.out _ e) (by omega)) (fun e => by omega)))) (fun h => h.elim (fun h => absurd (HQ2.out _ h) (by omega)) (fun h => h.elim (fun h => HAP.out.2.1 h.symm) (fun h => HA2.out.elim (fun e => absurd (HO2.out _ e) (by omega)) (fun e => by have h9 := HS1.out; omega)))) hcgr (fun kk x hx => HG2.out.cell (HG1.out.cell (HCgr.out kk x hx) (fun e => by have := HO1.out gr e.symm; omega)) (fun e => by have := HO2.out gr e.symm; omega)) HN3.out (Nat.le_trans hbq (Nat.le_trans HS1.out HS2.out)) ?_; intro k3 cap3 w3 ht hgr hbl hat; have HT3 := Lib.hid ht.rot; have HZ3 := Lib.hid hbl; clear ht hgr hbl hat))
          have HB6 : Hid (Below w.heap.size w w3) := (((HB.out.trans (HB2.out.mono HB.out.size)).trans (HZ1.out.mono (by omega))).trans (HZ2.out.mono (by omega))).trans (HZ3.out.mono (by omega))
          go_roundg (go - 1)
          case measure => omega
          case rel =>
            refine ⟨i + 1, (fun k => q1 k ∨ k = gp ∨ k = k1), (fun k => q2 k ∨ k = gl ∨ k = k2), (fun k => q3 k ∨ k = gr ∨ k = k3), by omega, by omega, by go_num, ?_, HB6.out, by have h1 := HS1.out; have h2 := HS2.out; have h3 := HZ3.out.size; omega⟩
            show T3 _ _ _ _ _ _ _ _ _ _ _ _
            rw [rowsOf_succ, rowsOf_succ, rowsOf_succ]
            exact HT3.out
    · have hii : i = a.size + 1 := by omega
      have e1 : (a.size : Int) < (i : Int) := by omega
      obtain ⟨t1, ct1, g1, cc1, hv, hct1, hgt1, hgtl1, hch1, hcc1, hg1, hgl1, hne1, hcs1⟩ := HT.out.1.tab.at_ (rowsOf_get F1 (j := a.size) (i := i) (n := b.size + 1) (by omega))
      rw [rowOf_length] at hch1 hcc1
      rw [rowsOf_length, hii] at hv
      subst hv
      have p1 := hcs1 b.size _ (rowOf_get _ (Nat.lt_succ_self b.size))
      clear hcs1
      obtain ⟨t2, ct2, g2, cc2, hv, hct2, hgt2, hgtl2, hch2, hcc2, hg2, hgl2, hne2, hcs2⟩ := HT.out.2.1.tab.at_ (rowsOf_get F2 (j := a.size) (i := i) (n := b.size + 1) (by omega))
      rw [rowOf_length] at hch2 hcc2
      rw [rowsOf_length, hii] at hv
      subst hv
      have p2 := hcs2 b.size _ (rowOf_get _ (Nat.lt_succ_self b.size))
      clear hcs2
      obtain ⟨t3, ct3, g3, cc3, hv, hct3, hgt3, hgtl3, hch3, hcc3, hg3, hgl3, hne3, hcs3⟩ := HT.out.2.2.1.tab.at_ (rowsOf_get F3 (j := a.size) (i := i) (n := b.size + 1) (by omega))
      rw [rowOf_length] at hch3 hcc3
      rw [rowsOf_length, hii] at hv
      subst hv
      have p3 := hcs3 b.size _ (rowOf_get _ (Nat.lt_succ_self b.size))
      clear hcs3
      obtain ⟨y1, hy1⟩ : ∃ x, x = F1 a.size b.size := ⟨_, rfl⟩
      obtain ⟨y2, hy2⟩ : ∃ x, x = F2 a.size b.size := ⟨_, rfl⟩
      obtain ⟨y3, hy3⟩ : ∃ x, x = F3 a.size b.size := ⟨_, rfl⟩
      rw [← hy1] at p1; rw [← hy2] at p2; rw [← hy3] at p3
      have HYY := Lib.hid (show agB (ag a b s d o m 1000000000 a.size b.size) = max y1 (max y2 y3) from by rw [HBB.out, hy1, hy2, hy3])
      clear hy1 hy2 hy3 hii
      go_wp2_with fail
      go_quiet ((go_at_call 35; first | exact Calls.quiet_of_same (sMaxQ _ _ _) | exact quiet_more (sMaxQ _ _ _)))
      go_wp2_with fail
      go_ret2
      exact ⟨by rw [HYY.out]; rfl, by first | exact HB.out | exact below_draws HB.out _⟩
end Go.Proofs.Ytchacfienafhlaa
