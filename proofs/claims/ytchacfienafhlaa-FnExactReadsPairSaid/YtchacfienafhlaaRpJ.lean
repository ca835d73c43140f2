/- ReadsPair of the program: the search, walked. -/
import Derived.Test.YtchacfienafhlaaRpI
namespace Go.Proofs.Ytchacfienafhlaa
open Go.RowKit
set_option linter.unusedVariables false
theorem nxt_some {xs ys : List Int} {p : P3} {a : A4} {i k : Nat} (h : a.1 = p.2.2) (h1 : pss xs p.1 a.2.2.1 = some i) (h2 : pss ys p.2.1 a.2.2.2 = some k) : nxt xs ys p a = some (i, k, a.2.1) := by
  unfold nxt; rw [if_pos h, h1, h2]
theorem nxt_no0 {xs ys : List Int} {p : P3} {a : A4} (h : ¬ a.1 = p.2.2) : nxt xs ys p a = none := if_neg h
theorem nxt_no1 {xs ys : List Int} {p : P3} {a : A4} (h1 : pss xs p.1 a.2.2.1 = none) : nxt xs ys p a = none := by
  unfold nxt; split
  · rw [h1]
  · rfl
theorem nxt_no2 {xs ys : List Int} {p : P3} {a : A4} (h2 : pss ys p.2.1 a.2.2.2 = none) : nxt xs ys p a = none := by
  unfold nxt; split
  · rw [h2]; cases pss xs p.1 a.2.2.1 <;> rfl
  · rfl
theorem okA_bd {S T : Int} {a : A4} (h : okA S T a = true) : (0 ≤ a.1 ∧ a.1 ≤ S - 1) ∧ (0 ≤ a.2.1 ∧ a.2.1 ≤ S - 1) := by
  unfold okA at h
  rw [Bool.and_eq_true, Bool.and_eq_true] at h
  exact ⟨inB_true h.1, inB_true h.2.1⟩
theorem own_row3 {w : World} {g base : Nat} {t : TypeId} {vs : List Value} (h : Row w g t vs) (hb : base ≤ g) (hl : vs.length = 3) : w.ownsRow base t 3 (.slice (some ⟨g, 0, none⟩) 1 1) 1 vs :=
  ⟨by omega, .inr ⟨g, 1, vs.toArray, rfl, hb, h, Nat.le_refl _, by unfold maxLen; omega, by simp [hl], by rw [show 3 * 1 = vs.length by omega]; simp⟩⟩
/-- Whether a round adds a place. -/
def newB (ps : List P3) : Option P3 → Bool
  | none => false
  | some q => !decide (q ∈ ps)
theorem addp_old {ps : List P3} {o : Option P3} (h : newB ps o = false) : addp ps o = ps := by
  cases o with
  | none => rfl
  | some q =>
    have : q ∈ ps := by simpa [newB] using h
    exact if_pos this
theorem addp_new {ps : List P3} {o : Option P3} (h : newB ps o = true) : ∃ q, o = some q ∧ q ∉ ps ∧ addp ps o = ps ++ [q] := by
  cases o with
  | none => cases h
  | some q =>
    have h' : q ∉ ps := by simpa [newB] using h
    exact ⟨q, rfl, h', if_neg h'⟩
set_option maxRecDepth 100000 in
set_option maxHeartbeats 8000000 in
theorem iReadsP_any (v : Value) (S T : Int) (L : List A4) (E : List Bool) (A : Option Addr) (n c : Nat) (xs : List Int) (A' : Option Addr) (n' c' : Nat) (ys : List Int) (w : World) (h : Sd w w.heap.size v S T L E) (hx : SlI w w.heap.size A n xs) (hy : SlI w w.heap.size A' n' ys) (hv : vsB S T L E = true) (hn : n ≤ 12) (hn' : n' ≤ 12) :
    Calls Try.prog 63 #[v, .slice A n c, .slice A' n' c'] w fun e w' => e = .returned (.bool (rpS S L E xs ys)) ∧ Below w.heap.size w w' := by
  obtain ⟨A2, n2, c2, A3, n3, c3, rfl, h2, h3⟩ := h
  obtain ⟨qS, qT, qL, qE, qA⟩ := vsB_true hv
  have el := h2.len; have ee := h3.len; have ex := hx.len; have ey := hy.len
  subst ex ey
  obtain ⟨N, hN⟩ : ∃ N, N = S.toNat * ((xs.length + 1) * (ys.length + 1)) := ⟨_, rfl⟩
  have hN1 : N ≤ 1352 := by
    rw [hN]
    have h1 : S.toNat ≤ 8 := by omega
    have h2 : (xs.length + 1) * (ys.length + 1) ≤ 13 * 13 := Nat.mul_le_mul (by omega) (by omega)
    exact Nat.le_trans (Nat.mul_le_mul h1 h2) (by omega)
  have hR : rpS S L E xs ys = srch xs ys L E (N + 1) [(0, 0, 0)] 0 := by rw [hN]; rfl
  have HOKL : Hid (∀ a ∈ L, 0 ≤ a.2.1 ∧ a.2.1 < S) := fun a ha => by have := okA_bd (qA a ha); omega
  have HLEN : Hid (∀ ps, okL S xs ys ps → ps.length ≤ N) := fun ps hp => by rw [hN]; exact okL_len hp
  have HOKW : Hid (∀ p, okP S xs ys p → okW p) := fun p hp => by obtain ⟨a1, a2, a3, a4⟩ := hp; exact ⟨by omega, by omega, a3, by omega⟩
  have HRR := Lib.hid hR; clear hR hN qA hv
  have rb := Row.new w 46 [.int .i64 S, .int .i64 T, .slice A2 n2 c2, .slice A3 n3 c3]
  have bx : Below w.heap.size w (w.alloc (.cells ([.int .i64 S, .int .i64 T, .slice A2 n2 c2, .slice A3 n3 c3] : List Value).toArray 46)) := (Below.refl _ _).alloc (Nat.le_refl _) _
  have H2 := Lib.hid h2; have H3 := Lib.hid h3; have HX := Lib.hid hx; have HY := Lib.hid hy; have HEL := Lib.hid el; have HEE := Lib.hid ee
  have hn2 : n2 ≤ 48 := by omega
  clear h2 h3 hx hy el ee
  obtain ⟨w1, hw1⟩ : ∃ x, x = ((w.alloc (.cells ([.int .i64 S, .int .i64 T, .slice A2 n2 c2, .slice A3 n3 c3] : List Value).toArray 46)).alloc (.cells ([.int .i64 0, .int .i64 0, .int .i64 0] : List Value).toArray 119)).alloc (.map #[] 0) := ⟨_, rfl⟩
  have hsz1 : (w.alloc (.cells ([.int .i64 S, .int .i64 T, .slice A2 n2 c2, .slice A3 n3 c3] : List Value).toArray 46)).heap.size = w.heap.size + 1 := by simp
  have hsz2 : ((w.alloc (.cells ([.int .i64 S, .int .i64 T, .slice A2 n2 c2, .slice A3 n3 c3] : List Value).toArray 46)).alloc (.cells ([.int .i64 0, .int .i64 0, .int .i64 0] : List Value).toArray 119)).heap.size = w.heap.size + 2 := by simp
  have RW1 : Hid (RpW w [.int .i64 S, .int .i64 T, .slice A2 n2 c2, .slice A3 n3 c3] (w.heap.size + 1) 1 [(0, 0, 0)] [] w1) := by
    subst hw1
    have r2 := Row.new (w.alloc (.cells ([.int .i64 S, .int .i64 T, .slice A2 n2 c2, .slice A3 n3 c3] : List Value).toArray 46)) 119 [.int .i64 0, .int .i64 0, .int .i64 0]
    rw [hsz1] at r2
    have s3 := SeenM.made ((w.alloc (.cells ([.int .i64 S, .int .i64 T, .slice A2 n2 c2, .slice A3 n3 c3] : List Value).toArray 46)).alloc (.cells ([.int .i64 0, .int .i64 0, .int .i64 0] : List Value).toArray 119))
    rw [hsz2] at s3
    refine ⟨(rb.alloc _).alloc _, own_row3 (r2.alloc _) (Nat.le_refl _) rfl, by omega, s3, ?_⟩
    exact (bx.alloc (by simp) _).alloc (by simp; omega) _
  clear rb bx
  have hmm := @run_makeMap Try.prog
  have HK0 : Hid (okW (0, 0, 0)) := by show okW _; exact ⟨Nat.zero_le _, Nat.zero_le _, Int.le_refl _, by decide⟩
  go_enter Try.func63, Try.ntmps63
  go_wp2_with (first | (refine wpList_seen_put _ rfl (.tmp 20) (.tmp 21) (.const (.bool true)) (.inr rfl) (w.heap.size + 2) [] (0, 0, 0) rfl rfl rfl (by first | exact RW1.out.2.2.2.1 | (rw [← hw1]; exact RW1.out.2.2.2.1)) (fun q hq => by cases hq) HK0.out (by simp) ?_; intro w2 hs2 hb2; have hb2' : But (w.heap.size + 2) w1 w2 := (by rw [hw1]; exact hb2); have RW2 := Lib.hid (RW1.out.put hs2 hb2'); clear hs2 hb2 hb2'))
  clear hmm hsz1 hsz2 hw1 RW1
  go_loopg [7, 9] (N + 1) (fun m l i wr => ∃ (k gl cl : Nat) (ps : List P3), l = .slice (some ⟨gl, 0, none⟩) ps.length cl ∧ i = .int .i64 k ∧ m + k = N + 1 ∧ Hid (srch xs ys L E m ps k = rpS S L E xs ys) ∧ Hid (okL S xs ys ps) ∧ Hid (RpW w [.int .i64 S, .int .i64 T, .slice A2 n2 c2, .slice A3 n3 c3] gl cl ps ps wr))
  case atStart => exact ⟨0, w.heap.size + 1, 1, [(0, 0, 0)], rfl, rfl, by omega, HRR.out.symm, okL_start (by omega), RW2.out⟩
  case round =>
    obtain ⟨k, gl, cl, ps, rfl, rfl, hmk, HS, HO, HW⟩ := hrel
    obtain ⟨wo, rfl⟩ : ∃ x : World, x = wr := ⟨_, rfl⟩
    clear RW2 HRR
    have hpl := HLEN.out ps HO.out
    by_cases hlt : k < ps.length
    · obtain ⟨p, hp⟩ : ∃ p, ps[k]? = some p := ⟨ps[k], List.getElem?_eq_getElem hlt⟩
      obtain ⟨pa, pb, pc⟩ := p
      have hpo := HO.out.2 _ (List.mem_of_getElem? hp)
      obtain ⟨o1, o2, o3, o4⟩ := hpo
      simp only at o1 o2 o3 o4
      obtain ⟨st, rfl⟩ : ∃ s : Nat, pc = (s : Int) := ⟨pc.toNat, by omega⟩
      obtain ⟨d0, d1, d2⟩ := HW.out.at_ hp
      simp only at d0 d1 d2
      have HP := Lib.hid hp; clear hp
      have l1 : (0 : Int) ≤ (k : Int) := by omega
      have l2 : (k : Int) < (ps.length : Int) := by omega
      have RP := Row.new wo 119 [.int .i64 (pa : Int), .int .i64 (pb : Int), .int .i64 (st : Int)]
      have p0 := RP.cell 0; have p1 := RP.cell 1; have p2 := RP.cell 2
      have hb1 : Below wo.heap.size wo (wo.alloc (.cells ([.int .i64 (pa : Int), .int .i64 (pb : Int), .int .i64 (st : Int)] : List Value).toArray 119)) := (Below.refl _ _).alloc (Nat.le_refl _) _
      have HW1 := Lib.hid (HW.out.step hb1)
      have HRP := Lib.hid RP; clear RP hb1
      have m3 := HW1.out.1.cell 3
      obtain ⟨b3, off3, e, e3, _, he, ce⟩ := (H3.out.below HW1.out.2.2.2.2 (Nat.le_refl _)).at_ (show st < n3 by have := HEE.out; omega)
      obtain rfl := e3
      have l3 : (0 : Int) ≤ (st : Int) := by omega
      have l4 : (st : Int) < (n3 : Int) := by have := HEE.out; omega
      have HACC : Hid (accP xs ys E (pa, pb, (st : Int)) = (decide (pa = xs.length) && (decide (pb = ys.length) && e))) := by
        show _ = _
        unfold accP
        show (decide (pa = xs.length) && (decide (pb = ys.length) && decide (E[(st : Int).toNat]? = some true))) = _
        rw [Int.toNat_natCast, he.out]
        cases e <;> simp
      have GNE : Hid (gl ≠ wo.heap.size ∧ w.heap.size + 2 < wo.heap.size) := ⟨by have := HW.out.lg; omega, HW.out.2.2.2.1.lt⟩
      go_upto_region 7 with fail
      go_cut [52] from 23 to 106 (fun c wx => c = .bool (accP xs ys E (pa, pb, (st : Int))) ∧ Hid (RpW w [.int .i64 S, .int .i64 T, .slice A2 n2 c2, .slice (some ⟨b3, off3, none⟩) n3 c3] gl cl ps ps wx) ∧ Hid (Row wx wo.heap.size 119 [.int .i64 (pa : Int), .int .i64 (pb : Int), .int .i64 (st : Int)]))
      case first =>
        have hw : ∀ cc : Bool, cc = accP xs ys E (pa, pb, (st : Int)) → (Value.bool cc = .bool (accP xs ys E (pa, pb, (st : Int))) ∧ Hid (RpW w [.int .i64 S, .int .i64 T, .slice A2 n2 c2, .slice (some ⟨b3, off3, none⟩) n3 c3] gl cl ps ps (wo.alloc (.cells ([.int .i64 (pa : Int), .int .i64 (pb : Int), .int .i64 (st : Int)] : List Value).toArray 119))) ∧ Hid (Row (wo.alloc (.cells ([.int .i64 (pa : Int), .int .i64 (pb : Int), .int .i64 (st : Int)] : List Value).toArray 119)) wo.heap.size 119 [.int .i64 (pa : Int), .int .i64 (pb : Int), .int .i64 (st : Int)])) := fun cc h => ⟨by rw [h], HW1.out, HRP.out⟩
        have HWQ := Lib.hid hw; clear hw
        by_cases q1 : pa = xs.length
        · have z1 : ((pa : Int) == (xs.length : Int)) = true := by rw [q1]; simp
          by_cases q2 : pb = ys.length
          · have z2 : ((pb : Int) == (ys.length : Int)) = true := by rw [q2]; simp
            have HE := Lib.hid (show accP xs ys E (pa, pb, (st : Int)) = e by rw [HACC.out, decide_eq_true q1, decide_eq_true q2]; simp)
            clear q1 q2
            cases e
            all_goals
              go_wp2_with fail
              go_meet
              exact HWQ.out _ (by rw [HE.out])
          · have z2 : ((pb : Int) == (ys.length : Int)) = false := by rw [beq_eq_false_iff_ne]; omega
            have HE := Lib.hid (show accP xs ys E (pa, pb, (st : Int)) = false by rw [HACC.out, decide_eq_false q2]; simp)
            clear q1 q2
            go_wp2_with fail
            go_meet
            exact HWQ.out _ (by rw [HE.out])
        · have z1 : ((pa : Int) == (xs.length : Int)) = false := by rw [beq_eq_false_iff_ne]; omega
          have HE := Lib.hid (show accP xs ys E (pa, pb, (st : Int)) = false by rw [HACC.out, decide_eq_false q1]; simp)
          clear q1
          go_wp2_with fail
          go_meet
          exact HWQ.out _ (by rw [HE.out])
      case rest =>
      obtain ⟨rfl, HWc, HPc⟩ := hcut
      clear HW HW1 HRP d0 d1 d2 p0 p1 p2 m3 ce
      obtain ⟨f, rfl⟩ : ∃ f, gk = f + 1 := ⟨gk - 1, by omega⟩
      cases hacc : accP xs ys E (pa, pb, (st : Int)) with
      | true =>
        have HA := Lib.hid (srch_acc (L := L) (f := f) HP.out hacc)
        go_wp2_with fail
        go_ret
        exact ⟨ret_bool (by rw [← HS.out, HA.out]), HWc.out.2.2.2.2⟩
      | false =>
      have HA := Lib.hid (srch_next (L := L) (f := f) HP.out hacc)
      clear hacc
      have m2 := HWc.out.1.cell 2
      go_wp2_with fail
      clear m2
      go_loopg [7, 56] n2 (fun m l j wr => ∃ (i gl' cl' : Nat) (ps' : List P3), l = .slice (some ⟨gl', 0, none⟩) ps'.length cl' ∧ j = .int .i64 i ∧ i ≤ n2 ∧ n2 ≤ m + i ∧ Hid (ps' = rnd xs ys (L.take i) (pa, pb, (st : Int)) ps) ∧ Hid (okL S xs ys ps') ∧ Hid (RpW w [.int .i64 S, .int .i64 T, .slice A2 n2 c2, .slice (some ⟨b3, off3, none⟩) n3 c3] gl' cl' ps' ps' wr) ∧ Hid (Row wr wo.heap.size 119 [.int .i64 (pa : Int), .int .i64 (pb : Int), .int .i64 (st : Int)]) ∧ Hid (gl' ≠ wo.heap.size ∧ w.heap.size + 2 < wo.heap.size))
      case atStart => exact ⟨0, gl, cl, ps, rfl, rfl, by omega, by omega, (rnd_zero _ _ _ _ _).symm, HO.out, HWc.out, HPc.out, GNE.out⟩
      case round =>
        clear HWc HPc
        obtain ⟨i, gl', cl', ps', rfl, rfl, hi, hmi, HPS, HO', HW', HP', HG'⟩ := hrel
        obtain ⟨wi, rfl⟩ : ∃ x : World, x = wr := ⟨_, rfl⟩
        by_cases hlt2 : i < n2
        · obtain ⟨b2, off2, a0, a1, a2, a3, e2, _, ha, c0, c1, c2', c3'⟩ := (H2.out.below HW'.out.2.2.2.2 (Nat.le_refl _)).at_ hlt2
          obtain rfl := e2
          have r1 : (0 : Int) ≤ (i : Int) := by omega
          have r2 : (i : Int) < (n2 : Int) := by omega
          have RA := Row.new wi 113 [.int .i64 a0, .int .i64 a1, .int .i64 a2, .int .i64 a3]
          have hb1 : Below wi.heap.size wi (wi.alloc (.cells ([.int .i64 a0, .int .i64 a1, .int .i64 a2, .int .i64 a3] : List Value).toArray 113)) := (Below.refl _ _).alloc (Nat.le_refl _) _
          have k2 := RA.cell 2
          have HP1 := HP'.out.below hb1 HP'.out.lt
          have k0 := HP1.cell 0
          have HW2 := Lib.hid (HW'.out.step hb1); have HRA := Lib.hid RA; have HPP := Lib.hid HP1; have HSZ := Lib.hid hb1.size
          clear RA hb1 HP1
          go_wp2_with fail
          clear c0 c1 c2' c3' k2 k0
          obtain ⟨x1, hx1⟩ : ∃ x, x = wi.alloc (.cells ([.int .i64 a0, .int .i64 a1, .int .i64 a2, .int .i64 a3] : List Value).toArray 113) := ⟨_, rfl⟩
          rw [← hx1] at HW2 HRA HPP HSZ
          change Calls _ _ _ (wi.alloc (.cells ([.int .i64 a0, .int .i64 a1, .int .i64 a2, .int .i64 a3] : List Value).toArray 113)) _
          rw [← hx1]
          clear hx1
          have hBx := HW2.out.2.2.2.2
          refine (iPass_any A xs.length c xs pa a2 x1 ((HX.out.below hBx (Nat.le_refl _)).more hBx.size) o1 (by omega)).mono ?_
          rintro e w3 ⟨rfl, hb3⟩
          clear hBx
          have HW3 := Lib.hid (HW2.out.step hb3); have HRA3 := Lib.hid (HRA.out.below hb3 HRA.out.lt); have HP3 := Lib.hid (HPP.out.below hb3 HPP.out.lt)
          clear HW2 HRA HPP HSZ hb3
          have k1 := HP3.out.cell 1; have k3 := HRA3.out.cell 3
          go_wp2_with fail
          clear k1 k3
          have hBx := HW3.out.2.2.2.2
          refine (iPass_any A' ys.length c' ys pb a3 w3 ((HY.out.below hBx (Nat.le_refl _)).more hBx.size) o2 (by omega)).mono ?_
          rintro e w4 ⟨rfl, hb4⟩
          clear hBx
          have HW4 := Lib.hid (HW3.out.step hb4); have HRA4 := Lib.hid (HRA3.out.below hb4 HRA3.out.lt); have HP4 := Lib.hid (HP3.out.below hb4 HP3.out.lt)
          clear HW3 HRA3 HP3 hb4
          obtain ⟨t1, ht1⟩ : ∃ t, t = (pss xs pa a2).isSome := ⟨_, rfl⟩
          obtain ⟨t2, ht2⟩ : ∃ t, t = (pss ys pb a3).isSome := ⟨_, rfl⟩
          rw [← ht1, ← ht2]
          obtain ⟨z1, hz1⟩ : ∃ z, z = psI pa a2 := ⟨_, rfl⟩
          obtain ⟨z2, hz2⟩ : ∃ z, z = psI pb a3 := ⟨_, rfl⟩
          rw [← hz1, ← hz2]
          have HT1 := Lib.hid ht1; have HT2 := Lib.hid ht2; have HZ1 := Lib.hid hz1; have HZ2 := Lib.hid hz2
          clear ht1 ht2 hz1 hz2
          have hb5 : Below w4.heap.size w4 (w4.alloc (.cells ([.int .i64 (z1 : Int), .int .i64 (z2 : Int), .int .i64 a1] : List Value).toArray 119)) := (Below.refl _ _).alloc (Nat.le_refl _) _
          have HW5 := Lib.hid (HW4.out.step hb5); have RA5 := HRA4.out.below hb5 HRA4.out.lt; have RP5 := HP4.out.below hb5 HP4.out.lt
          have RN := Row.new w4 119 [.int .i64 (z1 : Int), .int .i64 (z2 : Int), .int .i64 a1]
          have g1 := HRA4.out.cell 1
          have f0 := RA5.cell 0; have f2 := RP5.cell 2; have n0 := RN.cell 0; have n1 := RN.cell 1; have n2' := RN.cell 2
          have HP5 := Lib.hid RP5; have HN5 := Lib.hid RN
          clear RA5 RP5 RN hb5
          have hLq : L[i]? = some (a0, a1, a2, a3) := ha.out
          have HNX := Lib.hid (rnd_succ (xs := xs) (ys := ys) (p := (pa, pb, (st : Int))) (ps := ps) hLq)
          have hax := HOKL.out _ (List.mem_of_getElem? hLq)
          simp only at hax
          clear hLq
          have HOP : Hid (∀ q, nxt xs ys (pa, pb, (st : Int)) (a0, a1, a2, a3) = some q → q = (z1, z2, a1) ∧ okP S xs ys q) := fun q hq => by
            refine ⟨?_, nxt_ok (S := S) ⟨o1, o2, o3, o4⟩ hax hq⟩
            unfold nxt at hq
            split at hq
            · split at hq
              · rename_i i1 i2 h1 h2
                rw [HZ1.out, HZ2.out, psI_of h1, psI_of h2]
                exact (Option.some.inj hq).symm
              · cases hq
            · cases hq
          have HOKS : Hid (∀ q ∈ ps', okW q) := fun q hq => HOKW.out q (HO'.out.2 q hq)
          have GM4 : Hid (w4.heap.size ≠ w.heap.size + 2) := by show _ ≠ _; have := HW4.out.2.2.2.1.lt; omega
          go_upto_region 15 with fail
          go_cut [56, 99] from 56 to 106 (fun jj cc wx => jj = .int .i64 i ∧ cc = .bool (newB ps' (nxt xs ys (pa, pb, (st : Int)) (a0, a1, a2, a3))) ∧ Hid (RpW w [.int .i64 S, .int .i64 T, .slice (some ⟨b2, off2, none⟩) n2 c2, .slice (some ⟨b3, off3, none⟩) n3 c3] gl' cl' ps' ps' wx) ∧ Hid (Row wx wo.heap.size 119 [.int .i64 (pa : Int), .int .i64 (pb : Int), .int .i64 (st : Int)]) ∧ Hid (Row wx w4.heap.size 119 [.int .i64 (z1 : Int), .int .i64 (z2 : Int), .int .i64 a1]))
          case first =>
            have hw : ∀ cc : Bool, cc = newB ps' (nxt xs ys (pa, pb, (st : Int)) (a0, a1, a2, a3)) → (Value.bool cc = .bool (newB ps' (nxt xs ys (pa, pb, (st : Int)) (a0, a1, a2, a3))) ∧ Hid (RpW w [.int .i64 S, .int .i64 T, .slice (some ⟨b2, off2, none⟩) n2 c2, .slice (some ⟨b3, off3, none⟩) n3 c3] gl' cl' ps' ps' (w4.alloc (.cells ([.int .i64 (z1 : Int), .int .i64 (z2 : Int), .int .i64 a1] : List Value).toArray 119))) ∧ Hid (Row (w4.alloc (.cells ([.int .i64 (z1 : Int), .int .i64 (z2 : Int), .int .i64 a1] : List Value).toArray 119)) wo.heap.size 119 [.int .i64 (pa : Int), .int .i64 (pb : Int), .int .i64 (st : Int)]) ∧ Hid (Row (w4.alloc (.cells ([.int .i64 (z1 : Int), .int .i64 (z2 : Int), .int .i64 a1] : List Value).toArray 119)) w4.heap.size 119 [.int .i64 (z1 : Int), .int .i64 (z2 : Int), .int .i64 a1])) := fun cc h => ⟨by rw [h], HW5.out, HP5.out, HN5.out⟩
            have HWQ := Lib.hid hw; clear hw
            by_cases s0 : a0 = (st : Int)
            · have y0 : (a0 == (st : Int)) = true := by rw [s0]; simp
              have S0 := Lib.hid s0; clear s0
              cases t1
              case false =>
                have HE : Hid (newB ps' (nxt xs ys (pa, pb, (st : Int)) (a0, a1, a2, a3)) = false) := by
                  show _ = _
                  rw [nxt_no1 (by show pss xs pa a2 = none; have := HT1.out; cases hh : pss xs pa a2 with | none => rfl | some q => rw [hh] at this; cases this)]; rfl
                go_wp2_with fail
                go_meet
                exact ⟨rfl, HWQ.out _ (by rw [HE.out])⟩
              case true =>
              cases t2
              case false =>
                have HE : Hid (newB ps' (nxt xs ys (pa, pb, (st : Int)) (a0, a1, a2, a3)) = false) := by
                  show _ = _
                  rw [nxt_no2 (by show pss ys pb a3 = none; have := HT2.out; cases hh : pss ys pb a3 with | none => rfl | some q => rw [hh] at this; cases this)]; rfl
                go_wp2_with fail
                go_meet
                exact ⟨rfl, HWQ.out _ (by rw [HE.out])⟩
              case true =>
              have HNX2 : Hid (nxt xs ys (pa, pb, (st : Int)) (a0, a1, a2, a3) = some (z1, z2, a1)) := by
                obtain ⟨i1, h1⟩ := Option.isSome_iff_exists.1 HT1.out.symm
                obtain ⟨i2, h2⟩ := Option.isSome_iff_exists.1 HT2.out.symm
                show _ = _
                rw [nxt_some (a := (a0, a1, a2, a3)) (p := (pa, pb, (st : Int))) S0.out h1 h2, HZ1.out, HZ2.out, psI_of h1, psI_of h2]
              have HQW := Lib.hid (HOKW.out _ (HOP.out _ HNX2.out).2)
              obtain ⟨sn, hsn⟩ : ∃ b, b = decide ((z1, z2, a1) ∈ ps') := ⟨_, rfl⟩
              have HE : Hid (newB ps' (nxt xs ys (pa, pb, (st : Int)) (a0, a1, a2, a3)) = !sn) := by
                show _ = _
                rw [HNX2.out, hsn]; rfl
              have hlk : (Instr.lookup 121 (.map (some (w.heap.size + 2))) (.agg #[.int .i64 (z1 : Int), .int .i64 (z2 : Int), .int .i64 a1]) false).run Try.prog (w4.alloc (.cells ([.int .i64 (z1 : Int), .int .i64 (z2 : Int), .int .i64 a1] : List Value).toArray 119)) = .ok (.bool sn) (w4.alloc (.cells ([.int .i64 (z1 : Int), .int .i64 (z2 : Int), .int .i64 a1] : List Value).toArray 119)) := by
                rw [hsn]; exact HW5.out.2.2.2.1.look HOKS.out HQW.out
              clear hsn
              cases sn
              all_goals
                go_wp2_with fail
                go_meet
                exact ⟨rfl, HWQ.out _ (by rw [HE.out]; rfl)⟩
            · have y0 : (a0 == (st : Int)) = false := by rw [beq_eq_false_iff_ne]; exact s0
              have HE : Hid (newB ps' (nxt xs ys (pa, pb, (st : Int)) (a0, a1, a2, a3)) = false) := by
                show _ = _
                rw [nxt_no0 (by show ¬ a0 = (st : Int); exact s0)]; rfl
              clear s0
              go_wp2_with fail
              go_meet
              exact ⟨rfl, HWQ.out _ (by rw [HE.out])⟩
          case rest =>
            obtain ⟨rfl, rfl, HWd, HPd, HNd⟩ := hcut
            clear HW5 HP5 HN5 g1 f0 f2 n0 n1 n2' HW4 HRA4 HP4
            cases hnb : newB ps' (nxt xs ys (pa, pb, (st : Int)) (a0, a1, a2, a3)) with
            | false =>
              have HAD := Lib.hid (addp_old hnb)
              clear hnb
              go_wp2_with fail
              go_roundg (gk - 1)
              case measure => omega
              case rel => exact ⟨i + 1, gl', cl', ps', rfl, by go_num, by omega, by omega, by show _ = _; rw [HNX.out, ← HPS.out, HAD.out], HO'.out, HWd.out, HPd.out, HG'.out⟩
            | true =>
              obtain ⟨q, hq1, hq2, hq3⟩ := addp_new hnb
              obtain ⟨hq4, hq5⟩ := HOP.out q hq1
              subst hq4
              have HAD := Lib.hid hq3
              have HQN := Lib.hid hq2
              have HQW := Lib.hid (HOKW.out _ hq5)
              have HO2 : Hid (okL S xs ys (ps' ++ [(z1, z2, a1)])) := by
                have := addp_ok (o := some (z1, z2, a1)) HO'.out (fun r hr => by cases hr; exact hq5)
                rw [show addp ps' (some (z1, z2, a1)) = ps' ++ [(z1, z2, a1)] from if_neg hq2] at this
                exact this
              have hln := HLEN.out _ HO'.out
              clear hnb hq1 hq2 hq3 hq5
              have n0 := HNd.out.cell 0; have n1 := HNd.out.cell 1; have n2' := HNd.out.cell 2
              go_wp2_with (first | (at_mapUpdate; refine wpList_seen_put _ rfl (.tmp 100) (.tmp 101) (.const (.bool true)) (.inl rfl) (w.heap.size + 2) ps' (z1, z2, a1) rfl rfl rfl HWd.out.2.2.2.1 HOKS.out HQW.out HQN.out ?_; intro w5 hs5 hb5; clear n0 n1 n2'; have hm0 := HWd.out.2.2.2.1.lt; have HW5 := Lib.hid (HWd.out.put hs5 hb5); have HN5 : Hid (Row w5 w4.heap.size 119 [.int .i64 (z1 : Int), .int .i64 (z2 : Int), .int .i64 a1]) := ((hb5.2.2.2.2 _ HNd.out.lt GM4.out).trans HNd.out); have HP5 : Hid (Row w5 wo.heap.size 119 [.int .i64 (pa : Int), .int .i64 (pb : Int), .int .i64 (st : Int)]) := ((hb5.2.2.2.2 _ HPd.out.lt (by have := HG'.out.2; omega)).trans HPd.out); have HB5 := Lib.hid hb5.2.2.2.1; clear hs5 hb5; have n0 := HN5.out.cell 0; have n1 := HN5.out.cell 1; have n2' := HN5.out.cell 2; have HBS : Hid (w.heap.size + 1 ≤ w5.heap.size) := (by have := HW5.out.2.2.2.1.lt; exact (by omega : w.heap.size + 1 ≤ w5.heap.size))) | (at_builtin; refine wpList_one_push w5 rfl (.tmp 102) (.tmp 104) _ rfl (w.heap.size + 1) 119 (.agg #[.int .i64 0, .int .i64 0, .int .i64 0]) 3 24 Try.underlying120 infoPl rfl (by omega) (by omega) (.slice (some ⟨gl', 0, none⟩) ps'.length cl') ps'.length (fp ps') rfl HW5.out.2.1 [.int .i64 (z1 : Int), .int .i64 (z2 : Int), .int .i64 a1] rfl (by intro u hu; simp at hu; rcases hu with rfl | rfl | rfl <;> rfl) w5.heap.size rfl rfl (by omega) HBS.out ?_; intro v' w' hown hgr hat; obtain ⟨gl2, cl2, hv', hW6, hgg⟩ := RpW.push (q := (z1, z2, a1)) HW5.out hown hgr hat; subst hv'; have HP6 := Lib.hid (HP5.out.grown hgr (by simp [Value.ownBlock]; have := HG'.out.1; omega)); have HW6 := Lib.hid hW6; have HGG := Lib.hid hgg; clear hown hgr hat hW6 hgg))
              go_roundg (gk - 1)
              case measure => omega
              case rel => exact ⟨i + 1, gl2, cl2, ps' ++ [(z1, z2, a1)], by rw [List.length_append]; rfl, by go_num, by omega, by omega, by show _ = _; rw [HNX.out, ← HPS.out, HAD.out], HO2.out, HW6.out, HP6.out, ⟨by have h1 := HGG.out; have h2 := HG'.out.1; have h3 := HP5.out.lt; omega, HG'.out.2⟩⟩
        · have hii : i = n2 := by omega
          have r2 : (n2 : Int) ≤ (i : Int) := by omega
          have HPS2 : Hid (ps' = rnd xs ys L (pa, pb, (st : Int)) ps) := by
            have := HPS.out
            rw [hii, List.take_of_length_le (by rw [HEL.out]; exact Nat.le_refl _)] at this
            exact this
          clear hii
          go_wp2_with fail
          go_roundg f
          case measure => omega
          case rel => exact ⟨k + 1, gl', cl', ps', rfl, by go_num, by omega, by show _ = _; rw [HPS2.out, ← HA.out]; exact HS.out, HO'.out, HW'.out⟩
    · have HN := Lib.hid (srch_none (xs := xs) (ys := ys) (L := L) (E := E) (f := gk) (ps := ps) (k := k) (by omega))
      have l2 : (ps.length : Int) ≤ (k : Int) := by omega
      go_wp2_with fail
      go_ret
      exact ⟨ret_bool (by rw [← HS.out, HN.out]), HW.out.2.2.2.2⟩
end Go.Proofs.Ytchacfienafhlaa
