/- RepeatOf of the reference. -/
import Derived.Test.YtlmhccnkganpcaaRt
import Derived.Deep.RegionLaw
import Derived.Deep.DrawnRows
namespace Go.Proofs.Ytlmhccnkganpcaa
open Go.RowKit
set_option linter.unusedVariables false
attribute [local go_sem ↓] Go.wp_at_zero Go.wp_at_succ
def rq1 := rp1
def rq2 := rp2
theorem rq1_len {L : List A4} {P : List Int} (k : Nat) : (rq1 L P k).length ≤ L.length + P.length := rp1_len L P k
theorem rq2_len {L : List A4} {P : List Int} {E : List Int} (k : Nat) : (rq2 L P E k).length ≤ L.length + P.length + E.length := rp2_len L P E k
theorem rq1_zero (L : List A4) (P : List Int) : rq1 L P 0 = L.map (mvA 1) := rp1_zero L P
theorem rq2_zero (L : List A4) (P E : List Int) : rq2 L P E 0 = rq1 L P P.length := rp2_zero L P E
theorem rq1_step {L : List A4} {P : List Int} {k : Nat} {x : Int} (h : P[k]? = some x) : rq1 L P (k + 1) = rq1 L P k ++ sAr k x := rp1_step h
theorem rq2_step {L : List A4} {P E : List Int} {k : Nat} {x : Int} (h : E[k]? = some x) : rq2 L P E (k + 1) = rq2 L P E k ++ eAr k x := rp2_step h
theorem rq1_pos {L : List A4} {P : List Int} {k : Nat} {x : Int} (h : rq1 L P (k + 1) = rq1 L P k ++ sAr k x) (hp : 0 ≤ x) : rq1 L P (k + 1) = rq1 L P k ++ [(0, (k : Int) + 1, -1, x)] := by rw [h, sAr_pos hp]
theorem rq1_neg {L : List A4} {P : List Int} {k : Nat} {x : Int} (h : rq1 L P (k + 1) = rq1 L P k ++ sAr k x) (hp : ¬ 0 ≤ x) : rq1 L P (k + 1) = rq1 L P k := by rw [h, sAr_neg hp, List.append_nil]
theorem rq2_pos {L : List A4} {P E : List Int} {k : Nat} {x : Int} (h : rq2 L P E (k + 1) = rq2 L P E k ++ eAr k x) (hp : 0 ≤ x) : rq2 L P E (k + 1) = rq2 L P E k ++ [((k : Int) + 1, 0, -1, x)] := by rw [h, eAr_pos hp]
theorem rq2_neg {L : List A4} {P E : List Int} {k : Nat} {x : Int} (h : rq2 L P E (k + 1) = rq2 L P E k ++ eAr k x) (hp : ¬ 0 ≤ x) : rq2 L P E (k + 1) = rq2 L P E k := by rw [h, eAr_neg hp, List.append_nil]
theorem sGiveG (lo : Nat) (S T : Int) (L : List A4) (P E : List Int) (A2 : Option Addr) (n2 c2 : Nat) (A3 : Option Addr) (n3 c3 : Nat) (A4 : Option Addr) (n4 c4 : Nat) (w : World) (h2 : w.ownsRow lo 78 4 (.slice A2 n2 c2) n2 (fa L)) (h3 : w.ownsRow lo 2 1 (.slice A3 n3 c3) n3 (iv P)) (h4 : w.ownsRow lo 2 1 (.slice A4 n4 c4) n4 (iv E)) (e2 : L.length = n2) (e3 : P.length = n3) (e4 : E.length = n4) (hL : n2 ≤ 4294967296) (hP : n3 ≤ 4294967296) (hE : n4 ≤ 4294967296) :
    Calls Try.prog 66 #[.agg #[.int .i64 S, .int .i64 T, .slice A2 n2 c2, .slice A3 n3 c3, .slice A4 n4 c4]] w fun e w' => ∃ ok, ok = vmB S T L P E ∧ e = .returned (.tuple #[.agg #[.int .i64 (ckI ok S), .int .i64 (ckI ok T), .slice (ckA ok A2) (ckN ok n2) (ckN ok c2), .slice (ckA ok A3) (ckN ok n3) (ckN ok c3), .slice (ckA ok A4) (ckN ok n4) (ckN ok c4)], .bool ok]) ∧ Below w.heap.size w w' := by
  subst e2 e3 e4
  refine (sGive_any S T L P E A2 _ c2 A3 _ c3 A4 _ c4 w ?_ (RowI.sl (r := P) h3 rfl) (RowI.sl (r := E) h4 rfl) hL hP hE).mono ?_
  · obtain ⟨A, c, hv, hs⟩ := (OwnV.of h2).slA
    injection hv with e1 _ _
    rw [e1]; exact hs
  · rintro e w' ⟨rfl, hb⟩
    exact ⟨_, rfl, by rw [ckV_agg], hb⟩
set_option maxRecDepth 100000 in
set_option maxHeartbeats 8000000 in
theorem sRepeat_any (v : Value) (S T : Int) (L : List A4) (P E : List Int) (w : World) (h : Mc w w.heap.size v S T L P E) (hL : L.length ≤ 1048576) (hP : P.length ≤ 1048576) (hE : E.length ≤ 1048576) :
    Calls Try.prog 22 #[v] w fun e w' => ∃ v' hi, e = .returned (.tuple #[v', .bool (rpOk S T L P E)]) ∧ hi ≤ w'.heap.size ∧ McO w' w.heap.size hi v' (ckI (rpOk S T L P E) (S + 1)) (ckI (rpOk S T L P E) T) (ckL (rpOk S T L P E) (rpA L P E)) (ckL (rpOk S T L P E) (rpS S.toNat)) (ckL (rpOk S T L P E) (rpS S.toNat)) ∧ Below w.heap.size w w' := by
  obtain ⟨A2, n2, c2, A3, n3, c3, A4, n4, c4, rfl, h2, h3, h4⟩ := h
  have e2 := h2.len; have e3 := h3.len; have e4 := h4.len
  subst e2 e3 e4
  have H2 := Lib.hid h2; have H3 := Lib.hid h3; have H4 := Lib.hid h4
  clear h2 h3 h4
  have rb := (Row.new w 29 [.int .i64 S, .int .i64 T, .slice A2 L.length c2, .slice A3 P.length c3, .slice A4 E.length c4]).alloc (.cells ([.int .i64 0, .int .i64 0, .slice none 0 0, .slice none 0 0, .slice none 0 0] : List Value).toArray 29)
  have rr := Row.new (w.alloc (.cells ([.int .i64 S, .int .i64 T, .slice A2 L.length c2, .slice A3 P.length c3, .slice A4 E.length c4] : List Value).toArray 29)) 29 [.int .i64 0, .int .i64 0, .slice none 0 0, .slice none 0 0, .slice none 0 0]
  rw [show (w.alloc (.cells ([.int .i64 S, .int .i64 T, .slice A2 L.length c2, .slice A3 P.length c3, .slice A4 E.length c4] : List Value).toArray 29)).heap.size = w.heap.size + 1 by simp] at rr
  have bx : Below w.heap.size w ((w.alloc (.cells ([.int .i64 S, .int .i64 T, .slice A2 L.length c2, .slice A3 P.length c3, .slice A4 E.length c4] : List Value).toArray 29)).alloc (.cells ([.int .i64 0, .int .i64 0, .slice none 0 0, .slice none 0 0, .slice none 0 0] : List Value).toArray 29)) := ((Below.refl _ _).alloc (Nat.le_refl _) _).alloc (by simp) _
  have RB := Lib.hid rb; have RR := Lib.hid rr; have BX := Lib.hid bx; clear rb rr bx
  go_enter Try.func22, Try.ntmps22
  go_wp2_with fail
  obtain ⟨x0, hx0⟩ : ∃ x, x = (w.alloc (.cells ([.int .i64 S, .int .i64 T, .slice A2 L.length c2, .slice A3 P.length c3, .slice A4 E.length c4] : List Value).toArray 29)).alloc (.cells ([.int .i64 0, .int .i64 0, .slice none 0 0, .slice none 0 0, .slice none 0 0] : List Value).toArray 29) := ⟨_, rfl⟩
  rw [← hx0] at RB RR BX
  change Calls _ _ _ ((w.alloc (.cells ([.int .i64 S, .int .i64 T, .slice A2 L.length c2, .slice A3 P.length c3, .slice A4 E.length c4] : List Value).toArray 29)).alloc (.cells ([.int .i64 0, .int .i64 0, .slice none 0 0, .slice none 0 0, .slice none 0 0] : List Value).toArray 29)) _
  rw [← hx0]
  clear hx0
  refine (sIs_any w.heap.size S T L P E A2 _ c2 A3 _ c3 A4 _ c4 w.heap.size x0 RB.out BX.out.size (H2.out.below BX.out (Nat.le_refl _)) (H3.out.below BX.out (Nat.le_refl _)) (H4.out.below BX.out (Nat.le_refl _)) (by omega) (by omega) (by omega)).mono ?_
  rintro e w1 ⟨rfl, hb1⟩
  have BX1 := Lib.hid (BX.out.trans (hb1.mono BX.out.size))
  have RB1 := Lib.hid (RB.out.below hb1 RB.out.lt)
  have RR1 := Lib.hid (RR.out.below hb1 RR.out.lt)
  clear hb1
  obtain ⟨ok, hok⟩ : ∃ ok, ok = vmB S T L P E := ⟨_, rfl⟩
  rw [← hok]
  have HOK := Lib.hid hok; clear hok
  cases ok with
  | false =>
    have r0 := RR1.out.cell 0; have r1 := RR1.out.cell 1; have r2 := RR1.out.cell 2; have r3 := RR1.out.cell 3; have r4 := RR1.out.cell 4
    have f0 := RR1.out.frozen 0; have f1 := RR1.out.frozen 1; have f2 := RR1.out.frozen 2; have f3 := RR1.out.frozen 3; have f4 := RR1.out.frozen 4
    go_wp2_with fail
    clear r0 f0 r1 f1 r2 f2 r3 f3 r4 f4
    have hF := (((((RR1.out.set_ 0 (.int .i64 0)).set_ 1 (.int .i64 0)).set_ 2 (.slice none 0 0)).set_ 3 (.slice none 0 0)).set_ 4 (.slice none 0 0))
    refine bodyPost_ret (results_cell2 rfl _ _ (w.heap.size + 1) 29 #[.int .i64 0, .int .i64 0, .slice none 0 0, .slice none 0 0, .slice none 0 0] (0, 0) _ (.bool false) rfl rfl hF Try.underlying29 rfl (by kernel_rfl)) rfl ?_
    have hf : rpOk S T L P E = false := by show (vmB S T L P E && _) = false; rw [← HOK.out]; rfl
    rw [hf]
    exact ⟨_, w.heap.size, rfl, ((((((BX1.out.setCell (p := ⟨w.heap.size + 1, 0, none⟩) (show w.heap.size ≤ w.heap.size + 1 by omega) _).setCell (p := ⟨w.heap.size + 1, 1, none⟩) (show w.heap.size ≤ w.heap.size + 1 by omega) _).setCell (p := ⟨w.heap.size + 1, 2, none⟩) (show w.heap.size ≤ w.heap.size + 1 by omega) _).setCell (p := ⟨w.heap.size + 1, 3, none⟩) (show w.heap.size ≤ w.heap.size + 1 by omega) _).setCell (p := ⟨w.heap.size + 1, 4, none⟩) (show w.heap.size ≤ w.heap.size + 1 by omega) _)).size, ⟨_, _, _, rfl, OwnV.nil _ _ _ _ _, OwnV.nil _ _ _ _ _, OwnV.nil _ _ _ _ _, fun k hk => by simp [Value.ownBlock] at hk, fun k hk => by simp [Value.ownBlock] at hk, fun k hk => by simp [Value.ownBlock] at hk⟩, (((((BX1.out.setCell (p := ⟨w.heap.size + 1, 0, none⟩) (show w.heap.size ≤ w.heap.size + 1 by omega) _).setCell (p := ⟨w.heap.size + 1, 1, none⟩) (show w.heap.size ≤ w.heap.size + 1 by omega) _).setCell (p := ⟨w.heap.size + 1, 2, none⟩) (show w.heap.size ≤ w.heap.size + 1 by omega) _).setCell (p := ⟨w.heap.size + 1, 3, none⟩) (show w.heap.size ≤ w.heap.size + 1 by omega) _).setCell (p := ⟨w.heap.size + 1, 4, none⟩) (show w.heap.size ≤ w.heap.size + 1 by omega) _)⟩
  | true =>
    obtain ⟨qS, qT, qL, qA, qP, qE⟩ := vmB_true HOK.out.symm
    obtain ⟨qP1, qP2⟩ := mkB_true qP
    obtain ⟨qE1, qE2⟩ := mkB_true qE
    have QA : Hid (∀ a ∈ L, -1000 ≤ a.1 ∧ a.1 ≤ 1000 ∧ -1000 ≤ a.2.1 ∧ a.2.1 ≤ 1000) := fun a ha => by have := okAm_true (qA a ha); omega
    have QP := Lib.hid qP2; have QE := Lib.hid qE2
    have qPn : P.length ≤ 16 := by omega
    have qEn : E.length ≤ 16 := by omega
    obtain ⟨nS, hnS⟩ : ∃ m : Nat, S = (m : Int) := ⟨S.toNat, by omega⟩
    subst hnS
    have QP1 : Hid (P.length = nS) := by show _ = _; omega
    have QE1 : Hid (E.length = nS) := by show _ = _; omega
    have qS1 : 1 ≤ nS := by omega
    have qS2 : nS ≤ 16 := by omega
    clear qA qP qE qP2 qE2 qP1 qE1 qS
    have SZ1 : Hid (w.heap.size + 1 < w1.heap.size) := RR1.out.lt
    have HWR : Hid (Value.int .i64 (IntKind.i64.wrap ((nS : Int) + 1)) = .int .i64 ((nS : Int) + 1)) := by show _ = _; rw [IntWalk.i64_in _ (by omega)]
    go_wp2_with fail
    have hcells : Hid (∀ x : World, Below w1.heap.size w1 x → (x.cell? ⟨w.heap.size, 0, none⟩ = some (.int .i64 nS) ∧ x.cell? ⟨w.heap.size, 1, none⟩ = some (.int .i64 T) ∧ x.cell? ⟨w.heap.size, 2, none⟩ = some (.slice A2 L.length c2))) := by
      intro x hx
      have r := RB1.out.below hx RB1.out.lt
      exact ⟨r.cell 0, r.cell 1, r.cell 2⟩
    have hkeep : Hid (∀ x y : World, Below w1.heap.size w1 x → Below x.heap.size x y → (Below w1.heap.size w1 y ∧ y.cell? ⟨w.heap.size, 0, none⟩ = some (.int .i64 nS) ∧ y.cell? ⟨w.heap.size, 1, none⟩ = some (.int .i64 T) ∧ y.cell? ⟨w.heap.size, 2, none⟩ = some (.slice A2 L.length c2))) := by
      intro x y h1 h2
      have h3 := h1.trans (h2.mono h1.size)
      exact ⟨h3, hcells.out y h3⟩
    have hkeepA : Hid (∀ (x : World) (o : Obj), Below w1.heap.size w1 x → (Below w1.heap.size w1 (x.alloc o) ∧ (x.alloc o).cell? ⟨w.heap.size, 0, none⟩ = some (.int .i64 nS) ∧ (x.alloc o).cell? ⟨w.heap.size, 1, none⟩ = some (.int .i64 T) ∧ (x.alloc o).cell? ⟨w.heap.size, 2, none⟩ = some (.slice A2 L.length c2))) := by
      intro x o h1
      have h3 := h1.alloc h1.size o
      exact ⟨h3, hcells.out _ h3⟩
    have hkeepD : Hid (∀ (x : World) (o : Obj), Below w1.heap.size w1 x.drew → (Below w1.heap.size w1 ((x.alloc o).drew) ∧ ((x.alloc o).drew).cell? ⟨w.heap.size, 0, none⟩ = some (.int .i64 nS) ∧ ((x.alloc o).drew).cell? ⟨w.heap.size, 1, none⟩ = some (.int .i64 T) ∧ ((x.alloc o).drew).cell? ⟨w.heap.size, 2, none⟩ = some (.slice A2 L.length c2))) := by
      intro x o h1
      have h3 : Below w1.heap.size w1 (x.alloc o).drew := (h1.alloc h1.size o)
      exact ⟨h3, hcells.out _ h3⟩
    have hkeepS : Hid (∀ (x : World) (u0 u1 u2 u3 u4 : Value), Below w1.heap.size w1 x → (Below w1.heap.size w1 (((((x.setCell ⟨w1.heap.size, 0, none⟩ u0).setCell ⟨w1.heap.size, 1, none⟩ u1).setCell ⟨w1.heap.size, 2, none⟩ u2).setCell ⟨w1.heap.size, 3, none⟩ u3).setCell ⟨w1.heap.size, 4, none⟩ u4) ∧ (((((x.setCell ⟨w1.heap.size, 0, none⟩ u0).setCell ⟨w1.heap.size, 1, none⟩ u1).setCell ⟨w1.heap.size, 2, none⟩ u2).setCell ⟨w1.heap.size, 3, none⟩ u3).setCell ⟨w1.heap.size, 4, none⟩ u4).cell? ⟨w.heap.size, 0, none⟩ = some (.int .i64 nS) ∧ (((((x.setCell ⟨w1.heap.size, 0, none⟩ u0).setCell ⟨w1.heap.size, 1, none⟩ u1).setCell ⟨w1.heap.size, 2, none⟩ u2).setCell ⟨w1.heap.size, 3, none⟩ u3).setCell ⟨w1.heap.size, 4, none⟩ u4).cell? ⟨w.heap.size, 1, none⟩ = some (.int .i64 T) ∧ (((((x.setCell ⟨w1.heap.size, 0, none⟩ u0).setCell ⟨w1.heap.size, 1, none⟩ u1).setCell ⟨w1.heap.size, 2, none⟩ u2).setCell ⟨w1.heap.size, 3, none⟩ u3).setCell ⟨w1.heap.size, 4, none⟩ u4).cell? ⟨w.heap.size, 2, none⟩ = some (.slice A2 L.length c2))) := by
      intro x u0 u1 u2 u3 u4 h1
      have h3 := (((((h1.setCell (p := ⟨w1.heap.size, 0, none⟩) (show w1.heap.size ≤ w1.heap.size by omega) u0).setCell (p := ⟨w1.heap.size, 1, none⟩) (show w1.heap.size ≤ w1.heap.size by omega) u1).setCell (p := ⟨w1.heap.size, 2, none⟩) (show w1.heap.size ≤ w1.heap.size by omega) u2).setCell (p := ⟨w1.heap.size, 3, none⟩) (show w1.heap.size ≤ w1.heap.size by omega) u3).setCell (p := ⟨w1.heap.size, 4, none⟩) (show w1.heap.size ≤ w1.heap.size by omega) u4)
      exact ⟨h3, hcells.out _ h3⟩
    have HC : Hid (∀ x : World, Below w1.heap.size w1 x → Calls Try.prog 65 #[.slice A2 L.length c2, .int .i64 1] x fun e w' => ∃ A' c', e = .returned (.slice A' L.length c') ∧ w'.ownsRow x.heap.size 78 4 (.slice A' L.length c') L.length (fa (L.map (mvA 1))) ∧ Below x.heap.size x w') := by
      intro x hx
      exact sBehind_any x.heap.size A2 L.length c2 L 1 x (Nat.le_refl _) ((H2.out.below (BX1.out.trans (hx.mono BX1.out.size)) (Nat.le_refl _)).more (BX1.out.trans (hx.mono BX1.out.size)).size) (by omega) (by omega) QA.out
    have hdr : Below w1.heap.size w1 w1.drew := Below.drew (Below.refl _ _)
    have hfrom : Below w1.heap.size w1 w1.drew ∧ w1.drew.cell? ⟨w.heap.size, 0, none⟩ = some (.int .i64 nS) ∧ w1.drew.cell? ⟨w.heap.size, 1, none⟩ = some (.int .i64 T) ∧ w1.drew.cell? ⟨w.heap.size, 2, none⟩ = some (.slice A2 L.length c2) := ⟨hdr, hcells.out _ hdr⟩
    go_region_held3 (fun x => Below w1.heap.size w1 x ∧ x.cell? ⟨w.heap.size, 0, none⟩ = some (.int .i64 nS) ∧ x.cell? ⟨w.heap.size, 1, none⟩ = some (.int .i64 T) ∧ x.cell? ⟨w.heap.size, 2, none⟩ = some (.slice A2 L.length c2)) (first | assumption | (exact hkeepA.out _ _ (by first | assumption | (apply And.left; assumption))) | (exact hkeepD.out _ _ (by first | assumption | (apply And.left; assumption))) | (exact hkeepS.out _ _ _ _ _ _ (by first | assumption | (apply And.left; assumption))) | go_keep)
      (first | (go_at_call 65; refine (HC.out _ (by first | assumption | (apply And.left; assumption))).mono ?_; rintro e wz ⟨AA, cA, rfl, hvA, hbz⟩; have hkz := (fun h => hkeep.out _ _ h hbz) (by first | assumption | (apply And.left; assumption)); have HvA := Lib.hid hvA; clear hvA; (try (have hz := Row.below (Row.drew (Row.new w1 29 [.int .i64 0, .int .i64 0, .slice none 0 0, .slice none 0 0, .slice none 0 0])) hbz (by simp); have z0 := hz.cell 0; have z1 := hz.cell 1; have z2 := hz.cell 2; have z3 := hz.cell 3; have z4 := hz.cell 4; have y0 := hz.frozen 0; have y1 := hz.frozen 1; have y2 := hz.frozen 2; have y3 := hz.frozen 3; have y4 := hz.frozen 4; have HZ := Lib.hid hz; clear hz))))
    · have hbw := hkz.1
      try rw [HWR.out]
      have R4 := Row.new wz 29 [.int .i64 ((nS : Int) + 1), .int .i64 T, .slice AA L.length cA, .slice none 0 0, .slice none 0 0]
      have B3 : Below w1.heap.size w1 (wz.alloc (.cells ([.int .i64 ((nS : Int) + 1), .int .i64 T, .slice AA L.length cA, .slice none 0 0, .slice none 0 0] : List Value).toArray 29)) := hbw.alloc hbw.size _
      have OA : (wz.alloc (.cells ([.int .i64 ((nS : Int) + 1), .int .i64 T, .slice AA L.length cA, .slice none 0 0, .slice none 0 0] : List Value).toArray 29)).ownsRow w1.heap.size 78 4 (.slice AA L.length cA) L.length (fa (L.map (mvA 1))) := (World.ownsRow.mono HvA.out (show w1.heap.size ≤ _ by simp)).alloc _
      have DA : ∀ k, (Value.slice AA L.length cA).ownBlock = some k → k ≠ wz.heap.size := fun k hk => Nat.ne_of_lt (HvA.out.lt k hk).2
      have G0 := hbw.size
      obtain ⟨g4, hg4⟩ : ∃ g, g = wz.heap.size := ⟨_, rfl⟩
      obtain ⟨x3, hx3⟩ : ∃ x, x = (wz.alloc (.cells ([.int .i64 ((nS : Int) + 1), .int .i64 T, .slice AA L.length cA, .slice none 0 0, .slice none 0 0] : List Value).toArray 29)) := ⟨_, rfl⟩
      rw [← hx3] at R4 B3 OA ⊢
      rw [← hg4] at R4 DA ⊢
      have G1 : Hid (w1.heap.size ≤ g4) := by show _ ≤ _; have := G0; omega
      clear hx3 hg4 hbz HvA hbw hkz hfrom hdr HC hkeep hkeepA hkeepD hkeepS hcells
      try clear HZ
      try clear z0 z1 z2 z3 z4 y0 y1 y2 y3 y4
      have NE4 : Hid (w.heap.size ≠ g4) := by show _ ≠ _; have := SZ1.out; have := G1.out; omega
      have R4 := Lib.hid R4; have B3 := Lib.hid B3; have OA := Lib.hid OA; have DA := Lib.hid DA
      have RW0 := Lib.hid (Row.new x3 2 [.int .i64 0])
      have BA0 : Hid (Below w1.heap.size w1 (x3.alloc (.cells ([.int .i64 0] : List Value).toArray 2))) := B3.out.alloc B3.out.size _
      have k0 := (RB1.out.below BA0.out RB1.out.lt).cell 0
      go_wp2_with fail
      clear k0
      change Calls _ _ _ (x3.alloc (.cells ([.int .i64 0] : List Value).toArray 2)) _
      have hsa : (x3.alloc (.cells ([.int .i64 0] : List Value).toArray 2)).heap.size = x3.heap.size + 1 := by simp
      refine (sNone_any nS _ (by omega)).mono ?_
      rintro e v0 ⟨N0, cn0, rfl, hr, hb⟩
      rw [hsa] at hr hb
      obtain ⟨gn0, cn, hv, _, hgn, hln, hcn⟩ := RowI.form hr (by simp; omega)
      injection hv with e1 e2 e3
      clear e2 e3
      subst e1
      have BV0 : Hid (Below x3.heap.size x3 v0) := ((Below.refl _ _).alloc (Nat.le_refl _) _).trans (hb.mono (by omega))
      have OW0 : Hid (v0.ownsRow x3.heap.size 2 1 (.slice (some ⟨x3.heap.size, 0, none⟩) 1 1) 1 [.int .i64 0]) := own_row (RW0.out.below hb (by omega)) (Nat.le_refl _) rfl (by unfold maxLen; omega)
      have HLEN : Hid ((iv (List.replicate nS (-1))).length = nS * 1) := by show _ = _; simp [iv]
      have HCL : Hid (∀ j u, (iv (List.replicate nS (-1)))[j]? = some u → v0.cell? ⟨gn0, 0 + j, none⟩ = some u) := fun j u hu => by
        obtain ⟨y, hy, rfl⟩ := iv_get hu
        rw [Nat.zero_add]; exact hcn j y hy
      have HON : Hid (∀ u ∈ iv (List.replicate nS (-1)), u.oneCell' = true) := fun u hu => by
        simp only [iv, List.mem_map] at hu; obtain ⟨y, -, rfl⟩ := hu; rfl
      have HRM : Hid (1 + nS ≤ 4294967296) := by show _ ≤ _; omega
      have HBSE : Hid (x3.heap.size ≤ v0.heap.size) := BV0.out.size
      clear hr hb hgn hln hcn hsa RW0 BA0
      dsimp only
      have RV := Lib.hid (Row.below R4.out BV0.out R4.out.lt)
      go_wp2_with (first | (at_builtin; refine wpList_cells_push rfl (.tmp 19) (.tmp 22) _ rfl x3.heap.size 2 (.int .i64 0) 1 8 Try.underlying23 infoQ rfl (by omega) (by omega) (.slice (some ⟨x3.heap.size, 0, none⟩) 1 1) 1 [.int .i64 0] rfl OW0.out gn0 0 nS _ (iv (List.replicate nS (-1))) rfl HLEN.out HCL.out HON.out HRM.out HBSE.out ?_; intro v' q0 hown hgr hat; obtain ⟨S0, cs0, hv', _, _⟩ := own_form hown; subst hv'; have HG := Lib.hid (grown_below' OW0.out hgr HBSE.out); have HOW := Lib.hid hown; clear hgr hown hat; have RQ := Lib.hid (RV.out.below (HG.out.mono (Nat.le_refl _)) R4.out.lt); have rq := RQ.out.cell 3; have fq := RQ.out.frozen 3; have BQ0 := Lib.hid (B3.out.trans ((BV0.out.trans HG.out).mono B3.out.size)); have kq := (((RB1.out.below BQ0.out RB1.out.lt).far (p := ⟨g4, 3, none⟩) NE4.out (.slice S0 (1 + nS) cs0)).alloc (.cells ([.int .i64 0] : List Value).toArray 2)).cell 0))
      clear rq fq kq OW0 HLEN HCL HON HRM HBSE RV
      obtain ⟨m5, hm5⟩ : ∃ m, m = (rpS nS).length := ⟨_, rfl⟩
      have hm5' : 1 + nS = m5 := by rw [hm5, rpS_len]; omega
      have how0 : q0.ownsRow x3.heap.size 2 1 (.slice S0 m5 cs0) m5 (iv (rpS nS)) := by
        have := HOW.out
        rw [hm5'] at this; exact this
      simp only [hm5']
      have HM5 := Lib.hid hm5; have HM5' := Lib.hid hm5'
      obtain ⟨x4, hx4⟩ : ∃ x, x = q0.setCell ⟨g4, 3, none⟩ (.slice S0 m5 cs0) := ⟨_, rfl⟩
      have R5 := RQ.out.set_ 3 (.slice S0 m5 cs0)
      have B5 : Below w1.heap.size w1 (q0.setCell ⟨g4, 3, none⟩ (.slice S0 m5 cs0)) := BQ0.out.setCell (p := ⟨g4, 3, none⟩) G1.out _
      have OS4 : (q0.setCell ⟨g4, 3, none⟩ (.slice S0 m5 cs0)).ownsRow x3.heap.size 2 1 (.slice S0 m5 cs0) m5 (iv (rpS nS)) := own_move how0 (fun g hg => Below.heap_setCell _ _ _ _ (by have := (how0.lt g hg).1; have := R4.out.lt; show g ≠ g4; omega))
      have OA4 : (q0.setCell ⟨g4, 3, none⟩ (.slice S0 m5 cs0)).ownsRow w1.heap.size 78 4 (.slice AA L.length cA) L.length (fa (L.map (mvA 1))) := own_move OA.out (fun g hg => (Below.heap_setCell _ _ _ _ (DA.out g hg)).trans ((BV0.out.trans HG.out).block g (OA.out.lt g hg).2))
      rw [← hx4] at R5 B5 OS4 OA4 ⊢
      have hs4 : q0.heap.size = x4.heap.size := by rw [hx4]; simp
      rw [hs4]
      have S34 : Hid (x3.heap.size ≤ x4.heap.size) := by show _ ≤ _; rw [← hs4]; exact (BV0.out.trans HG.out).size
      clear hs4
      have R5 := Lib.hid R5; have B5 := Lib.hid B5; have OS4 := Lib.hid OS4; have OA4 := Lib.hid OA4
      clear hx4 hm5 hm5' how0 HOW HG
      have RW1 := Lib.hid (Row.new x4 2 [.int .i64 0])
      have BA1 : Hid (Below w1.heap.size w1 (x4.alloc (.cells ([.int .i64 0] : List Value).toArray 2))) := B5.out.alloc B5.out.size _
      change Calls _ _ _ (x4.alloc (.cells ([.int .i64 0] : List Value).toArray 2)) _
      have hsa : (x4.alloc (.cells ([.int .i64 0] : List Value).toArray 2)).heap.size = x4.heap.size + 1 := by simp
      refine (sNone_any nS _ (by omega)).mono ?_
      rintro e v1 ⟨N1, cn1, rfl, hr, hb⟩
      rw [hsa] at hr hb
      obtain ⟨gn1, cn, hv, _, hgn, hln, hcn⟩ := RowI.form hr (by simp; omega)
      injection hv with e1 e2 e3
      clear e2 e3
      subst e1
      have BV1 : Hid (Below x4.heap.size x4 v1) := ((Below.refl _ _).alloc (Nat.le_refl _) _).trans (hb.mono (by omega))
      have OW0 : Hid (v1.ownsRow x4.heap.size 2 1 (.slice (some ⟨x4.heap.size, 0, none⟩) 1 1) 1 [.int .i64 0]) := own_row (RW1.out.below hb (by omega)) (Nat.le_refl _) rfl (by unfold maxLen; omega)
      have HLEN : Hid ((iv (List.replicate nS (-1))).length = nS * 1) := by show _ = _; simp [iv]
      have HCL : Hid (∀ j u, (iv (List.replicate nS (-1)))[j]? = some u → v1.cell? ⟨gn1, 0 + j, none⟩ = some u) := fun j u hu => by
        obtain ⟨y, hy, rfl⟩ := iv_get hu
        rw [Nat.zero_add]; exact hcn j y hy
      have HON : Hid (∀ u ∈ iv (List.replicate nS (-1)), u.oneCell' = true) := fun u hu => by
        simp only [iv, List.mem_map] at hu; obtain ⟨y, -, rfl⟩ := hu; rfl
      have HRM : Hid (1 + nS ≤ 4294967296) := by show _ ≤ _; omega
      have HBSE : Hid (x4.heap.size ≤ v1.heap.size) := BV1.out.size
      clear hr hb hgn hln hcn hsa RW1 BA1
      dsimp only
      have RV := Lib.hid (Row.below R5.out BV1.out R5.out.lt)
      go_wp2_with (first | (at_builtin; refine wpList_cells_push rfl (.tmp 25) (.tmp 28) _ rfl x4.heap.size 2 (.int .i64 0) 1 8 Try.underlying23 infoQ rfl (by omega) (by omega) (.slice (some ⟨x4.heap.size, 0, none⟩) 1 1) 1 [.int .i64 0] rfl OW0.out gn1 0 nS _ (iv (List.replicate nS (-1))) rfl HLEN.out HCL.out HON.out HRM.out HBSE.out ?_; intro v' q1 hown hgr hat; obtain ⟨S1, cs1, hv', _, _⟩ := own_form hown; subst hv'; have HG := Lib.hid (grown_below' OW0.out hgr HBSE.out); have HOW := Lib.hid hown; clear hgr hown hat; have RQ := Lib.hid (RV.out.below (HG.out.mono (Nat.le_refl _)) R5.out.lt); have rq := RQ.out.cell 4; have fq := RQ.out.frozen 4; have BQ1 := Lib.hid (B5.out.trans ((BV1.out.trans HG.out).mono B5.out.size)); have kq := (((RB1.out.below BQ1.out RB1.out.lt).far (p := ⟨g4, 4, none⟩) NE4.out (.slice S1 (1 + nS) cs1)).alloc (.cells ([.int .i64 0] : List Value).toArray 2)).cell 0))
      clear rq fq kq OW0 HLEN HCL HON HRM HBSE RV
      have how1 : q1.ownsRow x4.heap.size 2 1 (.slice S1 m5 cs1) m5 (iv (rpS nS)) := by
        have := HOW.out
        rw [HM5'.out] at this; exact this
      simp only [HM5'.out]
      obtain ⟨x5, hx5⟩ : ∃ x, x = (q1.setCell ⟨g4, 4, none⟩ (.slice S1 m5 cs1)) := ⟨_, rfl⟩
      have R6 := RQ.out.set_ 4 (.slice S1 m5 cs1)
      have B6 : Below w1.heap.size w1 (q1.setCell ⟨g4, 4, none⟩ (.slice S1 m5 cs1)) := BQ1.out.setCell (p := ⟨g4, 4, none⟩) G1.out _
      have OE5 : (q1.setCell ⟨g4, 4, none⟩ (.slice S1 m5 cs1)).ownsRow x4.heap.size 2 1 (.slice S1 m5 cs1) m5 (iv (rpS nS)) := own_move how1 (fun g hg => Below.heap_setCell _ _ _ _ (by have := (how1.lt g hg).1; have := R5.out.lt; show g ≠ g4; omega))
      have OS5 : (q1.setCell ⟨g4, 4, none⟩ (.slice S1 m5 cs1)).ownsRow x3.heap.size 2 1 (.slice S0 m5 cs0) m5 (iv (rpS nS)) := own_move OS4.out (fun g hg => (Below.heap_setCell _ _ _ _ (by have := (OS4.out.lt g hg).1; have := R4.out.lt; show g ≠ g4; omega)).trans ((BV1.out.trans HG.out).block g (OS4.out.lt g hg).2))
      have OA5 : (q1.setCell ⟨g4, 4, none⟩ (.slice S1 m5 cs1)).ownsRow w1.heap.size 78 4 (.slice AA L.length cA) L.length (fa (L.map (mvA 1))) := own_move OA4.out (fun g hg => (Below.heap_setCell _ _ _ _ (DA.out g hg)).trans ((BV1.out.trans HG.out).block g (OA4.out.lt g hg).2))
      rw [← hx5] at R6 B6 OE5 OS5 OA5 ⊢
      have R6 := Lib.hid R6; have B6 := Lib.hid B6; have OE5 := Lib.hid OE5; have OS5 := Lib.hid OS5; have OA5 := Lib.hid OA5
      clear hx5 how1 HOW HG RQ
      have HSE : Hid (∀ k', (Value.slice S0 m5 cs0).ownBlock = some k' → (Value.slice S1 m5 cs1).ownBlock ≠ some k') := fun k' h1 h2 => by
        have := (OS4.out.lt k' h1).2; have := (OE5.out.lt k' h2).1; omega
      go_loopg [5] nS (fun q i wr => ∃ (k n : Nat) (A : Option Addr) (c : Nat), i = .int .i64 k ∧ k ≤ nS ∧ nS ≤ q + k ∧ Hid (n = (rq1 L P k).length) ∧ Hid (wr.ownsRow w1.heap.size 78 4 (.slice A n c) n (fa (rq1 L P k))) ∧ Hid (Row wr g4 29 [.int .i64 ((nS : Int) + 1), .int .i64 T, .slice A n c, .slice S0 m5 cs0, .slice S1 m5 cs1]) ∧ Hid (Below w1.heap.size w1 wr) ∧ Hid (wr.ownsRow x3.heap.size 2 1 (.slice S0 m5 cs0) m5 (iv (rpS nS))) ∧ Hid (wr.ownsRow x4.heap.size 2 1 (.slice S1 m5 cs1) m5 (iv (rpS nS))) ∧ Hid (∀ k', (Value.slice A n c).ownBlock = some k' → k' ≠ g4 ∧ (Value.slice S0 m5 cs0).ownBlock ≠ some k' ∧ (Value.slice S1 m5 cs1).ownBlock ≠ some k'))
      case atStart =>
        refine ⟨0, L.length, AA, cA, rfl, by omega, by omega, by show _ = _; rw [rq1_zero, List.length_map], by show World.ownsRow _ _ _ _ _ _ _; rw [rq1_zero]; exact OA5.out, R6.out, B6.out, OS5.out, OE5.out, fun k' hk' => ⟨DA.out k' hk', fun h => ?_, fun h => ?_⟩⟩
        · have := (OA.out.lt k' hk').2; have := (OS5.out.lt k' h).1; omega
        · have := (OA.out.lt k' hk').2; have := (OE5.out.lt k' h).1; have := S34.out; omega
      case round =>
        obtain ⟨k, n, A, c, rfl, hk, hm, HN, HO, HR, HB, HS, HE, HD⟩ := hrel
        have hnb : n ≤ 1000 := by rw [HN.out]; have := rq1_len (L := L) (P := P) k; omega
        have HBw := Lib.hid (BX1.out.trans (HB.out.mono BX1.out.size))
        have kb := RB1.out.below HB.out RB1.out.lt
        have k0 := kb.cell 0; have k3 := kb.cell 3
        clear kb
        by_cases hlt : k < nS
        · have HAT := (H3.out.below HBw.out (Nat.le_refl _)).at_ (show k < P.length by rw [QP1.out]; exact hlt)
          obtain ⟨b, off, x, hA, hbB, hx, kc⟩ := HAT
          cases hA
          have l0 : (0 : Int) ≤ (k : Int) := by omega
          have l1 : (k : Int) < (nS : Int) := by omega
          have lP : (k : Int) < (P.length : Int) := by have := QP1.out; omega
          have hxr := QP.out x (List.mem_of_getElem? hx.out)
          have HST := Lib.hid (rq1_step (L := L) hx.out)
          by_cases hp : 0 ≤ x
          · have HST2 : Hid (rq1 L P (k + 1) = rq1 L P k ++ [(0, (k : Int) + 1, -1, x)]) := by show _ = _; rw [rq1_pos HST.out hp]
            go_wp2_with fail
            have kcell : Hid ((iv P)[k]? = some (.int .i64 x)) := by show _ = _; simp [iv, hx.out]
            have hcells : Hid (∀ y : World, Below w1.heap.size wr y → (y.cell? ⟨w.heap.size, 3, none⟩ = some (.slice (some ⟨b, off, none⟩) P.length c3) ∧ y.cell? ⟨b, off + k, none⟩ = some (.int .i64 x))) := by
              intro y hy
              have r := (RB1.out.below HB.out RB1.out.lt).below hy RB1.out.lt
              exact ⟨r.cell 3, SlV.cells (SlI.below H3.out (HBw.out.trans (hy.mono BX1.out.size)) (Nat.le_refl _)) k _ kcell.out⟩
            have RA := Lib.hid (HR.out.alloc (.cells ([.int .i64 0, .int .i64 ((k : Int) + 1), .int .i64 (-1), .int .i64 x] : List Value).toArray 78))
            have OWN : Hid (((wr.alloc (.cells ([.int .i64 0, .int .i64 ((k : Int) + 1), .int .i64 (-1), .int .i64 x] : List Value).toArray 78)).drew).ownsRow w1.heap.size 78 4 (.slice A n c) n (fa (rq1 L P k))) := HO.out.alloc _
            have CELLS : Hid (∀ j u, ([.int .i64 0, .int .i64 ((k : Int) + 1), .int .i64 (-1), .int .i64 x] : List Value)[j]? = some u → ((wr.alloc (.cells ([.int .i64 0, .int .i64 ((k : Int) + 1), .int .i64 (-1), .int .i64 x] : List Value).toArray 78)).drew).cell? ⟨wr.heap.size, 0 + j, none⟩ = some u) := fun j u hu => by
              rw [Nat.zero_add]; exact ((Row.new wr 78 [.int .i64 0, .int .i64 ((k : Int) + 1), .int .i64 (-1), .int .i64 x]).cell j).trans hu
            have LEN : Hid (([.int .i64 0, .int .i64 ((k : Int) + 1), .int .i64 (-1), .int .i64 x] : List Value).length = 1 * 4) := rfl
            have ONE : Hid (∀ u ∈ ([.int .i64 0, .int .i64 ((k : Int) + 1), .int .i64 (-1), .int .i64 x] : List Value), u.oneCell' = true) := fa_one [(0, (k : Int) + 1, -1, x)]
            have ROOM : Hid (n + 1 ≤ 4294967296) := by show _ ≤ _; omega
            have BASE : Hid (w1.heap.size ≤ ((wr.alloc (.cells ([.int .i64 0, .int .i64 ((k : Int) + 1), .int .i64 (-1), .int .i64 x] : List Value).toArray 78)).drew).heap.size) := Nat.le_trans HB.out.size (by simp)
            have HBA : Hid (Below w1.heap.size w1 ((wr.alloc (.cells ([.int .i64 0, .int .i64 ((k : Int) + 1), .int .i64 (-1), .int .i64 x] : List Value).toArray 78)).drew)) := Below.drew (HB.out.alloc HB.out.size _)
            have P04 : 0 < 4 := by omega
            have P3232 : 32 ≤ 32 := by omega
            have HNE : Hid (some g4 ≠ (Value.slice A n c).ownBlock) := fun e => (HD.out g4 e.symm).1 rfl
            have wl : g4 < wr.heap.size := HR.out.lt
            have wk : IntKind.i64.wrap ((k : Int) + 1) = (k : Int) + 1 := IntWalk.i64_in _ (by omega)
            have cA2 : (wr.alloc (.cells ([.int .i64 0, .int .i64 ((k : Int) + 1), .int .i64 (-1), .int .i64 x] : List Value).toArray 78)).cell? ⟨g4, 2, none⟩ = some (.slice A n c) := RA.out.cell 2
            have cW := hcells.out wr (Below.refl _ _)
            have cWA := hcells.out (wr.alloc (.cells ([.int .i64 0, .int .i64 ((k : Int) + 1), .int .i64 (-1), .int .i64 x] : List Value).toArray 78)) ((Below.refl _ _).alloc HB.out.size _)
            obtain ⟨e1, e2⟩ := cW
            obtain ⟨e3, e4⟩ := cWA
            have e5 : wr.cell? ⟨g4, 2, none⟩ = some (.slice A n c) := HR.out.cell 2
            go_region_law (refine step_cells_push rfl (.tmp 44) (.tmp 53) _ rfl w1.heap.size 78 (.agg #[.int .i64 0, .int .i64 0, .int .i64 0, .int .i64 0]) 4 32 Try.underlying27 infoAr rfl P04 P3232 (.slice A n c) n (fa (rq1 L P k)) ?_ OWN.out wr.heap.size 0 1 1 [.int .i64 0, .int .i64 ((k : Int) + 1), .int .i64 (-1), .int .i64 x] ?_ LEN.out CELLS.out ONE.out ROOM.out BASE.out ?_; rfl; rfl; intro A' c' wz hvE hgr hbl hat; have hrz := Row.grown (Row.drew RA.out) hgr HNE.out; have rz := hrz.cell 2; have fz := hrz.frozen 2; have HRZ := Lib.hid hrz; clear hrz; have HvE := Lib.hid hvE; have HGR := Lib.hid hgr; have HAT := Lib.hid hat; have HBL := Lib.hid hbl; clear hvE hgr hat hbl)
            all_goals
              clear e1 e2 e3 e4 e5 cA2 wk
              go_wp2_with fail
              go_roundg (gk - 1)
              case measure => omega
              case rel =>
                have hsz : (wr.alloc (.cells ([.int .i64 0, .int .i64 ((k : Int) + 1), .int .i64 (-1), .int .i64 x] : List Value).toArray 78)).drew.heap.size = wr.heap.size + 1 := by simp
                have nb : ∀ k', (Value.slice A' (n + 1) c').ownBlock = some k' → k' ≠ g4 ∧ (Value.slice S0 m5 cs0).ownBlock ≠ some k' ∧ (Value.slice S1 m5 cs1).ownBlock ≠ some k' := fun k' hk' => by
                  rcases HAT.out with h | h
                  · exact HD.out k' (by rw [← h]; exact hk')
                  · rw [hk', hsz] at h
                    have h := Option.some.inj h
                    refine ⟨by omega, fun h2 => ?_, fun h2 => ?_⟩
                    · have := (HS.out.lt k' h2).2; omega
                    · have := (HE.out.lt k' h2).2; omega
                refine ⟨k + 1, n + 1, A', c', by go_num, by omega, by omega, ?_, ?_, HRZ.out.set_ 2 _, (HBA.out.trans HBL.out).setCell (p := ⟨g4, 2, none⟩) G1.out _, ?_, ?_, nb⟩
                · show _ = _; rw [HST2.out, List.length_append, ← HN.out]; rfl
                · show World.ownsRow _ _ _ _ _ _ _
                  rw [HST2.out, fa_append]
                  exact own_move HvE.out (fun g hg => Below.heap_setCell _ _ _ _ (nb g hg).1)
                · exact own_move HS.out (fun g hg => (Below.heap_setCell _ _ _ _ (by have := (HS.out.lt g hg).1; have := R4.out.lt; show g ≠ g4; omega)).trans ((HGR.out.block g (by rw [hsz]; have := (HS.out.lt g hg).2; omega) (fun e => (HD.out g e.symm).2.1 hg)).trans (Below.heap_alloc _ _ _ (HS.out.lt g hg).2)))
                · exact own_move HE.out (fun g hg => (Below.heap_setCell _ _ _ _ (by have := (HE.out.lt g hg).1; have := R4.out.lt; have := S34.out; show g ≠ g4; omega)).trans ((HGR.out.block g (by rw [hsz]; have := (HE.out.lt g hg).2; omega) (fun e => (HD.out g e.symm).2.2 hg)).trans (Below.heap_alloc _ _ _ (HE.out.lt g hg).2)))
          · have HST2 : Hid (rq1 L P (k + 1) = rq1 L P k) := by show _ = _; rw [rq1_neg HST.out hp]
            go_wp2_with fail
            go_roundg (gk - 1)
            case measure => omega
            case rel =>
              refine ⟨k + 1, n, A, c, by go_num, by omega, by omega, ?_, ?_, HR.out, HB.out, HS.out, HE.out, HD.out⟩
              · show _ = _; rw [HST2.out]; exact HN.out
              · show World.ownsRow _ _ _ _ _ _ _; rw [HST2.out]; exact HO.out
        · obtain rfl : nS = k := by omega
          have HN2 : Hid (n = (rq2 L P E 0).length) := by show _ = _; rw [rq2_zero, QP1.out]; exact HN.out
          have HO2 : Hid (wr.ownsRow w1.heap.size 78 4 (.slice A n c) n (fa (rq2 L P E 0))) := by show World.ownsRow _ _ _ _ _ _ _; rw [rq2_zero, QP1.out]; exact HO.out
          clear HN HO k3
          go_wp2_with fail
          clear k0
          go_loopg [6] nS (fun q i wr => ∃ (k n : Nat) (A : Option Addr) (c : Nat), i = .int .i64 k ∧ k ≤ nS ∧ nS ≤ q + k ∧ Hid (n = (rq2 L P E k).length) ∧ Hid (wr.ownsRow w1.heap.size 78 4 (.slice A n c) n (fa (rq2 L P E k))) ∧ Hid (Row wr g4 29 [.int .i64 ((nS : Int) + 1), .int .i64 T, .slice A n c, .slice S0 m5 cs0, .slice S1 m5 cs1]) ∧ Hid (Below w1.heap.size w1 wr) ∧ Hid (wr.ownsRow x3.heap.size 2 1 (.slice S0 m5 cs0) m5 (iv (rpS nS))) ∧ Hid (wr.ownsRow x4.heap.size 2 1 (.slice S1 m5 cs1) m5 (iv (rpS nS))) ∧ Hid (∀ k', (Value.slice A n c).ownBlock = some k' → k' ≠ g4 ∧ (Value.slice S0 m5 cs0).ownBlock ≠ some k' ∧ (Value.slice S1 m5 cs1).ownBlock ≠ some k'))
          case atStart => exact ⟨0, n, A, c, rfl, by omega, by omega, HN2.out, HO2.out, HR.out, HB.out, HS.out, HE.out, HD.out⟩
          case round =>
            obtain ⟨k, n, A, c, rfl, hk, hm, HN, HO, HR, HB, HS, HE, HD⟩ := hrel
            have hnb : n ≤ 1000 := by rw [HN.out]; have := rq2_len (L := L) (P := P) (E := E) k; omega
            have HBw := Lib.hid (BX1.out.trans (HB.out.mono BX1.out.size))
            have kb := RB1.out.below HB.out RB1.out.lt
            have k0 := kb.cell 0; have k3 := kb.cell 4
            clear kb
            by_cases hlt : k < nS
            · have HAT := (H4.out.below HBw.out (Nat.le_refl _)).at_ (show k < E.length by rw [QE1.out]; exact hlt)
              obtain ⟨b, off, x, hA, hbB, hx, kc⟩ := HAT
              cases hA
              have l0 : (0 : Int) ≤ (k : Int) := by omega
              have l1 : (k : Int) < (nS : Int) := by omega
              have lP : (k : Int) < (E.length : Int) := by have := QE1.out; omega
              have hxr := QE.out x (List.mem_of_getElem? hx.out)
              have HST := Lib.hid (rq2_step (L := L) (P := P) hx.out)
              by_cases hp : 0 ≤ x
              · have HST2 : Hid (rq2 L P E (k + 1) = rq2 L P E k ++ [((k : Int) + 1, 0, -1, x)]) := by show _ = _; rw [rq2_pos HST.out hp]
                go_wp2_with fail
                have kcell : Hid ((iv E)[k]? = some (.int .i64 x)) := by show _ = _; simp [iv, hx.out]
                have hcells : Hid (∀ y : World, Below w1.heap.size wr y → (y.cell? ⟨w.heap.size, 4, none⟩ = some (.slice (some ⟨b, off, none⟩) E.length c4) ∧ y.cell? ⟨b, off + k, none⟩ = some (.int .i64 x))) := by
                  intro y hy
                  have r := (RB1.out.below HB.out RB1.out.lt).below hy RB1.out.lt
                  exact ⟨r.cell 4, SlV.cells (SlI.below H4.out (HBw.out.trans (hy.mono BX1.out.size)) (Nat.le_refl _)) k _ kcell.out⟩
                have RA := Lib.hid (HR.out.alloc (.cells ([.int .i64 ((k : Int) + 1), .int .i64 0, .int .i64 (-1), .int .i64 x] : List Value).toArray 78))
                have OWN : Hid (((wr.alloc (.cells ([.int .i64 ((k : Int) + 1), .int .i64 0, .int .i64 (-1), .int .i64 x] : List Value).toArray 78)).drew).ownsRow w1.heap.size 78 4 (.slice A n c) n (fa (rq2 L P E k))) := HO.out.alloc _
                have CELLS : Hid (∀ j u, ([.int .i64 ((k : Int) + 1), .int .i64 0, .int .i64 (-1), .int .i64 x] : List Value)[j]? = some u → ((wr.alloc (.cells ([.int .i64 ((k : Int) + 1), .int .i64 0, .int .i64 (-1), .int .i64 x] : List Value).toArray 78)).drew).cell? ⟨wr.heap.size, 0 + j, none⟩ = some u) := fun j u hu => by
                  rw [Nat.zero_add]; exact ((Row.new wr 78 [.int .i64 ((k : Int) + 1), .int .i64 0, .int .i64 (-1), .int .i64 x]).cell j).trans hu
                have LEN : Hid (([.int .i64 ((k : Int) + 1), .int .i64 0, .int .i64 (-1), .int .i64 x] : List Value).length = 1 * 4) := rfl
                have ONE : Hid (∀ u ∈ ([.int .i64 ((k : Int) + 1), .int .i64 0, .int .i64 (-1), .int .i64 x] : List Value), u.oneCell' = true) := fa_one [((k : Int) + 1, 0, -1, x)]
                have ROOM : Hid (n + 1 ≤ 4294967296) := by show _ ≤ _; omega
                have BASE : Hid (w1.heap.size ≤ ((wr.alloc (.cells ([.int .i64 ((k : Int) + 1), .int .i64 0, .int .i64 (-1), .int .i64 x] : List Value).toArray 78)).drew).heap.size) := Nat.le_trans HB.out.size (by simp)
                have HBA : Hid (Below w1.heap.size w1 ((wr.alloc (.cells ([.int .i64 ((k : Int) + 1), .int .i64 0, .int .i64 (-1), .int .i64 x] : List Value).toArray 78)).drew)) := Below.drew (HB.out.alloc HB.out.size _)
                have P04 : 0 < 4 := by omega
                have P3232 : 32 ≤ 32 := by omega
                have HNE : Hid (some g4 ≠ (Value.slice A n c).ownBlock) := fun e => (HD.out g4 e.symm).1 rfl
                have wl : g4 < wr.heap.size := HR.out.lt
                have wk : IntKind.i64.wrap ((k : Int) + 1) = (k : Int) + 1 := IntWalk.i64_in _ (by omega)
                have cA2 : (wr.alloc (.cells ([.int .i64 ((k : Int) + 1), .int .i64 0, .int .i64 (-1), .int .i64 x] : List Value).toArray 78)).cell? ⟨g4, 2, none⟩ = some (.slice A n c) := RA.out.cell 2
                have cW := hcells.out wr (Below.refl _ _)
                have cWA := hcells.out (wr.alloc (.cells ([.int .i64 ((k : Int) + 1), .int .i64 0, .int .i64 (-1), .int .i64 x] : List Value).toArray 78)) ((Below.refl _ _).alloc HB.out.size _)
                obtain ⟨e1, e2⟩ := cW
                obtain ⟨e3, e4⟩ := cWA
                have e5 : wr.cell? ⟨g4, 2, none⟩ = some (.slice A n c) := HR.out.cell 2
                go_region_law (refine step_cells_push rfl (.tmp 69) (.tmp 78) _ rfl w1.heap.size 78 (.agg #[.int .i64 0, .int .i64 0, .int .i64 0, .int .i64 0]) 4 32 Try.underlying27 infoAr rfl P04 P3232 (.slice A n c) n (fa (rq2 L P E k)) ?_ OWN.out wr.heap.size 0 1 1 [.int .i64 ((k : Int) + 1), .int .i64 0, .int .i64 (-1), .int .i64 x] ?_ LEN.out CELLS.out ONE.out ROOM.out BASE.out ?_; rfl; rfl; intro A' c' wz hvE hgr hbl hat; have hrz := Row.grown (Row.drew RA.out) hgr HNE.out; have rz := hrz.cell 2; have fz := hrz.frozen 2; have HRZ := Lib.hid hrz; clear hrz; have HvE := Lib.hid hvE; have HGR := Lib.hid hgr; have HAT := Lib.hid hat; have HBL := Lib.hid hbl; clear hvE hgr hat hbl)
                all_goals
                  clear e1 e2 e3 e4 e5 cA2 wk
                  go_wp2_with fail
                  go_roundg (gk - 1)
                  case measure => omega
                  case rel =>
                    have hsz : (wr.alloc (.cells ([.int .i64 ((k : Int) + 1), .int .i64 0, .int .i64 (-1), .int .i64 x] : List Value).toArray 78)).drew.heap.size = wr.heap.size + 1 := by simp
                    have nb : ∀ k', (Value.slice A' (n + 1) c').ownBlock = some k' → k' ≠ g4 ∧ (Value.slice S0 m5 cs0).ownBlock ≠ some k' ∧ (Value.slice S1 m5 cs1).ownBlock ≠ some k' := fun k' hk' => by
                      rcases HAT.out with h | h
                      · exact HD.out k' (by rw [← h]; exact hk')
                      · rw [hk', hsz] at h
                        have h := Option.some.inj h
                        refine ⟨by omega, fun h2 => ?_, fun h2 => ?_⟩
                        · have := (HS.out.lt k' h2).2; omega
                        · have := (HE.out.lt k' h2).2; omega
                    refine ⟨k + 1, n + 1, A', c', by go_num, by omega, by omega, ?_, ?_, HRZ.out.set_ 2 _, (HBA.out.trans HBL.out).setCell (p := ⟨g4, 2, none⟩) G1.out _, ?_, ?_, nb⟩
                    · show _ = _; rw [HST2.out, List.length_append, ← HN.out]; rfl
                    · show World.ownsRow _ _ _ _ _ _ _
                      rw [HST2.out, fa_append]
                      exact own_move HvE.out (fun g hg => Below.heap_setCell _ _ _ _ (nb g hg).1)
                    · exact own_move HS.out (fun g hg => (Below.heap_setCell _ _ _ _ (by have := (HS.out.lt g hg).1; have := R4.out.lt; show g ≠ g4; omega)).trans ((HGR.out.block g (by rw [hsz]; have := (HS.out.lt g hg).2; omega) (fun e => (HD.out g e.symm).2.1 hg)).trans (Below.heap_alloc _ _ _ (HS.out.lt g hg).2)))
                    · exact own_move HE.out (fun g hg => (Below.heap_setCell _ _ _ _ (by have := (HE.out.lt g hg).1; have := R4.out.lt; have := S34.out; show g ≠ g4; omega)).trans ((HGR.out.block g (by rw [hsz]; have := (HE.out.lt g hg).2; omega) (fun e => (HD.out g e.symm).2.2 hg)).trans (Below.heap_alloc _ _ _ (HE.out.lt g hg).2)))
              · have HST2 : Hid (rq2 L P E (k + 1) = rq2 L P E k) := by show _ = _; rw [rq2_neg HST.out hp]
                go_wp2_with fail
                go_roundg (gk - 1)
                case measure => omega
                case rel =>
                  refine ⟨k + 1, n, A, c, by go_num, by omega, by omega, ?_, ?_, HR.out, HB.out, HS.out, HE.out, HD.out⟩
                  · show _ = _; rw [HST2.out]; exact HN.out
                  · show World.ownsRow _ _ _ _ _ _ _; rw [HST2.out]; exact HO.out
            · obtain rfl : nS = k := by omega
              have RRr := RR1.out.below HB.out RR1.out.lt
              have hnG : g4 ≠ w.heap.size + 1 := by have := SZ1.out; have := G1.out; omega

              have C := Lib.hid (sGiveG w1.heap.size (nS + 1) T (rpA L P E) (rpS nS) (rpS nS) A n c S0 m5 cs0 S1 m5 cs1 wr (by have := HO.out; rw [← QE1.out] at this; exact this) (World.ownsRow.mono HS.out (by have := B3.out.size; omega)) (World.ownsRow.mono HE.out (by have := B3.out.size; have := S34.out; omega)) (by rw [HN.out, ← QE1.out]; rfl) HM5.out.symm HM5.out.symm (by omega) (by have := HM5.out; rw [rpS_len] at this; omega) (by have := HM5.out; rw [rpS_len] at this; omega))
              have RRR := Lib.hid RRr; clear RRr
              have r0 := HR.out.cell 0; have r1 := HR.out.cell 1; have r2 := HR.out.cell 2; have r3 := HR.out.cell 3; have r4 := HR.out.cell 4
              go_wp2_with fail
              clear k0 k3
              refine C.out.mono ?_
              rintro e wy ⟨ok2, hok2, rfl, hby⟩
              have RRY := Lib.hid (RRR.out.below hby RRR.out.lt)
              have HOK2 := Lib.hid hok2; clear hok2
              clear r0 r1 r2 r3 r4
              have y0 := RRY.out.cell 0; have y1 := RRY.out.cell 1; have y2 := RRY.out.cell 2; have y3 := RRY.out.cell 3; have y4 := RRY.out.cell 4; have f0 := RRY.out.frozen 0; have f1 := RRY.out.frozen 1; have f2 := RRY.out.frozen 2; have f3 := RRY.out.frozen 3; have f4 := RRY.out.frozen 4
              go_wp2_with fail
              clear y0 f0 y1 f1 y2 f2 y3 f3 y4 f4
              have hF := (((((RRY.out.set_ 0 (.int .i64 (ckI ok2 (nS + 1)))).set_ 1 (.int .i64 (ckI ok2 T))).set_ 2 (.slice (ckA ok2 A) (ckN ok2 n) (ckN ok2 c))).set_ 3 (.slice (ckA ok2 S0) (ckN ok2 m5) (ckN ok2 cs0))).set_ 4 (.slice (ckA ok2 S1) (ckN ok2 m5) (ckN ok2 cs1)))
              have hBF : Below w.heap.size w (((((wy.setCell ⟨w.heap.size + 1, 0, none⟩ (.int .i64 (ckI ok2 (nS + 1)))).setCell ⟨w.heap.size + 1, 1, none⟩ (.int .i64 (ckI ok2 T))).setCell ⟨w.heap.size + 1, 2, none⟩ (.slice (ckA ok2 A) (ckN ok2 n) (ckN ok2 c))).setCell ⟨w.heap.size + 1, 3, none⟩ (.slice (ckA ok2 S0) (ckN ok2 m5) (ckN ok2 cs0))).setCell ⟨w.heap.size + 1, 4, none⟩ (.slice (ckA ok2 S1) (ckN ok2 m5) (ckN ok2 cs1))) := (((((((BX1.out.trans (HB.out.mono BX1.out.size)).trans (hby.mono (BX1.out.trans (HB.out.mono BX1.out.size)).size)).setCell (p := ⟨w.heap.size + 1, 0, none⟩) (show w.heap.size ≤ w.heap.size + 1 by omega) (.int .i64 (ckI ok2 (nS + 1)))).setCell (p := ⟨w.heap.size + 1, 1, none⟩) (show w.heap.size ≤ w.heap.size + 1 by omega) (.int .i64 (ckI ok2 T))).setCell (p := ⟨w.heap.size + 1, 2, none⟩) (show w.heap.size ≤ w.heap.size + 1 by omega) (.slice (ckA ok2 A) (ckN ok2 n) (ckN ok2 c))).setCell (p := ⟨w.heap.size + 1, 3, none⟩) (show w.heap.size ≤ w.heap.size + 1 by omega) (.slice (ckA ok2 S0) (ckN ok2 m5) (ckN ok2 cs0))).setCell (p := ⟨w.heap.size + 1, 4, none⟩) (show w.heap.size ≤ w.heap.size + 1 by omega) (.slice (ckA ok2 S1) (ckN ok2 m5) (ckN ok2 cs1)))
              have hkp : ∀ g, g < wr.heap.size → g ≠ w.heap.size + 1 → (((((wy.setCell ⟨w.heap.size + 1, 0, none⟩ (.int .i64 (ckI ok2 (nS + 1)))).setCell ⟨w.heap.size + 1, 1, none⟩ (.int .i64 (ckI ok2 T))).setCell ⟨w.heap.size + 1, 2, none⟩ (.slice (ckA ok2 A) (ckN ok2 n) (ckN ok2 c))).setCell ⟨w.heap.size + 1, 3, none⟩ (.slice (ckA ok2 S0) (ckN ok2 m5) (ckN ok2 cs0))).setCell ⟨w.heap.size + 1, 4, none⟩ (.slice (ckA ok2 S1) (ckN ok2 m5) (ckN ok2 cs1))).heap[g]? = wr.heap[g]? := fun g h1 h2 => (heap_set5 _ _ _ _ _ h2).trans (hby.block g h1)
              have hsF : wr.heap.size ≤ (((((wy.setCell ⟨w.heap.size + 1, 0, none⟩ (.int .i64 (ckI ok2 (nS + 1)))).setCell ⟨w.heap.size + 1, 1, none⟩ (.int .i64 (ckI ok2 T))).setCell ⟨w.heap.size + 1, 2, none⟩ (.slice (ckA ok2 A) (ckN ok2 n) (ckN ok2 c))).setCell ⟨w.heap.size + 1, 3, none⟩ (.slice (ckA ok2 S0) (ckN ok2 m5) (ckN ok2 cs0))).setCell ⟨w.heap.size + 1, 4, none⟩ (.slice (ckA ok2 S1) (ckN ok2 m5) (ckN ok2 cs1))).heap.size := by have := hby.size; simpa using this
              refine bodyPost_ret (results_cell2 rfl _ _ (w.heap.size + 1) 29 #[.int .i64 (ckI ok2 (nS + 1)), .int .i64 (ckI ok2 T), .slice (ckA ok2 A) (ckN ok2 n) (ckN ok2 c), .slice (ckA ok2 S0) (ckN ok2 m5) (ckN ok2 cs0), .slice (ckA ok2 S1) (ckN ok2 m5) (ckN ok2 cs1)] (0, 0) _ (.bool ok2) rfl rfl hF Try.underlying29 rfl (by kernel_rfl)) rfl ?_
              obtain ⟨F, hFF⟩ : ∃ F, F = (((((wy.setCell ⟨w.heap.size + 1, 0, none⟩ (.int .i64 (ckI ok2 (nS + 1)))).setCell ⟨w.heap.size + 1, 1, none⟩ (.int .i64 (ckI ok2 T))).setCell ⟨w.heap.size + 1, 2, none⟩ (.slice (ckA ok2 A) (ckN ok2 n) (ckN ok2 c))).setCell ⟨w.heap.size + 1, 3, none⟩ (.slice (ckA ok2 S0) (ckN ok2 m5) (ckN ok2 cs0))).setCell ⟨w.heap.size + 1, 4, none⟩ (.slice (ckA ok2 S1) (ckN ok2 m5) (ckN ok2 cs1))) := ⟨_, rfl⟩
              rw [← hFF] at hBF hkp hsF ⊢
              clear hF hFF
              have hf : rpOk (nS : Int) T L P E = ok2 := by show (vmB _ _ _ _ _ && vmB _ _ _ _ _) = ok2; rw [← HOK.out, Int.toNat_natCast, HOK2.out]; rfl
              rw [hf, Int.toNat_natCast]
              have z1 := SZ1.out
              have z3 := B3.out.size
              have z4 := S34.out
              have oa := own_move HO.out (fun g hg => hkp g (HO.out.lt g hg).2 (by have := (HO.out.lt g hg).1; omega))
              have os := own_move HS.out (fun g hg => hkp g (HS.out.lt g hg).2 (by have := (HS.out.lt g hg).1; omega))
              have oe := own_move HE.out (fun g hg => hkp g (HE.out.lt g hg).2 (by have := (HE.out.lt g hg).1; omega))
              have l1' := fun k hk => HO.out.lt k hk
              have l2' := fun k hk => HS.out.lt k hk
              have l3' := fun k hk => HE.out.lt k hk
              have hE2 : rq2 L P E nS = rpA L P E := by rw [← QE1.out]; rfl
              rw [hE2] at oa
              have e1 : n = (rpA L P E).length := by rw [← hE2]; exact HN.out
              have e2 := HM5.out
              have hds : ∀ k', (Value.slice S0 m5 cs0).ownBlock = some k' → (Value.slice S1 m5 cs1).ownBlock ≠ some k' := HSE.out
              rw [← ckV_agg]
              have hD := HD.out
              clear HN HO HM5 C HOK2 HN2 HO2
              subst e1 e2
              refine ⟨_, F.heap.size, rfl, Nat.le_refl _, ckO ok2 ⟨_, _, _, rfl, ⟨World.ownsRow.mono oa (by omega), fun k hk => by have := l1' k hk; omega⟩, ⟨World.ownsRow.mono os (by omega), fun k hk => by have := l2' k hk; omega⟩, ⟨World.ownsRow.mono oe (by omega), fun k hk => by have := l3' k hk; omega⟩, ?_, ?_, ?_⟩, hBF⟩
              · intro k hk h2; exact (hD k hk).2.1 h2
              · intro k hk h2; exact (hD k hk).2.2 h2
              · intro k hk h2; exact hds k hk h2
    · have hbw := hkz.1
      try rw [HWR.out]
      have R4 : Row (((((wz.setCell ⟨w1.heap.size, 0, none⟩ (.int .i64 ((nS : Int) + 1))).setCell ⟨w1.heap.size, 1, none⟩ (.int .i64 T)).setCell ⟨w1.heap.size, 2, none⟩ (.slice AA L.length cA)).setCell ⟨w1.heap.size, 3, none⟩ (.slice none 0 0)).setCell ⟨w1.heap.size, 4, none⟩ (.slice none 0 0)) w1.heap.size 29 [.int .i64 ((nS : Int) + 1), .int .i64 T, .slice AA L.length cA, .slice none 0 0, .slice none 0 0] := (((((HZ.out.set_ 0 _).set_ 1 _).set_ 2 _).set_ 3 _).set_ 4 _)
      have B3 : Below w1.heap.size w1 (((((wz.setCell ⟨w1.heap.size, 0, none⟩ (.int .i64 ((nS : Int) + 1))).setCell ⟨w1.heap.size, 1, none⟩ (.int .i64 T)).setCell ⟨w1.heap.size, 2, none⟩ (.slice AA L.length cA)).setCell ⟨w1.heap.size, 3, none⟩ (.slice none 0 0)).setCell ⟨w1.heap.size, 4, none⟩ (.slice none 0 0)) := (hkeepS.out wz _ _ _ _ _ hbw).1
      have DA : ∀ k, (Value.slice AA L.length cA).ownBlock = some k → k ≠ w1.heap.size := fun k hk => by have := (HvA.out.lt k hk).1; simp at this; omega
      have OA : (((((wz.setCell ⟨w1.heap.size, 0, none⟩ (.int .i64 ((nS : Int) + 1))).setCell ⟨w1.heap.size, 1, none⟩ (.int .i64 T)).setCell ⟨w1.heap.size, 2, none⟩ (.slice AA L.length cA)).setCell ⟨w1.heap.size, 3, none⟩ (.slice none 0 0)).setCell ⟨w1.heap.size, 4, none⟩ (.slice none 0 0)).ownsRow w1.heap.size 78 4 (.slice AA L.length cA) L.length (fa (L.map (mvA 1))) := own_move (World.ownsRow.mono HvA.out (show w1.heap.size ≤ _ by simp)) (fun g hg => by have hne := DA g hg; exact heap_set5 _ _ _ _ _ hne)
      obtain ⟨g4, hg4⟩ : ∃ g, g = w1.heap.size := ⟨_, rfl⟩
      obtain ⟨x3, hx3⟩ : ∃ x, x = (((((wz.setCell ⟨w1.heap.size, 0, none⟩ (.int .i64 ((nS : Int) + 1))).setCell ⟨w1.heap.size, 1, none⟩ (.int .i64 T)).setCell ⟨w1.heap.size, 2, none⟩ (.slice AA L.length cA)).setCell ⟨w1.heap.size, 3, none⟩ (.slice none 0 0)).setCell ⟨w1.heap.size, 4, none⟩ (.slice none 0 0)) := ⟨_, rfl⟩
      rw [← hx3] at R4 B3 OA ⊢
      rw [← hg4] at R4 DA ⊢
      have G1 : Hid (w1.heap.size ≤ g4) := by show _ ≤ _; omega
      clear hx3 hg4 hbz HvA hbw hkz hfrom hdr HC hkeep hkeepA hkeepD hkeepS hcells
      try clear HZ
      try clear z0 z1 z2 z3 z4 y0 y1 y2 y3 y4
      have NE4 : Hid (w.heap.size ≠ g4) := by show _ ≠ _; have := SZ1.out; have := G1.out; omega
      have R4 := Lib.hid R4; have B3 := Lib.hid B3; have OA := Lib.hid OA; have DA := Lib.hid DA
      have RW0 := Lib.hid (Row.new x3 2 [.int .i64 0])
      have BA0 : Hid (Below w1.heap.size w1 (x3.alloc (.cells ([.int .i64 0] : List Value).toArray 2))) := B3.out.alloc B3.out.size _
      have k0 := (RB1.out.below BA0.out RB1.out.lt).cell 0
      go_wp2_with fail
      clear k0
      change Calls _ _ _ (x3.alloc (.cells ([.int .i64 0] : List Value).toArray 2)) _
      have hsa : (x3.alloc (.cells ([.int .i64 0] : List Value).toArray 2)).heap.size = x3.heap.size + 1 := by simp
      refine (sNone_any nS _ (by omega)).mono ?_
      rintro e v0 ⟨N0, cn0, rfl, hr, hb⟩
      rw [hsa] at hr hb
      obtain ⟨gn0, cn, hv, _, hgn, hln, hcn⟩ := RowI.form hr (by simp; omega)
      injection hv with e1 e2 e3
      clear e2 e3
      subst e1
      have BV0 : Hid (Below x3.heap.size x3 v0) := ((Below.refl _ _).alloc (Nat.le_refl _) _).trans (hb.mono (by omega))
      have OW0 : Hid (v0.ownsRow x3.heap.size 2 1 (.slice (some ⟨x3.heap.size, 0, none⟩) 1 1) 1 [.int .i64 0]) := own_row (RW0.out.below hb (by omega)) (Nat.le_refl _) rfl (by unfold maxLen; omega)
      have HLEN : Hid ((iv (List.replicate nS (-1))).length = nS * 1) := by show _ = _; simp [iv]
      have HCL : Hid (∀ j u, (iv (List.replicate nS (-1)))[j]? = some u → v0.cell? ⟨gn0, 0 + j, none⟩ = some u) := fun j u hu => by
        obtain ⟨y, hy, rfl⟩ := iv_get hu
        rw [Nat.zero_add]; exact hcn j y hy
      have HON : Hid (∀ u ∈ iv (List.replicate nS (-1)), u.oneCell' = true) := fun u hu => by
        simp only [iv, List.mem_map] at hu; obtain ⟨y, -, rfl⟩ := hu; rfl
      have HRM : Hid (1 + nS ≤ 4294967296) := by show _ ≤ _; omega
      have HBSE : Hid (x3.heap.size ≤ v0.heap.size) := BV0.out.size
      clear hr hb hgn hln hcn hsa RW0 BA0
      dsimp only
      have RV := Lib.hid (Row.below R4.out BV0.out R4.out.lt)
      go_wp2_with (first | (at_builtin; refine wpList_cells_push rfl (.tmp 19) (.tmp 22) _ rfl x3.heap.size 2 (.int .i64 0) 1 8 Try.underlying23 infoQ rfl (by omega) (by omega) (.slice (some ⟨x3.heap.size, 0, none⟩) 1 1) 1 [.int .i64 0] rfl OW0.out gn0 0 nS _ (iv (List.replicate nS (-1))) rfl HLEN.out HCL.out HON.out HRM.out HBSE.out ?_; intro v' q0 hown hgr hat; obtain ⟨S0, cs0, hv', _, _⟩ := own_form hown; subst hv'; have HG := Lib.hid (grown_below' OW0.out hgr HBSE.out); have HOW := Lib.hid hown; clear hgr hown hat; have RQ := Lib.hid (RV.out.below (HG.out.mono (Nat.le_refl _)) R4.out.lt); have rq := RQ.out.cell 3; have fq := RQ.out.frozen 3; have BQ0 := Lib.hid (B3.out.trans ((BV0.out.trans HG.out).mono B3.out.size)); have kq := (((RB1.out.below BQ0.out RB1.out.lt).far (p := ⟨g4, 3, none⟩) NE4.out (.slice S0 (1 + nS) cs0)).alloc (.cells ([.int .i64 0] : List Value).toArray 2)).cell 0))
      clear rq fq kq OW0 HLEN HCL HON HRM HBSE RV
      obtain ⟨m5, hm5⟩ : ∃ m, m = (rpS nS).length := ⟨_, rfl⟩
      have hm5' : 1 + nS = m5 := by rw [hm5, rpS_len]; omega
      have how0 : q0.ownsRow x3.heap.size 2 1 (.slice S0 m5 cs0) m5 (iv (rpS nS)) := by
        have := HOW.out
        rw [hm5'] at this; exact this
      simp only [hm5']
      have HM5 := Lib.hid hm5; have HM5' := Lib.hid hm5'
      obtain ⟨x4, hx4⟩ : ∃ x, x = q0.setCell ⟨g4, 3, none⟩ (.slice S0 m5 cs0) := ⟨_, rfl⟩
      have R5 := RQ.out.set_ 3 (.slice S0 m5 cs0)
      have B5 : Below w1.heap.size w1 (q0.setCell ⟨g4, 3, none⟩ (.slice S0 m5 cs0)) := BQ0.out.setCell (p := ⟨g4, 3, none⟩) G1.out _
      have OS4 : (q0.setCell ⟨g4, 3, none⟩ (.slice S0 m5 cs0)).ownsRow x3.heap.size 2 1 (.slice S0 m5 cs0) m5 (iv (rpS nS)) := own_move how0 (fun g hg => Below.heap_setCell _ _ _ _ (by have := (how0.lt g hg).1; have := R4.out.lt; show g ≠ g4; omega))
      have OA4 : (q0.setCell ⟨g4, 3, none⟩ (.slice S0 m5 cs0)).ownsRow w1.heap.size 78 4 (.slice AA L.length cA) L.length (fa (L.map (mvA 1))) := own_move OA.out (fun g hg => (Below.heap_setCell _ _ _ _ (DA.out g hg)).trans ((BV0.out.trans HG.out).block g (OA.out.lt g hg).2))
      rw [← hx4] at R5 B5 OS4 OA4 ⊢
      have hs4 : q0.heap.size = x4.heap.size := by rw [hx4]; simp
      rw [hs4]
      have S34 : Hid (x3.heap.size ≤ x4.heap.size) := by show _ ≤ _; rw [← hs4]; exact (BV0.out.trans HG.out).size
      clear hs4
      have R5 := Lib.hid R5; have B5 := Lib.hid B5; have OS4 := Lib.hid OS4; have OA4 := Lib.hid OA4
      clear hx4 hm5 hm5' how0 HOW HG
      have RW1 := Lib.hid (Row.new x4 2 [.int .i64 0])
      have BA1 : Hid (Below w1.heap.size w1 (x4.alloc (.cells ([.int .i64 0] : List Value).toArray 2))) := B5.out.alloc B5.out.size _
      change Calls _ _ _ (x4.alloc (.cells ([.int .i64 0] : List Value).toArray 2)) _
      have hsa : (x4.alloc (.cells ([.int .i64 0] : List Value).toArray 2)).heap.size = x4.heap.size + 1 := by simp
      refine (sNone_any nS _ (by omega)).mono ?_
      rintro e v1 ⟨N1, cn1, rfl, hr, hb⟩
      rw [hsa] at hr hb
      obtain ⟨gn1, cn, hv, _, hgn, hln, hcn⟩ := RowI.form hr (by simp; omega)
      injection hv with e1 e2 e3
      clear e2 e3
      subst e1
      have BV1 : Hid (Below x4.heap.size x4 v1) := ((Below.refl _ _).alloc (Nat.le_refl _) _).trans (hb.mono (by omega))
      have OW0 : Hid (v1.ownsRow x4.heap.size 2 1 (.slice (some ⟨x4.heap.size, 0, none⟩) 1 1) 1 [.int .i64 0]) := own_row (RW1.out.below hb (by omega)) (Nat.le_refl _) rfl (by unfold maxLen; omega)
      have HLEN : Hid ((iv (List.replicate nS (-1))).length = nS * 1) := by show _ = _; simp [iv]
      have HCL : Hid (∀ j u, (iv (List.replicate nS (-1)))[j]? = some u → v1.cell? ⟨gn1, 0 + j, none⟩ = some u) := fun j u hu => by
        obtain ⟨y, hy, rfl⟩ := iv_get hu
        rw [Nat.zero_add]; exact hcn j y hy
      have HON : Hid (∀ u ∈ iv (List.replicate nS (-1)), u.oneCell' = true) := fun u hu => by
        simp only [iv, List.mem_map] at hu; obtain ⟨y, -, rfl⟩ := hu; rfl
      have HRM : Hid (1 + nS ≤ 4294967296) := by show _ ≤ _; omega
      have HBSE : Hid (x4.heap.size ≤ v1.heap.size) := BV1.out.size
      clear hr hb hgn hln hcn hsa RW1 BA1
      dsimp only
      have RV := Lib.hid (Row.below R5.out BV1.out R5.out.lt)
      go_wp2_with (first | (at_builtin; refine wpList_cells_push rfl (.tmp 25) (.tmp 28) _ rfl x4.heap.size 2 (.int .i64 0) 1 8 Try.underlying23 infoQ rfl (by omega) (by omega) (.slice (some ⟨x4.heap.size, 0, none⟩) 1 1) 1 [.int .i64 0] rfl OW0.out gn1 0 nS _ (iv (List.replicate nS (-1))) rfl HLEN.out HCL.out HON.out HRM.out HBSE.out ?_; intro v' q1 hown hgr hat; obtain ⟨S1, cs1, hv', _, _⟩ := own_form hown; subst hv'; have HG := Lib.hid (grown_below' OW0.out hgr HBSE.out); have HOW := Lib.hid hown; clear hgr hown hat; have RQ := Lib.hid (RV.out.below (HG.out.mono (Nat.le_refl _)) R5.out.lt); have rq := RQ.out.cell 4; have fq := RQ.out.frozen 4; have BQ1 := Lib.hid (B5.out.trans ((BV1.out.trans HG.out).mono B5.out.size)); have kq := (((RB1.out.below BQ1.out RB1.out.lt).far (p := ⟨g4, 4, none⟩) NE4.out (.slice S1 (1 + nS) cs1)).alloc (.cells ([.int .i64 0] : List Value).toArray 2)).cell 0))
      clear rq fq kq OW0 HLEN HCL HON HRM HBSE RV
      have how1 : q1.ownsRow x4.heap.size 2 1 (.slice S1 m5 cs1) m5 (iv (rpS nS)) := by
        have := HOW.out
        rw [HM5'.out] at this; exact this
      simp only [HM5'.out]
      obtain ⟨x5, hx5⟩ : ∃ x, x = (q1.setCell ⟨g4, 4, none⟩ (.slice S1 m5 cs1)) := ⟨_, rfl⟩
      have R6 := RQ.out.set_ 4 (.slice S1 m5 cs1)
      have B6 : Below w1.heap.size w1 (q1.setCell ⟨g4, 4, none⟩ (.slice S1 m5 cs1)) := BQ1.out.setCell (p := ⟨g4, 4, none⟩) G1.out _
      have OE5 : (q1.setCell ⟨g4, 4, none⟩ (.slice S1 m5 cs1)).ownsRow x4.heap.size 2 1 (.slice S1 m5 cs1) m5 (iv (rpS nS)) := own_move how1 (fun g hg => Below.heap_setCell _ _ _ _ (by have := (how1.lt g hg).1; have := R5.out.lt; show g ≠ g4; omega))
      have OS5 : (q1.setCell ⟨g4, 4, none⟩ (.slice S1 m5 cs1)).ownsRow x3.heap.size 2 1 (.slice S0 m5 cs0) m5 (iv (rpS nS)) := own_move OS4.out (fun g hg => (Below.heap_setCell _ _ _ _ (by have := (OS4.out.lt g hg).1; have := R4.out.lt; show g ≠ g4; omega)).trans ((BV1.out.trans HG.out).block g (OS4.out.lt g hg).2))
      have OA5 : (q1.setCell ⟨g4, 4, none⟩ (.slice S1 m5 cs1)).ownsRow w1.heap.size 78 4 (.slice AA L.length cA) L.length (fa (L.map (mvA 1))) := own_move OA4.out (fun g hg => (Below.heap_setCell _ _ _ _ (DA.out g hg)).trans ((BV1.out.trans HG.out).block g (OA4.out.lt g hg).2))
      rw [← hx5] at R6 B6 OE5 OS5 OA5 ⊢
      have R6 := Lib.hid R6; have B6 := Lib.hid B6; have OE5 := Lib.hid OE5; have OS5 := Lib.hid OS5; have OA5 := Lib.hid OA5
      clear hx5 how1 HOW HG RQ
      have HSE : Hid (∀ k', (Value.slice S0 m5 cs0).ownBlock = some k' → (Value.slice S1 m5 cs1).ownBlock ≠ some k') := fun k' h1 h2 => by
        have := (OS4.out.lt k' h1).2; have := (OE5.out.lt k' h2).1; omega
      go_loopg [5] nS (fun q i wr => ∃ (k n : Nat) (A : Option Addr) (c : Nat), i = .int .i64 k ∧ k ≤ nS ∧ nS ≤ q + k ∧ Hid (n = (rq1 L P k).length) ∧ Hid (wr.ownsRow w1.heap.size 78 4 (.slice A n c) n (fa (rq1 L P k))) ∧ Hid (Row wr g4 29 [.int .i64 ((nS : Int) + 1), .int .i64 T, .slice A n c, .slice S0 m5 cs0, .slice S1 m5 cs1]) ∧ Hid (Below w1.heap.size w1 wr) ∧ Hid (wr.ownsRow x3.heap.size 2 1 (.slice S0 m5 cs0) m5 (iv (rpS nS))) ∧ Hid (wr.ownsRow x4.heap.size 2 1 (.slice S1 m5 cs1) m5 (iv (rpS nS))) ∧ Hid (∀ k', (Value.slice A n c).ownBlock = some k' → k' ≠ g4 ∧ (Value.slice S0 m5 cs0).ownBlock ≠ some k' ∧ (Value.slice S1 m5 cs1).ownBlock ≠ some k'))
      case atStart =>
        refine ⟨0, L.length, AA, cA, rfl, by omega, by omega, by show _ = _; rw [rq1_zero, List.length_map], by show World.ownsRow _ _ _ _ _ _ _; rw [rq1_zero]; exact OA5.out, R6.out, B6.out, OS5.out, OE5.out, fun k' hk' => ⟨DA.out k' hk', fun h => ?_, fun h => ?_⟩⟩
        · have := (OA.out.lt k' hk').2; have := (OS5.out.lt k' h).1; omega
        · have := (OA.out.lt k' hk').2; have := (OE5.out.lt k' h).1; have := S34.out; omega
      case round =>
        obtain ⟨k, n, A, c, rfl, hk, hm, HN, HO, HR, HB, HS, HE, HD⟩ := hrel
        have hnb : n ≤ 1000 := by rw [HN.out]; have := rq1_len (L := L) (P := P) k; omega
        have HBw := Lib.hid (BX1.out.trans (HB.out.mono BX1.out.size))
        have kb := RB1.out.below HB.out RB1.out.lt
        have k0 := kb.cell 0; have k3 := kb.cell 3
        clear kb
        by_cases hlt : k < nS
        · have HAT := (H3.out.below HBw.out (Nat.le_refl _)).at_ (show k < P.length by rw [QP1.out]; exact hlt)
          obtain ⟨b, off, x, hA, hbB, hx, kc⟩ := HAT
          cases hA
          have l0 : (0 : Int) ≤ (k : Int) := by omega
          have l1 : (k : Int) < (nS : Int) := by omega
          have lP : (k : Int) < (P.length : Int) := by have := QP1.out; omega
          have hxr := QP.out x (List.mem_of_getElem? hx.out)
          have HST := Lib.hid (rq1_step (L := L) hx.out)
          by_cases hp : 0 ≤ x
          · have HST2 : Hid (rq1 L P (k + 1) = rq1 L P k ++ [(0, (k : Int) + 1, -1, x)]) := by show _ = _; rw [rq1_pos HST.out hp]
            go_wp2_with fail
            have kcell : Hid ((iv P)[k]? = some (.int .i64 x)) := by show _ = _; simp [iv, hx.out]
            have hcells : Hid (∀ y : World, Below w1.heap.size wr y → (y.cell? ⟨w.heap.size, 3, none⟩ = some (.slice (some ⟨b, off, none⟩) P.length c3) ∧ y.cell? ⟨b, off + k, none⟩ = some (.int .i64 x))) := by
              intro y hy
              have r := (RB1.out.below HB.out RB1.out.lt).below hy RB1.out.lt
              exact ⟨r.cell 3, SlV.cells (SlI.below H3.out (HBw.out.trans (hy.mono BX1.out.size)) (Nat.le_refl _)) k _ kcell.out⟩
            have RA := Lib.hid (HR.out.alloc (.cells ([.int .i64 0, .int .i64 ((k : Int) + 1), .int .i64 (-1), .int .i64 x] : List Value).toArray 78))
            have OWN : Hid (((wr.alloc (.cells ([.int .i64 0, .int .i64 ((k : Int) + 1), .int .i64 (-1), .int .i64 x] : List Value).toArray 78)).drew).ownsRow w1.heap.size 78 4 (.slice A n c) n (fa (rq1 L P k))) := HO.out.alloc _
            have CELLS : Hid (∀ j u, ([.int .i64 0, .int .i64 ((k : Int) + 1), .int .i64 (-1), .int .i64 x] : List Value)[j]? = some u → ((wr.alloc (.cells ([.int .i64 0, .int .i64 ((k : Int) + 1), .int .i64 (-1), .int .i64 x] : List Value).toArray 78)).drew).cell? ⟨wr.heap.size, 0 + j, none⟩ = some u) := fun j u hu => by
              rw [Nat.zero_add]; exact ((Row.new wr 78 [.int .i64 0, .int .i64 ((k : Int) + 1), .int .i64 (-1), .int .i64 x]).cell j).trans hu
            have LEN : Hid (([.int .i64 0, .int .i64 ((k : Int) + 1), .int .i64 (-1), .int .i64 x] : List Value).length = 1 * 4) := rfl
            have ONE : Hid (∀ u ∈ ([.int .i64 0, .int .i64 ((k : Int) + 1), .int .i64 (-1), .int .i64 x] : List Value), u.oneCell' = true) := fa_one [(0, (k : Int) + 1, -1, x)]
            have ROOM : Hid (n + 1 ≤ 4294967296) := by show _ ≤ _; omega
            have BASE : Hid (w1.heap.size ≤ ((wr.alloc (.cells ([.int .i64 0, .int .i64 ((k : Int) + 1), .int .i64 (-1), .int .i64 x] : List Value).toArray 78)).drew).heap.size) := Nat.le_trans HB.out.size (by simp)
            have HBA : Hid (Below w1.heap.size w1 ((wr.alloc (.cells ([.int .i64 0, .int .i64 ((k : Int) + 1), .int .i64 (-1), .int .i64 x] : List Value).toArray 78)).drew)) := Below.drew (HB.out.alloc HB.out.size _)
            have P04 : 0 < 4 := by omega
            have P3232 : 32 ≤ 32 := by omega
            have HNE : Hid (some g4 ≠ (Value.slice A n c).ownBlock) := fun e => (HD.out g4 e.symm).1 rfl
            have wl : g4 < wr.heap.size := HR.out.lt
            have wk : IntKind.i64.wrap ((k : Int) + 1) = (k : Int) + 1 := IntWalk.i64_in _ (by omega)
            have cA2 : (wr.alloc (.cells ([.int .i64 0, .int .i64 ((k : Int) + 1), .int .i64 (-1), .int .i64 x] : List Value).toArray 78)).cell? ⟨g4, 2, none⟩ = some (.slice A n c) := RA.out.cell 2
            have cW := hcells.out wr (Below.refl _ _)
            have cWA := hcells.out (wr.alloc (.cells ([.int .i64 0, .int .i64 ((k : Int) + 1), .int .i64 (-1), .int .i64 x] : List Value).toArray 78)) ((Below.refl _ _).alloc HB.out.size _)
            obtain ⟨e1, e2⟩ := cW
            obtain ⟨e3, e4⟩ := cWA
            have e5 : wr.cell? ⟨g4, 2, none⟩ = some (.slice A n c) := HR.out.cell 2
            go_region_law (refine step_cells_push rfl (.tmp 44) (.tmp 53) _ rfl w1.heap.size 78 (.agg #[.int .i64 0, .int .i64 0, .int .i64 0, .int .i64 0]) 4 32 Try.underlying27 infoAr rfl P04 P3232 (.slice A n c) n (fa (rq1 L P k)) ?_ OWN.out wr.heap.size 0 1 1 [.int .i64 0, .int .i64 ((k : Int) + 1), .int .i64 (-1), .int .i64 x] ?_ LEN.out CELLS.out ONE.out ROOM.out BASE.out ?_; rfl; rfl; intro A' c' wz hvE hgr hbl hat; have hrz := Row.grown (Row.drew RA.out) hgr HNE.out; have rz := hrz.cell 2; have fz := hrz.frozen 2; have HRZ := Lib.hid hrz; clear hrz; have HvE := Lib.hid hvE; have HGR := Lib.hid hgr; have HAT := Lib.hid hat; have HBL := Lib.hid hbl; clear hvE hgr hat hbl)
            all_goals
              clear e1 e2 e3 e4 e5 cA2 wk
              go_wp2_with fail
              go_roundg (gk - 1)
              case measure => omega
              case rel =>
                have hsz : (wr.alloc (.cells ([.int .i64 0, .int .i64 ((k : Int) + 1), .int .i64 (-1), .int .i64 x] : List Value).toArray 78)).drew.heap.size = wr.heap.size + 1 := by simp
                have nb : ∀ k', (Value.slice A' (n + 1) c').ownBlock = some k' → k' ≠ g4 ∧ (Value.slice S0 m5 cs0).ownBlock ≠ some k' ∧ (Value.slice S1 m5 cs1).ownBlock ≠ some k' := fun k' hk' => by
                  rcases HAT.out with h | h
                  · exact HD.out k' (by rw [← h]; exact hk')
                  · rw [hk', hsz] at h
                    have h := Option.some.inj h
                    refine ⟨by omega, fun h2 => ?_, fun h2 => ?_⟩
                    · have := (HS.out.lt k' h2).2; omega
                    · have := (HE.out.lt k' h2).2; omega
                refine ⟨k + 1, n + 1, A', c', by go_num, by omega, by omega, ?_, ?_, HRZ.out.set_ 2 _, (HBA.out.trans HBL.out).setCell (p := ⟨g4, 2, none⟩) G1.out _, ?_, ?_, nb⟩
                · show _ = _; rw [HST2.out, List.length_append, ← HN.out]; rfl
                · show World.ownsRow _ _ _ _ _ _ _
                  rw [HST2.out, fa_append]
                  exact own_move HvE.out (fun g hg => Below.heap_setCell _ _ _ _ (nb g hg).1)
                · exact own_move HS.out (fun g hg => (Below.heap_setCell _ _ _ _ (by have := (HS.out.lt g hg).1; have := R4.out.lt; show g ≠ g4; omega)).trans ((HGR.out.block g (by rw [hsz]; have := (HS.out.lt g hg).2; omega) (fun e => (HD.out g e.symm).2.1 hg)).trans (Below.heap_alloc _ _ _ (HS.out.lt g hg).2)))
                · exact own_move HE.out (fun g hg => (Below.heap_setCell _ _ _ _ (by have := (HE.out.lt g hg).1; have := R4.out.lt; have := S34.out; show g ≠ g4; omega)).trans ((HGR.out.block g (by rw [hsz]; have := (HE.out.lt g hg).2; omega) (fun e => (HD.out g e.symm).2.2 hg)).trans (Below.heap_alloc _ _ _ (HE.out.lt g hg).2)))
          · have HST2 : Hid (rq1 L P (k + 1) = rq1 L P k) := by show _ = _; rw [rq1_neg HST.out hp]
            go_wp2_with fail
            go_roundg (gk - 1)
            case measure => omega
            case rel =>
              refine ⟨k + 1, n, A, c, by go_num, by omega, by omega, ?_, ?_, HR.out, HB.out, HS.out, HE.out, HD.out⟩
              · show _ = _; rw [HST2.out]; exact HN.out
              · show World.ownsRow _ _ _ _ _ _ _; rw [HST2.out]; exact HO.out
        · obtain rfl : nS = k := by omega
          have HN2 : Hid (n = (rq2 L P E 0).length) := by show _ = _; rw [rq2_zero, QP1.out]; exact HN.out
          have HO2 : Hid (wr.ownsRow w1.heap.size 78 4 (.slice A n c) n (fa (rq2 L P E 0))) := by show World.ownsRow _ _ _ _ _ _ _; rw [rq2_zero, QP1.out]; exact HO.out
          clear HN HO k3
          go_wp2_with fail
          clear k0
          go_loopg [6] nS (fun q i wr => ∃ (k n : Nat) (A : Option Addr) (c : Nat), i = .int .i64 k ∧ k ≤ nS ∧ nS ≤ q + k ∧ Hid (n = (rq2 L P E k).length) ∧ Hid (wr.ownsRow w1.heap.size 78 4 (.slice A n c) n (fa (rq2 L P E k))) ∧ Hid (Row wr g4 29 [.int .i64 ((nS : Int) + 1), .int .i64 T, .slice A n c, .slice S0 m5 cs0, .slice S1 m5 cs1]) ∧ Hid (Below w1.heap.size w1 wr) ∧ Hid (wr.ownsRow x3.heap.size 2 1 (.slice S0 m5 cs0) m5 (iv (rpS nS))) ∧ Hid (wr.ownsRow x4.heap.size 2 1 (.slice S1 m5 cs1) m5 (iv (rpS nS))) ∧ Hid (∀ k', (Value.slice A n c).ownBlock = some k' → k' ≠ g4 ∧ (Value.slice S0 m5 cs0).ownBlock ≠ some k' ∧ (Value.slice S1 m5 cs1).ownBlock ≠ some k'))
          case atStart => exact ⟨0, n, A, c, rfl, by omega, by omega, HN2.out, HO2.out, HR.out, HB.out, HS.out, HE.out, HD.out⟩
          case round =>
            obtain ⟨k, n, A, c, rfl, hk, hm, HN, HO, HR, HB, HS, HE, HD⟩ := hrel
            have hnb : n ≤ 1000 := by rw [HN.out]; have := rq2_len (L := L) (P := P) (E := E) k; omega
            have HBw := Lib.hid (BX1.out.trans (HB.out.mono BX1.out.size))
            have kb := RB1.out.below HB.out RB1.out.lt
            have k0 := kb.cell 0; have k3 := kb.cell 4
            clear kb
            by_cases hlt : k < nS
            · have HAT := (H4.out.below HBw.out (Nat.le_refl _)).at_ (show k < E.length by rw [QE1.out]; exact hlt)
              obtain ⟨b, off, x, hA, hbB, hx, kc⟩ := HAT
              cases hA
              have l0 : (0 : Int) ≤ (k : Int) := by omega
              have l1 : (k : Int) < (nS : Int) := by omega
              have lP : (k : Int) < (E.length : Int) := by have := QE1.out; omega
              have hxr := QE.out x (List.mem_of_getElem? hx.out)
              have HST := Lib.hid (rq2_step (L := L) (P := P) hx.out)
              by_cases hp : 0 ≤ x
              · have HST2 : Hid (rq2 L P E (k + 1) = rq2 L P E k ++ [((k : Int) + 1, 0, -1, x)]) := by show _ = _; rw [rq2_pos HST.out hp]
                go_wp2_with fail
                have kcell : Hid ((iv E)[k]? = some (.int .i64 x)) := by show _ = _; simp [iv, hx.out]
                have hcells : Hid (∀ y : World, Below w1.heap.size wr y → (y.cell? ⟨w.heap.size, 4, none⟩ = some (.slice (some ⟨b, off, none⟩) E.length c4) ∧ y.cell? ⟨b, off + k, none⟩ = some (.int .i64 x))) := by
                  intro y hy
                  have r := (RB1.out.below HB.out RB1.out.lt).below hy RB1.out.lt
                  exact ⟨r.cell 4, SlV.cells (SlI.below H4.out (HBw.out.trans (hy.mono BX1.out.size)) (Nat.le_refl _)) k _ kcell.out⟩
                have RA := Lib.hid (HR.out.alloc (.cells ([.int .i64 ((k : Int) + 1), .int .i64 0, .int .i64 (-1), .int .i64 x] : List Value).toArray 78))
                have OWN : Hid (((wr.alloc (.cells ([.int .i64 ((k : Int) + 1), .int .i64 0, .int .i64 (-1), .int .i64 x] : List Value).toArray 78)).drew).ownsRow w1.heap.size 78 4 (.slice A n c) n (fa (rq2 L P E k))) := HO.out.alloc _
                have CELLS : Hid (∀ j u, ([.int .i64 ((k : Int) + 1), .int .i64 0, .int .i64 (-1), .int .i64 x] : List Value)[j]? = some u → ((wr.alloc (.cells ([.int .i64 ((k : Int) + 1), .int .i64 0, .int .i64 (-1), .int .i64 x] : List Value).toArray 78)).drew).cell? ⟨wr.heap.size, 0 + j, none⟩ = some u) := fun j u hu => by
                  rw [Nat.zero_add]; exact ((Row.new wr 78 [.int .i64 ((k : Int) + 1), .int .i64 0, .int .i64 (-1), .int .i64 x]).cell j).trans hu
                have LEN : Hid (([.int .i64 ((k : Int) + 1), .int .i64 0, .int .i64 (-1), .int .i64 x] : List Value).length = 1 * 4) := rfl
                have ONE : Hid (∀ u ∈ ([.int .i64 ((k : Int) + 1), .int .i64 0, .int .i64 (-1), .int .i64 x] : List Value), u.oneCell' = true) := fa_one [((k : Int) + 1, 0, -1, x)]
                have ROOM : Hid (n + 1 ≤ 4294967296) := by show _ ≤ _; omega
                have BASE : Hid (w1.heap.size ≤ ((wr.alloc (.cells ([.int .i64 ((k : Int) + 1), .int .i64 0, .int .i64 (-1), .int .i64 x] : List Value).toArray 78)).drew).heap.size) := Nat.le_trans HB.out.size (by simp)
                have HBA : Hid (Below w1.heap.size w1 ((wr.alloc (.cells ([.int .i64 ((k : Int) + 1), .int .i64 0, .int .i64 (-1), .int .i64 x] : List Value).toArray 78)).drew)) := Below.drew (HB.out.alloc HB.out.size _)
                have P04 : 0 < 4 := by omega
                have P3232 : 32 ≤ 32 := by omega
                have HNE : Hid (some g4 ≠ (Value.slice A n c).ownBlock) := fun e => (HD.out g4 e.symm).1 rfl
                have wl : g4 < wr.heap.size := HR.out.lt
                have wk : IntKind.i64.wrap ((k : Int) + 1) = (k : Int) + 1 := IntWalk.i64_in _ (by omega)
                have cA2 : (wr.alloc (.cells ([.int .i64 ((k : Int) + 1), .int .i64 0, .int .i64 (-1), .int .i64 x] : List Value).toArray 78)).cell? ⟨g4, 2, none⟩ = some (.slice A n c) := RA.out.cell 2
                have cW := hcells.out wr (Below.refl _ _)
                have cWA := hcells.out (wr.alloc (.cells ([.int .i64 ((k : Int) + 1), .int .i64 0, .int .i64 (-1), .int .i64 x] : List Value).toArray 78)) ((Below.refl _ _).alloc HB.out.size _)
                obtain ⟨e1, e2⟩ := cW
                obtain ⟨e3, e4⟩ := cWA
                have e5 : wr.cell? ⟨g4, 2, none⟩ = some (.slice A n c) := HR.out.cell 2
                go_region_law (refine step_cells_push rfl (.tmp 69) (.tmp 78) _ rfl w1.heap.size 78 (.agg #[.int .i64 0, .int .i64 0, .int .i64 0, .int .i64 0]) 4 32 Try.underlying27 infoAr rfl P04 P3232 (.slice A n c) n (fa (rq2 L P E k)) ?_ OWN.out wr.heap.size 0 1 1 [.int .i64 ((k : Int) + 1), .int .i64 0, .int .i64 (-1), .int .i64 x] ?_ LEN.out CELLS.out ONE.out ROOM.out BASE.out ?_; rfl; rfl; intro A' c' wz hvE hgr hbl hat; have hrz := Row.grown (Row.drew RA.out) hgr HNE.out; have rz := hrz.cell 2; have fz := hrz.frozen 2; have HRZ := Lib.hid hrz; clear hrz; have HvE := Lib.hid hvE; have HGR := Lib.hid hgr; have HAT := Lib.hid hat; have HBL := Lib.hid hbl; clear hvE hgr hat hbl)
                all_goals
                  clear e1 e2 e3 e4 e5 cA2 wk
                  go_wp2_with fail
                  go_roundg (gk - 1)
                  case measure => omega
                  case rel =>
                    have hsz : (wr.alloc (.cells ([.int .i64 ((k : Int) + 1), .int .i64 0, .int .i64 (-1), .int .i64 x] : List Value).toArray 78)).drew.heap.size = wr.heap.size + 1 := by simp
                    have nb : ∀ k', (Value.slice A' (n + 1) c').ownBlock = some k' → k' ≠ g4 ∧ (Value.slice S0 m5 cs0).ownBlock ≠ some k' ∧ (Value.slice S1 m5 cs1).ownBlock ≠ some k' := fun k' hk' => by
                      rcases HAT.out with h | h
                      · exact HD.out k' (by rw [← h]; exact hk')
                      · rw [hk', hsz] at h
                        have h := Option.some.inj h
                        refine ⟨by omega, fun h2 => ?_, fun h2 => ?_⟩
                        · have := (HS.out.lt k' h2).2; omega
                        · have := (HE.out.lt k' h2).2; omega
                    refine ⟨k + 1, n + 1, A', c', by go_num, by omega, by omega, ?_, ?_, HRZ.out.set_ 2 _, (HBA.out.trans HBL.out).setCell (p := ⟨g4, 2, none⟩) G1.out _, ?_, ?_, nb⟩
                    · show _ = _; rw [HST2.out, List.length_append, ← HN.out]; rfl
                    · show World.ownsRow _ _ _ _ _ _ _
                      rw [HST2.out, fa_append]
                      exact own_move HvE.out (fun g hg => Below.heap_setCell _ _ _ _ (nb g hg).1)
                    · exact own_move HS.out (fun g hg => (Below.heap_setCell _ _ _ _ (by have := (HS.out.lt g hg).1; have := R4.out.lt; show g ≠ g4; omega)).trans ((HGR.out.block g (by rw [hsz]; have := (HS.out.lt g hg).2; omega) (fun e => (HD.out g e.symm).2.1 hg)).trans (Below.heap_alloc _ _ _ (HS.out.lt g hg).2)))
                    · exact own_move HE.out (fun g hg => (Below.heap_setCell _ _ _ _ (by have := (HE.out.lt g hg).1; have := R4.out.lt; have := S34.out; show g ≠ g4; omega)).trans ((HGR.out.block g (by rw [hsz]; have := (HE.out.lt g hg).2; omega) (fun e => (HD.out g e.symm).2.2 hg)).trans (Below.heap_alloc _ _ _ (HE.out.lt g hg).2)))
              · have HST2 : Hid (rq2 L P E (k + 1) = rq2 L P E k) := by show _ = _; rw [rq2_neg HST.out hp]
                go_wp2_with fail
                go_roundg (gk - 1)
                case measure => omega
                case rel =>
                  refine ⟨k + 1, n, A, c, by go_num, by omega, by omega, ?_, ?_, HR.out, HB.out, HS.out, HE.out, HD.out⟩
                  · show _ = _; rw [HST2.out]; exact HN.out
                  · show World.ownsRow _ _ _ _ _ _ _; rw [HST2.out]; exact HO.out
            · obtain rfl : nS = k := by omega
              have RRr := RR1.out.below HB.out RR1.out.lt
              have hnG : g4 ≠ w.heap.size + 1 := by have := SZ1.out; have := G1.out; omega

              have C := Lib.hid (sGiveG w1.heap.size (nS + 1) T (rpA L P E) (rpS nS) (rpS nS) A n c S0 m5 cs0 S1 m5 cs1 wr (by have := HO.out; rw [← QE1.out] at this; exact this) (World.ownsRow.mono HS.out (by have := B3.out.size; omega)) (World.ownsRow.mono HE.out (by have := B3.out.size; have := S34.out; omega)) (by rw [HN.out, ← QE1.out]; rfl) HM5.out.symm HM5.out.symm (by omega) (by have := HM5.out; rw [rpS_len] at this; omega) (by have := HM5.out; rw [rpS_len] at this; omega))
              have RRR := Lib.hid RRr; clear RRr
              have r0 := HR.out.cell 0; have r1 := HR.out.cell 1; have r2 := HR.out.cell 2; have r3 := HR.out.cell 3; have r4 := HR.out.cell 4
              go_wp2_with fail
              clear k0 k3
              refine C.out.mono ?_
              rintro e wy ⟨ok2, hok2, rfl, hby⟩
              have RRY := Lib.hid (RRR.out.below hby RRR.out.lt)
              have HOK2 := Lib.hid hok2; clear hok2
              clear r0 r1 r2 r3 r4
              have y0 := RRY.out.cell 0; have y1 := RRY.out.cell 1; have y2 := RRY.out.cell 2; have y3 := RRY.out.cell 3; have y4 := RRY.out.cell 4; have f0 := RRY.out.frozen 0; have f1 := RRY.out.frozen 1; have f2 := RRY.out.frozen 2; have f3 := RRY.out.frozen 3; have f4 := RRY.out.frozen 4
              go_wp2_with fail
              clear y0 f0 y1 f1 y2 f2 y3 f3 y4 f4
              have hF := (((((RRY.out.set_ 0 (.int .i64 (ckI ok2 (nS + 1)))).set_ 1 (.int .i64 (ckI ok2 T))).set_ 2 (.slice (ckA ok2 A) (ckN ok2 n) (ckN ok2 c))).set_ 3 (.slice (ckA ok2 S0) (ckN ok2 m5) (ckN ok2 cs0))).set_ 4 (.slice (ckA ok2 S1) (ckN ok2 m5) (ckN ok2 cs1)))
              have hBF : Below w.heap.size w (((((wy.setCell ⟨w.heap.size + 1, 0, none⟩ (.int .i64 (ckI ok2 (nS + 1)))).setCell ⟨w.heap.size + 1, 1, none⟩ (.int .i64 (ckI ok2 T))).setCell ⟨w.heap.size + 1, 2, none⟩ (.slice (ckA ok2 A) (ckN ok2 n) (ckN ok2 c))).setCell ⟨w.heap.size + 1, 3, none⟩ (.slice (ckA ok2 S0) (ckN ok2 m5) (ckN ok2 cs0))).setCell ⟨w.heap.size + 1, 4, none⟩ (.slice (ckA ok2 S1) (ckN ok2 m5) (ckN ok2 cs1))) := (((((((BX1.out.trans (HB.out.mono BX1.out.size)).trans (hby.mono (BX1.out.trans (HB.out.mono BX1.out.size)).size)).setCell (p := ⟨w.heap.size + 1, 0, none⟩) (show w.heap.size ≤ w.heap.size + 1 by omega) (.int .i64 (ckI ok2 (nS + 1)))).setCell (p := ⟨w.heap.size + 1, 1, none⟩) (show w.heap.size ≤ w.heap.size + 1 by omega) (.int .i64 (ckI ok2 T))).setCell (p := ⟨w.heap.size + 1, 2, none⟩) (show w.heap.size ≤ w.heap.size + 1 by omega) (.slice (ckA ok2 A) (ckN ok2 n) (ckN ok2 c))).setCell (p := ⟨w.heap.size + 1, 3, none⟩) (show w.heap.size ≤ w.heap.size + 1 by omega) (.slice (ckA ok2 S0) (ckN ok2 m5) (ckN ok2 cs0))).setCell (p := ⟨w.heap.size + 1, 4, none⟩) (show w.heap.size ≤ w.heap.size + 1 by omega) (.slice (ckA ok2 S1) (ckN ok2 m5) (ckN ok2 cs1)))
              have hkp : ∀ g, g < wr.heap.size → g ≠ w.heap.size + 1 → (((((wy.setCell ⟨w.heap.size + 1, 0, none⟩ (.int .i64 (ckI ok2 (nS + 1)))).setCell ⟨w.heap.size + 1, 1, none⟩ (.int .i64 (ckI ok2 T))).setCell ⟨w.heap.size + 1, 2, none⟩ (.slice (ckA ok2 A) (ckN ok2 n) (ckN ok2 c))).setCell ⟨w.heap.size + 1, 3, none⟩ (.slice (ckA ok2 S0) (ckN ok2 m5) (ckN ok2 cs0))).setCell ⟨w.heap.size + 1, 4, none⟩ (.slice (ckA ok2 S1) (ckN ok2 m5) (ckN ok2 cs1))).heap[g]? = wr.heap[g]? := fun g h1 h2 => (heap_set5 _ _ _ _ _ h2).trans (hby.block g h1)
              have hsF : wr.heap.size ≤ (((((wy.setCell ⟨w.heap.size + 1, 0, none⟩ (.int .i64 (ckI ok2 (nS + 1)))).setCell ⟨w.heap.size + 1, 1, none⟩ (.int .i64 (ckI ok2 T))).setCell ⟨w.heap.size + 1, 2, none⟩ (.slice (ckA ok2 A) (ckN ok2 n) (ckN ok2 c))).setCell ⟨w.heap.size + 1, 3, none⟩ (.slice (ckA ok2 S0) (ckN ok2 m5) (ckN ok2 cs0))).setCell ⟨w.heap.size + 1, 4, none⟩ (.slice (ckA ok2 S1) (ckN ok2 m5) (ckN ok2 cs1))).heap.size := by have := hby.size; simpa using this
              refine bodyPost_ret (results_cell2 rfl _ _ (w.heap.size + 1) 29 #[.int .i64 (ckI ok2 (nS + 1)), .int .i64 (ckI ok2 T), .slice (ckA ok2 A) (ckN ok2 n) (ckN ok2 c), .slice (ckA ok2 S0) (ckN ok2 m5) (ckN ok2 cs0), .slice (ckA ok2 S1) (ckN ok2 m5) (ckN ok2 cs1)] (0, 0) _ (.bool ok2) rfl rfl hF Try.underlying29 rfl (by kernel_rfl)) rfl ?_
              obtain ⟨F, hFF⟩ : ∃ F, F = (((((wy.setCell ⟨w.heap.size + 1, 0, none⟩ (.int .i64 (ckI ok2 (nS + 1)))).setCell ⟨w.heap.size + 1, 1, none⟩ (.int .i64 (ckI ok2 T))).setCell ⟨w.heap.size + 1, 2, none⟩ (.slice (ckA ok2 A) (ckN ok2 n) (ckN ok2 c))).setCell ⟨w.heap.size + 1, 3, none⟩ (.slice (ckA ok2 S0) (ckN ok2 m5) (ckN ok2 cs0))).setCell ⟨w.heap.size + 1, 4, none⟩ (.slice (ckA ok2 S1) (ckN ok2 m5) (ckN ok2 cs1))) := ⟨_, rfl⟩
              rw [← hFF] at hBF hkp hsF ⊢
              clear hF hFF
              have hf : rpOk (nS : Int) T L P E = ok2 := by show (vmB _ _ _ _ _ && vmB _ _ _ _ _) = ok2; rw [← HOK.out, Int.toNat_natCast, HOK2.out]; rfl
              rw [hf, Int.toNat_natCast]
              have z1 := SZ1.out
              have z3 := B3.out.size
              have z4 := S34.out
              have oa := own_move HO.out (fun g hg => hkp g (HO.out.lt g hg).2 (by have := (HO.out.lt g hg).1; omega))
              have os := own_move HS.out (fun g hg => hkp g (HS.out.lt g hg).2 (by have := (HS.out.lt g hg).1; omega))
              have oe := own_move HE.out (fun g hg => hkp g (HE.out.lt g hg).2 (by have := (HE.out.lt g hg).1; omega))
              have l1' := fun k hk => HO.out.lt k hk
              have l2' := fun k hk => HS.out.lt k hk
              have l3' := fun k hk => HE.out.lt k hk
              have hE2 : rq2 L P E nS = rpA L P E := by rw [← QE1.out]; rfl
              rw [hE2] at oa
              have e1 : n = (rpA L P E).length := by rw [← hE2]; exact HN.out
              have e2 := HM5.out
              have hds : ∀ k', (Value.slice S0 m5 cs0).ownBlock = some k' → (Value.slice S1 m5 cs1).ownBlock ≠ some k' := HSE.out
              rw [← ckV_agg]
              have hD := HD.out
              clear HN HO HM5 C HOK2 HN2 HO2
              subst e1 e2
              refine ⟨_, F.heap.size, rfl, Nat.le_refl _, ckO ok2 ⟨_, _, _, rfl, ⟨World.ownsRow.mono oa (by omega), fun k hk => by have := l1' k hk; omega⟩, ⟨World.ownsRow.mono os (by omega), fun k hk => by have := l2' k hk; omega⟩, ⟨World.ownsRow.mono oe (by omega), fun k hk => by have := l3' k hk; omega⟩, ?_, ?_, ?_⟩, hBF⟩
              · intro k hk h2; exact (hD k hk).2.1 h2
              · intro k hk h2; exact (hD k hk).2.2 h2
              · intro k hk h2; exact hds k hk h2
end Go.Proofs.Ytlmhccnkganpcaa
