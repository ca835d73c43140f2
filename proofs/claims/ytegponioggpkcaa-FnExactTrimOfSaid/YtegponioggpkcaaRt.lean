/- RepeatOf of the program. -/
import Derived.Test.YtegponioggpkcaaMh
import Derived.Test.YtegponioggpkcaaCat
import Derived.Deep.RegionHeld3
import Derived.Deep.RegionLaw
import Derived.Outline
namespace Go.Proofs.Ytegponioggpkcaa
open Go.RowKit
set_option linter.unusedVariables false
/-- Arcs gathered from a list of numbers with their places. -/
def gath (f : Nat → Int → List A4) : Nat → List Int → List A4
  | _, [] => []
  | k, x :: xs => f k x ++ gath f (k + 1) xs
theorem gath_append (f : Nat → Int → List A4) : ∀ (xs ys : List Int) (k : Nat), gath f k (xs ++ ys) = gath f k xs ++ gath f (k + xs.length) ys
  | [], ys, k => by simp [gath]
  | x :: xs, ys, k => by
    rw [List.cons_append]
    show f k x ++ gath f (k + 1) (xs ++ ys) = (f k x ++ gath f (k + 1) xs) ++ gath f (k + (xs.length + 1)) ys
    rw [gath_append f xs ys (k + 1), List.append_assoc, show k + (xs.length + 1) = k + 1 + xs.length by omega]
theorem gath_succ (f : Nat → Int → List A4) {xs : List Int} {k : Nat} {x : Int} (h : xs[k]? = some x) : gath f 0 (xs.take (k + 1)) = gath f 0 (xs.take k) ++ f k x := by
  obtain ⟨hk, rfl⟩ := List.getElem?_eq_some_iff.1 h
  rw [List.take_succ_eq_append_getElem hk, gath_append]
  simp [gath, List.length_take, Nat.min_eq_left (Nat.le_of_lt hk)]
def sAr (k : Nat) (x : Int) : List A4 := if 0 ≤ x then [(0, (k : Int) + 1, -1, x)] else []
def eAr (k : Nat) (x : Int) : List A4 := if 0 ≤ x then [((k : Int) + 1, 0, -1, x)] else []
theorem sAr_pos {k : Nat} {x : Int} (h : 0 ≤ x) : sAr k x = [(0, (k : Int) + 1, -1, x)] := if_pos h
theorem sAr_neg {k : Nat} {x : Int} (h : ¬ 0 ≤ x) : sAr k x = [] := if_neg h
theorem eAr_pos {k : Nat} {x : Int} (h : 0 ≤ x) : eAr k x = [((k : Int) + 1, 0, -1, x)] := if_pos h
theorem eAr_neg {k : Nat} {x : Int} (h : ¬ 0 ≤ x) : eAr k x = [] := if_neg h
theorem gath_len {f : Nat → Int → List A4} (hf : ∀ k x, (f k x).length ≤ 1) : ∀ (xs : List Int) (k : Nat), (gath f k xs).length ≤ xs.length
  | [], _ => Nat.le_refl _
  | x :: xs, k => by
    show (f k x ++ gath f (k + 1) xs).length ≤ xs.length + 1
    rw [List.length_append]; have := hf k x; have := gath_len hf xs (k + 1); omega
theorem sAr_len (k : Nat) (x : Int) : (sAr k x).length ≤ 1 := by unfold sAr; split <;> simp
theorem eAr_len (k : Nat) (x : Int) : (eAr k x).length ≤ 1 := by unfold eAr; split <;> simp
/-- The arcs after k starts have been read, and after k ends. -/
def rp1 (L : List A4) (P : List Int) (k : Nat) : List A4 := L.map (mvA 1) ++ gath sAr 0 (P.take k)
def rp2 (L : List A4) (P E : List Int) (k : Nat) : List A4 := rp1 L P P.length ++ gath eAr 0 (E.take k)
def rpA (L : List A4) (P E : List Int) : List A4 := rp2 L P E E.length
def rpS (n : Nat) : List Int := 0 :: List.replicate n (-1)
theorem rp1_len (L : List A4) (P : List Int) (k : Nat) : (rp1 L P k).length ≤ L.length + P.length := by
  have := gath_len sAr_len (P.take k) 0; have e : (P.take k).length ≤ P.length := by simp; omega
  unfold rp1; rw [List.length_append, List.length_map]; omega
theorem rp2_len (L : List A4) (P E : List Int) (k : Nat) : (rp2 L P E k).length ≤ L.length + P.length + E.length := by
  have := gath_len eAr_len (E.take k) 0; have e : (E.take k).length ≤ E.length := by simp; omega
  have := rp1_len L P P.length
  unfold rp2; rw [List.length_append]; omega
theorem rpA_len {L : List A4} {P E : List Int} : (rpA L P E).length ≤ L.length + P.length + E.length := rp2_len L P E _
theorem rpS_len (n : Nat) : (rpS n).length = n + 1 := by simp [rpS]
theorem rp1_step {L : List A4} {P : List Int} {k : Nat} {x : Int} (h : P[k]? = some x) : rp1 L P (k + 1) = rp1 L P k ++ sAr k x := by
  unfold rp1; rw [gath_succ _ h, List.append_assoc]
theorem rp2_step {L : List A4} {P E : List Int} {k : Nat} {x : Int} (h : E[k]? = some x) : rp2 L P E (k + 1) = rp2 L P E k ++ eAr k x := by
  unfold rp2; rw [gath_succ _ h, List.append_assoc]
theorem rp1_zero (L : List A4) (P : List Int) : rp1 L P 0 = L.map (mvA 1) := by simp [rp1, gath]
theorem rp2_zero (L : List A4) (P E : List Int) : rp2 L P E 0 = rp1 L P P.length := by simp [rp2, gath]
/-- Whether RepeatOf gives a machine. -/
def rpOk (S T : Int) (L : List A4) (P E : List Int) : Bool := vmB S T L P E && vmB (S + 1) T (rpA L P E) (rpS S.toNat) (rpS S.toNat)
def ckA (ok : Bool) (x : Option Addr) : Option Addr := if ok then x else none
def ckN (ok : Bool) (x : Nat) : Nat := if ok then x else 0
theorem ckV_agg (ok : Bool) (S T : Int) (A2 : Option Addr) (n2 c2 : Nat) (A3 : Option Addr) (n3 c3 : Nat) (A4 : Option Addr) (n4 c4 : Nat) :
    ckV ok (.agg #[.int .i64 S, .int .i64 T, .slice A2 n2 c2, .slice A3 n3 c3, .slice A4 n4 c4]) = .agg #[.int .i64 (ckI ok S), .int .i64 (ckI ok T), .slice (ckA ok A2) (ckN ok n2) (ckN ok c2), .slice (ckA ok A3) (ckN ok n3) (ckN ok c3), .slice (ckA ok A4) (ckN ok n4) (ckN ok c4)] := by
  cases ok <;> rfl
theorem own_row {w : World} {g base n sz : Nat} {t : TypeId} {vs : List Value} (h : Row w g t vs) (hb : base ≤ g) (hn : vs.length = n * sz) (hm : n ≤ maxLen) : w.ownsRow base t sz (.slice (some ⟨g, 0, none⟩) n n) n vs :=
  ⟨by omega, .inr ⟨g, n, vs.toArray, rfl, hb, h, Nat.le_refl _, hm, by simp [hn], by rw [List.toList_toArray]; exact List.take_of_length_le (by omega)⟩⟩
theorem iCheckedG (lo : Nat) (S T : Int) (L : List A4) (P E : List Int) (A2 : Option Addr) (n2 c2 : Nat) (A3 : Option Addr) (n3 c3 : Nat) (A4 : Option Addr) (n4 c4 : Nat) (w : World) (h2 : w.ownsRow lo 62 4 (.slice A2 n2 c2) n2 (fa L)) (h3 : w.ownsRow lo 2 1 (.slice A3 n3 c3) n3 (iv P)) (h4 : w.ownsRow lo 2 1 (.slice A4 n4 c4) n4 (iv E)) (e2 : L.length = n2) (e3 : P.length = n3) (e4 : E.length = n4) (hL : n2 ≤ 4294967296) (hP : n3 ≤ 4294967296) (hE : n4 ≤ 4294967296) :
    Calls Try.prog 38 #[.agg #[.int .i64 S, .int .i64 T, .slice A2 n2 c2, .slice A3 n3 c3, .slice A4 n4 c4]] w fun e w' => ∃ ok, ok = vmB S T L P E ∧ e = .returned (.tuple #[.agg #[.int .i64 (ckI ok S), .int .i64 (ckI ok T), .slice (ckA ok A2) (ckN ok n2) (ckN ok c2), .slice (ckA ok A3) (ckN ok n3) (ckN ok c3), .slice (ckA ok A4) (ckN ok n4) (ckN ok c4)], .bool ok]) ∧ Below w.heap.size w w' := by
  subst e2 e3 e4
  refine (iChecked_any S T L P E A2 _ c2 A3 _ c3 A4 _ c4 w ?_ (RowI.sl (r := P) h3 rfl) (RowI.sl (r := E) h4 rfl) hL hP hE).mono ?_
  · obtain ⟨A, c, hv, hs⟩ := (OwnV.of h2).slA
    injection hv with e1 _ _
    rw [e1]; exact hs
  · rintro e w' ⟨rfl, hb⟩
    exact ⟨_, rfl, by rw [ckV_agg], hb⟩
set_option maxRecDepth 100000 in
set_option maxHeartbeats 8000000 in
theorem iRepeat_any (v : Value) (S T : Int) (L : List A4) (P E : List Int) (w : World) (h : Mc w w.heap.size v S T L P E) (hL : L.length ≤ 1048576) (hP : P.length ≤ 1048576) (hE : E.length ≤ 1048576) :
    Calls Try.prog 13 #[v] w fun e w' => ∃ v' hi, e = .returned (.tuple #[v', .bool (rpOk S T L P E)]) ∧ hi ≤ w'.heap.size ∧ McO w' w.heap.size hi v' (ckI (rpOk S T L P E) (S + 1)) (ckI (rpOk S T L P E) T) (ckL (rpOk S T L P E) (rpA L P E)) (ckL (rpOk S T L P E) (rpS S.toNat)) (ckL (rpOk S T L P E) (rpS S.toNat)) ∧ Below w.heap.size w w' := by
  obtain ⟨A2, n2, c2, A3, n3, c3, A4, n4, c4, rfl, h2, h3, h4⟩ := h
  have e2 := h2.len; have e3 := h3.len; have e4 := h4.len
  subst e2 e3 e4
  have H2 := Lib.hid h2; have H3 := Lib.hid h3; have H4 := Lib.hid h4
  clear h2 h3 h4
  have rb := (Row.new w 28 [.int .i64 S, .int .i64 T, .slice A2 L.length c2, .slice A3 P.length c3, .slice A4 E.length c4]).alloc (.cells ([.int .i64 0, .int .i64 0, .slice none 0 0, .slice none 0 0, .slice none 0 0] : List Value).toArray 28)
  have rr := Row.new (w.alloc (.cells ([.int .i64 S, .int .i64 T, .slice A2 L.length c2, .slice A3 P.length c3, .slice A4 E.length c4] : List Value).toArray 28)) 28 [.int .i64 0, .int .i64 0, .slice none 0 0, .slice none 0 0, .slice none 0 0]
  rw [show (w.alloc (.cells ([.int .i64 S, .int .i64 T, .slice A2 L.length c2, .slice A3 P.length c3, .slice A4 E.length c4] : List Value).toArray 28)).heap.size = w.heap.size + 1 by simp] at rr
  have bx : Below w.heap.size w ((w.alloc (.cells ([.int .i64 S, .int .i64 T, .slice A2 L.length c2, .slice A3 P.length c3, .slice A4 E.length c4] : List Value).toArray 28)).alloc (.cells ([.int .i64 0, .int .i64 0, .slice none 0 0, .slice none 0 0, .slice none 0 0] : List Value).toArray 28)) := ((Below.refl _ _).alloc (Nat.le_refl _) _).alloc (by simp) _
  have RB := Lib.hid rb; have RR := Lib.hid rr; have BX := Lib.hid bx; clear rb rr bx
  go_enter Try.func13, Try.ntmps13
  go_wp2_with fail
  obtain ⟨x0, hx0⟩ : ∃ x, x = (w.alloc (.cells ([.int .i64 S, .int .i64 T, .slice A2 L.length c2, .slice A3 P.length c3, .slice A4 E.length c4] : List Value).toArray 28)).alloc (.cells ([.int .i64 0, .int .i64 0, .slice none 0 0, .slice none 0 0, .slice none 0 0] : List Value).toArray 28) := ⟨_, rfl⟩
  rw [← hx0] at RB RR BX
  change Calls _ _ _ ((w.alloc (.cells ([.int .i64 S, .int .i64 T, .slice A2 L.length c2, .slice A3 P.length c3, .slice A4 E.length c4] : List Value).toArray 28)).alloc (.cells ([.int .i64 0, .int .i64 0, .slice none 0 0, .slice none 0 0, .slice none 0 0] : List Value).toArray 28)) _
  rw [← hx0]
  clear hx0
  refine (iValidMachine_any _ S T L P E x0 ⟨_, _, _, _, _, _, _, _, _, rfl, (H2.out.below BX.out (Nat.le_refl _)).more BX.out.size, (H3.out.below BX.out (Nat.le_refl _)).more BX.out.size, (H4.out.below BX.out (Nat.le_refl _)).more BX.out.size⟩ (by omega) (by omega) (by omega)).mono ?_
  rintro e w1 ⟨rfl, hb1⟩
  have BX1 := Lib.hid (BX.out.trans (hb1.mono BX.out.size))
  have RB1 := Lib.hid (RB.out.below hb1 RB.out.lt)
  have RR1 := Lib.hid (RR.out.below hb1 RR.out.lt)
  clear hb1
  obtain ⟨ok, hok⟩ : ∃ ok, ok = vmB S T L P E := ⟨_, rfl⟩
  rw [← hok]
  have HOK := Lib.hid hok; clear hok
  cases ok with
  | false =>
    have r0 := RR1.out.cell 0; have r1 := RR1.out.cell 1; have r2 := RR1.out.cell 2; have r3 := RR1.out.cell 3; have r4 := RR1.out.cell 4
    have f0 := RR1.out.frozen 0; have f1 := RR1.out.frozen 1; have f2 := RR1.out.frozen 2; have f3 := RR1.out.frozen 3; have f4 := RR1.out.frozen 4
    go_wp2_with fail
    clear r0 f0 r1 f1 r2 f2 r3 f3 r4 f4
    have hF := (((((RR1.out.set_ 0 (.int .i64 0)).set_ 1 (.int .i64 0)).set_ 2 (.slice none 0 0)).set_ 3 (.slice none 0 0)).set_ 4 (.slice none 0 0))
    refine bodyPost_ret (results_cell2 rfl _ _ (w.heap.size + 1) 28 #[.int .i64 0, .int .i64 0, .slice none 0 0, .slice none 0 0, .slice none 0 0] (0, 0) _ (.bool false) rfl rfl hF Try.underlying28 rfl (by kernel_rfl)) rfl ?_
    have hf : rpOk S T L P E = false := by show (vmB S T L P E && _) = false; rw [← HOK.out]; rfl
    rw [hf]
    exact ⟨_, w.heap.size, rfl, ((((((BX1.out.setCell (p := ⟨w.heap.size + 1, 0, none⟩) (show w.heap.size ≤ w.heap.size + 1 by omega) _).setCell (p := ⟨w.heap.size + 1, 1, none⟩) (show w.heap.size ≤ w.heap.size + 1 by omega) _).setCell (p := ⟨w.heap.size + 1, 2, none⟩) (show w.heap.size ≤ w.heap.size + 1 by omega) _).setCell (p := ⟨w.heap.size + 1, 3, none⟩) (show w.heap.size ≤ w.heap.size + 1 by omega) _).setCell (p := ⟨w.heap.size + 1, 4, none⟩) (show w.heap.size ≤ w.heap.size + 1 by omega) _)).size, ⟨_, _, _, rfl, OwnV.nil _ _ _ _ _, OwnV.nil _ _ _ _ _, OwnV.nil _ _ _ _ _, fun k hk => by simp [Value.ownBlock] at hk, fun k hk => by simp [Value.ownBlock] at hk, fun k hk => by simp [Value.ownBlock] at hk⟩, (((((BX1.out.setCell (p := ⟨w.heap.size + 1, 0, none⟩) (show w.heap.size ≤ w.heap.size + 1 by omega) _).setCell (p := ⟨w.heap.size + 1, 1, none⟩) (show w.heap.size ≤ w.heap.size + 1 by omega) _).setCell (p := ⟨w.heap.size + 1, 2, none⟩) (show w.heap.size ≤ w.heap.size + 1 by omega) _).setCell (p := ⟨w.heap.size + 1, 3, none⟩) (show w.heap.size ≤ w.heap.size + 1 by omega) _).setCell (p := ⟨w.heap.size + 1, 4, none⟩) (show w.heap.size ≤ w.heap.size + 1 by omega) _)⟩
  | true =>
    obtain ⟨qS, qT, qL, qA, qP, qE⟩ := vmB_true HOK.out.symm
    obtain ⟨qP1, qP2⟩ := mkB_true qP
    obtain ⟨qE1, qE2⟩ := mkB_true qE
    have QA : Hid (∀ a ∈ L, -1000 ≤ a.1 ∧ a.1 ≤ 1000 ∧ -1000 ≤ a.2.1 ∧ a.2.1 ≤ 1000) := fun a ha => by have := okAm_true (qA a ha); omega
    have QP := Lib.hid qP2; have QE := Lib.hid qE2; have QP1 := Lib.hid qP1; have QE1 := Lib.hid qE1
    have qPn : P.length ≤ 16 := by omega
    have qEn : E.length ≤ 16 := by omega
    clear qA qP qE qP2 qE2 qP1 qE1
    have SZ1 : Hid (w.heap.size + 1 < w1.heap.size) := RR1.out.lt
    have k2 := RB1.out.cell 2
    go_wp2_with fail
    clear k2
    have hz : Hid (w1.ownsRow w1.heap.size 62 4 (.slice none 0 0) 0 (fa [])) := World.ownsRow_nil _ _ _ _
    refine (iMoved_any w1.heap.size none 0 0 [] A2 L.length c2 L 1 w1 hz.out (Nat.le_refl _) ((H2.out.below BX1.out (Nat.le_refl _)).more BX1.out.size) (by omega) (by omega) QA.out).mono ?_
    clear hz
    rintro e w2 ⟨AA, cA, rfl, hoA, hbA⟩
    rw [List.nil_append, Nat.zero_add] at hoA
    rw [Nat.zero_add]
    have HOA := Lib.hid hoA; have B2 := Lib.hid hbA; clear hoA hbA
    have k3 := (RB1.out.below B2.out RB1.out.lt).cell 3
    go_wp2_with fail
    clear k3
    go_loopg [4, 5, 6, 20] P.length (fun q o u1 u2 i wr => ∃ (k n : Nat) (A : Option Addr) (c : Nat), i = .int .i64 k ∧ k ≤ P.length ∧ P.length ≤ q + k ∧ o = .slice A n c ∧ Hid (n = (rp1 L P k).length) ∧ Hid (wr.ownsRow w1.heap.size 62 4 (.slice A n c) n (fa (rp1 L P k))) ∧ Hid (Below w1.heap.size w1 wr))
    case atStart => exact ⟨0, _, _, _, rfl, by omega, by omega, rfl, by rw [rp1_zero, List.length_map]; rfl, by rw [rp1_zero]; exact HOA.out, B2.out⟩
    case round =>
      obtain ⟨k, n, A, c, rfl, hk, hm, rfl, HN, HO, HB⟩ := hrel
      have hnb : n ≤ 1000 := by rw [HN.out]; have := rp1_len L P k; omega
      have HBw := Lib.hid (BX1.out.trans (HB.out.mono BX1.out.size))
      by_cases hlt : k < P.length
      · obtain ⟨b, off, x, hA, hbB, hx, kc⟩ := (H3.out.below HBw.out (Nat.le_refl _)).at_ hlt
        cases hA
        have l0 : (0 : Int) ≤ (k : Int) := by omega
        have l1 : (k : Int) < (P.length : Int) := by omega
        have hxr := QP.out x (List.mem_of_getElem? hx.out)
        have HST := Lib.hid (rp1_step (L := L) hx.out)
        have HBS : Hid (w1.heap.size ≤ wr.heap.size) := HB.out.size
        by_cases hp : 0 ≤ x
        · have HST2 : Hid (rp1 L P (k + 1) = rp1 L P k ++ [(0, (k : Int) + 1, -1, x)]) := by show _ = _; rw [HST.out, sAr_pos hp]
          go_wp2_with (first | (at_builtin; refine wpList_one_push wr rfl (.tmp 27) (.tmp 32) _ rfl w1.heap.size 62 (.agg #[.int .i64 0, .int .i64 0, .int .i64 0, .int .i64 0]) 4 32 Try.underlying25 infoAr rfl (by omega) (by omega) (.slice A n c) n _ rfl HO.out [.int .i64 0, .int .i64 ((k : Int) + 1), .int .i64 (-1), .int .i64 x] rfl (fa_one [(0, (k : Int) + 1, -1, x)]) wr.heap.size rfl rfl (by omega) HBS.out ?_; intro v' w' hown hgr hat; obtain ⟨A', c', hv', _, _⟩ := own_form hown; subst hv'; have HG := Lib.hid (grown_below' HO.out hgr HBS.out); have HOW := Lib.hid hown; clear hgr hown hat))
          go_roundg (gk - 1)
          case measure => omega
          case rel =>
            refine ⟨k + 1, n + 1, A', c', by go_num, by omega, by omega, rfl, ?_, ?_, HB.out.trans HG.out⟩
            · show _ = _; rw [HST2.out, List.length_append, ← HN.out]; rfl
            · show World.ownsRow _ _ _ _ _ _ _; rw [HST2.out, fa_append]; exact HOW.out
        · have HST2 : Hid (rp1 L P (k + 1) = rp1 L P k) := by show _ = _; rw [HST.out, sAr_neg hp, List.append_nil]
          go_wp2_with fail
          go_roundg (gk - 1)
          case measure => omega
          case rel =>
            refine ⟨k + 1, n, A, c, by go_num, by omega, by omega, rfl, ?_, ?_, HB.out⟩
            · show _ = _; rw [HST2.out]; exact HN.out
            · show World.ownsRow _ _ _ _ _ _ _; rw [HST2.out]; exact HO.out
      · obtain rfl : k = P.length := by omega
        have k4 := (RB1.out.below HB.out RB1.out.lt).cell 4
        go_wp2_with fail
        clear k4 HOA B2
        obtain ⟨w3, hw3⟩ : ∃ x, x = wr := ⟨_, rfl⟩
        rw [← hw3] at HO HB HBw
        rw [← hw3]
        clear hw3
        go_loopg [4, 7, 8, 38] E.length (fun q o u1 u2 i wz => ∃ (k n : Nat) (A : Option Addr) (c : Nat), i = .int .i64 k ∧ k ≤ E.length ∧ E.length ≤ q + k ∧ o = .slice A n c ∧ Hid (n = (rp2 L P E k).length) ∧ Hid (wz.ownsRow w1.heap.size 62 4 (.slice A n c) n (fa (rp2 L P E k))) ∧ Hid (Below w1.heap.size w1 wz))
        case atStart => exact ⟨0, _, _, _, rfl, by omega, by omega, rfl, by rw [rp2_zero]; exact HN.out, by rw [rp2_zero]; exact HO.out, HB.out⟩
        case round =>
          clear HO HB HBw hnb HN
          obtain ⟨k, n, A, c, rfl, hk, hm, rfl, HN, HO, HB⟩ := hrel
          have hnb : n ≤ 1000 := by rw [HN.out]; have := rp2_len L P E k; omega
          have HBw := Lib.hid (BX1.out.trans (HB.out.mono BX1.out.size))
          by_cases hlt : k < E.length
          · obtain ⟨b, off, x, hA, hbB, hx, kc⟩ := (H4.out.below HBw.out (Nat.le_refl _)).at_ hlt
            cases hA
            have l0 : (0 : Int) ≤ (k : Int) := by omega
            have l1 : (k : Int) < (E.length : Int) := by omega
            have hxr := QE.out x (List.mem_of_getElem? hx.out)
            have HST := Lib.hid (rp2_step (L := L) (P := P) hx.out)
            have HBS : Hid (w1.heap.size ≤ wr.heap.size) := HB.out.size
            by_cases hp : 0 ≤ x
            · have HST2 : Hid (rp2 L P E (k + 1) = rp2 L P E k ++ [((k : Int) + 1, 0, -1, x)]) := by show _ = _; rw [HST.out, eAr_pos hp]
              go_wp2_with (first | (at_builtin; refine wpList_one_push wr rfl (.tmp 45) (.tmp 50) _ rfl w1.heap.size 62 (.agg #[.int .i64 0, .int .i64 0, .int .i64 0, .int .i64 0]) 4 32 Try.underlying25 infoAr rfl (by omega) (by omega) (.slice A n c) n _ rfl HO.out [.int .i64 ((k : Int) + 1), .int .i64 0, .int .i64 (-1), .int .i64 x] rfl (fa_one [((k : Int) + 1, 0, -1, x)]) wr.heap.size rfl rfl (by omega) HBS.out ?_; intro v' w' hown hgr hat; obtain ⟨A', c', hv', _, _⟩ := own_form hown; subst hv'; have HG := Lib.hid (grown_below' HO.out hgr HBS.out); have HOW := Lib.hid hown; clear hgr hown hat))
              go_roundg (gk - 1)
              case measure => omega
              case rel =>
                refine ⟨k + 1, n + 1, A', c', by go_num, by omega, by omega, rfl, ?_, ?_, HB.out.trans HG.out⟩
                · show _ = _; rw [HST2.out, List.length_append, ← HN.out]; rfl
                · show World.ownsRow _ _ _ _ _ _ _; rw [HST2.out, fa_append]; exact HOW.out
            · have HST2 : Hid (rp2 L P E (k + 1) = rp2 L P E k) := by show _ = _; rw [HST.out, eAr_neg hp, List.append_nil]
              go_wp2_with fail
              go_roundg (gk - 1)
              case measure => omega
              case rel =>
                refine ⟨k + 1, n, A, c, by go_num, by omega, by omega, rfl, ?_, ?_, HB.out⟩
                · show _ = _; rw [HST2.out]; exact HN.out
                · show World.ownsRow _ _ _ _ _ _ _; rw [HST2.out]; exact HO.out
          · obtain rfl : k = E.length := by omega
            have HAN : Hid (n = (rpA L P E).length) := HN.out
            have HOO : Hid (wr.ownsRow w1.heap.size 62 4 (.slice A n c) n (fa (rpA L P E))) := HO.out
            clear HO HN
            have qS0 : 0 ≤ S := by omega
            obtain ⟨nS, hnS⟩ : ∃ m : Nat, S = (m : Int) := ⟨S.toNat, by omega⟩
            subst hnS
            have hS16 : nS ≤ 16 ∧ 1 ≤ nS := by omega
            have RW := Lib.hid (Row.new wr 2 [.int .i64 0])
            have BA : Hid (Below w1.heap.size w1 (wr.alloc (.cells ([.int .i64 0] : List Value).toArray 2))) := HB.out.alloc HB.out.size _
            have k0 := (RB1.out.below BA.out RB1.out.lt).cell 0
            go_wp2_with fail
            clear k0
            change Calls _ _ _ (wr.alloc (.cells ([.int .i64 0] : List Value).toArray 2)) _
            have hsa : (wr.alloc (.cells ([.int .i64 0] : List Value).toArray 2)).heap.size = wr.heap.size + 1 := by simp
            have BW : Hid (Below wr.heap.size wr (wr.alloc (.cells ([.int .i64 0] : List Value).toArray 2))) := (Below.refl _ _).alloc (Nat.le_refl _) _
            refine (iNone_any nS _ (by omega) (by omega)).mono ?_
            rintro e w4 ⟨g4, rfl, hg4, hr4, hb4⟩
            rw [hsa] at hg4 hb4
            have HR4 := Lib.hid hr4
            have OW0 : Hid (w4.ownsRow wr.heap.size 2 1 (.slice (some ⟨wr.heap.size, 0, none⟩) 1 1) 1 [.int .i64 0]) := own_row (RW.out.below hb4 (by omega)) (Nat.le_refl _) rfl (by unfold maxLen; omega)
            have BW4 := Lib.hid (BW.out.trans (hb4.mono (by omega)))
            have hs4 : wr.heap.size ≤ w4.heap.size := BW4.out.size
            clear hr4 hb4 hg4 hsa BW RW BA
            have HLEN : Hid ((iv (List.replicate nS (-1))).length = nS * 1) := by show _ = _; simp [iv]
            have HCL : Hid (∀ j u, (iv (List.replicate nS (-1)))[j]? = some u → w4.cell? ⟨g4, 0 + j, none⟩ = some u) := fun j u hu => by rw [Nat.zero_add, HR4.out.cell]; exact hu
            have HON : Hid (∀ u ∈ iv (List.replicate nS (-1)), u.oneCell' = true) := fun u hu => by
              simp only [iv, List.mem_map] at hu; obtain ⟨x, -, rfl⟩ := hu; rfl
            have HRM : Hid (1 + nS ≤ 4294967296) := by show _ ≤ _; omega
            have HBSE := Lib.hid hs4
            go_wp2_with (first | (at_builtin; refine wpList_cells_push rfl (.tmp 53) (.tmp 56) _ rfl wr.heap.size 2 (.int .i64 0) 1 8 Try.underlying26 infoQ rfl (by omega) (by omega) (.slice (some ⟨wr.heap.size, 0, none⟩) 1 1) 1 [.int .i64 0] rfl OW0.out g4 0 nS nS (iv (List.replicate nS (-1))) rfl HLEN.out HCL.out HON.out HRM.out HBSE.out ?_; intro v' w5 hown hgr hat; obtain ⟨A5', c5, hv', _, _⟩ := own_form hown; subst hv'; have HG := Lib.hid (grown_below' OW0.out hgr HBSE.out); have HOW := Lib.hid hown; clear hgr hown hat))
            clear OW0 HLEN HCL HON HRM HBSE
            obtain ⟨m5, hm5⟩ : ∃ m, m = (rpS nS).length := ⟨_, rfl⟩
            have hm5' : 1 + nS = m5 := by rw [hm5, rpS_len]; omega
            have how : w5.ownsRow wr.heap.size 2 1 (.slice A5' m5 c5) m5 (iv (rpS nS)) := by
              have := HOW.out
              rw [hm5'] at this; exact this
            simp only [hm5']
            have hmr : m5 ≤ 17 := by omega
            have HM5 := Lib.hid hm5
            obtain ⟨g5, hA5, hg5, hl5⟩ : ∃ g, A5' = some ⟨g, 0, none⟩ ∧ wr.heap.size ≤ g ∧ g < w5.heap.size := by
              have h' : RowI w5 wr.heap.size 2 (.slice A5' m5 c5) (rpS nS) := by show World.ownsRow _ _ _ _ _ _ _; rw [← hm5]; exact how
              obtain ⟨g, cc, hv, _, hg, hl, _⟩ := h'.form (by rw [rpS_len]; omega)
              injection hv with e1 _ _
              exact ⟨g, e1, hg, hl⟩
            subst hA5
            have HO5 := Lib.hid how
            clear how hm5 hm5' HOW
            have BW5 : Hid (Below wr.heap.size wr w5) := BW4.out.trans HG.out
            have BX5 : Hid (Below w1.heap.size w1 w5) := HB.out.trans (BW5.out.mono HB.out.size)
            have HOA5 : Hid (w5.ownsRow w1.heap.size 62 4 (.slice A n c) n (fa (rpA L P E))) := own_move HOO.out (fun g hg => BW5.out.block g (HOO.out.lt g hg).2)
            have HAlt : Hid (∀ k, (Value.slice A n c).ownBlock = some k → w1.heap.size ≤ k ∧ k < wr.heap.size) := fun k hk => HOO.out.lt k hk
            have RB5 := Lib.hid (RB1.out.below BX5.out RB1.out.lt)
            have RR5 := Lib.hid (RR1.out.below BX5.out RR1.out.lt)
            have SZ5 : Hid (w1.heap.size ≤ wr.heap.size ∧ wr.heap.size ≤ w5.heap.size) := ⟨HB.out.size, BW5.out.size⟩
            have LT5 : Hid (w.heap.size + 1 < w5.heap.size) := RR5.out.lt
            clear BW5 BW4 HG HOO HR4 hs4 HBw
            have hcells : Hid (∀ x : World, Lo w5.heap.size (w.heap.size + 1) w5 x → (x.cell? ⟨w.heap.size, 0, none⟩ = some (.int .i64 nS) ∧ x.cell? ⟨w.heap.size, 1, none⟩ = some (.int .i64 T))) := by
              intro x hx
              have r := hx.row RB5.out (by have := LT5.out; omega) (by omega)
              exact ⟨r.cell 0, r.cell 1⟩
            have hkeep : Hid (∀ x y : World, Lo w5.heap.size (w.heap.size + 1) w5 x → Below x.heap.size x y → (Lo w5.heap.size (w.heap.size + 1) w5 y ∧ y.cell? ⟨w.heap.size, 0, none⟩ = some (.int .i64 nS) ∧ y.cell? ⟨w.heap.size, 1, none⟩ = some (.int .i64 T))) := by
              intro x y h1 h2
              have h3 := h1.trans (Lo.below h2 h1.2.2.2.1)
              exact ⟨h3, hcells.out y h3⟩
            have hkeepS : Hid (∀ (x : World) (u0 u1 u2 u3 u4 : Value), Lo w5.heap.size (w.heap.size + 1) w5 x → (Lo w5.heap.size (w.heap.size + 1) w5 (((((x.setCell ⟨w.heap.size + 1, 0, none⟩ u0).setCell ⟨w.heap.size + 1, 1, none⟩ u1).setCell ⟨w.heap.size + 1, 2, none⟩ u2).setCell ⟨w.heap.size + 1, 3, none⟩ u3).setCell ⟨w.heap.size + 1, 4, none⟩ u4) ∧ (((((x.setCell ⟨w.heap.size + 1, 0, none⟩ u0).setCell ⟨w.heap.size + 1, 1, none⟩ u1).setCell ⟨w.heap.size + 1, 2, none⟩ u2).setCell ⟨w.heap.size + 1, 3, none⟩ u3).setCell ⟨w.heap.size + 1, 4, none⟩ u4).cell? ⟨w.heap.size, 0, none⟩ = some (.int .i64 nS) ∧ (((((x.setCell ⟨w.heap.size + 1, 0, none⟩ u0).setCell ⟨w.heap.size + 1, 1, none⟩ u1).setCell ⟨w.heap.size + 1, 2, none⟩ u2).setCell ⟨w.heap.size + 1, 3, none⟩ u3).setCell ⟨w.heap.size + 1, 4, none⟩ u4).cell? ⟨w.heap.size, 1, none⟩ = some (.int .i64 T))) := by
              intro x u0 u1 u2 u3 u4 h1
              have h3 := ((((h1.trans (Lo.set _ _ _ 0 u0)).trans (Lo.set _ _ _ 1 u1)).trans (Lo.set _ _ _ 2 u2)).trans (Lo.set _ _ _ 3 u3)).trans (Lo.set _ _ _ 4 u4)
              exact ⟨h3, hcells.out _ h3⟩
            have HC : Hid (∀ x : World, Lo w5.heap.size (w.heap.size + 1) w5 x → Calls Try.prog 43 #[.slice (some ⟨g5, 0, none⟩) m5 c5] x fun e w' => ∃ A' c', e = .returned (.slice A' m5 c') ∧ w'.ownsRow w5.heap.size 2 1 (.slice A' m5 c') m5 (iv (rpS nS)) ∧ Below x.heap.size x w') := by
              intro x hx
              have ho := own_move HO5.out (fun g hg => by simp [Value.ownBlock] at hg; subst hg; exact hx.2.2.2.2 _ hl5 (by have := SZ1.out; have := SZ5.out; omega))
              have hs : SlI x x.heap.size (some ⟨g5, 0, none⟩) m5 (rpS nS) := by
                have e := HM5.out
                subst e
                exact RowI.sl (r := rpS nS) ho rfl
              refine (iCloneI_any g5 0 m5 c5 (rpS nS) x hs (by omega)).mono ?_
              rintro e w' ⟨A', c', rfl, hr, hb⟩
              rw [← HM5.out] at hr ⊢
              refine ⟨A', c', rfl, ?_, hb⟩
              have hr' : w'.ownsRow x.heap.size 2 1 (.slice A' m5 c') (rpS nS).length (iv (rpS nS)) := hr
              rw [← HM5.out] at hr'
              exact World.ownsRow.mono hr' hx.2.2.2.1
            have HK : Hid (∀ x : World, Lo w5.heap.size (w.heap.size + 1) w5 x → ∀ AE cE, x.ownsRow w5.heap.size 2 1 (.slice AE m5 cE) m5 (iv (rpS nS)) → Calls Try.prog 38 #[.agg #[.int .i64 (nS + 1), .int .i64 T, .slice A n c, .slice (some ⟨g5, 0, none⟩) m5 c5, .slice AE m5 cE]] x fun e w' => ∃ ok, ok = vmB (nS + 1) T (rpA L P E) (rpS nS) (rpS nS) ∧ e = .returned (.tuple #[.agg #[.int .i64 (ckI ok (nS + 1)), .int .i64 (ckI ok T), .slice (ckA ok A) (ckN ok n) (ckN ok c), .slice (ckA ok (some ⟨g5, 0, none⟩)) (ckN ok m5) (ckN ok c5), .slice (ckA ok AE) (ckN ok m5) (ckN ok cE)], .bool ok]) ∧ Below x.heap.size x w') := by
              intro x hx AE cE hE
              have ho := own_move HO5.out (fun g hg => by simp [Value.ownBlock] at hg; subst hg; exact hx.2.2.2.2 _ hl5 (by have := SZ1.out; have := SZ5.out; omega))
              have ha := own_move HOA5.out (fun g hg => hx.2.2.2.2 _ (by have := HAlt.out g hg; have := SZ5.out; omega) (by have := HAlt.out g hg; have := SZ1.out; omega))
              exact iCheckedG w1.heap.size (nS + 1) T (rpA L P E) (rpS nS) (rpS nS) A n c _ m5 c5 AE m5 cE x ha (World.ownsRow.mono ho SZ5.out.1) (World.ownsRow.mono hE (by have := SZ5.out; omega)) HAN.out.symm HM5.out.symm HM5.out.symm (by omega) (by omega) (by omega)
            have HWR : Hid (Value.int .i64 (IntKind.i64.wrap ((nS : Int) + 1)) = .int .i64 ((nS : Int) + 1)) := by show _ = _; rw [IntWalk.i64_in _ (by omega)]
            have hdr : Lo w5.heap.size (w.heap.size + 1) w5 w5.drew := Lo.refl _ _ _
            have hfrom : Lo w5.heap.size (w.heap.size + 1) w5 w5.drew ∧ w5.drew.cell? ⟨w.heap.size, 0, none⟩ = some (.int .i64 nS) ∧ w5.drew.cell? ⟨w.heap.size, 1, none⟩ = some (.int .i64 T) := ⟨hdr, hcells.out _ hdr⟩
            go_region_held3 (fun x => Lo w5.heap.size (w.heap.size + 1) w5 x ∧ x.cell? ⟨w.heap.size, 0, none⟩ = some (.int .i64 nS) ∧ x.cell? ⟨w.heap.size, 1, none⟩ = some (.int .i64 T)) (first | assumption | (exact hkeepS.out _ _ _ _ _ _ (by first | assumption | (apply And.left; assumption))) | go_keep)
              (first
                | (go_at_call 43; refine (HC.out _ (by first | assumption | (apply And.left; assumption))).mono ?_; rintro e wz ⟨AE, cE, rfl, hvE, hbz⟩; have hkz := (fun h => hkeep.out _ _ h hbz) (by first | assumption | (apply And.left; assumption)); have HvE := Lib.hid hvE; clear hvE; have hrz : Row wz (w.heap.size + 1) 28 [.int .i64 0, .int .i64 0, .slice none 0 0, .slice none 0 0, .slice none 0 0] := (hbz.block _ LT5.out).trans RR5.out; have HRZ := Lib.hid hrz; clear hrz)
                | (go_at_call 38; rw [HWR.out]; refine (HK.out _ (by first | assumption | (apply And.left; assumption)) _ _ HvE.out).mono ?_; rintro e wy ⟨ok2, hok2, rfl, hby⟩; have hky := (fun h => hkeep.out _ _ h hby) (by first | assumption | (apply And.left; assumption)); have hry := Row.below HRZ.out hby HRZ.out.lt; have y0 := hry.cell 0; have y1 := hry.cell 1; have y2 := hry.cell 2; have y3 := hry.cell 3; have y4 := hry.cell 4; have f0 := hry.frozen 0; have f1 := hry.frozen 1; have f2 := hry.frozen 2; have f3 := hry.frozen 3; have f4 := hry.frozen 4; have HRY := Lib.hid hry; clear hry; have HOK2 := Lib.hid hok2; clear hok2))
            try go_wp2_with fail
            clear y0 f0 y1 f1 y2 f2 y3 f3 y4 f4
            have hLF := (hkeepS.out wy (.int .i64 (ckI ok2 (nS + 1))) (.int .i64 (ckI ok2 T)) (.slice (ckA ok2 A) (ckN ok2 n) (ckN ok2 c)) (.slice (ckA ok2 (some ⟨g5, 0, none⟩)) (ckN ok2 m5) (ckN ok2 c5)) (.slice (ckA ok2 AE) (ckN ok2 m5) (ckN ok2 cE)) hky.1).1
            have hF := (((((HRY.out.set_ 0 (.int .i64 (ckI ok2 (nS + 1)))).set_ 1 (.int .i64 (ckI ok2 T))).set_ 2 (.slice (ckA ok2 A) (ckN ok2 n) (ckN ok2 c))).set_ 3 (.slice (ckA ok2 (some ⟨g5, 0, none⟩)) (ckN ok2 m5) (ckN ok2 c5))).set_ 4 (.slice (ckA ok2 AE) (ckN ok2 m5) (ckN ok2 cE)))
            have hsF : wz.heap.size ≤ (((((wy.setCell ⟨w.heap.size + 1, 0, none⟩ (.int .i64 (ckI ok2 (nS + 1)))).setCell ⟨w.heap.size + 1, 1, none⟩ (.int .i64 (ckI ok2 T))).setCell ⟨w.heap.size + 1, 2, none⟩ (.slice (ckA ok2 A) (ckN ok2 n) (ckN ok2 c))).setCell ⟨w.heap.size + 1, 3, none⟩ (.slice (ckA ok2 (some ⟨g5, 0, none⟩)) (ckN ok2 m5) (ckN ok2 c5))).setCell ⟨w.heap.size + 1, 4, none⟩ (.slice (ckA ok2 AE) (ckN ok2 m5) (ckN ok2 cE))).heap.size := by have := hby.size; simpa using this
            have hbF : ∀ g, g < wz.heap.size → g ≠ w.heap.size + 1 → (((((wy.setCell ⟨w.heap.size + 1, 0, none⟩ (.int .i64 (ckI ok2 (nS + 1)))).setCell ⟨w.heap.size + 1, 1, none⟩ (.int .i64 (ckI ok2 T))).setCell ⟨w.heap.size + 1, 2, none⟩ (.slice (ckA ok2 A) (ckN ok2 n) (ckN ok2 c))).setCell ⟨w.heap.size + 1, 3, none⟩ (.slice (ckA ok2 (some ⟨g5, 0, none⟩)) (ckN ok2 m5) (ckN ok2 c5))).setCell ⟨w.heap.size + 1, 4, none⟩ (.slice (ckA ok2 AE) (ckN ok2 m5) (ckN ok2 cE))).heap[g]? = wz.heap[g]? := fun g h1 h2 => (heap_set5 _ _ _ _ _ h2).trans (hby.block g h1)
            refine bodyPost_ret (results_cell2 rfl _ _ (w.heap.size + 1) 28 #[.int .i64 (ckI ok2 (nS + 1)), .int .i64 (ckI ok2 T), .slice (ckA ok2 A) (ckN ok2 n) (ckN ok2 c), .slice (ckA ok2 (some ⟨g5, 0, none⟩)) (ckN ok2 m5) (ckN ok2 c5), .slice (ckA ok2 AE) (ckN ok2 m5) (ckN ok2 cE)] (0, 0) _ (.bool ok2) rfl rfl hF Try.underlying28 rfl (by kernel_rfl)) rfl ?_
            obtain ⟨F, hFF⟩ : ∃ F, F = (((((wy.setCell ⟨w.heap.size + 1, 0, none⟩ (.int .i64 (ckI ok2 (nS + 1)))).setCell ⟨w.heap.size + 1, 1, none⟩ (.int .i64 (ckI ok2 T))).setCell ⟨w.heap.size + 1, 2, none⟩ (.slice (ckA ok2 A) (ckN ok2 n) (ckN ok2 c))).setCell ⟨w.heap.size + 1, 3, none⟩ (.slice (ckA ok2 (some ⟨g5, 0, none⟩)) (ckN ok2 m5) (ckN ok2 c5))).setCell ⟨w.heap.size + 1, 4, none⟩ (.slice (ckA ok2 AE) (ckN ok2 m5) (ckN ok2 cE))) := ⟨_, rfl⟩
            rw [← hFF] at hLF hsF hbF ⊢
            clear hF hFF
            have hf : rpOk (nS : Int) T L P E = ok2 := by show (vmB _ _ _ _ _ && vmB _ _ _ _ _) = ok2; rw [← HOK.out, Int.toNat_natCast, HOK2.out]; rfl
            rw [hf, Int.toNat_natCast]
            have hBF : Below w.heap.size w F := (BX1.out.trans (BX5.out.mono BX1.out.size)).trans (hLF.bel (by have := LT5.out; omega) (by omega))
            have hz5 := hLF.2.2.2.1
            have z1 := SZ1.out; have z5 := SZ5.out
            have oa := own_move HOA5.out (fun g hg => hLF.2.2.2.2 g (by have := HAlt.out g hg; omega) (by have := HAlt.out g hg; omega))
            have os := own_move HO5.out (fun g hg => by simp [Value.ownBlock] at hg; subst hg; exact hLF.2.2.2.2 _ hl5 (by omega))
            have oe := own_move HvE.out (fun g hg => hbF g (HvE.out.lt g hg).2 (by have := (HvE.out.lt g hg).1; omega))
            have hEl := fun k hk => HvE.out.lt k hk
            have hAl := HAlt.out
            have e1 := HAN.out; have e2 := HM5.out
            clear HAN HM5 HC HK
            subst e1 e2
            rw [← ckV_agg]
            refine ⟨_, F.heap.size, rfl, Nat.le_refl _, ckO ok2 ⟨_, _, _, rfl, ⟨World.ownsRow.mono oa (by omega), fun k hk => by have := hAl k hk; omega⟩, ⟨World.ownsRow.mono os (by omega), fun k hk => by simp [Value.ownBlock] at hk; omega⟩, ⟨World.ownsRow.mono oe (by omega), fun k hk => by have := hEl k hk; omega⟩, ?_, ?_, ?_⟩, hBF⟩
            · intro k hk h2; have := hAl k hk; simp [Value.ownBlock] at h2; omega
            · intro k hk h2; have := hAl k hk; have := hEl k h2; omega
            · intro k hk h2; have := hEl k h2; simp [Value.ownBlock] at hk; omega
end Go.Proofs.Ytegponioggpkcaa
