/- Several texts in one: l04Behind of the reference: a test put behind a word. l04Row of the reference: what the teacher says of a word behind which each test is put. l04At of the reference: the first word whose row is the given one, how many words there are if there is none. The first word behind which two machines differ, searched with no bound on words: the bounded search tells the same, where the word is short. l02Index of the reference: a number's place in a list of the call's own, put at its end if it is new. -/
import Derived.Test.YtbdfbmohdbigfaaMgx
import Derived.Deep.LoopGhost
import Derived.Test.YtbdfbmohdbigfaaFaP
import Derived.Test.YtbdfbmohdbigfaaMgr
import Derived.Test.YtbdfbmohdbigfaaMgb
import Derived.Test.YtbdfbmohdbigfaaMge
import Derived.Test.YtbdfbmohdbigfaaMgm

namespace Go.Proofs.Ytbdfbmohdbigfaa
open Go.RowKit
set_option linter.unusedVariables false
theorem slI_cells {w : World} {B b off n : Nat} {xs : List Int} (h : SlI w B (some ⟨b, off, none⟩) n xs) : ∀ j u, (iv xs)[j]? = some u → w.cell? ⟨b, off + j, none⟩ = some u := by
  intro j u hu
  have hl := h.len
  have h0 : 0 < n := by have := (List.getElem?_eq_some_iff.1 hu).1; rw [iv_length] at this; omega
  obtain ⟨b', off', e, hb, hc⟩ := h.2 h0
  injection e with e
  injection e with e1 e2 _
  subst e1 e2
  exact hc j u hu
set_option maxRecDepth 100000 in
set_option maxHeartbeats 4000000 in
theorem sBhdN_any (b off c : Nat) (xs : List Nat) (b' off' c' : Nat) (ys : List Nat) (w : World) (h : SlI w w.heap.size (some ⟨b, off, none⟩) xs.length (natW xs)) (h' : SlI w w.heap.size (some ⟨b', off', none⟩) ys.length (natW ys)) (hn : xs.length + ys.length ≤ 100000) :
    Calls Try.prog 111 #[.slice (some ⟨b, off, none⟩) xs.length c, .slice (some ⟨b', off', none⟩) ys.length c'] w fun e y => ∃ A d, e = .returned (.slice A (xs ++ ys).length d) ∧ RowI y w.heap.size 2 (.slice A (xs ++ ys).length d) (natW (xs ++ ys)) ∧ Below w.heap.size w y := by
  have hb0 : Below w.heap.size w (w.alloc (.cells #[] 2)) := (Below.refl _ _).alloc (Nat.le_refl _) _
  have HC : Hid (∀ j u, (iv (natW xs))[j]? = some u → (w.alloc (.cells #[] 2)).cell? ⟨b, off + j, none⟩ = some u) := slI_cells (h.below hb0 (Nat.le_refl _))
  have HO : Hid ((w.alloc (.cells #[] 2)).ownsRow w.heap.size 2 1 (.slice (some ⟨w.heap.size, 0, none⟩) 0 0) 0 []) := World.ownsRow_made w #[] 0 (Nat.le_refl _) (by unfold maxLen; omega) rfl
  have HLX : Hid ((iv (natW xs)).length = xs.length * 1) := by show _ = _; rw [iv_length, natW_len]; omega
  have HLY : Hid ((iv (natW ys)).length = ys.length * 1) := by show _ = _; rw [iv_length, natW_len]; omega
  have HB0 := Lib.hid hb0; have H' := Lib.hid h'; have HN := Lib.hid hn
  clear hb0 h h'
  go_enter Try.func111, Try.ntmps111
  go_wp2_with (first
    | (at_builtin; refine wpList_cells_push rfl (.tmp 5) (.tmp 6) _ rfl w.heap.size 2 (.int .i64 0) 1 8 Try.underlying26 infoIU rfl (by omega) (by omega) (.slice (some ⟨w.heap.size, 0, none⟩) 0 0) 0 [] rfl HO.out b off xs.length c (iv (natW xs)) rfl HLX.out HC.out (iv_one (natW xs)) (by omega) HB0.out.size ?_; intro v' w1 hown hgr hat; obtain ⟨A', c9, hv', q1, q2⟩ := own_form hown; subst hv'; have HG := Lib.hid (HB0.out.trans (grown_below' HO.out hgr HB0.out.size)); rw [Nat.zero_add, List.nil_append] at hown; rw [Nat.zero_add]; have HOW := Lib.hid hown; have HC2 : Hid (∀ j u, (iv (natW ys))[j]? = some u → w1.cell? ⟨b', off' + j, none⟩ = some u) := slI_cells (H'.out.below HG.out (Nat.le_refl _)); clear hgr hown hat)
    | (at_builtin; refine wpList_cells_push rfl (.tmp 7) (.tmp 8) _ rfl w.heap.size 2 (.int .i64 0) 1 8 Try.underlying26 infoIU rfl (by omega) (by omega) (.slice A' xs.length c9) xs.length (iv (natW xs)) rfl HOW.out b' off' ys.length c' (iv (natW ys)) rfl HLY.out HC2.out (iv_one (natW ys)) (by omega) HG.out.size ?_; intro v2 w2 hown hgr hat; obtain ⟨A2, c2, hv2, q3, q4⟩ := own_form hown; subst hv2; have HG2 := Lib.hid (HG.out.trans (grown_below' HOW.out hgr HG.out.size)); have HOW2 := Lib.hid hown; clear hgr hown hat))
  go_ret
  have hl : (xs ++ ys).length = xs.length + ys.length := by rw [List.length_append]
  refine ⟨A2, c2, by rw [hl]; rfl, ?_, HG2.out⟩
  have h9 := HOW2.out
  rw [← hl] at h9
  unfold RowI
  rw [natW_len, show iv (natW (xs ++ ys)) = iv (natW xs) ++ iv (natW ys) from by unfold natW iv; rw [List.map_append, List.map_append]]
  exact h9
end Go.Proofs.Ytbdfbmohdbigfaa


namespace Go.Proofs.Ytbdfbmohdbigfaa
open Go.RowKit
set_option linter.unusedVariables false
/-- A list of words that is read, none of them nil. -/
def TsS (w : World) (A : Option Addr) (n : Nat) (Q : List (List Nat)) : Prop := Q.length = n ∧ ∀ (i : Nat) (q : List Nat), Q[i]? = some q → ∃ (b off bi oi ci : Nat), A = some ⟨b, off, none⟩ ∧ w.cell? ⟨b, off + i, none⟩ = some (.slice (some ⟨bi, oi, none⟩) q.length ci) ∧ SlI w w.heap.size (some ⟨bi, oi, none⟩) q.length (natW q) ∧ b < w.heap.size
theorem TsS.below {w w' : World} {A : Option Addr} {n : Nat} {Q : List (List Nat)} {B : Nat} (h : TsS w A n Q) (hb : Below B w w') (hB : w.heap.size ≤ B) : TsS w' A n Q :=
  ⟨h.1, fun i q hq => by
    obtain ⟨b, off, bi, oi, ci, e1, e2, e3, e4⟩ := h.2 i q hq
    exact ⟨b, off, bi, oi, ci, e1, (hb.cell (p := ⟨b, off + i, none⟩) (Nat.lt_of_lt_of_le e4 hB)).trans e2, (e3.below hb hB).more hb.size, Nat.lt_of_lt_of_le e4 hb.size⟩⟩
def biI (b : Bool) : Int := if b then 1 else 0
def kiL (L : List Bool) : List Int := L.map biI
theorem kiL_inj {L L' : List Bool} (h : kiL L = kiL L') : L = L' := by
  unfold kiL at h
  refine (List.map_inj_right (fun x y e => ?_)).1 h
  cases x <;> cases y <;> simp [biI] at e ⊢
theorem sRead_any {gm S T : Nat} {A2 : Option Addr} {n2 : Nat} (c2 : Nat) {A3 : Option Addr} {n3 : Nat} (c3 : Nat) {P : List Int} {E : List Bool} {A : Option Addr} {n : Nat} (c : Nat) {x : World} (hr : Row x gm 33 (BxP (S : Int) (T : Int) A2 n2 c2 A3 n3 c3)) (h : PlOk x S T A2 n2 A3 n3 P E) (ys : List Nat) (hx : SlI x x.heap.size A n (natW ys)) (hy : ∀ y ∈ ys, y < T) (hl : n ≤ 1000) :
    Calls Try.prog 110 #[.pointer (some ⟨gm, 0, none⟩), .slice A n c] x fun e y => e = .returned (.bool (rdP T P E ys)) ∧ Below x.heap.size x y := by
  have hS := h.hS; have hT := h.hT; have hE := h.hE
  subst hE
  have C := sRunN_any gm n3 (T : Int) A2 n2 c2 A3 c3 P E A n c (natW ys) x hr h.h2 h.h3 hx ⟨by omega, by omega⟩ ⟨by omega, by omega⟩ (by rw [h.hn]; simp) h.hP (by
    unfold allIn
    rw [List.all_eq_true]
    intro z hz
    obtain ⟨y, hy1, rfl⟩ := List.mem_map.1 hz
    have := hy y hy1
    exact decide_eq_true (by omega)) hl
  rw [rnW_nat h.hn h.h2.len h.hP (by omega) hy, Int.toNat_natCast] at C
  exact C
theorem sReadV_any {gm S T : Nat} {A2 : Option Addr} {n2 : Nat} (c2 : Nat) {A3 : Option Addr} {n3 : Nat} (c3 : Nat) {P : List Int} {E : List Bool} {A : Option Addr} {n : Nat} (c : Nat) {x : World} (hr : Row x gm 33 (BxP (S : Int) (T : Int) A2 n2 c2 A3 n3 c3)) (h : PlOk x S T A2 n2 A3 n3 P E) (ys : List Nat) (hx : SlI x x.heap.size A n (natW ys)) (hy : ∀ y ∈ ys, y < T) (hl : n ≤ 1000) (v : Bool) (hv : v = rdP T P E ys) :
    Calls Try.prog 110 #[.pointer (some ⟨gm, 0, none⟩), .slice A n c] x fun e y => e = .returned (.bool v) ∧ Below x.heap.size x y := by
  subst hv
  exact sRead_any c2 c3 c hr h ys hx hy hl
theorem kiL_len (L : List Bool) : (kiL L).length = L.length := by unfold kiL; simp
set_option maxRecDepth 100000 in
set_option maxHeartbeats 8000000 in
theorem sRow_any {gm S T : Nat} {A2 : Option Addr} {n2 : Nat} (c2 : Nat) {A3 : Option Addr} {n3 : Nat} (c3 : Nat) {P : List Int} {E : List Bool} (b off c : Nat) (wd : List Nat) {AQ : Option Addr} {nQ : Nat} (cQ : Nat) {Q : List (List Nat)} (w : World) (hr : Row w gm 33 (BxP (S : Int) (T : Int) A2 n2 c2 A3 n3 c3)) (h : PlOk w S T A2 n2 A3 n3 P E) (hx : SlI w w.heap.size (some ⟨b, off, none⟩) wd.length (natW wd)) (hy : ∀ y ∈ wd, y < T) (hl : wd.length ≤ 100) (hQ : TsS w AQ nQ Q) (hq1 : ∀ q ∈ Q, ∀ y ∈ q, y < T) (hq2 : ∀ q ∈ Q, q.length ≤ 100) (hq3 : nQ ≤ 100000) :
    Calls Try.prog 113 #[.pointer (some ⟨gm, 0, none⟩), .slice (some ⟨b, off, none⟩) wd.length c, .slice AQ nQ cQ] w fun e y => ∃ A d, e = .returned (.slice A nQ d) ∧ RowI y w.heap.size 2 (.slice A nQ d) (kiL (rkW T P E Q wd)) ∧ Below w.heap.size w y := by
  have HR := Lib.hid hr; have H := Lib.hid h; have HX := Lib.hid hx; have HY := Lib.hid hy; have HL := Lib.hid hl; have HQ := Lib.hid hQ; have HQ1 := Lib.hid hq1; have HQ2 := Lib.hid hq2; have HQ3 := Lib.hid hq3
  have HLR : Hid ((rkW T P E Q wd).length = nQ) := by show _ = _; unfold rkW; rw [List.length_map]; exact hQ.1
  have HM : Hid (RowI (w.alloc (.cells #[] 2)) w.heap.size 2 (.slice (some ⟨w.heap.size, 0, none⟩) 0 0) []) := RowI.made w w.heap.size 2 (Nat.le_refl _)
  have HB0 : Hid (Below w.heap.size w (w.alloc (.cells #[] 2))) := (Below.refl _ _).alloc (Nat.le_refl _) _
  clear hr h hx hy hl hQ hq1 hq2
  go_enter Try.func113, Try.ntmps113
  go_wp2_with fail
  go_loopg [7, 8] nQ (fun m v i wr => ∃ (k : Nat) (A : Option Addr) (d : Nat), v = .slice A k d ∧ i = .int .i64 (k : Int) ∧ k ≤ nQ ∧ nQ ≤ m + k ∧ Hid (RowI wr w.heap.size 2 (.slice A k d) (kiL ((rkW T P E Q wd).take k))) ∧ Hid (Below w.heap.size w wr))
  case atStart => exact ⟨0, _, 0, rfl, rfl, by omega, by omega, by rw [List.take_zero]; exact HM.out, HB0.out⟩
  case round =>
    clear HM HB0
    obtain ⟨k, A, d, rfl, rfl, hk, hm, HK, HB⟩ := hrel
    obtain ⟨wo, rfl⟩ : ∃ x : World, x = wr := ⟨_, rfl⟩
    have HKL : Hid ((kiL ((rkW T P E Q wd).take k)).length = k) := by show _ = _; rw [kiL_len, List.length_take, HLR.out]; omega
    by_cases hlt : k < nQ
    · obtain ⟨q, hq⟩ : ∃ q, Q[k]? = some q := ⟨_, List.getElem?_eq_getElem (by rw [HQ.out.1]; exact hlt)⟩
      obtain ⟨bq, oq, bi, oi, ci, rfl, c0, hqi, hbl⟩ := (HQ.out.below HB.out (Nat.le_refl _)).2 k q hq
      have hqm := List.mem_of_getElem? hq
      have hql := HQ2.out q hqm
      have hll := HL.out
      have q1 : (k : Int) < (nQ : Int) := by omega
      have q0 : (0 : Int) ≤ (k : Int) := by omega
      have WK : IntKind.i64.wrap ((k : Int) + 1) = (k : Int) + 1 := IntWalk.i64_in _ (by omega)
      have HYY : Hid (∀ y ∈ wd ++ q, y < T) := fun y hy => by
        rcases List.mem_append.1 hy with h | h
        · exact HY.out y h
        · exact HQ1.out q hqm y h
      have HLL : Hid (wd.length + q.length ≤ 1000) := by show _ ≤ _; omega
      have CB := Lib.hid (sBhdN_any b off c wd bi oi ci q wo ((HX.out.below HB.out (Nat.le_refl _)).more HB.out.size) hqi (by omega))
      obtain ⟨e, he⟩ : ∃ e, e = rdP T P E (wd ++ q) := ⟨_, rfl⟩
      have HTK : Hid (kiL ((rkW T P E Q wd).take (k + 1)) = kiL ((rkW T P E Q wd).take k) ++ [biI e]) := by
        show _ = _
        have hg : (rkW T P E Q wd)[k]? = some e := by unfold rkW; rw [List.getElem?_map, hq, he]; rfl
        obtain ⟨h1, h2⟩ := List.getElem?_eq_some_iff.1 hg
        rw [List.take_succ_eq_append_getElem h1, h2]; unfold kiL; rw [List.map_append]; rfl
      have HE := Lib.hid he
      have LN : Hid ((kiL ((rkW T P E Q wd).take k)).length + 1 ≤ 4294967296) := by show _ ≤ _; rw [HKL.out]; omega
      clear hqi hbl hqm hql hll hq he
      go_wp2_with fail
      refine CB.out.mono ?_
      rintro e1 w2 ⟨A', d', rfl, hrow, hb2⟩
      rw [List.length_append] at hrow
      have HB2 := Lib.hid (HB.out.trans (hb2.mono HB.out.size))
      have HK2 : Hid (RowI w2 w.heap.size 2 (.slice A k d) (kiL ((rkW T P E Q wd).take k))) := own_move HK.out (fun g hg => hb2.block g (World.ownsRow.lt HK.out g hg).2)
      have CR := Lib.hid (sReadV_any c2 c3 d' (HR.out.below HB2.out HR.out.lt) (H.out.below HB2.out (Nat.le_refl _)) (wd ++ q) (RowI.sl hrow (by rw [natW_len, List.length_append])) HYY.out HLL.out e HE.out)
      clear hrow hb2 CB c0 HK HB
      go_wp2_with fail
      refine CR.out.mono ?_
      rintro e2 w3 ⟨rfl, hb3⟩
      have HB3 := Lib.hid (HB2.out.trans (hb3.mono HB2.out.size))
      have HK3 : Hid (RowI w3 w.heap.size 2 (.slice A k d) (kiL ((rkW T P E Q wd).take k))) := own_move HK2.out (fun g hg => hb3.block g (World.ownsRow.lt HK2.out g hg).2)
      clear hb3 CR HK2 HB2 HE
      cases e
      all_goals
        go_wp2_with (first
          | (at_builtin; refine wpList_int_push w3 rfl (.tmp 25) (.tmp 27) _ rfl w.heap.size 2 Try.underlying26 infoIU (.slice A k d) (kiL ((rkW T P E Q wd).take k)) rfl HK3.out _ rfl LN.out HB3.out.size ?_; intro g6 c6 w6 hown hbl hat hgr; have HO6 := Lib.hid hown; have HB6 := Lib.hid (HB3.out.trans hbl); clear hown hbl hat hgr))
        rw [HKL.out] at HO6
        try rw [HKL.out]
        go_roundg (gk - 1)
        case measure => omega
        case rel => exact ⟨k + 1, some ⟨g6, 0, none⟩, c6, rfl, by go_num, by omega, by omega, by rw [HTK.out]; exact HO6.out, HB6.out⟩
    · have hkn : k = nQ := by omega
      subst hkn
      have l1 : (k : Int) ≤ (k : Int) := by omega
      have HT : Hid ((rkW T P E Q wd).take k = rkW T P E Q wd) := List.take_of_length_le (by rw [HLR.out]; exact Nat.le_refl _)
      go_wp2_with fail
      go_ret
      refine ⟨A, d, rfl, ?_, HB.out⟩
      have := HK.out
      rw [HT.out] at this
      exact this
end Go.Proofs.Ytbdfbmohdbigfaa


namespace Go.Proofs.Ytbdfbmohdbigfaa
open Go.RowKit
set_option linter.unusedVariables false
theorem ixL_found {α : Type} [DecidableEq α] {L : List α} {x : α} {k : Nat} (h : L[k]? = some x) (hk : ∀ j, j < k → L[j]? ≠ some x) : ixL L x = k := by
  have hmem := List.mem_of_getElem? h
  have hi := ix_at hmem
  rcases Nat.lt_trichotomy (ixL L x) k with q | q | q
  · exact absurd hi.1 (hk _ q)
  · exact q
  · exfalso
    obtain ⟨h1, h2⟩ := List.getElem?_eq_some_iff.1 h
    have := List.not_of_lt_findIdx (p := (· == x)) (xs := L) (show k < List.findIdx (· == x) L from q)
    simp [h2] at this
theorem ixL_none {α : Type} [DecidableEq α] {L : List α} {x : α} (h : ∀ j, j < L.length → L[j]? ≠ some x) : ixL L x = L.length := by
  unfold ixL
  refine List.idxOf_eq_length ?_
  intro hm
  obtain ⟨j, hj⟩ := List.getElem?_of_mem hm
  exact h j (List.getElem?_eq_some_iff.1 hj).1 hj
theorem kiL_eq (a b : List Bool) : decide (kiL a = kiL b) = decide (a = b) := by
  by_cases h : a = b
  · rw [h]; simp
  · rw [decide_eq_false h, decide_eq_false (fun e => h (kiL_inj e))]
set_option maxRecDepth 100000 in
set_option maxHeartbeats 8000000 in
theorem sAtW_any {gm S T : Nat} {A2 : Option Addr} {n2 : Nat} (c2 : Nat) {A3 : Option Addr} {n3 : Nat} (c3 : Nat) {P : List Int} {E : List Bool} {AW : Option Addr} {nW : Nat} (cW : Nat) {W : List (List Nat)} (AR : Option Addr) (cR : Nat) (r : List Bool) {AQ : Option Addr} {nQ : Nat} (cQ : Nat) {Q : List (List Nat)} (w : World) (hr : Row w gm 33 (BxP (S : Int) (T : Int) A2 n2 c2 A3 n3 c3)) (h : PlOk w S T A2 n2 A3 n3 P E) (hW : TsS w AW nW W) (hw1 : ∀ q ∈ W, ∀ y ∈ q, y < T) (hw2 : ∀ q ∈ W, q.length ≤ 100) (hw3 : nW ≤ 100000) (hR : SlI w w.heap.size AR r.length (kiL r)) (hrn : r.length ≤ 100000) (hQ : TsS w AQ nQ Q) (hq1 : ∀ q ∈ Q, ∀ y ∈ q, y < T) (hq2 : ∀ q ∈ Q, q.length ≤ 100) (hq3 : nQ ≤ 100000) :
    Calls Try.prog 112 #[.pointer (some ⟨gm, 0, none⟩), .slice AW nW cW, .slice AR r.length cR, .slice AQ nQ cQ] w fun e y => e = .returned (.int .i64 ((ixL (W.map (rkW T P E Q)) r : Nat) : Int)) ∧ Below w.heap.size w y := by
  have HR := Lib.hid hr; have H := Lib.hid h; have HW := Lib.hid hW; have HW1 := Lib.hid hw1; have HW2 := Lib.hid hw2; have HW3 := Lib.hid hw3; have HX := Lib.hid hR; have HQ := Lib.hid hQ; have HQ1 := Lib.hid hq1; have HQ2 := Lib.hid hq2; have HQ3 := Lib.hid hq3; have HRN := Lib.hid hrn
  clear hr h hW hw1 hw2 hw3 hR hQ hq1 hq2 hq3 hrn
  go_enter Try.func112, Try.ntmps112
  go_wp2_with fail
  go_loopg [9] nW (fun m i wr => ∃ (k : Nat), i = .int .i64 (k : Int) ∧ k ≤ nW ∧ nW ≤ m + k ∧ Hid (∀ j, j < k → (W.map (rkW T P E Q))[j]? ≠ some r) ∧ Hid (Below w.heap.size w wr))
  case atStart => exact ⟨0, rfl, by omega, by omega, (fun j hj => absurd hj (by omega)), Below.refl _ _⟩
  case round =>
    obtain ⟨k, rfl, hk, hm, HK, HB⟩ := hrel
    obtain ⟨wo, rfl⟩ : ∃ x : World, x = wr := ⟨_, rfl⟩
    by_cases hlt : k < nW
    · obtain ⟨wd, hwd⟩ : ∃ q, W[k]? = some q := ⟨_, List.getElem?_eq_getElem (by rw [HW.out.1]; exact hlt)⟩
      obtain ⟨bq, oq, bi, oi, ci, rfl, c0, hqi, hbl⟩ := (HW.out.below HB.out (Nat.le_refl _)).2 k wd hwd
      have hwm := List.mem_of_getElem? hwd
      have q1 : (k : Int) < (nW : Int) := by omega
      have q0 : (0 : Int) ≤ (k : Int) := by omega
      have WK : IntKind.i64.wrap ((k : Int) + 1) = (k : Int) + 1 := IntWalk.i64_in _ (by have := HW3.out; omega)
      have CR := Lib.hid (sRow_any c2 c3 bi oi ci wd cQ wo (HR.out.below HB.out HR.out.lt) (H.out.below HB.out (Nat.le_refl _)) hqi (HW1.out wd hwm) (HW2.out wd hwm) (HQ.out.below HB.out (Nat.le_refl _)) HQ1.out HQ2.out HQ3.out)
      have HG : Hid ((W.map (rkW T P E Q))[k]? = some (rkW T P E Q wd)) := by show _ = _; rw [List.getElem?_map, hwd]; rfl
      have HLK : Hid ((kiL (rkW T P E Q wd)).length = nQ) := by show _ = _; rw [kiL_len]; unfold rkW; rw [List.length_map]; exact HQ.out.1
      clear hqi hbl hwm hwd
      go_wp2_with fail
      refine CR.out.mono ?_
      rintro e1 w2 ⟨A', d', rfl, hrow, hb2⟩
      have hs := hrow.sl HLK.out
      have CE := Lib.hid (sEqL_any A' nQ d' (kiL (rkW T P E Q wd)) AR r.length cR (kiL r) w2 w2.heap.size w2.heap.size hs ((HX.out.below (HB.out.trans (hb2.mono HB.out.size)) (Nat.le_refl _)).more (Nat.le_trans HB.out.size hb2.size)) (by have := HQ3.out; omega) (by have := HRN.out; omega))
      rw [kiL_eq] at CE
      have HB2 := Lib.hid (HB.out.trans (hb2.mono HB.out.size))
      clear hrow hb2 hs CR c0
      go_wp2_with fail
      refine CE.out.mono ?_
      rintro e2 w3 ⟨rfl, d3, rfl⟩
      have HB3 := Lib.hid (below_draws HB2.out d3)
      clear CE
      by_cases he : rkW T P E Q wd = r
      · rw [decide_eq_true he]
        have HI : Hid (ixL (W.map (rkW T P E Q)) r = k) := ixL_found (by rw [HG.out, he]) HK.out
        clear he
        go_wp2_with fail
        go_ret
        exact ⟨by rw [HI.out]; rfl, HB3.out⟩
      · rw [decide_eq_false he]
        have HK2 : Hid (∀ j, j < k + 1 → (W.map (rkW T P E Q))[j]? ≠ some r) := fun j hj => by
          rcases Nat.lt_or_ge j k with q | q
          · exact HK.out j q
          · rw [show j = k by omega, HG.out]; simpa using he
        clear he
        go_wp2_with fail
        go_roundg (gk - 1)
        case measure => omega
        case rel => exact ⟨k + 1, by go_num, by omega, by omega, HK2.out, HB3.out⟩
    · have hkn : k = nW := by omega
      subst hkn
      have l1 : (k : Int) ≤ (k : Int) := by omega
      have HI : Hid (ixL (W.map (rkW T P E Q)) r = k) := by
        show _ = _
        have hl : (W.map (rkW T P E Q)).length = k := by rw [List.length_map]; exact HW.out.1
        rw [ixL_none (by rw [hl]; exact HK.out), hl]
      go_wp2_with fail
      go_ret
      exact ⟨by rw [HI.out]; rfl, HB.out⟩
end Go.Proofs.Ytbdfbmohdbigfaa


namespace Go.Proofs.Ytbdfbmohdbigfaa
set_option linter.unusedVariables false
section
variable {α : Type} [DecidableEq α] (nx : α → Nat → α) (df : α → Bool) (first : α) (T : Nat)
def fuE : Nat → List (α × List Int) → Nat → Option (List Int)
  | 0, _, _ => none
  | f + 1, L, n => match L[n]? with
    | none => none
    | some p => if df p.1 then some p.2 else fuE f (faR nx p.1 p.2 L T) (n + 1)
def fuAll : Option (List Int) := fuE nx df T 4097 [(first, [])] 0
variable {nx df first T}
theorem fuE_hit {f : Nat} {L : List (α × List Int)} {n : Nat} {p : α × List Int} (h : L[n]? = some p) (hd : df p.1 = true) : fuE nx df T (f + 1) L n = some p.2 := by
  rw [fuE, h]; exact if_pos hd
theorem fuE_miss {f : Nat} {L : List (α × List Int)} {n : Nat} {p : α × List Int} (h : L[n]? = some p) (hd : df p.1 = false) : fuE nx df T (f + 1) L n = fuE nx df T f (faR nx p.1 p.2 L T) (n + 1) := by
  rw [fuE, h]; exact if_neg (by rw [hd]; simp)
theorem fuE_end {f : Nat} {L : List (α × List Int)} {n : Nat} (h : L.length ≤ n) : fuE nx df T f L n = none := by
  cases f with
  | zero => rfl
  | succ f => rw [fuE, List.getElem?_eq_none h]
theorem faR_appL (k : α) (wd : List Int) (L : List (α × List Int)) : ∀ l, ∃ r, faR nx k wd L l = L ++ r ∧ ∀ q ∈ r, q.2.length = wd.length + 1
  | 0 => ⟨[], by simp [faR], fun q hq => by cases hq⟩
  | l + 1 => by
    obtain ⟨r, hr, hq⟩ := faR_appL k wd L l
    rw [faR]
    split
    · exact ⟨r, hr, hq⟩
    · refine ⟨r ++ [(nx k l, wd ++ [(l : Int)])], by rw [hr, List.append_assoc], fun q h => ?_⟩
      rcases List.mem_append.1 h with h | h
      · exact hq q h
      · rw [List.mem_singleton.1 h]; simp
/-- Where all that is left is long, only a long word is found. -/
theorem fuE_long : ∀ (f : Nat) (L : List (α × List Int)) (n : Nat), (∀ i p, n ≤ i → L[i]? = some p → 12 < p.2.length) → ∀ wd, fuE nx df T f L n = some wd → 12 < wd.length
  | 0, L, n, h, wd, e => by cases e
  | f + 1, L, n, h, wd, e => by
    cases hp : L[n]? with
    | none =>
      rw [fuE_end (List.getElem?_eq_none_iff.1 hp)] at e
      cases e
    | some p =>
      have hl := h n p (Nat.le_refl _) hp
      cases hd : df p.1 with
      | true =>
        rw [fuE_hit hp hd] at e
        injection e with e
        rw [← e]; exact hl
      | false =>
        rw [fuE_miss hp hd] at e
        obtain ⟨r, hr, hq⟩ := faR_appL (nx := nx) p.1 p.2 L T
        rw [hr] at e
        refine fuE_long f (L ++ r) (n + 1) (fun i q hi hg => ?_) wd e
        rcases Nat.lt_or_ge i L.length with hlt | hge
        · rw [List.getElem?_append_left hlt] at hg
          exact h i q (by omega) hg
        · rw [List.getElem?_append_right hge] at hg
          have := hq q (List.mem_of_getElem? hg)
          omega
/-- The bounded search against the unbounded one. -/
theorem fuE_cut : ∀ (f : Nat) (L R : List (α × List Int)) (n : Nat), FaI nx df first T L n → (R = [] ∨ ∀ i p, n ≤ i → L[i]? = some p → p.2.length = 12) → (∀ r ∈ R, 12 < r.2.length) →
    faE nx df T f L n = (fuE nx df T f (L ++ R) n).bind fun wd => if wd.length ≤ 12 then some wd else none
  | 0, L, R, n, h, hR, hr => rfl
  | f + 1, L, R, n, h, hR, hr => by
    cases hp : L[n]? with
    | none =>
      have hge := List.getElem?_eq_none_iff.1 hp
      rw [faE_end hge]
      have hl := fuE_long (nx := nx) (df := df) (T := T) (f + 1) (L ++ R) n (fun i p hi hg => by
        rw [List.getElem?_append_right (by omega)] at hg
        exact hr p (List.mem_of_getElem? hg))
      cases hx : fuE nx df T (f + 1) (L ++ R) n with
      | none => rfl
      | some wd =>
        have := hl wd hx
        show none = if wd.length ≤ 12 then some wd else none
        rw [if_neg (by omega)]
    | some p =>
      have hpR : (L ++ R)[n]? = some p := get_left hp
      obtain ⟨h12, -⟩ := h.wd n p hp
      cases hd : df p.1 with
      | true =>
        rw [faE_hit hp hd, fuE_hit hpR hd]
        show some p.2 = if p.2.length ≤ 12 then some p.2 else none
        rw [if_pos h12]
      | false =>
        rw [faE_miss hp hd, fuE_miss hpR hd]
        have hn := h.next hp hd
        by_cases e : p.2.length = 12
        · obtain ⟨r, hr', hq⟩ := faR_appL (nx := nx) p.1 p.2 (L ++ R) T
          rw [hr', List.append_assoc]
          have hS : faS nx T L p = L := by unfold faS; rw [if_pos e]
          rw [hS] at hn ⊢
          refine fuE_cut f L (R ++ r) (n + 1) hn (.inr fun i q hi hg => ?_) (fun q hm => ?_)
          · have h1 := (h.wd i q hg).1
            have h2 := h.mono n i p q (by omega) hp hg
            omega
          · rcases List.mem_append.1 hm with hm | hm
            · exact hr q hm
            · have := hq q hm; omega
        · have hR0 : R = [] := by
            rcases hR with hR | hR
            · exact hR
            · exact absurd (hR n p (Nat.le_refl _) hp) e
          subst hR0
          have hS : faS nx T L p = faR nx p.1 p.2 L T := by unfold faS; rw [if_neg e]
          rw [hS] at hn ⊢
          have := fuE_cut f (faR nx p.1 p.2 L T) [] (n + 1) hn (.inl rfl) (fun q hm => by cases hm)
          rw [List.append_nil] at this ⊢
          exact this
theorem fuAll_cut : faAll nx df first T = (fuAll nx df first T).bind fun wd => if wd.length ≤ 12 then some wd else none := by
  have := fuE_cut (nx := nx) (df := df) (T := T) 4097 [(first, [])] [] 0 FaI.start (.inl rfl) (fun q hm => by cases hm)
  rw [List.append_nil] at this
  exact this
end
section
variable {α : Type} {nx : α → Nat → α} {first : α} {T : Nat}
/-- What holds of the queue. -/
structure FuN (nx : α → Nat → α) (first : α) (T : Nat) (L : List (α × List Int)) : Prop where
  nd : (L.map Prod.fst).Nodup
  wd : ∀ (i : Nat) (p : α × List Int), L[i]? = some p → p.2.length ≤ i ∧ ∃ xs : List Nat, p.2 = xs.map (fun (x : Nat) => (x : Int)) ∧ (∀ x ∈ xs, x < T) ∧ xs.foldl nx first = p.1
theorem FuN.start : FuN nx first T [(first, [])] where
  nd := by simp
  wd := fun i p h => by
    cases i with
    | zero => simp at h; subst h; exact ⟨by simp, [], rfl, (fun x hx => by cases hx), rfl⟩
    | succ i => simp at h
theorem FuN.push {L : List (α × List Int)} (h : FuN nx first T L) {n l : Nat} {p : α × List Int} (hp : L[n]? = some p) (hl : l < T) (hin : nx p.1 l ∉ L.map Prod.fst) : FuN nx first T (L ++ [(nx p.1 l, p.2 ++ [(l : Int)])]) := by
  refine ⟨?_, fun i q hq => ?_⟩
  · rw [List.map_append, List.nodup_append]
    refine ⟨h.nd, by simp, fun a ha b hb => ?_⟩
    have : b = nx p.1 l := by simpa using hb
    subst this
    exact fun e => hin (e ▸ ha)
  · rcases get_snoc hq with hq | ⟨hi, rfl⟩
    · exact h.wd i q hq
    · obtain ⟨e1, xs, e2, e3, e4⟩ := h.wd n p hp
      have hn := (List.getElem?_eq_some_iff.1 hp).1
      refine ⟨by simp; omega, xs ++ [l], by simp [e2], fun x hx => ?_, by rw [List.foldl_append, e4]; rfl⟩
      rcases List.mem_append.1 hx with hx | hx
      · exact e3 x hx
      · rw [show x = l from by simpa using hx]; exact hl
end
/-- Pairs of states of two machines. -/
theorem fuN_len {nx : Nat × Nat → Nat → Nat × Nat} {T Sa Sb : Nat} (ha : Sa ≤ 64) (hb : Sb ≤ 64) (h0 : 0 < Sa ∧ 0 < Sb) (hnx : ∀ p j, p.1 < Sa → p.2 < Sb → j < T → (nx p j).1 < Sa ∧ (nx p j).2 < Sb) {L : List ((Nat × Nat) × List Int)} (h : FuN nx (0, 0) T L) :
    (∀ p ∈ L, p.1.1 < Sa ∧ p.1.2 < Sb) ∧ L.length ≤ 4096 := by
  have hin : ∀ p ∈ L, p.1.1 < Sa ∧ p.1.2 < Sb := by
    intro p hp
    obtain ⟨i, hi⟩ := List.getElem?_of_mem hp
    obtain ⟨-, xs, -, e3, e4⟩ := h.wd i p hi
    rw [← e4]
    have : ∀ (xs : List Nat) (p : Nat × Nat), p.1 < Sa → p.2 < Sb → (∀ x ∈ xs, x < T) → (xs.foldl nx p).1 < Sa ∧ (xs.foldl nx p).2 < Sb := by
      intro xs
      induction xs with
      | nil => intro p h1 h2 _; exact ⟨h1, h2⟩
      | cons x xs ih =>
        intro p h1 h2 h3
        have := hnx p x h1 h2 (h3 x (by simp))
        exact ih _ this.1 this.2 (fun y hy => h3 y (List.mem_cons_of_mem _ hy))
    exact this xs (0, 0) h0.1 h0.2 e3
  refine ⟨hin, ?_⟩
  have hl := nodup_le 4096 (L.map fun p => p.1.1 * 64 + p.1.2) ?_ ?_
  · simpa using hl
  · have e : (L.map fun p => p.1.1 * 64 + p.1.2) = (L.map Prod.fst).map fun q => q.1 * 64 + q.2 := by rw [List.map_map]; rfl
    rw [e]
    refine List.pairwise_map.2 (List.Pairwise.imp_of_mem (fun {a b} ha' hb' hne he => ?_) h.nd)
    obtain ⟨p, hp, rfl⟩ := List.mem_map.1 ha'
    obtain ⟨q, hq, rfl⟩ := List.mem_map.1 hb'
    have h1 := hin p hp
    have h2 := hin q hq
    refine hne (Prod.ext ?_ ?_)
    · show p.1.1 = q.1.1
      have he' : p.1.1 * 64 + p.1.2 = q.1.1 * 64 + q.1.2 := he
      omega
    · show p.1.2 = q.1.2
      have he' : p.1.1 * 64 + p.1.2 = q.1.1 * 64 + q.1.2 := he
      omega
  · intro x hx
    obtain ⟨p, hp, rfl⟩ := List.mem_map.1 hx
    have := hin p hp
    omega
/-- The number of a pair. -/
def cdP (Sb : Nat) (p : Nat × Nat) : Int := (p.1 : Int) * (Sb : Int) + (p.2 : Int)
theorem cdP_nat (Sb : Nat) (p : Nat × Nat) : cdP Sb p = ((p.1 * Sb + p.2 : Nat) : Int) := by unfold cdP; simp
theorem cdP_div {Sb : Nat} {p : Nat × Nat} (h : p.2 < Sb) : (p.1 * Sb + p.2) / Sb = p.1 ∧ (p.1 * Sb + p.2) % Sb = p.2 := by
  rw [Nat.mul_comm]
  exact ⟨by rw [Nat.mul_add_div (by omega), Nat.div_eq_of_lt h, Nat.add_zero], by rw [Nat.mul_add_mod, Nat.mod_eq_of_lt h]⟩
theorem cdP_inj {Sb : Nat} {p q : Nat × Nat} (h1 : p.2 < Sb) (h2 : q.2 < Sb) (h : cdP Sb p = cdP Sb q) : p = q := by
  rw [cdP_nat, cdP_nat] at h
  have h' : p.1 * Sb + p.2 = q.1 * Sb + q.2 := by omega
  have a := cdP_div h1
  have b := cdP_div h2
  rw [h'] at a
  exact Prod.ext (a.1.symm.trans b.1) (a.2.symm.trans b.2)
theorem cdP_mem {Sb : Nat} {L : List ((Nat × Nat) × List Int)} {q : Nat × Nat} (hL : ∀ p ∈ L, p.1.2 < Sb) (hq : q.2 < Sb) : cdP Sb q ∈ L.map (fun p => cdP Sb p.1) ↔ q ∈ L.map Prod.fst := by
  constructor
  · intro h
    obtain ⟨p, hp, e⟩ := List.mem_map.1 h
    have := cdP_inj (hL p hp) hq e
    exact List.mem_map.2 ⟨p, hp, this⟩
  · intro h
    obtain ⟨p, hp, rfl⟩ := List.mem_map.1 h
    exact List.mem_map.2 ⟨p, hp, rfl⟩
end Go.Proofs.Ytbdfbmohdbigfaa


namespace Go.Proofs.Ytbdfbmohdbigfaa
open Go.RowKit
set_option linter.unusedVariables false
set_option maxHeartbeats 2000000 in
theorem sIndex_any (base : Nat) (A : Option Addr) (n c : Nat) (ls : List Int) (x : Int) (w : World) (h : RowI w base 2 (.slice A n c) ls) (hn : ls.length = n) (hb : base ≤ w.heap.size) (hl : n ≤ 100000) :
    Calls Try.prog 66 #[.slice A n c, .int .i64 x] w fun e w' => ∃ A' c', e = .returned (.tuple #[.int .i64 (((addL ls x).idxOf x : Nat) : Int), .slice A' (addL ls x).length c']) ∧ RowI w' base 2 (.slice A' (addL ls x).length c') (addL ls x) ∧ w.grownBy w' (Value.slice A n c).ownBlock ∧ (∀ k, (Value.slice A' (addL ls x).length c').ownBlock = some k → (Value.slice A n c).ownBlock = some k ∨ w.heap.size ≤ k) := by
  have hs := h.sl hn
  have H := Lib.hid h; have HS := Lib.hid hs; have HN := Lib.hid hn; have HB := Lib.hid hb
  clear h hs hn
  go_enter Try.func66, Try.ntmps66
  go_wp2_with fail
  go_loopg [6] n (fun m i wr => ∃ k : Nat, i = .int .i64 k ∧ k ≤ n ∧ n ≤ m + k ∧ Hid (∀ j, j < k → ls[j]? ≠ some x) ∧ w = wr)
  case atStart => exact ⟨0, rfl, by omega, by omega, fun j hj => absurd hj (by omega), rfl⟩
  case round =>
    obtain ⟨k, rfl, hk, hm, HK, rfl⟩ := hrel
    by_cases hlt : k < n
    · obtain ⟨b, off, y, rfl, hbB, hy, hc⟩ := HS.out.at_ hlt
      have l0 : (0 : Int) ≤ (k : Int) := by omega
      have l1 : (k : Int) < (n : Int) := by omega
      by_cases he : y = x
      · have z1 : (y == x) = true := by simp [he]
        have hmem : x ∈ ls := by rw [← he]; exact List.mem_of_getElem? hy.out
        have HA : Hid (addL ls x = ls) := addL_in hmem
        have HI : Hid (ls.idxOf x = k) := by
          show _ = _
          obtain ⟨h1, h2⟩ := List.getElem?_eq_some_iff.1 hy.out
          have hle : ls.idxOf x ≤ k := by
            rcases Nat.lt_or_ge k (ls.idxOf x) with q | q
            · exfalso
              have := List.not_of_lt_findIdx (p := (· == x)) (xs := ls) q
              rw [h2, he] at this; simp at this
            · exact q
          rcases Nat.lt_or_ge (ls.idxOf x) k with q | q
          · exfalso
            have hl2 := List.idxOf_lt_length_of_mem hmem
            exact HK.out _ q (by rw [List.getElem?_eq_getElem hl2, List.getElem_idxOf hl2])
          · omega
        clear he hmem
        go_wp2_with fail
        go_ret2
        refine ⟨some ⟨b, off, none⟩, c, ?_, ?_, ⟨rfl, rfl, rfl, Nat.le_refl _, fun _ _ _ => rfl⟩, ?_⟩
        · rw [HA.out, HI.out, HN.out]; rfl
        · rw [HA.out, HN.out]; exact H.out
        · rw [HA.out, HN.out]; exact fun k hk => .inl hk
      · have z1 : (y == x) = false := by simp [he]
        have HK2 : Hid (∀ j, j < k + 1 → ls[j]? ≠ some x) := fun j hj => by
          rcases Nat.lt_or_ge j k with q | q
          · exact HK.out j q
          · rw [show j = k by omega, hy.out]; simpa using he
        clear he
        go_wp2_with fail
        go_roundg (gk - 1)
        case measure => omega
        case rel => exact ⟨k + 1, by go_num, by omega, by omega, HK2.out, rfl⟩
    · have hkn : k = n := by omega
      have hnot : x ∉ ls := fun hm => by
        obtain ⟨j, hj, e⟩ := List.getElem_of_mem hm
        exact HK.out j (by have := HN.out; omega) (by rw [List.getElem?_eq_getElem hj, e])
      have HA : Hid (addL ls x = ls ++ [x]) := addL_new hnot
      have HI : Hid ((ls ++ [x]).idxOf x = n) := by show _ = _; rw [idx_end hnot]; exact HN.out
      have HLE : Hid ((ls ++ [x]).length = n + 1) := by show _ = _; rw [List.length_append, HN.out]; rfl
      have hlen : Hid (ls.length + 1 ≤ 4294967296) := by show _ ≤ _; have := HN.out; omega
      have l1 : (n : Int) ≤ (k : Int) := by omega
      have dl : decide (k < n) = false := decide_eq_false hlt
      clear hkn hnot hlt
      go_wp2_with (first | (at_builtin; refine wpList_int_push w rfl (.tmp 23) (.tmp 25) _ rfl base 2 Try.underlying26 infoQ (.slice A n c) ls rfl H.out x rfl hlen.out HB.out ?_; intro g' cap w' hown hbl hat hgr; have HOW := Lib.hid hown; have HGR := Lib.hid hgr; have HAT := Lib.hid hat; clear hown hbl hat hgr))
      go_ret2
      refine ⟨some ⟨g', 0, none⟩, cap, ?_, ?_, HGR.out, ?_⟩
      · rw [HA.out, HI.out, HLE.out, ← HN.out]; rfl
      · rw [HA.out, HLE.out, ← HN.out]; exact HOW.out
      · rw [HA.out, HLE.out]
        intro j hj
        simp [Value.ownBlock] at hj
        subst hj
        exact HAT.out
end Go.Proofs.Ytbdfbmohdbigfaa
