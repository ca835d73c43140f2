/- Several texts in one: rowKey of the program: what a teacher says of a word behind which each test is put, as a string of digits. Strings of digits as keys; the words that a guess is made of, in memory. Small functions of LearnPlain: l02At, l02Run, l02Equal of the reference; slices.Equal of the program. -/
import Derived.Test.YtbdfbmohdbigfaaMgx
import Derived.Test.YtbdfbmohdbigfaaMha
import Derived.Test.YtbdfbmohdbigfaaMgv
import Derived.Test.YtbdfbmohdbigfaaExwU
import Derived.Test.YtbdfbmohdbigfaaMgr
import Derived.Test.YtbdfbmohdbigfaaMgz
import Derived.Deep.QuietTactic
import Derived.BigQuiet
import Derived.Deep.RegionHeld3

namespace Go.Proofs.Ytbdfbmohdbigfaa
open Go.RowKit
set_option linter.unusedVariables false
set_option maxHeartbeats 2000000 in
theorem iStateN_any (S : Nat) (T : Int) (A2 : Option Addr) (n2 c2 : Nat) (A3 : Option Addr) (n3 c3 : Nat) (t : List Int) (A : Option Addr) (n c : Nat) (xs : List Int) (w : World) (h : SlI w w.heap.size A2 n2 t) (hx : SlI w w.heap.size A n xs) (hS : 0 < S ∧ S ≤ 64) (hT : 1 ≤ T ∧ T ≤ 4) (hn2 : (n2 : Int) = (S : Int) * T) (ht : ∀ x ∈ t, 0 ≤ x ∧ x < (S : Int)) (hw : allIn xs 0 (T - 1) = true) (hn : n ≤ 1000) :
    Calls Try.prog 117 #[.agg #[.int .i64 (S : Int), .int .i64 T, .slice A2 n2 c2, .slice A3 n3 c3], .slice A n c] w fun e w' => e = .returned (.int .i64 (rnW t T xs)) ∧ Below w.heap.size w w' := by
  have rb := Row.new w 33 (BxP (S : Int) T A2 n2 c2 A3 n3 c3)
  have bx : Below w.heap.size w (w.alloc (.cells (BxP (S : Int) T A2 n2 c2 A3 n3 c3).toArray 33)) := (Below.refl _ _).alloc (Nat.le_refl _) _
  have hl := hx.len
  have H := Lib.hid h; have HX := Lib.hid hx; have RB := Lib.hid rb; have BX := Lib.hid bx; have HW := Lib.hid hw; have HL := Lib.hid hl
  have HR := Lib.hid (fun k => rnW_bd (T := T) hS.1 ht (xs.take k))
  have HN2 := Lib.hid hn2
  clear h hx rb bx hw hl ht hn2
  go_enter Try.func117, Try.ntmps117
  go_wp2_with fail
  go_loopg [5, 10] n (fun m s i wr => ∃ k : Nat, i = .int .i64 k ∧ k ≤ n ∧ n ≤ m + k ∧ s = .int .i64 (rnW t T (xs.take k)) ∧ Hid (Row wr w.heap.size 33 (BxP (S : Int) T A2 n2 c2 A3 n3 c3)) ∧ Hid (Below w.heap.size w wr))
  case atStart => exact ⟨0, rfl, by omega, by omega, rfl, RB.out, BX.out⟩
  case round =>
    clear RB BX
    obtain ⟨k, rfl, hk, hm, rfl, RB, BX⟩ := hrel
    obtain ⟨wo, rfl⟩ : ∃ x : World, x = wr := ⟨_, rfl⟩
    by_cases hlt : k < n
    · have q1 : (k : Int) < (n : Int) := by omega
      have q0 : (0 : Int) ≤ (k : Int) := by omega
      obtain ⟨b, off, x, rfl, _, hx, kx⟩ := (HX.out.below BX.out (Nat.le_refl _)).at_ hlt
      have hxb := word_at HW.out hx.out
      have hsb := HR.out k
      have HE := Lib.hid (rnW_take (t := t) (T := T) hx.out)
      obtain ⟨s, hs⟩ : ∃ s, s = rnW t T (xs.take k) := ⟨_, rfl⟩
      rw [← hs] at hsb ⊢
      have HE2 : Hid (rnW t T (xs.take (k + 1)) = t.getD (s * T + x).toNat 0) := by show _ = _; rw [HE.out, ← hs]
      have hn2 := HN2.out
      have hsT : (s + 1) * T ≤ (S : Int) * T := Int.mul_le_mul_of_nonneg_right (by omega) (by omega)
      have hsT0 : 0 ≤ s * T := Int.mul_nonneg hsb.1 (by omega)
      have hST : (S : Int) * T ≤ 64 * 4 := Int.mul_le_mul (by omega) (by omega) (by omega) (by omega)
      rw [Int.add_mul, Int.one_mul] at hsT
      have C := iTo_any (S : Int) T A2 n2 c2 A3 n3 c3 t s x (s * T + x).toNat wo ((H.out.below BX.out (Nat.le_refl _)).more BX.out.size) (by omega) (by omega) (by omega) (by omega) (by omega) (by omega)
      have r0 := RB.out.cell 0; have r1 := RB.out.cell 1; have r2 := RB.out.cell 2; have r3 := RB.out.cell 3
      clear hn2 hsT hsT0 hST hs HE
      go_wp2_with fail
      refine C.mono ?_; rintro e w1 ⟨rfl, hb1⟩
      have RB1 := Lib.hid (RB.out.below hb1 RB.out.lt)
      have BX1 : Hid (Below w.heap.size w w1) := BX.out.trans (hb1.mono BX.out.size)
      clear C hb1 r0 r1 r2 r3 kx
      go_wp2_with fail
      go_roundg (gk - 1)
      case measure => omega
      case rel => exact ⟨k + 1, by go_num, by omega, by omega, by have h9 := HE2.out; simp only [List.getD_eq_getElem?_getD] at h9 ⊢; rw [h9], RB1.out, BX1.out⟩
    · have q1 : (n : Int) ≤ (k : Int) := by omega
      have HT : Hid (rnW t T (xs.take k) = rnW t T xs) := by show _ = _; rw [List.take_of_length_le (by have := HL.out; omega)]
      go_wp2_with fail
      go_ret
      exact ⟨ret_int HT.out, BX.out⟩
theorem iStateP_any {S T : Nat} {A2 : Option Addr} {n2 : Nat} (c2 : Nat) {A3 : Option Addr} {n3 : Nat} (c3 : Nat) {P : List Int} {E : List Bool} {A : Option Addr} {n : Nat} (c : Nat) {x : World} (h : PlOk x S T A2 n2 A3 n3 P E) (ys : List Nat) (hx : SlI x x.heap.size A n (natW ys)) (hy : ∀ y ∈ ys, y < T) (hl : n ≤ 1000) :
    Calls Try.prog 117 #[.agg #[.int .i64 (S : Int), .int .i64 (T : Int), .slice A2 n2 c2, .slice A3 n3 c3], .slice A n c] x fun e y => e = .returned (.int .i64 ((ys.foldl (plT T P) 0 : Nat) : Int)) ∧ Below x.heap.size x y := by
  have hS := h.hS; have hT := h.hT
  have C := iStateN_any S (T : Int) A2 n2 c2 A3 n3 c3 P A n c (natW ys) x h.h2 hx ⟨by omega, by omega⟩ ⟨by omega, by omega⟩ (by rw [h.hn]; simp) h.hP (by
    unfold allIn
    rw [List.all_eq_true]
    intro z hz
    obtain ⟨y, hy1, rfl⟩ := List.mem_map.1 hz
    have := hy y hy1
    exact decide_eq_true (by omega)) hl
  rw [rnW_nat h.hn h.h2.len h.hP (by omega) hy] at C
  exact C
/-- A list of words that is read. -/
def TsO (w : World) (A : Option Addr) (n : Nat) (Q : List (List Nat)) : Prop := Q.length = n ∧ ∀ (i : Nat) (q : List Nat), Q[i]? = some q → ∃ (b off : Nat) (Ai : Option Addr) (ci : Nat), A = some ⟨b, off, none⟩ ∧ w.cell? ⟨b, off + i, none⟩ = some (.slice Ai q.length ci) ∧ SlI w w.heap.size Ai q.length (natW q) ∧ b < w.heap.size
theorem TsO.below {w w' : World} {A : Option Addr} {n : Nat} {Q : List (List Nat)} {B : Nat} (h : TsO w A n Q) (hb : Below B w w') (hB : w.heap.size ≤ B) : TsO w' A n Q :=
  ⟨h.1, fun i q hq => by
    obtain ⟨b, off, Ai, ci, e1, e2, e3, e4⟩ := h.2 i q hq
    exact ⟨b, off, Ai, ci, e1, (hb.cell (p := ⟨b, off + i, none⟩) (Nat.lt_of_lt_of_le e4 hB)).trans e2, (e3.below hb hB).more hb.size, Nat.lt_of_lt_of_le e4 hb.size⟩⟩
def kbL (L : List Bool) : List UInt8 := L.map fun b => if b then 49 else 48
theorem kbL_len (L : List Bool) : (kbL L).length = L.length := by simp [kbL]
/-- The key of a row. -/
def kbS (L : List Bool) : ByteArray := ⟨(kbL L).toArray⟩
set_option maxRecDepth 100000 in
set_option maxHeartbeats 8000000 in
theorem iRowKey_any {S T : Nat} {A2 : Option Addr} {n2 : Nat} (c2 : Nat) {A3 : Option Addr} {n3 : Nat} (c3 : Nat) {P : List Int} {E : List Bool} {A : Option Addr} {n : Nat} (c : Nat) {AQ : Option Addr} {nQ : Nat} (cQ : Nat) {Q : List (List Nat)} (w : World) (h : PlOk w S T A2 n2 A3 n3 P E) (wd : List Nat) (hx : SlI w w.heap.size A n (natW wd)) (hwd : ∀ y ∈ wd, y < T) (hl : n ≤ 1000) (hQ : TsO w AQ nQ Q) (hq1 : ∀ q ∈ Q, ∀ y ∈ q, y < T) (hq2 : ∀ q ∈ Q, q.length ≤ 1000) (hq3 : Q.length ≤ 100000) :
    Calls Try.prog 115 #[.agg #[.int .i64 (S : Int), .int .i64 (T : Int), .slice A2 n2 c2, .slice A3 n3 c3], .slice A n c, .slice AQ nQ cQ] w fun e w' => e = .returned (.string (kbS (rkW T P E Q wd))) ∧ Below w.heap.size w w' := by
  have rb := Row.new w 33 (BxP (S : Int) (T : Int) A2 n2 c2 A3 n3 c3)
  have bx : Below w.heap.size w (w.alloc (.cells (BxP (S : Int) (T : Int) A2 n2 c2 A3 n3 c3).toArray 33)) := (Below.refl _ _).alloc (Nat.le_refl _) _
  obtain ⟨x0, hx0⟩ : ∃ x, x = w.alloc (.cells (BxP (S : Int) (T : Int) A2 n2 c2 A3 n3 c3).toArray 33) := ⟨_, rfl⟩
  have hsz : x0.heap.size = w.heap.size + 1 := by rw [hx0]; simp
  rw [← hx0] at rb bx
  have RB := Lib.hid rb; have BX := Lib.hid bx
  have H := Lib.hid (h.below bx (Nat.le_refl _)); have HX := Lib.hid ((hx.below bx (Nat.le_refl _)).more bx.size); have HQ := Lib.hid (hQ.below bx (Nat.le_refl _))
  have HB0 := Lib.hid (OwnB.made x0 x0.heap.size (Nat.le_refl _))
  have HX1 : Hid (Below x0.heap.size x0 (x0.alloc (.cells #[] 5))) := (Below.refl _ _).alloc (Nat.le_refl _) _
  have hnQ := hQ.1
  have HNQ := Lib.hid hnQ; have HQ1 := Lib.hid hq1; have HQ2 := Lib.hid hq2; have HQ3 := Lib.hid hq3; have HWD := Lib.hid hwd; have HL := Lib.hid hl; have HSZ := Lib.hid hsz
  have C0 : Hid (Calls Try.prog 117 #[.agg #[.int .i64 (S : Int), .int .i64 (T : Int), .slice A2 n2 c2, .slice A3 n3 c3], .slice A n c] (x0.alloc (.cells #[] 5)) fun e y => e = .returned (.int .i64 ((wd.foldl (plT T P) 0 : Nat) : Int)) ∧ Below (x0.alloc (.cells #[] 5)).heap.size (x0.alloc (.cells #[] 5)) y) := iStateP_any c2 c3 c (H.out.below HX1.out (Nat.le_refl _)) wd ((HX.out.below HX1.out (Nat.le_refl _)).more HX1.out.size) hwd hl
  obtain ⟨s0, hs0⟩ : ∃ s, s = wd.foldl (plT T P) 0 := ⟨_, rfl⟩
  have hs0b : s0 < S := by rw [hs0]; exact plF_lt h.hn h.h2.len h.hP wd 0 (by have := h.hS; omega) hwd
  rw [← hs0] at C0
  have HS0 := Lib.hid hs0; have HS0B := Lib.hid hs0b
  have k0 := RB.out.alloc (.cells #[] 5) |>.cell 0; have k1 := RB.out.alloc (.cells #[] 5) |>.cell 1; have k2 := RB.out.alloc (.cells #[] 5) |>.cell 2; have k3 := RB.out.alloc (.cells #[] 5) |>.cell 3
  have HX0 := Lib.hid hx0
  obtain ⟨w1, hw1⟩ : ∃ y, y = x0.alloc (.cells #[] 5) := ⟨_, rfl⟩
  rw [← hw1] at C0 HB0 HX1 k0 k1 k2 k3
  have HW1 : Hid (w1 = (w.alloc (.cells (BxP (S : Int) (T : Int) A2 n2 c2 A3 n3 c3).toArray 33)).alloc (.cells #[] 5)) := by show _ = _; rw [hw1, hx0]
  clear h hx hQ rb bx hsz hnQ hq1 hq2 hq3 hwd hl hs0 hs0b hx0 hw1
  go_enter Try.func115, Try.ntmps115
  go_upto_region 2 with fail
  rw [← HW1.out]
  go_wp2_with fail
  clear k0 k1 k2 k3
  refine C0.out.mono ?_
  rintro e w2 ⟨rfl, hb2⟩
  have HB2 : Hid (OwnB w2 x0.heap.size x0.heap.size 0 []) := own_move HB0.out (fun k hk => hb2.block k (World.ownsRow.lt HB0.out k hk).2)
  have HX2 := Lib.hid (HX1.out.trans (hb2.mono HX1.out.size))
  clear hb2 C0 HB0 HX1
  go_wp2_with fail
  try rw [← HSZ.out]
  go_loopg [7, 20] nQ (fun m key i wr => ∃ (k g ck : Nat), key = .slice (some ⟨g, 0, none⟩) k ck ∧ i = .int .i64 (k : Int) ∧ k ≤ nQ ∧ nQ ≤ m + k ∧ Hid (OwnB wr x0.heap.size g ck (kbL ((rkW T P E Q wd).take k))) ∧ Hid (Below x0.heap.size x0 wr))
  case atStart => exact ⟨0, x0.heap.size, 0, by first | rfl | (rw [HSZ.out]), rfl, by omega, by omega, by rw [List.take_zero]; exact HB2.out, HX2.out⟩
  case round =>
    clear HB2 HX2
    obtain ⟨k, g, ck, rfl, rfl, hk, hm, HK, HB⟩ := hrel
    obtain ⟨wo, rfl⟩ : ∃ x : World, x = wr := ⟨_, rfl⟩
    obtain ⟨gq, hgq⟩ : ∃ q : Nat, q = gk := ⟨_, rfl⟩
    rw [← hgq] at hm
    have HLR : Hid ((rkW T P E Q wd).length = nQ) := by show _ = _; unfold rkW; rw [List.length_map]; exact HNQ.out
    have HKL : Hid ((kbL ((rkW T P E Q wd).take k)).length = k) := by show _ = _; rw [kbL_len, List.length_take, HLR.out]; omega
    by_cases hlt : k < nQ
    · obtain ⟨q, hq⟩ : ∃ q, Q[k]? = some q := ⟨_, List.getElem?_eq_getElem (by rw [HNQ.out]; exact hlt)⟩
      obtain ⟨b, off, Ai, ci, rfl, c0, hqi, hbl⟩ := (HQ.out.below HB.out (Nat.le_refl _)).2 k q hq
      have HQI := Lib.hid hqi
      have hq2 := HQ2.out q (List.mem_of_getElem? hq)
      have HQT := Lib.hid (HQ1.out q (List.mem_of_getElem? hq))
      have q1 : (k : Int) < (nQ : Int) := by omega
      have q0 : (0 : Int) ≤ (k : Int) := by omega
      have HGE := Lib.hid hq
      have hn12 := HNQ.out; have hn13 := HQ3.out
      have hwk : IntKind.i64.wrap ((k : Int) + 1) = (k : Int) + 1 := IntWalk.i64_in _ (by omega)
      clear hqi hbl hq hn12 hn13
      go_wp2_with fail
      clear c0
      go_loopg [11, 27] q.length (fun m s i wr => ∃ j : Nat, s = .int .i64 (((q.take j).foldl (plT T P) s0 : Nat) : Int) ∧ i = .int .i64 (j : Int) ∧ j ≤ q.length ∧ q.length ≤ m + j ∧ Hid (Below wo.heap.size wo wr))
      case atStart => exact ⟨0, rfl, rfl, by omega, by omega, Below.refl _ _⟩
      case round =>
        obtain ⟨j, rfl, rfl, hj, hmj, HBj⟩ := hrel
        obtain ⟨wi, rfl⟩ : ∃ x : World, x = wr := ⟨_, rfl⟩
        have HBi := Lib.hid (HB.out.trans (HBj.out.mono HB.out.size))
        have HSB : Hid ((q.take j).foldl (plT T P) s0 < S) := plF_lt H.out.hn H.out.h2.len H.out.hP (q.take j) s0 HS0B.out (fun y hy => HQT.out y (List.mem_of_mem_take hy))
        by_cases hlt2 : j < q.length
        · have r1 : (j : Int) < (q.length : Int) := by omega
          have r0 : (0 : Int) ≤ (j : Int) := by omega
          obtain ⟨b', off', x, rfl, -, hx, cx⟩ := (HQI.out.below HBj.out (Nat.le_refl _)).at_ hlt2
          have hxx : x = ((q[j] : Nat) : Int) := by
            have := hx.out
            unfold natW at this
            rw [List.getElem?_map, List.getElem?_eq_getElem hlt2] at this
            simpa using this.symm
          subst hxx
          have HTK : Hid ((q.take (j + 1)).foldl (plT T P) s0 = plT T P ((q.take j).foldl (plT T P) s0) q[j]) := by
            show _ = _
            rw [List.take_succ_eq_append_getElem hlt2, List.foldl_append]; rfl
          have hql := HQT.out q[j] (List.getElem_mem hlt2)
          obtain ⟨s, hs⟩ : ∃ s, s = (q.take j).foldl (plT T P) s0 := ⟨_, rfl⟩
          obtain ⟨l, hl⟩ : ∃ l, l = q[j] := ⟨_, rfl⟩
          rw [← hs] at HSB HTK ⊢
          rw [← hl] at HTK cx hql
          have C := iToN_any c2 c3 s l wi (H.out.below HBi.out (Nat.le_refl _)) HSB.out hql
          have rr := RB.out.below HBi.out RB.out.lt
          have k0 := rr.cell 0; have k1 := rr.cell 1; have k2 := rr.cell 2; have k3 := rr.cell 3
          clear hs hl hx rr hql
          go_wp2_with fail
          refine C.mono ?_
          rintro e wj ⟨rfl, hbj⟩
          have HBJ := Lib.hid (HBj.out.trans (hbj.mono HBj.out.size))
          clear C hbj k0 k1 k2 k3 cx
          go_wp2_with fail
          go_roundg (gk - 1)
          case measure => omega
          case rel => exact ⟨j + 1, by rw [HTK.out], by go_num, by omega, by omega, HBJ.out⟩
        · have hjq : j = q.length := by omega
          have HTA : Hid ((q.take j).foldl (plT T P) s0 = q.foldl (plT T P) s0) := by show _ = _; rw [List.take_of_length_le (by omega)]
          rw [HTA.out] at HSB ⊢
          have r1 : (q.length : Int) ≤ (j : Int) := by omega
          obtain ⟨s, hs⟩ : ∃ s, s = q.foldl (plT T P) s0 := ⟨_, rfl⟩
          have hrk : rdP T P E (wd ++ q) = E.getD s false := by rw [hs, HS0.out]; exact rd_app wd q
          rw [← hs] at HSB ⊢
          have hsn : s < n3 := by rw [H.out.hE]; exact HSB.out
          obtain ⟨b3, o3, y, hA3, -, hy, cy⟩ := (H.out.below HBi.out (Nat.le_refl _)).h3.at_ hsn
          have k3 := (RB.out.below HBi.out RB.out.lt).cell 3
          rw [hA3] at k3
          have s0' : (0 : Int) ≤ (s : Int) := by omega
          have s1' : (s : Int) < (n3 : Int) := by omega
          have HY : Hid (E.getD s false = y) := by show _ = _; rw [List.getD_eq_getElem?_getD, hy.out]; rfl
          have HTK : Hid (kbL ((rkW T P E Q wd).take (k + 1)) = kbL ((rkW T P E Q wd).take k) ++ [if y then 49 else 48]) := by
            show _ = _
            have hk' : (rkW T P E Q wd)[k]? = some y := by
              unfold rkW
              rw [List.getElem?_map, HGE.out]
              show some (rdP T P E (wd ++ q)) = _
              rw [hrk, HY.out]
            obtain ⟨h1, h2⟩ := List.getElem?_eq_some_iff.1 hk'
            rw [List.take_succ_eq_append_getElem h1, h2]
            simp [kbL]
          have HKi : Hid (OwnB wi x0.heap.size g ck (kbL ((rkW T P E Q wd).take k))) := own_move HK.out (fun q' hq' => HBj.out.block q' (World.ownsRow.lt HK.out q' hq').2)
          have hszi := HBi.out.size
          have PL : k + 1 ≤ 4294967296 := by have := HNQ.out; have := HQ3.out; omega
          clear hs hrk hsn hy hA3
          cases y with
          | true =>
            go_wp2_with (at_builtin; refine wpList_byte_push' wi rfl (.tmp 41) (.tmp 42) rfl x0.heap.size g ck k _ HKL.out rfl HKi.out 49 49 (by decide) rfl PL hszi ?_; intro g' c' w' hown hbl _; have HOW := Lib.hid hown; have HBW := Lib.hid (HBi.out.trans hbl); clear hown hbl)
            go_roundg (gq - 1)
            case measure => omega
            case rel => exact ⟨k + 1, g', c', rfl, by go_num, by omega, by omega, by rw [HTK.out]; exact HOW.out, HBW.out⟩
          | false =>
            go_wp2_with (at_builtin; refine wpList_byte_push' wi rfl (.tmp 44) (.tmp 45) rfl x0.heap.size g ck k _ HKL.out rfl HKi.out 48 48 (by decide) rfl PL hszi ?_; intro g' c' w' hown hbl _; have HOW := Lib.hid hown; have HBW := Lib.hid (HBi.out.trans hbl); clear hown hbl)
            go_roundg (gq - 1)
            case measure => omega
            case rel => exact ⟨k + 1, g', c', rfl, by go_num, by omega, by omega, by rw [HTK.out]; exact HOW.out, HBW.out⟩
    · have hkn : k = nQ := by omega
      have q1 : (nQ : Int) ≤ (k : Int) := by omega
      have HT : Hid ((rkW T P E Q wd).take k = rkW T P E Q wd) := by show _ = _; rw [List.take_of_length_le (by rw [HLR.out]; omega)]
      rw [HT.out] at HK HKL
      have hcv := holds_string (c := ck) (w := wo) (g := g) (OwnB.holds HK.out)
      rw [HKL.out] at hcv
      clear hlt hkn
      go_wp2_with fail
      go_ret
      exact ⟨rfl, BX.out.trans (HB.out.mono BX.out.size)⟩
end Go.Proofs.Ytbdfbmohdbigfaa


namespace Go.Proofs.Ytbdfbmohdbigfaa
open Go.RowKit Go.Maps
set_option linter.unusedVariables false
def kvS (L : List Bool) : Value := .string (kbS L)
theorem kbL_inj : ∀ {L L' : List Bool}, kbL L = kbL L' → L = L'
  | [], [], _ => rfl
  | [], _ :: _, h => by simp [kbL] at h
  | _ :: _, [], h => by simp [kbL] at h
  | a :: l, b :: l', h => by
    simp only [kbL, List.map_cons, List.cons.injEq] at h
    obtain ⟨h1, h2⟩ := h
    have hab : a = b := by
      cases a <;> cases b <;> first | rfl | (revert h1; decide)
    rw [hab, kbL_inj (L := l) (L' := l') h2]
theorem kvS_inj (L L' : List Bool) (h : kvS L = kvS L') : L = L' := by
  unfold kvS kbS at h
  injection h with h
  injection h with h
  exact kbL_inj (Array.mk.inj h)
def okS (L : List Bool) : Prop := L.length ≤ 100000
theorem keyStr (L : List Bool) (h : okS L) : ∃ l, keyOf Try.prog 9 (kvS L) = some l := by
  unfold okS at h
  refine ⟨.string (kbS L).data.toList, ?_⟩
  have hs : (kbS L).size ≤ maxLen := by
    show (kbL L).toArray.size ≤ maxLen
    rw [List.size_toArray, kbL_len]
    unfold maxLen; omega
  unfold keyOf
  rw [Try.underlying9]
  simp [mapKey, Try.underlying9, kvS, hs]
theorem keyS : KeyOk Try.prog 151 9 2 kvS okS where
  K := string_keyed Try.underlying9
  und := Try.underlying151
  zero := fun w => by kernel_rfl
  key := keyStr
  inj := kvS_inj
end Go.Proofs.Ytbdfbmohdbigfaa


namespace Go.Proofs.Ytbdfbmohdbigfaa
open Go.RowKit
set_option linter.unusedVariables false
set_option maxHeartbeats 4000000 in
theorem sAtN_any (gm S : Nat) (T : Int) (A2 : Option Addr) (n2 c2 : Nat) (A3 : Option Addr) (n3 c3 : Nat) (t : List Int) (A : Option Addr) (n c : Nat) (xs : List Int) (w : World) (hr : Row w gm 33 (BxP (S : Int) T A2 n2 c2 A3 n3 c3)) (h : SlI w w.heap.size A2 n2 t) (hx : SlI w w.heap.size A n xs) (hS : 0 < S ∧ S ≤ 64) (hT : 1 ≤ T ∧ T ≤ 4) (hn2 : (n2 : Int) = (S : Int) * T) (ht : ∀ x ∈ t, 0 ≤ x ∧ x < (S : Int)) (hw : allIn xs 0 (T - 1) = true) (hn : n ≤ 1000) :
    Calls Try.prog 120 #[.pointer (some ⟨gm, 0, none⟩), .slice A n c] w fun e w' => e = .returned (.int .i64 (rnW t T xs)) ∧ Below w.heap.size w w' := by
  have hl := hx.len
  have H := Lib.hid h; have HX := Lib.hid hx; have RB := Lib.hid hr; have HW := Lib.hid hw; have HL := Lib.hid hl
  have HR := Lib.hid (fun k => rnW_bd (T := T) hS.1 ht (xs.take k))
  have HN2 := Lib.hid hn2
  clear h hx hr hw hl ht hn2
  have r0 := RB.out.cell 0; have r1 := RB.out.cell 1; have r2 := RB.out.cell 2; have r3 := RB.out.cell 3
  have R1 := Lib.hid r1; have R2 := Lib.hid r2
  clear r0 r1 r2 r3
  go_enter Try.func120, Try.ntmps120
  go_wp2_with fail
  go_loopg [5, 6] n (fun m s i wr => ∃ (k q : Nat), i = .int .i64 k ∧ k ≤ n ∧ n ≤ m + k ∧ s = .int .i64 (rnW t T (xs.take k)) ∧ wr = w.drewN q)
  case atStart => exact ⟨0, 0, rfl, by omega, by omega, rfl, rfl⟩
  case round =>
    obtain ⟨k, q, rfl, hk, hm, rfl, hwr⟩ := hrel
    obtain ⟨wo, rfl⟩ : ∃ x : World, x = wr := ⟨_, rfl⟩
    have BX : Hid (Below w.heap.size w wo) := by rw [hwr]; exact below_draws (Below.refl _ _) _
    have RBo : Hid (Row wo gm 33 (BxP (S : Int) T A2 n2 c2 A3 n3 c3)) := by rw [hwr]; exact RB.out
    have Ho : Hid (SlI wo wo.heap.size A2 n2 t) := by rw [hwr]; exact H.out
    have HXo : Hid (SlI wo wo.heap.size A n xs) := by rw [hwr]; exact HX.out
    have HWR := Lib.hid hwr
    clear hwr
    by_cases hlt : k < n
    · have q1 : (k : Int) < (n : Int) := by omega
      have q0 : (0 : Int) ≤ (k : Int) := by omega
      obtain ⟨b, off, x, rfl, _, hx, kx⟩ := HXo.out.at_ hlt
      have hxb := word_at HW.out hx.out
      have hsb := HR.out k
      have HE := Lib.hid (rnW_take (t := t) (T := T) hx.out)
      obtain ⟨s, hs⟩ : ∃ s, s = rnW t T (xs.take k) := ⟨_, rfl⟩
      rw [← hs] at hsb ⊢
      have hn2 := HN2.out
      have hsT : (s + 1) * T ≤ (S : Int) * T := Int.mul_le_mul_of_nonneg_right (by omega) (by omega)
      have hsT0 : 0 ≤ s * T := Int.mul_nonneg hsb.1 (by omega)
      have hST : (S : Int) * T ≤ 64 * 4 := Int.mul_le_mul (by omega) (by omega) (by omega) (by omega)
      rw [Int.add_mul, Int.one_mul] at hsT
      obtain ⟨p, hp⟩ : ∃ p, p = s * T := ⟨_, rfl⟩
      rw [← hp] at hsT hsT0
      obtain ⟨j, hj⟩ : ∃ j : Nat, p + x = (j : Int) := ⟨(p + x).toNat, by omega⟩
      have hjl : j < n2 := by omega
      obtain ⟨b2, off2, v, e2, _, hv, cv⟩ := Ho.out.at_ hjl
      obtain rfl := e2
      have HE2 : Hid (rnW t T (xs.take (k + 1)) = v) := by
        show _ = _
        rw [HE.out, ← hs, ← hp, hj, Int.toNat_natCast, List.getD_eq_getElem?_getD, hv.out]; rfl
      have w1 : IntKind.i64.wrap (s * T) = p := by rw [← hp]; exact IntWalk.i64_in _ (by omega)
      have w2 : IntKind.i64.wrap (p + x) = (j : Int) := by rw [hj]; exact IntWalk.i64_in _ (by omega)
      have l1 : (0 : Int) ≤ (j : Int) := by omega
      have l2 : (j : Int) < (n2 : Int) := by omega
      have r1 := RBo.out.cell 1; have r2 := RBo.out.cell 2
      clear hn2 hsT hsT0 hST hs HE hp hj hv hsb hxb
      go_wp2_with fail
      go_quiet (fail)
      go_wp2_with fail
      go_roundg (gk - 1)
      case measure => omega
      case rel => exact ⟨k + 1, q + nq, by go_num, by omega, by omega, by rw [HE2.out], by rw [HWR.out]; simp [World.drewN, Nat.add_assoc]⟩
    · have q1 : (n : Int) ≤ (k : Int) := by omega
      have HT : Hid (rnW t T (xs.take k) = rnW t T xs) := by show _ = _; rw [List.take_of_length_le (by have := HL.out; omega)]
      go_wp2_with fail
      go_ret
      exact ⟨ret_int HT.out, BX.out⟩
set_option maxHeartbeats 4000000 in
theorem sRunN_any (gm S : Nat) (T : Int) (A2 : Option Addr) (n2 c2 : Nat) (A3 : Option Addr) (c3 : Nat) (t : List Int) (E : List Bool) (A : Option Addr) (n c : Nat) (xs : List Int) (w : World) (hr : Row w gm 33 (BxP (S : Int) T A2 n2 c2 A3 S c3)) (h : SlI w w.heap.size A2 n2 t) (h3 : SlB w w.heap.size A3 S E) (hx : SlI w w.heap.size A n xs) (hS : 0 < S ∧ S ≤ 64) (hT : 1 ≤ T ∧ T ≤ 4) (hn2 : (n2 : Int) = (S : Int) * T) (ht : ∀ x ∈ t, 0 ≤ x ∧ x < (S : Int)) (hw : allIn xs 0 (T - 1) = true) (hn : n ≤ 1000) :
    Calls Try.prog 110 #[.pointer (some ⟨gm, 0, none⟩), .slice A n c] w fun e w' => e = .returned (.bool (E.getD (rnW t T xs).toNat false)) ∧ Below w.heap.size w w' := by
  have C := sAtN_any gm S T A2 n2 c2 A3 S c3 t A n c xs w.drew hr h hx hS hT hn2 ht hw hn
  have hb := rnW_bd (T := T) hS.1 ht xs
  obtain ⟨st, hst⟩ : ∃ s : Nat, rnW t T xs = (s : Int) := ⟨(rnW t T xs).toNat, by omega⟩
  rw [hst] at C hb
  have hs1 : st < S := by omega
  obtain ⟨b, off, ev, e3, hbl, hv, cv⟩ := h3.at_ hs1
  obtain rfl := e3
  have HGD : Hid (E.getD (rnW t T xs).toNat false = ev) := by show _ = _; rw [hst, Int.toNat_natCast, List.getD_eq_getElem?_getD, hv.out]; rfl
  have q2 : (0 : Int) ≤ (st : Int) := by omega
  have q3 : (st : Int) < (S : Int) := by omega
  have hgm := hr.lt
  have hfrom : w.drew.cell? ⟨gm, 3, none⟩ = some (.slice (some ⟨b, off, none⟩) S c3) ∧ w.drew.cell? ⟨b, off + st, none⟩ = some (.bool ev) := ⟨hr.cell 3, cv⟩
  have HKY : Hid (∀ x : World, Below w.heap.size w x → x.cell? ⟨gm, 3, none⟩ = some (.slice (some ⟨b, off, none⟩) S c3) ∧ x.cell? ⟨b, off + st, none⟩ = some (.bool ev)) := fun x hx => ⟨(hx.cell (p := ⟨gm, 3, none⟩) hgm).trans (hr.cell 3), (hx.cell (p := ⟨b, off + st, none⟩) hbl).trans cv⟩
  clear hst hr h h3 hx ht hw hn2 hb cv hv
  go_enter Try.func110, Try.ntmps110
  go_upto_region 1 with fail
  go_region_held3 (fun x => x.cell? ⟨gm, 3, none⟩ = some (.slice (some ⟨b, off, none⟩) S c3) ∧ x.cell? ⟨b, off + st, none⟩ = some (.bool ev)) (first | assumption | go_keep)
    (first
      | (go_at_call 120; refine C.mono ?_; rintro e wy ⟨rfl, hby⟩; have HBy : Hid (Below w.heap.size w wy) := ((Below.drew (Below.refl w.heap.size w)).trans hby); have hky := HKY.out wy HBy.out; clear hby))
  all_goals
    clear hfrom C
    go_wp2_with fail
    go_ret
    exact ⟨ret_bool HGD.out.symm, HBy.out⟩
set_option maxHeartbeats 400000 in
theorem sEqL_any (A : Option Addr) (n c : Nat) (xs : List Int) (A' : Option Addr) (n' c' : Nat) (ys : List Int) (w : World) (B B' : Nat) (h : SlI w B A n xs) (h' : SlI w B' A' n' ys) (hn : n ≤ 4294967296) (hn' : n' ≤ 4294967296) :
    Calls Try.prog 114 #[.slice A n c, .slice A' n' c'] w fun e w' => e = .returned (.bool (decide (xs = ys))) ∧ ∃ q, w' = w.drewN q := by
  have hl := Lib.hid h.len
  have hl' := Lib.hid h'.len
  have H := Lib.hid h; clear h
  have H' := Lib.hid h'; clear h'
  by_cases hnn : n = n'
  · subst hnn
    go_enter Try.func114, Try.ntmps114
    go_wp2
    go_loopw [5] (fun i wr => ∃ k : Nat, k ≤ n ∧ i = .int .i64 k ∧ xs.take k = ys.take k ∧ ∃ q, wr = w.drewN q) (fun i wr => n - (intOf i).toNat)
    case atStart => exact ⟨0, by omega, rfl, rfl, 0, rfl⟩
    case round =>
      obtain ⟨k, hk, rfl, he, q, rfl⟩ := hrel
      have HE := Lib.hid he; clear he
      by_cases hlt : k < n
      · obtain ⟨b, off, x, rfl, hbB, hx, hc⟩ := H.out.at_ hlt
        obtain ⟨b', off', y, rfl, hbB', hy, hc'⟩ := H'.out.at_ hlt
        have hi0 : (0 : Int) ≤ (k : Int) := by omega
        have hi1 : (k : Int) < (n : Int) := by omega
        by_cases hxy : x = y
        · subst hxy
          go_wp2
          go_quiet (fail)
          go_wp2
          exact ⟨⟨k + 1, by omega, by go_num, take_eq_succ HE.out hx.out hy.out, _, rfl⟩, by simp [intOf]; omega⟩
        · have h1 : (x == y) = false := by simp [hxy]
          have h2 : (x != y) = true := by simp [hxy]
          have HXY := Lib.hid hxy; clear hxy
          go_wp2
          go_quiet (fail)
          go_wp2
          go_ret
          refine ⟨ret_bool (decide_eq_false (fun e => ?_)).symm, _, World.drewN_drewN _ _ _⟩
          have hx' := hx.out
          rw [e, hy.out] at hx'
          exact HXY.out (Option.some.inj hx').symm
      · obtain rfl : n = k := by omega
        go_wp2
        go_ret
        refine ⟨ret_bool ?_, _, rfl⟩
        have := HE.out
        rw [take_all hl.out, take_all hl'.out] at this
        exact (decide_eq_true this).symm
  · have h1 : ((n : Int) == n') = false := by simp; omega
    have h2 : ((n : Int) != n') = true := by simp; omega
    have HN := Lib.hid hnn; clear hnn
    go_enter Try.func114, Try.ntmps114
    go_wp2
    go_ret
    exact ⟨ret_bool (decide_eq_false (fun e => HN.out (by rw [← hl.out, ← hl'.out, e]))).symm, 0, rfl⟩
set_option maxHeartbeats 400000 in
theorem iEqL_any (A : Option Addr) (n c : Nat) (xs : List Int) (A' : Option Addr) (n' c' : Nat) (ys : List Int) (w : World) (B B' : Nat) (h : SlI w B A n xs) (h' : SlI w B' A' n' ys) (hn : n ≤ 4294967296) (hn' : n' ≤ 4294967296) :
    Calls Try.prog 86 #[.slice A n c, .slice A' n' c'] w fun e w' => e = .returned (.bool (decide (xs = ys))) ∧ ∃ q, w' = w.drewN q := by
  have hl := Lib.hid h.len
  have hl' := Lib.hid h'.len
  have H := Lib.hid h; clear h
  have H' := Lib.hid h'; clear h'
  by_cases hnn : n = n'
  · subst hnn
    go_enter Try.func86, Try.ntmps86
    go_wp2
    go_loopw [13] (fun i wr => ∃ k : Nat, k ≤ n ∧ i = .int .i64 k ∧ xs.take k = ys.take k ∧ ∃ q, wr = w.drewN q) (fun i wr => n - (intOf i).toNat)
    case atStart => exact ⟨0, by omega, rfl, rfl, 0, rfl⟩
    case round =>
      obtain ⟨k, hk, rfl, he, q, rfl⟩ := hrel
      have HE := Lib.hid he; clear he
      by_cases hlt : k < n
      · obtain ⟨b, off, x, rfl, hbB, hx, hc⟩ := H.out.at_ hlt
        obtain ⟨b', off', y, rfl, hbB', hy, hc'⟩ := H'.out.at_ hlt
        have hi0 : (0 : Int) ≤ (k : Int) := by omega
        have hi1 : (k : Int) < (n : Int) := by omega
        by_cases hxy : x = y
        · subst hxy
          go_wp2
          go_quiet (fail)
          go_wp2
          exact ⟨⟨k + 1, by omega, by go_num, take_eq_succ HE.out hx.out hy.out, _, rfl⟩, by simp [intOf]; omega⟩
        · have h1 : (x == y) = false := by simp [hxy]
          have h2 : (x != y) = true := by simp [hxy]
          have HXY := Lib.hid hxy; clear hxy
          go_wp2
          go_quiet (fail)
          go_wp2
          go_ret
          refine ⟨ret_bool (decide_eq_false (fun e => ?_)).symm, _, World.drewN_drewN _ _ _⟩
          have hx' := hx.out
          rw [e, hy.out] at hx'
          exact HXY.out (Option.some.inj hx').symm
      · obtain rfl : n = k := by omega
        go_wp2
        go_ret
        refine ⟨ret_bool ?_, _, rfl⟩
        have := HE.out
        rw [take_all hl.out, take_all hl'.out] at this
        exact (decide_eq_true this).symm
  · have h1 : ((n : Int) == n') = false := by simp; omega
    have h2 : ((n : Int) != n') = true := by simp; omega
    have HN := Lib.hid hnn; clear hnn
    go_enter Try.func86, Try.ntmps86
    go_wp2
    go_ret
    exact ⟨ret_bool (decide_eq_false (fun e => HN.out (by rw [← hl.out, ← hl'.out, e]))).symm, 0, rfl⟩
theorem SlI.subN {w : World} {B b off n : Nat} {ws : List Int} (h : SlI w B (some ⟨b, off, none⟩) n ws) {p k : Nat} (hp : p + k ≤ n) : SlI w B (some ⟨b, off + p, none⟩) k ((ws.drop p).take k) := by
  have hl := h.len
  refine ⟨by rw [iv_length, List.length_take, List.length_drop]; omega, fun hk => ?_⟩
  obtain ⟨b', off', he, hb, hc⟩ := h.2 (by omega)
  have e2 := Option.some.inj he
  injection e2 with e3 e4 _
  subst e3 e4
  refine ⟨b, off + p, rfl, hb, fun j u hu => ?_⟩
  obtain ⟨x, hx, rfl⟩ := iv_get hu
  have hj : j < k := by have := (List.getElem?_eq_some_iff.1 hx).1; rw [List.length_take] at this; omega
  rw [List.getElem?_take_of_lt hj, List.getElem?_drop] at hx
  rw [Nat.add_assoc]
  exact hc (p + j) _ (by simp [iv, hx])
end Go.Proofs.Ytbdfbmohdbigfaa
