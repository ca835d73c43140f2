/- Several texts in one: A plain machine of the program reads a word (reads): any machine (FnPlains, FnSmall). A plain machine that is valid is told so, and reads its words (FnPlains, FnSmall): the program's ValidPlain and ReadsWord at valid arguments. CountWords of the program, at valid arguments. -/
import Derived.Test.YtbdfbmohdbigfaaMgt
import Derived.Test.YtbdfbmohdbigfaaMge
import Derived.Test.YtbdfbmohdbigfaaMgj
import Derived.Test.YtbdfbmohdbigfaaMgq
import Derived.Test.YtbdfbmohdbigfaaFaI

namespace Go.Proofs.Ytbdfbmohdbigfaa
open Go.RowKit
set_option linter.unusedVariables false
set_option maxHeartbeats 2000000 in
theorem iReads_any (S : Nat) (T : Int) (A2 : Option Addr) (n2 c2 : Nat) (A3 : Option Addr) (n3 c3 : Nat) (t : List Int) (A : Option Addr) (n c : Nat) (xs : List Int) (w : World) (h : SlI w w.heap.size A2 n2 t) (hx : SlI w w.heap.size A n xs) (E : List Bool) (h3 : SlB w w.heap.size A3 n3 E) (hE : n3 = S) (hS : 0 < S ∧ S ≤ 64) (hT : 1 ≤ T ∧ T ≤ 4) (hn2 : (n2 : Int) = (S : Int) * T) (ht : ∀ x ∈ t, 0 ≤ x ∧ x < (S : Int)) (hw : allIn xs 0 (T - 1) = true) (hn : n ≤ 1000) :
    Calls Try.prog 47 #[.agg #[.int .i64 (S : Int), .int .i64 T, .slice A2 n2 c2, .slice A3 n3 c3], .slice A n c] w fun e w' => e = .returned (.bool (E.getD (rnW t T xs).toNat false)) ∧ Below w.heap.size w w' := by
  have rb := Row.new w 33 (BxP (S : Int) T A2 n2 c2 A3 n3 c3)
  have bx : Below w.heap.size w (w.alloc (.cells (BxP (S : Int) T A2 n2 c2 A3 n3 c3).toArray 33)) := (Below.refl _ _).alloc (Nat.le_refl _) _
  have hl := hx.len
  have H := Lib.hid h; have HX := Lib.hid hx; have RB := Lib.hid rb; have BX := Lib.hid bx; have HW := Lib.hid hw; have HL := Lib.hid hl
  have HR := Lib.hid (fun k => rnW_bd (T := T) hS.1 ht (xs.take k))
  have HN2 := Lib.hid hn2; have H3 := Lib.hid h3; have HE3 := Lib.hid hE
  clear h hx rb bx hw hl ht hn2 h3 hE
  go_enter Try.func47, Try.ntmps47
  go_wp2_with fail
  go_loopg [5, 10] n (fun m s i wr => ∃ k : Nat, i = .int .i64 k ∧ k ≤ n ∧ n ≤ m + k ∧ s = .int .i64 (rnW t T (xs.take k)) ∧ Hid (Row wr w.heap.size 33 (BxP (S : Int) T A2 n2 c2 A3 n3 c3)) ∧ Hid (Below w.heap.size w wr))
  case atStart => exact ⟨0, rfl, by omega, by omega, rfl, RB.out, BX.out⟩
  case round =>
    clear RB BX
    obtain ⟨k, rfl, hk, hm, rfl, RB, BX⟩ := hrel
    obtain ⟨wo, rfl⟩ : ∃ x : World, x = wr := ⟨_, rfl⟩
    by_cases hlt : k < n
    · have q1 : (k : Int) < (n : Int) := by omega
      have q0 : (0 : Int) ≤ (k : Int) := by omega
      obtain ⟨b, off, x, rfl, _, hx, kx⟩ := (HX.out.below BX.out (Nat.le_refl _)).at_ hlt
      have hxb := word_at HW.out hx.out
      have hsb := HR.out k
      have HE := Lib.hid (rnW_take (t := t) (T := T) hx.out)
      obtain ⟨s, hs⟩ : ∃ s, s = rnW t T (xs.take k) := ⟨_, rfl⟩
      rw [← hs] at hsb ⊢
      have HE2 : Hid (rnW t T (xs.take (k + 1)) = t.getD (s * T + x).toNat 0) := by show _ = _; rw [HE.out, ← hs]
      have hn2 := HN2.out
      have hsT : (s + 1) * T ≤ (S : Int) * T := Int.mul_le_mul_of_nonneg_right (by omega) (by omega)
      have hsT0 : 0 ≤ s * T := Int.mul_nonneg hsb.1 (by omega)
      have hST : (S : Int) * T ≤ 64 * 4 := Int.mul_le_mul (by omega) (by omega) (by omega) (by omega)
      rw [Int.add_mul, Int.one_mul] at hsT
      have C := iTo_any (S : Int) T A2 n2 c2 A3 n3 c3 t s x (s * T + x).toNat wo ((H.out.below BX.out (Nat.le_refl _)).more BX.out.size) (by omega) (by omega) (by omega) (by omega) (by omega) (by omega)
      have r0 := RB.out.cell 0; have r1 := RB.out.cell 1; have r2 := RB.out.cell 2; have r3 := RB.out.cell 3
      clear hn2 hsT hsT0 hST hs HE
      go_wp2_with fail
      refine C.mono ?_; rintro e w1 ⟨rfl, hb1⟩
      have RB1 := Lib.hid (RB.out.below hb1 RB.out.lt)
      have BX1 : Hid (Below w.heap.size w w1) := BX.out.trans (hb1.mono BX.out.size)
      clear C hb1 r0 r1 r2 r3 kx
      go_wp2_with fail
      go_roundg (gk - 1)
      case measure => omega
      case rel => exact ⟨k + 1, by go_num, by omega, by omega, by have h9 := HE2.out; simp only [List.getD_eq_getElem?_getD] at h9 ⊢; rw [h9], RB1.out, BX1.out⟩
    · have q1 : (n : Int) ≤ (k : Int) := by omega
      have HT : Hid (rnW t T (xs.take k) = rnW t T xs) := by show _ = _; rw [List.take_of_length_le (by have := HL.out; omega)]
      have hsb := HR.out k
      rw [HT.out] at hsb ⊢
      obtain ⟨s, hs⟩ : ∃ s : Nat, rnW t T xs = (s : Int) := ⟨(rnW t T xs).toNat, by omega⟩
      rw [hs] at hsb ⊢
      have HS := Lib.hid hs
      have hsn : s < n3 := by have := HE3.out; omega
      obtain ⟨b3, o3, y, rfl, -, hy, cy⟩ := (H3.out.below BX.out (Nat.le_refl _)).at_ hsn
      have r3 := RB.out.cell 3
      have s0 : (0 : Int) ≤ (s : Int) := by omega
      have s1 : (s : Int) < (n3 : Int) := by omega
      have HY : Hid (E.getD s false = y) := by show _ = _; rw [List.getD_eq_getElem?_getD, hy.out]; rfl
      clear hs hsn hsb hy
      go_wp2_with fail
      go_ret
      exact ⟨ret_bool (by rw [HS.out, Int.toNat_natCast, HY.out]), BX.out⟩
end Go.Proofs.Ytbdfbmohdbigfaa


namespace Go.Proofs.Ytbdfbmohdbigfaa
open Go.RowKit
set_option linter.unusedVariables false
set_option maxRecDepth 100000 in
set_option maxHeartbeats 2000000 in
theorem iValidPlain_yes (S T : Nat) (A2 : Option Addr) (n2 c2 : Nat) (A3 : Option Addr) (n3 c3 : Nat) (P : List Int) (w : World) (h2 : SlI w w.heap.size A2 n2 P) (hS : 1 ≤ S ∧ S ≤ 64) (hT : 1 ≤ T ∧ T ≤ 4) (hn : n2 = S * T) (hP : allIn P 0 ((S : Int) - 1) = true) (hE : n3 = S) :
    Calls Try.prog 46 #[.agg #[.int .i64 (S : Int), .int .i64 (T : Int), .slice A2 n2 c2, .slice A3 n3 c3]] w fun e w' => e = .returned (.bool true) ∧ Below w.heap.size w w' := by
  have hm : S * T ≤ 64 * 4 := Nat.mul_le_mul hS.2 hT.2
  have rb := Row.new w 33 (BxP (S : Int) (T : Int) A2 n2 c2 A3 n3 c3)
  have bx : Below w.heap.size w (w.alloc (.cells (BxP (S : Int) (T : Int) A2 n2 c2 A3 n3 c3).toArray 33)) := (Below.refl _ _).alloc (Nat.le_refl _) _
  have e1 : inB (S : Int) 1 64 = true := decide_eq_true (by omega)
  have e2 : inB (T : Int) 1 4 = true := decide_eq_true (by omega)
  have hi : (S : Int) * (T : Int) = (n2 : Int) := by rw [hn]; simp
  have W1 := iIn_any (S : Int) 1 64; have W2 := iIn_any (T : Int) 1 4
  rw [e1] at W1; rw [e2] at W2
  have WM : IntKind.i64.wrap ((S : Int) * (T : Int)) = (n2 : Int) := by rw [hi]; exact IntWalk.i64_in _ (by omega)
  have z1 : ((n2 : Int) == (n2 : Int)) = true := by simp
  have z2 : ((n3 : Int) == (S : Int)) = true := by rw [hE]; simp
  have WS : IntKind.i64.wrap ((S : Int) - 1) = (S : Int) - 1 := IntWalk.i64_in _ (by omega)
  have hA := iAllIn_any A2 n2 c2 P 0 ((S : Int) - 1) _ _ (h2.below bx (Nat.le_refl _)) (by omega)
  rw [hP] at hA
  have HA := Lib.hid hA; have BX := Lib.hid bx
  clear e1 e2 hm hn hi hA h2 hP hS hT bx hE
  go_enter Try.func46, Try.ntmps46
  go_wp2_with (first | (go_at_call 54; refine (W1 _).mono ?_; rintro e w' ⟨rfl, hw⟩; subst hw; clear W1) | (go_at_call 54; refine (W2 _).mono ?_; rintro e w' ⟨rfl, hw⟩; subst hw; clear W2) | (go_at_call 99; refine HA.out.mono ?_; rintro e w' ⟨rfl, hw⟩; obtain rfl := hw))
  go_ret
  exact ⟨ret_bool (by first | rfl | simp [z2]), BX.out⟩
theorem wordB_all {xs : List Int} {T : Int} (h : wordB xs T = true) : allIn xs 0 (T - 1) = true := by
  unfold wordB at h
  rw [Bool.and_eq_true, Bool.and_eq_true] at h
  exact h.2.2
theorem allIn_lt {P : List Int} {S : Nat} (h : allIn P 0 ((S : Int) - 1) = true) : ∀ x ∈ P, 0 ≤ x ∧ x < (S : Int) := fun x hx => by
  have := inB_true (List.all_eq_true.1 h x hx)
  omega
set_option maxRecDepth 100000 in
set_option maxHeartbeats 2000000 in
theorem iReadsWord_yes (S T : Nat) (A2 : Option Addr) (n2 c2 : Nat) (A3 : Option Addr) (n3 c3 : Nat) (P : List Int) (E : List Bool) (A : Option Addr) (n c : Nat) (xs : List Int) (w : World) (h2 : SlI w w.heap.size A2 n2 P) (h3 : SlB w w.heap.size A3 n3 E) (hx : SlI w w.heap.size A n xs) (hS : 1 ≤ S ∧ S ≤ 64) (hT : 1 ≤ T ∧ T ≤ 4) (hn : n2 = S * T) (hP : allIn P 0 ((S : Int) - 1) = true) (hE : n3 = S) (hw : wordB xs (T : Int) = true) :
    Calls Try.prog 13 #[.agg #[.int .i64 (S : Int), .int .i64 (T : Int), .slice A2 n2 c2, .slice A3 n3 c3], .slice A n c] w fun e w' => e = .returned (.tuple #[.bool (E.getD (rnW P (T : Int) xs).toNat false), .bool true]) ∧ Below w.heap.size w w' := by
  have hl := hx.len
  have hlw := wordB_len hw
  have hi : (n2 : Int) = (S : Int) * (T : Int) := by rw [hn]; simp
  have rb := Row.new w 33 (BxP (S : Int) (T : Int) A2 n2 c2 A3 n3 c3)
  have bx : Below w.heap.size w (w.alloc (.cells (BxP (S : Int) (T : Int) A2 n2 c2 A3 n3 c3).toArray 33)) := (Below.refl _ _).alloc (Nat.le_refl _) _
  obtain ⟨x0, hx0⟩ : ∃ x, x = w.alloc (.cells (BxP (S : Int) (T : Int) A2 n2 c2 A3 n3 c3).toArray 33) := ⟨_, rfl⟩
  rw [← hx0] at rb bx
  have HV : Hid (Calls Try.prog 46 #[.agg #[.int .i64 (S : Int), .int .i64 (T : Int), .slice A2 n2 c2, .slice A3 n3 c3]] x0 fun e w' => e = .returned (.bool true) ∧ Below x0.heap.size x0 w') := iValidPlain_yes S T A2 n2 c2 A3 n3 c3 P x0 ((h2.below bx (Nat.le_refl _)).more bx.size) hS hT hn hP hE
  have HW : Hid (∀ x : World, Below w.heap.size w x → Calls Try.prog 44 #[.slice A n c, .int .i64 (T : Int)] x fun e w' => e = .returned (.bool true) ∧ x = w') := fun x hb => by
    have h := iIsWord_any A n c xs (T : Int) x ((hx.below hb (Nat.le_refl _)).more hb.size) (by omega)
    rw [hw] at h
    exact h
  obtain ⟨r, hr⟩ : ∃ r, r = E.getD (rnW P (T : Int) xs).toNat false := ⟨_, rfl⟩
  rw [← hr]
  have HR : Hid (∀ x : World, Below w.heap.size w x → Calls Try.prog 47 #[.agg #[.int .i64 (S : Int), .int .i64 (T : Int), .slice A2 n2 c2, .slice A3 n3 c3], .slice A n c] x fun e w' => e = .returned (.bool r) ∧ Below x.heap.size x w') := fun x hb => by
    rw [hr]
    exact iReads_any S (T : Int) A2 n2 c2 A3 n3 c3 P A n c xs x ((h2.below hb (Nat.le_refl _)).more hb.size) ((hx.below hb (Nat.le_refl _)).more hb.size) E ((h3.below hb (Nat.le_refl _)).more hb.size) hE (by omega) (by omega) hi (allIn_lt hP) (wordB_all hw) (by omega)
  have RB := Lib.hid rb; have BX := Lib.hid bx
  clear rb bx h2 h3 hx hS hT hn hP hE hw hl hlw hi hr
  go_enter Try.func13, Try.ntmps13
  go_wp2_with fail
  change Calls _ _ _ (w.alloc (.cells (BxP (S : Int) (T : Int) A2 n2 c2 A3 n3 c3).toArray 33)) _
  rw [← hx0]
  clear hx0
  refine HV.out.mono ?_
  rintro e w1 ⟨rfl, hb1⟩
  have RB1 := Lib.hid (RB.out.below hb1 RB.out.lt); have BX1 := Lib.hid (BX.out.trans (hb1.mono BX.out.size))
  have r0 := RB1.out.cell 0; have r1 := RB1.out.cell 1; have r2 := RB1.out.cell 2; have r3 := RB1.out.cell 3
  clear hb1 HV RB BX
  go_wp2_with fail
  refine (HW.out w1 BX1.out).mono ?_
  rintro e w2 ⟨rfl, hw2⟩
  obtain rfl := hw2
  go_wp2_with fail
  refine (HR.out w1 BX1.out).mono ?_
  rintro e w3 ⟨rfl, hb3⟩
  clear r0 r1 r2 r3
  go_wp2_with fail
  go_ret2
  exact ⟨rfl, BX1.out.trans (hb3.mono BX1.out.size)⟩
end Go.Proofs.Ytbdfbmohdbigfaa


namespace Go.Proofs.Ytbdfbmohdbigfaa
open Go.RowKit
set_option linter.unusedVariables false
theorem infoIC : (Try.prog.info? 2).map (fun i => (i.zero, i.size, i.bytes)) = some (some (.int .i64 0), 1, 8) := by kernel_rfl
theorem g0_le_sm : ∀ (v : List Int), (∀ k, 0 ≤ g0 v k) → 0 ≤ sm v ∧ ∀ k, g0 v k ≤ sm v
  | [], _ => ⟨Int.le_refl _, fun k => by show g0 [] k ≤ 0; unfold g0; simp⟩
  | a :: l, h => by
    have hl : ∀ k, 0 ≤ g0 l k := fun k => h (k + 1)
    obtain ⟨h1, h2⟩ := g0_le_sm l hl
    have ha : 0 ≤ a := h 0
    refine ⟨by show 0 ≤ a + sm l; omega, fun k => ?_⟩
    cases k with
    | zero => show a ≤ a + sm l; omega
    | succ k => have := h2 k; show g0 l k ≤ a + sm l; omega
theorem smT_nn {v : List Int} (h : ∀ k, 0 ≤ g0 v k) : ∀ i, 0 ≤ smT v i
  | 0 => Int.le_refl _
  | i + 1 => by have := smT_nn h i; have := h i; show 0 ≤ smT v i + g0 v i; omega
theorem smT_le {v : List Int} (h : ∀ k, 0 ≤ g0 v k) : ∀ i j, i ≤ j → smT v i ≤ smT v j := by
  intro i j hij
  induction j with
  | zero => rw [show i = 0 by omega]; exact Int.le_refl _
  | succ j ih =>
    rcases Nat.lt_or_ge i (j + 1) with q | q
    · have := ih (by omega); have := h j; show _ ≤ smT v j + g0 v j; omega
    · rw [show i = j + 1 by omega]; exact Int.le_refl _
theorem pow4 {T : Nat} (hT : T ≤ 4) : ∀ j, T ^ j ≤ 4 ^ j := fun j => Nat.pow_le_pow_left hT j
/-- All numbers on the way are small. -/
theorem cu_small {tf : Nat → Nat → Nat} {S T : Nat} (hS : 0 < S) (hT : T ≤ 4) (ht : ∀ i l, i < S → l < T → tf i l < S) {j i l : Nat} (hj : j < 12) (hi : i < S) (hl : l ≤ T) (k : Nat) :
    0 ≤ g0 (cuR (tf i) (g0 (cuN tf S T j) i) (cuT tf S T (cuN tf S T j) i) l) k ∧ g0 (cuR (tf i) (g0 (cuN tf S T j) i) (cuT tf S T (cuN tf S T j) i) l) k + g0 (cuN tf S T j) i ≤ 100000000 := by
  have hv := (cuN_at hS ht j).1
  have hsum := cuN_sum hS ht j
  have hle := g0_le_sm _ hv
  have hT1 := (cuT_at ht hv i (by omega)).1
  have hR1 := (cuR_at (f := tf i) (hv i) hT1 l (fun q hq => by rw [cuT_len]; exact ht i q hi (by omega))).1
  have hR2 := g0_le_sm _ hR1
  have e1 := cuR_sum (f := tf i) (n := g0 (cuN tf S T j) i) (acc := cuT tf S T (cuN tf S T j) i) l (fun q hq => by rw [cuT_len]; exact ht i q hi (by omega))
  have e2 := cuT_sum ht (cuN tf S T j) i (by omega)
  have e3 : smT (cuN tf S T j) i ≤ sm (cuN tf S T j) := by
    have h := smT_le hv i S (by omega)
    have e := smT_all (cuN tf S T j)
    rw [cuN_len] at e
    rw [e] at h; exact h
  have hp : T ^ j ≤ 16777216 := Nat.le_trans (pow4 hT j) (Nat.le_trans (Nat.pow_le_pow_right (by omega) (show j ≤ 12 by omega)) (by decide))
  have hs : sm (cuN tf S T j) ≤ 16777216 := by rw [hsum]; omega
  have b1 : smT (cuN tf S T j) i * (T : Int) ≤ 16777216 * 4 := Int.mul_le_mul (by omega) (by omega) (by omega) (by omega)
  have b2 : g0 (cuN tf S T j) i * (l : Int) ≤ 16777216 * 4 := Int.mul_le_mul (by have := hle.2 i; omega) (by omega) (by omega) (by omega)
  have b3 : smT (cuN tf S T j) i * (T : Int) + g0 (cuN tf S T j) i * (l : Int) ≤ 16777216 * 4 := by
    have q1 : g0 (cuN tf S T j) i * (l : Int) ≤ g0 (cuN tf S T j) i * (T : Int) := Int.mul_le_mul_of_nonneg_left (by omega) (hv i)
    have q2 : (smT (cuN tf S T j) i + g0 (cuN tf S T j) i) * (T : Int) ≤ 16777216 * 4 := by
      have h := smT_le hv (i + 1) S (by omega)
      have e := smT_all (cuN tf S T j)
      rw [cuN_len] at e
      rw [e] at h
      have h' : smT (cuN tf S T j) i + g0 (cuN tf S T j) i ≤ sm (cuN tf S T j) := h
      exact Int.mul_le_mul (by omega) (by omega) (by omega) (by omega)
    rw [Int.add_mul] at q2
    omega
  have := hR2.2 k; have := hle.2 i
  refine ⟨hR1 k, ?_⟩
  omega
/-- The words of those states that are ends. -/
def cwS (E : List Bool) (v : List Int) : Nat → Int
  | 0 => 0
  | i + 1 => if E.getD i false then cwS E v i + g0 v i else cwS E v i
theorem cwS_bd {E : List Bool} {v : List Int} (h : ∀ k, 0 ≤ g0 v k) : ∀ i, 0 ≤ cwS E v i ∧ cwS E v i ≤ smT v i
  | 0 => ⟨Int.le_refl _, Int.le_refl _⟩
  | i + 1 => by
    have h1 := cwS_bd (E := E) h i
    have h2 := h i
    rw [cwS]
    show _ ∧ _ ≤ smT v i + g0 v i
    split <;> omega
theorem iv_set (l : List Int) (k : Nat) (x : Int) : (iv l).set k (.int .i64 x) = iv (l.set k x) := by unfold iv; rw [List.map_set]
theorem iv_repl (n : Nat) : iv (List.replicate n 0) = List.replicate n (.int .i64 0) := by unfold iv; rw [List.map_replicate]
theorem row_g0 {w : World} {g : Nat} {t : TypeId} {l : List Int} (h : Row w g t (iv l)) {k : Nat} (hk : k < l.length) : w.cell? ⟨g, k, none⟩ = some (.int .i64 (g0 l k)) := by
  rw [h.cell]
  unfold iv g0
  rw [List.getElem?_map, List.getD_eq_getElem?_getD, List.getElem?_eq_getElem hk]
  rfl
theorem made_list (z : Value) (n : Nat) : madeCells #[z] n = (List.replicate n z).toArray := by
  apply Array.ext
  · simp [size_madeCells]
  · intro i h1 h2
    simp [madeCells, Nat.mod_one]
set_option maxRecDepth 100000 in
set_option maxHeartbeats 8000000 in
theorem iCount_any (S T : Nat) (A2 : Option Addr) (n2 c2 : Nat) (A3 : Option Addr) (n3 c3 : Nat) (P : List Int) (E : List Bool) (long : Nat) (w : World) (h : PlOk w S T A2 n2 A3 n3 P E) (hlong : long ≤ 12) :
    Calls Try.prog 17 #[.agg #[.int .i64 (S : Int), .int .i64 (T : Int), .slice A2 n2 c2, .slice A3 n3 c3], .int .i64 (long : Int)] w fun e w' => e = .returned (.tuple #[.int .i64 (cwS E (cuN (plT T P) S T long) S), .bool true]) ∧ Below w.heap.size w w' := by
  have hS := h.hS; have hT := h.hT
  have ht : ∀ i l, i < S → l < T → plT T P i l < S := fun i l h1 h2 => (plT_bd h.hn h.h2.len h.hP h1 h2).2
  have rb := Row.new w 33 (BxP (S : Int) (T : Int) A2 n2 c2 A3 n3 c3)
  have bx : Below w.heap.size w (w.alloc (.cells (BxP (S : Int) (T : Int) A2 n2 c2 A3 n3 c3).toArray 33)) := (Below.refl _ _).alloc (Nat.le_refl _) _
  obtain ⟨x0, hx0⟩ : ∃ x, x = w.alloc (.cells (BxP (S : Int) (T : Int) A2 n2 c2 A3 n3 c3).toArray 33) := ⟨_, rfl⟩
  rw [← hx0] at rb bx
  have HV := Lib.hid ((h.below bx (Nat.le_refl _)) )
  have hval : Hid (Calls Try.prog 46 #[.agg #[.int .i64 (S : Int), .int .i64 (T : Int), .slice A2 n2 c2, .slice A3 n3 c3]] x0 fun e w' => e = .returned (.bool true) ∧ Below x0.heap.size x0 w') := by
    have hh := h.below bx (Nat.le_refl _)
    refine iValidPlain_yes S T A2 n2 c2 A3 n3 c3 P x0 hh.h2 hh.hS hh.hT hh.hn ?_ hh.hE
    unfold allIn
    rw [List.all_eq_true]
    intro x hx
    have := hh.hP x hx
    exact decide_eq_true (by omega)
  have hin : ∀ y : World, Calls Try.prog 54 #[.int .i64 (long : Int), .int .i64 0, .int .i64 12] y fun e w' => e = .returned (.bool true) ∧ y = w' := fun y => by
    have := iIn_any (long : Int) 0 12 y
    rw [show inB (long : Int) 0 12 = true from decide_eq_true (by omega)] at this
    exact this
  have hmk := run_make_row' (P := Try.prog) 26 2 (.int .i64 0) 8 Try.underlying26 infoIC rfl .i64 .i64 S (by omega) (by omega)
  have RB := Lib.hid rb; have BX := Lib.hid bx; have HT := Lib.hid ht; have HIN := Lib.hid hin; have HLS := Lib.hid hS; have HLT := Lib.hid hT
  obtain ⟨tf, hto⟩ : ∃ f, f = plT T P := ⟨_, rfl⟩
  rw [← hto] at HT ⊢
  have HC : Hid (∀ (y : World) (s j : Nat), Below x0.heap.size x0 y → s < S → j < T → Calls Try.prog 51 #[.agg #[.int .i64 (S : Int), .int .i64 (T : Int), .slice A2 n2 c2, .slice A3 n3 c3], .int .i64 (s : Int), .int .i64 (j : Int)] y fun e w' => e = .returned (.int .i64 ((tf s j : Nat) : Int)) ∧ Below y.heap.size y w') := fun y s j hy hs hj => by
    rw [hto]; exact iToN_any c2 c3 s j y (HV.out.below hy (Nat.le_refl _)) hs hj
  have HCN : Hid (∀ j, (cuN tf S T j).length = S) := fun j => cuN_len j
  have HCB : Hid (∀ j, j ≤ 12 → (∀ k, 0 ≤ g0 (cuN tf S T j) k) ∧ sm (cuN tf S T j) ≤ 16777216) := fun j hj => by
    refine ⟨(cuN_at (by omega) HT.out j).1, ?_⟩
    rw [cuN_sum (by omega) HT.out j]
    have hp : T ^ j ≤ 16777216 := Nat.le_trans (pow4 hT.2 j) (Nat.le_trans (Nat.pow_le_pow_right (by omega) hj) (by decide))
    omega
  have HX0 := Lib.hid hx0
  clear rb bx ht hin hto h
  go_enter Try.func17, Try.ntmps17
  go_wp2_with fail
  rw [← hx0]
  clear hx0
  refine hval.out.mono ?_
  rintro e w1 ⟨rfl, hb1⟩
  have RB1 := Lib.hid (RB.out.below hb1 RB.out.lt)
  have HB1 : Hid (Below x0.heap.size x0 w1) := hb1
  have k0 := RB1.out.cell 0
  have hl1 := hb1.size
  have hr1 := Row.made w1 (.int .i64 0) S 2
  rw [← iv_repl] at hr1
  have HR1 := Lib.hid hr1
  have hs1 : 0 < S := by omega
  have c0 := row_g0 hr1 (k := 0) (by simpa using hs1)
  clear hb1 hval hr1
  go_wp2_with (go_at_call 54; refine (HIN.out _).mono ?_; rintro e w' ⟨rfl, hw⟩; obtain rfl := hw)
  have HS2 : Hid (Row (w1.alloc (.cells ((madeCells #[.int .i64 0] S).setIfInBounds 0 (.int .i64 1)) 2)) w1.heap.size 2 (iv (cuN tf S T 0))) := by
    show Row _ _ _ _
    have e : (madeCells #[.int .i64 0] S).setIfInBounds 0 (.int .i64 1) = (iv (cuN tf S T 0)).toArray := by
      rw [made_list, List.setIfInBounds_toArray, cuN, ← iv_set, iv_repl]
    rw [e]
    exact Row.new w1 _ _
  have HB2 : Hid (Below x0.heap.size x0 (w1.alloc (.cells ((madeCells #[.int .i64 0] S).setIfInBounds 0 (.int .i64 1)) 2))) := HB1.out.alloc hl1 _
  have HLE1 := Lib.hid hl1
  clear c0 k0 HR1 HB1 RB1 hl1
  go_loopg [6, 28] long (fun m cs i wr => ∃ (j gc : Nat), cs = .slice (some ⟨gc, 0, none⟩) S S ∧ i = .int .i64 (j : Int) ∧ j ≤ long ∧ long ≤ m + j ∧ Hid (Row wr gc 2 (iv (cuN tf S T j))) ∧ Hid (x0.heap.size ≤ gc) ∧ Hid (Below x0.heap.size x0 wr))
  case atStart => exact ⟨0, w1.heap.size, rfl, rfl, by omega, by omega, HS2.out, HLE1.out, HB2.out⟩
  case round =>
    clear HS2 HB2 HLE1
    obtain ⟨j, gc, rfl, rfl, hj, hm, HR, HG, HB⟩ := hrel
    obtain ⟨wo, rfl⟩ : ∃ x : World, x = wr := ⟨_, rfl⟩
    obtain ⟨gq, hgq⟩ : ∃ q : Nat, q = gk := ⟨_, rfl⟩
    rw [← hgq] at hm
    have RBo := Lib.hid (RB.out.below HB.out RB.out.lt)
    obtain ⟨v, hv⟩ : ∃ v, v = cuN tf S T j := ⟨_, rfl⟩
    rw [← hv] at HR
    have HVE := Lib.hid hv
    have HVL : Hid (v.length = S) := by show _ = _; rw [hv]; exact HCN.out j
    clear hv
    by_cases hlt : j < long
    · have q1 : (j : Int) < (long : Int) := by omega
      have k0 := RBo.out.cell 0
      have hro := Row.made wo (.int .i64 0) S 2
      rw [← iv_repl] at hro
      have HN0 : Hid (Row (wo.alloc (.cells (madeCells #[.int .i64 0] S) 2)) wo.heap.size 2 (iv (cuT tf S T v 0))) := hro
      have HC0 : Hid (Row (wo.alloc (.cells (madeCells #[.int .i64 0] S) 2)) gc 2 (iv v)) := HR.out.alloc _
      have HBo : Hid (Below x0.heap.size x0 (wo.alloc (.cells (madeCells #[.int .i64 0] S) 2))) := HB.out.alloc HB.out.size _
      have hj12 : j < 12 := by omega
      have HGC : Hid (gc < wo.heap.size) := HR.out.lt
      have HGN : Hid (x0.heap.size ≤ wo.heap.size) := HB.out.size
      obtain ⟨gn, hgn⟩ : ∃ q, q = wo.heap.size := ⟨_, rfl⟩
      rw [← hgn] at HN0 HGC HGN
      have HGNE := Lib.hid hgn
      clear hro
      go_upto_region 8 with fail
      try rw [← hgn]
      clear k0 hgn
      go_wp2_with fail
      go_loopg [35] S (fun m i wr => ∃ a : Nat, i = .int .i64 (a : Int) ∧ a ≤ S ∧ S ≤ m + a ∧ Hid (Row wr gn 2 (iv (cuT tf S T v a))) ∧ Hid (Row wr gc 2 (iv v)) ∧ Hid (Below x0.heap.size x0 wr))
      case atStart => exact ⟨0, rfl, by omega, by omega, HN0.out, HC0.out, HBo.out⟩
      case round =>
        clear HN0 HC0 HBo
        obtain ⟨a, rfl, haS, hma, HN, HCv, HBa⟩ := hrel
        obtain ⟨wa, rfl⟩ : ∃ x : World, x = wr := ⟨_, rfl⟩
        obtain ⟨ga, hga⟩ : ∃ q : Nat, q = gk := ⟨_, rfl⟩
        rw [← hga] at hma
        by_cases hlt2 : a < S
        · have q2 : (a : Int) < (S : Int) := by omega
          have q20 : (0 : Int) ≤ (a : Int) := by omega
          have c0 := row_g0 HCv.out (k := a) (by rw [HVL.out]; exact hlt2)
          have k1 := (RB.out.below HBa.out RB.out.lt).cell 1
          obtain ⟨nn, hnn⟩ : ∃ x, x = g0 v a := ⟨_, rfl⟩
          rw [← hnn] at c0
          have HNN := Lib.hid hnn
          clear hnn
          go_wp2_with fail
          clear c0 k1
          go_loopg [42] T (fun m i wr => ∃ l : Nat, i = .int .i64 (l : Int) ∧ l ≤ T ∧ T ≤ m + l ∧ Hid (Row wr gn 2 (iv (cuR (tf a) nn (cuT tf S T v a) l))) ∧ Hid (Row wr gc 2 (iv v)) ∧ Hid (Below x0.heap.size x0 wr))
          case atStart => exact ⟨0, rfl, by omega, by omega, HN.out, HCv.out, HBa.out⟩
          case round =>
            clear HN HCv HBa
            obtain ⟨l, rfl, hlT, hml, HN, HCv, HBl⟩ := hrel
            obtain ⟨wl, rfl⟩ : ∃ x : World, x = wr := ⟨_, rfl⟩
            by_cases hlt3 : l < T
            · have q3 : (l : Int) < (T : Int) := by omega
              have rbl := RB.out.below HBl.out RB.out.lt
              have k0 := rbl.cell 0; have k1 := rbl.cell 1; have k2 := rbl.cell 2; have k3 := rbl.cell 3
              have C := HC.out wl a l HBl.out hlt2 hlt3
              have hts := HT.out a l hlt2 hlt3
              obtain ⟨t, htt⟩ : ∃ t, t = tf a l := ⟨_, rfl⟩
              rw [← htt] at C hts
              have hsm := cu_small (by omega) HLT.out.2 HT.out hj12 hlt2 (Nat.le_of_lt hlt3) t
              rw [← HVE.out, ← HNN.out] at hsm
              obtain ⟨acc, hacc⟩ : ∃ x, x = cuR (tf a) nn (cuT tf S T v a) l := ⟨_, rfl⟩
              have HNX : Hid (cuR (tf a) nn (cuT tf S T v a) (l + 1) = acc.set t (g0 acc t + nn)) := by show _ = _; rw [cuR, ← hacc, ← htt]
              have hal : acc.length = S := by rw [hacc, cuR_len, cuT_len]
              rw [← hacc] at HN hsm
              have HAL := Lib.hid hal
              clear hacc htt hal rbl
              have hnn0 : 0 ≤ nn := by rw [HNN.out, HVE.out]; exact ((HCB.out j (by omega)).1 a)
              go_wp2_with fail
              refine C.mono ?_
              rintro e wm ⟨rfl, hbm⟩
              have HNm := Lib.hid (HN.out.below hbm HN.out.lt); have HCm := Lib.hid (HCv.out.below hbm HCv.out.lt)
              have HBm := Lib.hid (HBl.out.trans (hbm.mono HBl.out.size))
              have d0 := row_g0 HNm.out (k := t) (by rw [HAL.out]; exact hts)
              have f0 := HNm.out.frozen t
              have t0 : (0 : Int) ≤ (t : Int) := by omega
              have t1 : (t : Int) < (S : Int) := by omega
              obtain ⟨x, hx⟩ : ∃ x, x = g0 acc t := ⟨_, rfl⟩
              rw [← hx] at d0 hsm
              have wx : IntKind.i64.wrap (x + nn) = x + nn := IntWalk.i64_in _ (by omega)
              have HXE := Lib.hid hx
              clear C hbm k0 k1 k2 k3 hx HN HCv HBl hsm hnn0
              go_wp2_with fail
              go_roundg (gk - 1)
              case measure => omega
              case rel =>
                refine ⟨l + 1, by go_num, by omega, by omega, ?_, HCm.out.far (p := ⟨gn, t, none⟩) (show gc ≠ gn by have := HGC.out; omega) _, HBm.out.setCell (p := ⟨gn, t, none⟩) HGN.out _⟩
                show Row _ _ _ _
                rw [HNX.out, ← iv_set, ← HXE.out]
                exact HNm.out.set_ t _
            · have hlT' : l = T := by omega
              subst hlT'
              clear hlt3
              go_wp2_with fail
              go_roundg (ga - 1)
              case measure => omega
              case rel =>
                refine ⟨a + 1, by go_num, by omega, by omega, ?_, HCv.out, HBl.out⟩
                show Row _ _ _ (iv (cuR (tf a) (g0 v a) (cuT tf S l v a) l))
                rw [← HNN.out]; exact HN.out
        · have haS' : a = S := by omega
          subst haS'
          clear hlt2
          go_wp2_with fail
          go_roundg (gq - 1)
          case measure => omega
          case rel =>
            refine ⟨j + 1, gn, rfl, by go_num, by omega, by omega, ?_, HGN.out, HBa.out⟩
            show Row _ _ _ (iv (cuT tf a T (cuN tf a T j) a))
            rw [← HVE.out]; exact HN.out
    · have hjl : j = long := by omega
      subst hjl
      have hb := HCB.out j hlong
      rw [← HVE.out] at hb
      have HBD := Lib.hid hb
      have HSM : Hid (∀ i, i ≤ S → 0 ≤ cwS E v i ∧ cwS E v i ≤ 16777216 ∧ (i < S → 0 ≤ g0 v i ∧ g0 v i ≤ 16777216)) := fun i hi => by
        have h1 := cwS_bd (E := E) HBD.out.1 i
        have h2 := smT_le HBD.out.1 i S hi
        have h3 := smT_all v
        rw [HVL.out] at h3
        have h4 := (g0_le_sm _ HBD.out.1).2 i
        have h5 := HBD.out.1 i
        have h6 := HBD.out.2
        refine ⟨h1.1, by omega, fun _ => ⟨h5, by omega⟩⟩
      clear hb hlt HBD
      go_wp2_with fail
      go_loopg [11, 61] S (fun m sv i wr => ∃ a : Nat, sv = .int .i64 (cwS E v a) ∧ i = .int .i64 (a : Int) ∧ a ≤ S ∧ S ≤ m + a ∧ Hid (wo = wr))
      case atStart => exact ⟨0, rfl, rfl, by omega, by omega, rfl⟩
      case round =>
        obtain ⟨a, rfl, rfl, haS, hma, HWR⟩ := hrel
        obtain rfl := HWR.out
        by_cases hlt2 : a < S
        · have q2 : (a : Int) < (S : Int) := by omega
          have q20 : (0 : Int) ≤ (a : Int) := by omega
          have c0 := row_g0 HR.out (k := a) (by rw [HVL.out]; exact hlt2)
          have k3 := RBo.out.cell 3
          obtain ⟨b3, o3, ea, rfl, -, hea, cea⟩ := (HV.out.below HB.out (Nat.le_refl _)).h3.at_ (show a < n3 by rw [HV.out.hE]; exact hlt2)
          have a1 : (a : Int) < (n3 : Int) := by rw [HV.out.hE]; omega
          have hs := HSM.out a (by omega)
          have hs2 := hs.2.2 hlt2
          have wx : IntKind.i64.wrap (cwS E v a + g0 v a) = cwS E v a + g0 v a := IntWalk.i64_in _ (by omega)
          have HNX : Hid (cwS E v (a + 1) = if ea then cwS E v a + g0 v a else cwS E v a) := by
            show _ = _
            rw [cwS, List.getD_eq_getElem?_getD, hea.out]; rfl
          clear hs hs2 hea
          obtain ⟨x, hx⟩ : ∃ x, x = cwS E v a := ⟨_, rfl⟩
          obtain ⟨y, hy⟩ : ∃ y, y = g0 v a := ⟨_, rfl⟩
          rw [← hx, ← hy] at HNX wx
          rw [← hx]
          rw [← hy] at c0
          have HXE := Lib.hid hx
          clear hx hy
          cases ea with
          | true =>
            go_wp2_with fail
            go_roundg (gk - 1)
            case measure => omega
            case rel => exact ⟨a + 1, by rw [HNX.out]; simp, by go_num, by omega, by omega, rfl⟩
          | false =>
            go_wp2_with fail
            go_roundg (gk - 1)
            case measure => omega
            case rel => exact ⟨a + 1, by rw [HNX.out]; simp [HXE.out], by go_num, by omega, by omega, rfl⟩
        · have haS' : a = S := by omega
          subst haS'
          clear hlt2
          go_wp2_with fail
          go_ret2
          refine ⟨by rw [← HVE.out]; rfl, BX.out.trans (HB.out.mono BX.out.size)⟩
end Go.Proofs.Ytbdfbmohdbigfaa
