/- Several texts in one: A plain machine of the program reads a word (reads): any machine (FnPlains, FnSmall). A plain machine that is valid is told so, and reads its words (FnPlains, FnSmall): the program's ValidPlain and ReadsWord at valid arguments. Whether a plain machine is valid: both programs, at any plain machine. -/
import Derived.Test.YtbdfbmohdbigfaaLfI
import Derived.Test.YtbdfbmohdbigfaaMgd
import Derived.Deep.CutRange
import Derived.Deep.RegionLaw

namespace Go.Proofs.Ytbdfbmohdbigfaa
open Go.RowKit
set_option linter.unusedVariables false
set_option maxHeartbeats 2000000 in
theorem iReads_any (S : Nat) (T : Int) (A2 : Option Addr) (n2 c2 : Nat) (A3 : Option Addr) (n3 c3 : Nat) (t : List Int) (A : Option Addr) (n c : Nat) (xs : List Int) (w : World) (h : SlI w w.heap.size A2 n2 t) (hx : SlI w w.heap.size A n xs) (E : List Bool) (h3 : SlB w w.heap.size A3 n3 E) (hE : n3 = S) (hS : 0 < S ∧ S ≤ 64) (hT : 1 ≤ T ∧ T ≤ 4) (hn2 : (n2 : Int) = (S : Int) * T) (ht : ∀ x ∈ t, 0 ≤ x ∧ x < (S : Int)) (hw : allIn xs 0 (T - 1) = true) (hn : n ≤ 1000) :
    Calls Try.prog 47 #[.agg #[.int .i64 (S : Int), .int .i64 T, .slice A2 n2 c2, .slice A3 n3 c3], .slice A n c] w fun e w' => e = .returned (.bool (E.getD (rnW t T xs).toNat false)) ∧ Below w.heap.size w w' := by
  have rb := Row.new w 33 (BxP (S : Int) T A2 n2 c2 A3 n3 c3)
  have bx : Below w.heap.size w (w.alloc (.cells (BxP (S : Int) T A2 n2 c2 A3 n3 c3).toArray 33)) := (Below.refl _ _).alloc (Nat.le_refl _) _
  have hl := hx.len
  have H := Lib.hid h; have HX := Lib.hid hx; have RB := Lib.hid rb; have BX := Lib.hid bx; have HW := Lib.hid hw; have HL := Lib.hid hl
  have HR := Lib.hid (fun k => rnW_bd (T := T) hS.1 ht (xs.take k))
  have HN2 := Lib.hid hn2; have H3 := Lib.hid h3; have HE3 := Lib.hid hE
  clear h hx rb bx hw hl ht hn2 h3 hE
  go_enter Try.func47, Try.ntmps47
  go_wp2_with fail
  go_loopg [5, 10] n (fun m s i wr => ∃ k : Nat, i = .int .i64 k ∧ k ≤ n ∧ n ≤ m + k ∧ s = .int .i64 (rnW t T (xs.take k)) ∧ Hid (Row wr w.heap.size 33 (BxP (S : Int) T A2 n2 c2 A3 n3 c3)) ∧ Hid (Below w.heap.size w wr))
  case atStart => exact ⟨0, rfl, by omega, by omega, rfl, RB.out, BX.out⟩
  case round =>
    clear RB BX
    obtain ⟨k, rfl, hk, hm, rfl, RB, BX⟩ := hrel
    obtain ⟨wo, rfl⟩ : ∃ x : World, x = wr := ⟨_, rfl⟩
    by_cases hlt : k < n
    · have q1 : (k : Int) < (n : Int) := by omega
      have q0 : (0 : Int) ≤ (k : Int) := by omega
      obtain ⟨b, off, x, rfl, _, hx, kx⟩ := (HX.out.below BX.out (Nat.le_refl _)).at_ hlt
      have hxb := word_at HW.out hx.out
      have hsb := HR.out k
      have HE := Lib.hid (rnW_take (t := t) (T := T) hx.out)
      obtain ⟨s, hs⟩ : ∃ s, s = rnW t T (xs.take k) := ⟨_, rfl⟩
      rw [← hs] at hsb ⊢
      have HE2 : Hid (rnW t T (xs.take (k + 1)) = t.getD (s * T + x).toNat 0) := by show _ = _; rw [HE.out, ← hs]
      have hn2 := HN2.out
      have hsT : (s + 1) * T ≤ (S : Int) * T := Int.mul_le_mul_of_nonneg_right (by omega) (by omega)
      have hsT0 : 0 ≤ s * T := Int.mul_nonneg hsb.1 (by omega)
      have hST : (S : Int) * T ≤ 64 * 4 := Int.mul_le_mul (by omega) (by omega) (by omega) (by omega)
      rw [Int.add_mul, Int.one_mul] at hsT
      have C := iTo_any (S : Int) T A2 n2 c2 A3 n3 c3 t s x (s * T + x).toNat wo ((H.out.below BX.out (Nat.le_refl _)).more BX.out.size) (by omega) (by omega) (by omega) (by omega) (by omega) (by omega)
      have r0 := RB.out.cell 0; have r1 := RB.out.cell 1; have r2 := RB.out.cell 2; have r3 := RB.out.cell 3
      clear hn2 hsT hsT0 hST hs HE
      go_wp2_with fail
      refine C.mono ?_; rintro e w1 ⟨rfl, hb1⟩
      have RB1 := Lib.hid (RB.out.below hb1 RB.out.lt)
      have BX1 : Hid (Below w.heap.size w w1) := BX.out.trans (hb1.mono BX.out.size)
      clear C hb1 r0 r1 r2 r3 kx
      go_wp2_with fail
      go_roundg (gk - 1)
      case measure => omega
      case rel => exact ⟨k + 1, by go_num, by omega, by omega, by have h9 := HE2.out; simp only [List.getD_eq_getElem?_getD] at h9 ⊢; rw [h9], RB1.out, BX1.out⟩
    · have q1 : (n : Int) ≤ (k : Int) := by omega
      have HT : Hid (rnW t T (xs.take k) = rnW t T xs) := by show _ = _; rw [List.take_of_length_le (by have := HL.out; omega)]
      have hsb := HR.out k
      rw [HT.out] at hsb ⊢
      obtain ⟨s, hs⟩ : ∃ s : Nat, rnW t T xs = (s : Int) := ⟨(rnW t T xs).toNat, by omega⟩
      rw [hs] at hsb ⊢
      have HS := Lib.hid hs
      have hsn : s < n3 := by have := HE3.out; omega
      obtain ⟨b3, o3, y, rfl, -, hy, cy⟩ := (H3.out.below BX.out (Nat.le_refl _)).at_ hsn
      have r3 := RB.out.cell 3
      have s0 : (0 : Int) ≤ (s : Int) := by omega
      have s1 : (s : Int) < (n3 : Int) := by omega
      have HY : Hid (E.getD s false = y) := by show _ = _; rw [List.getD_eq_getElem?_getD, hy.out]; rfl
      clear hs hsn hsb hy
      go_wp2_with fail
      go_ret
      exact ⟨ret_bool (by rw [HS.out, Int.toNat_natCast, HY.out]), BX.out⟩
end Go.Proofs.Ytbdfbmohdbigfaa


namespace Go.Proofs.Ytbdfbmohdbigfaa
open Go.RowKit
set_option linter.unusedVariables false
set_option maxRecDepth 100000 in
set_option maxHeartbeats 2000000 in
theorem iValidPlain_yes (S T : Nat) (A2 : Option Addr) (n2 c2 : Nat) (A3 : Option Addr) (n3 c3 : Nat) (P : List Int) (w : World) (h2 : SlI w w.heap.size A2 n2 P) (hS : 1 ≤ S ∧ S ≤ 64) (hT : 1 ≤ T ∧ T ≤ 4) (hn : n2 = S * T) (hP : allIn P 0 ((S : Int) - 1) = true) (hE : n3 = S) :
    Calls Try.prog 46 #[.agg #[.int .i64 (S : Int), .int .i64 (T : Int), .slice A2 n2 c2, .slice A3 n3 c3]] w fun e w' => e = .returned (.bool true) ∧ Below w.heap.size w w' := by
  have hm : S * T ≤ 64 * 4 := Nat.mul_le_mul hS.2 hT.2
  have rb := Row.new w 33 (BxP (S : Int) (T : Int) A2 n2 c2 A3 n3 c3)
  have bx : Below w.heap.size w (w.alloc (.cells (BxP (S : Int) (T : Int) A2 n2 c2 A3 n3 c3).toArray 33)) := (Below.refl _ _).alloc (Nat.le_refl _) _
  have e1 : inB (S : Int) 1 64 = true := decide_eq_true (by omega)
  have e2 : inB (T : Int) 1 4 = true := decide_eq_true (by omega)
  have hi : (S : Int) * (T : Int) = (n2 : Int) := by rw [hn]; simp
  have W1 := iIn_any (S : Int) 1 64; have W2 := iIn_any (T : Int) 1 4
  rw [e1] at W1; rw [e2] at W2
  have WM : IntKind.i64.wrap ((S : Int) * (T : Int)) = (n2 : Int) := by rw [hi]; exact IntWalk.i64_in _ (by omega)
  have z1 : ((n2 : Int) == (n2 : Int)) = true := by simp
  have z2 : ((n3 : Int) == (S : Int)) = true := by rw [hE]; simp
  have WS : IntKind.i64.wrap ((S : Int) - 1) = (S : Int) - 1 := IntWalk.i64_in _ (by omega)
  have hA := iAllIn_any A2 n2 c2 P 0 ((S : Int) - 1) _ _ (h2.below bx (Nat.le_refl _)) (by omega)
  rw [hP] at hA
  have HA := Lib.hid hA; have BX := Lib.hid bx
  clear e1 e2 hm hn hi hA h2 hP hS hT bx hE
  go_enter Try.func46, Try.ntmps46
  go_wp2_with (first | (go_at_call 54; refine (W1 _).mono ?_; rintro e w' ⟨rfl, hw⟩; subst hw; clear W1) | (go_at_call 54; refine (W2 _).mono ?_; rintro e w' ⟨rfl, hw⟩; subst hw; clear W2) | (go_at_call 99; refine HA.out.mono ?_; rintro e w' ⟨rfl, hw⟩; obtain rfl := hw))
  go_ret
  exact ⟨ret_bool (by first | rfl | simp [z2]), BX.out⟩
theorem wordB_all {xs : List Int} {T : Int} (h : wordB xs T = true) : allIn xs 0 (T - 1) = true := by
  unfold wordB at h
  rw [Bool.and_eq_true, Bool.and_eq_true] at h
  exact h.2.2
theorem allIn_lt {P : List Int} {S : Nat} (h : allIn P 0 ((S : Int) - 1) = true) : ∀ x ∈ P, 0 ≤ x ∧ x < (S : Int) := fun x hx => by
  have := inB_true (List.all_eq_true.1 h x hx)
  omega
set_option maxRecDepth 100000 in
set_option maxHeartbeats 2000000 in
theorem iReadsWord_yes (S T : Nat) (A2 : Option Addr) (n2 c2 : Nat) (A3 : Option Addr) (n3 c3 : Nat) (P : List Int) (E : List Bool) (A : Option Addr) (n c : Nat) (xs : List Int) (w : World) (h2 : SlI w w.heap.size A2 n2 P) (h3 : SlB w w.heap.size A3 n3 E) (hx : SlI w w.heap.size A n xs) (hS : 1 ≤ S ∧ S ≤ 64) (hT : 1 ≤ T ∧ T ≤ 4) (hn : n2 = S * T) (hP : allIn P 0 ((S : Int) - 1) = true) (hE : n3 = S) (hw : wordB xs (T : Int) = true) :
    Calls Try.prog 13 #[.agg #[.int .i64 (S : Int), .int .i64 (T : Int), .slice A2 n2 c2, .slice A3 n3 c3], .slice A n c] w fun e w' => e = .returned (.tuple #[.bool (E.getD (rnW P (T : Int) xs).toNat false), .bool true]) ∧ Below w.heap.size w w' := by
  have hl := hx.len
  have hlw := wordB_len hw
  have hi : (n2 : Int) = (S : Int) * (T : Int) := by rw [hn]; simp
  have rb := Row.new w 33 (BxP (S : Int) (T : Int) A2 n2 c2 A3 n3 c3)
  have bx : Below w.heap.size w (w.alloc (.cells (BxP (S : Int) (T : Int) A2 n2 c2 A3 n3 c3).toArray 33)) := (Below.refl _ _).alloc (Nat.le_refl _) _
  obtain ⟨x0, hx0⟩ : ∃ x, x = w.alloc (.cells (BxP (S : Int) (T : Int) A2 n2 c2 A3 n3 c3).toArray 33) := ⟨_, rfl⟩
  rw [← hx0] at rb bx
  have HV : Hid (Calls Try.prog 46 #[.agg #[.int .i64 (S : Int), .int .i64 (T : Int), .slice A2 n2 c2, .slice A3 n3 c3]] x0 fun e w' => e = .returned (.bool true) ∧ Below x0.heap.size x0 w') := iValidPlain_yes S T A2 n2 c2 A3 n3 c3 P x0 ((h2.below bx (Nat.le_refl _)).more bx.size) hS hT hn hP hE
  have HW : Hid (∀ x : World, Below w.heap.size w x → Calls Try.prog 44 #[.slice A n c, .int .i64 (T : Int)] x fun e w' => e = .returned (.bool true) ∧ x = w') := fun x hb => by
    have h := iIsWord_any A n c xs (T : Int) x ((hx.below hb (Nat.le_refl _)).more hb.size) (by omega)
    rw [hw] at h
    exact h
  obtain ⟨r, hr⟩ : ∃ r, r = E.getD (rnW P (T : Int) xs).toNat false := ⟨_, rfl⟩
  rw [← hr]
  have HR : Hid (∀ x : World, Below w.heap.size w x → Calls Try.prog 47 #[.agg #[.int .i64 (S : Int), .int .i64 (T : Int), .slice A2 n2 c2, .slice A3 n3 c3], .slice A n c] x fun e w' => e = .returned (.bool r) ∧ Below x.heap.size x w') := fun x hb => by
    rw [hr]
    exact iReads_any S (T : Int) A2 n2 c2 A3 n3 c3 P A n c xs x ((h2.below hb (Nat.le_refl _)).more hb.size) ((hx.below hb (Nat.le_refl _)).more hb.size) E ((h3.below hb (Nat.le_refl _)).more hb.size) hE (by omega) (by omega) hi (allIn_lt hP) (wordB_all hw) (by omega)
  have RB := Lib.hid rb; have BX := Lib.hid bx
  clear rb bx h2 h3 hx hS hT hn hP hE hw hl hlw hi hr
  go_enter Try.func13, Try.ntmps13
  go_wp2_with fail
  change Calls _ _ _ (w.alloc (.cells (BxP (S : Int) (T : Int) A2 n2 c2 A3 n3 c3).toArray 33)) _
  rw [← hx0]
  clear hx0
  refine HV.out.mono ?_
  rintro e w1 ⟨rfl, hb1⟩
  have RB1 := Lib.hid (RB.out.below hb1 RB.out.lt); have BX1 := Lib.hid (BX.out.trans (hb1.mono BX.out.size))
  have r0 := RB1.out.cell 0; have r1 := RB1.out.cell 1; have r2 := RB1.out.cell 2; have r3 := RB1.out.cell 3
  clear hb1 HV RB BX
  go_wp2_with fail
  refine (HW.out w1 BX1.out).mono ?_
  rintro e w2 ⟨rfl, hw2⟩
  obtain rfl := hw2
  go_wp2_with fail
  refine (HR.out w1 BX1.out).mono ?_
  rintro e w3 ⟨rfl, hb3⟩
  clear r0 r1 r2 r3
  go_wp2_with fail
  go_ret2
  exact ⟨rfl, BX1.out.trans (hb3.mono BX1.out.size)⟩
end Go.Proofs.Ytbdfbmohdbigfaa


namespace Go.Proofs.Ytbdfbmohdbigfaa
open Go.RowKit
set_option linter.unusedVariables false
def vpB (S T : Int) (n2 n3 : Nat) (P : List Int) : Bool := inB S 1 64 && inB T 1 4 && decide ((n2 : Int) = S * T) && allIn P 0 (S - 1) && decide ((n3 : Int) = S)

set_option maxRecDepth 100000 in
set_option maxHeartbeats 2000000 in
theorem iValidPlain_no1 (S T : Int) (A2 : Option Addr) (n2 c2 : Nat) (A3 : Option Addr) (n3 c3 : Nat) (P : List Int) (w : World) (h2 : SlI w w.heap.size A2 n2 P) (hn : n2 ≤ 4294967296) (e1 : inB S 1 64 = false) :
    Calls Try.prog 46 #[.agg #[.int .i64 S, .int .i64 T, .slice A2 n2 c2, .slice A3 n3 c3]] w fun e w' => e = .returned (.bool false) ∧ Below w.heap.size w w' := by
  have rb := Row.new w 33 (BxP S T A2 n2 c2 A3 n3 c3)
  have bx : Below w.heap.size w (w.alloc (.cells (BxP S T A2 n2 c2 A3 n3 c3).toArray 33)) := (Below.refl _ _).alloc (Nat.le_refl _) _
  have W1 := iIn_any S 1 64; have W2 := iIn_any T 1 4
  rw [e1] at W1
  have BX := Lib.hid bx
  clear e1 h2 bx
  go_enter Try.func46, Try.ntmps46
  go_wp2_with (first | (go_at_call 54; refine (W1 _).mono ?_; rintro e w' ⟨rfl, hw⟩; subst hw; clear W1) | (go_at_call 54; refine (W2 _).mono ?_; rintro e w' ⟨rfl, hw⟩; subst hw; clear W2))
  go_ret
  exact ⟨ret_bool (by first | rfl | simp [z2]), BX.out⟩
set_option maxRecDepth 100000 in
set_option maxHeartbeats 2000000 in
theorem iValidPlain_no2 (S T : Int) (A2 : Option Addr) (n2 c2 : Nat) (A3 : Option Addr) (n3 c3 : Nat) (P : List Int) (w : World) (h2 : SlI w w.heap.size A2 n2 P) (hn : n2 ≤ 4294967296) (e1 : inB S 1 64 = true) (e2 : inB T 1 4 = false) :
    Calls Try.prog 46 #[.agg #[.int .i64 S, .int .i64 T, .slice A2 n2 c2, .slice A3 n3 c3]] w fun e w' => e = .returned (.bool false) ∧ Below w.heap.size w w' := by
  have rb := Row.new w 33 (BxP S T A2 n2 c2 A3 n3 c3)
  have bx : Below w.heap.size w (w.alloc (.cells (BxP S T A2 n2 c2 A3 n3 c3).toArray 33)) := (Below.refl _ _).alloc (Nat.le_refl _) _
  have W1 := iIn_any S 1 64; have W2 := iIn_any T 1 4
  rw [e1] at W1
  rw [e2] at W2
  have s1 := inB_true e1
  have BX := Lib.hid bx
  clear e1 h2 bx e2 s1
  go_enter Try.func46, Try.ntmps46
  go_wp2_with (first | (go_at_call 54; refine (W1 _).mono ?_; rintro e w' ⟨rfl, hw⟩; subst hw; clear W1) | (go_at_call 54; refine (W2 _).mono ?_; rintro e w' ⟨rfl, hw⟩; subst hw; clear W2))
  go_ret
  exact ⟨ret_bool (by first | rfl | simp [z2]), BX.out⟩
set_option maxRecDepth 100000 in
set_option maxHeartbeats 2000000 in
theorem iValidPlain_no3 (S T : Int) (A2 : Option Addr) (n2 c2 : Nat) (A3 : Option Addr) (n3 c3 : Nat) (P : List Int) (w : World) (h2 : SlI w w.heap.size A2 n2 P) (hn : n2 ≤ 4294967296) (e1 : inB S 1 64 = true) (e2 : inB T 1 4 = true) (e3 : (n2 : Int) ≠ S * T) :
    Calls Try.prog 46 #[.agg #[.int .i64 S, .int .i64 T, .slice A2 n2 c2, .slice A3 n3 c3]] w fun e w' => e = .returned (.bool false) ∧ Below w.heap.size w w' := by
  have rb := Row.new w 33 (BxP S T A2 n2 c2 A3 n3 c3)
  have bx : Below w.heap.size w (w.alloc (.cells (BxP S T A2 n2 c2 A3 n3 c3).toArray 33)) := (Below.refl _ _).alloc (Nat.le_refl _) _
  have W1 := iIn_any S 1 64; have W2 := iIn_any T 1 4
  rw [e1] at W1
  rw [e2] at W2
  have s1 := inB_true e1
  have s2 := inB_true e2
  have m0 : 0 ≤ S * T := Int.mul_nonneg (by omega) (by omega)
  have m1 : S * T ≤ 64 * 4 := Int.mul_le_mul (by omega) (by omega) (by omega) (by omega)
  have WM : IntKind.i64.wrap (S * T) = S * T := IntWalk.i64_in _ (by omega)
  have z1 : ((n2 : Int) == S * T) = false := by simpa using e3
  have BX := Lib.hid bx
  clear e1 h2 bx e2 s1 s2 m0 m1 e3
  go_enter Try.func46, Try.ntmps46
  go_wp2_with (first | (go_at_call 54; refine (W1 _).mono ?_; rintro e w' ⟨rfl, hw⟩; subst hw; clear W1) | (go_at_call 54; refine (W2 _).mono ?_; rintro e w' ⟨rfl, hw⟩; subst hw; clear W2))
  go_ret
  exact ⟨ret_bool (by first | rfl | simp [z2]), BX.out⟩
set_option maxRecDepth 100000 in
set_option maxHeartbeats 2000000 in
theorem iValidPlain_no4 (S T : Int) (A2 : Option Addr) (n2 c2 : Nat) (A3 : Option Addr) (n3 c3 : Nat) (P : List Int) (w : World) (h2 : SlI w w.heap.size A2 n2 P) (hn : n2 ≤ 4294967296) (e1 : inB S 1 64 = true) (e2 : inB T 1 4 = true) (e3 : (n2 : Int) = S * T) (e4 : allIn P 0 (S - 1) = false) :
    Calls Try.prog 46 #[.agg #[.int .i64 S, .int .i64 T, .slice A2 n2 c2, .slice A3 n3 c3]] w fun e w' => e = .returned (.bool false) ∧ Below w.heap.size w w' := by
  have rb := Row.new w 33 (BxP S T A2 n2 c2 A3 n3 c3)
  have bx : Below w.heap.size w (w.alloc (.cells (BxP S T A2 n2 c2 A3 n3 c3).toArray 33)) := (Below.refl _ _).alloc (Nat.le_refl _) _
  have W1 := iIn_any S 1 64; have W2 := iIn_any T 1 4
  rw [e1] at W1
  rw [e2] at W2
  have s1 := inB_true e1
  have s2 := inB_true e2
  have m0 : 0 ≤ S * T := Int.mul_nonneg (by omega) (by omega)
  have m1 : S * T ≤ 64 * 4 := Int.mul_le_mul (by omega) (by omega) (by omega) (by omega)
  have WM : IntKind.i64.wrap (S * T) = S * T := IntWalk.i64_in _ (by omega)
  have WM' : IntKind.i64.wrap (S * T) = (n2 : Int) := by rw [WM, e3]
  have z1 : ((n2 : Int) == (n2 : Int)) = true := by simp
  clear WM
  have WS : IntKind.i64.wrap (S - 1) = S - 1 := IntWalk.i64_in _ (by omega)
  have hA := iAllIn_any A2 n2 c2 P 0 (S - 1) _ _ (h2.below bx (Nat.le_refl _)) (by omega)
  rw [e4] at hA
  have HA := Lib.hid hA
  clear hA
  have BX := Lib.hid bx
  clear e1 h2 bx e2 s1 s2 m0 m1 e3 e4
  go_enter Try.func46, Try.ntmps46
  go_wp2_with (first | (go_at_call 54; refine (W1 _).mono ?_; rintro e w' ⟨rfl, hw⟩; subst hw; clear W1) | (go_at_call 54; refine (W2 _).mono ?_; rintro e w' ⟨rfl, hw⟩; subst hw; clear W2) | (go_at_call 99; refine HA.out.mono ?_; rintro e w' ⟨rfl, hw⟩; subst hw; clear HA))
  go_ret
  exact ⟨ret_bool (by first | rfl | simp [z2]), BX.out⟩
set_option maxRecDepth 100000 in
set_option maxHeartbeats 2000000 in
theorem iValidPlain_no5 (S T : Int) (A2 : Option Addr) (n2 c2 : Nat) (A3 : Option Addr) (n3 c3 : Nat) (P : List Int) (w : World) (h2 : SlI w w.heap.size A2 n2 P) (hn : n2 ≤ 4294967296) (e1 : inB S 1 64 = true) (e2 : inB T 1 4 = true) (e3 : (n2 : Int) = S * T) (e4 : allIn P 0 (S - 1) = true) (e5 : (n3 : Int) ≠ S) :
    Calls Try.prog 46 #[.agg #[.int .i64 S, .int .i64 T, .slice A2 n2 c2, .slice A3 n3 c3]] w fun e w' => e = .returned (.bool false) ∧ Below w.heap.size w w' := by
  have rb := Row.new w 33 (BxP S T A2 n2 c2 A3 n3 c3)
  have bx : Below w.heap.size w (w.alloc (.cells (BxP S T A2 n2 c2 A3 n3 c3).toArray 33)) := (Below.refl _ _).alloc (Nat.le_refl _) _
  have W1 := iIn_any S 1 64; have W2 := iIn_any T 1 4
  rw [e1] at W1
  rw [e2] at W2
  have s1 := inB_true e1
  have s2 := inB_true e2
  have m0 : 0 ≤ S * T := Int.mul_nonneg (by omega) (by omega)
  have m1 : S * T ≤ 64 * 4 := Int.mul_le_mul (by omega) (by omega) (by omega) (by omega)
  have WM : IntKind.i64.wrap (S * T) = S * T := IntWalk.i64_in _ (by omega)
  have WM' : IntKind.i64.wrap (S * T) = (n2 : Int) := by rw [WM, e3]
  have z1 : ((n2 : Int) == (n2 : Int)) = true := by simp
  clear WM
  have WS : IntKind.i64.wrap (S - 1) = S - 1 := IntWalk.i64_in _ (by omega)
  have hA := iAllIn_any A2 n2 c2 P 0 (S - 1) _ _ (h2.below bx (Nat.le_refl _)) (by omega)
  rw [e4] at hA
  have HA := Lib.hid hA
  clear hA
  have z2 : ((n3 : Int) == S) = false := by simpa using e5
  have BX := Lib.hid bx
  clear e1 h2 bx e2 s1 s2 m0 m1 e3 e4 e5
  go_enter Try.func46, Try.ntmps46
  go_wp2_with (first | (go_at_call 54; refine (W1 _).mono ?_; rintro e w' ⟨rfl, hw⟩; subst hw; clear W1) | (go_at_call 54; refine (W2 _).mono ?_; rintro e w' ⟨rfl, hw⟩; subst hw; clear W2) | (go_at_call 99; refine HA.out.mono ?_; rintro e w' ⟨rfl, hw⟩; subst hw; clear HA))
  go_ret
  exact ⟨ret_bool (by first | rfl | simp [z2]), BX.out⟩
set_option maxRecDepth 100000 in
set_option maxHeartbeats 2000000 in
theorem iValidPlain_yes' (S T : Int) (A2 : Option Addr) (n2 c2 : Nat) (A3 : Option Addr) (n3 c3 : Nat) (P : List Int) (w : World) (h2 : SlI w w.heap.size A2 n2 P) (hn : n2 ≤ 4294967296) (e1 : inB S 1 64 = true) (e2 : inB T 1 4 = true) (e3 : (n2 : Int) = S * T) (e4 : allIn P 0 (S - 1) = true) (e5 : (n3 : Int) = S) :
    Calls Try.prog 46 #[.agg #[.int .i64 S, .int .i64 T, .slice A2 n2 c2, .slice A3 n3 c3]] w fun e w' => e = .returned (.bool true) ∧ Below w.heap.size w w' := by
  have rb := Row.new w 33 (BxP S T A2 n2 c2 A3 n3 c3)
  have bx : Below w.heap.size w (w.alloc (.cells (BxP S T A2 n2 c2 A3 n3 c3).toArray 33)) := (Below.refl _ _).alloc (Nat.le_refl _) _
  have W1 := iIn_any S 1 64; have W2 := iIn_any T 1 4
  rw [e1] at W1
  rw [e2] at W2
  have s1 := inB_true e1
  have s2 := inB_true e2
  have m0 : 0 ≤ S * T := Int.mul_nonneg (by omega) (by omega)
  have m1 : S * T ≤ 64 * 4 := Int.mul_le_mul (by omega) (by omega) (by omega) (by omega)
  have WM : IntKind.i64.wrap (S * T) = S * T := IntWalk.i64_in _ (by omega)
  have WM' : IntKind.i64.wrap (S * T) = (n2 : Int) := by rw [WM, e3]
  have z1 : ((n2 : Int) == (n2 : Int)) = true := by simp
  clear WM
  have WS : IntKind.i64.wrap (S - 1) = S - 1 := IntWalk.i64_in _ (by omega)
  have hA := iAllIn_any A2 n2 c2 P 0 (S - 1) _ _ (h2.below bx (Nat.le_refl _)) (by omega)
  rw [e4] at hA
  have HA := Lib.hid hA
  clear hA
  have z2 : ((n3 : Int) == S) = true := by simpa using e5
  have BX := Lib.hid bx
  clear e1 h2 bx e2 s1 s2 m0 m1 e3 e4 e5
  go_enter Try.func46, Try.ntmps46
  go_wp2_with (first | (go_at_call 54; refine (W1 _).mono ?_; rintro e w' ⟨rfl, hw⟩; subst hw; clear W1) | (go_at_call 54; refine (W2 _).mono ?_; rintro e w' ⟨rfl, hw⟩; subst hw; clear W2) | (go_at_call 99; refine HA.out.mono ?_; rintro e w' ⟨rfl, hw⟩; subst hw; clear HA))
  go_ret
  exact ⟨ret_bool (by first | rfl | simp [z2]), BX.out⟩
theorem iValidPlain_any (S T : Int) (A2 : Option Addr) (n2 c2 : Nat) (A3 : Option Addr) (n3 c3 : Nat) (P : List Int) (w : World) (h2 : SlI w w.heap.size A2 n2 P) (hn : n2 ≤ 4294967296) :
    Calls Try.prog 46 #[.agg #[.int .i64 S, .int .i64 T, .slice A2 n2 c2, .slice A3 n3 c3]] w fun e w' => e = .returned (.bool (vpB S T n2 n3 P)) ∧ Below w.heap.size w w' := by
  unfold vpB
  cases e1 : inB S 1 64 with
  | false => exact iValidPlain_no1 S T A2 n2 c2 A3 n3 c3 P w h2 hn e1
  | true =>
    cases e2 : inB T 1 4 with
    | false => exact iValidPlain_no2 S T A2 n2 c2 A3 n3 c3 P w h2 hn e1 e2
    | true =>
      by_cases e3 : (n2 : Int) = S * T
      · cases e4 : allIn P 0 (S - 1) with
        | false => rw [decide_eq_true e3]; exact iValidPlain_no4 S T A2 n2 c2 A3 n3 c3 P w h2 hn e1 e2 e3 e4
        | true =>
          by_cases e5 : (n3 : Int) = S
          · rw [decide_eq_true e3, decide_eq_true e5]; exact iValidPlain_yes' S T A2 n2 c2 A3 n3 c3 P w h2 hn e1 e2 e3 e4 e5
          · rw [decide_eq_true e3, decide_eq_false e5]; exact iValidPlain_no5 S T A2 n2 c2 A3 n3 c3 P w h2 hn e1 e2 e3 e4 e5
      · rw [decide_eq_false e3]; exact iValidPlain_no3 S T A2 n2 c2 A3 n3 c3 P w h2 hn e1 e2 e3
end Go.Proofs.Ytbdfbmohdbigfaa