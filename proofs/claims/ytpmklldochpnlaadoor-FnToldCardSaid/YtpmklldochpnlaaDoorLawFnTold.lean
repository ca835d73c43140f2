/- FnTold: the walk: the law returns true. -/
import Derived.Test.YtpmklldochpnlaaDoorToP
import Derived.Test.YtpmklldochpnlaaDoorPkJ
import Derived.Test.YtpmklldochpnlaaDoorUpI
import Derived.Test.YtpmklldochpnlaaDoorSkI
import Derived.Test.YtpmklldochpnlaaDoorStI
import Derived.Test.YtpmklldochpnlaaDoorHyI2
import Derived.Deep.CutRange
import Derived.Deep.CutBlock

namespace Go.Proofs.YtpmklldochpnlaaDoor.fnTold
open Go.RowKit
set_option linter.unusedVariables false
theorem sl_two (w : World) (T : TypeId) (xs ys : List ByteArray) : SlV ((w.alloc (.cells (sv xs).toArray T)).alloc (.cells (sv ys).toArray T)) ((w.alloc (.cells (sv xs).toArray T)).alloc (.cells (sv ys).toArray T)).heap.size (some ⟨w.heap.size, 0, none⟩) xs.length (sv xs) ∧ SlV ((w.alloc (.cells (sv xs).toArray T)).alloc (.cells (sv ys).toArray T)) ((w.alloc (.cells (sv xs).toArray T)).alloc (.cells (sv ys).toArray T)).heap.size (some ⟨w.heap.size + 1, 0, none⟩) ys.length (sv ys) ∧ Below w.heap.size w ((w.alloc (.cells (sv xs).toArray T)).alloc (.cells (sv ys).toArray T)) := by
  have h1 := ((Row.new w T (sv xs)).alloc (.cells (sv ys).toArray T)).sl
  have h2 := (Row.new (w.alloc (.cells (sv xs).toArray T)) T (sv ys)).sl
  rw [sv_length] at h1 h2
  rw [show (w.alloc (.cells (sv xs).toArray T)).heap.size = w.heap.size + 1 by simp] at h2
  exact ⟨h1, h2, ((Below.refl _ _).alloc (Nat.le_refl _) _).alloc (by simp) _⟩
theorem pkR_of {t : ByteArray} (h : letB t = true) : pkR t = pkV t := by unfold pkR; rw [if_pos h]
theorem hsB_ge {t e : ByteArray} (h : e.size ≤ t.size) : hsB t e = decide (t.extract (t.size - e.size) t.size = e) := by
  unfold hsB; rw [decide_eq_true h]; rfl
theorem hsB_lt {t e : ByteArray} (h : t.size < e.size) : hsB t e = false := by
  unfold hsB; rw [decide_eq_false (by omega)]; rfl
theorem hs_of {t e : ByteArray} {k : Nat} {L : List UInt8} {b : Bool} (hz : e.size = k) (he : e.toList = L) (hk : k ≤ t.size) (h : ((t.extract (t.size - k) t.size).toList == L) = b) : hsB t e = b := by
  subst hz he
  rw [hsB_ge hk]
  cases b with
  | true => exact decide_eq_true (str_inj (by simpa using h))
  | false =>
    refine decide_eq_false (fun x => ?_)
    rw [x] at h
    simp at h
theorem eC_l : eCBA.toList = [99, 98, 97] := by rw [ByteArray.toList_eq]; rfl
theorem eB_l : eBA.toList = [98, 97] := by rw [ByteArray.toList_eq]; rfl
theorem eA_l : eA.toList = [97] := by rw [ByteArray.toList_eq]; rfl
section
variable {t : ByteArray}
theorem no3 (h : 3 ≤ t.size → ((t.extract (t.size - 3) t.size).toList == [99, 98, 97]) = false) : hsB t eCBA = false := by
  by_cases h3 : 3 ≤ t.size
  · exact hs_of rfl eC_l h3 (h h3)
  · exact hsB_lt (show t.size < 3 by omega)
theorem no2 (h : 2 ≤ t.size → ((t.extract (t.size - 2) t.size).toList == [98, 97]) = false) : hsB t eBA = false := by
  by_cases h3 : 2 ≤ t.size
  · exact hs_of rfl eB_l h3 (h h3)
  · exact hsB_lt (show t.size < 2 by omega)
theorem way3 (h3 : 3 ≤ t.size) (h : ((t.extract (t.size - 3) t.size).toList == [99, 98, 97]) = true) : Value.string (t.extract 0 (t.size - 3) ++ ⟨#[122]⟩) = .string (stWant t) := by
  unfold stWant; rw [hs_of rfl eC_l h3 h]; rfl
theorem way2 (h : 3 ≤ t.size → ((t.extract (t.size - 3) t.size).toList == [99, 98, 97]) = false) (h2 : 2 ≤ t.size) (h' : ((t.extract (t.size - 2) t.size).toList == [98, 97]) = true) : Value.string (t.extract 0 (t.size - 2) ++ ⟨#[121]⟩) = .string (stWant t) := by
  unfold stWant; rw [no3 h, hs_of rfl eB_l h2 h']; rfl
theorem way1 (h : 3 ≤ t.size → ((t.extract (t.size - 3) t.size).toList == [99, 98, 97]) = false) (h2 : 2 ≤ t.size → ((t.extract (t.size - 2) t.size).toList == [98, 97]) = false) (h1 : 1 ≤ t.size) (h' : ((t.extract (t.size - 1) t.size).toList == [97]) = true) : Value.string (t.extract 0 (t.size - 1) ++ ⟨#[120]⟩) = .string (stWant t) := by
  unfold stWant; rw [no3 h, no2 h2, hs_of rfl eA_l h1 h']; rfl
theorem way0 (h : 3 ≤ t.size → ((t.extract (t.size - 3) t.size).toList == [99, 98, 97]) = false) (h2 : 2 ≤ t.size → ((t.extract (t.size - 2) t.size).toList == [98, 97]) = false) (h1 : 1 ≤ t.size) (h' : ((t.extract (t.size - 1) t.size).toList == [97]) = false) : Value.string t = .string (stWant t) := by
  unfold stWant; rw [no3 h, no2 h2, hs_of rfl eA_l h1 h']; rfl
end
set_option maxHeartbeats 16000000 in
set_option maxRecDepth 100000 in
theorem walk (a0 : Option Addr) (len0 cap0 : Nat) (z0 : List Int) (a1 : Option Addr) (len1 cap1 : Nat) (z1 : List Int) (W : World) (hG : GInt W) (w0 : IsRow .u8 W a0 len0 cap0 z0) (w1 : IsRow .u8 W a1 len1 cap1 z1) :
    Calls Tryd.prog 5 #[.slice a0 len0 cap0, .slice a1 len1 cap1] W fun e w' => e = .returned (.bool true) ∧ Below W.heap.size W w' := by
  have hl0 := w0.lens
  have hl1 := w1.lens
  have s0 := w0.slB
  have s1 := w1.slB
  clear w0 w1
  have m0 : len0 ≤ maxLen := by omega
  have m1 : len1 ≤ maxLen := by omega
  unfold maxLen at hl0 hl1
  by_cases hlong : 48 < len0 ∨ 48 < len1
  · go_enter Tryd.func5, Tryd.ntmps5
    go_wp2_with fail
    refine (r8Long_yes _ _ _ _ _ _ _ m0 m1 hlong).mono ?_; rintro e w' ⟨rfl, hw⟩; obtain rfl := hw
    go_wp2_with fail
    go_ret
    exact ⟨rfl, Below.refl _ _⟩
  · have c0 : (len0 : Int) ≤ 48 := by omega
    have c1 : (len1 : Int) ≤ 48 := by omega
    have hR0 := fun w hz => r8At_any a1 len1 cap1 (z1.take len1) W.heap.size w hz 0 256 (by omega) (by omega) (by omega) m1
    have hR1 := fun w hz => r8At_any a1 len1 cap1 (z1.take len1) W.heap.size w hz 1 256 (by omega) (by omega) (by omega) m1
    have hR2 := fun w hz => r8At_any a1 len1 cap1 (z1.take len1) W.heap.size w hz 2 256 (by omega) (by omega) (by omega) m1
    have hR3 := fun w hz => r8At_any a1 len1 cap1 (z1.take len1) W.heap.size w hz 3 256 (by omega) (by omega) (by omega) m1
    have hR4 := fun w hz => r8At_any a1 len1 cap1 (z1.take len1) W.heap.size w hz 4 16 (by omega) (by omega) (by omega) m1
    have b0 := r8v_bd (z := z1.take len1) (k := 0) (m := 256) (by omega)
    have b1 := r8v_bd (z := z1.take len1) (k := 1) (m := 256) (by omega)
    have b2 := r8v_bd (z := z1.take len1) (k := 2) (m := 256) (by omega)
    have b3 := r8v_bd (z := z1.take len1) (k := 3) (m := 256) (by omega)
    have b4 := r8v_bd (z := z1.take len1) (k := 4) (m := 16) (by omega)
    obtain ⟨x0, h0⟩ : ∃ x, x = r8v (z1.take len1) 0 256 := ⟨_, rfl⟩
    obtain ⟨x1, h1⟩ : ∃ x, x = r8v (z1.take len1) 1 256 := ⟨_, rfl⟩
    obtain ⟨x2, h2⟩ : ∃ x, x = r8v (z1.take len1) 2 256 := ⟨_, rfl⟩
    obtain ⟨x3, h3⟩ : ∃ x, x = r8v (z1.take len1) 3 256 := ⟨_, rfl⟩
    obtain ⟨x4, h4⟩ : ∃ x, x = r8v (z1.take len1) 4 16 := ⟨_, rfl⟩
    rw [← h0] at hR0 b0; rw [← h1] at hR1 b1; rw [← h2] at hR2 b2; rw [← h3] at hR3 b3; rw [← h4] at hR4 b4
    clear h0 h1 h2 h3 h4
    obtain ⟨y4, rfl⟩ : ∃ y : Nat, x4 = (y : Int) := ⟨x4.toNat, by omega⟩
    obtain ⟨b00, b01⟩ := b0; obtain ⟨b10, b11⟩ := b1; obtain ⟨b20, b21⟩ := b2; obtain ⟨b30, b31⟩ := b3; obtain ⟨b40, b41⟩ := b4
    obtain ⟨N, hN, nsz, nrb, nrs, nne⟩ := told_num (n := x0 * 3906 + x1) (by omega) (by omega)
    obtain ⟨R, hR, rsz, rrb, rrs⟩ := told_rom (m := 1 + (x2 * 256 + x3) % 3999) (by omega) (by omega)
    have cN := iNumberWords_any (x0 * 3906 + x1)
    rw [hN, numOut_in (by omega) (by omega)] at cN
    have cW := iReadWords_any N (by omega)
    rw [nrb] at cW
    have z32 : (⟨#[32]⟩ : ByteArray).size = 1 := rfl
    have z77 : (⟨#[77]⟩ : ByteArray).size = 1 := rfl
    have cW2 := iReadWords_any (N ++ ⟨#[32]⟩) (by rw [ByteArray.size_append, z32]; omega)
    rw [nrs] at cW2
    obtain ⟨v3, hv3⟩ : ∃ v, v = (rwV (N ++ ⟨#[32]⟩)).1 := ⟨_, rfl⟩
    rw [← hv3] at cW2
    have cR := iRomanOf_any (1 + (x2 * 256 + x3) % 3999)
    rw [hR, show inB (1 + (x2 * 256 + x3) % 3999) 1 3999 = true from decide_eq_true (by omega)] at cR
    have cB := iReadRoman_any R (by unfold maxLen; omega)
    rw [rrb] at cB
    have cB2 := iReadRoman_any (R ++ ⟨#[77]⟩) (by rw [ByteArray.size_append, z77]; unfold maxLen; omega)
    obtain ⟨v6, hv6⟩ : ∃ v, v = (rrI (R ++ ⟨#[77]⟩)).1 := ⟨_, rfl⟩
    obtain ⟨q6, hq6⟩ : ∃ v, v = (rrI (R ++ ⟨#[77]⟩)).2 := ⟨_, rfl⟩
    rw [← hv6, ← hq6] at cB2
    rw [← hq6] at rrs
    clear hv3 hv6 hq6 hN hR nrb nrs rrb z32 z77
    have HS0 := Lib.hid s0; have HS1 := Lib.hid s1; have HG := Lib.hid hG; have HRR := Lib.hid rrs
    clear s0 s1 hG rrs
    go_enter Tryd.func5, Tryd.ntmps5
    go_wp2_with fail
    refine (r8Long_no _ _ _ _ _ _ _ (by omega) (by omega)).mono ?_; rintro e w' ⟨rfl, hw⟩; obtain rfl := hw
    go_wp2_with fail
    refine (hR0 _ HS1.out).mono ?_; rintro e w' ⟨rfl, hw⟩; obtain rfl := hw; clear hR0
    go_wp2_with fail
    refine (hR1 _ HS1.out).mono ?_; rintro e w' ⟨rfl, hw⟩; obtain rfl := hw; clear hR1
    go_wp2_with fail
    refine (cN _).mono ?_; rintro e w2 ⟨rfl, hb2⟩; clear cN
    go_wp2_with fail
    refine (cW _ (HG.out.below hb2 (Nat.le_refl _))).mono ?_; rintro e w3 ⟨rfl, hb3⟩; clear cW
    have hb3 := hb2.trans (hb3.mono hb2.size)
    clear hb2
    go_wp2_with fail
    refine (cW2 _ (HG.out.below hb3 (Nat.le_refl _))).mono ?_; rintro e w4 ⟨rfl, hb4⟩; clear cW2
    have hb4 := hb3.trans (hb4.mono hb3.size)
    clear hb3
    go_wp2_with fail
    refine (hR2 _ (HS1.out.below hb4 (Nat.le_refl _))).mono ?_; rintro e w' ⟨rfl, hw⟩; obtain rfl := hw; clear hR2
    go_wp2_with fail
    refine (hR3 _ (HS1.out.below hb4 (Nat.le_refl _))).mono ?_; rintro e w' ⟨rfl, hw⟩; obtain rfl := hw; clear hR3
    go_wp2_with fail
    refine (cR _).mono ?_; rintro e w5 ⟨rfl, hb5⟩; clear cR
    have hb5 := hb4.trans (hb5.mono hb4.size)
    clear hb4
    go_wp2_with fail
    refine (cB _).mono ?_; rintro e w6 ⟨rfl, hb6⟩; clear cB
    have hb6 := hb5.trans (hb6.mono hb5.size)
    clear hb5
    go_wp2_with fail
    refine (cB2 _).mono ?_; rintro e w7 ⟨rfl, hb7⟩; clear cB2
    have hb7 := hb6.trans (hb7.mono hb6.size)
    clear hb6
    have HQ : (q6 = false) ∨ (q6 = true ∧ (1 + (x2 * 256 + x3) % 3999) % 1000 = 0) ∨ (q6 = true ∧ (1 + (x2 * 256 + x3) % 3999) % 1000 = 100) := by
      cases q6 with
      | false => exact .inl rfl
      | true => exact (HRR.out rfl).elim (fun h => .inr (.inl ⟨rfl, h⟩)) (fun h => .inr (.inr ⟨rfl, h⟩))
    go_upto_region 13 with fail
    go_cut [130] from 107 to 129 (fun c wx => c = .bool false ∧ wx = w7)
    case first =>
      rcases HQ with rfl | ⟨rfl, hq⟩ | ⟨rfl, hq⟩
      all_goals (go_wp2_with fail; go_meet; exact ⟨rfl, rfl⟩)
    case rest =>
    obtain ⟨rfl, rfl⟩ := hcut
    go_wp2_with fail
    refine (hR4 _ (HS1.out.below hb7 (Nat.le_refl _))).mono ?_; rintro e w' ⟨rfl, hw⟩; obtain rfl := hw; clear hR4
    go_wp2_with fail
    refine (r8Text_any _ a0 len0 cap0 (z0.take len0) ((HS0.out.below hb7 (Nat.le_refl _)).more hb7.size) m0 y4 (by omega)).mono ?_
    rintro e w8 ⟨s, rfl, hs, habc, hb8⟩
    have hb8 := hb7.trans (hb8.mono hb7.size)
    clear hb7
    obtain ⟨t, ht, tsz, tlet, tsk, tsk3, t0⟩ := told_text (s := s) (by omega) habc
    have ts1 : t.size ≤ 16 := by omega
    have ts0 : 1 ≤ t.size := by omega
    have hss : s.size ≤ 15 := by omega
    have HT := Lib.hid ht
    have za : aaa.size = 3 := rfl
    have wt : t.size ≤ maxLen := by unfold maxLen; omega
    have cP := iPackText_any t wt
    rw [tlet, pkR_of tlet] at cP
    have hpl := pkV_le t
    have cU := iUnpack_any (pkV t) (by omega)
    rw [(unpack_back tlet).1, (unpack_back tlet).2] at cU
    have cK := iSoundKey_any t wt
    rw [tsk] at cK
    have cK2 := iSoundKey_any (t ++ aaa) (by rw [ByteArray.size_append, za]; unfold maxLen; omega)
    rw [tsk3, skV_aaa tsk tsk3] at cK2
    obtain ⟨k4, k0⟩ := skV_four tsk
    rw [t0] at k0
    have k00 : 0 < (skV t).size := by omega
    obtain ⟨P, hP⟩ : ∃ P, P = pkV t := ⟨_, rfl⟩
    rw [← hP] at cP cU hpl
    obtain ⟨K, hK⟩ : ∃ K, K = skV t := ⟨_, rfl⟩
    rw [← hK] at cK cK2 k4 k0 k00
    have k01 : (((K[0]'k00).toNat : Nat) : Int) = 99 := by
      unfold b8 at k0; rw [dif_pos k00] at k0; rw [k0]; rfl
    have k4' : (K.size : Int) = 4 := by omega
    have hpl' : (P.size : Int) ≤ (t.size : Int) := by omega
    clear hs habc ht tsk tsk3 za hP hK t0 tsz k0
    go_wp2_with fail
    rw [HT.out]
    refine (cP _).mono ?_; rintro e w9 ⟨rfl, hb9⟩; clear cP
    have hb9 := hb8.trans (hb9.mono hb8.size)
    clear hb8
    go_wp2_with fail
    refine (cU _).mono ?_; rintro e w10 ⟨rfl, hb10⟩; clear cU
    have hb10 := hb9.trans (hb10.mono hb9.size)
    clear hb9
    go_wp2_with fail
    refine (cK _).mono ?_; rintro e w11 ⟨rfl, hb11⟩; clear cK
    have hb11 := hb10.trans (hb11.mono hb10.size)
    clear hb10
    go_wp2_with fail
    refine (cK2 _).mono ?_; rintro e w12 ⟨rfl, hb12⟩; clear cK2
    have hb12 := hb11.trans (hb12.mono hb11.size)
    clear hb11
    go_wp2_with fail
    have hsl := sl_two w12 9 endsL xyzL
    have hlts : ∀ s ∈ endsL, s.size ≤ maxLen := by decide
    have hltx : ∀ s ∈ xyzL, s.size ≤ maxLen := by decide
    refine (iStemOf_any t _ 3 3 endsL _ 3 3 xyzL 0 _ ⟨hsl.1, hlts⟩ ⟨hsl.2.1, hltx⟩ (by decide) (by decide) wt).mono ?_
    rw [stem_want (by omega)]
    rintro e w13 ⟨rfl, hb13⟩
    have hb13 := hb12.trans ((hsl.2.2.trans (hb13.mono hsl.2.2.size)).mono hb12.size)
    clear hb12 hsl
    go_wp2_with fail
    have hsl := sl_two w13 9 endsL xyzL
    refine (iStemOf_any t _ 3 3 endsL _ 3 3 xyzL 40 _ ⟨hsl.1, hlts⟩ ⟨hsl.2.1, hltx⟩ (by decide) (by decide) wt).mono ?_
    rw [stem_kept (by omega)]
    rintro e w14 ⟨rfl, hb14⟩
    have hb14 := hb13.trans ((hsl.2.2.trans (hb14.mono hsl.2.2.size)).mono hb13.size)
    clear hb13 hsl
    go_upto_block 0 with fail
    go_cut [32] from 226 to 266 (fun v wx => v = .string (stWant t) ∧ wx = w14)
    case first =>
      go_wp2_with fail
      all_goals
        go_meet
        refine ⟨?_, rfl⟩
        first
          | ((with_reducible refine way3 ?_ ?_) <;> first | assumption | omega)
          | ((with_reducible refine way2 (fun _ => ?_) ?_ ?_) <;> first | assumption | omega)
          | ((with_reducible refine way1 (fun _ => ?_) (fun _ => ?_) ?_ ?_) <;> first | assumption | omega)
          | ((with_reducible refine way0 (fun _ => ?_) (fun _ => ?_) ?_ ?_) <;> first | assumption | omega)
    case rest =>
    obtain ⟨rfl, hcw⟩ := hcut
    obtain rfl := hcw.symm
    go_wp2_with fail
    have hsp := (Row.new w14 9 (sv patsL)).sl
    rw [sv_length] at hsp
    refine (iHyphens_any t _ 3 3 patsL _ ⟨hsp, by decide⟩ (by decide) (by decide) wt).mono ?_
    rw [pats_B tlet]
    rintro e w15 ⟨v, rfl, hv, hb15⟩
    have hb15 := hb14.trans (((Below.refl w14.heap.size w14).alloc (Nat.le_refl _) (.cells (sv patsL).toArray 9)).trans (hb15.mono (by simp)) |>.mono hb14.size)
    clear hb14 hsp hlts hltx
    have hv : RowI w15 _ 2 v (hyR t patsL) := hv
    obtain ⟨A, c, rfl, hsl⟩ := placeS hv
    have hrn : (hyR t patsL).length ≤ 16 := by rw [← hyC_all]; have := hyO_len (hyM t) (t.size - 1 - 2); unfold hyC; omega
    obtain ⟨r, hr⟩ : ∃ r, r = hyR t patsL := ⟨_, rfl⟩
    rw [← hr] at hsl hrn ⊢
    have HR := Lib.hid hr
    have HSL := Lib.hid hsl
    clear hr hv hsl
    obtain ⟨rn, hrl⟩ : ∃ rn, rn = r.length := ⟨_, rfl⟩
    rw [← hrl] at hrn HSL ⊢
    have HRL := Lib.hid hrl; clear hrl
    go_wp2_with fail
    go_loopg [36, 37] t.size (fun f a k wr => ∃ j : Nat, a = .int .i64 ((hyC t j).length : Int) ∧ k = .int .i64 j ∧ 2 ≤ j ∧ t.size + 2 ≤ f + j ∧ (j + 1 ≤ t.size ∨ j = 2) ∧ w15 = wr)
    case atStart => exact ⟨2, rfl, rfl, by omega, by omega, .inr rfl, rfl⟩
    case round =>
      obtain ⟨k, rfl, rfl, hk2, hm, hk, hwr⟩ := hrel
      obtain rfl := hwr
      obtain ⟨a, ha⟩ : ∃ a, a = (hyC t k).length := ⟨_, rfl⟩
      rw [← ha]
      have ha16 : a ≤ 1000 := by
        rw [ha]; have := hyO_len (hyM t) (k - 2); unfold hyC; omega
      have HA := Lib.hid ha; clear ha
      by_cases hlt : k + 2 ≤ t.size
      · have hg := get_b8 t
        have q1 : (k : Int) + 2 ≤ (t.size : Int) := by omega
        rcases round_ways hk2 hlt with ⟨e1, hp⟩ | ⟨e1, e2, hp⟩ | ⟨e1, e2, e3, hp⟩ | ⟨e1, e2, e3, hp⟩
        · have hat := hyC_at hk2 hlt hp
          have hyes := Lib.hid (hyC_yes hk2 hlt hp)
          rw [← HR.out, ← HA.out] at hat
          have hal : a < rn := by rw [HRL.out]; exact (List.getElem?_eq_some_iff.1 hat).1
          obtain ⟨b, off, x, rfl, hb, hx, hc⟩ := HSL.out.at_ hal
          obtain rfl : (k : Int) = x := by have := hx.out; rw [hat] at this; exact Option.some.inj this
          have q2 : (a : Int) < (rn : Int) := by omega
          clear hat hx hp
          go_wp2_with fail
          go_roundg (gk - 1)
          case measure => omega
          case rel => exact ⟨k + 1, by rw [hyes.out, List.length_append, ← HA.out, List.length_singleton]; go_num, by go_num, by omega, by omega, by omega, rfl⟩
        · have hno := Lib.hid (hyC_no hk2 hlt hp)
          clear hp
          go_wp2_with fail
          go_roundg (gk - 1)
          case measure => omega
          case rel => exact ⟨k + 1, by rw [hno.out, ← HA.out], by go_num, by omega, by omega, by omega, rfl⟩
        · have hno := Lib.hid (hyC_no hk2 hlt hp)
          clear hp
          go_wp2_with fail
          go_roundg (gk - 1)
          case measure => omega
          case rel => exact ⟨k + 1, by rw [hno.out, ← HA.out], by go_num, by omega, by omega, by omega, rfl⟩
        · have hat := hyC_at hk2 hlt hp
          have hyes := Lib.hid (hyC_yes hk2 hlt hp)
          rw [← HR.out, ← HA.out] at hat
          have hal : a < rn := by rw [HRL.out]; exact (List.getElem?_eq_some_iff.1 hat).1
          obtain ⟨b, off, x, rfl, hb, hx, hc⟩ := HSL.out.at_ hal
          obtain rfl : (k : Int) = x := by have := hx.out; rw [hat] at this; exact Option.some.inj this
          have q2 : (a : Int) < (rn : Int) := by omega
          clear hat hx hp
          go_wp2_with fail
          go_roundg (gk - 1)
          case measure => omega
          case rel => exact ⟨k + 1, by rw [hyes.out, List.length_append, ← HA.out, List.length_singleton]; go_num, by go_num, by omega, by omega, by omega, rfl⟩
      · have hend := hyC_end hk2 (by omega) hk
        rw [← HA.out, ← HR.out, ← HRL.out] at hend
        have q1 : (t.size : Int) < (k : Int) + 2 := by omega
        subst hend
        go_wp2_with fail
        go_ret
        exact ⟨ret_bool (by simp), hb15⟩
end Go.Proofs.YtpmklldochpnlaaDoor.fnTold
