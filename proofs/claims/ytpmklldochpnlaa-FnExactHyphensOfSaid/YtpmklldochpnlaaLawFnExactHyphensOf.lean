/- FnExactHyphensOf: the walk: the law returns true. -/
import Derived.Test.YtpmklldochpnlaaHyI2
import Derived.Test.YtpmklldochpnlaaCpS
import Derived.Test.YtpmklldochpnlaaMkO
namespace Go.Proofs.Ytpmklldochpnlaa.fnExactHyphensOf
open Go.RowKit
set_option linter.unusedVariables false
def nout (ok : Bool) (r : List Int) : List Int := if ok then r else []
theorem out_row {w : World} {base : Nat} {v : Value} {ok : Bool} {r : List Int} (h : NsOut w base v ok r) : RowI w base 2 v (nout ok r) := by
  cases ok
  · have hv : v = .slice none 0 0 := h
    subst hv; exact RowI.nil _ _ _
  · exact h
theorem out_len {ss : List ByteArray} {t : ByteArray} : (nout (hyB t ss) (hyR t ss)).length ≤ 1568 := by
  unfold nout
  split
  · rename_i h
    have hs : t.size ≤ 48 := by
      have h' : (letB t && decide (ss.length ≤ 32) && ss.all hyK) = true := h
      rw [Bool.and_eq_true, Bool.and_eq_true] at h'
      have h2 : (letsB t && txtB t) = true := h'.1.1
      rw [Bool.and_eq_true] at h2
      exact txtB_true h2.2
    have := hyO_len (hyN (hyE t) ss ss.length) (t.size - 3)
    rw [hyR]; omega
  · simp
set_option maxHeartbeats 400000 in
/-- What is counted bounds every text of the list. -/
theorem szS2 (A : Option Addr) (n c : Nat) (ss : List ByteArray) (left : Int) (w : World) (B : Nat) (h : SlS w B A n ss) (h0 : 0 ≤ left) (h1 : left ≤ 1048576) (hnm : n ≤ maxLen) :
    Calls Try.prog 16 #[.slice A n c, .int .i64 left] w fun e w' => ∃ z : Int, e = .returned (.int .i64 z) ∧ -1 ≤ z ∧ z ≤ 1048576 ∧ (0 ≤ z → n ≤ 1048576 ∧ ∀ x ∈ ss, x.size ≤ 1048576) ∧ w = w' := by
  have H := Lib.hid h; clear h
  unfold maxLen at hnm
  by_cases hb : left - (n : Int) < 0
  · go_enter Try.func16, Try.ntmps16
    go_wp2
    go_ret
    exact ⟨-1, rfl, by omega, by omega, fun h => by omega, rfl⟩
  · have hb' : (0 : Int) ≤ left - (n : Int) := by omega
    clear hb
    go_enter Try.func16, Try.ntmps16
    go_wp2
    go_loopg [1, 5] n (fun m l i wr => ∃ (k : Nat) (z : Int), l = .int .i64 z ∧ i = .int .i64 k ∧ k ≤ n ∧ n ≤ m + k ∧ 0 ≤ z ∧ z ≤ 1048576 ∧ Hid (∀ x ∈ ss.take k, x.size ≤ 1048576) ∧ wr = w)
    case atStart => exact ⟨0, _, rfl, rfl, by omega, by omega, by omega, by omega, by intro x hx; simp at hx, rfl⟩
    case round =>
      obtain ⟨k, z, rfl, rfl, hk, hm, hz0, hz1, HZ, rfl⟩ := hrel
      by_cases hlt : k < n
      · obtain ⟨b, off, x, rfl, hbB, hx, hc, hxs⟩ := H.out.at_ hlt
        have l1 : (0 : Int) ≤ (k : Int) := by omega
        unfold maxLen at hxs
        by_cases hz : z - (x.size : Int) < 0
        · go_wp2
          go_ret
          exact ⟨-1, rfl, by omega, by omega, fun h => by omega, rfl⟩
        · have hz' : (0 : Int) ≤ z - (x.size : Int) := by omega
          have HZ' : Hid (∀ y ∈ ss.take (k + 1), y.size ≤ 1048576) := fun y hy => by
            obtain ⟨hkl, hxe⟩ := List.getElem?_eq_some_iff.1 hx.out
            rw [List.take_add_one, hx.out, List.mem_append] at hy
            rcases hy with hy | hy
            · exact HZ.out y hy
            · simp at hy; subst hy; omega
          clear hz
          go_wp2
          go_roundg (gk - 1)
          case measure => omega
          case rel => exact ⟨k + 1, _, rfl, by go_num, by omega, by omega, by omega, by omega, HZ'.out, rfl⟩
      · obtain rfl : n = k := by omega
        have HZ' : Hid (∀ y ∈ ss, y.size ≤ 1048576) := by have := HZ.out; rw [take_all H.out.len] at this; exact this
        go_wp2
        go_ret
        exact ⟨z, rfl, by omega, by omega, fun h => ⟨by omega, HZ'.out⟩, rfl⟩
set_option maxHeartbeats 2000000 in
theorem walk (t : ByteArray) (a0 : Option Addr) (n c : Nat) (z0 : List ByteArray) (w : World) (wt : t.size ≤ maxLen) (w0 : IsRowS w a0 n c z0) :
    Calls Try.prog 9 #[.string t, .slice a0 n c] w fun e w' => e = .returned (.bool true) ∧ Below w.heap.size w w' := by
  have hL := w0.lens
  have hS := w0.sl
  have hnm : n ≤ maxLen := Nat.le_trans hL.1 hL.2.1
  obtain ⟨ss, hss⟩ : ∃ ss, ss = z0.take n := ⟨_, rfl⟩
  rw [← hss] at hS
  clear hss hL w0
  have HS := Lib.hid hS; clear hS
  have wt' := wt; unfold maxLen at wt'
  by_cases hts : t.size ≤ 1048576
  · go_enter Try.func9, Try.ntmps9
    go_wp2_with fail
    refine (szS2 a0 n c ss 1048576 w w.heap.size HS.out (by omega) (by omega) hnm).mono ?_
    rintro e w' ⟨z, rfl, hz0, hz1, hzn, hw⟩
    obtain rfl := hw
    by_cases hneg : z < 0
    · clear hzn
      go_wp2_with fail
      go_ret
      exact ⟨rfl, Below.refl _ _⟩
    · obtain ⟨hn, hps⟩ := hzn (by omega)
      have HP := Lib.hid hps; clear hps
      have hz : 0 ≤ z := by omega
      clear hzn hneg
      have hn4 : n ≤ 4294967296 := by omega
      have hOL := @out_len ss t
      obtain ⟨ok, hok⟩ : ∃ ok, ok = hyB t ss := ⟨_, rfl⟩
      rw [← hok] at hOL
      obtain ⟨r, hr⟩ : ∃ r, r = nout ok (hyR t ss) := ⟨_, rfl⟩
      rw [← hr] at hOL
      have hOL4 : r.length ≤ 4294967296 := by omega
      have HOK := Lib.hid hok; have HRR := Lib.hid hr
      clear hok hr
      go_wp2_with fail
      refine (toStringS_any a0 n c ss w HS.out hn4).mono ?_
      rintro e w1 ⟨g1, rfl, hg1, hr1, hb1⟩
      have H1 := Lib.hid (RowS.sl hr1 HS.out.len HS.out.2)
      clear hr1
      go_wp2_with fail
      refine (sHyphens_any t _ n n ss w1 H1.out hn4 HP.out wt).mono ?_
      rintro e w2 ⟨v2, rfl, hv2, hb2⟩
      have hR2 := Lib.hid (out_row hv2); clear hv2
      rw [← HOK.out] at hR2 ⊢
      rw [← HRR.out] at hR2
      have h2 := hb1.trans (hb2.mono hb1.size)
      go_wp2_with fail
      refine (toStringS_any a0 n c ss w2 ((HS.out.below h2 (Nat.le_refl _)).more h2.size) hn4).mono ?_
      rintro e w3 ⟨g3, rfl, hg3, hr3, hb3⟩
      have h3 := h2.trans (hb3.mono h2.size)
      have H3 := Lib.hid (RowS.sl hr3 HS.out.len HS.out.2)
      have N3 : Hid (RowN w3 g3 9 n) := ⟨sv ss, by rw [sv_length]; exact HS.out.len, hr3⟩
      have g3lt := hr3.lt
      clear hr3
      go_wp2_with fail
      refine (iHyphens_any t _ n n ss w3 H3.out hn4 HP.out wt).mono ?_
      rintro e w4 ⟨v4, rfl, hv4, hb4⟩
      have hR4 := Lib.hid (out_row hv4); clear hv4
      rw [← HOK.out] at hR4 ⊢
      rw [← HRR.out] at hR4
      have h4 := h3.trans (hb4.mono h3.size)
      have s24 := hb3.trans (hb4.mono hb3.size)
      go_wp2_with fail
      refine (eqOwn v4 v2 r _ _ w4 hR4.out (hR2.out.keep s24 (Nat.le_refl _)) hOL4).mono ?_
      rintro e w5 ⟨rfl, hb5⟩
      have h5 := h4.trans (hb5.mono h4.size)
      have s25 := s24.trans (hb5.mono s24.size)
      have s35 := hb4.trans (hb5.mono hb4.size)
      go_wp2_with fail
      refine (toStringS_any a0 n c ss w5 ((HS.out.below h5 (Nat.le_refl _)).more h5.size) hn4).mono ?_
      rintro e w6 ⟨g6, rfl, hg6, hr6, hb6⟩
      have H6 := Lib.hid (RowS.sl hr6 HS.out.len HS.out.2)
      clear hr6
      have h6 := h5.trans (hb6.mono h5.size)
      have s26 := s25.trans (hb6.mono s25.size)
      have s36 := s35.trans (hb6.mono s35.size)
      go_wp2_with fail
      refine (eqStringS_any _ n n ss _ n n ss w6 _ _ (H3.out.below s36 (Nat.le_refl _)) H6.out hn4 hn4).mono ?_
      rintro e w7 ⟨rfl, hb7⟩
      have hd : decide (ss = ss) = true := decide_eq_true rfl
      have h7 := h6.trans (hb7.mono h6.size)
      have s27 := s26.trans (hb7.mono s26.size)
      have s37 := s36.trans (hb7.mono s36.size)
      have s47 := (hb5.trans (hb6.mono hb5.size)).trans (hb7.mono (Nat.le_trans hb5.size hb6.size))
      go_wp2_with fail
      refine (markStringS_any g3 n n 1 w7 (N3.out.below s37 g3lt) hn (by omega) (by omega)).mono ?_
      rintro e w8 ⟨rfl, hbut⟩
      have g3w7 : g3 < w7.heap.size := Nat.lt_of_lt_of_le g3lt s37.size
      have s28 := s27.trans (hbut.below' hg3 g3w7)
      have h8 := h7.trans (hbut.below' (Nat.le_trans h2.size hg3) g3w7)
      have hR8 := Lib.hid ((hR4.out.keep s47 (Nat.le_refl _)).but hbut g3lt)
      have q1 : (0 : Int) ≤ 1 + (n : Int) := by omega
      go_wp2_with fail
      refine (eqOwn v4 v2 r _ _ w8 hR8.out (hR2.out.keep s28 (Nat.le_refl _)) hOL4).mono ?_
      rintro e w9 ⟨rfl, hb9⟩
      have h9 := h8.trans (hb9.mono h8.size)
      have s29 := s28.trans (hb9.mono s28.size)
      have hR9 := Lib.hid (hR8.out.keep hb9 (Nat.le_refl _))
      have hsz39 : w3.heap.size ≤ w9.heap.size := Nat.le_trans s37.size (Nat.le_trans hbut.2.2.2.1 hb9.size)
      go_wp2_with fail
      refine (markOwn w3.heap.size v4 r 1 w9 hR9.out hsz39 hOL4 (by omega) (by omega)).mono ?_
      rintro e w10 ⟨rfl, hmk, hb10⟩
      have HM := Lib.hid hmk; clear hmk
      have h10 := h9.trans (hb10.mono h3.size)
      have s2a := s29.trans (hb10.mono hb3.size)
      go_wp2_with fail
      refine (heldOwn v4 r.length 1 w10 HM.out hOL4 (by omega) (by omega)).mono ?_
      rintro e w11 ⟨rfl, hw11⟩
      obtain rfl := hw11
      have q2 : (0 : Int) ≤ 1 + (r.length : Int) := by omega
      go_wp2_with fail
      refine (toStringS_any a0 n c ss w10 ((HS.out.below h10 (Nat.le_refl _)).more h10.size) hn4).mono ?_
      rintro e w12 ⟨g12, rfl, hg12, hr12, hb12⟩
      have H12 := Lib.hid (RowS.sl hr12 HS.out.len HS.out.2)
      clear hr12
      have h12 := h10.trans (hb12.mono h10.size)
      have s2c := s2a.trans (hb12.mono s2a.size)
      go_wp2_with fail
      refine (iHyphens_any t _ n n ss w12 H12.out hn4 HP.out wt).mono ?_
      rintro e w13 ⟨v13, rfl, hv13, hb13⟩
      have hR13 := Lib.hid (out_row hv13); clear hv13
      rw [← HOK.out] at hR13 ⊢
      rw [← HRR.out] at hR13
      have h13 := h12.trans (hb13.mono h12.size)
      have s2d := s2c.trans (hb13.mono s2c.size)
      go_wp2_with fail
      refine (eqOwn v13 v2 r _ _ w13 hR13.out (hR2.out.keep s2d (Nat.le_refl _)) hOL4).mono ?_
      rintro e w14 ⟨rfl, hb14⟩
      have h14 := h13.trans (hb14.mono h13.size)
      have sae := (hb12.trans (hb13.mono hb12.size)).trans (hb14.mono (Nat.le_trans hb12.size hb13.size))
      go_wp2_with fail
      refine (heldOwn v4 r.length 1 w14 (HM.out.below sae (Nat.le_refl _)) hOL4 (by omega) (by omega)).mono ?_
      rintro e w15 ⟨rfl, hw15⟩
      obtain rfl := hw15
      go_wp2_with fail
      go_ret
      exact ⟨rfl, h14⟩
  · have hts' : 1048576 < t.size := by omega
    clear hts
    go_enter Try.func9, Try.ntmps9
    go_wp2_with fail
    go_ret
    exact ⟨rfl, Below.refl _ _⟩
end Go.Proofs.Ytpmklldochpnlaa.fnExactHyphensOf
