/- CommonText of the program: the way back through the table. -/
import Derived.Test.YtkfmjnefbimecaaCm
import Derived.Test.YtkfmjnefbimecaaRev
import Derived.Deep.LoopGhost

namespace Go.Proofs.Ytkfmjnefbimecaa
open Go.RowKit Go.PlainAid
set_option linter.unusedVariables false
def coB (a b : ByteArray) : Bool := txtB a && txtB b
def coV (a b : ByteArray) : ByteArray := if coB a b then ⟨(cmAll a b).reverse.toArray⟩ else ⟨#[]⟩
theorem xy_eq {x y : Int} (h : x = y) : (x == y) = true := by simp [h]
theorem bt_b8 (s : ByteArray) (k : Nat) : bt s k = ((b8 s k).toNat : Int) := by
  unfold bt b8
  split <;> simp
theorem xy_ne {x y : Int} (h : x ≠ y) : (x == y) = false := by simp [h]

set_option maxRecDepth 100000 in
set_option maxHeartbeats 4000000 in
theorem iCommonText_any (a b : ByteArray) (wa : a.size ≤ maxLen) (wb : b.size ≤ maxLen) (w : World) :
    Calls Try.prog 34 #[.string a, .string b] w fun e w' => e = .returned (.tuple #[.string (coV a b), .bool (coB a b)]) ∧ Below w.heap.size w w' := by
  by_cases h1 : txtB a = true
  · by_cases h2 : txtB b = true
    · have hB := Lib.hid (show coB a b = true by simp [coB, h1, h2])
      have hV := Lib.hid (show coV a b = ⟨(cmAll a b).reverse.toArray⟩ by simp [coV, coB, h1, h2])
      have ha := txtB_true h1
      have hb := txtB_true h2
      go_enter Try.func34, Try.ntmps34
      go_wp2_with (first | (go_at_call 79; refine (iIsText_any _ (by assumption) _).mono ?_; rintro e w' ⟨rfl, rfl⟩))
      refine (iCommon_any _ _ ha hb _).mono ?_
      rintro e w1 ⟨v, rfl, htab, hb1⟩
      have HT := Lib.hid htab; clear htab
      obtain ⟨R, hR⟩ : ∃ R, R = cmAll a b := ⟨_, rfl⟩
      have HR := Lib.hid hR; clear hR
      go_wp2
      go_loopg [7, 8, 9] (a.size + b.size) (fun m o si sk wr => ∃ (g c i k : Nat) (done : List UInt8), o = .slice (some ⟨g, 0, none⟩) done.length c ∧ si = .int .i64 i ∧ sk = .int .i64 k ∧ i ≤ a.size ∧ k ≤ b.size ∧ done.length + i ≤ a.size ∧ OwnB wr w1.heap.size g c done ∧ CmAt a b R done i k ∧ i + k ≤ m ∧ Below w1.heap.size w1 wr)
      case atStart => exact ⟨_, _, a.size, b.size, [], rfl, rfl, rfl, Nat.le_refl _, Nat.le_refl _, by simp, OwnB.made _ _ (Nat.le_refl _), by rw [HR.out]; exact CmAt.start a b, Nat.le_refl _, (Below.refl _ _).alloc (Nat.le_refl _) _⟩
      case round =>
        obtain ⟨g, c, i, k, done, rfl, rfl, rfl, hi, hk, hdn, hown, hat, hm, hbl⟩ := hrel
        have HO := Lib.hid hown; clear hown
        have HA := Lib.hid hat; clear hat
        by_cases hi0 : 0 < i
        · by_cases hk0 : 0 < k
          · obtain ⟨i, rfl⟩ : ∃ j, i = j + 1 := ⟨i - 1, by omega⟩
            obtain ⟨k, rfl⟩ : ∃ j, k = j + 1 := ⟨k - 1, by omega⟩
            have hdl : done.length ≤ 48 := by omega
            have hba := get_b8 a
            have hbb := get_b8 b
            have l1 : (0 : Int) ≤ (i : Int) := by omega
            have l2 : (i : Int) < (a.size : Int) := by omega
            have l3 : (0 : Int) ≤ (k : Int) := by omega
            have l4 : (k : Int) < (b.size : Int) := by omega
            have w1' : IntKind.i64.wrap (i : Int) = (i : Int) := IntWalk.i64_in _ (by omega)
            have w2' : IntKind.i64.wrap (k : Int) = (k : Int) := IntWalk.i64_in _ (by omega)
            have hs1 := hbl.size
            by_cases hq : bt a i = bt b k
            · have q1 : (((b8 a i).toNat : Int) == ((b8 b k).toNat : Int)) = true := by rw [bt_b8, bt_b8] at hq; exact xy_eq hq
              have HQ := Lib.hid hq; clear hq
              go_wp2
              go_quiet (fail)
              clear w1' w2'
              go_wp2_with (at_builtin; refine wpList_byte_push _ rfl (.tmp 44) (.tmp 49) rfl w1.heap.size g c done.length done rfl (by rfl) (HO.out.drewN _) (b8 a i) (by rfl) (by omega) hs1 ?_; intro g' c' w' hown hbl2 hgg)
              go_roundg (i + k)
              case measure => omega
              case rel => exact ⟨g', c', i, k, done ++ [b8 a i], by simp, by go_num, by go_num, by omega, by omega, by simp; omega, hown, HA.out.both HQ.out, Nat.le_refl _, (below_draws hbl _).trans hbl2⟩
            · have q1 : (((b8 a i).toNat : Int) == ((b8 b k).toNat : Int)) = false := by rw [bt_b8, bt_b8] at hq; exact xy_ne hq
              have HQ := Lib.hid hq; clear hq
              obtain ⟨gt, ct, g1, c1, hv, hct, hgt, hgtl, hch, hcc, hg, hgl, hne, hcs⟩ := HT.out.at_ (rowsOf_get (cm a b) (j := i) (n := b.size + 1) (show i < a.size + 1 by omega))
              obtain ⟨gt2, ct2, g2, c2, hv2, _, _, hgtl2, hch2, hcc2, _, hgl2, _, hcs2⟩ := HT.out.at_ (rowsOf_get (cm a b) (j := i + 1) (n := b.size + 1) (show i + 1 < a.size + 1 by omega))
              rw [rowOf_length] at hch hcc hch2 hcc2
              rw [rowsOf_length] at hct hv hv2
              subst hv
              injection hv2 with e1 _ e3
              injection e1 with e1
              injection e1 with e1
              subst e1 e3
              have hx1 := (hbl.cell (p := ⟨g1, k + 1, none⟩) hgl).trans (hcs (k + 1) _ (rowOf_get _ (by omega)))
              have hx2 := (hbl.cell (p := ⟨g2, k + 1, none⟩) hgl2).trans (hcs2 (k + 1) _ (rowOf_get _ (by omega)))
              have hy1 := (hbl.cell (p := ⟨gt, i, none⟩) hgtl).trans hch
              have hy2 := (hbl.cell (p := ⟨gt, i + 1, none⟩) hgtl).trans hch2
              clear hcs hcs2 hch hch2
              have n1 : ((k : Int) + 1).toNat = k + 1 := by omega
              have n2 : ((i : Int) + 1).toNat = i + 1 := by omega
              have l5 : (0 : Int) ≤ (k : Int) + 1 := by omega
              have l6 : (k : Int) + 1 < (b.size : Int) + 1 := by omega
              have l7 : (0 : Int) ≤ (i : Int) + 1 := by omega
              have l8 : (i : Int) + 1 < (a.size : Int) + 1 := by omega
              have l9 : (i : Int) < (a.size : Int) + 1 := by omega
              obtain ⟨x1, e1⟩ : ∃ x, x = cm a b i (k + 1) := ⟨_, rfl⟩
              obtain ⟨x2, e2⟩ : ∃ x, x = cm a b (i + 1) (k + 1) := ⟨_, rfl⟩
              rw [← e1] at hx1
              rw [← e2] at hx2
              have E1 := Lib.hid e1; have E2 := Lib.hid e2
              clear e1 e2
              by_cases hc : x1 = x2
              · have q2 : (x1 == x2) = true := xy_eq hc
                have HC := Lib.hid hc; clear hc
                have HA2 : Hid (CmAt a b R done i (k + 1)) := HA.out.up HQ.out (by rw [← E1.out, ← E2.out, HC.out])
                go_wp2
                go_quiet (fail)
                go_wp2
                go_quiet (fail)
                clear w1' w2'
                go_wp2
                go_roundg (i + (k + 1))
                case measure => omega
                case rel => exact ⟨g, c, i, k + 1, done, rfl, by go_num, by go_num, by omega, by omega, by omega, HO.out.drewN _, HA2.out, Nat.le_refl _, below_draws hbl _⟩
              · have q2 : (x1 == x2) = false := xy_ne hc
                have HA2 : Hid (CmAt a b R done (i + 1) k) := HA.out.back HQ.out (by rw [← E1.out, ← E2.out]; exact hc)
                clear hc
                go_wp2
                go_quiet (fail)
                go_wp2
                go_quiet (fail)
                clear w1' w2'
                go_wp2
                go_roundg (i + 1 + k)
                case measure => omega
                case rel => exact ⟨g, c, i + 1, k, done, rfl, by go_num, by go_num, by omega, by omega, by omega, HO.out.drewN _, HA2.out, Nat.le_refl _, below_draws hbl _⟩
          · obtain rfl : k = 0 := by omega
            have hfin : Hid (done = R) := HA.out.done_ (.inr rfl)
            go_wp2_with (first | (go_at_call 82; refine (HO.out.revd rfl (by omega)).mono ?_; rintro e w2 ⟨rfl, hstr, hbr⟩))
            go_ret2
            refine ⟨by rw [hV.out, hB.out, ← HR.out, ← hfin.out]; rfl, ?_⟩
            exact hb1.trans ((hbl.trans hbr).mono hb1.size)
        · obtain rfl : i = 0 := by omega
          have hfin : Hid (done = R) := HA.out.done_ (.inl rfl)
          go_wp2_with (first | (go_at_call 82; refine (HO.out.revd rfl (by omega)).mono ?_; rintro e w2 ⟨rfl, hstr, hbr⟩))
          go_ret2
          refine ⟨by rw [hV.out, hB.out, ← HR.out, ← hfin.out]; rfl, ?_⟩
          exact hb1.trans ((hbl.trans hbr).mono hb1.size)
    · have h2' : txtB b = false := by simpa using h2
      have hB := Lib.hid (show coB a b = false by simp [coB, h2'])
      have hV := Lib.hid (show coV a b = ⟨#[]⟩ by simp [coV, coB, h2'])
      go_enter Try.func34, Try.ntmps34
      go_wp2_with (first | (go_at_call 79; refine (iIsText_any _ (by assumption) _).mono ?_; rintro e w' ⟨rfl, rfl⟩))
      go_ret2
      exact ⟨by rw [hV.out, hB.out]; rfl, Below.refl _ _⟩
  · have h1' : txtB a = false := by simpa using h1
    have hB := Lib.hid (show coB a b = false by simp [coB, h1'])
    have hV := Lib.hid (show coV a b = ⟨#[]⟩ by simp [coV, coB, h1'])
    go_enter Try.func34, Try.ntmps34
    go_wp2_with (first | (go_at_call 79; refine (iIsText_any _ (by assumption) _).mono ?_; rintro e w' ⟨rfl, rfl⟩))
    go_ret2
    exact ⟨by rw [hV.out, hB.out]; rfl, Below.refl _ _⟩
end Go.Proofs.Ytkfmjnefbimecaa
