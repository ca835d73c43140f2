/- CommonText of the reference: the way back through the table. -/
import Derived.Test.YtdpaldiomijijaaCmI
import Derived.Test.YtdpaldiomijijaaCm2
namespace Go.Proofs.Ytdpaldiomijijaa
open Go.RowKit Go.PlainAid
set_option linter.unusedVariables false
theorem cut_front (a : ByteArray) {i : Nat} (h : i < a.size) (done : List UInt8) : a.extract i (i + 1) ++ ⟨done.reverse.toArray⟩ = ⟨(done ++ [b8 a i]).reverse.toArray⟩ := by
  apply str_inj
  rw [ByteArray.toList_eq, ByteArray.toList_eq]
  have hd : (a.extract i (i + 1)).data.toList = [b8 a i] := by
    rw [ByteArray.data_extract]
    have h' : i < a.data.size := h
    apply List.ext_getElem
    · simp; omega
    · intro n h1 h2
      simp at h2
      subst h2
      simp [b8, h]
      rfl
  have hd2 := hd
  simp at hd2
  simp [ByteArray.data_append, hd2]
theorem rev_size (l : List UInt8) : (⟨l.reverse.toArray⟩ : ByteArray).size = l.length := by simp [ByteArray.size]

set_option maxRecDepth 100000 in
set_option maxHeartbeats 4000000 in
theorem sCommonText_any (a b : ByteArray) (wa : a.size ≤ maxLen) (wb : b.size ≤ maxLen) (w : World) :
    Calls Try.prog 37 #[.string a, .string b] w fun e w' => e = .returned (.tuple #[.string (coV a b), .bool (coB a b)]) ∧ Below w.heap.size w w' := by
  by_cases h1 : txtB a = true
  · by_cases h2 : txtB b = true
    · have hB := Lib.hid (show coB a b = true by simp [coB, h1, h2])
      have hV := Lib.hid (show coV a b = ⟨(cmAll a b).reverse.toArray⟩ by simp [coV, coB, h1, h2])
      have ha := txtB_true h1
      have hb := txtB_true h2
      go_enter Try.func37, Try.ntmps37
      go_wp2_with (first | (go_at_call 48; refine (sTwo_any _ _ (by assumption) (by assumption) _).mono ?_; rintro e w' ⟨rfl, rfl⟩))
      refine (sCommons_any _ _ ha hb _).mono ?_
      rintro e w1 ⟨v, rfl, htab, hb1⟩
      have HT := Lib.hid htab; clear htab
      obtain ⟨R, hR⟩ : ∃ R, R = cmAll a b := ⟨_, rfl⟩
      have HR := Lib.hid hR; clear hR
      go_wp2
      go_loopg [7, 8, 9] (a.size + b.size) (fun m o si sk wr => ∃ (i k : Nat) (done : List UInt8) (s : ByteArray), o = .string s ∧ si = .int .i64 i ∧ sk = .int .i64 k ∧ s = ⟨done.reverse.toArray⟩ ∧ i ≤ a.size ∧ k ≤ b.size ∧ done.length + i ≤ a.size ∧ CmAt a b R done i k ∧ i + k ≤ m ∧ Below w1.heap.size w1 wr)
      case atStart => exact ⟨a.size, b.size, [], _, rfl, rfl, rfl, rfl, Nat.le_refl _, Nat.le_refl _, by simp, by rw [HR.out]; exact CmAt.start a b, Nat.le_refl _, Below.refl _ _⟩
      case round =>
        obtain ⟨i, k, done, s, rfl, rfl, rfl, hsd, hi, hk, hdn, hat, hm, hbl⟩ := hrel
        have HA := Lib.hid hat; clear hat
        have hss : s.size ≤ 48 := by rw [hsd, rev_size]; omega
        have HS := Lib.hid hsd; clear hsd
        by_cases hi0 : 0 < i
        · by_cases hk0 : 0 < k
          · obtain ⟨i, rfl⟩ : ∃ j, i = j + 1 := ⟨i - 1, by omega⟩
            obtain ⟨k, rfl⟩ : ∃ j, k = j + 1 := ⟨k - 1, by omega⟩
            have hba := get_b8 a
            have hbb := get_b8 b
            have l1 : (0 : Int) ≤ (i : Int) := by omega
            have l2 : (i : Int) < (a.size : Int) := by omega
            have l3 : (0 : Int) ≤ (k : Int) := by omega
            have l4 : (k : Int) < (b.size : Int) := by omega
            have w1' : IntKind.i64.wrap (i : Int) = (i : Int) := IntWalk.i64_in _ (by omega)
            have w2' : IntKind.i64.wrap (k : Int) = (k : Int) := IntWalk.i64_in _ (by omega)
            have hs1 := hbl.size
            by_cases hq : bt a i = bt b k
            · have q1 : (((b8 a i).toNat : Int) == ((b8 b k).toNat : Int)) = true := by rw [bt_b8, bt_b8] at hq; exact xy_eq hq
              have HQ := Lib.hid hq; clear hq
              have hxs : (a.extract i (i + 1)).size ≤ 48 := by rw [ByteArray.size_extract]; omega
              have HSX : Hid (a.extract i (i + 1) ++ s = ⟨(done ++ [b8 a i]).reverse.toArray⟩) := by rw [HS.out]; exact cut_front a (by omega) done
              have n2 : ((i : Int) + 1).toNat = i + 1 := by omega
              have l8 : (i : Int) + 1 ≤ (a.size : Int) := by omega
              have l7 : (i : Int) ≤ (i : Int) + 1 := by omega
              go_wp2
              go_quiet (fail)
              clear w1' w2'
              go_wp2
              go_roundg (i + k)
              case measure => omega
              case rel => exact ⟨i, k, done ++ [b8 a i], _, rfl, by go_num, by go_num, HSX.out, by omega, by omega, by simp; omega, HA.out.both HQ.out, Nat.le_refl _, below_draws hbl _⟩
            · have q1 : (((b8 a i).toNat : Int) == ((b8 b k).toNat : Int)) = false := by rw [bt_b8, bt_b8] at hq; exact xy_ne hq
              have HQ := Lib.hid hq; clear hq
              obtain ⟨gt, ct, g1, c1, hv, hct, hgt, hgtl, hch, hcc, hg, hgl, hne, hcs⟩ := HT.out.at_ (rowsOf_get (cm a b) (j := i) (n := b.size + 1) (show i < a.size + 1 by omega))
              obtain ⟨gt2, ct2, g2, c2, hv2, _, _, hgtl2, hch2, hcc2, _, hgl2, _, hcs2⟩ := HT.out.at_ (rowsOf_get (cm a b) (j := i + 1) (n := b.size + 1) (show i + 1 < a.size + 1 by omega))
              rw [rowOf_length] at hch hcc hch2 hcc2
              rw [rowsOf_length] at hct hv hv2
              subst hv
              injection hv2 with e1 _ e3
              injection e1 with e1
              injection e1 with e1
              subst e1 e3
              have hx1 := (hbl.cell (p := ⟨g1, k + 1, none⟩) hgl).trans (hcs (k + 1) _ (rowOf_get _ (by omega)))
              have hx2 := (hbl.cell (p := ⟨g2, k + 1, none⟩) hgl2).trans (hcs2 (k + 1) _ (rowOf_get _ (by omega)))
              have hy1 := (hbl.cell (p := ⟨gt, i, none⟩) hgtl).trans hch
              have hy2 := (hbl.cell (p := ⟨gt, i + 1, none⟩) hgtl).trans hch2
              clear hcs hcs2 hch hch2
              have n1 : ((k : Int) + 1).toNat = k + 1 := by omega
              have n2 : ((i : Int) + 1).toNat = i + 1 := by omega
              have l5 : (0 : Int) ≤ (k : Int) + 1 := by omega
              have l6 : (k : Int) + 1 < (b.size : Int) + 1 := by omega
              have l7 : (0 : Int) ≤ (i : Int) + 1 := by omega
              have l8 : (i : Int) + 1 < (a.size : Int) + 1 := by omega
              have l9 : (i : Int) < (a.size : Int) + 1 := by omega
              obtain ⟨x1, e1⟩ : ∃ x, x = cm a b i (k + 1) := ⟨_, rfl⟩
              obtain ⟨x2, e2⟩ : ∃ x, x = cm a b (i + 1) (k + 1) := ⟨_, rfl⟩
              rw [← e1] at hx1
              rw [← e2] at hx2
              have E1 := Lib.hid e1; have E2 := Lib.hid e2
              clear e1 e2
              by_cases hc : x1 = x2
              · have q2 : (x1 == x2) = true := xy_eq hc
                have HC := Lib.hid hc; clear hc
                have HA2 : Hid (CmAt a b R done i (k + 1)) := HA.out.up HQ.out (by rw [← E1.out, ← E2.out, HC.out])
                go_wp2
                go_quiet (fail)
                go_wp2
                go_quiet (fail)
                clear w1' w2'
                go_wp2
                go_roundg (i + (k + 1))
                case measure => omega
                case rel => exact ⟨i, k + 1, done, s, rfl, by go_num, by go_num, HS.out, by omega, by omega, by omega, HA2.out, Nat.le_refl _, below_draws hbl _⟩
              · have q2 : (x1 == x2) = false := xy_ne hc
                have HA2 : Hid (CmAt a b R done (i + 1) k) := HA.out.back HQ.out (by rw [← E1.out, ← E2.out]; exact hc)
                clear hc
                go_wp2
                go_quiet (fail)
                go_wp2
                go_quiet (fail)
                clear w1' w2'
                go_wp2
                go_roundg (i + 1 + k)
                case measure => omega
                case rel => exact ⟨i + 1, k, done, s, rfl, by go_num, by go_num, HS.out, by omega, by omega, by omega, HA2.out, Nat.le_refl _, below_draws hbl _⟩
          · obtain rfl : k = 0 := by omega
            have hfin : Hid (done = R) := HA.out.done_ (.inr rfl)
            go_wp2
            go_ret2
            refine ⟨by rw [hV.out, hB.out, ← HR.out, ← hfin.out, ← HS.out]; rfl, ?_⟩
            exact hb1.trans (hbl.mono hb1.size)
        · obtain rfl : i = 0 := by omega
          have hfin : Hid (done = R) := HA.out.done_ (.inl rfl)
          go_wp2
          go_ret2
          refine ⟨by rw [hV.out, hB.out, ← HR.out, ← hfin.out, ← HS.out]; rfl, ?_⟩
          exact hb1.trans (hbl.mono hb1.size)
    · have h2' : txtB b = false := by simpa using h2
      have hB := Lib.hid (show coB a b = false by simp [coB, h2'])
      have hV := Lib.hid (show coV a b = ⟨#[]⟩ by simp [coV, coB, h2'])
      go_enter Try.func37, Try.ntmps37
      go_wp2_with (first | (go_at_call 48; refine (sTwo_any _ _ (by assumption) (by assumption) _).mono ?_; rintro e w' ⟨rfl, rfl⟩))
      go_ret2
      exact ⟨by rw [hV.out, hB.out]; rfl, Below.refl _ _⟩
  · have h1' : txtB a = false := by simpa using h1
    have hB := Lib.hid (show coB a b = false by simp [coB, h1'])
    have hV := Lib.hid (show coV a b = ⟨#[]⟩ by simp [coV, coB, h1'])
    go_enter Try.func37, Try.ntmps37
    go_wp2_with (first | (go_at_call 48; refine (sTwo_any _ _ (by assumption) (by assumption) _).mono ?_; rintro e w' ⟨rfl, rfl⟩))
    go_ret2
    exact ⟨by rw [hV.out, hB.out]; rfl, Below.refl _ _⟩
end Go.Proofs.Ytdpaldiomijijaa
