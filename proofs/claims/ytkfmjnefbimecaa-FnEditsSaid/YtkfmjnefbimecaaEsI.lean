/- EditSteps of the program: the way back through the table of costs. Printed by wip/bin/mk_es.py. -/
import Derived.Test.YtkfmjnefbimecaaEd
import Derived.Test.YtkfmjnefbimecaaMgc
import Derived.Test.YtkfmjnefbimecaaRev
import Derived.Deep.LoopGhost

namespace Go.Proofs.Ytkfmjnefbimecaa
open Go.RowKit Go.PlainAid
set_option linter.unusedVariables false
def esB (a b : ByteArray) : Bool := txtB a && txtB b
def esV (a b : ByteArray) : ByteArray := if esB a b then ⟨(esAll a b).reverse.toArray⟩ else ⟨#[]⟩
theorem bt_b8' (s : ByteArray) (k : Nat) : bt s k = ((b8 s k).toNat : Int) := by
  unfold bt b8
  split <;> simp

set_option maxRecDepth 100000 in
set_option maxHeartbeats 8000000 in
theorem iEditSteps_any (a b : ByteArray) (wa : a.size ≤ maxLen) (wb : b.size ≤ maxLen) (w : World) :
    Calls Try.prog 31 #[.string a, .string b] w fun e w' => e = .returned (.tuple #[.string (esV a b), .bool (esB a b)]) ∧ Below w.heap.size w w' := by
  by_cases h1 : txtB a = true
  · by_cases h2 : txtB b = true
    · have hB := Lib.hid (show esB a b = true by simp [esB, h1, h2])
      have hV := Lib.hid (show esV a b = ⟨(esAll a b).reverse.toArray⟩ by simp [esV, esB, h1, h2])
      have ha := txtB_true h1
      have hb := txtB_true h2
      go_enter Try.func31, Try.ntmps31
      go_wp2_with (first | (go_at_call 79; refine (iIsText_any _ (by assumption) _).mono ?_; rintro e w' ⟨rfl, rfl⟩))
      refine (iEditTable_any _ _ _ _ _ ha hb (by omega) (by omega) (by omega) _).mono ?_
      rintro e w1 ⟨v, rfl, htab, hb1⟩
      have HT := Lib.hid htab; clear htab
      obtain ⟨R, hR⟩ : ∃ R, R = esAll a b := ⟨_, rfl⟩
      have HR := Lib.hid hR; clear hR
      go_wp2
      go_loopg [7, 8, 9] (a.size + b.size) (fun m o si sk wr => ∃ (g c i k : Nat) (done : List UInt8), o = .slice (some ⟨g, 0, none⟩) done.length c ∧ si = .int .i64 i ∧ sk = .int .i64 k ∧ i ≤ a.size ∧ k ≤ b.size ∧ done.length + i + k ≤ a.size + b.size ∧ OwnB wr w1.heap.size g c done ∧ EsAt a b R done i k ∧ i + k ≤ m ∧ Below w1.heap.size w1 wr)
      case atStart => exact ⟨_, _, a.size, b.size, [], rfl, rfl, rfl, Nat.le_refl _, Nat.le_refl _, by simp, OwnB.made _ _ (Nat.le_refl _), by rw [HR.out]; exact EsAt.start a b, Nat.le_refl _, (Below.refl _ _).alloc (Nat.le_refl _) _⟩
      case round =>
        obtain ⟨g, c, i, k, done, rfl, rfl, rfl, hi, hk, hdn, hown, hat, hm, hbl⟩ := hrel
        have HO := Lib.hid hown; clear hown
        have HA := Lib.hid hat; clear hat
        have hdl : done.length ≤ 96 := by omega
        have hs1 := hbl.size
        by_cases hi0 : 0 < i
        · obtain ⟨i, rfl⟩ : ∃ j, i = j + 1 := ⟨i - 1, by omega⟩
          have n2 : ((i : Int) + 1).toNat = i + 1 := by omega
          have p1 : (0 : Int) < (i : Int) + 1 := by omega
          have l1 : (0 : Int) ≤ (i : Int) := by omega
          have l2 : (i : Int) < (a.size : Int) := by omega
          have l7 : (0 : Int) ≤ (i : Int) + 1 := by omega
          have l8 : (i : Int) + 1 < (a.size : Int) + 1 := by omega
          have l9 : (i : Int) < (a.size : Int) + 1 := by omega
          have wI : IntKind.i64.wrap (i : Int) = (i : Int) := IntWalk.i64_in _ (by omega)
          obtain ⟨gt, ct, g1, c1, hv, hct, hgt, hgtl, hch, hcc, hg, hgl, hne, hcs⟩ := HT.out.at_ (rowsOf_get (ed a b 1 1 1) (j := i) (n := b.size + 1) (show i < a.size + 1 by omega))
          obtain ⟨gt2, ct2, g2, c2, hv2, _, _, hgtl2, hch2, hcc2, _, hgl2, _, hcs2⟩ := HT.out.at_ (rowsOf_get (ed a b 1 1 1) (j := i + 1) (n := b.size + 1) (show i + 1 < a.size + 1 by omega))
          rw [rowOf_length] at hch hcc hch2 hcc2
          rw [rowsOf_length] at hct hv hv2
          subst hv
          injection hv2 with e1 _ e3
          injection e1 with e1
          injection e1 with e1
          subst e1 e3
          by_cases hk0 : 0 < k
          · obtain ⟨k, rfl⟩ : ∃ j, k = j + 1 := ⟨k - 1, by omega⟩
            have n1 : ((k : Int) + 1).toNat = k + 1 := by omega
            have p2 : (0 : Int) < (k : Int) + 1 := by omega
            have l3 : (0 : Int) ≤ (k : Int) := by omega
            have l4 : (k : Int) < (b.size : Int) := by omega
            have l5 : (0 : Int) ≤ (k : Int) + 1 := by omega
            have l6 : (k : Int) + 1 < (b.size : Int) + 1 := by omega
            have l6' : (k : Int) < (b.size : Int) + 1 := by omega
            have wK : IntKind.i64.wrap (k : Int) = (k : Int) := IntWalk.i64_in _ (by omega)
            have hx1 := (hbl.cell (p := ⟨g1, k, none⟩) hgl).trans (hcs k _ (rowOf_get _ (by omega)))
            have hx3 := (hbl.cell (p := ⟨g1, k + 1, none⟩) hgl).trans (hcs (k + 1) _ (rowOf_get _ (by omega)))
            have hx2 := (hbl.cell (p := ⟨g2, k + 1, none⟩) hgl2).trans (hcs2 (k + 1) _ (rowOf_get _ (by omega)))
            have hy1 := (hbl.cell (p := ⟨gt, i, none⟩) hgtl).trans hch
            have hy2 := (hbl.cell (p := ⟨gt, i + 1, none⟩) hgtl).trans hch2
            clear hcs hcs2 hch hch2
            have b1 := e1_bd a b i k
            have b2 := e1_bd a b (i + 1) (k + 1)
            have b3 := e1_bd a b i (k + 1)
            obtain ⟨x1, E1⟩ : ∃ x, x = e1 a b i k := ⟨_, rfl⟩
            obtain ⟨x2, E2⟩ : ∃ x, x = e1 a b (i + 1) (k + 1) := ⟨_, rfl⟩
            obtain ⟨x3, E3⟩ : ∃ x, x = e1 a b i (k + 1) := ⟨_, rfl⟩
            rw [← E1] at b1
            rw [← E2] at b2
            rw [← E3] at b3
            rw [show ed a b 1 1 1 i k = x1 from E1.symm] at hx1
            rw [show ed a b 1 1 1 (i + 1) (k + 1) = x2 from E2.symm] at hx2
            rw [show ed a b 1 1 1 i (k + 1) = x3 from E3.symm] at hx3
            have E1 := Lib.hid E1; have E2 := Lib.hid E2; have E3 := Lib.hid E3
            have wX1 : IntKind.i64.wrap x1 = x1 := IntWalk.i64_in _ (by omega)
            have wX1' : IntKind.i64.wrap (x1 + 1) = x1 + 1 := IntWalk.i64_in _ (by omega)
            have wX3 : IntKind.i64.wrap (x3 + 1) = x3 + 1 := IntWalk.i64_in _ (by omega)
            have hba := get_b8 a
            have hbb := get_b8 b
            by_cases hq : bt a i = bt b k
            · have q1 : (((b8 a i).toNat : Int) != ((b8 b k).toNat : Int)) = false := by rw [bt_b8', bt_b8'] at hq; simp [hq]
              have HM : Hid (esMark a b i k = 61) := by show esMark a b i k = 61; rw [esMark, if_pos hq]
              have HC : Hid (esCost a b i k = 0) := by show esCost a b i k = 0; rw [esCost, if_pos hq]
              clear hq
              by_cases hd : x1 = x2
              · have q2 : (x1 == x2) = true := by simp [hd]
                have HA2 : Hid (EsAt a b R (done ++ [61]) i k) := by
                  have := HA.out.both (by rw [HC.out, ← E1.out, ← E2.out]; omega)
                  rw [HM.out] at this
                  exact this
                clear hd
                go_wp2
                go_quiet (fail)
                go_wp2
                go_quiet (fail)
                clear wI wK wX1 wX1' wX3
                go_wp2_with (at_builtin; refine wpList_byte_push' _ rfl (.tmp 109) (.tmp 111) rfl w1.heap.size g c done.length done rfl (by rfl) (HO.out.drewN _) 61 61 (by decide) (by rfl) (by omega) hs1 ?_; intro g' c' w' hown hbl2 hgg)
                go_roundg (i + k)
                case measure => omega
                case rel => exact ⟨g', c', i, k, done ++ [61], by simp, by go_num, by go_num, by omega, by omega, by simp; omega, hown, HA2.out, Nat.le_refl _, (below_draws hbl _).trans hbl2⟩
              · have q2 : (x1 == x2) = false := by simp [hd]
                have HN : Hid (¬ e1 a b i k + esCost a b i k = e1 a b (i + 1) (k + 1)) := by show ¬ _; rw [HC.out, ← E1.out, ← E2.out]; omega
                clear hd
                by_cases hu : x3 + 1 = x2
                · have q3 : (x3 + 1 == x2) = true := by simp [hu]
                  have HA2 : Hid (EsAt a b R (done ++ [45]) i (k + 1)) := HA.out.up HN.out (by rw [← E3.out, ← E2.out]; exact hu)
                  clear hu
                  go_wp2
                  go_quiet (fail)
                  go_wp2
                  go_quiet (fail)
                  go_wp2
                  go_quiet (fail)
                  clear wI wK wX1 wX1' wX3
                  go_wp2_with (at_builtin; refine wpList_byte_push' _ rfl (.tmp 109) (.tmp 111) rfl w1.heap.size g c done.length done rfl (by rfl) (HO.out.drewN _) 45 45 (by decide) (by rfl) (by omega) hs1 ?_; intro g' c' w' hown hbl2 hgg)
                  go_roundg (i + (k + 1))
                  case measure => omega
                  case rel => exact ⟨g', c', i, k + 1, done ++ [45], by simp, by go_num, by go_num, by omega, by omega, by simp; omega, hown, HA2.out, Nat.le_refl _, (below_draws hbl _).trans hbl2⟩
                · have q3 : (x3 + 1 == x2) = false := by simp [hu]
                  have HA2 : Hid (EsAt a b R (done ++ [43]) (i + 1) k) := HA.out.back HN.out (by rw [← E3.out, ← E2.out]; exact hu)
                  clear hu
                  go_wp2
                  go_quiet (fail)
                  go_wp2
                  go_quiet (fail)
                  go_wp2
                  go_quiet (fail)
                  clear wI wK wX1 wX1' wX3
                  go_wp2_with (at_builtin; refine wpList_byte_push' _ rfl (.tmp 109) (.tmp 111) rfl w1.heap.size g c done.length done rfl (by rfl) (HO.out.drewN _) 43 43 (by decide) (by rfl) (by omega) hs1 ?_; intro g' c' w' hown hbl2 hgg)
                  go_roundg ((i + 1) + k)
                  case measure => omega
                  case rel => exact ⟨g', c', i + 1, k, done ++ [43], by simp, by go_num, by go_num, by omega, by omega, by simp; omega, hown, HA2.out, Nat.le_refl _, (below_draws hbl _).trans hbl2⟩
            · have q1 : (((b8 a i).toNat : Int) != ((b8 b k).toNat : Int)) = true := by rw [bt_b8', bt_b8'] at hq; simp [hq]
              have HM : Hid (esMark a b i k = 33) := by show esMark a b i k = 33; rw [esMark, if_neg hq]
              have HC : Hid (esCost a b i k = 1) := by show esCost a b i k = 1; rw [esCost, if_neg hq]
              clear hq
              by_cases hd : x1 + 1 = x2
              · have q2 : (x1 + 1 == x2) = true := by simp [hd]
                have HA2 : Hid (EsAt a b R (done ++ [33]) i k) := by
                  have := HA.out.both (by rw [HC.out, ← E1.out, ← E2.out]; omega)
                  rw [HM.out] at this
                  exact this
                clear hd
                go_wp2
                go_quiet (fail)
                go_wp2
                go_quiet (fail)
                clear wI wK wX1 wX1' wX3
                go_wp2_with (at_builtin; refine wpList_byte_push' _ rfl (.tmp 109) (.tmp 111) rfl w1.heap.size g c done.length done rfl (by rfl) (HO.out.drewN _) 33 33 (by decide) (by rfl) (by omega) hs1 ?_; intro g' c' w' hown hbl2 hgg)
                go_roundg (i + k)
                case measure => omega
                case rel => exact ⟨g', c', i, k, done ++ [33], by simp, by go_num, by go_num, by omega, by omega, by simp; omega, hown, HA2.out, Nat.le_refl _, (below_draws hbl _).trans hbl2⟩
              · have q2 : (x1 + 1 == x2) = false := by simp [hd]
                have HN : Hid (¬ e1 a b i k + esCost a b i k = e1 a b (i + 1) (k + 1)) := by show ¬ _; rw [HC.out, ← E1.out, ← E2.out]; omega
                clear hd
                by_cases hu : x3 + 1 = x2
                · have q3 : (x3 + 1 == x2) = true := by simp [hu]
                  have HA2 : Hid (EsAt a b R (done ++ [45]) i (k + 1)) := HA.out.up HN.out (by rw [← E3.out, ← E2.out]; exact hu)
                  clear hu
                  go_wp2
                  go_quiet (fail)
                  go_wp2
                  go_quiet (fail)
                  go_wp2
                  go_quiet (fail)
                  clear wI wK wX1 wX1' wX3
                  go_wp2_with (at_builtin; refine wpList_byte_push' _ rfl (.tmp 109) (.tmp 111) rfl w1.heap.size g c done.length done rfl (by rfl) (HO.out.drewN _) 45 45 (by decide) (by rfl) (by omega) hs1 ?_; intro g' c' w' hown hbl2 hgg)
                  go_roundg (i + (k + 1))
                  case measure => omega
                  case rel => exact ⟨g', c', i, k + 1, done ++ [45], by simp, by go_num, by go_num, by omega, by omega, by simp; omega, hown, HA2.out, Nat.le_refl _, (below_draws hbl _).trans hbl2⟩
                · have q3 : (x3 + 1 == x2) = false := by simp [hu]
                  have HA2 : Hid (EsAt a b R (done ++ [43]) (i + 1) k) := HA.out.back HN.out (by rw [← E3.out, ← E2.out]; exact hu)
                  clear hu
                  go_wp2
                  go_quiet (fail)
                  go_wp2
                  go_quiet (fail)
                  go_wp2
                  go_quiet (fail)
                  clear wI wK wX1 wX1' wX3
                  go_wp2_with (at_builtin; refine wpList_byte_push' _ rfl (.tmp 109) (.tmp 111) rfl w1.heap.size g c done.length done rfl (by rfl) (HO.out.drewN _) 43 43 (by decide) (by rfl) (by omega) hs1 ?_; intro g' c' w' hown hbl2 hgg)
                  go_roundg ((i + 1) + k)
                  case measure => omega
                  case rel => exact ⟨g', c', i + 1, k, done ++ [43], by simp, by go_num, by go_num, by omega, by omega, by simp; omega, hown, HA2.out, Nat.le_refl _, (below_draws hbl _).trans hbl2⟩
          · obtain rfl : k = 0 := by omega
            have hx3 := (hbl.cell (p := ⟨g1, 0, none⟩) hgl).trans (hcs 0 _ (rowOf_get _ (by omega)))
            have hx2 := (hbl.cell (p := ⟨g2, 0, none⟩) hgl2).trans (hcs2 0 _ (rowOf_get _ (by omega)))
            have hy1 := (hbl.cell (p := ⟨gt, i, none⟩) hgtl).trans hch
            have hy2 := (hbl.cell (p := ⟨gt, i + 1, none⟩) hgtl).trans hch2
            clear hcs hcs2 hch hch2
            have b3 := e1_bd a b i 0
            have hu := e1_col0 a b i
            obtain ⟨x2, E2⟩ : ∃ x, x = e1 a b (i + 1) 0 := ⟨_, rfl⟩
            obtain ⟨x3, E3⟩ : ∃ x, x = e1 a b i 0 := ⟨_, rfl⟩
            rw [← E3] at b3 hu
            rw [← E2] at hu
            rw [show ed a b 1 1 1 (i + 1) 0 = x2 from E2.symm] at hx2
            rw [show ed a b 1 1 1 i 0 = x3 from E3.symm] at hx3
            have E2 := Lib.hid E2; have E3 := Lib.hid E3
            have wX3 : IntKind.i64.wrap (x3 + 1) = x3 + 1 := IntWalk.i64_in _ (by omega)
            have q3 : (x3 + 1 == x2) = true := by simp [hu]
            have l6 : (0 : Int) < (b.size : Int) + 1 := by omega
            clear hu
            have HA2 : Hid (EsAt a b R (done ++ [45]) i 0) := HA.out.up0
            go_wp2
            go_quiet (fail)
            go_wp2
            go_quiet (fail)
            go_wp2
            go_quiet (fail)
            clear wI wX3
            go_wp2_with (at_builtin; refine wpList_byte_push' _ rfl (.tmp 109) (.tmp 111) rfl w1.heap.size g c done.length done rfl (by rfl) (HO.out.drewN _) 45 45 (by decide) (by rfl) (by omega) hs1 ?_; intro g' c' w' hown hbl2 hgg)
            go_roundg (i + 0)
            case measure => omega
            case rel => exact ⟨g', c', i, 0, done ++ [45], by simp, by go_num, by go_num, by omega, by omega, by simp; omega, hown, HA2.out, Nat.le_refl _, (below_draws hbl _).trans hbl2⟩
        · obtain rfl : i = 0 := by omega
          by_cases hk0 : 0 < k
          · obtain ⟨k, rfl⟩ : ∃ j, k = j + 1 := ⟨k - 1, by omega⟩
            have n1 : ((k : Int) + 1).toNat = k + 1 := by omega
            have p2 : (0 : Int) < (k : Int) + 1 := by omega
            have l3 : (0 : Int) ≤ (k : Int) := by omega
            have l4 : (k : Int) < (b.size : Int) := by omega
            have l5 : (0 : Int) ≤ (k : Int) + 1 := by omega
            have l6 : (k : Int) + 1 < (b.size : Int) + 1 := by omega
            have l6' : (k : Int) < (b.size : Int) + 1 := by omega
            have wK : IntKind.i64.wrap (k : Int) = (k : Int) := IntWalk.i64_in _ (by omega)
            have HA2 : Hid (EsAt a b R (done ++ [43]) 0 k) := HA.out.back0
            go_wp2
            go_quiet (fail)
            go_wp2
            go_quiet (fail)
            go_wp2
            go_quiet (fail)
            clear wK
            go_wp2_with (at_builtin; refine wpList_byte_push' _ rfl (.tmp 109) (.tmp 111) rfl w1.heap.size g c done.length done rfl (by rfl) (HO.out.drewN _) 43 43 (by decide) (by rfl) (by omega) hs1 ?_; intro g' c' w' hown hbl2 hgg)
            go_roundg (0 + k)
            case measure => omega
            case rel => exact ⟨g', c', 0, k, done ++ [43], by simp, by go_num, by go_num, by omega, by omega, by simp; omega, hown, HA2.out, Nat.le_refl _, (below_draws hbl _).trans hbl2⟩
          · obtain rfl : k = 0 := by omega
            have hfin : Hid (done = R) := HA.out.done_
            go_wp2_with (first | (go_at_call 82; refine (HO.out.revd rfl (by omega)).mono ?_; rintro e w2 ⟨rfl, hstr, hbr⟩))
            go_ret2
            refine ⟨by rw [hV.out, hB.out, ← HR.out, ← hfin.out]; rfl, ?_⟩
            exact hb1.trans ((hbl.trans hbr).mono hb1.size)
    · have h2' : txtB b = false := by simpa using h2
      have hB := Lib.hid (show esB a b = false by simp [esB, h2'])
      have hV := Lib.hid (show esV a b = ⟨#[]⟩ by simp [esV, esB, h2'])
      go_enter Try.func31, Try.ntmps31
      go_wp2_with (first | (go_at_call 79; refine (iIsText_any _ (by assumption) _).mono ?_; rintro e w' ⟨rfl, rfl⟩))
      go_ret2
      exact ⟨by rw [hV.out, hB.out]; rfl, Below.refl _ _⟩
  · have h1' : txtB a = false := by simpa using h1
    have hB := Lib.hid (show esB a b = false by simp [esB, h1'])
    have hV := Lib.hid (show esV a b = ⟨#[]⟩ by simp [esV, esB, h1'])
    go_enter Try.func31, Try.ntmps31
    go_wp2_with (first | (go_at_call 79; refine (iIsText_any _ (by assumption) _).mono ?_; rintro e w' ⟨rfl, rfl⟩))
    go_ret2
    exact ⟨by rw [hV.out, hB.out]; rfl, Below.refl _ _⟩
end Go.Proofs.Ytkfmjnefbimecaa
