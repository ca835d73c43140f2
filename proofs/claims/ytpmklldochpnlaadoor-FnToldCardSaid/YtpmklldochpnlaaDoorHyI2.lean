/- Hyphens: the program. -/
import Derived.Test.YtpmklldochpnlaaDoorMgf
import Derived.Test.YtpmklldochpnlaaDoorHyI1
import Derived.Test.YtpmklldochpnlaaDoorMge

namespace Go.Proofs.YtpmklldochpnlaaDoor
open Go.RowKit Go.PlainAid
set_option linter.unusedVariables false
theorem uv_set (xs : List Int) (k : Nat) (x : Int) : (uv xs).set k (.int .u8 x) = uv (xs.set k x) := by simp [uv, List.map_set]
set_option maxRecDepth 100000 in
set_option maxHeartbeats 8000000 in
theorem iHyphens_any (t : ByteArray) (A : Option Addr) (n c : Nat) (ps : List ByteArray) (w : World) (h : SlS w w.heap.size A n ps) (hn : n ≤ 4294967296) (hps : ∀ x ∈ ps, x.size ≤ 1048576) (wt : t.size ≤ maxLen) :
    Calls Tryd.prog 19 #[.string t, .slice A n c] w fun e w' => ∃ v, e = .returned (.tuple #[v, .bool (hyB t ps)]) ∧ NsOut w' w.heap.size v (hyB t ps) (hyR t ps) ∧ Below w.heap.size w w' := by
  have hl := Lib.hid h.len
  have H := Lib.hid h; clear h
  have HPS := Lib.hid hps; clear hps
  cases hlb : letB t with
  | false =>
    have HN := Lib.hid (hyB_let (ps := ps) hlb)
    go_enter Tryd.func19, Tryd.ntmps19
    go_wp2_with (first | (go_at_call 22; refine (iLetters_any _ wt _).mono ?_; rintro e w1 ⟨rfl, hb1⟩; rw [hlb]))
    go_ret2
    rw [HN.out]
    exact ⟨_, rfl, rfl, hb1⟩
  | true =>
  by_cases h32 : n ≤ 32
  case neg =>
    have HN := Lib.hid (hyB_len (t := t) (ps := ps) (by rw [hl.out]; omega))
    have h33 : (32 : Int) < (n : Int) := by omega
    clear h32
    go_enter Tryd.func19, Tryd.ntmps19
    go_wp2_with (first | (go_at_call 22; refine (iLetters_any _ wt _).mono ?_; rintro e w1 ⟨rfl, hb1⟩; rw [hlb]))
    go_ret2
    rw [HN.out]
    exact ⟨_, rfl, rfl, hb1⟩
  have htx : t.size ≤ 48 := by
    have h : (letsB t && txtB t) = true := hlb
    rw [Bool.and_eq_true] at h
    exact txtB_true h.2
  obtain ⟨ea, hea⟩ : ∃ x, (⟨#[46]⟩ : ByteArray) ++ t = x := ⟨_, rfl⟩
  obtain ⟨ed, hed⟩ : ∃ x, ea ++ (⟨#[46]⟩ : ByteArray) = x := ⟨_, rfl⟩
  have HED : Hid (ed = hyE t) := by show _ = _; rw [hyE, ← hed, ← hea]
  have HES : Hid (ed.size = t.size + 2) := by show _ = _; rw [HED.out, hyE_size]
  have h46 : (⟨#[46]⟩ : ByteArray).size = 1 := rfl
  have heas : ea.size ≤ 49 := by rw [← hea, ByteArray.size_append, h46]; omega
  have heds : ed.size ≤ 50 := by rw [HES.out]; omega
  have hmk := run_make_row' (P := Tryd.prog) 25 5 (.int .u8 0) 1 Tryd.underlying25 infoB8 rfl .i64 .i64 (ed.size + 1) (by omega) (by omega)
  rw [show ((ed.size + 1 : Nat) : Int) = (ed.size : Int) + 1 from by omega] at hmk
  go_enter Tryd.func19, Tryd.ntmps19
  go_wp2_with (first | (go_at_call 22; refine (iLetters_any _ wt _).mono ?_; rintro e w1 ⟨rfl, hb1⟩; rw [hlb]))
  clear hmk hea hed
  have HB1 := Lib.hid hb1
  have hrow := Row.made w1 (.int .u8 0) (ed.size + 1) 5
  have hle1 := hb1.size
  clear hb1
  obtain ⟨gm, hgm⟩ : ∃ g, g = w1.heap.size := ⟨_, rfl⟩
  have HGM : Hid (w.heap.size ≤ gm) := by show _ ≤ _; omega
  rw [← hgm]
  have HGW := Lib.hid hgm; clear hgm
  go_loopg [34] n (fun m ni wr => ∃ k : Nat, ni = .int .i64 k ∧ k ≤ n ∧ n ≤ m + k ∧ Hid ((ps.take k).all hyK = true) ∧ Hid (Row wr gm 5 (uv (hyN ed ps k))) ∧ Hid (Below w.heap.size w wr))
  case atStart =>
    refine ⟨0, rfl, by omega, by omega, rfl, ?_, HB1.out.trans (((Below.refl _ _).alloc (Nat.le_refl _) _).mono hle1)⟩
    have e : uv (hyN ed ps 0) = List.replicate (ed.size + 1) (.int .u8 0) := by simp [uv, hyN]
    show Row _ _ _ _
    rw [e, HGW.out]; exact hrow
  case round =>
    obtain ⟨k, rfl, hk, hm, HK, HR, HB⟩ := hrel
    obtain ⟨wo, rfl⟩ : ∃ x : World, x = wr := ⟨_, rfl⟩
    have hLM := hyN_len ed ps k
    obtain ⟨M, hM⟩ : ∃ M, M = hyN ed ps k := ⟨_, rfl⟩
    rw [← hM] at HR hLM
    have HM := Lib.hid hM; clear hM
    by_cases hlt : k < n
    · obtain ⟨b, off, x, hAA, hbB, hx, hc, hxs⟩ := (H.out.below HB.out (Nat.le_refl _)).at_ hlt
      subst hAA
      have hxz := HPS.out x (List.mem_of_getElem? hx.out)
      have l0 : (0 : Int) ≤ (k : Int) := by omega
      have C := iPattern_any x (by omega) wo
      cases hkx : hyK x with
      | false =>
        have HN := Lib.hid (hyB_bad (t := t) hx.out hkx)
        rw [hkx] at C
        clear hkx
        go_wp2_with (first | (go_at_call 36; refine C.mono ?_; rintro e w2 ⟨s2, v2, rfl, -, ⟨A2, m2, c2, rfl⟩, hb2⟩; clear C))
        go_ret2
        rw [HN.out]
        exact ⟨_, rfl, rfl, (HB.out.trans (hb2.mono HB.out.size)).alloc (HB.out.trans (hb2.mono HB.out.size)).size _⟩
      | true =>
        have HK' : Hid ((ps.take (k + 1)).all hyK = true) := allT HK.out hx.out hkx
        have hdl := hyDs_len hkx
        rw [hkx] at C
        have HKX := Lib.hid hkx; clear hkx
        obtain ⟨D, hD⟩ : ∃ D, D = hyDs x := ⟨_, rfl⟩
        obtain ⟨xs, hxs⟩ : ∃ s, s = hyStr x := ⟨_, rfl⟩
        have hxl : xs.size = (hyLs x).length := by rw [hxs]; exact key_size _
        have HX1 : Hid (xs.size + 1 = D.length) := by show _ = _; rw [hD, hxl]; omega
        have hx1 : 1 ≤ xs.size := by omega
        have hx8 : xs.size ≤ 8 := by omega
        have hD9 : Dg9 D := by rw [hD]; exact hdl.2.1
        have HNX : Hid (hyN ed ps (k + 1) = hyV ed xs D M ed.size) := by show _ = _; rw [hyN, getD_some hx.out, ← hxs, ← hD, ← HM.out]
        have HXS := Lib.hid hxs; have HDD := Lib.hid hD; have HD9 := Lib.hid hD9
        clear hdl hxl hxs hD hD9
        go_wp2_with (first | (go_at_call 36; refine C.mono ?_; rintro e w2 ⟨s2, v2, rfl, hS, -, hb2⟩; clear C; obtain ⟨hs2, hO2⟩ := hS HKX.out; rw [show (⟨(hyLs x).toArray⟩ : ByteArray) = xs from HXS.out.symm] at hs2; have hs2 := hs2.symm; subst hs2; rw [← HDD.out] at hO2; clear hS; obtain ⟨gd, cd, hv, hgd1, hgd2⟩ := World.ownsRow.form hO2 (by have := HX1.out; omega); subst hv; have HO2 := Lib.hid hO2; clear hO2))
        have HB2' := Lib.hid (HB.out.trans (hb2.mono HB.out.size))
        have HR2' := Lib.hid (HR.out.below hb2 HR.out.lt)
        have HX2 := Lib.hid (Row.new w2 50 [.string xs, .slice (some ⟨gd, 0, none⟩) D.length cd])
        have HGX : Hid (gm < w2.heap.size) := HR2'.out.lt
        have hgmr : gm < wo.heap.size := HR.out.lt
        obtain ⟨w3, hw3⟩ : ∃ x, x = w2.alloc (.cells ([.string xs, .slice (some ⟨gd, 0, none⟩) D.length cd] : List Value).toArray 50) := ⟨_, rfl⟩
        have HB2 := Lib.hid (show Below w.heap.size w w3 by rw [hw3]; exact HB2'.out.alloc HB2'.out.size _)
        have HR2 := Lib.hid (show Row w3 gm 5 (uv M) by rw [hw3]; exact HR2'.out.alloc _)
        have HO3 := Lib.hid (show w3.ownsRow wo.heap.size 5 1 (.slice (some ⟨gd, 0, none⟩) D.length cd) D.length (uv D) by rw [hw3]; exact HO2.out.alloc _)
        obtain ⟨gx, hgx⟩ : ∃ g, g = w2.heap.size := ⟨_, rfl⟩
        have HX3 := Lib.hid (show Row w3 gx 50 [.string xs, .slice (some ⟨gd, 0, none⟩) D.length cd] by rw [hw3, hgx]; exact HX2.out)
        have HGN : Hid (gm ≠ gx ∧ gm ≠ gd) := ⟨by rw [hgx]; have := HGX.out; omega, by omega⟩
        rw [← hgx]
        have HW3 := Lib.hid hw3; have HGE := Lib.hid hgx
        clear hw3 hgx hc hb2 hLM HO2 HR2' HB2' HX2 HGX hgd1 hgd2 hgmr
        obtain ⟨go, hgo⟩ : ∃ g : Nat, g = gk := ⟨_, rfl⟩
        go_loopg [47] ed.size (fun m i12 wv => ∃ i : Nat, i12 = .int .i64 i ∧ i ≤ ed.size ∧ ed.size ≤ m + i ∧ Hid (Row wv gm 5 (uv (hyV ed xs D M i))) ∧ Hid (wv.ownsRow wo.heap.size 5 1 (.slice (some ⟨gd, 0, none⟩) D.length cd) D.length (uv D)) ∧ Hid (Row wv gx 50 [.string xs, .slice (some ⟨gd, 0, none⟩) D.length cd]) ∧ Hid (Below w.heap.size w wv))
        case atStart => exact ⟨0, rfl, by omega, by omega, by have := HR2.out; rw [HW3.out] at this; first | exact this | (rw [← HGE.out]; exact this), by have := HO3.out; rw [HW3.out] at this; exact this, by have := HX3.out; rw [HW3.out] at this; exact this, by have := HB2.out; rw [HW3.out] at this; exact this⟩
        case round =>
          obtain ⟨i, rfl, hi, hmi, HRv, HOv, HXv, HBv⟩ := hrel
          obtain ⟨wv, rfl⟩ : ∃ x : World, x = wr := ⟨_, rfl⟩
          have l1 : (0 : Int) ≤ (i : Int) := by omega
          have x0 := HXv.out.cell 0
          have x1 := HXv.out.cell 1
          by_cases hil : i < ed.size
          · have l2 : (i : Int) < (ed.size : Int) := by omega
            have l3 : (i : Int) ≤ (ed.size : Int) := by omega
            have hxm : xs.size ≤ maxLen := by unfold maxLen; omega
            have hem : (ed.extract i ed.size).size ≤ maxLen := by rw [ByteArray.size_extract]; unfold maxLen; omega
            have CH := Lib.hid (iHas_any (ed.extract i ed.size) xs hem hxm)
            rw [show hpB (ed.extract i ed.size) xs = hyHit ed xs i from rfl] at CH
            clear hxm hem
            cases hq : hyHit ed xs i with
            | true =>
              rw [hq] at CH
              have HT : Hid (hyV ed xs D M (i + 1) = hyU (hyV ed xs D M i) i D D.length) := by show _ = _; rw [hyV, if_pos hq]
              have hfit := hit_le (by omega) hq
              obtain ⟨V, hV⟩ : ∃ V, V = hyV ed xs D M i := ⟨_, rfl⟩
              have hVL : V.length = ed.size + 1 := by rw [hV, hyV_len, HM.out, hyN_len]
              have HVL := Lib.hid hVL
              rw [← hV] at HT HRv
              clear hq hV hVL
              go_wp2_with fail
              go_quiet ((go_at_call 37; exact Calls.quiet_of_same (CH.out _)))
              go_wp2_with fail
              obtain ⟨g2, hg2⟩ : ∃ g : Nat, g = gk := ⟨_, rfl⟩
              clear x0 x1
              go_loopg [60] D.length (fun m k13 wu => ∃ q : Nat, k13 = .int .i64 q ∧ q ≤ D.length ∧ D.length ≤ m + q ∧ Hid (Row wu gm 5 (uv (hyU V i D q))) ∧ Hid (wu.ownsRow wo.heap.size 5 1 (.slice (some ⟨gd, 0, none⟩) D.length cd) D.length (uv D)) ∧ Hid (Row wu gx 50 [.string xs, .slice (some ⟨gd, 0, none⟩) D.length cd]) ∧ Hid (Below w.heap.size w wu))
              case atStart => exact ⟨0, rfl, by omega, by omega, HRv.out, HOv.out, HXv.out, below_draws HBv.out _⟩
              case round =>
                obtain ⟨q, rfl, hqd, hmq, HRu, HOu, HXu, HBu⟩ := hrel
                obtain ⟨wu, rfl⟩ : ∃ x : World, x = wr := ⟨_, rfl⟩
                have l4 : (0 : Int) ≤ (q : Int) := by omega
                by_cases hql : q < D.length
                · have l5 : (q : Int) < (D.length : Int) := by omega
                  have hxd := HX1.out
                  have l6 : (i : Int) + (q : Int) < (ed.size : Int) + 1 := by omega
                  have l7 : (0 : Int) ≤ (i : Int) + (q : Int) := by omega
                  have n3 : ((i : Int) + (q : Int)).toNat = i + q := by omega
                  have w6 : IntKind.i64.wrap ((i : Int) + (q : Int)) = (i : Int) + (q : Int) := IntWalk.i64_in _ (by omega)
                  clear hxd
                  have HUL : Hid ((hyU V i D q).length = ed.size + 1) := by show _ = _; rw [hyU_len, HVL.out]
                  have hcd' := (own_sl HOu.out).at_ hql
                  obtain ⟨bd, od, ud, hAd, -, hud, hcl⟩ := hcd'
                  simp only [Option.some.injEq, Addr.mk.injEq, and_true] at hAd
                  obtain ⟨rfl, rfl⟩ := hAd
                  obtain ⟨yd, hyd, rfl⟩ := uv_get hud
                  rw [Nat.zero_add] at hcl
                  have hyd' : yd = D.getD q 0 := (getD_some hyd).symm
                  subst hyd'
                  clear hud hyd
                  have e1 : wu.cell? ⟨gm, i + q, none⟩ = some (.int .u8 ((hyU V i D q).getD (i + q) 0)) := by rw [HRu.out.cell]; have h := get_getD (show i + q < (hyU V i D q).length by rw [HUL.out]; have := HX1.out; omega); unfold uv; rw [List.getElem?_map, h]; rfl
                  have e3 := HRu.out.frozen (i + q)
                  obtain ⟨y1, hy1⟩ : ∃ y, y = (hyU V i D q).getD (i + q) 0 := ⟨_, rfl⟩
                  obtain ⟨y2, hy2⟩ : ∃ y, y = D.getD q 0 := ⟨_, rfl⟩
                  rw [← hy1] at e1
                  rw [← hy2] at hcl
                  have HU : Hid (hyU V i D (q + 1) = (hyU V i D q).set (i + q) (max y1 y2)) := by show _ = _; rw [hyU, ← hy1, ← hy2]
                  clear hy1 hy2
                  by_cases hmx : y1 < y2
                  · have HMX : Hid (max y1 y2 = y2) := by show _ = _; omega
                    go_wp2_with fail
                    go_roundg (gk - 1)
                    case measure => omega
                    case rel =>
                      refine ⟨q + 1, by go_num, by omega, by omega, ?_, ?_, HXu.out.far (p := ⟨gm, _, none⟩) HGN.out.1.symm _, HBu.out.setCell (p := ⟨gm, _, none⟩) HGM.out _⟩
                      · show Row _ _ _ _
                        rw [HU.out, HMX.out, ← uv_set]; exact HRu.out.set_ _ _
                      · exact own_moveH HOu.out (fun g hg => Below.heap_setCell _ _ _ _ (by simp [Value.ownBlock] at hg; subst hg; exact HGN.out.2.symm))
                  · have HMX : Hid (max y1 y2 = y1) := by show _ = _; omega
                    go_wp2_with fail
                    go_roundg (gk - 1)
                    case measure => omega
                    case rel =>
                      refine ⟨q + 1, by go_num, by omega, by omega, ?_, ?_, HXu.out.far (p := ⟨gm, _, none⟩) HGN.out.1.symm _, HBu.out.setCell (p := ⟨gm, _, none⟩) HGM.out _⟩
                      · show Row _ _ _ _
                        rw [HU.out, HMX.out, ← uv_set]; exact HRu.out.set_ _ _
                      · exact own_moveH HOu.out (fun g hg => Below.heap_setCell _ _ _ _ (by simp [Value.ownBlock] at hg; subst hg; exact HGN.out.2.symm))
                · obtain rfl : q = D.length := by omega
                  go_wp2_with fail
                  go_roundg (g2 - 1)
                  case measure => omega
                  case rel => exact ⟨i + 1, by go_num, by omega, by omega, by show Row _ _ _ _; rw [HT.out]; exact HRu.out, HOu.out, HXu.out, HBu.out⟩
            | false =>
              rw [hq] at CH
              have HT : Hid (hyV ed xs D M (i + 1) = hyV ed xs D M i) := by show _ = _; rw [hyV, if_neg (by rw [hq]; simp)]
              clear hq
              go_wp2_with fail
              go_quiet ((go_at_call 37; exact Calls.quiet_of_same (CH.out _)))
              go_wp2_with fail
              go_roundg (gk - 1)
              case measure => omega
              case rel => exact ⟨i + 1, by go_num, by omega, by omega, by show Row _ _ _ _; rw [HT.out]; exact HRv.out, HOv.out, HXv.out, below_draws HBv.out _⟩
          · obtain rfl : i = ed.size := by omega
            go_wp2_with fail
            go_roundg (go - 1)
            case measure => omega
            case rel => exact ⟨k + 1, by go_num, by omega, by omega, HK'.out, by show Row _ _ _ _; rw [HNX.out]; exact HRv.out, HBv.out⟩
    · obtain rfl : n = k := by omega
      have HBT : Hid (hyB t ps = true) := by
        show _ = _
        have := HK.out
        rw [take_all hl.out] at this
        rw [hyB, hlb, this, hl.out, decide_eq_true h32]; rfl
      have HRT : Hid (hyR t ps = hyO M (t.size - 3)) := by show _ = _; rw [hyR, hl.out, HM.out, HED.out]
      have hszr := HB.out.size
      go_wp2_with fail
      go_loopg [15, 16] t.size (fun m o14 k15 wu => ∃ (j g14 c14 : Nat), o14 = .slice (some ⟨g14, 0, none⟩) (hyO M j).length c14 ∧ k15 = .int .i64 ((j : Int) + 2) ∧ j ≤ t.size - 3 ∧ t.size ≤ m + j ∧ Hid (RowI wu wo.heap.size 2 (.slice (some ⟨g14, 0, none⟩) (hyO M j).length c14) (hyO M j)) ∧ Hid (Below wo.heap.size wo wu))
      case atStart => exact ⟨0, _, 0, rfl, rfl, by omega, by omega, own_made0 wo, (Below.refl _ _).alloc (Nat.le_refl _) _⟩
      case round =>
        obtain ⟨j, g14, c14, rfl, rfl, hj, hmj, HOu, HBu⟩ := hrel
        obtain ⟨wu, rfl⟩ : ∃ x : World, x = wr := ⟨_, rfl⟩
        have HRu := Lib.hid (HR.out.below HBu.out HR.out.lt)
        have hlo := hyO_len M j
        have hwu := Lib.hid HBu.out.size
        by_cases hjl : j < t.size - 3
        · have l1 : (j : Int) + 2 ≤ (t.size : Int) - 2 := by omega
          have l2 : (0 : Int) ≤ (j : Int) + 2 + 1 := by omega
          have hes := HES.out
          have l3 : (j : Int) + 2 + 1 < (ed.size : Int) + 1 := by omega
          have l4 : (j : Int) + 3 < (ed.size : Int) + 1 := by omega
          have n3 : ((j : Int) + 3).toNat = j + 3 := by omega
          have n4 : ((j : Int) + 2 + 1).toNat = j + 3 := by omega
          have e1 : wu.cell? ⟨gm, j + 3, none⟩ = some (.int .u8 (M.getD (j + 3) 0)) := by rw [HRu.out.cell]; have h := get_getD (show j + 3 < M.length by rw [hLM]; omega); unfold uv; rw [List.getElem?_map, h]; rfl
          clear hes
          have h9 : Dg9 M := by rw [HM.out]; exact hyN_9 _ _ _
          have h0 := h9.getD (j + 3)
          clear h9
          obtain ⟨y, hy⟩ : ∃ y, y = M.getD (j + 3) 0 := ⟨_, rfl⟩
          rw [← hy] at e1 h0
          have t1 : y.tmod 2 = y % 2 := Int.tmod_eq_emod_of_nonneg h0.1
          have w8 : IntKind.u8.wrap (y.tmod 2) = y.tmod 2 := IntWalk.u8_in _ (by rw [t1]; omega)
          have w9 : IntKind.u8.wrap (y % 2) = y % 2 := IntWalk.u8_in _ (by omega)
          by_cases hod : y % 2 = 1
          · have r1 : (y.tmod 2 == 1) = true := by rw [t1, hod]; rfl
            have r2 : (y % 2 == 1) = true := by rw [hod]; rfl
            have HO : Hid (hyO M (j + 1) = hyO M j ++ [((j : Int) + 2)]) := by show _ = _; rw [hyO, ← hy, if_pos hod]
            have hln : (hyO M j).length + 1 ≤ 4294967296 := by omega
            clear hy hod t1
            go_wp2_with (first | (at_builtin; refine wpList_int_push wu rfl (.tmp 96) (.tmp 98) _ rfl wo.heap.size 2 Tryd.underlying34 infoI6 (.slice (some ⟨g14, 0, none⟩) (hyO M j).length c14) (hyO M j) rfl HOu.out ((j : Int) + 2) rfl hln hwu.out ?_; intro gq cq wq hown hbl hat hgr))
            go_roundg (gk - 1)
            case measure => omega
            case rel => exact ⟨j + 1, gq, cq, by rw [HO.out, List.length_append]; rfl, by go_num, by omega, by omega, by show RowI _ _ _ _ _; rw [HO.out, List.length_append]; exact hown, HBu.out.trans hbl⟩
          · have r1 : (y.tmod 2 == 1) = false := by rw [t1]; simp [hod]
            have r2 : (y % 2 == 1) = false := by simp [hod]
            have HO : Hid (hyO M (j + 1) = hyO M j) := by show _ = _; rw [hyO, ← hy, if_neg hod]
            clear hy hod t1
            go_wp2_with fail
            go_roundg (gk - 1)
            case measure => omega
            case rel => exact ⟨j + 1, g14, c14, by rw [HO.out], by go_num, by omega, by omega, by show RowI _ _ _ _ _; rw [HO.out]; exact HOu.out, HBu.out⟩
        · obtain rfl : j = t.size - 3 := by omega
          have l1 : (t.size : Int) - 2 < ((t.size - 3 : Nat) : Int) + 2 := by omega
          go_wp2_with fail
          go_ret2
          rw [HBT.out]
          refine ⟨_, rfl, ?_, HB.out.trans (HBu.out.mono HB.out.size)⟩
          show RowI _ _ _ _ _
          rw [HRT.out]
          exact own_monoS HOu.out hszr
end Go.Proofs.YtpmklldochpnlaaDoor
