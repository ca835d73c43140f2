/- Hyphens: the reference. -/
import Derived.Test.YtpmklldochpnlaaHyM
import Derived.Test.YtpmklldochpnlaaHyS1
import Derived.Test.YtpmklldochpnlaaLet
import Derived.StillTailTactics
import Derived.Deep.QuietTactic
import Derived.BigQuiet
namespace Go.Proofs.Ytpmklldochpnlaa
open Go.RowKit Go.PlainAid
set_option linter.unusedVariables false
theorem sMaxH (x y : Int) (w : World) :
    Calls Try.prog 50 #[.int .i64 x, .int .i64 y] w fun e w' => e = .returned (.int .i64 (max x y)) ∧ w' = w := by
  by_cases h : y < x
  · go_enter Try.func50, Try.ntmps50
    go_wp2
    go_ret
    exact ⟨ret_int (by omega), rfl⟩
  · have h' : x ≤ y := by omega
    clear h
    go_enter Try.func50, Try.ntmps50
    go_wp2
    go_ret
    exact ⟨ret_int (by omega), rfl⟩
theorem own_monoS {w : World} {lo lo' sz n : Nat} {t : TypeId} {v : Value} {xs : List Value} (h : w.ownsRow lo t sz v n xs) (hl : lo' ≤ lo) : w.ownsRow lo' t sz v n xs := by
  obtain ⟨h1, h2⟩ := h
  refine ⟨h1, ?_⟩
  rcases h2 with h2 | ⟨g, cap, cur, e, hb', rest⟩
  · exact .inl h2
  · exact .inr ⟨g, cap, cur, e, Nat.le_trans hl hb', rest⟩
theorem own_made0 (w : World) : RowI (w.alloc (.cells #[] 2)) w.heap.size 2 (.slice (some ⟨w.heap.size, 0, none⟩) 0 0) [] :=
  World.ownsRow_made w #[] 0 (Nat.le_refl _) (by unfold maxLen; omega) rfl
theorem hyDs_9 (p : ByteArray) : Dg9 (hyDs p) := by
  unfold hyDs
  cases hp : hyP p with
  | none => intro x hx; cases hx
  | some a => exact (hyF_len p _ _ _ _ _ _ _ _ hp rfl (fun x hx => by cases hx) (by omega)).2
theorem hyN_9 (s : ByteArray) (ps : List ByteArray) (n : Nat) : Dg9 (hyN s ps n) := by
  induction n with
  | zero => exact Dg9.zeros _
  | succ n ih => exact hyV_9 ih (hyDs_9 _) _
theorem infoI6 : (Try.prog.info? 2).map (fun i => (i.zero, i.size, i.bytes)) = some (some (.int .i64 0), 1, 8) := by kernel_rfl
theorem getD_some {α : Type} {xs : List α} {k : Nat} {x d : α} (h : xs[k]? = some x) : xs.getD k d = x := by rw [List.getD_eq_getElem?_getD, h]; rfl
theorem get_getD {xs : List Int} {k : Nat} (h : k < xs.length) : xs[k]? = some (xs.getD k 0) := by rw [List.getD_eq_getElem?_getD, List.getElem?_eq_getElem h]; rfl
theorem iv_set (xs : List Int) (k : Nat) (x : Int) : (iv xs).set k (.int .i64 x) = iv (xs.set k x) := by simp [iv, List.map_set]
theorem hyB_let {t : ByteArray} {ps : List ByteArray} (h : letB t = false) : hyB t ps = false := by rw [hyB, h]; rfl
theorem hyB_len {t : ByteArray} {ps : List ByteArray} (h : 32 < ps.length) : hyB t ps = false := by rw [hyB, decide_eq_false (by omega)]; simp
theorem hyB_bad {t x : ByteArray} {ps : List ByteArray} {k : Nat} (hx : ps[k]? = some x) (h : hyK x = false) : hyB t ps = false := by
  have : ps.all hyK = false := allN hx h
  rw [hyB, this]; simp
set_option maxRecDepth 100000 in
set_option maxHeartbeats 8000000 in
theorem sHyphens_any (t : ByteArray) (A : Option Addr) (n c : Nat) (ps : List ByteArray) (w : World) (h : SlS w w.heap.size A n ps) (hn : n ≤ 4294967296) (hps : ∀ x ∈ ps, x.size ≤ 1048576) (wt : t.size ≤ maxLen) :
    Calls Try.prog 31 #[.string t, .slice A n c] w fun e w' => ∃ v, e = .returned (.tuple #[v, .bool (hyB t ps)]) ∧ NsOut w' w.heap.size v (hyB t ps) (hyR t ps) ∧ Below w.heap.size w w' := by
  have hl := Lib.hid h.len
  have H := Lib.hid h; clear h
  have HPS := Lib.hid hps; clear hps
  cases hlb : letB t with
  | false =>
    have HN := Lib.hid (hyB_let (ps := ps) hlb)
    go_enter Try.func31, Try.ntmps31
    go_wp2_with (first | (go_at_call 65; refine (sLetters_txt _ wt _).mono ?_; rintro e w1 ⟨rfl, hb1⟩; rw [hlb]))
    go_ret2
    rw [HN.out]
    exact ⟨_, rfl, rfl, hb1⟩
  | true =>
  by_cases h32 : n ≤ 32
  case neg =>
    have HN := Lib.hid (hyB_len (t := t) (ps := ps) (by rw [hl.out]; omega))
    have h33 : (32 : Int) < (n : Int) := by omega
    clear h32
    go_enter Try.func31, Try.ntmps31
    go_wp2_with (first | (go_at_call 65; refine (sLetters_txt _ wt _).mono ?_; rintro e w1 ⟨rfl, hb1⟩; rw [hlb]))
    go_ret2
    rw [HN.out]
    exact ⟨_, rfl, rfl, hb1⟩
  have htx : t.size ≤ 48 := by
    have h : (letsB t && txtB t) = true := hlb
    rw [Bool.and_eq_true] at h
    exact txtB_true h.2
  obtain ⟨ea, hea⟩ : ∃ x, (⟨#[46]⟩ : ByteArray) ++ t = x := ⟨_, rfl⟩
  obtain ⟨ed, hed⟩ : ∃ x, ea ++ (⟨#[46]⟩ : ByteArray) = x := ⟨_, rfl⟩
  have HED : Hid (ed = hyE t) := by show _ = _; rw [hyE, ← hed, ← hea]
  have HES : Hid (ed.size = t.size + 2) := by show _ = _; rw [HED.out, hyE_size]
  have h46 : (⟨#[46]⟩ : ByteArray).size = 1 := rfl
  have heas : ea.size ≤ 49 := by rw [← hea, ByteArray.size_append, h46]; omega
  have heds : ed.size ≤ 50 := by rw [HES.out]; omega
  have hmk := run_make_row' (P := Try.prog) 37 2 (.int .i64 0) 8 Try.underlying37 infoI6 rfl .i64 .i64 (ed.size + 1) (by omega) (by omega)
  rw [show ((ed.size + 1 : Nat) : Int) = (ed.size : Int) + 1 from by omega] at hmk
  go_enter Try.func31, Try.ntmps31
  go_wp2_with (first | (go_at_call 65; refine (sLetters_txt _ wt _).mono ?_; rintro e w1 ⟨rfl, hb1⟩; rw [hlb]))
  clear hmk hea hed
  have HB1 := Lib.hid hb1
  have hrow := Row.made w1 (.int .i64 0) (ed.size + 1) 2
  have hle1 := hb1.size
  clear hb1
  obtain ⟨gm, hgm⟩ : ∃ g, g = w1.heap.size := ⟨_, rfl⟩
  have HGM : Hid (w.heap.size ≤ gm) := by show _ ≤ _; omega
  rw [← hgm]
  have HGW := Lib.hid hgm; clear hgm
  go_loopg [8, 9, 10, 11, 12, 13] n (fun m ni s9 d10 b11 i12 k13 wr => ∃ k : Nat, ni = .int .i64 k ∧ k ≤ n ∧ n ≤ m + k ∧ Hid ((ps.take k).all hyK = true) ∧ Hid (Row wr gm 2 (iv (hyN ed ps k))) ∧ Hid (Below w.heap.size w wr))
  case atStart =>
    refine ⟨0, rfl, by omega, by omega, rfl, ?_, HB1.out.trans (((Below.refl _ _).alloc (Nat.le_refl _) _).mono hle1)⟩
    have e : iv (hyN ed ps 0) = List.replicate (ed.size + 1) (.int .i64 0) := by simp [iv, hyN]
    show Row _ _ _ _
    rw [e, HGW.out]; exact hrow
  case round =>
    obtain ⟨k, rfl, hk, hm, HK, HR, HB⟩ := hrel
    obtain ⟨wo, rfl⟩ : ∃ x : World, x = wr := ⟨_, rfl⟩
    have hLM := hyN_len ed ps k
    obtain ⟨M, hM⟩ : ∃ M, M = hyN ed ps k := ⟨_, rfl⟩
    rw [← hM] at HR hLM
    have HM := Lib.hid hM; clear hM
    by_cases hlt : k < n
    · obtain ⟨b, off, x, hAA, hbB, hx, hc, hxs⟩ := (H.out.below HB.out (Nat.le_refl _)).at_ hlt
      subst hAA
      have hxz := HPS.out x (List.mem_of_getElem? hx.out)
      have l0 : (0 : Int) ≤ (k : Int) := by omega
      have C := sPattern_any x (by omega) wo
      cases hkx : hyK x with
      | false =>
        have HN := Lib.hid (hyB_bad (t := t) hx.out hkx)
        rw [hkx] at C
        clear hkx
        go_wp2_with (first | (go_at_call 66; refine C.mono ?_; rintro e w2 ⟨s2, v2, rfl, -, hb2⟩; clear C))
        go_ret2
        rw [HN.out]
        exact ⟨_, rfl, rfl, HB.out.trans (hb2.mono HB.out.size)⟩
      | true =>
        have HK' : Hid ((ps.take (k + 1)).all hyK = true) := allT HK.out hx.out hkx
        have hdl := hyDs_len hkx
        rw [hkx] at C
        have HKX := Lib.hid hkx; clear hkx
        obtain ⟨D, hD⟩ : ∃ D, D = hyDs x := ⟨_, rfl⟩
        obtain ⟨xs, hxs⟩ : ∃ s, s = hyStr x := ⟨_, rfl⟩
        have hxl : xs.size = (hyLs x).length := by rw [hxs]; exact key_size _
        have HX1 : Hid (xs.size + 1 = D.length) := by show _ = _; rw [hD, hxl]; omega
        have hx1 : 1 ≤ xs.size := by omega
        have hx8 : xs.size ≤ 8 := by omega
        have hD9 : Dg9 D := by rw [hD]; exact hdl.2.1
        have HNX : Hid (hyN ed ps (k + 1) = hyV ed xs D M ed.size) := by show _ = _; rw [hyN, getD_some hx.out, ← hxs, ← hD, ← HM.out]
        have HXS := Lib.hid hxs; have HDD := Lib.hid hD; have HD9 := Lib.hid hD9
        clear hdl hxl hxs hD hD9
        go_wp2_with (first | (go_at_call 66; refine C.mono ?_; rintro e w2 ⟨s2, v2, rfl, hS, hb2⟩; clear C; obtain ⟨hs2, hO2⟩ := hS HKX.out; rw [show (⟨(hyLs x).toArray⟩ : ByteArray) = xs from HXS.out.symm] at hs2; have hs2 := hs2.symm; subst hs2; rw [← HDD.out] at hO2; clear hS; obtain ⟨gd, cd, hv, hcd, hgd1, hgd2, -⟩ := RowI.form hO2 (by have := HX1.out; omega); subst hv; have HO2 := Lib.hid hO2; clear hO2))
        have HB2 := Lib.hid (HB.out.trans (hb2.mono HB.out.size))
        have HR2 := Lib.hid (HR.out.below hb2 HR.out.lt)
        have hgmr : gm < wo.heap.size := HR.out.lt
        clear hc hb2 hLM
        obtain ⟨go, hgo⟩ : ∃ g : Nat, g = gk := ⟨_, rfl⟩
        go_loopg [12, 13] ed.size (fun m i12 k13 wv => ∃ i : Nat, i12 = .int .i64 i ∧ i ≤ ed.size ∧ ed.size ≤ m + i ∧ Hid (Row wv gm 2 (iv (hyV ed xs D M i))) ∧ Hid (RowI wv wo.heap.size 2 (.slice (some ⟨gd, 0, none⟩) D.length cd) D) ∧ Hid (Below w.heap.size w wv))
        case atStart => exact ⟨0, rfl, by omega, by omega, HR2.out, HO2.out, HB2.out⟩
        case round =>
          obtain ⟨i, rfl, hi, hmi, HRv, HOv, HBv⟩ := hrel
          obtain ⟨wv, rfl⟩ : ∃ x : World, x = wr := ⟨_, rfl⟩
          have l1 : (0 : Int) ≤ (i : Int) := by omega
          by_cases hfit : i + xs.size ≤ ed.size
          · have l2 : (i : Int) + (xs.size : Int) ≤ (ed.size : Int) := by omega
            have l3 : (i : Int) ≤ (i : Int) + (xs.size : Int) := by omega
            have n2 : ((i : Int) + (xs.size : Int)).toNat = i + xs.size := by omega
            have HH := Lib.hid (hit_is hfit)
            by_cases hq : ed.extract i (i + xs.size) = xs
            · have q1 := str_eq hq
              have HT : Hid (hyV ed xs D M (i + 1) = hyU (hyV ed xs D M i) i D D.length) := by show _ = _; rw [hyV, if_pos (by rw [HH.out]; exact decide_eq_true hq)]
              obtain ⟨V, hV⟩ : ∃ V, V = hyV ed xs D M i := ⟨_, rfl⟩
              have hVL : V.length = ed.size + 1 := by rw [hV, hyV_len, HM.out, hyN_len]
              have HVL := Lib.hid hVL
              rw [← hV] at HT HRv
              clear hq hV hVL
              go_wp2_with fail
              obtain ⟨g2, hg2⟩ : ∃ g : Nat, g = gk := ⟨_, rfl⟩
              go_loopg [13] D.length (fun m k13 wu => ∃ q : Nat, k13 = .int .i64 q ∧ q ≤ D.length ∧ D.length ≤ m + q ∧ Hid (Row wu gm 2 (iv (hyU V i D q))) ∧ Hid (RowI wu wo.heap.size 2 (.slice (some ⟨gd, 0, none⟩) D.length cd) D) ∧ Hid (Below w.heap.size w wu))
              case atStart => exact ⟨0, rfl, by omega, by omega, HRv.out, HOv.out, HBv.out⟩
              case round =>
                obtain ⟨q, rfl, hqd, hmq, HRu, HOu, HBu⟩ := hrel
                obtain ⟨wu, rfl⟩ : ∃ x : World, x = wr := ⟨_, rfl⟩
                have l4 : (0 : Int) ≤ (q : Int) := by omega
                by_cases hql : q < D.length
                · have l5 : (q : Int) < (D.length : Int) := by omega
                  have hxd := HX1.out
                  have l6 : (i : Int) + (q : Int) < (ed.size : Int) + 1 := by omega
                  have l7 : (0 : Int) ≤ (i : Int) + (q : Int) := by omega
                  have n3 : ((i : Int) + (q : Int)).toNat = i + q := by omega
                  have w6 : IntKind.i64.wrap ((i : Int) + (q : Int)) = (i : Int) + (q : Int) := IntWalk.i64_in _ (by omega)
                  clear hxd
                  have HUL : Hid ((hyU V i D q).length = ed.size + 1) := by show _ = _; rw [hyU_len, HVL.out]
                  have hcd' := (RowI.form HOu.out (by omega))
                  obtain ⟨gd', cd', hv', -, -, -, hcl⟩ := hcd'
                  simp only [Value.slice.injEq, Option.some.injEq, Addr.mk.injEq, and_true, true_and] at hv'
                  obtain ⟨rfl, rfl⟩ := hv'
                  have e2 := hcl q _ (get_getD hql)
                  have e1 : wu.cell? ⟨gm, i + q, none⟩ = some (.int .i64 ((hyU V i D q).getD (i + q) 0)) := by rw [HRu.out.cell]; have h := get_getD (show i + q < (hyU V i D q).length by rw [HUL.out]; have := HX1.out; omega); unfold iv; rw [List.getElem?_map, h]; rfl
                  have e3 := HRu.out.frozen (i + q)
                  clear hcl
                  obtain ⟨y1, hy1⟩ : ∃ y, y = (hyU V i D q).getD (i + q) 0 := ⟨_, rfl⟩
                  obtain ⟨y2, hy2⟩ : ∃ y, y = D.getD q 0 := ⟨_, rfl⟩
                  rw [← hy1] at e1
                  rw [← hy2] at e2
                  have HU : Hid (hyU V i D (q + 1) = (hyU V i D q).set (i + q) (max y1 y2)) := by show _ = _; rw [hyU, ← hy1, ← hy2]
                  clear hy1 hy2
                  go_wp2_with fail
                  refine wp_tail 16 (by kernel_rfl) (by kernel_rfl) (fun y hy => ?_)
                  have k1 : y.cell? ⟨gm, i + q, none⟩ = some (.int .i64 y1) := by rw [hy]; exact e1
                  have k2 : y.cell? ⟨gd, q, none⟩ = some (.int .i64 y2) := by rw [hy]; exact e2
                  have k3 : y.frozen? ⟨gm, i + q, none⟩ = false := by rw [hy]; exact e3
                  have HYr : Hid (Row y gm 2 (iv (hyU V i D q))) := by rw [hy]; exact HRu.out
                  have HYo : Hid (RowI y wo.heap.size 2 (.slice (some ⟨gd, 0, none⟩) D.length cd) D) := by rw [hy]; exact HOu.out.drewN _
                  have HYb : Hid (Below w.heap.size w y) := by rw [hy]; exact below_draws HBu.out _
                  clear hy e1 e2 e3
                  simp only [List.take_succ_cons, List.take_zero, List.drop_succ_cons, List.drop_zero]
                  repeat (first | still_step | still_call (sMaxH _ _ _))
                  refine wpStill_nil ?_
                  go_wp2_with fail
                  go_roundg (gk - 1)
                  case measure => omega
                  case rel =>
                    refine ⟨q + 1, by go_num, by omega, by omega, ?_, ?_, HYb.out.setCell (p := ⟨gm, _, none⟩) HGM.out _⟩
                    · show Row _ _ _ _
                      rw [HU.out, ← iv_set]; exact HYr.out.set_ _ _
                    · exact own_moveH HYo.out (fun g hg => Below.heap_setCell _ _ _ _ (by simp [Value.ownBlock] at hg; subst hg; show gd ≠ gm; have := (HYo.out.lt gd rfl).1; omega))
                · obtain rfl : q = D.length := by omega
                  go_wp2_with fail
                  go_roundg (g2 - 1)
                  case measure => omega
                  case rel => exact ⟨i + 1, by go_num, by omega, by omega, by show Row _ _ _ _; rw [HT.out]; exact HRu.out, HOu.out, HBu.out⟩
            · have q1 := str_ne hq
              have HT : Hid (hyV ed xs D M (i + 1) = hyV ed xs D M i) := by show _ = _; rw [hyV, if_neg (by rw [HH.out]; simp [hq])]
              clear hq
              go_wp2_with fail
              go_roundg (gk - 1)
              case measure => omega
              case rel => exact ⟨i + 1, by go_num, by omega, by omega, by show Row _ _ _ _; rw [HT.out]; exact HRv.out, HOv.out, HBv.out⟩
          · have l2 : (ed.size : Int) < (i : Int) + (xs.size : Int) := by omega
            have HT := Lib.hid (hyV_end (D := D) (M := M) (show ed.size < i + xs.size by omega) hi)
            clear hfit
            go_wp2_with fail
            go_roundg (go - 1)
            case measure => omega
            case rel => exact ⟨k + 1, by go_num, by omega, by omega, HK'.out, by show Row _ _ _ _; rw [HNX.out, HT.out]; exact HRv.out, HBv.out⟩
    · obtain rfl : n = k := by omega
      have HBT : Hid (hyB t ps = true) := by
        show _ = _
        have := HK.out
        rw [take_all hl.out] at this
        rw [hyB, hlb, this, hl.out, decide_eq_true h32]; rfl
      have HRT : Hid (hyR t ps = hyO M (t.size - 3)) := by show _ = _; rw [hyR, hl.out, HM.out, HED.out]
      have hszr := HB.out.size
      go_wp2_with fail
      go_loopg [14, 15] t.size (fun m o14 k15 wu => ∃ (j g14 c14 : Nat), o14 = .slice (some ⟨g14, 0, none⟩) (hyO M j).length c14 ∧ k15 = .int .i64 ((j : Int) + 2) ∧ j ≤ t.size - 3 ∧ t.size ≤ m + j ∧ Hid (RowI wu wo.heap.size 2 (.slice (some ⟨g14, 0, none⟩) (hyO M j).length c14) (hyO M j)) ∧ Hid (Below wo.heap.size wo wu))
      case atStart => exact ⟨0, _, 0, rfl, rfl, by omega, by omega, own_made0 wo, (Below.refl _ _).alloc (Nat.le_refl _) _⟩
      case round =>
        obtain ⟨j, g14, c14, rfl, rfl, hj, hmj, HOu, HBu⟩ := hrel
        obtain ⟨wu, rfl⟩ : ∃ x : World, x = wr := ⟨_, rfl⟩
        have HRu := Lib.hid (HR.out.below HBu.out HR.out.lt)
        have hlo := hyO_len M j
        have hwu := Lib.hid HBu.out.size
        by_cases hjl : j < t.size - 3
        · have l1 : (j : Int) + 2 + 2 ≤ (t.size : Int) := by omega
          have l2 : (0 : Int) ≤ (j : Int) + 2 + 1 := by omega
          have hes := HES.out
          have l3 : (j : Int) + 2 + 1 < (ed.size : Int) + 1 := by omega
          have l4 : (j : Int) + 3 < (ed.size : Int) + 1 := by omega
          have n3 : ((j : Int) + 3).toNat = j + 3 := by omega
          have n4 : ((j : Int) + 2 + 1).toNat = j + 3 := by omega
          have e1 : wu.cell? ⟨gm, j + 3, none⟩ = some (.int .i64 (M.getD (j + 3) 0)) := by rw [HRu.out.cell]; have h := get_getD (show j + 3 < M.length by rw [hLM]; omega); unfold iv; rw [List.getElem?_map, h]; rfl
          clear hes
          have h9 : Dg9 M := by rw [HM.out]; exact hyN_9 _ _ _
          have h0 := h9.getD (j + 3)
          clear h9
          obtain ⟨y, hy⟩ : ∃ y, y = M.getD (j + 3) 0 := ⟨_, rfl⟩
          rw [← hy] at e1 h0
          have t1 : y.tmod 2 = y % 2 := Int.tmod_eq_emod_of_nonneg h0.1
          by_cases hod : y % 2 = 1
          · have r1 : (y.tmod 2 == 1) = true := by rw [t1, hod]; rfl
            have r2 : (y % 2 == 1) = true := by rw [hod]; rfl
            have HO : Hid (hyO M (j + 1) = hyO M j ++ [((j : Int) + 2)]) := by show _ = _; rw [hyO, ← hy, if_pos hod]
            have hln : (hyO M j).length + 1 ≤ 4294967296 := by omega
            clear hy hod t1
            go_wp2_with (first | (at_builtin; refine wpList_int_push wu rfl (.tmp 103) (.tmp 105) _ rfl wo.heap.size 2 Try.underlying37 infoI6 (.slice (some ⟨g14, 0, none⟩) (hyO M j).length c14) (hyO M j) rfl HOu.out ((j : Int) + 2) rfl hln hwu.out ?_; intro gq cq wq hown hbl hat hgr))
            go_roundg (gk - 1)
            case measure => omega
            case rel => exact ⟨j + 1, gq, cq, by rw [HO.out, List.length_append]; rfl, by go_num, by omega, by omega, by show RowI _ _ _ _ _; rw [HO.out, List.length_append]; exact hown, HBu.out.trans hbl⟩
          · have r1 : (y.tmod 2 == 1) = false := by rw [t1]; simp [hod]
            have r2 : (y % 2 == 1) = false := by simp [hod]
            have HO : Hid (hyO M (j + 1) = hyO M j) := by show _ = _; rw [hyO, ← hy, if_neg hod]
            clear hy hod t1
            go_wp2_with fail
            go_roundg (gk - 1)
            case measure => omega
            case rel => exact ⟨j + 1, g14, c14, by rw [HO.out], by go_num, by omega, by omega, by show RowI _ _ _ _ _; rw [HO.out]; exact HOu.out, HBu.out⟩
        · obtain rfl : j = t.size - 3 := by omega
          have l1 : (t.size : Int) < ((t.size - 3 : Nat) : Int) + 2 + 2 := by omega
          go_wp2_with fail
          go_ret2
          rw [HBT.out]
          refine ⟨_, rfl, ?_, HB.out.trans (HBu.out.mono HB.out.size)⟩
          show RowI _ _ _ _ _
          rw [HRT.out]
          exact own_monoS HOu.out hszr
end Go.Proofs.Ytpmklldochpnlaa
