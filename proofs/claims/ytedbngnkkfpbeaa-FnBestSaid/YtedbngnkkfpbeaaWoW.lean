/- BestWords: the words of a length (wordsOf), walked. -/
import Derived.Test.YtedbngnkkfpbeaaMgu
import Derived.Deep.CutRange

namespace Go.Proofs.Ytedbngnkkfpbeaa
open Go.RowKit
set_option linter.unusedVariables false
/-- Each word grown by each letter. -/
def wlG (T : Nat) (R : List (List Int)) : List (List Int) := R.flatMap fun r => (List.range T).map fun (t : Nat) => r ++ [(t : Int)]
def wlN (T : Nat) : Nat → List (List Int)
  | 0 => [[]]
  | n + 1 => wlG T (wlN T n)
theorem wlG_succ {T : Nat} {R : List (List Int)} {i : Nat} {r : List Int} (h : R[i]? = some r) : wlG T (R.take (i + 1)) = wlG T (R.take i) ++ (List.range T).map fun (t : Nat) => r ++ [(t : Int)] := by
  obtain ⟨h1, rfl⟩ := List.getElem?_eq_some_iff.1 h
  unfold wlG
  rw [List.take_succ_eq_append_getElem h1, List.flatMap_append]; simp
theorem wlG_len (T : Nat) (R : List (List Int)) : (wlG T R).length = R.length * T := by
  induction R with
  | nil => simp [wlG]
  | cons r R ih =>
    have h : wlG T (r :: R) = ((List.range T).map fun (t : Nat) => r ++ [(t : Int)]) ++ wlG T R := rfl
    rw [h, List.length_append, ih]; simp; rw [Nat.add_mul]; omega
theorem wlN_len (T : Nat) : ∀ n, (wlN T n).length = T ^ n
  | 0 => rfl
  | n + 1 => by show (wlG T (wlN T n)).length = _; rw [wlG_len, wlN_len T n, Nat.pow_succ]
theorem wlN_max {T n : Nat} (hT : T ≤ 4) (hn : n ≤ 5) : (wlN T n).length ≤ 1024 := by
  rw [wlN_len]
  have h1 : T ^ n ≤ 4 ^ n := Nat.pow_le_pow_left hT n
  have h2 : 4 ^ n ≤ 4 ^ 5 := Nat.pow_le_pow_right (by omega) hn
  have h3 : 4 ^ 5 = 1024 := by decide
  omega
theorem wlN_word {T : Nat} : ∀ {n : Nat} {r : List Int}, r ∈ wlN T n → r.length = n ∧ ∀ x ∈ r, 0 ≤ x ∧ x < (T : Int)
  | 0, r, h => by
    rw [List.mem_singleton.1 h]; exact ⟨rfl, fun x hx => by cases hx⟩
  | n + 1, r, h => by
    obtain ⟨q, hq, hr⟩ := List.mem_flatMap.1 h
    obtain ⟨t, ht, rfl⟩ := List.mem_map.1 hr
    obtain ⟨h1, h2⟩ := wlN_word hq
    refine ⟨by simp [h1], fun x hx => ?_⟩
    rcases List.mem_append.1 hx with hx | hx
    · exact h2 x hx
    · rw [List.mem_singleton.1 hx]; have := List.mem_range.1 ht; omega
theorem own_rowW {w : World} {g base n : Nat} {t : TypeId} {vs : List Value} (h : Row w g t vs) (hb : base ≤ g) (hn : vs.length = n) (hm : n ≤ maxLen) : w.ownsRow base t 1 (.slice (some ⟨g, 0, none⟩) n n) n vs :=
  ⟨by omega, .inr ⟨g, n, vs.toArray, rfl, hb, h, Nat.le_refl _, hm, by simp [hn], by rw [List.toList_toArray]; exact List.take_of_length_le (by omega)⟩⟩
theorem infoW6 : (Try.prog.info? 2).map (fun i => (i.zero, i.size, i.bytes)) = some (some (.int .i64 0), 1, 8) := by kernel_rfl
theorem infoWo : (Try.prog.info? 26).map (fun i => (i.zero, i.size, i.bytes)) = some (some (.slice none 0 0), 1, 24) := by kernel_rfl
theorem TabI.mono {w : World} {base lo : Nat} {TT : TypeId} {v : Value} {rows : List (List Int)} (h : TabI w base TT v rows) (hl : lo ≤ base) : TabI w lo TT v rows := by
  obtain ⟨vs, hown, hr⟩ := h
  refine ⟨vs, World.ownsRow.mono hown hl, fun j r hj => ?_⟩
  obtain ⟨g, c, e1, e2, e3⟩ := hr j r hj
  exact ⟨g, c, e1, by omega, e3⟩
/-- A list of the empty word alone. -/
theorem TabI.empty1 (x : World) : TabI ((x.alloc (.cells #[] 2)).alloc (.cells #[.slice (some ⟨x.heap.size, 0, none⟩) 0 0] 26)) x.heap.size 26 (.slice (some ⟨x.heap.size + 1, 0, none⟩) 1 1) [[]] := by
  have s1 : (x.alloc (.cells #[] 2)).heap.size = x.heap.size + 1 := by simp
  have r2 := Row.new (x.alloc (.cells #[] 2)) 26 [.slice (some ⟨x.heap.size, 0, none⟩) 0 0]
  rw [s1] at r2
  have o2 := own_rowW (base := x.heap.size) (n := 1) r2 (by omega) rfl (by unfold maxLen; simp)
  refine ⟨_, o2, fun j r hr => ?_⟩
  have hj : j = 0 := by have := (List.getElem?_eq_some_iff.1 hr).1; simp at this; exact this
  subst hj
  obtain rfl : [] = r := by simpa using hr
  exact ⟨x.heap.size, 0, rfl, Nat.le_refl _, by simp; omega, by simp [Value.ownBlock], Nat.le_refl _, fun k y hy => by simp at hy⟩
theorem TabO.empty1 (x : World) : TabO ((x.alloc (.cells #[] 2)).alloc (.cells #[.slice (some ⟨x.heap.size, 0, none⟩) 0 0] 26)) x.heap.size 26 2 (.slice (some ⟨x.heap.size + 1, 0, none⟩) 1 1) [[]] [x.heap.size] := by
  have s1 : (x.alloc (.cells #[] 2)).heap.size = x.heap.size + 1 := by simp
  have r1 := (Row.new x 2 []).alloc (.cells #[.slice (some ⟨x.heap.size, 0, none⟩) 0 0] 26)
  have r2 := Row.new (x.alloc (.cells #[] 2)) 26 [.slice (some ⟨x.heap.size, 0, none⟩) 0 0]
  rw [s1] at r2
  have o2 := own_rowW (base := x.heap.size) (n := 1) r2 (by omega) rfl (by unfold maxLen; simp)
  refine ⟨rfl, by simp, _, o2, fun j r g hr hg => ?_⟩
  have hj : j = 0 := by have := (List.getElem?_eq_some_iff.1 hr).1; simp at this; exact this
  subst hj
  obtain rfl : [] = r := by simpa using hr
  obtain rfl : x.heap.size = g := by simpa using hg
  exact ⟨0, 0, rfl, Nat.le_refl _, by simp; omega, by simp [Value.ownBlock], Nat.le_refl _, Nat.le_refl _, ⟨[], rfl, r1⟩, fun k y hy => by simp at hy⟩
theorem TabO.ex {w : World} {base : Nat} {TT TI : TypeId} {v : Value} {rows : List (List Int)} (h : ∃ B, TabO w base TT TI v rows B) : TabI w base TT v rows := h.elim fun _ h => h.tabI
theorem TabI.slI {w : World} {base gt c : Nat} {TT : TypeId} {rows : List (List Int)} (h : TabI w base TT (.slice (some ⟨gt, 0, none⟩) rows.length c) rows) {j : Nat} {r : List Int} (hj : rows[j]? = some r) : ∃ g c', w.cell? ⟨gt, j, none⟩ = some (.slice (some ⟨g, 0, none⟩) r.length c') ∧ SlI w w.heap.size (some ⟨g, 0, none⟩) r.length r ∧ g < w.heap.size := by
  obtain ⟨gt', ct, g, c', e, -, -, -, e1, -, -, e2, -, e3⟩ := h.at_ hj
  injection e with e _ _
  injection e with e
  injection e with e _ _
  subst e
  refine ⟨g, c', e1, ⟨iv_length r, fun _ => ⟨g, 0, rfl, e2, fun k u hu => ?_⟩⟩, e2⟩
  obtain ⟨x, hx, rfl⟩ := iv_get hu
  rw [Nat.zero_add]; exact e3 k x hx
set_option maxRecDepth 100000 in
set_option maxHeartbeats 8000000 in
theorem iWo_any (T n : Nat) (hT : T ≤ 4) (hn : n ≤ 5) (w : World) :
    Calls Try.prog 65 #[.int .i64 (T : Int), .int .i64 (n : Int)] w fun e w' => ∃ g c, e = .returned (.slice (some ⟨g, 0, none⟩) (wlN T n).length c) ∧ (∃ B, TabO w' w.heap.size 26 2 (.slice (some ⟨g, 0, none⟩) (wlN T n).length c) (wlN T n) B) ∧ Below w.heap.size w w' := by
  have HT4 := Lib.hid hT; have HN5 := Lib.hid hn
  have HE1 : Hid (∃ B, TabO ((w.alloc (.cells #[] 2)).alloc (.cells #[.slice (some ⟨w.heap.size, 0, none⟩) 0 0] 26)) w.heap.size 26 2 (.slice (some ⟨w.heap.size + 1, 0, none⟩) 1 1) [[]] B) := ⟨_, TabO.empty1 w⟩
  have HB1 : Hid (Below w.heap.size w ((w.alloc (.cells #[] 2)).alloc (.cells #[.slice (some ⟨w.heap.size, 0, none⟩) 0 0] 26))) := ((Below.refl _ _).alloc (Nat.le_refl _) _).alloc (by simp) _
  go_enter Try.func65, Try.ntmps65
  go_wp2_with fail
  go_loopg [5, 13] n (fun q tl ti wr => ∃ (k g c : Nat), tl = .slice (some ⟨g, 0, none⟩) (wlN T k).length c ∧ ti = .int .i64 (k : Int) ∧ Hid (k ≤ n ∧ n ≤ q + k) ∧ Hid (∃ B, TabO wr w.heap.size 26 2 (.slice (some ⟨g, 0, none⟩) (wlN T k).length c) (wlN T k) B) ∧ Hid (Below w.heap.size w wr))
  case atStart =>
    refine ⟨0, w.heap.size + 1, 1, rfl, rfl, ?_, HE1.out, HB1.out⟩
    show _ ∧ _; omega
  case round =>
    clear HE1 HB1
    obtain ⟨wo, rfl⟩ : ∃ z : World, z = wr := ⟨_, rfl⟩
    obtain ⟨k, g, c, rfl, rfl, EK, HTB, HBW⟩ := hrel
    obtain ⟨go, hgo⟩ : ∃ z : Nat, z = gk := ⟨_, rfl⟩
    by_cases hlt : k < n
    · have l0 : (k : Int) < (n : Int) := by omega
      have wk : IntKind.i64.wrap ((k : Int) + 1) = ((k + 1 : Nat) : Int) := by rw [IntWalk.i64_in _ (by omega)]; omega
      obtain ⟨R, hR⟩ : ∃ R, R = wlN T k := ⟨_, rfl⟩
      have hRW : ∀ r ∈ R, r.length = k := fun r hr => (wlN_word (by rw [← hR]; exact hr)).1
      have hRL : R.length ≤ 1024 := by rw [hR]; exact wlN_max hT (by omega)
      rw [← hR] at HTB ⊢
      have HR := Lib.hid hR; have HRW := Lib.hid hRW; have HRL := Lib.hid hRL; have HLT : Hid (k < n) := hlt
      clear hR hRW hRL hlt
      go_wp2_with fail
      go_loopg [6, 18] R.length (fun q tl ti wr => ∃ (i g2 c2 : Nat) (R' : List (List Int)), tl = .slice (some ⟨g2, 0, none⟩) R'.length c2 ∧ ti = .int .i64 (i : Int) ∧ Hid (i ≤ R.length ∧ R.length ≤ q + i) ∧ Hid (R' = wlG T (R.take i)) ∧ Hid (∃ B, TabO wr wo.heap.size 26 2 (.slice (some ⟨g2, 0, none⟩) R'.length c2) R' B) ∧ Hid (Below wo.heap.size wo wr))
      case atStart =>
        refine ⟨0, wo.heap.size, 0, [], rfl, rfl, ?_, ?_, ?_, ?_⟩
        · show _ ∧ _; omega
        · show _ = _; simp [wlG]
        · exact ⟨[], TabO.made wo _ _ _ (Nat.le_refl _)⟩
        · exact (Below.refl _ _).alloc (Nat.le_refl _) _
      case round =>
        obtain ⟨wm, rfl⟩ : ∃ z : World, z = wr := ⟨_, rfl⟩
        obtain ⟨i, g2, c2, R', rfl, rfl, EI, ER, HT2, HB2⟩ := hrel
        obtain ⟨gm, hgm⟩ : ∃ z : Nat, z = gk := ⟨_, rfl⟩
        have HTB0 := HTB
        clear HTB
        by_cases hli : i < R.length
        · obtain ⟨r, hr⟩ : ∃ r, R[i]? = some r := ⟨_, List.getElem?_eq_getElem hli⟩
          obtain ⟨gr, cr, c00, hsr, hgr⟩ := (TabO.ex HTB0.out).slI hr
          have c0 : wm.cell? ⟨g, i, none⟩ = some (.slice (some ⟨gr, 0, none⟩) r.length cr) := (HB2.out.cell (p := ⟨g, i, none⟩) ((TabO.ex HTB0.out).block g rfl).2).trans c00
          clear c00
          have hrl : r.length = k := HRW.out r (List.mem_of_getElem? hr)
          have l1 : (i : Int) < (R.length : Int) := by omega
          have l2 : (0 : Int) ≤ (i : Int) := by omega
          have wi1 : IntKind.i64.wrap ((i : Int) + 1) = ((i + 1 : Nat) : Int) := by rw [IntWalk.i64_in _ (by have := HRL.out; omega)]; omega
          have HRI := Lib.hid hr; have HSR := Lib.hid hsr; have HRLN := Lib.hid hrl; have HLI : Hid (i < R.length) := hli
          have HFIN : Hid (wlG T (R.take (i + 1)) = R' ++ (List.range T).map fun (t : Nat) => r ++ [(t : Int)]) := by show _ = _; rw [wlG_succ hr, ER.out]
          have HR'L : Hid (R'.length ≤ 1000000) := by
            show _ ≤ _; rw [ER.out, wlG_len]
            have h1 : (R.take i).length ≤ 1024 := by rw [List.length_take]; have := HRL.out; omega
            have := Nat.mul_le_mul h1 HT4.out; omega
          clear hr hsr hrl hli hgr
          go_wp2_with fail
          clear c0 l1 l2
          go_loopg [6, 23] T (fun q tl ti wr => ∃ (j g3 c3 : Nat) (R3 : List (List Int)), tl = .slice (some ⟨g3, 0, none⟩) R3.length c3 ∧ ti = .int .i64 (j : Int) ∧ Hid (j ≤ T ∧ T ≤ q + j) ∧ Hid (R3 = R' ++ (List.range j).map fun (t : Nat) => r ++ [(t : Int)]) ∧ Hid (∃ B, TabO wr wo.heap.size 26 2 (.slice (some ⟨g3, 0, none⟩) R3.length c3) R3 B) ∧ Hid (Below wo.heap.size wo wr))
          case atStart =>
            refine ⟨0, g2, c2, R', rfl, rfl, ?_, ?_, HT2.out, HB2.out⟩
            · show _ ∧ _; omega
            · show _ = _; simp
          case round =>
            obtain ⟨wi, rfl⟩ : ∃ z : World, z = wr := ⟨_, rfl⟩
            obtain ⟨j, g3, c3, R3, rfl, rfl, EJ, ER3, HT3, HB3⟩ := hrel
            by_cases hlj : j < T
            · have l1 : (j : Int) < (T : Int) := by omega
              have wj1 : IntKind.i64.wrap ((j : Int) + 1) = ((j + 1 : Nat) : Int) := by rw [IntWalk.i64_in _ (by have := HT4.out; omega)]; omega
              have hrs : r.length ≤ 5 := by have := HRLN.out; have := HLT.out; have := HN5.out; omega
              have CC := Lib.hid (iClo_any (some ⟨gr, 0, none⟩) r.length cr r wi (.inr ⟨gr, 0, rfl⟩) ((HSR.out.below HB3.out (Nat.le_refl _)).more HB3.out.size) (by omega))
              have PWD : Hid (r.length + 1 ≤ 4294967296) := by show _ ≤ _; omega
              have HR3 : Hid (R3.length + 1 ≤ 4294967296) := by
                show _ ≤ _; rw [ER3.out]; simp; have := HR'L.out; have := HT4.out; omega
              have HLJ : Hid (j < T) := hlj
              have HX6 : ∀ {w6 : World} {g6 c6 : Nat}, Hid (RowI w6 wi.heap.size 2 (.slice (some ⟨g6, 0, none⟩) (r.length + 1) c6) (r ++ [(j : Int)])) → ∀ (k : Nat) (x : Int), (r ++ [(j : Int)])[k]? = some x → w6.cell? ⟨g6, k, none⟩ = some (.int .i64 x) := fun h k x hx => by
                have h1 := RowI.sl (n := r.length + 1) h.out (by simp)
                have h2 := SlV.cells h1 k (.int .i64 x) (by unfold iv; rw [List.getElem?_map, hx]; rfl)
                rw [Nat.zero_add] at h2; exact h2
              have HG3 : Hid (g3 < wi.heap.size) := ((TabO.ex HT3.out).block g3 rfl).2
              have hlo : wo.heap.size ≤ wi.heap.size := HB3.out.size
              obtain ⟨B3, hB3⟩ := HT3.out
              have HT3O := Lib.hid hB3
              clear hlj hrs hB3
              go_wp2_with (first
                | (go_at_call 61; refine CC.out.mono ?_; rintro e yC ⟨A', c', rfl, hrC, hbC⟩; have HRC := Lib.hid hrC; have HBC := Lib.hid hbC; have hszC : wi.heap.size ≤ yC.heap.size := hbC.size; clear hrC hbC)
                | (at_builtin; refine wpList_int_push yC rfl (.tmp 28) (.tmp 30) _ rfl wi.heap.size 2 Try.underlying26 infoW6 (.slice A' r.length c') r rfl HRC.out (j : Int) rfl PWD.out hszC ?_; intro g6 c6 w6 hown hbl hat hgr; have HR6 := Lib.hid hown; have HB6 := Lib.hid (HBC.out.trans hbl); have h6 : wi.heap.size ≤ g6 ∧ g6 < w6.heap.size := World.ownsRow.lt hown g6 rfl; have HC6 : Hid (r.length + 1 ≤ c6) := by { show _ ≤ _; obtain ⟨A9, c9, e9, h9, -⟩ := own_form hown; injection e9 with _ _ e9; simp at h9; omega }; clear hown hbl hat hgr)
                | (at_builtin; refine wpList_tabO_push wi w6 rfl (.tmp 26) (.tmp 32) _ rfl wo.heap.size 26 2 Try.underlying35 infoWo (.slice (some ⟨g3, 0, none⟩) R3.length c3) R3 B3 rfl HT3O.out HB6.out g6 c6 (r.length + 1) (r ++ [(j : Int)]) (by simp) rfl h6.1 HR6.out HR3.out hlo ?_; intro g7 c7 w7 htab hgr hbl hat; have HT7 := Lib.hid htab; have HB7 := Lib.hid hbl; clear htab hgr hbl hat))
              go_roundg (gk - 1)
              case measure => have := EJ.out; have := HLJ.out; omega
              case rel =>
                have hb7 : Below wo.heap.size wi w7 := (HB6.out.mono hlo).trans HB7.out
                refine ⟨j + 1, g7, c7, R3 ++ [r ++ [(j : Int)]], by simp, by go_num, ?_, ?_, ?_, HB3.out.trans hb7⟩
                · show _ ∧ _; have := EJ.out; have := HLJ.out; omega
                · show _ = _; rw [ER3.out, List.range_succ, List.map_append, List.append_assoc]; rfl
                · show ∃ B, TabO _ _ _ _ _ _ B
                  rw [List.length_append]; exact ⟨_, HT7.out⟩
            · have hjT : j = T := by have := EJ.out; omega
              have l1 : ¬ (j : Int) < (T : Int) := by omega
              clear hlj
              go_wp2_with fail
              go_roundg (gm - 1)
              case measure => have := EI.out; have := HLI.out; omega
              case rel =>
                refine ⟨i + 1, g3, c3, R3, rfl, by go_num, ?_, ?_, HT3.out, HB3.out⟩
                · show _ ∧ _; have := EI.out; have := HLI.out; omega
                · show _ = _; rw [HFIN.out, ER3.out, hjT]
        · have hiR : i = R.length := by have := EI.out; omega
          have l1 : ¬ (i : Int) < (R.length : Int) := by omega
          have HRR : Hid (R' = wlN T (k + 1)) := by show _ = wlG T (wlN T k); rw [ER.out, hiR, List.take_length, HR.out]
          clear hli
          go_wp2_with fail
          go_roundg (go - 1)
          case measure => have := EK.out; have := HLT.out; omega
          case rel =>
            have e := HRR.out
            rw [e] at HT2
            refine ⟨k + 1, g2, c2, by rw [e], by go_num, ?_, HT2.out.elim (fun B h => ⟨B, h.mono HBW.out.size⟩), HBW.out.trans (HB2.out.mono HBW.out.size)⟩
            show _ ∧ _; have := EK.out; have := HLT.out; omega
    · have hkn : k = n := by have := EK.out; omega
      have l0 : ¬ (k : Int) < (n : Int) := by omega
      clear hlt
      go_wp2_with fail
      go_ret
      have h := HTB.out
      rw [hkn] at h
      exact ⟨g, c, rfl, h, HBW.out⟩
end Go.Proofs.Ytedbngnkkfpbeaa
