/- Several texts in one: BestWords of the reference: words grown by a letter (l02Grown). BestWord of the reference: the least sum as a quiet call, the steps of all letters. -/
import Derived.Test.YtedbngnkkfpbeaaMgv
import Derived.Deep.CutRange
import Derived.Test.YtedbngnkkfpbeaaMgl
import Derived.Test.YtedbngnkkfpbeaaBwQ
import Derived.Test.YtedbngnkkfpbeaaRcC

namespace Go.Proofs.Ytedbngnkkfpbeaa
open Go.RowKit
set_option linter.unusedVariables false
set_option maxRecDepth 100000 in
set_option maxHeartbeats 8000000 in
theorem sGrown_any (base gn cn T : Nat) (R : List (List Int)) (w : World) (hR : TabI w base 26 (.slice (some ⟨gn, 0, none⟩) R.length cn) R) (hT : T ≤ 4) (hRL : R.length ≤ 4096) (hr : ∀ r ∈ R, r.length ≤ 5) :
    Calls Try.prog 53 #[.slice (some ⟨gn, 0, none⟩) R.length cn, .int .i64 (T : Int)] w fun e w' => ∃ g c, e = .returned (.slice (some ⟨g, 0, none⟩) (wlG T R).length c) ∧ TabI w' w.heap.size 26 (.slice (some ⟨g, 0, none⟩) (wlG T R).length c) (wlG T R) ∧ Below w.heap.size w w' := by
  have HR := Lib.hid hR; have HT4 := Lib.hid hT; have HRL := Lib.hid hRL; have HRW := Lib.hid hr
  clear hR hRL hr
  go_enter Try.func53, Try.ntmps53
  go_wp2_with fail
  go_loopg [5, 6] R.length (fun q tl ti wr => ∃ (i g2 c2 : Nat) (R' : List (List Int)), tl = .slice (some ⟨g2, 0, none⟩) R'.length c2 ∧ ti = .int .i64 (i : Int) ∧ Hid (i ≤ R.length ∧ R.length ≤ q + i) ∧ Hid (R' = wlG T (R.take i)) ∧ Hid (TabI wr w.heap.size 26 (.slice (some ⟨g2, 0, none⟩) R'.length c2) R') ∧ Hid (Below w.heap.size w wr))
  case atStart =>
    refine ⟨0, w.heap.size, 0, [], rfl, rfl, ?_, ?_, ?_, ?_⟩
    · show _ ∧ _; omega
    · show _ = _; simp [wlG]
    · exact TabI.made w _ _ (Nat.le_refl _)
    · exact (Below.refl _ _).alloc (Nat.le_refl _) _
  case round =>
    obtain ⟨wm, rfl⟩ : ∃ z : World, z = wr := ⟨_, rfl⟩
    obtain ⟨i, g2, c2, R', rfl, rfl, EI, ER, HT2, HB2⟩ := hrel
    obtain ⟨gm, hgm⟩ : ∃ z : Nat, z = gk := ⟨_, rfl⟩
    by_cases hli : i < R.length
    · obtain ⟨r, hr⟩ : ∃ r, R[i]? = some r := ⟨_, List.getElem?_eq_getElem hli⟩
      obtain ⟨gr, cr, c0, hsr, hgr⟩ := HR.out.slI hr
      have hrl : r.length ≤ 5 := HRW.out r (List.mem_of_getElem? hr)
      have l1 : (i : Int) < (R.length : Int) := by omega
      have l2 : (0 : Int) ≤ (i : Int) := by omega
      have wi1 : IntKind.i64.wrap ((i : Int) + 1) = ((i + 1 : Nat) : Int) := by rw [IntWalk.i64_in _ (by have := HRL.out; omega)]; omega
      have HC0 := Lib.hid c0; have HSR := Lib.hid hsr; have HRLN := Lib.hid hrl; have HLI : Hid (i < R.length) := hli
      have HGN : Hid (gn < w.heap.size) := (HR.out.block gn rfl).2
      have HFIN : Hid (wlG T (R.take (i + 1)) = R' ++ (List.range T).map fun (t : Nat) => r ++ [(t : Int)]) := by show _ = _; rw [wlG_succ hr, ER.out]
      have HR'L : Hid (R'.length ≤ 1000000) := by
        show _ ≤ _; rw [ER.out, wlG_len]
        have h1 : (R.take i).length ≤ 4096 := by rw [List.length_take]; have := HRL.out; omega
        have := Nat.mul_le_mul h1 HT4.out; omega
      clear hr hsr hrl hli hgr c0
      go_wp2_with fail
      go_loopg [5, 7] T (fun q tl ti wr => ∃ (j g3 c3 : Nat) (R3 : List (List Int)), tl = .slice (some ⟨g3, 0, none⟩) R3.length c3 ∧ ti = .int .i64 (j : Int) ∧ Hid (j ≤ T ∧ T ≤ q + j) ∧ Hid (R3 = R' ++ (List.range j).map fun (t : Nat) => r ++ [(t : Int)]) ∧ Hid (TabI wr w.heap.size 26 (.slice (some ⟨g3, 0, none⟩) R3.length c3) R3) ∧ Hid (Below w.heap.size w wr))
      case atStart =>
        refine ⟨0, g2, c2, R', rfl, rfl, ?_, ?_, HT2.out, HB2.out⟩
        · show _ ∧ _; omega
        · show _ = _; simp
      case round =>
        obtain ⟨wi, rfl⟩ : ∃ z : World, z = wr := ⟨_, rfl⟩
        obtain ⟨j, g3, c3, R3, rfl, rfl, EJ, ER3, HT3, HB3⟩ := hrel
        by_cases hlj : j < T
        · have lj : (j : Int) < (T : Int) := by omega
          have wj1 : IntKind.i64.wrap ((j : Int) + 1) = ((j + 1 : Nat) : Int) := by rw [IntWalk.i64_in _ (by have := HT4.out; omega)]; omega
          have ba : Below wi.heap.size wi (wi.alloc (.cells #[] 2)) := (Below.refl _ _).alloc (Nat.le_refl _) _
          have HBA := Lib.hid ba
          have HR0 := Lib.hid (RowI.made wi wi.heap.size 2 (Nat.le_refl _))
          have HS0 := Lib.hid (HSR.out.below (HB3.out.trans (ba.mono HB3.out.size)) (Nat.le_refl _))
          have c0 : (wi.alloc (.cells #[] 2)).cell? ⟨gn, i, none⟩ = some (.slice (some ⟨gr, 0, none⟩) r.length cr) := ((HB3.out.trans (ba.mono HB3.out.size)).cell (p := ⟨gn, i, none⟩) HGN.out).trans HC0.out
          have PW0 : Hid (([] : List Int).length + r.length ≤ 4294967296) := by show _ ≤ _; have := HRLN.out; simp; omega
          have PWD : Hid (([] ++ r).length + 1 ≤ 4294967296) := by show _ ≤ _; have := HRLN.out; simp; omega
          have HR3 : Hid (R3.length + 1 ≤ 4294967296) := by
            show _ ≤ _; rw [ER3.out]; simp; have := HR'L.out; have := HT4.out; omega
          have HLJ : Hid (j < T) := hlj
          have HG3 : Hid (g3 < wi.heap.size) := (HT3.out.block g3 rfl).2
          have hlo : w.heap.size ≤ wi.heap.size := HB3.out.size
          have HX6 : ∀ {w6 : World} {g6 c6 : Nat}, Hid (RowI w6 wi.heap.size 2 (.slice (some ⟨g6, 0, none⟩) (r.length + 1) c6) (r ++ [(j : Int)])) → ∀ (k : Nat) (x : Int), (r ++ [(j : Int)])[k]? = some x → w6.cell? ⟨g6, k, none⟩ = some (.int .i64 x) := fun h k x hx => by
            have h1 := RowI.sl (n := r.length + 1) h.out (by simp)
            have h2 := SlV.cells h1 k (.int .i64 x) (by unfold iv; rw [List.getElem?_map, hx]; rfl)
            rw [Nat.zero_add] at h2; exact h2
          clear hlj ba
          go_wp2_with (first
            | (at_builtin; refine wpList_ints_push rfl (.tmp 21) (.tmp 25) _ rfl wi.heap.size 2 Try.underlying26 infoW6 _ [] rfl HR0.out gr 0 r.length cr w.heap.size r rfl HS0.out PW0.out (by simp) ?_; intro v1 w5 hown1 hbl1; have hsz1 : wi.heap.size ≤ w5.heap.size := Nat.le_trans HBA.out.size hbl1.size; obtain ⟨A1, k1, hv1, -, -⟩ := own_form hown1; subst hv1; have HO1 := Lib.hid hown1; have HB1 := Lib.hid (HBA.out.trans hbl1); clear hown1 hbl1 c0)
            | (at_builtin; refine wpList_int_push w5 rfl (.tmp 26) (.tmp 28) _ rfl wi.heap.size 2 Try.underlying26 infoW6 (.slice A1 ([] ++ r).length k1) ([] ++ r) rfl HO1.out (j : Int) rfl PWD.out hsz1 ?_; intro g6 c6 w6 hown hbl hat hgr; have HR6 : Hid (RowI w6 wi.heap.size 2 (.slice (some ⟨g6, 0, none⟩) (r.length + 1) c6) (r ++ [(j : Int)])) := hown; have HB6 := Lib.hid (HB1.out.trans hbl); have h6 : wi.heap.size ≤ g6 ∧ g6 < w6.heap.size := World.ownsRow.lt hown g6 rfl; have HC6 : Hid (r.length + 1 ≤ c6) := by { show _ ≤ _; obtain ⟨A9, c9, e9, h9, -⟩ := own_form HR6.out; injection e9 with _ _ e9; simp at h9; omega }; clear hown hbl hat hgr)
            | (at_builtin; refine wpList_tab_push w6 rfl (.tmp 20) (.tmp 30) _ rfl w.heap.size 26 Try.underlying35 infoWo (.slice (some ⟨g3, 0, none⟩) R3.length c3) R3 rfl (HT3.out.keep HB6.out (Nat.le_refl _)) g6 c6 (r.length + 1) (r ++ [(j : Int)]) (by simp) rfl (by omega) h6.2 (by have := HG3.out; simp [Value.ownBlock]; omega) HC6.out (HX6 HR6) HR3.out (by have := HB6.out.size; omega) ?_; intro g7 c7 w7 htab hgr hbl hat; have HT7 := Lib.hid htab; have HB7 := Lib.hid hbl; clear htab hgr hbl hat))
          go_roundg (gk - 1)
          case measure => have := EJ.out; have := HLJ.out; omega
          case rel =>
            have hb7 : Below w.heap.size wi w7 := (HB6.out.mono hlo).trans HB7.out
            refine ⟨j + 1, g7, c7, R3 ++ [r ++ [(j : Int)]], by simp, by go_num, ?_, ?_, ?_, HB3.out.trans hb7⟩
            · show _ ∧ _; have := EJ.out; have := HLJ.out; omega
            · show _ = _; rw [ER3.out, List.range_succ, List.map_append, List.append_assoc]; rfl
            · show TabI _ _ _ _ _
              rw [List.length_append]; exact HT7.out
        · have hjT : j = T := by have := EJ.out; omega
          have lj : ¬ (j : Int) < (T : Int) := by omega
          clear hlj
          go_wp2_with fail
          go_roundg (gm - 1)
          case measure => have := EI.out; have := HLI.out; omega
          case rel =>
            refine ⟨i + 1, g3, c3, R3, rfl, by go_num, ?_, ?_, HT3.out, HB3.out⟩
            · show _ ∧ _; have := EI.out; have := HLI.out; omega
            · show _ = _; rw [HFIN.out, ER3.out, hjT]
    · have hiR : i = R.length := by have := EI.out; omega
      have l1 : ¬ (i : Int) < (R.length : Int) := by omega
      have HRR : Hid (R' = wlG T R) := by show _ = _; rw [ER.out, hiR, List.take_length]
      clear hli hiR
      go_wp2_with fail
      go_ret
      have h := HT2.out
      have e := HRR.out
      rw [e] at h
      exact ⟨g2, c2, by rw [← e]; rfl, h, HB2.out⟩
end Go.Proofs.Ytedbngnkkfpbeaa


namespace Go.Proofs.Ytedbngnkkfpbeaa
open Go.RowKit
set_option linter.unusedVariables false
set_option maxHeartbeats 4000000 in
theorem sSumQ_any (A : Option Addr) (n c : Nat) (a : List Int) (A' : Option Addr) (c' : Nat) (b : List Int) (w : World) (h : SlI w w.heap.size A n a) (h' : SlI w w.heap.size A' n b) (ha : Bd 1000000000 a) (hb : Bd 1000000000 b) (hn : n ≤ 1000000) :
    Calls Try.prog 73 #[.slice A n c, .slice A' n c'] w fun e w' => e = .returned (.int .i64 (lsm 1000000000 a b a.length)) ∧ ∃ d, w' = w.drewN d := by
  have hla := h.len
  have hbd := lsm_bd (by omega) ha hb
  have H := Lib.hid h; have H' := Lib.hid h'; have HLA := Lib.hid hla
  have HBD := Lib.hid hbd
  clear h h' hla hbd
  go_enter Try.func73, Try.ntmps73
  go_wp2_with fail
  go_loopg [5, 6] n (fun m s i wr => ∃ k : Nat, i = .int .i64 k ∧ k ≤ n ∧ n ≤ m + k ∧ s = .int .i64 (lsm 1000000000 a b k) ∧ Hid (∃ d, wr = w.drewN d))
  case atStart => exact ⟨0, rfl, by omega, by omega, rfl, ⟨0, rfl⟩⟩
  case round =>
    obtain ⟨k, rfl, hk, hm, rfl, HD⟩ := hrel
    obtain ⟨wo, rfl⟩ : ∃ x : World, x = wr := ⟨_, rfl⟩
    have HB : Hid (Below w.heap.size w wo) := by obtain ⟨d, hd⟩ := HD.out; show Below _ _ _; rw [hd]; exact below_draws (Below.refl _ _) d
    have hs := HBD.out k
    by_cases hlt : k < n
    · have q1 : (k : Int) < (n : Int) := by omega
      obtain ⟨b1, off1, x, rfl, _, hx, cx⟩ := (H.out.below HB.out (Nat.le_refl _)).at_ hlt
      obtain ⟨b2, off2, y, rfl, _, hy, cy⟩ := (H'.out.below HB.out (Nat.le_refl _)).at_ hlt
      obtain ⟨bx0, bx1⟩ := ha.get hx.out; obtain ⟨by0, by1⟩ := hb.get hy.out
      obtain ⟨s, hs0⟩ : ∃ s, s = lsm 1000000000 a b k := ⟨_, rfl⟩
      rw [← hs0] at hs ⊢
      obtain ⟨s0, s1⟩ := hs
      have HST : Hid (lsm 1000000000 a b (k + 1) = min s (x + y)) := by
        show _ = _
        rw [lsm_succ, ← hs0, g0_get hx.out, g0_get hy.out]
      have e1 : IntKind.i64.wrap (x + y) = x + y := IntWalk.i64_in _ (by omega)
      have hMC := sMinC s (x + y)
      clear hs0 hx hy
      go_wp2_with fail
      go_quiet ((go_at_call 69; first | exact quietL (hMC _) | (rw [e1]; exact quietL (hMC _))))
      go_wp2_with fail
      go_roundg (gk - 1)
      case measure => omega
      case rel => exact ⟨k + 1, by go_num, by omega, by omega, by rw [HST.out], by obtain ⟨d, hd⟩ := HD.out; rw [hd]; exact ⟨_, World.drewN_drewN _ _ _⟩⟩
    · have hkk : k = n := by omega
      have HK := Lib.hid hkk
      have q1 : (n : Int) ≤ (k : Int) := by omega
      clear hkk hlt
      go_wp2_with fail
      go_ret
      exact ⟨ret_int (by rw [HLA.out, HK.out]), HD.out⟩
/-- What holds in every world that has turned nothing but block go. -/
def St (w : World) (go : Nat) (Q : World → Prop) : Prop := ∀ x : World, w.heap.size ≤ x.heap.size → (∀ k, k < w.heap.size → k ≠ go → x.heap[k]? = w.heap[k]?) → Q x
theorem St.below {w w' : World} {go : Nat} {Q : World → Prop} {B : Nat} (h : St w go Q) (hb : Below B w w') (hB : w.heap.size ≤ B) : St w' go Q := fun x hs hk =>
  h x (Nat.le_trans hb.size hs) (fun k hk1 hk2 => (hk k (Nat.lt_of_lt_of_le hk1 hb.size) hk2).trans (hb.block k (by omega)))
theorem St.grown {w w' : World} {go go' : Nat} {Q : World → Prop} (h : St w go Q) (hg : w.grownBy w' (some go)) (ha : some go = some go' ∨ w.heap.size ≤ go') : St w' go' Q := fun x hs hk =>
  h x (Nat.le_trans hg.size hs) (fun k hk1 hk2 => (hk k (Nat.lt_of_lt_of_le hk1 hg.size) (fun e => by
    rcases ha with ha | ha
    · injection ha with ha; omega
    · omega)).trans (hg.block k hk1 (fun e => hk2 (by injection e))))
theorem St.now {w : World} {go : Nat} {Q : World → Prop} (h : St w go Q) : Q w := h w (Nat.le_refl _) (fun _ _ _ => rfl)
theorem TabI.st {w : World} {base gt n ct go : Nat} {R : List (List Int)} (h : TabI w base 26 (.slice (some ⟨gt, 0, none⟩) n ct) R) (hn : R.length = n) (hr : ∀ r ∈ R, r.length = n) (hg : go < base) : St w go (fun x => TabR x gt n R) := fun x hs hk => by
  refine ⟨hn, hr, fun j r hj => ?_⟩
  obtain ⟨gt', ct', g, c, e, _, b1, h1, h2, _, b2, h3, _, h4⟩ := h.at_ hj
  injection e with e1 e2 e3
  clear e2 e3
  injection e1 with e1
  injection e1 with e1 _ _
  subst e1
  rw [hr r (List.mem_of_getElem? hj)] at h2
  exact ⟨g, c, (World.cell?_of_block (a := ⟨gt, j, none⟩) (hk gt h1 (by omega))).trans h2, Nat.lt_of_lt_of_le h1 hs, Nat.lt_of_lt_of_le h3 hs, fun k x hx => (World.cell?_of_block (a := ⟨g, k, none⟩) (hk g h3 (by omega))).trans (h4 k x hx)⟩
/-- A list of tables, while it is built; while it is read. -/
def AlB (w : World) (base go k co n : Nat) (Rs : List (List (List Int))) : Prop :=
  ∃ vs : List Value, w.ownsRow base 35 1 (.slice (some ⟨go, 0, none⟩) k co) k vs ∧ ∀ (j : Nat) (R : List (List Int)), Rs[j]? = some R → ∃ (g c : Nat), vs[j]? = some (.slice (some ⟨g, 0, none⟩) n c) ∧ St w go (fun x => TabR x g n R)
def Al3 (w : World) (gA n : Nat) (Rs : List (List (List Int))) : Prop :=
  ∀ (j : Nat) (R : List (List Int)), Rs[j]? = some R → ∃ (g c : Nat), w.cell? ⟨gA, j, none⟩ = some (.slice (some ⟨g, 0, none⟩) n c) ∧ gA < w.heap.size ∧ TabR w g n R
theorem Al3.below {w w' : World} {gA n B : Nat} {Rs : List (List (List Int))} (h : Al3 w gA n Rs) (hb : Below B w w') (hB : w.heap.size ≤ B) : Al3 w' gA n Rs := fun j R hj => by
  obtain ⟨g, c, e1, e2, e3⟩ := h j R hj
  exact ⟨g, c, (hb.cell (p := ⟨gA, j, none⟩) (show gA < B by omega)).trans e1, Nat.lt_of_lt_of_le e2 hb.size, e3.below hb hB⟩
theorem AlB.below {w w' : World} {base go k co n B : Nat} {Rs : List (List (List Int))} (h : AlB w base go k co n Rs) (hb : Below B w w') (hB : w.heap.size ≤ B) : AlB w' base go k co n Rs := by
  obtain ⟨vs, h1, h2⟩ := h
  refine ⟨vs, own_move h1 (fun g hg => hb.block g (by have := (h1.lt g hg).2; omega)), fun j R hj => ?_⟩
  obtain ⟨g, c, e1, e2⟩ := h2 j R hj
  exact ⟨g, c, e1, e2.below hb hB⟩
theorem AlB.go {w : World} {base go k co n : Nat} {Rs : List (List (List Int))} (h : AlB w base go k co n Rs) : base ≤ go ∧ go < w.heap.size := by
  obtain ⟨vs, h1, _⟩ := h; exact h1.lt go rfl
theorem AlB.al3 {w : World} {base go k co n : Nat} {Rs : List (List (List Int))} (h : AlB w base go k co n Rs) : Al3 w go n Rs := fun j R hj => by
  obtain ⟨vs, h1, h2⟩ := h
  obtain ⟨g, c, e1, e2⟩ := h2 j R hj
  exact ⟨g, c, (own_cellN h1 e1).1, (h1.lt go rfl).2, e2.now⟩
theorem AlB.push {w w' : World} {base go k n g' cap gt c : Nat} {Rs : List (List (List Int))} {R : List (List Int)} {vs : List Value} (h2 : ∀ (j : Nat) (R : List (List Int)), Rs[j]? = some R → ∃ (g c : Nat), vs[j]? = some (.slice (some ⟨g, 0, none⟩) n c) ∧ St w go (fun x => TabR x g n R)) (hl : vs.length = k) (hR : Rs.length = k)
    (ho : w'.ownsRow base 35 1 (.slice (some ⟨g', 0, none⟩) (k + 1) cap) (k + 1) (vs ++ [.slice (some ⟨gt, 0, none⟩) n c])) (hg : w.grownBy w' (some go)) (ha : some go = some g' ∨ w.heap.size ≤ g') (hS : St w go (fun x => TabR x gt n R)) : AlB w' base g' (k + 1) cap n (Rs ++ [R]) := by
  refine ⟨_, ho, fun j R' hj => ?_⟩
  by_cases hlt : j < k
  · rw [List.getElem?_append_left (by omega)] at hj
    obtain ⟨g, c, e1, e2⟩ := h2 j R' hj
    exact ⟨g, c, by rw [List.getElem?_append_left (by omega)]; exact e1, e2.grown hg ha⟩
  · rw [List.getElem?_append_right (by omega)] at hj
    have hj0 : j - Rs.length = 0 := by
      rcases Nat.eq_zero_or_pos (j - Rs.length) with h | h
      · exact h
      · rw [List.getElem?_eq_none (by simp; omega)] at hj; cases hj
    rw [hj0] at hj
    obtain rfl : R = R' := by simpa using hj
    exact ⟨gt, c, by rw [List.getElem?_append_right (by omega), hl, show j - k = 0 by omega]; rfl, hS.grown hg ha⟩
theorem info3I : (Try.prog.info? 35).map (fun i => (i.zero, i.size, i.bytes)) = some (some (.slice none 0 0), 1, 24) := by kernel_rfl
/-- The steps of all letters. -/
def alV (L : List A4) (C : List (List Int)) (k : Nat) : List (List (List Int)) := (List.range k).map fun (l : Nat) => spV 1000000000 L (l : Int) C
theorem alV_len (L : List A4) (C : List (List Int)) (k : Nat) : (alV L C k).length = k := by simp [alV]
theorem alV_succ (L : List A4) (C : List (List Int)) (k : Nat) : alV L C (k + 1) = alV L C k ++ [spV 1000000000 L (k : Int) C] := by unfold alV; rw [List.range_succ, List.map_append]; rfl
theorem alV_at {L : List A4} {C : List (List Int)} {k j : Nat} (h : j < k) : (alV L C k)[j]? = some (spV 1000000000 L (j : Int) C) := by simp [alV, h]
set_option maxRecDepth 100000 in
set_option maxHeartbeats 4000000 in
theorem sAll_any (gm : Nat) (S T : Int) (L : List A4) (P E : List Int) (gt n ct t : Nat) (C : List (List Int)) (w : World) (h : Mp w gm S T L P E) (hC : TabR w gt n C) (hS : S = (n : Int)) (hT : T = (t : Int)) (ht : t ≤ 4) (hL : okM n L) (hCb : BdR 1000000000 C) (hn : n ≤ 1000000) (hLn : L.length ≤ 1000000) :
    Calls Try.prog 49 #[.pointer (some ⟨gm, 0, none⟩), .slice (some ⟨gt, 0, none⟩) n ct] w fun e w' => ∃ gA cA, e = .returned (.slice (some ⟨gA, 0, none⟩) t cA) ∧ Al3 w' gA n (alV L C t) ∧ Below w.heap.size w w' := by
  have HM := Lib.hid h; have HC := Lib.hid hC
  have HSh : Hid (Shp n C) := ⟨hC.1, hC.2.1⟩
  subst hT
  clear h hC
  go_enter Try.func49, Try.ntmps49
  go_wp2_with fail
  go_loopg [5, 6] t (fun q o i wr => ∃ (k go co : Nat), i = .int .i64 k ∧ k ≤ t ∧ t ≤ q + k ∧ o = .slice (some ⟨go, 0, none⟩) k co ∧ Hid (AlB wr w.heap.size go k co n (alV L C k)) ∧ Hid (Below w.heap.size w wr))
  case atStart => exact ⟨0, w.heap.size, 0, rfl, by omega, by omega, rfl, ⟨[], World.ownsRow_made w #[] 0 (Nat.le_refl _) (by unfold maxLen; omega) rfl, fun j R h => by simp [alV] at h⟩, (Below.refl _ _).alloc (Nat.le_refl _) _⟩
  case round =>
    obtain ⟨k, go, co, rfl, hk, hm, rfl, HO, HB⟩ := hrel
    obtain ⟨wo, rfl⟩ : ∃ x : World, x = wr := ⟨_, rfl⟩
    obtain ⟨A2, c2, A3, c3, A4', c4, hr, _, _, _⟩ := HM.out.below HB.out (Nat.le_refl _)
    have r1 := hr.cell 1
    clear hr
    by_cases hlt : k < t
    · have q1 : (k : Int) < (t : Int) := by omega
      have hSt := sSteps_any gm S (t : Int) L P E gt n ct C (k : Int) wo (HM.out.below HB.out (Nat.le_refl _)) (HC.out.below HB.out (Nat.le_refl _)) hS hL hCb hn hLn
      go_wp2_with fail
      clear r1
      refine hSt.mono ?_
      rintro e w1 ⟨g1, c1, rfl, hT1, hb1⟩
      clear hSt
      have HST := Lib.hid (hT1.st (go := go) (by rw [spV_len]; exact HSh.out.1) (spV_rows HSh.out.2) HO.out.go.2)
      have hO1 := HO.out.below hb1 (Nat.le_refl _)
      have hB1 : Below w.heap.size w w1 := HB.out.trans (hb1.mono HB.out.size)
      obtain ⟨vs, hown, hvs⟩ := hO1
      have HOW := Lib.hid hown; have HVS := Lib.hid hvs
      have hvl : vs.length = k := by have := hown.1; omega
      have HVL := Lib.hid hvl
      have HB1 := Lib.hid hB1
      have hbs : w.heap.size ≤ w1.heap.size := hB1.size
      have hgo : Hid (w.heap.size ≤ go) := HO.out.go.1
      clear hT1 hb1 hown hvs hvl hB1
      go_wp2_with (first | (at_builtin; refine wpList_push w1 rfl (.tmp 16) (.tmp 21) _ rfl w.heap.size 35 (.slice none 0 0) 24 Try.underlying76 info3I rfl (.slice (some ⟨go, 0, none⟩) k co) k vs rfl HOW.out (.slice (some ⟨g1, 0, none⟩) n c1) rfl rfl (by omega) (Nat.le_refl _) hbs ?_; intro g' cap w' hown' hgr hat hlt' hcap; have HO2 := Lib.hid hown'; have HGR := Lib.hid hgr; have HAT := Lib.hid hat; clear hown' hgr hat hlt' hcap))
      go_roundg (gk - 1)
      case measure => omega
      case rel =>
        refine ⟨k + 1, g', cap, by go_num, by omega, by omega, rfl, ?_, HB1.out.trans (grown_low HGR.out (fun q hq => by simp [Value.ownBlock] at hq; have := hgo.out; omega) hbs)⟩
        show AlB _ _ _ _ _ _ _
        rw [alV_succ]
        exact AlB.push HVS.out HVL.out (alV_len _ _ _) HO2.out HGR.out HAT.out HST.out
    · have hkk : k = t := by omega
      subst hkk
      have q1 : (k : Int) ≤ (k : Int) := Int.le_refl _
      go_wp2_with fail
      go_ret
      exact ⟨go, co, rfl, HO.out.al3, HB.out⟩
end Go.Proofs.Ytedbngnkkfpbeaa
