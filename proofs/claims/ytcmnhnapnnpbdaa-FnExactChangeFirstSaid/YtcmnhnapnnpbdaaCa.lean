/- ChangeAll of both programs. -/
import Derived.Test.YtcmnhnapnnpbdaaPlC
import Derived.Test.YtcmnhnapnnpbdaaRowS
namespace Go.Proofs.Ytcmnhnapnnpbdaa
open Go.RowKit
set_option linter.unusedVariables false
def caF (L F G R ws : List Int) : Nat → Nat → List Int → List Int
  | 0, _, out => out
  | f + 1, p, out => if p < ws.length then (if fitB L F R ws (p : Int) = true then caF L F G R ws f (p + F.length) (out ++ G) else caF L F G R ws f (p + 1) (out ++ [ws.getD p 0])) else out
theorem caF_end {L F G R ws : List Int} {f p : Nat} {out : List Int} (h : ws.length ≤ p) : caF L F G R ws f p out = out := by
  cases f with
  | zero => rfl
  | succ f => rw [caF, if_neg (by omega)]
theorem caF_fuel {L F G R ws : List Int} (hF : 1 ≤ F.length) : ∀ (f f' p : Nat) (out : List Int), ws.length - p ≤ f → ws.length - p ≤ f' → caF L F G R ws f p out = caF L F G R ws f' p out := by
  intro f
  induction f with
  | zero => intro f' p out h _; rw [caF_end (by omega), caF_end (by omega)]
  | succ f ih =>
    intro f' p out h h'
    by_cases hp : p < ws.length
    · cases f' with
      | zero => omega
      | succ f' =>
        rw [caF, caF, if_pos hp, if_pos hp]
        split
        · exact ih f' _ _ (by omega) (by omega)
        · exact ih f' _ _ (by omega) (by omega)
    · rw [caF_end (by omega), caF_end (by omega)]
def caL (L F G R ws : List Int) : List Int := caF L F G R ws ws.length 0 []
def caB (L F G R ws : List Int) (l : Int) : Bool := (vcB L F G R l && longB ws l) && decide ((caL L F G R ws).length ≤ 24)
theorem caL_len {L F G R ws : List Int} {l : Int} (h : caB L F G R ws l = true) : (caL L F G R ws).length ≤ 1048576 := by
  unfold caB at h
  rw [Bool.and_eq_true] at h
  have := of_decide_eq_true h.2
  omega
theorem caF_fit {L F G R ws T : List Int} (hF : 1 ≤ F.length) {p n : Nat} {out : List Int} (hl : ws.length = n) (hp : p < n) (h : caF L F G R ws (n - p) p out = T) (hf : fitB L F R ws (p : Int) = true) : caF L F G R ws (n - (p + F.length)) (p + F.length) (out ++ G) = T := by
  subst hl
  rw [← h]
  obtain ⟨f, hf2⟩ : ∃ f, ws.length - p = f + 1 := ⟨ws.length - p - 1, by omega⟩
  rw [hf2, caF, if_pos hp, if_pos hf]
  exact caF_fuel hF _ _ _ _ (Nat.le_refl _) (by omega)
theorem caF_not {L F G R ws T : List Int} (hF : 1 ≤ F.length) {p n : Nat} {x : Int} {out : List Int} (hl : ws.length = n) (hp : p < n) (hx : ws[p]? = some x) (h : caF L F G R ws (n - p) p out = T) (hf : fitB L F R ws (p : Int) = false) : caF L F G R ws (n - (p + 1)) (p + 1) (out ++ [x]) = T := by
  subst hl
  rw [← h]
  obtain ⟨f, hf2⟩ : ∃ f, ws.length - p = f + 1 := ⟨ws.length - p - 1, by omega⟩
  have hg : ws.getD p 0 = x := by rw [List.getD_eq_getElem?_getD, hx]; rfl
  rw [hf2, caF, if_pos hp, if_neg (by rw [hf]; simp), hg, show ws.length - (p + 1) = f by omega]
theorem fit_room {L F R ws : List Int} {p : Nat} (h : fitB L F R ws (p : Int) = true) : p + F.length ≤ ws.length := by
  unfold fitB at h
  rw [Bool.and_eq_true, Bool.and_eq_true] at h
  have h2 := h.2.1
  unfold thB at h2
  rw [Bool.and_eq_true, Bool.and_eq_true] at h2
  have := of_decide_eq_true h2.2.1
  omega
/-- A Change whose lists all have an address. -/
def CgS (w : World) (B : Nat) (v : Value) (L F G R : List Int) : Prop :=
  ∃ b0 o0 n0 c0 b1 o1 n1 c1 b2 o2 n2 c2 b3 o3 n3 c3, v = .agg #[.slice (some ⟨b0, o0, none⟩) n0 c0, .slice (some ⟨b1, o1, none⟩) n1 c1, .slice (some ⟨b2, o2, none⟩) n2 c2, .slice (some ⟨b3, o3, none⟩) n3 c3] ∧
    SlI w B (some ⟨b0, o0, none⟩) n0 L ∧ SlI w B (some ⟨b1, o1, none⟩) n1 F ∧ SlI w B (some ⟨b2, o2, none⟩) n2 G ∧ SlI w B (some ⟨b3, o3, none⟩) n3 R
theorem CgS.cg {w : World} {B : Nat} {v : Value} {L F G R : List Int} (h : CgS w B v L F G R) : Cg w B v L F G R := by
  obtain ⟨b0, o0, n0, c0, b1, o1, n1, c1, b2, o2, n2, c2, b3, o3, n3, c3, e, h0, h1, h2, h3⟩ := h
  exact ⟨_, _, _, _, _, _, _, _, _, _, _, _, e, h0, h1, h2, h3⟩
theorem CgS.below {w w' : World} {B B' : Nat} {v : Value} {L F G R : List Int} (h : CgS w B v L F G R) (hb : Below B' w w') (hB : B ≤ B') : CgS w' B v L F G R := by
  obtain ⟨b0, o0, n0, c0, b1, o1, n1, c1, b2, o2, n2, c2, b3, o3, n3, c3, e, h0, h1, h2, h3⟩ := h
  exact ⟨b0, o0, n0, c0, b1, o1, n1, c1, b2, o2, n2, c2, b3, o3, n3, c3, e, h0.below hb hB, h1.below hb hB, h2.below hb hB, h3.below hb hB⟩
theorem CgS.more {w : World} {B B' : Nat} {v : Value} {L F G R : List Int} (h : CgS w B v L F G R) (hB : B ≤ B') : CgS w B' v L F G R := by
  obtain ⟨b0, o0, n0, c0, b1, o1, n1, c1, b2, o2, n2, c2, b3, o3, n3, c3, e, h0, h1, h2, h3⟩ := h
  exact ⟨b0, o0, n0, c0, b1, o1, n1, c1, b2, o2, n2, c2, b3, o3, n3, c3, e, h0.more hB, h1.more hB, h2.more hB, h3.more hB⟩
theorem CgR.cgs {w : World} {base : Nat} {v : Value} {L F G R : List Int} (h : CgR w base v L F G R) : CgS w w.heap.size v L F G R := by
  obtain ⟨g0, g1, g2, g3, e, _, _, _, _, h0, h1, h2, h3⟩ := h
  exact ⟨_, _, _, _, _, _, _, _, _, _, _, _, _, _, _, _, e, h0.slI, h1.slI, h2.slI, h3.slI⟩
theorem iLong_yes (A : Option Addr) (n c : Nat) (w : World) (h : n ≤ 24) : Calls Try.prog 65 #[.slice A n c] w fun e w' => e = .returned (.tuple #[.slice A n c, .bool true]) ∧ w = w' := by
  go_enter Try.func65, Try.ntmps65
  go_wp2_with fail
  go_ret2
  exact ⟨rfl, rfl⟩
theorem iLong_no (A : Option Addr) (n c : Nat) (w : World) (h : 24 < n) : Calls Try.prog 65 #[.slice A n c] w fun e w' => e = .returned (.tuple #[.slice none 0 0, .bool false]) ∧ w = w' := by
  go_enter Try.func65, Try.ntmps65
  go_wp2_with fail
  go_ret2
  exact ⟨rfl, rfl⟩
theorem SlI.get {w : World} {B b off n k : Nat} {xs : List Int} {x : Int} (h : SlI w B (some ⟨b, off, none⟩) n xs) (hk : k < n) (hx : xs[k]? = some x) : w.cell? ⟨b, off + k, none⟩ = some (.int .i64 x) := by
  obtain ⟨b', off', x', e, _, hx', hc⟩ := h.at_ hk
  have e2 := Option.some.inj e
  injection e2 with e3 e4 _
  subst e3 e4
  rw [hx'.out] at hx
  rw [← Option.some.inj hx]; exact hc
set_option maxHeartbeats 4000000 in
theorem iAllM_any (v : Value) (b off n c : Nat) (L F G R ws : List Int) (w : World) (h : CgS w w.heap.size v L F G R) (hw : SlI w w.heap.size (some ⟨b, off, none⟩) n ws) (hL : L.length ≤ 4) (hF1 : 1 ≤ F.length) (hF : F.length ≤ 4) (hG : G.length ≤ 4) (hR : R.length ≤ 4) (hn : n ≤ 24) (hnc : n ≤ c) :
    Calls Try.prog 62 #[v, .slice (some ⟨b, off, none⟩) n c] w fun e w' => ∃ v, e = .returned (.tuple #[v, .bool (decide ((caL L F G R ws).length ≤ 24))]) ∧ FOut w' w.heap.size v (decide ((caL L F G R ws).length ≤ 24)) (caL L F G R ws) ∧ Below w.heap.size w w' := by
  have HC := Lib.hid h
  obtain ⟨b0, o0, n0, c0, b1, o1, n1, c1, b2, o2, n2, c2, b3, o3, n3, c3, rfl, h0, h1, h2, h3⟩ := h
  have e1 := h1.len; have e2 := h2.len
  have HG := Lib.hid h2
  have hb0 : Below w.heap.size w (w.alloc (.cells ([.slice (some ⟨b0, o0, none⟩) n0 c0, .slice (some ⟨b1, o1, none⟩) n1 c1, .slice (some ⟨b2, o2, none⟩) n2 c2, .slice (some ⟨b3, o3, none⟩) n3 c3] : List Value).toArray 27)) := (Below.refl _ _).alloc (Nat.le_refl _) _
  have rb := Row.new w 27 [.slice (some ⟨b0, o0, none⟩) n0 c0, .slice (some ⟨b1, o1, none⟩) n1 c1, .slice (some ⟨b2, o2, none⟩) n2 c2, .slice (some ⟨b3, o3, none⟩) n3 c3]
  clear h0 h1 h2 h3
  have E1 := Lib.hid e1; have E2 := Lib.hid e2
  have hn1 : 1 ≤ n1 ∧ n1 ≤ 4 := by rw [← e1]; exact ⟨hF1, hF⟩
  have hn2 : n2 ≤ 4 := by rw [← e2]; exact hG
  have hl := Lib.hid hw.len
  obtain ⟨T, hT⟩ : ∃ T, T = caL L F G R ws := ⟨_, rfl⟩
  rw [← hT]
  have HT : Hid (caF L F G R ws n 0 [] = T) := by show _ = T; rw [hT, caL, hl.out]
  have HF1 := Lib.hid hF1
  clear hT e1 e2 hF1
  have HW := Lib.hid hw; clear hw
  have HB0 := Lib.hid hb0; have RB := Lib.hid rb; clear hb0 rb
  go_enter Try.func62, Try.ntmps62
  go_wp2_with fail
  obtain ⟨wb, hwb⟩ : ∃ x, x = w.alloc (.cells ([.slice (some ⟨b0, o0, none⟩) n0 c0, .slice (some ⟨b1, o1, none⟩) n1 c1, .slice (some ⟨b2, o2, none⟩) n2 c2, .slice (some ⟨b3, o3, none⟩) n3 c3] : List Value).toArray 27) := ⟨_, rfl⟩
  rw [← hwb] at HB0 RB
  have hR00 := RowI.made (w.alloc (.cells ([.slice (some ⟨b0, o0, none⟩) n0 c0, .slice (some ⟨b1, o1, none⟩) n1 c1, .slice (some ⟨b2, o2, none⟩) n2 c2, .slice (some ⟨b3, o3, none⟩) n3 c3] : List Value).toArray 27)) (w.alloc (.cells ([.slice (some ⟨b0, o0, none⟩) n0 c0, .slice (some ⟨b1, o1, none⟩) n1 c1, .slice (some ⟨b2, o2, none⟩) n2 c2, .slice (some ⟨b3, o3, none⟩) n3 c3] : List Value).toArray 27)).heap.size 2 (Nat.le_refl _)
  rw [show (w.alloc (.cells ([.slice (some ⟨b0, o0, none⟩) n0 c0, .slice (some ⟨b1, o1, none⟩) n1 c1, .slice (some ⟨b2, o2, none⟩) n2 c2, .slice (some ⟨b3, o3, none⟩) n3 c3] : List Value).toArray 27)).heap.size = w.heap.size + 1 by simp] at hR00
  have hsz : wb.heap.size = w.heap.size + 1 := by rw [hwb]; simp
  change Code.wp _ _ _ _ ((w.alloc (.cells ([.slice (some ⟨b0, o0, none⟩) n0 c0, .slice (some ⟨b1, o1, none⟩) n1 c1, .slice (some ⟨b2, o2, none⟩) n2 c2, .slice (some ⟨b3, o3, none⟩) n3 c3] : List Value).toArray 27)).alloc (.cells #[] 2))
  rw [← hwb] at hR00 ⊢
  clear hwb
  go_loopg [6, 7] n (fun m o a wr => ∃ (p : Nat) (out : List Int), a = .int .i64 p ∧ p ≤ n ∧ n ≤ m + p ∧ out.length ≤ 4 * p ∧ Hid (caF L F G R ws (n - p) p out = T) ∧ RowI wr wb.heap.size 2 o out ∧ Below wb.heap.size wb wr)
  case atStart => exact ⟨0, [], rfl, by omega, by omega, by simp, HT, by rw [hsz]; exact hR00, (Below.refl _ _).alloc (Nat.le_refl _) _⟩
  case round =>
    obtain ⟨p, out, rfl, hp, hm, hol, hTT, hr, hb⟩ := hrel
    have HR := Lib.hid hr; clear hr
    have hs := hb.size
    by_cases hlt : p < n
    · have l1 : (0 : Int) ≤ (p : Int) := by omega
      have l2 : (p : Int) < (n : Int) := by omega
      have hx := HB0.out.trans (hb.mono HB0.out.size)
      have hFi := iFits_any _ b off n c L F G R ws p _ ((HC.out.cg.below hx (Nat.le_refl _)).more hx.size) ((HW.out.below hx (Nat.le_refl _)).more hx.size) hL hF hR hn hnc (by omega)
      have rr := Lib.hid (RB.out.below hb RB.out.lt)
      have k0 := rr.out.cell 0
      have k1 := rr.out.cell 1
      have k2 := rr.out.cell 2
      have k3 := rr.out.cell 3
      have HX := Lib.hid hx; clear hx
      cases hf : fitB L F R ws (p : Int) with
      | true =>
        have HN := Lib.hid (caF_fit HF1.out hl.out hlt hTT.out hf)
        have hroom := fit_room hf
        rw [E1.out, hl.out] at hroom
        rw [E1.out] at HN
        rw [hf] at hFi
        have v1 : IntKind.i64.wrap ((p : Int) + (n1 : Int)) = (p : Int) + (n1 : Int) := IntWalk.i64_in _ (by omega)
        go_wp2_with fail
        refine hFi.mono ?_; rintro e w2 ⟨rfl, hb2⟩; clear hFi
        have HR2 := Lib.hid (HR.out.keep hb2 (Nat.le_refl _))
        have hs2 : wb.heap.size ≤ w2.heap.size := Nat.le_trans hs hb2.size
        have HG2 := Lib.hid (HG.out.below (HX.out.trans (hb2.mono HX.out.size)) (Nat.le_refl _))
        have rr2 := rr.out.below hb2 rr.out.lt
        have j1 := rr2.cell 1
        have j2 := rr2.cell 2
        clear rr2
        go_wp2_with (first | (at_builtin; refine wpList_ints_push rfl (.tmp 17) (.tmp 19) _ rfl wb.heap.size 2 Try.underlying22 infoF _ out rfl HR2.out b2 o2 n2 c2 w.heap.size G rfl HG2.out (by omega) hs2 ?_; intro v' w' hown hbl; have j3 := hbl.cell (p := ⟨w.heap.size, 1, none⟩) (show w.heap.size < wb.heap.size by omega); rw [j1] at j3))
        go_roundg (gk - n1)
        case measure => omega
        case rel => exact ⟨p + n1, out ++ G, by go_num, by omega, by omega, by rw [List.length_append, E2.out]; omega, HN, hown, (hb.trans (hb2.mono hs)).trans hbl⟩
      | false =>
        obtain ⟨b9, o9, x, he, _, hx, hc⟩ := (HW.out.below HX.out (Nat.le_refl _)).at_ hlt
        have e9 := Option.some.inj he
        injection e9 with e9a e9b _
        subst e9a e9b
        have HN := Lib.hid (caF_not HF1.out hl.out hlt hx.out hTT.out hf)
        rw [hf] at hFi
        have v1 : IntKind.i64.wrap ((p : Int) + 1) = (p : Int) + 1 := IntWalk.i64_in _ (by omega)
        clear he
        go_wp2_with fail
        refine hFi.mono ?_; rintro e w2 ⟨rfl, hb2⟩; clear hFi
        have HR2 := Lib.hid (HR.out.keep hb2 (Nat.le_refl _))
        have hs2 : wb.heap.size ≤ w2.heap.size := Nat.le_trans hs hb2.size
        have hc2 := ((HW.out.below (HX.out.trans (hb2.mono HX.out.size)) (Nat.le_refl _)).get hlt hx.out)
        go_wp2_with (first | (at_builtin; refine wpList_int_push _ rfl (.tmp 26) (.tmp 31) _ rfl wb.heap.size 2 Try.underlying22 infoF _ out rfl HR2.out _ rfl (by omega) hs2 ?_; intro g' cap w' hown hbl hat hgr; clear hat hgr))
        go_roundg (gk - 1)
        case measure => omega
        case rel => exact ⟨p + 1, out ++ [x], by go_num, by omega, by omega, by rw [List.length_append]; simp; omega, HN, hown, (hb.trans (hb2.mono hs)).trans hbl⟩
    · obtain rfl : n = p := by omega
      have HE : Hid (out = T) := by show _ = T; rw [← hTT.out, caF_end (by rw [hl.out]; exact Nat.le_refl _)]
      obtain ⟨A9, c9, hv9, _, _⟩ := own_form HR.out
      subst hv9
      obtain ⟨N, hN⟩ : ∃ N, N = out.length := ⟨_, rfl⟩
      rw [← hN]
      have HNN := Lib.hid hN; clear hN
      have hRR := HR.out
      rw [← HNN.out] at hRR
      have HRR := Lib.hid hRR; clear hRR
      by_cases h24 : N ≤ 24
      · have hd : decide (T.length ≤ 24) = true := decide_eq_true (by rw [← HE.out, ← HNN.out]; exact h24)
        have HD := Lib.hid hd; clear hd
        go_wp2_with fail
        refine (iLong_yes A9 N c9 _ h24).mono ?_; rintro e w' ⟨rfl, hw⟩; subst hw
        go_wp2_with fail
        go_ret2
        exact ⟨_, by rw [HD.out]; rfl, by rw [FOut, HD.out, ← HE.out]; exact World.ownsRow.mono HRR.out HB0.out.size, HB0.out.trans (hb.mono HB0.out.size)⟩
      · have hd : decide (T.length ≤ 24) = false := decide_eq_false (by rw [← HE.out, ← HNN.out]; exact h24)
        have HD := Lib.hid hd; clear hd
        have h24' : 24 < N := by omega
        clear h24
        go_wp2_with fail
        refine (iLong_no A9 N c9 _ h24').mono ?_; rintro e w' ⟨rfl, hw⟩; subst hw
        go_wp2_with fail
        go_ret2
        exact ⟨_, by rw [HD.out]; rfl, by rw [FOut, HD.out]; rfl, HB0.out.trans (hb.mono HB0.out.size)⟩
set_option maxHeartbeats 4000000 in
theorem sAllL_any (g b off n c : Nat) (v : Value) (L F G R ws : List Int) (w : World) (hP : CgP w g L F G R) (hb2 : ∃ b2 o2 n2 c2, w.cell? ⟨g, 2, none⟩ = some (.slice (some ⟨b2, o2, none⟩) n2 c2) ∧ SlI w w.heap.size (some ⟨b2, o2, none⟩) n2 G) (hw : SlI w w.heap.size (some ⟨b, off, none⟩) n ws) (hL : L.length ≤ 4) (hF1 : 1 ≤ F.length) (hF : F.length ≤ 4) (hG : G.length ≤ 4) (hR : R.length ≤ 4) (hn : n ≤ 24) (hnc : n ≤ c) :
    Calls Try.prog 61 #[.pointer (some ⟨g, 0, none⟩), .slice (some ⟨b, off, none⟩) n c] w fun e w' => ∃ v, e = .returned (.tuple #[v, .bool (decide ((caL L F G R ws).length ≤ 24))]) ∧ RowI w' w.heap.size 2 v (caL L F G R ws) ∧ Below w.heap.size w w' := by
  have HP := Lib.hid hP
  obtain ⟨A0, n0, c0, A1, n1, c1, A2', n2', c2', A3, n3, c3, hr, h0, h1, h2, h3⟩ := hP
  have e1 := h1.len
  have kf := hr.cell 1
  obtain ⟨b2, o2, n2, c2, kg, hg2⟩ := hb2
  have e2 := hg2.len
  have HG := Lib.hid hg2
  have hgl := hr.lt
  clear h0 h1 h2 h3 hg2 hr
  have E1 := Lib.hid e1; have E2 := Lib.hid e2
  have hn1 : 1 ≤ n1 ∧ n1 ≤ 4 := by rw [← e1]; exact ⟨hF1, hF⟩
  have hn2 : n2 ≤ 4 := by rw [← e2]; exact hG
  have hl := Lib.hid hw.len
  obtain ⟨T, hT⟩ : ∃ T, T = caL L F G R ws := ⟨_, rfl⟩
  rw [← hT]
  have HT : Hid (caF L F G R ws n 0 [] = T) := by show _ = T; rw [hT, caL, hl.out]
  have HF1 := Lib.hid hF1
  clear hT e1 e2 hF1
  have HW := Lib.hid hw; clear hw
  go_enter Try.func61, Try.ntmps61
  go_wp2_with fail
  go_loopg [6, 7] n (fun m o a wr => ∃ (p : Nat) (out : List Int), a = .int .i64 p ∧ p ≤ n ∧ n ≤ m + p ∧ out.length ≤ 4 * p ∧ Hid (caF L F G R ws (n - p) p out = T) ∧ RowI wr w.heap.size 2 o out ∧ Below w.heap.size w wr)
  case atStart => exact ⟨0, [], rfl, by omega, by omega, by simp, HT, RowI.made _ _ _ (Nat.le_refl _), (Below.refl _ _).alloc (Nat.le_refl _) _⟩
  case round =>
    obtain ⟨p, out, rfl, hp, hm, hol, hTT, hr, hb⟩ := hrel
    have HR := Lib.hid hr; clear hr
    have hs := hb.size
    by_cases hlt : p < n
    · have l1 : (0 : Int) ≤ (p : Int) := by omega
      have l2 : (p : Int) < (n : Int) := by omega
      have hx := hb
      have hFi := sFits_any g b off n c L F G R ws p _ (HP.out.below hb) ((HW.out.below hb (Nat.le_refl _)).more hb.size) hL hF hR hn hnc (by omega)
      have HX := Lib.hid hx; clear hx
      cases hf : fitB L F R ws (p : Int) with
      | true =>
        have HN := Lib.hid (caF_fit HF1.out hl.out hlt hTT.out hf)
        have hroom := fit_room hf
        rw [E1.out, hl.out] at hroom
        rw [E1.out] at HN
        rw [hf] at hFi
        have v1 : IntKind.i64.wrap ((p : Int) + (n1 : Int)) = (p : Int) + (n1 : Int) := IntWalk.i64_in _ (by omega)
        go_wp2_with fail
        refine hFi.mono ?_; rintro e w2 ⟨rfl, hb2⟩; clear hFi
        have HR2 := Lib.hid (HR.out.keep hb2 (Nat.le_refl _))
        have hs2 : w.heap.size ≤ w2.heap.size := Nat.le_trans hs hb2.size
        have HG2 := Lib.hid (HG.out.below (HX.out.trans (hb2.mono HX.out.size)) (Nat.le_refl _))
        have j1 := (hb.trans (hb2.mono hs)).cell (p := ⟨g, 1, none⟩) hgl
        rw [kf] at j1
        have j2 := (hb.trans (hb2.mono hs)).cell (p := ⟨g, 2, none⟩) hgl
        rw [kg] at j2
        go_wp2_with (first | (at_builtin; refine wpList_ints_push rfl (.tmp 17) (.tmp 21) _ rfl w.heap.size 2 Try.underlying22 infoF _ out rfl HR2.out b2 o2 n2 c2 w.heap.size G rfl HG2.out (by omega) hs2 ?_; intro v' w' hown hbl; have j3 := hbl.cell (p := ⟨g, 1, none⟩) (show g < w.heap.size from hgl); rw [j1] at j3))
        go_roundg (gk - n1)
        case measure => omega
        case rel => exact ⟨p + n1, out ++ G, by go_num, by omega, by omega, by rw [List.length_append, E2.out]; omega, HN, hown, (hb.trans (hb2.mono hs)).trans hbl⟩
      | false =>
        obtain ⟨b9, o9, x, he, _, hx, hc⟩ := (HW.out.below HX.out (Nat.le_refl _)).at_ hlt
        have e9 := Option.some.inj he
        injection e9 with e9a e9b _
        subst e9a e9b
        have HN := Lib.hid (caF_not HF1.out hl.out hlt hx.out hTT.out hf)
        rw [hf] at hFi
        have v1 : IntKind.i64.wrap ((p : Int) + 1) = (p : Int) + 1 := IntWalk.i64_in _ (by omega)
        clear he
        go_wp2_with fail
        refine hFi.mono ?_; rintro e w2 ⟨rfl, hb2⟩; clear hFi
        have HR2 := Lib.hid (HR.out.keep hb2 (Nat.le_refl _))
        have hs2 : w.heap.size ≤ w2.heap.size := Nat.le_trans hs hb2.size
        have hc2 := ((HW.out.below (HX.out.trans (hb2.mono HX.out.size)) (Nat.le_refl _)).get hlt hx.out)
        go_wp2_with (first | (at_builtin; refine wpList_int_push _ rfl (.tmp 30) (.tmp 35) _ rfl w.heap.size 2 Try.underlying22 infoF _ out rfl HR2.out _ rfl (by omega) hs2 ?_; intro g' cap w' hown hbl hat hgr; clear hat hgr))
        go_roundg (gk - 1)
        case measure => omega
        case rel => exact ⟨p + 1, out ++ [x], by go_num, by omega, by omega, by rw [List.length_append]; simp; omega, HN, hown, (hb.trans (hb2.mono hs)).trans hbl⟩
    · obtain rfl : n = p := by omega
      have HE : Hid (out = T) := by show _ = T; rw [← hTT.out, caF_end (by rw [hl.out]; exact Nat.le_refl _)]
      obtain ⟨A9, c9, hv9, _, _⟩ := own_form HR.out
      subst hv9
      obtain ⟨N, hN⟩ : ∃ N, N = out.length := ⟨_, rfl⟩
      rw [← hN]
      have HNN := Lib.hid hN; clear hN
      have hRR := HR.out
      rw [← HNN.out] at hRR
      have HRR := Lib.hid hRR; clear hRR
      have hd : decide (T.length ≤ 24) = decide ((N : Int) ≤ 24) := by rw [← HE.out, ← HNN.out]; exact decide_eq_decide.2 (by omega)
      have HD := Lib.hid hd; clear hd
      go_wp2_with fail
      go_ret2
      exact ⟨_, by rw [HD.out]; rfl, by rw [← HE.out]; exact HRR.out, hb⟩
end Go.Proofs.Ytcmnhnapnnpbdaa
