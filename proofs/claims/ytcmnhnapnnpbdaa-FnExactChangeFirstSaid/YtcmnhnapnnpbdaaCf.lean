/- ChangeFirst of both programs: the first place, a change that is put there. -/
import Derived.Test.YtcmnhnapnnpbdaaCa
import Derived.Test.YtcmnhnapnnpbdaaCat
import Derived.Outline
namespace Go.Proofs.Ytcmnhnapnnpbdaa
open Go.RowKit
set_option linter.unusedVariables false
/-- The first place at which a change fits. -/
def cfP (L F R ws : List Int) : Option Nat := (List.range ws.length).find? fun j => fitB L F R ws ((j : Nat) : Int)
def cfZ (L F R ws : List Int) : Int := match cfP L F R ws with | none => -1 | some p => (p : Int)
def putL (F G ws : List Int) (p : Nat) : List Int := ws.take p ++ (G ++ ws.drop (p + F.length))
def cfL (L F G R ws : List Int) : List Int := match cfP L F R ws with | none => ws | some p => putL F G ws p
def cfB (L F G R ws : List Int) (l : Int) : Bool := (vcB L F G R l && longB ws l) && decide ((cfL L F G R ws).length ≤ 24)
theorem cfB_def (L F G R ws : List Int) (l : Int) : cfB L F G R ws l = ((vcB L F G R l && longB ws l) && decide ((cfL L F G R ws).length ≤ 24)) := rfl
theorem cfL_len {L F G R ws : List Int} {l : Int} (h : cfB L F G R ws l = true) : (cfL L F G R ws).length ≤ 1048576 := by
  rw [cfB_def, Bool.and_eq_true] at h
  have := of_decide_eq_true h.2
  omega
theorem cfP_none {L F R ws : List Int} {n : Nat} (hl : ws.length = n) (h : ∀ j : Nat, j < n → fitB L F R ws (j : Int) = false) : cfP L F R ws = none := by
  unfold cfP
  rw [List.find?_eq_none]
  intro j hj
  rw [List.mem_range] at hj
  rw [h j (by omega)]; simp
theorem cfP_some {L F R ws : List Int} {n k : Nat} (hl : ws.length = n) (hk : k < n) (h : ∀ j : Nat, j < k → fitB L F R ws (j : Int) = false) (hf : fitB L F R ws (k : Int) = true) : cfP L F R ws = some k := by
  unfold cfP
  rw [List.find?_range_eq_some]
  exact ⟨hf, by rw [List.mem_range]; omega, fun j hj => by rw [h j hj]; rfl⟩
theorem cfP_fit {L F R ws : List Int} {p : Nat} (h : cfP L F R ws = some p) : p < ws.length ∧ fitB L F R ws (p : Int) = true := by
  unfold cfP at h
  obtain ⟨h1, h2, _⟩ := List.find?_range_eq_some.1 h
  exact ⟨List.mem_range.1 h2, h1⟩
theorem plL_head {L F R ws : List Int} : (plL L F R ws)[0]? = (cfP L F R ws).map fun p => ((p : Nat) : Int) := by
  have h : (plK L F R ws ws.length)[0]? = cfP L F R ws := by
    unfold plK cfP
    rw [← List.head?_eq_getElem?, List.head?_filter]
  unfold plL fx
  rw [List.getElem?_map, h]
theorem putL_len {F G ws : List Int} {p : Nat} (h : p + F.length ≤ ws.length) : (putL F G ws p).length = ws.length + G.length - F.length := by
  unfold putL; simp; omega
theorem SlI.takeS {w : World} {B b off n m : Nat} {xs : List Int} (h : SlI w B (some ⟨b, off, none⟩) n xs) (hm : m ≤ n) : SlI w B (some ⟨b, off, none⟩) m (xs.take m) := by
  have := SlV.take h hm
  unfold SlI
  rw [show iv (xs.take m) = (iv xs).take m from by simp [iv, List.map_take]]
  exact this
theorem SlI.dropS {w : World} {B b off n q : Nat} {xs : List Int} (h : SlI w B (some ⟨b, off, none⟩) n xs) (hq : q < n) : SlI w B (some ⟨b, off + q, none⟩) (n - q) (xs.drop q) := by
  obtain ⟨hl, h2⟩ := h
  rw [iv_length] at hl
  refine ⟨by rw [iv_length, List.length_drop]; omega, fun h0 => ?_⟩
  obtain ⟨b', off', e, hb, hc⟩ := h2 (by omega)
  have e2 := Option.some.inj e
  injection e2 with e3 e4 _
  subst e3 e4
  refine ⟨b, off + q, rfl, hb, fun j u hu => ?_⟩
  rw [show iv (xs.drop q) = (iv xs).drop q from by simp [iv, List.map_drop], List.getElem?_drop] at hu
  rw [Nat.add_assoc]; exact hc _ u hu
set_option maxHeartbeats 2000000 in
theorem iFst_any (v : Value) (b off n c : Nat) (L F G R ws : List Int) (w : World) (h : Cg w w.heap.size v L F G R) (hw : SlI w w.heap.size (some ⟨b, off, none⟩) n ws) (g1 : L.length ≤ 4) (g3 : F.length ≤ 4) (g5 : R.length ≤ 4) (h24 : n ≤ 24) (hnc : n ≤ c) :
    Calls Try.prog 64 #[v, .slice (some ⟨b, off, none⟩) n c] w fun e w' => e = .returned (.int .i64 (cfZ L F R ws)) ∧ Below w.heap.size w w' := by
  have HC := Lib.hid h
  obtain ⟨A0, n0, c0, A1, n1, c1, A2, n2, c2, A3, n3, c3, rfl, h0, h1, h2, h3⟩ := h
  clear h0 h1 h2 h3
  have hl := Lib.hid hw.len
  have hbx : Below w.heap.size w (w.alloc (.cells ([.slice A0 n0 c0, .slice A1 n1 c1, .slice A2 n2 c2, .slice A3 n3 c3] : List Value).toArray 27)) := (Below.refl _ _).alloc (Nat.le_refl _) _
  have rb := Row.new w 27 [.slice A0 n0 c0, .slice A1 n1 c1, .slice A2 n2 c2, .slice A3 n3 c3]
  have HW := Lib.hid hw; have HBX := Lib.hid hbx; have RB := Lib.hid rb
  clear hw hbx rb
  go_enter Try.func64, Try.ntmps64
  go_wp2_with fail
  obtain ⟨w1, hwb⟩ : ∃ x, x = w.alloc (.cells ([.slice A0 n0 c0, .slice A1 n1 c1, .slice A2 n2 c2, .slice A3 n3 c3] : List Value).toArray 27) := ⟨_, rfl⟩
  rw [← hwb] at RB HBX
  change Code.wp _ _ _ _ (w.alloc (.cells ([.slice A0 n0 c0, .slice A1 n1 c1, .slice A2 n2 c2, .slice A3 n3 c3] : List Value).toArray 27))
  rw [← hwb]
  clear hwb
  go_loopg [5, 8] n (fun m u i wr => ∃ k : Nat, i = .int .i64 k ∧ k ≤ n ∧ n ≤ m + k ∧ Hid (∀ j : Nat, j < k → fitB L F R ws (j : Int) = false) ∧ Hid (Below w1.heap.size w1 wr))
  case atStart => exact ⟨0, rfl, by omega, by omega, fun j hj => by omega, Below.refl _ _⟩
  case round =>
    obtain ⟨k, rfl, hk, hm, HN, HB⟩ := hrel
    by_cases hlt : k < n
    · have l1 : (0 : Int) ≤ (k : Int) := by omega
      have hx := HBX.out.trans (HB.out.mono HBX.out.size)
      have hF := iFits_any _ b off n c L F G R ws k _ ((HC.out.below hx (Nat.le_refl _)).more hx.size) ((HW.out.below hx (Nat.le_refl _)).more hx.size) g1 g3 g5 h24 hnc (by omega)
      have rr := RB.out.below HB.out RB.out.lt
      have k0 := rr.cell 0; have k1 := rr.cell 1; have k2 := rr.cell 2; have k3 := rr.cell 3
      have HX := Lib.hid hx
      clear hx rr
      cases hf : fitB L F R ws (k : Int) with
      | true =>
        have HZ : Hid (cfZ L F R ws = (k : Int)) := by show _ = _; rw [cfZ, cfP_some hl.out hlt HN.out hf]
        rw [hf] at hF
        clear hf
        go_wp2_with (first | (go_at_call 87; refine hF.mono ?_; rintro e w2 ⟨rfl, hb2⟩; clear hF))
        go_ret
        exact ⟨ret_int HZ.out.symm, HX.out.trans (hb2.mono HX.out.size)⟩
      | false =>
        have HN2 : Hid (∀ j : Nat, j < k + 1 → fitB L F R ws (j : Int) = false) := by
          intro j hj
          by_cases e : j = k
          · rw [e]; exact hf
          · exact HN.out j (by omega)
        rw [hf] at hF
        clear hf
        go_wp2_with (first | (go_at_call 87; refine hF.mono ?_; rintro e w2 ⟨rfl, hb2⟩; clear hF))
        go_roundg (gk - 1)
        case measure => omega
        case rel => exact ⟨k + 1, by go_num, by omega, by omega, HN2, HB.out.trans (hb2.mono HB.out.size)⟩
    · obtain rfl : n = k := by omega
      have HZ : Hid (cfZ L F R ws = -1) := by show _ = _; rw [cfZ, cfP_none hl.out HN.out]
      go_wp2_with fail
      go_ret
      exact ⟨ret_int HZ.out.symm, HBX.out.trans (HB.out.mono HBX.out.size)⟩
/-- What a word reads behind a place: the slice 'word[q:]' keeps its address at the end. -/
theorem SlI.tailS {w : World} {B b off n q : Nat} {xs : List Int} (h : SlI w B (some ⟨b, off, none⟩) n xs) (hq : q ≤ n) : SlI w B (some ⟨b, if q < n then off + q else off, none⟩) (n - q) (xs.drop q) := by
  by_cases hlt : q < n
  · rw [if_pos hlt]; exact h.dropS hlt
  · have hl := h.len
    rw [if_neg hlt, show n - q = 0 by omega, List.drop_eq_nil_of_le (by omega)]
    exact SlV.nil _ _ _
set_option maxHeartbeats 4000000 in
theorem sPut_any (b off n b2 o2 n2 c2 : Nat) (F G ws : List Int) (p f : Nat) (w : World) (hw : SlI w w.heap.size (some ⟨b, off, none⟩) n ws) (hg : SlI w w.heap.size (some ⟨b2, o2, none⟩) n2 G) (hf : F.length = f) (hG : n2 ≤ 4) (h24 : n ≤ 24) (hp : p + f ≤ n) :
    Calls Try.prog 93 #[.slice (some ⟨b, off, none⟩) n n, .int .i64 p, .int .i64 f, .slice (some ⟨b2, o2, none⟩) n2 c2] w fun e w' => ∃ A' c', e = .returned (.slice A' (putL F G ws p).length c') ∧ RowI w' w.heap.size 2 (.slice A' (putL F G ws p).length c') (putL F G ws p) ∧ Below w.heap.size w w' := by
  have hl := Lib.hid hw.len
  have HT1 := Lib.hid (hw.takeS (show p ≤ n by omega))
  have HT2 := Lib.hid (hw.tailS (show p + f ≤ n by omega))
  have HG := Lib.hid hg
  have LG := Lib.hid hg.len
  have HF := Lib.hid hf
  clear hw hg hf
  have HR0 := Lib.hid (RowI.made w w.heap.size 2 (Nat.le_refl _))
  have HB0 := Lib.hid ((Below.refl w.heap.size w).alloc (Nat.le_refl _) (.cells #[] 2))
  have w1 : IntKind.i64.wrap ((p : Int) + (f : Int)) = (p : Int) + (f : Int) := IntWalk.i64_in _ (by omega)
  have w2 : ((p : Int) + (f : Int)).toNat = p + f := by omega
  have w3 : (0 : Int) ≤ (p : Int) + (f : Int) := by omega
  have w4 : (p : Int) + (f : Int) ≤ (n : Int) := by omega
  have w5 : (0 : Int) ≤ (p : Int) := by omega
  have w6 : (p : Int) ≤ (n : Int) := by omega
  have L1 : Hid ((ws.take p).length = p) := by show _ = _; have := hl.out; simp; omega
  have L2 : Hid ((putL F G ws p).length = p + n2 + (n - (p + f))) := by show _ = _; unfold putL; have := hl.out; have := LG.out; have := HF.out; simp; omega
  have D1 : Hid (putL F G ws p = (ws.take p ++ G) ++ ws.drop (p + f)) := by show _ = _; unfold putL; rw [HF.out, List.append_assoc]
  have N0 : Hid (([] : List Int).length + p ≤ 4294967296) := by show _ ≤ _; simp; omega
  have N1 : Hid (([] ++ ws.take p).length + n2 ≤ 4294967296) := by show _ ≤ _; have := L1.out; rw [List.nil_append]; omega
  have N2 : Hid (([] ++ ws.take p ++ G).length + (n - (p + f)) ≤ 4294967296) := by show _ ≤ _; have := L1.out; have := LG.out; rw [List.nil_append, List.length_append]; omega
  by_cases hq : p + f < n
  · have HT3 : Hid (SlI w w.heap.size (some ⟨b, off + (p + f), none⟩) (n - (p + f)) (ws.drop (p + f))) := by have := HT2.out; rw [if_pos hq] at this; exact this
    have w7 : (p : Int) + (f : Int) < (n : Int) := by omega
    have HS1 := Lib.hid (SlV.alloc HT1.out (Nat.le_refl _) (.cells #[] 2))
    go_enter Try.func93, Try.ntmps93
    go_wp2_with (first | (at_builtin; refine wpList_ints_push rfl (.tmp 10) (.tmp 13) _ rfl w.heap.size 2 Try.underlying22 infoF _ [] rfl HR0.out b off p n w.heap.size (ws.take p) rfl HS1.out N0.out HB0.out.size ?_; intro v1 x1 hown1 hbl1; have HO1 := Lib.hid hown1; have B1 := Lib.hid (HB0.out.trans hbl1); have HS2 := Lib.hid (SlI.below HG.out B1.out (Nat.le_refl _)); obtain ⟨A1, k1, hv1, _, _⟩ := own_form hown1; obtain ⟨m1, hm1⟩ : ∃ m, m = ([] ++ ws.take p).length := ⟨_, rfl⟩; rw [← hm1] at hv1; subst hv1; have HM1 := Lib.hid hm1; clear hm1; clear hown1 hbl1) | (at_builtin; refine wpList_ints_push rfl (.tmp 15) (.tmp 16) _ rfl w.heap.size 2 Try.underlying22 infoF _ ([] ++ ws.take p) rfl HO1.out b2 o2 n2 c2 w.heap.size G rfl HS2.out N1.out B1.out.size ?_; intro v2 x2 hown2 hbl2; have HO2 := Lib.hid hown2; have B2 := Lib.hid (B1.out.trans hbl2); have HS3 := Lib.hid (SlI.below HT3.out B2.out (Nat.le_refl _)); obtain ⟨A2, k2, hv2, _, _⟩ := own_form hown2; obtain ⟨m2, hm2⟩ : ∃ m, m = ([] ++ ws.take p ++ G).length := ⟨_, rfl⟩; rw [← hm2] at hv2; subst hv2; have HM2 := Lib.hid hm2; clear hm2; clear hown2 hbl2) | (at_builtin; refine wpList_ints_push rfl (.tmp 18) (.tmp 23) _ rfl w.heap.size 2 Try.underlying22 infoF _ ([] ++ ws.take p ++ G) rfl HO2.out b (off + (p + f)) (n - (p + f)) (n - (p + f)) w.heap.size (ws.drop (p + f)) rfl HS3.out N2.out B2.out.size ?_; intro v3 x3 hown3 hbl3; have HO3 := Lib.hid hown3; have B3 := Lib.hid (B2.out.trans hbl3); obtain ⟨A3, k3, hv3, _, _⟩ := own_form hown3; obtain ⟨m3, hm3⟩ : ∃ m, m = ([] ++ ws.take p ++ G ++ ws.drop (p + f)).length := ⟨_, rfl⟩; rw [← hm3] at hv3; subst hv3; have HM3 := Lib.hid hm3; clear hm3; clear hown3 hbl3))
    go_ret
    have hE : putL F G ws p = [] ++ ws.take p ++ G ++ ws.drop (p + f) := by rw [List.nil_append]; exact D1.out
    have hO := HO3.out
    rw [HM3.out, ← hE] at hO
    exact ⟨A3, k3, ret_val (show Value.slice A3 m3 k3 = .slice A3 _ k3 by rw [HM3.out, hE]), hO, B3.out⟩
  · have HT3 : Hid (SlI w w.heap.size (some ⟨b, off, none⟩) 0 (ws.drop (p + f))) := by have := HT2.out; rw [if_neg hq, show n - (p + f) = 0 by omega] at this; exact this
    have N2 : Hid (([] ++ ws.take p ++ G).length + 0 ≤ 4294967296) := by show _ ≤ _; have := N2.out; omega
    have hqe : p + f = n := by omega
    have HS1 := Lib.hid (SlV.alloc HT1.out (Nat.le_refl _) (.cells #[] 2))
    go_enter Try.func93, Try.ntmps93
    go_wp2_with (first | (at_builtin; refine wpList_ints_push rfl (.tmp 10) (.tmp 13) _ rfl w.heap.size 2 Try.underlying22 infoF _ [] rfl HR0.out b off p n w.heap.size (ws.take p) rfl HS1.out N0.out HB0.out.size ?_; intro v1 x1 hown1 hbl1; have HO1 := Lib.hid hown1; have B1 := Lib.hid (HB0.out.trans hbl1); have HS2 := Lib.hid (SlI.below HG.out B1.out (Nat.le_refl _)); obtain ⟨A1, k1, hv1, _, _⟩ := own_form hown1; obtain ⟨m1, hm1⟩ : ∃ m, m = ([] ++ ws.take p).length := ⟨_, rfl⟩; rw [← hm1] at hv1; subst hv1; have HM1 := Lib.hid hm1; clear hm1; clear hown1 hbl1) | (at_builtin; refine wpList_ints_push rfl (.tmp 15) (.tmp 16) _ rfl w.heap.size 2 Try.underlying22 infoF _ ([] ++ ws.take p) rfl HO1.out b2 o2 n2 c2 w.heap.size G rfl HS2.out N1.out B1.out.size ?_; intro v2 x2 hown2 hbl2; have HO2 := Lib.hid hown2; have B2 := Lib.hid (B1.out.trans hbl2); have HS3 := Lib.hid (SlI.below HT3.out B2.out (Nat.le_refl _)); obtain ⟨A2, k2, hv2, _, _⟩ := own_form hown2; obtain ⟨m2, hm2⟩ : ∃ m, m = ([] ++ ws.take p ++ G).length := ⟨_, rfl⟩; rw [← hm2] at hv2; subst hv2; have HM2 := Lib.hid hm2; clear hm2; clear hown2 hbl2) | (at_builtin; refine wpList_ints_push rfl (.tmp 18) (.tmp 23) _ rfl w.heap.size 2 Try.underlying22 infoF _ ([] ++ ws.take p ++ G) rfl HO2.out b off 0 0 w.heap.size (ws.drop (p + f)) rfl HS3.out N2.out B2.out.size ?_; intro v3 x3 hown3 hbl3; have HO3 := Lib.hid hown3; have B3 := Lib.hid (B2.out.trans hbl3); obtain ⟨A3, k3, hv3, _, _⟩ := own_form hown3; obtain ⟨m3, hm3⟩ : ∃ m, m = ([] ++ ws.take p ++ G ++ ws.drop (p + f)).length := ⟨_, rfl⟩; rw [← hm3] at hv3; subst hv3; have HM3 := Lib.hid hm3; clear hm3; clear hown3 hbl3))
    go_ret
    have hE : putL F G ws p = [] ++ ws.take p ++ G ++ ws.drop (p + f) := by rw [List.nil_append]; exact D1.out
    have hO := HO3.out
    rw [HM3.out, ← hE] at hO
    exact ⟨A3, k3, ret_val (show Value.slice A3 m3 k3 = .slice A3 _ k3 by rw [HM3.out, hE]), hO, B3.out⟩
set_option maxRecDepth 100000 in
set_option maxHeartbeats 4000000 in
theorem iPut_any (v : Value) (b off n : Nat) (L F G R ws : List Int) (p : Nat) (w : World) (h : CgS w w.heap.size v L F G R) (hw : SlI w w.heap.size (some ⟨b, off, none⟩) n ws) (hF : F.length ≤ 4) (hG : G.length ≤ 4) (h24 : n ≤ 24) (hp : p + F.length ≤ n) :
    Calls Try.prog 66 #[v, .slice (some ⟨b, off, none⟩) n n, .int .i64 p] w fun e w' => ∃ A' c', e = .returned (.slice A' (putL F G ws p).length c') ∧ RowI w' w.heap.size 2 (.slice A' (putL F G ws p).length c') (putL F G ws p) ∧ Below w.heap.size w w' := by
  obtain ⟨b0, o0, n0, c0, b1, o1, n1, c1, b2, o2, n2, c2, b3, o3, n3, c3, rfl, h0, h1, h2, h3⟩ := h
  have e1 := h1.len; have e2 := h2.len
  rw [e1] at hF hp; rw [e2] at hG
  have hl := Lib.hid hw.len
  have HF := Lib.hid e1; have LG := Lib.hid e2
  have HG := Lib.hid h2; have HW := Lib.hid hw
  clear h0 h1 h2 h3 e1 e2 hw
  have hbx : Below w.heap.size w (w.alloc (.cells ([.slice (some ⟨b0, o0, none⟩) n0 c0, .slice (some ⟨b1, o1, none⟩) n1 c1, .slice (some ⟨b2, o2, none⟩) n2 c2, .slice (some ⟨b3, o3, none⟩) n3 c3] : List Value).toArray 27)) := (Below.refl _ _).alloc (Nat.le_refl _) _
  have rb := Row.new w 27 [.slice (some ⟨b0, o0, none⟩) n0 c0, .slice (some ⟨b1, o1, none⟩) n1 c1, .slice (some ⟨b2, o2, none⟩) n2 c2, .slice (some ⟨b3, o3, none⟩) n3 c3]
  have HBX := Lib.hid hbx; have RB := Lib.hid rb
  clear hbx rb
  have v1 : IntKind.i64.wrap ((p : Int) + (n1 : Int)) = (p : Int) + (n1 : Int) := IntWalk.i64_in _ (by omega)
  have v2' : ((p : Int) + (n1 : Int)).toNat = p + n1 := by omega
  have v3 : (0 : Int) ≤ (p : Int) + (n1 : Int) := by omega
  have v4 : (p : Int) + (n1 : Int) ≤ (n : Int) := by omega
  have v5 : (0 : Int) ≤ (p : Int) := by omega
  have v6 : (p : Int) ≤ (n : Int) := by omega
  have HT1 := Lib.hid (HW.out.takeS (show p ≤ n by omega))
  have HT2 := Lib.hid (HW.out.tailS (show p + n1 ≤ n by omega))
  by_cases hq : p + n1 < n
  · have HT3 : Hid (SlI w w.heap.size (some ⟨b, off + (p + n1), none⟩) (n - (p + n1)) (ws.drop (p + n1))) := by have := HT2.out; rw [if_pos hq] at this; exact this
    have D1 : Hid (putL F G ws p = catL [⟨b, off, p, n, ws.take p⟩, ⟨b2, o2, n2, c2, G⟩, ⟨b, off + (p + n1), n - (p + n1), n - (p + n1), ws.drop (p + n1)⟩]) := by show _ = _; unfold putL catL; rw [HF.out]; simp
    have D2 : Hid ((catL [⟨b, off, p, n, ws.take p⟩, ⟨b2, o2, n2, c2, G⟩, ⟨b, off + (p + n1), n - (p + n1), n - (p + n1), ws.drop (p + n1)⟩]).length ≤ 4294967296) := by
      show _ ≤ _
      rw [← D1.out, putL_len (by rw [HF.out, hl.out]; omega), hl.out, LG.out]; omega
    go_enter Try.func66, Try.ntmps66
    go_wp2_with fail
    obtain ⟨w1, hwb⟩ : ∃ x, x = w.alloc (.cells ([.slice (some ⟨b0, o0, none⟩) n0 c0, .slice (some ⟨b1, o1, none⟩) n1 c1, .slice (some ⟨b2, o2, none⟩) n2 c2, .slice (some ⟨b3, o3, none⟩) n3 c3] : List Value).toArray 27) := ⟨_, rfl⟩
    rw [← hwb] at RB HBX
    change Code.wp _ _ _ _ (w.alloc (.cells ([.slice (some ⟨b0, o0, none⟩) n0 c0, .slice (some ⟨b1, o1, none⟩) n1 c1, .slice (some ⟨b2, o2, none⟩) n2 c2, .slice (some ⟨b3, o3, none⟩) n3 c3] : List Value).toArray 27))
    rw [← hwb]
    clear hwb
    refine wp_tail 12 (by kernel_rfl) (by kernel_rfl) (fun y hy => ?_)
    have k1 : y.cell? ⟨w.heap.size, 1, none⟩ = some (.slice (some ⟨b1, o1, none⟩) n1 c1) := by rw [hy]; exact RB.out.cell 1
    have k2 : y.cell? ⟨w.heap.size, 2, none⟩ = some (.slice (some ⟨b2, o2, none⟩) n2 c2) := by rw [hy]; exact RB.out.cell 2
    have HY : Hid (Below w.heap.size w y) := by rw [hy]; exact below_draws HBX.out _
    clear hy
    simp only [List.take_succ_cons, List.take_zero, List.drop_succ_cons, List.drop_zero]
    repeat still_step
    refine wpStill_nil ?_
    go_wp2_with fail
    have HZ := Lib.hid (HY.out.alloc HY.out.size (.cells ([.slice (some ⟨b, off, none⟩) p n, .slice (some ⟨b2, o2, none⟩) n2 c2, .slice (some ⟨b, off + (p + n1), none⟩) (n - (p + n1)) (n - (p + n1))] : List Value).toArray 22))
    have hsz : Hid (w.heap.size ≤ (y.alloc (.cells ([.slice (some ⟨b, off, none⟩) p n, .slice (some ⟨b2, o2, none⟩) n2 c2, .slice (some ⟨b, off + (p + n1), none⟩) (n - (p + n1)) (n - (p + n1))] : List Value).toArray 22)).heap.size) := HZ.out.size
    refine (iConcat_any y.heap.size 3 3 [⟨b, off, p, n, ws.take p⟩, ⟨b2, o2, n2, c2, G⟩, ⟨b, off + (p + n1), n - (p + n1), n - (p + n1), ws.drop (p + n1)⟩] _ (Row.new y 22 [.slice (some ⟨b, off, none⟩) p n, .slice (some ⟨b2, o2, none⟩) n2 c2, .slice (some ⟨b, off + (p + n1), none⟩) (n - (p + n1)) (n - (p + n1))]).sl (fun q hq => ?_) (by omega) D2.out).mono ?_
    · simp only [List.mem_cons, List.not_mem_nil, or_false] at hq
      rcases hq with rfl | rfl | rfl
      · exact (HT1.out.below HZ.out (Nat.le_refl _)).more hsz.out
      · exact (HG.out.below HZ.out (Nat.le_refl _)).more hsz.out
      · exact (HT3.out.below HZ.out (Nat.le_refl _)).more hsz.out
    rintro e x3 ⟨A3, k3, rfl, hO, hb3⟩
    obtain ⟨m3, hm3⟩ : ∃ m, m = (catL [⟨b, off, p, n, ws.take p⟩, ⟨b2, o2, n2, c2, G⟩, ⟨b, off + (p + n1), n - (p + n1), n - (p + n1), ws.drop (p + n1)⟩]).length := ⟨_, rfl⟩
    rw [← hm3] at hO ⊢
    have HO := Lib.hid hO; have HM := Lib.hid hm3; clear hO hm3
    go_wp2_with fail
    go_ret
    have h1 := HO.out
    rw [← D1.out] at h1
    have h2 := HM.out
    rw [← D1.out] at h2
    rw [h2] at h1
    exact ⟨A3, k3, ret_val (show Value.slice A3 m3 k3 = .slice A3 _ k3 by rw [h2]), World.ownsRow.mono h1 hsz.out, HZ.out.trans (hb3.mono hsz.out)⟩
  · have HT3 : Hid (SlI w w.heap.size (some ⟨b, off, none⟩) 0 (ws.drop (p + n1))) := by have := HT2.out; rw [if_neg hq, show n - (p + n1) = 0 by omega] at this; exact this
    have D1 : Hid (putL F G ws p = catL [⟨b, off, p, p + n1, ws.take p⟩, ⟨b2, o2, n2, c2, G⟩, ⟨b, off, 0, 0, ws.drop (p + n1)⟩]) := by show _ = _; unfold putL catL; rw [HF.out]; simp
    have D2 : Hid ((catL [⟨b, off, p, p + n1, ws.take p⟩, ⟨b2, o2, n2, c2, G⟩, ⟨b, off, 0, 0, ws.drop (p + n1)⟩]).length ≤ 4294967296) := by
      show _ ≤ _
      rw [← D1.out, putL_len (by rw [HF.out, hl.out]; omega), hl.out, LG.out]; omega
    go_enter Try.func66, Try.ntmps66
    go_wp2_with fail
    obtain ⟨w1, hwb⟩ : ∃ x, x = w.alloc (.cells ([.slice (some ⟨b0, o0, none⟩) n0 c0, .slice (some ⟨b1, o1, none⟩) n1 c1, .slice (some ⟨b2, o2, none⟩) n2 c2, .slice (some ⟨b3, o3, none⟩) n3 c3] : List Value).toArray 27) := ⟨_, rfl⟩
    rw [← hwb] at RB HBX
    change Code.wp _ _ _ _ (w.alloc (.cells ([.slice (some ⟨b0, o0, none⟩) n0 c0, .slice (some ⟨b1, o1, none⟩) n1 c1, .slice (some ⟨b2, o2, none⟩) n2 c2, .slice (some ⟨b3, o3, none⟩) n3 c3] : List Value).toArray 27))
    rw [← hwb]
    clear hwb
    refine wp_tail 12 (by kernel_rfl) (by kernel_rfl) (fun y hy => ?_)
    have k1 : y.cell? ⟨w.heap.size, 1, none⟩ = some (.slice (some ⟨b1, o1, none⟩) n1 c1) := by rw [hy]; exact RB.out.cell 1
    have k2 : y.cell? ⟨w.heap.size, 2, none⟩ = some (.slice (some ⟨b2, o2, none⟩) n2 c2) := by rw [hy]; exact RB.out.cell 2
    have HY : Hid (Below w.heap.size w y) := by rw [hy]; exact below_draws HBX.out _
    clear hy
    simp only [List.take_succ_cons, List.take_zero, List.drop_succ_cons, List.drop_zero]
    repeat still_step
    refine wpStill_nil ?_
    go_wp2_with fail
    have HZ := Lib.hid (HY.out.alloc HY.out.size (.cells ([.slice (some ⟨b, off, none⟩) p (p + n1), .slice (some ⟨b2, o2, none⟩) n2 c2, .slice (some ⟨b, off, none⟩) 0 0] : List Value).toArray 22))
    have hsz : Hid (w.heap.size ≤ (y.alloc (.cells ([.slice (some ⟨b, off, none⟩) p (p + n1), .slice (some ⟨b2, o2, none⟩) n2 c2, .slice (some ⟨b, off, none⟩) 0 0] : List Value).toArray 22)).heap.size) := HZ.out.size
    refine (iConcat_any y.heap.size 3 3 [⟨b, off, p, p + n1, ws.take p⟩, ⟨b2, o2, n2, c2, G⟩, ⟨b, off, 0, 0, ws.drop (p + n1)⟩] _ (Row.new y 22 [.slice (some ⟨b, off, none⟩) p (p + n1), .slice (some ⟨b2, o2, none⟩) n2 c2, .slice (some ⟨b, off, none⟩) 0 0]).sl (fun q hq => ?_) (by omega) D2.out).mono ?_
    · simp only [List.mem_cons, List.not_mem_nil, or_false] at hq
      rcases hq with rfl | rfl | rfl
      · exact (HT1.out.below HZ.out (Nat.le_refl _)).more hsz.out
      · exact (HG.out.below HZ.out (Nat.le_refl _)).more hsz.out
      · exact (HT3.out.below HZ.out (Nat.le_refl _)).more hsz.out
    rintro e x3 ⟨A3, k3, rfl, hO, hb3⟩
    obtain ⟨m3, hm3⟩ : ∃ m, m = (catL [⟨b, off, p, p + n1, ws.take p⟩, ⟨b2, o2, n2, c2, G⟩, ⟨b, off, 0, 0, ws.drop (p + n1)⟩]).length := ⟨_, rfl⟩
    rw [← hm3] at hO ⊢
    have HO := Lib.hid hO; have HM := Lib.hid hm3; clear hO hm3
    go_wp2_with fail
    go_ret
    have h1 := HO.out
    rw [← D1.out] at h1
    have h2 := HM.out
    rw [← D1.out] at h2
    rw [h2] at h1
    exact ⟨A3, k3, ret_val (show Value.slice A3 m3 k3 = .slice A3 _ k3 by rw [h2]), World.ownsRow.mono h1 hsz.out, HZ.out.trans (hb3.mono hsz.out)⟩
end Go.Proofs.Ytcmnhnapnnpbdaa
