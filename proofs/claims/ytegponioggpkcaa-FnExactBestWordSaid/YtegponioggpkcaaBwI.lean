/- Parts of BestWord of the program: the least sum as a quiet call, the test of a row, the first row that passes it. -/
import Derived.Test.YtegponioggpkcaaRsC
import Derived.Test.YtegponioggpkcaaEnC

namespace Go.Proofs.Ytegponioggpkcaa
open Go.RowKit
set_option linter.unusedVariables false
set_option maxRecDepth 100000 in
set_option maxHeartbeats 4000000 in
theorem iLeastSumQ_any (A : Option Addr) (n c : Nat) (a : List Int) (A' : Option Addr) (c' : Nat) (b : List Int) (w : World) (h : SlI w w.heap.size A n a) (h' : SlI w w.heap.size A' n b) (ha : Bd 1099511627776 a) (hb : Bd 1099511627776 b) (hn : n ≤ 1000000) :
    Calls Try.prog 61 #[.slice A n c, .slice A' n c'] w fun e w' => e = .returned (.int .i64 (lsV 1099511627776 a b)) ∧ ∃ d, w' = w.drewN d := by
  have hla := h.len
  have hlb := h'.len
  have hbd := lsm_bd (by omega) ha hb
  have H := Lib.hid h; have H' := Lib.hid h'; have HLA := Lib.hid hla; have HLB := Lib.hid hlb
  have HBD := Lib.hid hbd
  clear h h' hla hlb hbd
  go_enter Try.func61, Try.ntmps61
  go_wp2_with fail
  go_loopg [5, 6, 9] n (fun m s u6 i wr => ∃ k : Nat, i = .int .i64 k ∧ k ≤ n ∧ n ≤ m + k ∧ s = .int .i64 (lsm 1099511627776 a b k) ∧ Hid (∃ d, wr = w.drewN d))
  case atStart => exact ⟨0, rfl, by omega, by omega, rfl, ⟨0, rfl⟩⟩
  case round =>
    obtain ⟨k, rfl, hk, hm, rfl, HD⟩ := hrel
    obtain ⟨wo, rfl⟩ : ∃ x : World, x = wr := ⟨_, rfl⟩
    have HB : Hid (Below w.heap.size w wo) := by obtain ⟨d, hd⟩ := HD.out; show Below _ _ _; rw [hd]; exact below_draws (Below.refl _ _) d
    have hs := HBD.out k
    by_cases hlt : k < n
    · have q1 : (k : Int) < (n : Int) := by omega
      obtain ⟨b1, off1, x, rfl, _, hx, cx⟩ := (H.out.below HB.out (Nat.le_refl _)).at_ hlt
      obtain ⟨b2, off2, y, rfl, _, hy, cy⟩ := (H'.out.below HB.out (Nat.le_refl _)).at_ hlt
      have bx := ha.get hx.out
      have by' := hb.get hy.out
      obtain ⟨bx0, bx1⟩ := bx; obtain ⟨by0, by1⟩ := by'
      obtain ⟨s, hs0⟩ : ∃ s, s = lsm 1099511627776 a b k := ⟨_, rfl⟩
      rw [← hs0] at hs ⊢
      obtain ⟨s0, s1⟩ := hs
      obtain ⟨m1, hm1⟩ : ∃ m, (if x + y < s then x + y else s) = m := ⟨_, rfl⟩
      have HST : Hid (lsm 1099511627776 a b (k + 1) = m1) := by
        show _ = _
        rw [lsm_succ, ← hs0, g0_get hx.out, g0_get hy.out, ← hm1]
        split <;> omega
      have e1 : IntKind.i64.wrap (x + y) = x + y := IntWalk.i64_in _ (by omega)
      have HS0 := Lib.hid hs0
      clear hs0 hx hy
      go_wp2_with fail
      go_quiet (fail)
      go_wp2_with fail
      go_roundg (gk - 1)
      case measure => omega
      case rel => exact ⟨k + 1, by go_num, by omega, by omega, by rw [HST.out], by obtain ⟨d, hd⟩ := HD.out; rw [hd]; exact ⟨_, World.drewN_drewN _ _ _⟩⟩
    · have hkk : k = n := by omega
      have HK := Lib.hid hkk
      have q1 : (n : Int) ≤ (k : Int) := by omega
      obtain ⟨s, hs0⟩ : ∃ s, s = lsm 1099511627776 a b k := ⟨_, rfl⟩
      rw [← hs0] at hs ⊢
      have HS0 : Hid (lsV 1099511627776 a b = tld 1099511627776 s) := by show _ = _; rw [lsV, HLA.out, hs0, HK.out]
      clear hs0 hkk hlt
      by_cases hf : 1099511627776 ≤ s
      · have HV : Hid (lsV 1099511627776 a b = -1) := by show _ = _; rw [HS0.out, tld, if_pos hf]
        go_wp2_with fail
        go_ret
        exact ⟨by rw [HV.out]; rfl, HD.out⟩
      · have HV : Hid (lsV 1099511627776 a b = s) := by show _ = _; rw [HS0.out, tld, if_neg hf]
        have hf' : s < 1099511627776 := by omega
        clear hf
        go_wp2_with fail
        go_ret
        exact ⟨by rw [HV.out]; rfl, HD.out⟩
abbrev fnHit (g5 g6 : Nat) : Value := .func (.func 65) #[] #[.pointer (some ⟨g5, 0, none⟩), .pointer (some ⟨g6, 0, none⟩)]
set_option maxRecDepth 100000 in
set_option maxHeartbeats 4000000 in
theorem iHit_any (g5 g6 : Nat) (A' : Option Addr) (c' : Nat) (a : List Int) (best : Int) (A : Option Addr) (n c : Nat) (b : List Int) (w : World) (k5 : w.cell? ⟨g5, 0, none⟩ = some (.slice A' n c')) (k6 : w.cell? ⟨g6, 0, none⟩ = some (.int .i64 best)) (h' : SlI w w.heap.size A' n a) (h : SlI w w.heap.size A n b) (ha : Bd 1099511627776 a) (hb : Bd 1099511627776 b) (hn : n ≤ 1000000) :
    Calls Try.prog 65 #[.slice A n c, .pointer (some ⟨g5, 0, none⟩), .pointer (some ⟨g6, 0, none⟩)] w fun e w' => e = .returned (.bool (decide (lsV 1099511627776 a b = best))) ∧ ∃ d, w' = w.drewN d := by
  obtain ⟨x, hx⟩ : ∃ x, x = lsV 1099511627776 a b := ⟨_, rfl⟩
  have hQ : Hid (∀ q, Calls Try.prog 61 #[.slice A' n c', .slice A n c] (w.drewN q) fun e w' => e = .returned (.int .i64 x) ∧ ∃ m, w' = (w.drewN q).drewN m) := by
    intro q; rw [hx]; exact iLeastSumQ_any A' n c' a A c b (w.drewN q) h' h ha hb hn
  rw [← hx]
  clear hx h h' ha hb
  go_enter Try.func65, Try.ntmps65
  go_wp2_with fail
  go_quiet ((go_at_call 61; exact Calls.quiet_of (hQ.out _)))
  go_wp2_with fail
  go_ret
  exact ⟨ret_bool (by rfl), ⟨_, rfl⟩⟩
theorem fstT_none {p : Nat → Bool} : ∀ {f l : Nat}, (∀ j, l ≤ j → j < l + f → p j = false) → fstT p f l = l + f
  | 0, l, _ => rfl
  | f + 1, l, h => by
    show (if p l then l else fstT p f (l + 1)) = _
    rw [if_neg (by rw [h l (Nat.le_refl _) (by omega)]; simp), fstT_none (fun j h1 h2 => h j (by omega) (by omega))]
    omega
theorem fstT_hit {p : Nat → Bool} {f k : Nat} (h : ∀ j, j < k → p j = false) (hk : k < f) (hp : p k = true) : fstT p f 0 = k := by
  obtain ⟨a, _, c, _⟩ := fstT_spec (p := p) (f := f) (l := 0) (m := k) (by omega) (by omega) hp
  rcases Nat.lt_or_ge (fstT p f 0) k with h1 | h1
  · rw [h _ h1] at a; cases a
  · omega
/-- The place of the first one, or -1. -/
def ixV (p : Nat → Bool) (f : Nat) : Int := if fstT p f 0 < f then (fstT p f 0 : Int) else -1
set_option maxRecDepth 100000 in
set_option maxHeartbeats 4000000 in
theorem iIndex_any (base gt ct m : Nat) (R : List (List Int)) (g5 g6 : Nat) (A' : Option Addr) (n c' : Nat) (a : List Int) (best : Int) (w : World) (hT : TabI w base 26 (.slice (some ⟨gt, 0, none⟩) m ct) R) (hR : R.length = m) (hm : m ≤ 1000) (hRn : ∀ r ∈ R, r.length = n) (hRb : ∀ r ∈ R, Bd 1099511627776 r) (k5 : w.cell? ⟨g5, 0, none⟩ = some (.slice A' n c')) (k6 : w.cell? ⟨g6, 0, none⟩ = some (.int .i64 best)) (h' : SlI w w.heap.size A' n a) (ha : Bd 1099511627776 a) (hn : n ≤ 1000000) :
    Calls Try.prog 64 #[.slice (some ⟨gt, 0, none⟩) m ct, fnHit g5 g6] w fun e w' => e = .returned (.int .i64 (ixV (fun r => decide (lsV 1099511627776 a (R.getD r []) = best)) m)) ∧ ∃ d, w' = w.drewN d := by
  have HT := Lib.hid hT; have HR := Lib.hid hR; have HRN := Lib.hid hRn; have HRB := Lib.hid hRb; have K5 := Lib.hid k5; have K6 := Lib.hid k6; have H' := Lib.hid h'
  obtain ⟨p, hp⟩ : ∃ p, p = fun r => decide (lsV 1099511627776 a (R.getD r []) = best) := ⟨_, rfl⟩
  rw [← hp]
  have HP := Lib.hid hp
  clear hT hR hRn hRb k5 k6 h' hp
  go_enter Try.func64, Try.ntmps64
  go_wp2_with fail
  go_loopg [5, 8] m (fun q u5 i wr => ∃ k : Nat, i = .int .i64 k ∧ k ≤ m ∧ m ≤ q + k ∧ Hid (∀ j, j < k → p j = false) ∧ Hid (∃ d, wr = w.drewN d))
  case atStart => exact ⟨0, rfl, by omega, by omega, fun j h => by omega, ⟨0, rfl⟩⟩
  case round =>
    obtain ⟨k, rfl, hk, hq, HN, HD⟩ := hrel
    obtain ⟨wo, rfl⟩ : ∃ x : World, x = wr := ⟨_, rfl⟩
    obtain ⟨d, hd⟩ := HD.out
    subst hd
    by_cases hlt : k < m
    · have l0 : (0 : Int) ≤ (k : Int) := by omega
      have l1 : (k : Int) < (m : Int) := by omega
      obtain ⟨r, hr⟩ : ∃ r, R[k]? = some r := ⟨_, List.getElem?_eq_getElem (show k < R.length by have := HR.out; omega)⟩
      obtain ⟨gt', ct', gr, cr, hv, _, _, _, hck, _, _, hgr, _, hcells⟩ := HT.out.at_ hr
      injection hv with e1 e2 e3
      clear e2 e3
      injection e1 with e1
      injection e1 with e1 _ _
      subst e1
      have hrn : r.length = n := HRN.out r (List.mem_of_getElem? hr)
      rw [hrn] at hck
      have hsl : SlI w w.heap.size (some ⟨gr, 0, none⟩) n r := ⟨by rw [iv_length]; exact hrn, fun _ => ⟨gr, 0, rfl, hgr, fun j u hu => by
        obtain ⟨y, hy, rfl⟩ := iv_get hu
        rw [Nat.zero_add]; exact hcells j y hy⟩⟩
      have hH := iHit_any g5 g6 A' c' a best (some ⟨gr, 0, none⟩) n cr r (w.drewN d) K5.out K6.out H'.out hsl ha (HRB.out r (List.mem_of_getElem? hr)) hn
      have hpk : p k = decide (lsV 1099511627776 a r = best) := by
        rw [HP.out]
        show decide (lsV 1099511627776 a (R.getD k []) = best) = _
        rw [List.getD_eq_getElem?_getD, hr]; rfl
      rw [← hpk] at hH
      have HH := Lib.hid hH
      have hck' : (w.drewN d).cell? ⟨gt, k, none⟩ = some (.slice (some ⟨gr, 0, none⟩) n cr) := hck
      clear hcells hsl hH hpk hck hr HD hrn
      cases hpb : p k with
      | true =>
        have HX := Lib.hid (fstT_hit (f := m) HN.out hlt hpb)
        rw [hpb] at HH
        clear hpb
        go_wp2_with fail
        refine HH.out.mono ?_
        rintro e w' ⟨rfl, d2, rfl⟩
        go_wp2_with fail
        go_ret
        exact ⟨ret_int (by rw [ixV, HX.out, if_pos hlt]), ⟨_, rfl⟩⟩
      | false =>
        have HN2 : Hid (∀ j, j < k + 1 → p j = false) := fun j hj => by
          by_cases e : j = k
          · rw [e]; exact hpb
          · exact HN.out j (by omega)
        rw [hpb] at HH
        clear hpb
        go_wp2_with fail
        refine HH.out.mono ?_
        rintro e w' ⟨rfl, d2, rfl⟩
        go_wp2_with fail
        go_roundg (gk - 1)
        case measure => omega
        case rel => exact ⟨k + 1, by go_num, by omega, by omega, HN2.out, ⟨_, rfl⟩⟩
    · have hkk : k = m := by omega
      have l1 : (m : Int) ≤ (k : Int) := by omega
      have HX : Hid (fstT p m 0 = m) := by
        have := fstT_none (p := p) (f := m) (l := 0) (fun j _ h2 => HN.out j (by omega))
        show _ = _
        omega
      clear hkk hlt
      go_wp2_with fail
      go_ret
      exact ⟨ret_int (by rw [ixV, HX.out, if_neg (by omega)]), ⟨_, rfl⟩⟩
end Go.Proofs.Ytegponioggpkcaa
