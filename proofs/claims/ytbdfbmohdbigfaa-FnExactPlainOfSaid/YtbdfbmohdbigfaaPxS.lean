/- Sets of states of the reference: the walks (l02Held, l02Costs, l02Set, l02Index). -/
import Derived.Test.YtbdfbmohdbigfaaPxR
import Derived.Test.YtbdfbmohdbigfaaCoS4
import Derived.Test.YtbdfbmohdbigfaaCoS6
import Derived.Deep.LoopGhost
import Derived.Deep.QuietTactic
import Derived.BigQuiet

namespace Go.Proofs.Ytbdfbmohdbigfaa
open Go.RowKit
set_option linter.unusedVariables false
theorem sHeld_any (v i : Nat) (hv : v < 65536) (hi : i < 16) (w : World) :
    Calls Try.prog 63 #[.int .i64 ((v : Nat) : Int), .int .i64 ((i : Nat) : Int)] w fun e w' => e = .returned (.bool (v.testBit i)) ∧ w = w' := by
  have W3 : bits .and .i64 ((v : Int) / 2 ^ i) 1 = if v.testBit i then 1 else 0 := tst_i64 hv
  have l0 : (0 : Int) ≤ (i : Int) := by omega
  have l1 : (i : Int) ≤ 64 := by omega
  cases hb : v.testBit i with
  | true =>
    rw [hb, if_pos rfl] at W3
    clear hb hv
    go_enter Try.func63, Try.ntmps63
    go_wp2
    go_ret
    exact ⟨rfl, rfl⟩
  | false =>
    rw [hb, if_neg (by simp)] at W3
    clear hb hv
    go_enter Try.func63, Try.ntmps63
    go_wp2
    go_ret
    exact ⟨rfl, rfl⟩
theorem vOf_succ (F : Int) (v k : Nat) : vOf F (k + 1) v = vOf F k v ++ [if v.testBit k then 0 else F] := by unfold vOf; rw [List.range_succ, List.map_append]; rfl
set_option maxHeartbeats 2000000 in
theorem sCosts2_any (v n : Nat) (hv : v < 65536) (hn : n ≤ 16) (w : World) :
    Calls Try.prog 65 #[.int .i64 ((v : Nat) : Int), .int .i64 ((n : Nat) : Int)] w fun e w' => ∃ A c, e = .returned (.slice A n c) ∧ RowI w' w.heap.size 2 (.slice A n c) (vOf 1000000000 n v) ∧ Below w.heap.size w w' := by
  go_enter Try.func65, Try.ntmps65
  go_wp2_with fail
  go_loopg [5, 6] n (fun q o i wr => ∃ (k : Nat) (A : Option Addr) (c : Nat), i = .int .i64 k ∧ k ≤ n ∧ n ≤ q + k ∧ o = .slice A k c ∧ Hid (RowI wr w.heap.size 2 (.slice A k c) (vOf 1000000000 k v)) ∧ Hid (Below w.heap.size w wr))
  case atStart => exact ⟨0, _, _, rfl, by omega, by omega, rfl, RowI.made _ _ _ (Nat.le_refl _), (Below.refl _ _).alloc (Nat.le_refl _) _⟩
  case round =>
    obtain ⟨k, A, c, rfl, hk, hm, rfl, HO, HB⟩ := hrel
    obtain ⟨wo, rfl⟩ : ∃ x : World, x = wr := ⟨_, rfl⟩
    by_cases hlt : k < n
    · have q1 : (k : Int) < (n : Int) := by omega
      have hs := HB.out.size
      have hlen : Hid ((vOf 1000000000 k v).length + 1 ≤ 4294967296) := by show _ ≤ _; rw [vOf_len]; omega
      have HST := Lib.hid (vOf_succ 1000000000 v k)
      have hlk : Hid ((vOf 1000000000 k v).length = k) := vOf_len _ _ _
      have CH := Lib.hid (sHeld_any v k hv (by omega) wo)
      cases hb : v.testBit k with
      | true =>
        rw [hb] at CH
        have HS : Hid (vOf 1000000000 (k + 1) v = vOf 1000000000 k v ++ [0]) := by show _ = _; rw [HST.out, hb]; rfl
        go_wp2_with (first | (go_at_call 63; refine CH.out.mono ?_; rintro e w' ⟨rfl, hw⟩; obtain rfl := hw) | (at_builtin; refine wpList_int_push _ rfl (.tmp 16) (.tmp 17) _ rfl w.heap.size 2 Try.underlying26 infoQ _ (vOf 1000000000 k v) rfl HO.out _ rfl hlen.out hs ?_; intro g' cap w' hown hbl hat hgr; clear hat hgr; have HOW := Lib.hid hown; have HBL := Lib.hid hbl; clear hown hbl))
        go_roundg (gk - 1)
        case measure => omega
        case rel =>
          refine ⟨k + 1, some ⟨g', 0, none⟩, cap, by go_num, by omega, by omega, by rw [hlk.out], ?_, HB.out.trans HBL.out⟩
          show RowI _ _ _ _ _
          rw [HS.out]
          have := HOW.out
          rw [hlk.out] at this
          exact this
      | false =>
        rw [hb] at CH
        have HS : Hid (vOf 1000000000 (k + 1) v = vOf 1000000000 k v ++ [1000000000]) := by show _ = _; rw [HST.out, hb]; rfl
        go_wp2_with (first | (go_at_call 63; refine CH.out.mono ?_; rintro e w' ⟨rfl, hw⟩; obtain rfl := hw) | (at_builtin; refine wpList_int_push _ rfl (.tmp 19) (.tmp 20) _ rfl w.heap.size 2 Try.underlying26 infoQ _ (vOf 1000000000 k v) rfl HO.out _ rfl hlen.out hs ?_; intro g' cap w' hown hbl hat hgr; clear hat hgr; have HOW := Lib.hid hown; have HBL := Lib.hid hbl; clear hown hbl))
        go_roundg (gk - 1)
        case measure => omega
        case rel =>
          refine ⟨k + 1, some ⟨g', 0, none⟩, cap, by go_num, by omega, by omega, by rw [hlk.out], ?_, HB.out.trans HBL.out⟩
          show RowI _ _ _ _ _
          rw [HS.out]
          have := HOW.out
          rw [hlk.out] at this
          exact this
    · have hkk : k = n := by omega
      have HK := Lib.hid hkk
      have q1 : (n : Int) ≤ (k : Int) := by omega
      have dl : decide (k < n) = false := decide_eq_false hlt
      clear hkk hlt
      go_wp2_with fail
      go_ret
      exact ⟨A, c, by rw [← HK.out]; rfl, by rw [← HK.out]; exact HO.out, HB.out⟩
theorem stB_succ (n : Nat) (v : List Int) (C : List (List Int)) : stM n v C = mkN (stB n v C) n := rfl
/-- l02Set on the way: rows before i are done, of row i the places before k. -/
def stT (v : List Int) (C : List (List Int)) (i k j : Nat) : Bool := ((List.range i).any fun a => decide (g0 v a < 1000000000) && decide (gg C a j < 1000000000)) || (decide (j < k) && (decide (g0 v i < 1000000000) && decide (gg C i j < 1000000000)))
theorem stT_row (v : List Int) (C : List (List Int)) (i n : Nat) (j : Nat) (hj : j < n) : stT v C i n j = stT v C (i + 1) 0 j := by
  unfold stT
  rw [List.range_succ, List.any_append, decide_eq_true hj, decide_eq_false (Nat.not_lt_zero j)]
  simp
theorem stT_end (v : List Int) (C : List (List Int)) (n j : Nat) : stT v C n 0 j = stB n v C j := by
  unfold stT stB
  rw [decide_eq_false (Nat.not_lt_zero j)]
  simp
theorem stT_hit {n : Nat} {v : List Int} {C : List (List Int)} {i k u : Nat} (h : Mk_ n u (stT v C i k)) (hk : k < n) (h1 : g0 v i < 1000000000) (h2 : gg C i k < 1000000000) : Mk_ n (u ||| 2 ^ k) (stT v C i (k + 1)) := by
  refine (h.put hk).congr (fun j hj => ?_)
  unfold stT
  rcases Nat.lt_trichotomy j k with q | q | q
  · rw [decide_eq_true q, decide_eq_true (show j < k + 1 by omega), decide_eq_false (show ¬ j = k by omega)]; simp
  · subst q
    rw [decide_eq_true (show j < j + 1 by omega), decide_eq_true h1, decide_eq_true h2]; simp
  · rw [decide_eq_false (show ¬ j < k by omega), decide_eq_false (show ¬ j < k + 1 by omega), decide_eq_false (show ¬ j = k by omega)]; simp
theorem stT_miss {n : Nat} {v : List Int} {C : List (List Int)} {i k u : Nat} (h : Mk_ n u (stT v C i k)) (hk : k < n) (h1 : ¬ (g0 v i < 1000000000 ∧ gg C i k < 1000000000)) : Mk_ n u (stT v C i (k + 1)) := by
  refine h.congr (fun j hj => ?_)
  unfold stT
  rcases Nat.lt_trichotomy j k with q | q | q
  · rw [decide_eq_true q, decide_eq_true (show j < k + 1 by omega)]
  · subst q
    have e : (decide (g0 v i < 1000000000) && decide (gg C i j < 1000000000)) = false := by
      cases h3 : (decide (g0 v i < 1000000000) && decide (gg C i j < 1000000000)) with
      | false => rfl
      | true => rw [Bool.and_eq_true, decide_eq_true_iff, decide_eq_true_iff] at h3; exact absurd h3 h1
    rw [e]; simp
  · rw [decide_eq_false (show ¬ j < k by omega), decide_eq_false (show ¬ j < k + 1 by omega)]
set_option maxRecDepth 100000 in
set_option maxHeartbeats 4000000 in
theorem sSet_any (A : Option Addr) (n c : Nat) (v : List Int) (gt ct : Nat) (C : List (List Int)) (w : World) (h : SlI w w.heap.size A n v) (hC : TabR w gt n C) (hn : n ≤ 16) :
    Calls Try.prog 61 #[.slice A n c, .slice (some ⟨gt, 0, none⟩) n ct] w fun e w' => e = .returned (.int .i64 ((stM n v C : Nat) : Int)) ∧ w = w' := by
  have H := Lib.hid h; have HC := Lib.hid hC; clear h hC
  go_enter Try.func61, Try.ntmps61
  go_wp2_with fail
  go_loopg [5, 6] n (fun m u i wr => ∃ (k q : Nat), i = .int .i64 k ∧ k ≤ n ∧ n ≤ m + k ∧ u = .int .i64 ((q : Nat) : Int) ∧ Hid (Mk_ n q (stT v C k 0)) ∧ w = wr)
  case atStart => exact ⟨0, 0, rfl, by omega, by omega, rfl, (Mk_.zero n).congr (fun j _ => by simp [stT]), rfl⟩
  case round =>
    obtain ⟨i, q, rfl, hi, hm, rfl, HQ, rfl⟩ := hrel
    by_cases hlt : i < n
    · have l1 : (i : Int) < (n : Int) := by omega
      have l0 : (0 : Int) ≤ (i : Int) := by omega
      go_wp2_with fail
      obtain ⟨go, hgo⟩ : ∃ x : Nat, x = gk := ⟨_, rfl⟩
      go_loopg [5, 7] n (fun m u j wr => ∃ (k q : Nat), j = .int .i64 k ∧ k ≤ n ∧ n ≤ m + k ∧ u = .int .i64 ((q : Nat) : Int) ∧ Hid (Mk_ n q (stT v C i k)) ∧ w = wr)
      case atStart => exact ⟨0, q, rfl, by omega, by omega, rfl, HQ.out, rfl⟩
      case round =>
        clear HQ
        obtain ⟨k, q, rfl, hk, hm2, rfl, HQ, rfl⟩ := hrel
        by_cases hlt2 : k < n
        · obtain ⟨b, off, x, rfl, hbB, hx, c0⟩ := H.out.at_ hlt
          obtain ⟨g, cg, e1, e2⟩ := HC.out.at_ hlt hlt2
          obtain ⟨y, hy⟩ : ∃ y, y = gg C i k := ⟨_, rfl⟩
          rw [← hy] at e2
          have HY := Lib.hid hy
          have HX : Hid (g0 v i = x) := g0_get hx.out
          have l2 : (k : Int) < (n : Int) := by omega
          have l3 : (0 : Int) ≤ (k : Int) := by omega
          have l4 : (k : Int) ≤ 64 := by omega
          have hqs := HQ.out.small hn
          have W1 : IntKind.i64.wrap (2 ^ k) = ((2 ^ k : Nat) : Int) := wrap_pow (by omega)
          have W2 : bits .or .i64 ((q : Nat) : Int) (2 ^ k) = ((q ||| 2 ^ k : Nat) : Int) := by rw [pow_cast]; exact put_i64 hqs (by omega)
          clear hy hqs
          by_cases h1 : x < 1000000000
          · have d1 : decide (x < 1000000000) = true := decide_eq_true h1
            by_cases h2 : y < 1000000000
            · have d2 : decide (y < 1000000000) = true := decide_eq_true h2
              have HN := Lib.hid (stT_hit HQ.out hlt2 (by rw [HX.out]; exact h1) (by rw [← HY.out]; exact h2))
              clear hlt2
              go_wp2_with fail
              go_roundg (gk - 1)
              case measure => omega
              case rel => exact ⟨k + 1, q ||| 2 ^ k, by go_num, by omega, by omega, by first | rfl | rw [W2], HN.out, rfl⟩
            · have d2 : decide (y < 1000000000) = false := decide_eq_false h2
              have HN := Lib.hid (stT_miss HQ.out hlt2 (fun h => h2 (by rw [HY.out]; exact h.2)))
              have h2' : 1000000000 ≤ y := by omega
              clear hlt2 h2 W1 W2
              go_wp2_with fail
              go_roundg (gk - 1)
              case measure => omega
              case rel => exact ⟨k + 1, q, by go_num, by omega, by omega, rfl, HN.out, rfl⟩
          · have d1 : decide (x < 1000000000) = false := decide_eq_false h1
            have HN := Lib.hid (stT_miss HQ.out hlt2 (fun h => h1 (by rw [← HX.out]; exact h.1)))
            have h1' : 1000000000 ≤ x := by omega
            clear hlt2 h1 W1 W2
            go_wp2_with fail
            go_roundg (gk - 1)
            case measure => omega
            case rel => exact ⟨k + 1, q, by go_num, by omega, by omega, rfl, HN.out, rfl⟩
        · have hkn : k = n := by omega
          have HN : Hid (Mk_ n q (stT v C (i + 1) 0)) := HQ.out.congr (fun j hj => by rw [hkn]; exact stT_row v C i n j hj)
          have l2 : (n : Int) ≤ (k : Int) := by omega
          have dl : decide (k < n) = false := decide_eq_false hlt2
          clear hkn hlt2
          go_wp2_with fail
          go_roundg (go - 1)
          case measure => omega
          case rel => exact ⟨i + 1, q, by go_num, by omega, by omega, rfl, HN.out, rfl⟩
    · have hin : i = n := by omega
      have HN : Hid (q = stM n v C) := (HQ.out.congr (fun j hj => by rw [hin]; exact stT_end v C n j)).is
      have l2 : (n : Int) ≤ (i : Int) := by omega
      have dl : decide (i < n) = false := decide_eq_false hlt
      clear hin hlt
      go_wp2_with fail
      go_ret
      exact ⟨by rw [HN.out]; rfl, rfl⟩
end Go.Proofs.Ytbdfbmohdbigfaa
