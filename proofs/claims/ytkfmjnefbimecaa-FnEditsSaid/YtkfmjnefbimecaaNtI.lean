/- NearTexts of the program. -/
import Derived.Test.YtkfmjnefbimecaaMgf
import Derived.Deep.Onto

namespace Go.Proofs.Ytkfmjnefbimecaa
open Go.RowKit Go.PlainAid
set_option linter.unusedVariables false
def ntC (ss : List ByteArray) (t : ByteArray) (j : Nat) : Int := (nrs ss t).getD j 0
def ntB (ss : List ByteArray) (t : ByteArray) (most : Int) : Bool := nsB ss t && allIn [most] 0 1000
def ix (l : List Nat) : List Int := l.map fun (j : Nat) => (j : Int)
def ntL (ss : List ByteArray) (t : ByteArray) (most : Int) : List Int := ix (ntTo (ntC ss t) ss.length ((min most 48).toNat + 1))
theorem ix_snoc (l : List Nat) (j : Nat) : ix (l ++ [j]) = ix l ++ [(j : Int)] := by simp [ix]
theorem ntAt_len (cs : Nat → Int) (q : Int) (m : Nat) : (ntAt cs q m).length ≤ m := by
  unfold ntAt
  have := List.length_filter_le (fun j => decide (cs j = q)) (List.range m)
  simpa using this
theorem ntTo_len (cs : Nat → Int) (n q : Nat) : (ntTo cs n q).length ≤ q * n := by
  induction q with
  | zero => simp [ntTo]
  | succ q ih =>
    rw [ntTo, List.length_append, Nat.succ_mul]
    have := ntAt_len cs (q : Int) n
    omega
theorem ns_parts {ss : List ByteArray} {t : ByteArray} (h : nsB ss t = true) : ss.length ≤ 32 ∧ ss.all txtB = true ∧ t.size ≤ 48 := by
  have h' : (ltB ss && txtB t) = true := h
  rw [Bool.and_eq_true] at h'
  exact ⟨(lt_parts h'.1).1, (lt_parts h'.1).2, txtB_true h'.2⟩
theorem ntC_bd {ss : List ByteArray} {t : ByteArray} (h : nsB ss t = true) (j : Nat) : 0 ≤ ntC ss t j ∧ ntC ss t j ≤ 48 := by
  have hp := ns_parts h
  unfold ntC
  rw [List.getD_eq_getElem?_getD]
  cases hx : (nrs ss t)[j]? with
  | none => simp
  | some x =>
    simp only [Option.getD_some]
    simp only [nrs, List.getElem?_map, Option.map_eq_some_iff] at hx
    obtain ⟨s, hs, rfl⟩ := hx
    exact sw_48 (txt_all hp.2.1 hs) hp.2.2
theorem ntC_get {ss : List ByteArray} {t : ByteArray} {j : Nat} (hj : j < ss.length) : (nrs ss t)[j]? = some (ntC ss t j) := by
  have : j < (nrs ss t).length := by rw [nrs_length]; exact hj
  unfold ntC
  rw [List.getD_eq_getElem?_getD, List.getElem?_eq_getElem this]; rfl
theorem nt_snoc (cs : Nat → Int) (n k j : Nat) (h : cs j = (k : Int)) : ix (ntTo cs n k ++ ntAt cs k (j + 1)) = ix (ntTo cs n k ++ ntAt cs k j) ++ [(j : Int)] := by
  rw [ntAt_succ_yes cs h, ← List.append_assoc, ix_snoc]
theorem nt_skip (cs : Nat → Int) (n k j : Nat) (h : cs j ≠ (k : Int)) : ix (ntTo cs n k ++ ntAt cs k (j + 1)) = ix (ntTo cs n k ++ ntAt cs k j) := by
  rw [ntAt_succ_no cs h]
theorem ix_len (l : List Nat) : (ix l).length = l.length := by simp [ix]
set_option maxHeartbeats 2000000 in
theorem iNearTexts_any (A : Option Addr) (n c : Nat) (ss : List ByteArray) (t : ByteArray) (most : Int) (w : World) (h : SlS w w.heap.size A n ss) (hn : n ≤ maxLen) (wt : t.size ≤ maxLen) :
    Calls Try.prog 39 #[.slice A n c, .string t, .int .i64 most] w fun e w' => ∃ v, e = .returned (.tuple #[v, .bool (ntB ss t most)]) ∧ NsOut w' w.heap.size v (ntB ss t most) (ntL ss t most) ∧ Below w.heap.size w w' := by
  have hl := Lib.hid h.len
  have hS := iSwapCosts_any A n c ss t w h hn wt
  clear h
  by_cases h1 : nsB ss t = true
  · rw [h1] at hS
    have hlen : (nrs ss t).length = n := by rw [nrs_length]; exact hl.out
    by_cases h2 : allIn [most] 0 1000 = true
    · have hB := Lib.hid (show ntB ss t most = true by rw [ntB, h1, h2]; rfl)
      have hm : 0 ≤ most ∧ most ≤ 1000 := by
        simp only [allIn, List.all_cons, List.all_nil, Bool.and_true] at h2
        exact inB_true h2
      have hp := ns_parts h1
      have h32 : n ≤ 32 := by rw [← hl.out]; exact hp.1
      have HBD := Lib.hid (ntC_bd h1)
      obtain ⟨M, hM⟩ : ∃ M : Nat, (if (48 : Int) < most then 48 else most) = (M : Int) := ⟨(min most 48).toNat, by split <;> omega⟩
      have hMb : M ≤ 48 := by split at hM <;> omega
      have HL := Lib.hid (show ntL ss t most = ix (ntTo (ntC ss t) n (M + 1)) by rw [ntL, hl.out]; congr 3; split at hM <;> omega)
      clear h1 hp
      go_enter Try.func39, Try.ntmps39
      go_wp2_with (first | (go_at_call 90; refine hS.mono ?_; rintro e w2 ⟨v, rfl, hv, hb2⟩; clear hS; have hv' : RowI w2 w.heap.size 2 v (nrs ss t) := hv; obtain ⟨A2, c2, hv2, _, _⟩ := own_form hv'; rw [hlen] at hv2; subst hv2; have HV := Lib.hid hv'; clear hv hv') | (go_at_call 80; refine (iCosts_any (some ⟨w2.heap.size, 0, none⟩) 1 1 [most] (w2.heap.size + 1) _ (by have := (Row.new w2 2 (iv [most])).sl; simp at this; exact this) (by omega)).mono ?_; rintro e w' ⟨rfl, hw⟩; subst hw))
      have hb3 : Below w2.heap.size w2 (w2.alloc (.cells #[.int .i64 most] 2)) := (Below.refl _ _).alloc (Nat.le_refl _) _
      have hs2 := hb2.size
      have hR0 : RowI ((w2.alloc (.cells #[.int .i64 most] 2)).alloc (.cells #[] 2)) w2.heap.size 2 (.slice (some ⟨w2.heap.size + 1, 0, none⟩) 0 0) [] := by
        have h := RowI.made (w2.alloc (.cells #[.int .i64 most] 2)) w2.heap.size 2 hb3.size
        simpa using h
      go_loopg [10, 32] (M + 1) (fun m o q wr => ∃ k : Nat, q = .int .i64 k ∧ k ≤ M + 1 ∧ M + 1 ≤ m + k ∧ RowI wr w2.heap.size 2 o (ix (ntTo (ntC ss t) n k)) ∧ Below w2.heap.size w2 wr)
      case atStart => exact ⟨0, rfl, by omega, by omega, hR0, hb3.alloc hb3.size _⟩
      case round =>
        obtain ⟨k, rfl, hk, hm, hr, hb⟩ := hrel
        have HR := Lib.hid hr; clear hr
        have hs := hb.size
        by_cases hlt : k < M + 1
        · obtain ⟨go, hgo⟩ : ∃ g : Nat, g = gk := ⟨_, rfl⟩
          have l0 : (k : Int) < (M : Int) + 1 := by omega
          go_wp2
          go_loopg [10, 37] n (fun m' o' i wr' => ∃ j : Nat, i = .int .i64 j ∧ j ≤ n ∧ n ≤ m' + j ∧ RowI wr' w2.heap.size 2 o' (ix (ntTo (ntC ss t) n k ++ ntAt (ntC ss t) k j)) ∧ Below w2.heap.size w2 wr')
          case atStart => exact ⟨0, rfl, by omega, by omega, by simpa [ntAt] using HR.out, hb⟩
          case round =>
            obtain ⟨j, rfl, hj, hm', hr', hb'⟩ := hrel
            have HR' := Lib.hid hr'; clear hr'
            have hs' := hb'.size
            by_cases hjn : j < n
            · obtain ⟨b, off, x, rfl, hbB, hx, hc⟩ := ((HV.out.sl hlen).below hb' (Nat.le_refl _)).at_ hjn
              have hx' : x = ntC ss t j := by have h := hx.out; rw [ntC_get (by rw [hl.out]; exact hjn)] at h; exact (Option.some.inj h).symm
              have l1 : (0 : Int) ≤ (j : Int) := by omega
              by_cases hq : x = (k : Int)
              · go_wp2_with (first | (at_builtin; refine wpList_int_push _ rfl (.tmp 45) (.tmp 47) _ rfl w2.heap.size 2 Try.underlying26 infoI7 _ (ix (ntTo (ntC ss t) n k ++ ntAt (ntC ss t) k j)) rfl HR'.out _ rfl (by rw [ix_len, List.length_append]; have := ntTo_len (ntC ss t) n k; have := ntAt_len (ntC ss t) k j; have : k * n ≤ 48 * 32 := Nat.mul_le_mul (by omega) h32; omega) hs' ?_; intro g' cap w' hown hbl hat hgr))
                go_roundg (gk - 1)
                case measure => omega
                case rel => exact ⟨j + 1, by go_num, by omega, by omega, by rw [nt_snoc _ _ _ _ (by rw [← hx']; exact hq)]; exact hown, hb'.trans (hbl.mono (Nat.le_refl _))⟩
              · go_wp2
                go_roundg (gk - 1)
                case measure => omega
                case rel => exact ⟨j + 1, by go_num, by omega, by omega, by rw [nt_skip _ _ _ _ (by rw [← hx']; exact hq)]; exact HR'.out, hb'⟩
            · obtain rfl : n = j := by omega
              go_wp2
              go_roundg (go - 1)
              case measure => omega
              case rel => exact ⟨k + 1, by go_num, by omega, by omega, HR'.out, hb'⟩
        · obtain rfl : k = M + 1 := by omega
          go_wp2
          go_ret2
          exact ⟨_, by rw [hB.out]; rfl, by rw [NsOut, hB.out, HL.out]; exact World.ownsRow.mono HR.out hs2, hb2.trans (hb.mono hs2)⟩
    · have h2' : allIn [most] 0 1000 = false := by simpa using h2
      have hB := Lib.hid (show ntB ss t most = false by rw [ntB, h2', Bool.and_false])
      clear h2
      go_enter Try.func39, Try.ntmps39
      go_wp2_with (first | (go_at_call 90; refine hS.mono ?_; rintro e w2 ⟨v, rfl, hv, hb2⟩; clear hS; clear hv) | (go_at_call 80; refine (iCosts_any (some ⟨w2.heap.size, 0, none⟩) 1 1 [most] (w2.heap.size + 1) _ (by have := (Row.new w2 2 (iv [most])).sl; simp at this; exact this) (by omega)).mono ?_; rintro e w' ⟨rfl, hw⟩; subst hw))
      go_ret2
      exact ⟨_, by rw [hB.out]; rfl, by rw [NsOut, hB.out]; rfl, hb2.alloc hb2.size _⟩
  · have h1' : nsB ss t = false := by simpa using h1
    have hB := Lib.hid (show ntB ss t most = false by rw [ntB, h1', Bool.false_and])
    rw [h1'] at hS
    clear h1
    go_enter Try.func39, Try.ntmps39
    go_wp2_with (first | (go_at_call 90; refine hS.mono ?_; rintro e w2 ⟨v, rfl, hv, hb2⟩; clear hS; clear hv))
    go_ret2
    exact ⟨_, by rw [hB.out]; rfl, by rw [NsOut, hB.out]; rfl, hb2⟩
end Go.Proofs.Ytkfmjnefbimecaa
