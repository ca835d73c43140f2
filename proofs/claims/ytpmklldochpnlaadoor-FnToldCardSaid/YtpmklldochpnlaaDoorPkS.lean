/- Packing: the reference. -/
import Derived.Test.YtpmklldochpnlaaDoorPkP
import Derived.Test.YtpmklldochpnlaaDoorRev
import Derived.Test.YtpmklldochpnlaaDoorMgd
import Derived.Deep.LoopGhost
import Derived.Deep.QuietTactic
import Derived.BigQuiet
import Derived.Laws.AppendOwn

namespace Go.Proofs.YtpmklldochpnlaaDoor
open Go.RowKit Go.PlainAid
set_option linter.unusedVariables false
/-- The digits that are still to come, ahead of those that are there. -/
def dcF : Nat → Nat → List UInt8 → List UInt8
  | 0, q, L => L
  | f + 1, q, L => if L = [] ∨ q ≠ 0 then dcF f (q / 10) (UInt8.ofNat (48 + q % 10) :: L) else L
theorem dcF_dec2 {n : Nat} (h : n < 100) : dcF 3 n [] = dec2 n := by
  unfold dec2
  by_cases h1 : n < 10
  · have h2 : n / 10 = 0 := by omega
    have h3 : n % 10 = n := by omega
    simp [dcF, h1, h2, h3]
  · have h2 : n / 10 ≠ 0 := by omega
    have h3 : n / 10 / 10 = 0 := by omega
    have h4 : n / 10 % 10 = n / 10 := by omega
    simp [dcF, h1, h2, h3, h4]
set_option maxRecDepth 100000 in
set_option maxHeartbeats 4000000 in
theorem sDec_any (n : Nat) (hn : n < 100) (w : World) :
    Calls Tryd.prog 39 #[.int .i64 n] w fun e w' => e = .returned (.string ⟨(dec2 n).toArray⟩) ∧ Below w.heap.size w w' := by
  have hh := Lib.hid (dcF_dec2 hn)
  go_enter Tryd.func39, Tryd.ntmps39
  go_wp2_with fail
  go_loopg [3, 4, 5] 3 (fun m o x d wr => ∃ (f q g c : Nat) (L : List UInt8), o = .slice (some ⟨g, 0, none⟩) L.length c ∧ x = .int .i64 q ∧ q < 100 ∧ f ≤ m ∧ L.length + f = 3 ∧ Hid (q < 10 ^ f ∨ L = []) ∧ Hid (dcF f q L = dec2 n) ∧ Hid (OwnB wr w.heap.size g c L) ∧ Hid (Below w.heap.size w wr))
  case atStart => exact ⟨3, n, _, 0, [], rfl, rfl, hn, by omega, rfl, .inr rfl, hh.out, OwnB.made w w.heap.size (Nat.le_refl _), (Below.refl _ _).alloc (Nat.le_refl _) _⟩
  case round =>
    obtain ⟨f, q, g, c, L, rfl, rfl, hq, hf, hlf, HQ, HD, HO, HB⟩ := hrel
    by_cases hgo : L = [] ∨ q ≠ 0
    · have hf1 : 1 ≤ f := by
        rcases hgo with h | h
        · subst h; simp at hlf; omega
        · rcases HQ.out with h2 | h2
          · rcases f with _ | f
            · simp at h2; exact absurd h2 h
            · omega
          · subst h2; simp at hlf; omega
      obtain ⟨f, rfl⟩ : ∃ x, f = x + 1 := ⟨f - 1, by omega⟩
      obtain ⟨d, hd⟩ : ∃ d, d = q % 10 := ⟨_, rfl⟩
      obtain ⟨q2, hq2⟩ : ∃ d, d = q / 10 := ⟨_, rfl⟩
      have HD' : Hid (dcF f q2 (UInt8.ofNat (48 + d) :: L) = dec2 n) := by show _ = _; rw [← HD.out, dcF, if_pos hgo, hd, hq2]
      have hd10 : d < 10 := by omega
      have hq22 : q2 < 100 := by omega
      have HQ' : Hid (q2 < 10 ^ f ∨ (UInt8.ofNat (48 + d) :: L) = []) := by
        refine .inl ?_
        rcases HQ.out with h2 | h2
        · rw [Nat.pow_succ] at h2; omega
        · subst h2
          simp at hlf
          have : f = 2 := by omega
          subst this
          show q2 < 100; omega
      have t1 : (q : Int).tmod 10 = (d : Int) := by rw [Int.tmod_eq_emod_of_nonneg (by omega)]; omega
      have t2 : (q : Int) % 10 = (d : Int) := by omega
      have t3 : (q : Int).tdiv 10 = (q2 : Int) := by rw [Int.tdiv_eq_ediv_of_nonneg (by omega)]; omega
      have t4 : (q : Int) / 10 = (q2 : Int) := by omega
      have w1 : IntKind.u8.wrap (48 + (d : Int)) = 48 + (d : Int) := IntWalk.u8_in _ (by omega)
      have w2 : IntKind.i64.wrap (48 + (d : Int)) = 48 + (d : Int) := IntWalk.i64_in _ (by omega)
      have hby : ((UInt8.ofNat (48 + d)).toNat : Int) = 48 + (d : Int) := by rw [UInt8.toNat_ofNat_of_lt' (show 48 + d < 256 by omega)]; omega
      have HBY := Lib.hid hby
      have hL3 : L.length ≤ 2 := by omega
      have HSZ := Lib.hid HB.out.size
      obtain ⟨ti, hti, hz⟩ : ∃ i, Tryd.prog.info? 5 = some i ∧ (i.zero, i.size, i.bytes) = (some (.int .u8 0), 1, 1) := by
        have h := infoB8
        cases hq : Tryd.prog.info? 5 with
        | none => rw [hq] at h; cases h
        | some i => rw [hq] at h; exact ⟨i, rfl, Option.some.inj h⟩
      have HTI := Lib.hid hti
      have HZ := Lib.hid hz
      clear hti hz hby hd hq2
      have HN : Hid ((wr.alloc (.cells #[.int .u8 (48 + (d : Int))] 5)).ownsRow w.heap.size 5 1 (.slice (some ⟨wr.heap.size, 0, none⟩) 1 1) 1 [.int .u8 (48 + (d : Int))]) := Row.own (cap := 0) (Row.new wr 5 [.int .u8 (48 + (d : Int))]) HB.out.size (by simp [maxLen])
      have HC : Hid (∀ j u, (bvs L)[j]? = some u → (wr.alloc (.cells #[.int .u8 (48 + (d : Int))] 5)).cell? ((⟨g, 0, none⟩ : Addr).add j) = some u) := World.ownsRow.cells (HO.out.alloc _) rfl
      have HONE : Hid (∀ u ∈ bvs L, u.oneCell' = true) := fun u hu => by simp only [bvs, List.mem_map] at hu; obtain ⟨y, -, rfl⟩ := hu; rfl
      have HSA : Hid (w.heap.size ≤ (wr.alloc (.cells #[.int .u8 (48 + (d : Int))] 5)).heap.size) := by show _ ≤ _; have := HSZ.out; simp; omega
      have HZ1 : Hid (ti.zero = some (.int .u8 0)) := congrArg Prod.fst HZ.out
      have HZ2 : Hid (ti.size = 1) := (Prod.mk.inj (Prod.mk.inj HZ.out).2).1
      have HZ3 : Hid (ti.bytes = 1) := (Prod.mk.inj (Prod.mk.inj HZ.out).2).2
      by_cases hL0 : L = []
      · subst hL0
        clear hgo
        have n1 : (q : Int).tmod 10 = (d : Int) := t1
        go_wp2_with (first | (at_builtin; refine wpList_append_own _ rfl (.tmp 24) (.tmp 25) _ rfl w.heap.size 5 ti (.int .u8 0) 1 1 Tryd.underlying25 HTI.out HZ1.out HZ2.out HZ3.out rfl (by omega) (.slice (some ⟨wr.heap.size, 0, none⟩) 1 1) 1 [.int .u8 (48 + (d : Int))] rfl HN.out ⟨g, 0, none⟩ 0 c (bvs []) rfl rfl HC.out HONE.out (by unfold maxLen; omega) (by omega) HSA.out ?_; intro v' w' hown hgr hiff; have hbl := Lib.hid (grown_below HN.out hgr HSA.out); obtain ⟨g', c', hv', hg1, hg2⟩ := World.ownsRow.form hown (by omega); subst hv'; have HOW := Lib.hid hown; clear hown hgr hiff hg1 hg2))
        go_roundg (gk - 1)
        case measure => omega
        case rel =>
          refine ⟨f, q2, g', c', [UInt8.ofNat (48 + d)], rfl, rfl, hq22, by omega, by simp at hlf; simp; omega, HQ'.out, HD'.out, ?_, (HB.out.alloc HB.out.size _).trans hbl.out⟩
          have h := HOW.out
          show World.ownsRow _ _ _ _ _ _ _
          rw [show bvs [UInt8.ofNat (48 + d)] = [.int .u8 (48 + (d : Int))] ++ bvs [] by show Value.int .u8 ((UInt8.ofNat (48 + d)).toNat : Int) :: bvs [] = _; rw [HBY.out]; rfl]
          exact h
      · have hL1 : 1 ≤ L.length := by
          cases L with
          | nil => exact absurd rfl hL0
          | cons _ _ => simp
        have hq0 : q ≠ 0 := by rcases hgo with h | h; exact absurd h hL0; exact h
        have n1 : ((L.length : Int) == 0) = false := by simp; omega
        have n2 : ((q : Int) != 0) = true := by simp; omega
        have n3 : ((q : Int) == 0) = false := by simp; omega
        clear hgo hL0
        go_wp2_with (first | (at_builtin; refine wpList_append_own _ rfl (.tmp 24) (.tmp 25) _ rfl w.heap.size 5 ti (.int .u8 0) 1 1 Tryd.underlying25 HTI.out HZ1.out HZ2.out HZ3.out rfl (by omega) (.slice (some ⟨wr.heap.size, 0, none⟩) 1 1) 1 [.int .u8 (48 + (d : Int))] rfl HN.out ⟨g, 0, none⟩ L.length c (bvs L) rfl (by simp [bvs]) HC.out HONE.out (by unfold maxLen; omega) (by omega) HSA.out ?_; intro v' w' hown hgr hiff; have hbl := Lib.hid (grown_below HN.out hgr HSA.out); obtain ⟨g', c', hv', hg1, hg2⟩ := World.ownsRow.form hown (by omega); subst hv'; have HOW := Lib.hid hown; clear hown hgr hiff hg1 hg2))
        go_roundg (gk - 1)
        case measure => omega
        case rel =>
          refine ⟨f, q2, g', c', UInt8.ofNat (48 + d) :: L, by rw [Nat.add_comm]; rfl, rfl, hq22, by omega, by simp; omega, HQ'.out, HD'.out, ?_, (HB.out.alloc HB.out.size _).trans hbl.out⟩
          have h := HOW.out
          show World.ownsRow _ _ _ _ _ _ _
          rw [show (UInt8.ofNat (48 + d) :: L).length = 1 + L.length by rw [List.length_cons, Nat.add_comm], show bvs (UInt8.ofNat (48 + d) :: L) = [.int .u8 (48 + (d : Int))] ++ bvs L by show Value.int .u8 ((UInt8.ofNat (48 + d)).toNat : Int) :: bvs L = _; rw [HBY.out]; rfl]
          exact h
    · have hL0 : L ≠ [] := fun e => hgo (.inl e)
      have hq0 : q = 0 := by
        by_cases h : q = 0
        · exact h
        · exact absurd (.inr h) hgo
      subst hq0
      have hL1 : 1 ≤ L.length := by
        cases L with
        | nil => exact absurd rfl hL0
        | cons _ _ => simp
      have n1 : ((L.length : Int) == 0) = false := by simp; omega
      have HV : Hid (L = dec2 n) := by
        show _ = _
        rw [← HD.out]
        cases f with
        | zero => rfl
        | succ f => rw [dcF, if_neg hgo]
      have hstr := holds_string (c := c) (OwnB.holds HO.out)
      clear hgo hL0
      go_wp2_with fail
      go_ret
      exact ⟨by rw [HV.out]; rfl, HB.out⟩
end Go.Proofs.YtpmklldochpnlaaDoor
