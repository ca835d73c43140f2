/- Packing: the program. -/
import Derived.Test.YtpmklldochpnlaaDoorPkW
import Derived.Lib.AppendStr

namespace Go.Proofs.YtpmklldochpnlaaDoor
open Go.RowKit Go.PlainAid
set_option linter.unusedVariables false
def smallsL : ByteArray := ⟨((List.range 100).flatMap fun n => [UInt8.ofNat (48 + n / 10), UInt8.ofNat (48 + n % 10)]).toArray⟩
def digsL : ByteArray := ⟨#[48, 49, 50, 51, 52, 53, 54, 55, 56, 57, 97, 98, 99, 100, 101, 102, 103, 104, 105, 106, 107, 108, 109, 110, 111, 112, 113, 114, 115, 116, 117, 118, 119, 120, 121, 122]⟩
def smB (n : Nat) : Bool := if n < 10 then decide (digsL.extract n (n + 1) = ⟨(dec2 n).toArray⟩) else decide (smallsL.extract (2 * n) (2 * n + 2) = ⟨(dec2 n).toArray⟩)
theorem smB_all : (List.range 100).all smB = true := by decide +kernel
theorem smB_lo {n : Nat} (h : n < 10) : digsL.extract n (n + 1) = ⟨(dec2 n).toArray⟩ := by
  have := List.all_eq_true.1 smB_all n (List.mem_range.2 (by omega))
  unfold smB at this
  rw [if_pos h] at this
  exact of_decide_eq_true this
theorem smB_hi {n : Nat} (h : 10 ≤ n) (h2 : n < 100) : smallsL.extract (2 * n) (2 * n + 2) = ⟨(dec2 n).toArray⟩ := by
  have := List.all_eq_true.1 smB_all n (List.mem_range.2 h2)
  unfold smB at this
  rw [if_neg (by omega)] at this
  exact of_decide_eq_true this
set_option maxRecDepth 100000 in
set_option maxHeartbeats 4000000 in
theorem iSmall_lo (n : Nat) (h : n < 10) (w : World) :
    Calls Tryd.prog 60 #[.int .i64 n] w fun e w' => e = .returned (.string ⟨(dec2 n).toArray⟩) ∧ w' = w := by
  have l1 : (n : Int) < 10 := by omega
  have n1 : ((n : Int) + 1).toNat = n + 1 := by omega
  have l0 : (0 : Int) ≤ (n : Int) := by omega
  have H := Lib.hid (smB_lo h)
  go_enter Tryd.func60, Tryd.ntmps60
  go_wp2_with fail
  go_ret
  exact ⟨congrArg (fun x => Ending.returned (.string x)) H.out, rfl⟩
set_option maxRecDepth 100000 in
set_option maxHeartbeats 4000000 in
theorem iSmall_hi (n : Nat) (h : 10 ≤ n) (h2 : n < 100) (w : World) :
    Calls Tryd.prog 60 #[.int .i64 n] w fun e w' => e = .returned (.string ⟨(dec2 n).toArray⟩) ∧ w' = w := by
  have l1 : (10 : Int) ≤ (n : Int) := by omega
  have n1 : ((n : Int) * 2 + 2).toNat = 2 * n + 2 := by omega
  have n2 : ((n : Int) * 2).toNat = 2 * n := by omega
  have l0 : (0 : Int) ≤ (n : Int) * 2 := by omega
  have l3 : (n : Int) * 2 + 2 ≤ 200 := by omega
  have H := Lib.hid (smB_hi h h2)
  go_enter Tryd.func60, Tryd.ntmps60
  go_wp2_with fail
  go_ret
  exact ⟨congrArg (fun x => Ending.returned (.string x)) H.out, rfl⟩
theorem iSmall_any (n : Nat) (h2 : n < 100) (w : World) :
    Calls Tryd.prog 60 #[.int .i64 n] w fun e w' => e = .returned (.string ⟨(dec2 n).toArray⟩) ∧ w' = w := by
  by_cases h : n < 10
  · exact iSmall_lo n h w
  · exact iSmall_hi n (by omega) h2 w
theorem strCells_dec (l : List UInt8) : Lib.strCells ⟨l.toArray⟩ = bvs l := by simp [Lib.strCells, bvs]
theorem infoT8 : ∃ i, Tryd.prog.info? 5 = some i ∧ i.zero = some (.int .u8 0) ∧ i.size = 1 ∧ i.bytes = 1 := by
  have h := infoB8
  cases hq : Tryd.prog.info? 5 with
  | none => rw [hq] at h; cases h
  | some i =>
    rw [hq] at h
    have h := Option.some.inj h
    exact ⟨i, rfl, congrArg Prod.fst h, (Prod.mk.inj (Prod.mk.inj h).2).1, (Prod.mk.inj (Prod.mk.inj h).2).2⟩
set_option maxRecDepth 100000 in
set_option maxHeartbeats 4000000 in
theorem iAppU_any (n : Nat) (h2 : n < 100) (base g c : Nat) (l : List UInt8) (w : World) (hl : l.length ≤ 1000) (h : OwnB w base g c l) (hb : base ≤ w.heap.size) :
    Calls Tryd.prog 55 #[.slice (some ⟨g, 0, none⟩) l.length c, .int .u64 n, .int .i64 10] w fun e w' => ∃ g' c', e = .returned (.slice (some ⟨g', 0, none⟩) (l ++ dec2 n).length c') ∧ OwnB w' base g' c' (l ++ dec2 n) ∧ Below base w w' := by
  obtain ⟨ti, hti, hz1, hz2, hz3⟩ := infoT8
  have HT := Lib.hid hti; have HZ1 := Lib.hid hz1; have HZ2 := Lib.hid hz2; have HZ3 := Lib.hid hz3
  clear hti hz1 hz2 hz3
  have HO := Lib.hid h; clear h
  have l1 : (n : Int) < 100 := by omega
  have w1 : IntKind.i64.wrap (n : Int) = (n : Int) := IntWalk.i64_in _ (by omega)
  have hd := dec2_len n
  have C := iSmall_any n h2
  obtain ⟨z, hz⟩ : ∃ z : ByteArray, z = ⟨(dec2 n).toArray⟩ := ⟨_, rfl⟩
  have hzs : z.size = (dec2 n).length := by rw [hz]; simp [ByteArray.size]
  rw [← hz] at C
  have HZ := Lib.hid hz
  have HZS := Lib.hid hzs
  have hz2 : z.size ≤ 2 := by omega
  have hpos : 1 ≤ z.size := by rw [hzs]; unfold dec2; split <;> simp
  clear hz hzs hd
  go_enter Tryd.func55, Tryd.ntmps55
  go_wp2_with (first
    | (go_at_call 60; refine (C _).mono ?_; rintro e w' ⟨rfl, hw⟩; subst hw; clear C)
    | (at_builtin; refine Lib.wpList_append_own_string _ rfl (.tmp 13) (.tmp 16) _ _ rfl base 5 ti Tryd.underlying25 Tryd.underlying9 HT.out HZ1.out HZ2.out HZ3.out (.slice (some ⟨g, 0, none⟩) l.length c) l.length (bvs l) rfl HO.out z rfl (by unfold maxLen; omega) (by omega) hb ?_; intro v' w2 hown hgr hiff; have HBL := Lib.hid (grown_below HO.out hgr hb); obtain ⟨g', c', hv', hg1, hg2⟩ := World.ownsRow.form hown (by omega); subst hv'; have HOW := Lib.hid hown; clear hown hgr hiff hg1 hg2))
  go_ret
  have h := HOW.out
  rw [HZ.out, strCells_dec] at h
  refine ⟨g', c', ?_, ?_, HBL.out⟩
  · rw [List.length_append, ← HZS.out]; rfl
  · show World.ownsRow _ _ _ _ _ _ _
    rw [List.length_append, ← HZS.out, show bvs (l ++ dec2 n) = bvs l ++ bvs (dec2 n) by simp [bvs], HZ.out]
    exact h
set_option maxHeartbeats 1000000 in
theorem iAppI0_any (n : Nat) (h2 : n < 100) (base g c : Nat) (l : List UInt8) (w : World) (hl : l.length ≤ 1000) (h : OwnB w base g c l) (hb : base ≤ w.heap.size) :
    Calls Tryd.prog 50 #[.slice (some ⟨g, 0, none⟩) l.length c, .int .i64 n, .int .i64 10] w fun e w' => ∃ g' c', e = .returned (.slice (some ⟨g', 0, none⟩) (l ++ dec2 n).length c') ∧ OwnB w' base g' c' (l ++ dec2 n) ∧ Below base w w' := by
  have C := iAppU_any n h2 base g c l w hl h hb
  have l1 : (0 : Int) ≤ (n : Int) := by omega
  have w1 : IntKind.u64.wrap (n : Int) = (n : Int) := by rw [IntKind.wrap_u64]; omega
  go_enter Tryd.func50, Tryd.ntmps50
  go_wp2_with (first | (go_at_call 55; refine C.mono ?_; rintro e w2 ⟨g', c', rfl, ho, hb2⟩; clear C))
  go_ret
  exact ⟨g', c', by rw [List.length_append]; rfl, ho, hb2⟩
set_option maxHeartbeats 1000000 in
theorem iAppI_any (n : Nat) (h2 : n < 100) (base g c : Nat) (l : List UInt8) (w : World) (hl : l.length ≤ 1000) (h : OwnB w base g c l) (hb : base ≤ w.heap.size) :
    Calls Tryd.prog 40 #[.slice (some ⟨g, 0, none⟩) l.length c, .int .i64 n, .int .i64 10] w fun e w' => ∃ g' c', e = .returned (.slice (some ⟨g', 0, none⟩) (l ++ dec2 n).length c') ∧ OwnB w' base g' c' (l ++ dec2 n) ∧ Below base w w' := by
  have C := iAppI0_any n h2 base g c l w hl h hb
  go_enter Tryd.func40, Tryd.ntmps40
  go_wp2_with (first | (go_at_call 50; refine C.mono ?_; rintro e w2 ⟨g', c', rfl, ho, hb2⟩; clear C))
  go_ret
  exact ⟨g', c', by rw [List.length_append]; rfl, ho, hb2⟩
end Go.Proofs.YtpmklldochpnlaaDoor
