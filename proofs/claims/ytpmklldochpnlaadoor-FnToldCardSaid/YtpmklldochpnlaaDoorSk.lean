/- Keys of sounds: the digit of a letter in both programs. -/
import Derived.Test.YtpmklldochpnlaaDoorSkP
import Derived.Test.YtpmklldochpnlaaDoorAp
import Derived.Test.YtpmklldochpnlaaDoorTab
import Derived.Deep.LoopGhost

namespace Go.Proofs.YtpmklldochpnlaaDoor
open Go.RowKit Go.PlainAid
set_option linter.unusedVariables false
set_option maxHeartbeats 1000000 in
theorem iSound (c : UInt8) (hc : isLet c = true) (w : World) :
    Calls Tryd.prog 33 #[.int .u8 (c.toNat : Int)] w fun e w' => e = .returned (.int .u8 ((snd c).toNat : Int)) ∧ Below w.heap.size w w' := by
  have hS := Lib.hid (sdFrom_snd hc)
  clear hc
  obtain ⟨S, hS2⟩ : ∃ S, S = ((snd c).toNat : Int) := ⟨_, rfl⟩
  rw [← hS2]
  rw [← hS2] at hS
  clear hS2
  go_enter Tryd.func33, Tryd.ntmps33
  go_wp2
  have hr := Row.new w 9 (sdStrs.map .string)
  have hrow : ∀ j, j < 6 → (w.alloc (.cells (sdStrs.map Value.string).toArray 9)).cell? ⟨w.heap.size, j, none⟩ = some (.string (sdAt j)) := by
    intro j hj
    rw [hr.cell]
    rcases j with _ | _ | _ | _ | _ | _ | j <;> first | rfl | omega
  have HR := Lib.hid hrow
  clear hr hrow
  go_loopg [7] 6 (fun m s7 wr => ∃ i : Nat, s7 = .int .i64 i ∧ i ≤ 6 ∧ 6 ≤ m + i ∧ sdFrom c (6 - i) i = S ∧ (∀ j, j < 6 → wr.cell? ⟨w.heap.size, j, none⟩ = some (.string (sdAt j))) ∧ Below w.heap.size w wr)
  case atStart => exact ⟨0, rfl, by omega, by omega, hS.out, HR.out, (Below.refl _ _).alloc (Nat.le_refl _) _⟩
  case round =>
    obtain ⟨i, rfl, hi, hm, hs, hcell, hbl⟩ := hrel
    have HS := Lib.hid hs; clear hs
    have HC := Lib.hid hcell; clear hcell HR
    by_cases hlt : i < 6
    · have hx := HC.out i hlt
      have l1 : (0 : Int) ≤ (i : Int) := by omega
      have l2 : (i : Int) < 6 := by omega
      have hw : IntKind.u8.wrap (49 + (i : Int)) = 49 + (i : Int) := IntWalk.u8_in _ (by omega)
      obtain ⟨s, hs⟩ : ∃ s, s = sdAt i := ⟨_, rfl⟩
      rw [← hs] at hx
      obtain ⟨z, hz⟩ : ∃ z, z = firstIdx s c := ⟨_, rfl⟩
      have hZ := Lib.hid (show z = Lib.indexByte (sdAt i).data.toList c by rw [hz, hs, Lib.firstIdx_eq])
      have hSI := Lib.hid hs
      have hbA : ∀ w, Calls Tryd.prog 45 #[.string s, .int .u8 (c.toNat : Int)] w fun e w' => e = .returned (.int .i64 z) ∧ w' = w := fun w => by rw [hz]; exact byteAny s c w
      clear hs hz
      obtain ⟨f, hf⟩ : ∃ f, 6 - i = f + 1 := ⟨6 - i - 1, by omega⟩
      have HF := Lib.hid (show sdFrom c (f + 1) i = S by rw [← hf]; exact HS.out)
      by_cases h0 : 0 ≤ z
      · have hfin := Lib.hid (show 49 + (i : Int) = S by rw [← HF.out, sdFrom, if_pos (by rw [← hZ.out]; exact h0)])
        clear hf
        go_wp2_with (first | (go_at_call 45; refine (hbA _).mono ?_; rintro e w' ⟨rfl, rfl⟩))
        go_ret
        exact ⟨ret_int hfin.out, hbl⟩
      · have h0' : z < 0 := by omega
        have hgo := Lib.hid (show sdFrom c (6 - (i + 1)) (i + 1) = S by rw [← HF.out, sdFrom, if_neg (by rw [← hZ.out]; omega), show 6 - (i + 1) = f from by omega])
        clear hf h0
        go_wp2_with (first | (go_at_call 45; refine (hbA _).mono ?_; rintro e w' ⟨rfl, rfl⟩))
        go_roundg (gk - 1)
        case measure => omega
        case rel => exact ⟨i + 1, by go_num, by omega, by omega, hgo.out, HC.out, hbl⟩
    · obtain rfl : i = 6 := by omega
      have hfin := Lib.hid (show (48 : Int) = S by rw [← HS.out]; rfl)
      go_wp2
      go_ret
      exact ⟨ret_int hfin.out, hbl⟩
end Go.Proofs.YtpmklldochpnlaaDoor
