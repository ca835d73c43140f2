/- Sorting with equals in their order: blocks, then merging (stableCmpFunc). -/
import Derived.Test.YtedbngnkkfpbeaaStJ

namespace Go.Proofs.Ytedbngnkkfpbeaa
open Go.RowKit
set_option linter.unusedVariables false
theorem sym_any : ∀ (d : Nat) (P X Y S D : List Ce) (base g cap a m b N : Nat) (w : World), b - a < d → D = P ++ (X ++ (Y ++ S)) → D.length = N → Dw w base g cap D → N ≤ 100000 → P.length = a → a + X.length = m → m + Y.length = b → 1 ≤ X.length → 1 ≤ Y.length → Srt X → Srt Y → SymOk w P X Y S base g cap a m b N := by
  intro d
  induction d with
  | zero => intro P X Y S D base g cap a m b N w h; omega
  | succ d ih =>
    intro P X Y S D base g cap a m b N w hd hD hN hw hc hP hX hY hx hy hs hs'
    by_cases h1 : X.length = 1
    · obtain ⟨x, rfl⟩ := List.length_eq_one_iff.1 h1
      exact sym_left P Y S D x base g cap a m b N w hD hN hw hc hP hX hY hs'
    · by_cases h2 : Y.length = 1
      · obtain ⟨y, rfl⟩ := List.length_eq_one_iff.1 h2
        exact sym_right P X S D y base g cap a m b N w hD hN hw hc hP hX hY h1 hs
      · exact sym_step P X Y S D base g cap a m b N w hD hN hw hc hP hX hY (by omega) (by omega) hs hs' fun P X Y S D a' m' b' w' h1 h2 h3 h4 h5 h6 h7 h8 h9 h10 h11 => ih P X Y S D base g cap a' m' b' N w' (by omega) h2 h3 h4 hc h5 h6 h7 h8 h9 h10 h11
/-- Each block of k is sorted. -/
def Blk (k : Nat) (L : List Ce) : Prop := ∀ q, Srt ((L.drop (q * k)).take k)
theorem blk_nil (k : Nat) : Blk k [] := fun q => by simp [Srt]
theorem blk_append {k j : Nat} {M L : List Ce} (hk : M.length = j * k) (h : Blk k M) (hs : Srt L) : L.length ≤ k → Blk k (M ++ L) := by
  intro hl q
  rcases Nat.lt_or_ge q j with hq | hq
  · have h1 : q * k + k ≤ j * k := by rw [← Nat.succ_mul]; exact Nat.mul_le_mul_right k hq
    rw [List.drop_append_of_le_length (by omega), List.take_append_of_le_length (by rw [List.length_drop]; omega)]
    exact h q
  · have h1 : j * k ≤ q * k := Nat.mul_le_mul_right k hq
    have e : (M ++ L).drop (q * k) = L.drop (q * k - M.length) := by rw [List.drop_append, List.drop_of_length_le (by omega), List.nil_append]
    rw [e]
    exact List.Pairwise.sublist ((List.take_sublist _ _).trans (List.drop_sublist _ _)) hs
theorem blk_all {k : Nat} {L : List Ce} (h : Blk k L) (hl : L.length ≤ k) : Srt L := by
  have h1 := h 0
  rw [Nat.zero_mul, List.drop_zero, List.take_of_length_le hl] at h1
  exact h1
/-- Two blocks on from an even place. -/
theorem blk_two {k j a : Nat} {L : List Ce} (h : Blk k L) (ha : a = j * (2 * k)) : Srt ((L.drop a).take k) ∧ Srt ((L.drop (a + k)).take k) := by
  constructor
  · have h1 := h (2 * j)
    rw [show 2 * j * k = a by rw [ha, Nat.mul_comm 2 j, Nat.mul_assoc]] at h1
    exact h1
  · have h1 := h (2 * j + 1)
    rw [Nat.add_mul, Nat.one_mul, show 2 * j * k = a by rw [ha, Nat.mul_comm 2 j, Nat.mul_assoc]] at h1
    exact h1
theorem cut3 {L : List Ce} {a k : Nat} : L.drop a = (L.drop a).take k ++ L.drop (a + k) := by
  rw [← List.drop_drop, List.take_append_drop]
theorem take_more {L : List Ce} {a k : Nat} : L.take (a + k) = L.take a ++ (L.drop a).take k := List.take_add
set_option maxRecDepth 100000 in
set_option maxHeartbeats 8000000 in
theorem stable_any (X : List Ce) (base g cap N : Nat) (w : World) (hN : X.length = N) (hw : Dw w base g cap X) (hcap : N ≤ 100000) :
    Calls Try.prog 66 #[.slice (some ⟨g, 0, none⟩) N cap, .int .i64 (N : Int), cmpV] w fun e w' => e = .returned (.tuple #[]) ∧ ∃ M, Dw w' base g cap M ∧ Lo w.heap.size g w w' ∧ Srt M ∧ Stb X M := by
  have HW := Lib.hid hw; have HN := Lib.hid hN; have HC9 := Lib.hid hcap
  have HINS := Lib.hid ins_any
  have HSYM := Lib.hid sym_any
  clear hw hN
  unfold cmpV
  go_enter Try.func66, Try.ntmps66
  go_wp2_with fail
  go_loopg [7, 8] N (fun q ta tb wr => ∃ (a b j : Nat) (M D' : List Ce), ta = .int .i64 (a : Int) ∧ tb = .int .i64 (b : Int) ∧ Hid (a ≤ N ∧ b = a + 20 ∧ a = j * 20 ∧ N ≤ q + a) ∧ Hid (D' = M ++ X.drop a) ∧ Hid (M.length = a) ∧ Hid (Blk 20 M) ∧ Hid (Stb (X.take a) M) ∧ Hid (Dw wr base g cap D') ∧ Hid (Lo w.heap.size g w wr))
  case atStart =>
    refine ⟨0, 20, 0, [], X, rfl, rfl, ?_, ?_, ?_, blk_nil _, ?_, HW.out, Lo.refl _ _ _⟩
    · show _ ∧ _; omega
    · show _ = _; simp
    · show _ = _; rfl
    · show Stb _ _; rw [List.take_zero]; exact Stb.refl _
  case round =>
    obtain ⟨wo, rfl⟩ : ∃ z : World, z = wr := ⟨_, rfl⟩
    obtain ⟨a, b, j, M, D', rfl, rfl, EI, ED, EM, EB, ES, HDW, HL⟩ := hrel
    have HDN : Hid (D'.length = N) := by
      show _ = _
      have := EI.out
      rw [ED.out, List.length_append, List.length_drop, EM.out, HN.out]; omega
    by_cases hlt : b ≤ N
    · have l0 : (b : Int) ≤ (N : Int) := by omega
      have he := EI.out
      have SR := HINS.out M ((X.drop a).take 20) (X.drop (a + 20)) D' base g cap a b N wo (by rw [ED.out, ← cut3]) HDN.out HDW.out HC9.out EM.out (by rw [List.length_take, List.length_drop, HN.out]; omega)
      unfold cmpV at SR
      have SR := Lib.hid SR
      have w1 : IntKind.i64.wrap ((b : Int) + 20) = ((b + 20 : Nat) : Int) := by rw [IntWalk.i64_in _ (by omega)]; omega
      have HLT : Hid (b ≤ N) := hlt
      clear he
      go_wp2_with (go_at_call 78; refine SR.out.mono ?_; rintro e w3 ⟨rfl, M1, hd3, hl3, hs3, hb3⟩; have HD3 := Lib.hid hd3; have HL3 := Lib.hid hl3; have HS3 := Lib.hid hs3; have HB3 := Lib.hid hb3; clear hd3 hl3 hs3 hb3)
      go_roundg (gk - 1)
      case measure => have := EI.out; have := HLT.out; omega
      case rel =>
        have hl1 : M1.length = 20 := by rw [HB3.out.len, List.length_take, List.length_drop, HN.out]; have := EI.out; have := HLT.out; omega
        refine ⟨b, b + 20, j + 1, M ++ M1, M ++ (M1 ++ X.drop (a + 20)), rfl, by go_num, ?_, ?_, ?_, ?_, ?_, HD3.out, lo_more HL.out HL3.out HL.out.sz⟩
        · show _ ∧ _; have := EI.out; have := HLT.out; omega
        · show _ = _; rw [EI.out.2.1, List.append_assoc]
        · show _ = _; rw [List.length_append, EM.out, hl1, EI.out.2.1]
        · exact blk_append (by rw [EM.out]; exact EI.out.2.2.1) EB.out HS3.out (by omega)
        · show Stb _ _; rw [EI.out.2.1, take_more]; exact ES.out.append HB3.out
    · have l0 : ¬ (b : Int) ≤ (N : Int) := by omega
      have he := EI.out
      have SR := HINS.out M (X.drop a) [] D' base g cap a N N wo (by rw [ED.out, List.append_nil]) HDN.out HDW.out HC9.out EM.out (by rw [List.length_drop, HN.out]; omega)
      unfold cmpV at SR
      have SR := Lib.hid SR
      have HGT : Hid (N < a + 20) := by show _ < _; omega
      clear he
      go_wp2_with (go_at_call 78; refine SR.out.mono ?_; rintro e w3 ⟨rfl, M1, hd3, hl3, hs3, hb3⟩; have HD3 := Lib.hid hd3; have HL3 := Lib.hid hl3; have HS3 := Lib.hid hs3; have HB3 := Lib.hid hb3; clear hd3 hl3 hs3 hb3)
      have hg0 : Dw w3 base g cap (M ++ M1) := by have h := HD3.out; rw [List.append_nil] at h; exact h
      have hg1 : Lo w.heap.size g w w3 := lo_more HL.out HL3.out HL.out.sz
      have hg2 : Blk 20 (M ++ M1) := blk_append (by rw [EM.out]; exact EI.out.2.2.1) EB.out HS3.out (by rw [HB3.out.len, List.length_drop, HN.out]; have := HGT.out; omega)
      have hg3 : Stb X (M ++ M1) := by
        have h := ES.out.append HB3.out
        rw [List.take_append_drop] at h; exact h
      obtain ⟨D0, hD0⟩ : ∃ D0, D0 = M ++ M1 := ⟨_, rfl⟩
      rw [← hD0] at hg0 hg2 hg3
      have HG0 := Lib.hid hg0; have HG1 := Lib.hid hg1; have HG2 := Lib.hid hg2; have HG3 := Lib.hid hg3
      clear hg0 hg1 hg2 hg3 hD0 HD3 HL3 HS3 HB3 SR HDW HL ES EB EM ED HDN l0 hlt HGT EI
      go_loopg [6] N (fun q tk wr => ∃ (k : Nat) (D' : List Ce), tk = .int .i64 (k : Int) ∧ Hid (1 ≤ k ∧ k ≤ 400000 ∧ N ≤ q + k) ∧ Hid (Blk k D') ∧ Hid (Stb X D') ∧ Hid (Dw wr base g cap D') ∧ Hid (Lo w.heap.size g w wr))
      case atStart =>
        refine ⟨20, D0, rfl, ?_, HG2.out, HG3.out, HG0.out, HG1.out⟩
        show _ ∧ _; omega
      case round =>
        clear HG0 HG1 HG2 HG3
        obtain ⟨wi, rfl⟩ : ∃ z : World, z = wr := ⟨_, rfl⟩
        obtain ⟨k, D, rfl, EK, EB, ES, HDW, HL⟩ := hrel
        obtain ⟨go, hgo⟩ : ∃ z : Nat, z = gk := ⟨_, rfl⟩
        have HDN : Hid (D.length = N) := by show _ = _; rw [ES.out.len]; exact HN.out
        by_cases hlt : k < N
        · have l0 : (k : Int) < (N : Int) := by omega
          obtain ⟨K, hK⟩ : ∃ K, K = 2 * k := ⟨_, rfl⟩
          have w1 : IntKind.i64.wrap (2 * (k : Int)) = (K : Int) := by rw [IntWalk.i64_in _ (by omega)]; omega
          have w11 : IntKind.i64.wrap ((k : Int) * 2) = (K : Int) := by rw [IntWalk.i64_in _ (by omega)]; omega
          have HK : Hid (K = 2 * k ∧ 1 ≤ k ∧ k < N) := ⟨hK, EK.out.1, hlt⟩
          have HKQ : Hid (N ≤ go + k) := by show _ ≤ _; rw [hgo]; exact EK.out.2.2
          have HEND : Hid (∀ (a j : Nat) (M M1 : List Ce), M.length = a → a = j * K → a ≤ N → Blk K M → Stb (D.take a) M → Srt M1 → M1.length ≤ K → Stb (D.drop a) M1 → Blk K (M ++ M1) ∧ Stb X (M ++ M1)) := by
            intro a j M M1 h1 h2 h3 h4 h5 h6 h7 h8
            refine ⟨blk_append (by rw [h1]; exact h2) h4 h6 h7, ?_⟩
            have h := h5.append h8
            rw [List.take_append_drop] at h
            exact ES.out.trans h
          clear hK hlt EK
          go_wp2_with fail
          clear l0
          go_loopg [7, 8] N (fun q ta tb wr => ∃ (a b j : Nat) (M D' : List Ce), ta = .int .i64 (a : Int) ∧ tb = .int .i64 (b : Int) ∧ Hid (a ≤ N ∧ b = a + K ∧ a = j * K ∧ N ≤ q + a) ∧ Hid (D' = M ++ D.drop a) ∧ Hid (M.length = a) ∧ Hid (Blk K M) ∧ Hid (Stb (D.take a) M) ∧ Hid (Dw wr base g cap D') ∧ Hid (Lo w.heap.size g w wr))
          case atStart =>
            refine ⟨0, K, 0, [], D, rfl, rfl, ?_, ?_, ?_, blk_nil _, ?_, HDW.out, HL.out⟩
            · show _ ∧ _; omega
            · show _ = _; simp
            · show _ = _; rfl
            · show Stb _ _; rw [List.take_zero]; exact Stb.refl _
          case round =>
            clear HDW HL
            obtain ⟨wo, rfl⟩ : ∃ z : World, z = wr := ⟨_, rfl⟩
            obtain ⟨a, b, j, M, D', rfl, rfl, EI, ED, EM, EBM, ESM, HDW, HL⟩ := hrel
            have HDN' : Hid (D'.length = N) := by
              show _ = _
              have := EI.out
              rw [ED.out, List.length_append, List.length_drop, EM.out, HDN.out]; omega
            by_cases hlt : b ≤ N
            · have l0 : (b : Int) ≤ (N : Int) := by omega
              have he := EI.out; have hk := HK.out; have hc9 := HC9.out
              have h2 := blk_two EB.out (show a = j * (2 * k) by rw [← hk.1]; exact he.2.2.1)
              have SR := HSYM.out (b - a + 1) M ((D.drop a).take k) ((D.drop (a + k)).take k) (D.drop (a + k + k)) D' base g cap a (a + k) b N wo (by omega) (by rw [ED.out, ← cut3, ← cut3]) HDN'.out HDW.out hc9 EM.out (by rw [List.length_take, List.length_drop, HDN.out]; omega) (by rw [List.length_take, List.length_drop, HDN.out]; omega) (by rw [List.length_take, List.length_drop, HDN.out]; omega) (by rw [List.length_take, List.length_drop, HDN.out]; omega) h2.1 h2.2
              unfold SymOk cmpV at SR
              have SR := Lib.hid SR
              have w2 : IntKind.i64.wrap ((a : Int) + (k : Int)) = ((a + k : Nat) : Int) := by rw [IntWalk.i64_in _ (by omega)]; omega
              have w3 : IntKind.i64.wrap ((b : Int) + (K : Int)) = ((b + K : Nat) : Int) := by rw [IntWalk.i64_in _ (by omega)]; omega
              have HLT : Hid (b ≤ N) := hlt
              clear he hk hc9 h2
              go_wp2_with (go_at_call 79; refine SR.out.mono ?_; rintro e w3 ⟨rfl, M1, hd3, hl3, hs3, hb3⟩; have HD3 := Lib.hid hd3; have HL3 := Lib.hid hl3; have HS3 := Lib.hid hs3; have HB3 := Lib.hid hb3; clear hd3 hl3 hs3 hb3)
              go_roundg (gk - 1)
              case measure => have := EI.out; have := HLT.out; have := HK.out; omega
              case rel =>
                have he := EI.out; have hk := HK.out; have hlt := HLT.out
                have hl1 : M1.length = K := by rw [HB3.out.len, List.length_append, List.length_take, List.length_take, List.length_drop, List.length_drop, HDN.out]; omega
                have hab : a + k + k = b := by omega
                refine ⟨b, b + K, j + 1, M ++ M1, M ++ (M1 ++ D.drop (a + k + k)), rfl, by go_num, ?_, ?_, ?_, ?_, ?_, HD3.out, lo_more HL.out HL3.out HL.out.sz⟩
                · show _ ∧ _
                  refine ⟨by omega, rfl, ?_, by omega⟩
                  rw [Nat.add_mul, ← he.2.2.1, Nat.one_mul]; exact he.2.1
                · show _ = _; rw [hab, List.append_assoc]
                · show _ = _; rw [List.length_append, EM.out, hl1]; omega
                · exact blk_append (by rw [EM.out]; exact EI.out.2.2.1) EBM.out HS3.out (by omega)
                · show Stb _ _
                  rw [← hab, take_more, take_more, List.append_assoc]; exact ESM.out.append HB3.out
            · have l0 : ¬ (b : Int) ≤ (N : Int) := by omega
              have he := EI.out; have hk := HK.out; have hc9 := HC9.out
              have w2 : IntKind.i64.wrap ((a : Int) + (k : Int)) = ((a + k : Nat) : Int) := by rw [IntWalk.i64_in _ (by omega)]; omega
              have HGT : Hid (N < a + K) := by show _ < _; omega
              by_cases hm : a + k < N
              · have l1 : ((a + k : Nat) : Int) < (N : Int) := by omega
                have l2 : (a : Int) + (k : Int) < (N : Int) := by omega
                have h2 := blk_two EB.out (show a = j * (2 * k) by rw [← hk.1]; exact he.2.2.1)
                have e2 : (D.drop (a + k)).take k = D.drop (a + k) := List.take_of_length_le (by rw [List.length_drop, HDN.out]; omega)
                rw [e2] at h2
                have SR := HSYM.out (N - a + 1) M ((D.drop a).take k) (D.drop (a + k)) [] D' base g cap a (a + k) N N wo (by omega) (by rw [ED.out, List.append_nil, ← cut3]) HDN'.out HDW.out hc9 EM.out (by rw [List.length_take, List.length_drop, HDN.out]; omega) (by rw [List.length_drop, HDN.out]; omega) (by rw [List.length_take, List.length_drop, HDN.out]; omega) (by rw [List.length_drop, HDN.out]; omega) h2.1 h2.2
                unfold SymOk cmpV at SR
                have SR := Lib.hid SR
                clear he hk hc9 h2 e2 hm hlt
                go_wp2_with (go_at_call 79; refine SR.out.mono ?_; rintro e w3 ⟨rfl, M1, hd3, hl3, hs3, hb3⟩; have HD3 := Lib.hid hd3; have HL3 := Lib.hid hl3; have HS3 := Lib.hid hs3; have HB3 := Lib.hid hb3; clear hd3 hl3 hs3 hb3)
                go_roundg (go - 1)
                case measure => have := HK.out; have := HKQ.out; omega
                case rel =>
                  have hb3 := HB3.out
                  rw [← cut3] at hb3
                  obtain ⟨g1, g2⟩ := HEND.out a j M M1 EM.out EI.out.2.2.1 EI.out.1 EBM.out ESM.out HS3.out (by rw [hb3.len, List.length_drop, HDN.out]; have := HGT.out; omega) hb3
                  refine ⟨K, M ++ M1, rfl, ?_, g1, g2, ?_, lo_more HL.out HL3.out HL.out.sz⟩
                  · show _ ∧ _; have := HK.out; have := HKQ.out; have := HC9.out; have := HGT.out; omega
                  · show Dw _ _ _ _ _
                    have h := HD3.out
                    rw [List.append_nil] at h; exact h
              · have l1 : ¬ ((a + k : Nat) : Int) < (N : Int) := by omega
                have l2 : ¬ (a : Int) + (k : Int) < (N : Int) := by omega
                have h2 := blk_two EB.out (show a = j * (2 * k) by rw [← hk.1]; exact he.2.2.1)
                have e2 : (D.drop a).take k = D.drop a := List.take_of_length_le (by rw [List.length_drop, HDN.out]; omega)
                rw [e2] at h2
                have HS2 := Lib.hid h2.1
                clear he hk hc9 h2 e2 hm hlt
                go_wp2_with fail
                go_roundg (go - 1)
                case measure => have := HK.out; have := HKQ.out; omega
                case rel =>
                  obtain ⟨g1, g2⟩ := HEND.out a j M (D.drop a) EM.out EI.out.2.2.1 EI.out.1 EBM.out ESM.out HS2.out (by rw [List.length_drop, HDN.out]; have := HGT.out; omega) (Stb.refl _)
                  refine ⟨K, M ++ D.drop a, rfl, ?_, g1, g2, ?_, HL.out⟩
                  · show _ ∧ _; have := HK.out; have := HKQ.out; have := HC9.out; have := HGT.out; omega
                  · show Dw _ _ _ _ _
                    have h := HDW.out
                    rw [ED.out] at h; exact h
        · have l0 : ¬ (k : Int) < (N : Int) := by omega
          go_wp2_with fail
          go_end0
          exact ⟨rfl, D, HDW.out, HL.out, blk_all EB.out (by rw [HDN.out]; omega), ES.out⟩
end Go.Proofs.Ytedbngnkkfpbeaa
