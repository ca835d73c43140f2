/- The reading of a pattern: the reference. -/
import Derived.Test.YtpmklldochpnlaaHyP
import Derived.Test.YtpmklldochpnlaaBas
import Derived.Deep.LoopGhost
namespace Go.Proofs.Ytpmklldochpnlaa
open Go.RowKit Go.PlainAid
set_option linter.unusedVariables false
set_option maxRecDepth 100000 in
set_option maxHeartbeats 4000000 in
theorem sPattern_any (p : ByteArray) (hp : p.size ≤ 4294967000) (w : World) :
    Calls Try.prog 66 #[.string p] w fun e w' => ∃ s v, e = .returned (.tuple #[.string s, v, .bool (hyK p)]) ∧ HyS w' w.heap.size p s v ∧ Below w.heap.size w w' := by
  have hg := get_b8 p
  have hr0 : RowI (w.alloc (.cells ([.int .i64 0] : List Value).toArray 2)) w.heap.size 2 (.slice (some ⟨w.heap.size, 0, none⟩) 1 1) [0] := Row.own (cap := 0) (Row.new w 2 (iv [0])) (Nat.le_refl _) (by simp [iv, maxLen])
  have HR0 := Lib.hid hr0; clear hr0
  go_enter Try.func66, Try.ntmps66
  go_wp2_with fail
  go_loopg [5, 6, 7, 8, 9, 20, 37] p.size (fun m ls ds fr si u9 u20 u37 wr => ∃ (i : Nat) (L : List UInt8) (D : List Int) (d : Int) (f : Bool) (s : ByteArray) (g c : Nat), ls = .string s ∧ ds = .slice (some ⟨g, 0, none⟩) (D.length + 1) c ∧ fr = .bool f ∧ si = .int .i64 i ∧ i ≤ p.size ∧ p.size ≤ m + i ∧ Hid (s = ⟨L.toArray⟩) ∧ s.size ≤ i ∧ D.length ≤ i ∧ Hid (HyAt p i L D d f) ∧ Hid (RowI wr w.heap.size 2 (.slice (some ⟨g, 0, none⟩) (D.length + 1) c) (D ++ [d])) ∧ Hid (Below w.heap.size w wr))
  case atStart => exact ⟨0, [], [], 0, true, _, _, _, rfl, rfl, rfl, rfl, by omega, by omega, rfl, by simp [ByteArray.size], by simp, HyAt.first p, HR0.out, (Below.refl _ _).alloc (Nat.le_refl _) _⟩
  case round =>
    obtain ⟨i, L, D, d, f, s, g, c, rfl, rfl, rfl, rfl, hi, hm, HS, hs, hD, HA, HR, HB⟩ := hrel
    have HSZ := Lib.hid HB.out.size
    by_cases hlt : i < p.size
    · have l1 : (0 : Int) ≤ (i : Int) := by omega
      cases hdg : isDig (b8 p i) with
      | true =>
        have hbd := isDig_bd hdg
        cases f with
        | true =>
          have HA' := Lib.hid (HA.out.dig hlt hdg)
          have hc := HR.out.form (by simp)
          obtain ⟨g', c', hv, hc1, hc2, hc3, hcl⟩ := hc
          rw [List.length_append] at hv
          simp only [List.length_cons, List.length_nil, Value.slice.injEq, Option.some.injEq, Addr.mk.injEq, and_true, true_and] at hv
          obtain ⟨rfl, rfl⟩ := hv
          have hcell := hcl D.length d (by simp)
          have hfro : wr.frozen? ⟨g, D.length, none⟩ = false := by
            have h0 := HR.out
            unfold RowI at h0
            rw [List.length_append] at h0
            exact own_frozenH h0
          clear hcl
          have n1 : ((D.length : Int) + 1 - 1).toNat = D.length := by omega
          have hw8 : IntKind.u8.wrap (((b8 p i).toNat : Int) - 48) = ((b8 p i).toNat : Int) - 48 := IntWalk.u8_in _ (by omega)
          clear hdg
          go_wp2_with fail
          go_roundg (gk - 1)
          case measure => omega
          case rel =>
            refine ⟨i + 1, L, D, dg (b8 p i), false, s, g, c, rfl, rfl, rfl, by go_num, by omega, by omega, HS.out, by omega, by omega, HA'.out, ?_, HB.out.setCell (p := ⟨g, _, none⟩) hc2 _⟩
            have h0 := HR.out
            unfold RowI at h0 ⊢
            rw [List.length_append] at h0 ⊢
            have h := own_setH (i := D.length) (u := .int .i64 (dg (b8 p i))) h0 (by simp)
            have e : (iv (D ++ [d])).set D.length (.int .i64 (dg (b8 p i))) = iv (D ++ [dg (b8 p i)]) := by simp [iv]
            rw [e] at h
            show World.ownsRow _ _ _ _ _ _ _
            exact h
        | false =>
          have HN := Lib.hid (hyK_none (HA.out.dup hlt hdg))
          clear hdg
          go_wp2_with fail
          refine bodyPost_ret (v := .tuple #[.string ⟨#[]⟩, .slice none 0 0, .bool false]) (by simp [results, Try.results66, go_sem] <;> omega) rfl ?_
          rw [HN.out]
          exact ⟨_, _, rfl, HyS.no HN.out, HB.out⟩
      | false =>
        have HD := Lib.hid hdg
        have hnd : ¬ (48 ≤ ((b8 p i).toNat : Int) ∧ ((b8 p i).toNat : Int) ≤ 57) := of_decide_eq_false hdg
        clear hdg
        cases hl : hyLet (b8 p i) with
        | false =>
          have HN := Lib.hid (hyK_none (HA.out.bad hlt HD.out hl))
          unfold hyLet at hl
          rw [Bool.or_eq_false_iff] at hl
          have hl1 : ¬ (97 ≤ ((b8 p i).toNat : Int) ∧ ((b8 p i).toNat : Int) ≤ 122) := of_decide_eq_false hl.1
          have hl2 : (((b8 p i).toNat : Int) == 46) = false := u8neH (n := 46) (by decide) (of_decide_eq_false hl.2)
          clear hl
          by_cases k1 : ((b8 p i).toNat : Int) < 48
          · have k2 : ((b8 p i).toNat : Int) < 97 := by omega
            clear hnd hl1
            go_wp2_with fail
            refine bodyPost_ret (v := .tuple #[.string ⟨#[]⟩, .slice none 0 0, .bool false]) (by simp [results, Try.results66, go_sem] <;> omega) rfl ?_
            rw [HN.out]
            exact ⟨_, _, rfl, HyS.no HN.out, HB.out⟩
          · have k1' : 48 ≤ ((b8 p i).toNat : Int) := by omega
            have k3 : 57 < ((b8 p i).toNat : Int) := by omega
            clear k1 hnd
            by_cases k2 : ((b8 p i).toNat : Int) < 97
            · clear hl1
              go_wp2_with fail
              refine bodyPost_ret (v := .tuple #[.string ⟨#[]⟩, .slice none 0 0, .bool false]) (by simp [results, Try.results66, go_sem] <;> omega) rfl ?_
              rw [HN.out]
              exact ⟨_, _, rfl, HyS.no HN.out, HB.out⟩
            · have k2' : 97 ≤ ((b8 p i).toNat : Int) := by omega
              have k4 : 122 < ((b8 p i).toNat : Int) := by omega
              clear k2 hl1
              go_wp2_with fail
              refine bodyPost_ret (v := .tuple #[.string ⟨#[]⟩, .slice none 0 0, .bool false]) (by simp [results, Try.results66, go_sem] <;> omega) rfl ?_
              rw [HN.out]
              exact ⟨_, _, rfl, HyS.no HN.out, HB.out⟩
        | true =>
          have HA' := Lib.hid (HA.out.letr hlt HD.out hl)
          obtain ⟨u, hu⟩ : ∃ u, u = p.extract i (i + 1) := ⟨_, rfl⟩
          have HU : Hid (u = ⟨#[b8 p i]⟩) := by show _ = _; rw [hu, ext_one hlt]
          have hus : u.size = 1 := by rw [HU.out]; rfl
          have HSX : Hid (s ++ u = ⟨(L ++ [b8 p i]).toArray⟩) := by show _ = _; rw [HS.out, HU.out]; exact key_snoc L _
          have hsu : (s ++ u).size ≤ i + 1 := by rw [ByteArray.size_append]; omega
          have hDl : (D ++ [d]).length = D.length + 1 := by simp
          have hn1 : (D ++ [d]).length + 1 ≤ 4294967296 := by rw [hDl]; omega
          have n1 : ((i : Int) + 1).toNat = i + 1 := by omega
          have l2 : (i : Int) + 1 ≤ (p.size : Int) := by omega
          have FIN : ∀ (g' c' : Nat) (w' : World), RowI w' w.heap.size 2 (.slice (some ⟨g', 0, none⟩) ((D ++ [d]).length + 1) c') (D ++ [d] ++ [0]) → RowI w' w.heap.size 2 (.slice (some ⟨g', 0, none⟩) ((D ++ [d]).length + 1) c') ((D ++ [d]) ++ [0]) := fun _ _ _ h => h
          unfold hyLet at hl
          rw [Bool.or_eq_true] at hl
          by_cases hq : isLet (b8 p i) = true
          · have hb := isLet_bd hq
            clear hl hq hnd
            have k3 : 57 < ((b8 p i).toNat : Int) := by omega
            go_wp2_with (first | (at_builtin; refine wpList_int_push wr rfl (.tmp 55) (.tmp 56) _ rfl w.heap.size 2 Try.underlying37 infoQ (.slice (some ⟨g, 0, none⟩) (D.length + 1) c) (D ++ [d]) rfl HR.out 0 rfl hn1 HSZ.out ?_; intro g' cap w' hown hbl hat hgr))
            go_roundg (gk - 1)
            case measure => omega
            case rel => exact ⟨i + 1, L ++ [b8 p i], D ++ [d], 0, true, s ++ u, g', cap, by rw [hu], by rw [hDl], rfl, by go_num, by omega, by omega, HSX.out, hsu, by simp; omega, HA'.out, hown, HB.out.trans hbl⟩
          · have h46 : b8 p i = 46 := by
              rcases hl with h | h
              · exact absurd h hq
              · exact of_decide_eq_true h
            have hb : (((b8 p i).toNat : Int) == 46) = true := by rw [h46]; rfl
            have hb2 : ((b8 p i).toNat : Int) < 48 := by rw [h46]; decide
            have hb3 : ((b8 p i).toNat : Int) < 97 := by rw [h46]; decide
            clear hl hq hnd h46
            go_wp2_with (first | (at_builtin; refine wpList_int_push wr rfl (.tmp 55) (.tmp 56) _ rfl w.heap.size 2 Try.underlying37 infoQ (.slice (some ⟨g, 0, none⟩) (D.length + 1) c) (D ++ [d]) rfl HR.out 0 rfl hn1 HSZ.out ?_; intro g' cap w' hown hbl hat hgr))
            go_roundg (gk - 1)
            case measure => omega
            case rel => exact ⟨i + 1, L ++ [b8 p i], D ++ [d], 0, true, s ++ u, g', cap, by rw [hu], by rw [hDl], rfl, by go_num, by omega, by omega, HSX.out, hsu, by simp; omega, HA'.out, hown, HB.out.trans hbl⟩
    · obtain rfl : i = p.size := by omega
      have hF := hyK_some (HA.out.fin rfl)
      have HF := Lib.hid hF
      have hsl : s.size = L.length := by rw [HS.out, key_size]
      by_cases k1 : 1 ≤ s.size
      · by_cases k2 : s.size ≤ 8
        · have HK : Hid (hyK p = true) := by show _ = _; rw [hF.1]; exact decide_eq_true (by omega)
          clear hF hsl
          have k1' : (1 : Int) ≤ (s.size : Int) := by omega
          have k2' : (s.size : Int) ≤ 8 := by omega
          go_wp2_with fail
          refine bodyPost_ret (v := .tuple #[.string s, .slice (some ⟨g, 0, none⟩) (D.length + 1) c, .bool true]) (by simp [results, Try.results66, go_sem] <;> omega) rfl ?_
          rw [HK.out]
          exact ⟨_, _, rfl, fun _ => ⟨by rw [HF.out.2.1]; exact HS.out, by rw [HF.out.2.2]; exact HR.out⟩, HB.out⟩
        · have HK : Hid (hyK p = false) := by show _ = _; rw [hF.1]; exact decide_eq_false (by omega)
          clear hF hsl
          have k1' : (1 : Int) ≤ (s.size : Int) := by omega
          have k2' : 8 < (s.size : Int) := by omega
          clear k2
          go_wp2_with fail
          refine bodyPost_ret (v := .tuple #[.string s, .slice (some ⟨g, 0, none⟩) (D.length + 1) c, .bool false]) (by simp [results, Try.results66, go_sem] <;> omega) rfl ?_
          rw [HK.out]
          exact ⟨_, _, rfl, HyS.no HK.out, HB.out⟩
      · have HK : Hid (hyK p = false) := by show _ = _; rw [hF.1]; exact decide_eq_false (by omega)
        clear hF hsl
        have k1' : (s.size : Int) < 1 := by omega
        clear k1
        go_wp2_with fail
        refine bodyPost_ret (v := .tuple #[.string s, .slice (some ⟨g, 0, none⟩) (D.length + 1) c, .bool false]) (by simp [results, Try.results66, go_sem] <;> omega) rfl ?_
        rw [HK.out]
        exact ⟨_, _, rfl, HyS.no HK.out, HB.out⟩
end Go.Proofs.Ytpmklldochpnlaa
