/- ShiftFeatures of both programs. -/
import Derived.Test.YtcmnhnapnnpbdaaSfP
import Derived.Test.YtcmnhnapnnpbdaaWf
import Derived.Test.YtcmnhnapnnpbdaaRowS
import Derived.Lib.SliceRun
namespace Go.Proofs.Ytcmnhnapnnpbdaa
open Go.RowKit
set_option linter.unusedVariables false
set_option maxRecDepth 100000 in
set_option maxHeartbeats 1000000 in
theorem iClone_any (b off n c : Nat) (xs : List Int) (w : World) (h : SlI w w.heap.size (some ⟨b, off, none⟩) n xs) (hn : n ≤ 4294967296) :
    Calls Try.prog 59 #[.slice (some ⟨b, off, none⟩) n c] w fun e w' => ∃ v, e = .returned v ∧ RowI w' w.heap.size 2 v xs ∧ Below w.heap.size w w' := by
  have H := Lib.hid h; clear h
  have hR0 := RowI.made w w.heap.size 2 (Nat.le_refl _)
  have HS := Lib.hid (SlV.alloc H.out (Nat.le_refl _) (.cells #[] 2))
  have hb0 : Below w.heap.size w (w.alloc (.cells #[] 2)) := (Below.refl _ _).alloc (Nat.le_refl _) _
  have hnil := fun w => Lib.run_eql_slice_nil (P := Try.prog) w 22 2 (some ⟨b, off, none⟩) n c 0 0 Try.underlying22
  go_enter Try.func59, Try.ntmps59
  go_wp2_with (first | (at_builtin; refine wpList_ints_push rfl (.tmp 5) (.tmp 6) _ rfl w.heap.size 2 Try.underlying22 infoF _ [] rfl hR0 b off n c w.heap.size xs rfl HS.out (by show 0 + n ≤ _; omega) hb0.size ?_; intro v' w' hown hbl))
  go_ret
  exact ⟨_, rfl, hown, hb0.trans hbl⟩
theorem feB_pos {fs : List Int} {n : Nat} (h : feB fs = true) (hl : fs.length = n) : 1 ≤ n ∧ n ≤ 4 := by have := (feB_true h).2.2; rw [hl] at this; exact this
/-- A letter of a long word is a place of the features. -/
theorem long_at {fs ws : List Int} {k n : Nat} {x : Int} (h : longB ws (n : Int) = true) (hl : fs.length = n) (hx : ws[k]? = some x) : ∃ q f, x = ((q : Nat) : Int) ∧ q < n ∧ fs[q]? = some f := by
  have h' : allIn ws 0 ((n : Int) - 1) = true := by
    unfold longB at h
    rw [Bool.and_eq_true] at h
    exact h.2
  have hb := allIn_at h' hx
  refine ⟨x.toNat, fs[x.toNat]'(by omega), by omega, by omega, List.getElem?_eq_getElem _⟩
theorem long_24 {ws : List Int} {l : Int} (h : longB ws l = true) : ws.length ≤ 24 := by
  unfold longB at h
  rw [Bool.and_eq_true, Bool.and_eq_true] at h
  exact of_decide_eq_true h.1.2
set_option maxHeartbeats 2000000 in
theorem iShift_any (b off n c b' off' n' c' : Nat) (fs ws : List Int) (need set clear : Int) (w : World) (h : SlI w w.heap.size (some ⟨b, off, none⟩) n fs) (h' : SlI w w.heap.size (some ⟨b', off', none⟩) n' ws) (hn : n ≤ 4294967296) (hn' : n' ≤ 4294967296) (hnc : n ≤ c) :
    Calls Try.prog 28 #[.slice (some ⟨b, off, none⟩) n c, .slice (some ⟨b', off', none⟩) n' c', .int .i64 need, .int .i64 set, .int .i64 clear] w fun e w' => ∃ v, e = .returned (.tuple #[v, .bool (shB fs ws need set clear)]) ∧ FOut w' w.heap.size v (shB fs ws need set clear) (sfL fs ws need set clear) ∧ Below w.heap.size w w' := by
  have hl := Lib.hid h.len
  have hl' := Lib.hid h'.len
  have hF := iFeat_any _ n c fs w.heap.size w h hn hnc
  have hG := iIsLong_any _ n' c' ws (n : Int) w.heap.size w h' hn'
  have H := Lib.hid h; have H' := Lib.hid h'; clear h h'
  have hdef : shB fs ws need set clear = (feB fs && (longB ws (n : Int) && (inB need 0 255 && (inB set 0 255 && inB clear 0 255)))) := by rw [shB, hl.out]
  cases h1 : feB fs with
  | false =>
    have HB := Lib.hid (show shB fs ws need set clear = false by rw [hdef, h1, Bool.false_and])
    rw [h1] at hF
    clear hdef hG
    go_enter Try.func28, Try.ntmps28
    go_wp2_with (first | (go_at_call 56; refine hF.mono ?_; rintro e w' ⟨rfl, hw⟩; obtain rfl := hw.symm; clear hF))
    go_ret2
    exact ⟨_, by rw [HB.out]; rfl, by rw [FOut, HB.out]; rfl, Below.refl _ _⟩
  | true =>
    rw [h1] at hF
    cases h2 : longB ws (n : Int) with
    | false =>
      have HB := Lib.hid (show shB fs ws need set clear = false by rw [hdef, h2, Bool.false_and, Bool.and_false])
      rw [h2] at hG
      clear hdef
      go_enter Try.func28, Try.ntmps28
      go_wp2_with (first | (go_at_call 56; refine hF.mono ?_; rintro e w' ⟨rfl, hw⟩; obtain rfl := hw.symm; clear hF) | (go_at_call 53; refine hG.mono ?_; rintro e w' ⟨rfl, hw⟩; subst hw; clear hG))
      go_ret2
      exact ⟨_, by rw [HB.out]; rfl, by rw [FOut, HB.out]; rfl, Below.refl _ _⟩
    | true =>
      rw [h2] at hG
      have hY := iBytes_any (some ⟨w.heap.size, 0, none⟩) 3 3 [need, set, clear] (w.heap.size + 1) (w.alloc (.cells #[.int .i64 need, .int .i64 set, .int .i64 clear] 2)) (by have := (Row.new w 2 (iv [need, set, clear])).sl; simp at this; exact this) (by omega)
      have hb3 : Below w.heap.size w (w.alloc (.cells #[.int .i64 need, .int .i64 set, .int .i64 clear] 2)) := (Below.refl _ _).alloc (Nat.le_refl _) _
      cases h3 : allIn [need, set, clear] 0 255 with
      | false =>
        have HB := Lib.hid (show shB fs ws need set clear = false by simp only [allIn, List.all_cons, List.all_nil, Bool.and_true] at h3; rw [hdef, h3, Bool.and_false, Bool.and_false])
        rw [h3] at hY
        clear hdef
        go_enter Try.func28, Try.ntmps28
        go_wp2_with (first | (go_at_call 56; refine hF.mono ?_; rintro e w' ⟨rfl, hw⟩; obtain rfl := hw.symm; clear hF) | (go_at_call 53; refine hG.mono ?_; rintro e w' ⟨rfl, hw⟩; subst hw; clear hG) | (go_at_call 57; refine hY.mono ?_; rintro e w' ⟨rfl, hw⟩; subst hw; clear hY))
        go_ret2
        exact ⟨_, by rw [HB.out]; rfl, by rw [FOut, HB.out]; rfl, hb3⟩
      | true =>
        have HB := Lib.hid (show shB fs ws need set clear = true by have h3' := h3; simp only [allIn, List.all_cons, List.all_nil, Bool.and_true] at h3'; rw [hdef, h1, h2, h3']; rfl)
        rw [h3] at hY
        have h14 := feB_pos h1 hl.out
        have HD := Lib.hid (feB_true h1).1
        have HLG := Lib.hid h2
        have h24 : n' ≤ 24 := by have := long_24 h2; rw [hl'.out] at this; exact this
        have hC := iClone_any b' off' n' c' ws (w.alloc (.cells #[.int .i64 need, .int .i64 set, .int .i64 clear] 2)) ((H'.out.below hb3 (Nat.le_refl _)).more hb3.size) hn'
        clear h1 h2 h3 hdef
        go_enter Try.func28, Try.ntmps28
        go_wp2_with (first | (go_at_call 56; refine hF.mono ?_; rintro e w' ⟨rfl, hw⟩; obtain rfl := hw.symm; clear hF) | (go_at_call 53; refine hG.mono ?_; rintro e w' ⟨rfl, hw⟩; subst hw; clear hG) | (go_at_call 57; refine hY.mono ?_; rintro e w' ⟨rfl, hw⟩; subst hw; clear hY) | (go_at_call 59; refine hC.mono ?_; rintro e w2 ⟨v, rfl, hv, hb2⟩; clear hC))
        have hv2 : RowI w2 w.heap.size 2 v ws := World.ownsRow.mono hv hb3.size
        have hb2' := hb3.trans (hb2.mono hb3.size)
        clear hv
        have HV := Lib.hid hv2; clear hv2
        go_loopg [39] n' (fun m i wr => ∃ k : Nat, i = .int .i64 k ∧ k ≤ n' ∧ n' ≤ m + k ∧ RowI wr w.heap.size 2 v (sfM fs ws need set clear k) ∧ Below w.heap.size w wr)
        case atStart => exact ⟨0, rfl, by omega, by omega, by rw [sfM_zero]; exact HV.out, hb2'⟩
        case round =>
          obtain ⟨k, rfl, hk, hm, hr, hb⟩ := hrel
          have HR := Lib.hid hr; clear hr
          have hs := hb.size
          by_cases hlt : k < n'
          · obtain ⟨b2, off2, x, he, hbB, hx, hc⟩ := (H'.out.below hb (Nat.le_refl _)).at_ hlt
            have e2 := Option.some.inj he
            injection e2 with e3 e4 _
            subst e3 e4
            clear he hbB
            obtain ⟨q, f, hq, hqn, hf⟩ := long_at HLG.out hl.out hx.out
            obtain ⟨b3, off3, f', he, hbB, hf', hcf⟩ := (H.out.below hb (Nat.le_refl _)).at_ hqn
            have e2 := Option.some.inj he
            injection e2 with e3 e4 _
            subst e3 e4
            obtain rfl : f' = f := by have := hf'.out; rw [hf] at this; exact (Option.some.inj this).symm
            clear he hbB hf'
            have l1 : (0 : Int) ≤ (k : Int) := by omega
            have l2 : (0 : Int) ≤ (q : Int) := by omega
            have l3 : (q : Int) < (n : Int) := by omega
            have HQ := Lib.hid hq
            subst hq
            have HF := Lib.hid hf; clear hf
            cases ht : (bits .and .i64 f' need == need) with
            | false =>
              have HN := Lib.hid (sfM_same (need := need) (set := set) (clear := clear) hx.out (shV_no HQ.out HF.out ht))
              go_wp2_with fail
              go_roundg (gk - 1)
              case measure => omega
              case rel => exact ⟨k + 1, by go_num, by omega, by omega, by rw [← HN.out]; exact HR.out, hb⟩
            | true =>
              have HY := Lib.hid (shV_yes (need := need) (set := set) (clear := clear) HQ.out HF.out ht)
              have hI := iIndex_any (some ⟨b, off, none⟩) n c fs (bits .andNot .i64 (bits .or .i64 f' set) clear) w.heap.size _ (H.out.below hb (Nat.le_refl _)) hn
              go_wp2_with fail
              refine hI.mono ?_
              rintro e w3 ⟨z, rfl, hz, hw⟩
              obtain rfl := hw
              clear hI
              rcases hz with ⟨rfl, hno⟩ | ⟨p, rfl, hp, hfp, hnp⟩
              · have HN := Lib.hid (sfM_same (need := need) (set := set) (clear := clear) hx.out (by rw [HY.out]; exact sfN_not hno))
                clear hno
                go_wp2_with fail
                go_roundg (gk - 1)
                case measure => omega
                case rel => exact ⟨k + 1, by go_num, by omega, by omega, by rw [← HN.out]; exact HR.out, hb⟩
              · have hval : shV fs need set clear ((q : Nat) : Int) = ((p : Nat) : Int) := by
                  rw [HY.out]
                  have := sfN_at (x := ((q : Nat) : Int)) (o := 0) hfp hnp
                  rw [Nat.zero_add] at this
                  exact this
                have HN := Lib.hid (sfM_set (need := need) (set := set) (clear := clear) hx.out hval)
                have hlen : (sfM fs ws need set clear k).length = n' := by rw [sfM_len _ _ _ _ _ (by rw [hl'.out]; omega)]; exact hl'.out
                obtain ⟨g, cv, hve, _, _, _, _⟩ := HR.out.form (by rw [hlen]; omega)
                rw [hlen] at hve
                clear hval hfp hnp
                subst hve
                have f1 := HR.out.frozen k
                obtain ⟨u, hu⟩ : ∃ u, (sfM fs ws need set clear k)[k]? = some u := ⟨_, List.getElem?_eq_getElem (show k < (sfM fs ws need set clear k).length by rw [hlen]; exact hlt)⟩
                have c1 := HR.out.cell hu
                have hbg : w.heap.size ≤ g := by obtain ⟨_, _, _, _, _, _, _, h⟩ := HR.out.open; exact h
                have HS := Lib.hid (HR.out.set k (p : Int))
                clear hlen hu
                have l4 : (0 : Int) ≤ (p : Int) := by omega
                have l5 : (k : Int) < (n' : Int) := by omega
                go_wp2_with fail
                go_roundg (gk - 1)
                case measure => omega
                case rel => exact ⟨k + 1, by go_num, by omega, by omega, by rw [← HN.out]; exact HS.out, hb.setCell (p := ⟨g, k, none⟩) hbg _⟩
          · obtain rfl : n' = k := by omega
            have HE := Lib.hid (show sfM fs ws need set clear n' = sfL fs ws need set clear by rw [← sfM_end, hl'.out])
            go_wp2_with fail
            go_ret2
            exact ⟨_, by rw [HB.out]; rfl, by rw [FOut, HB.out, ← HE.out]; exact HR.out, hb⟩
/-- The reference's look through all features. -/
def SfAt (fs : List Int) (v x y : Int) (j : Nat) : Prop := (v ∉ fs.take j ∧ y = x) ∨ ∃ q : Nat, q < j ∧ fs[q]? = some v ∧ y = (q : Int)
theorem SfAt.end_ {fs : List Int} {v x y : Int} (h : SfAt fs v x y fs.length) (hd : fs.Nodup) : sfN fs v 0 x = y := by
  rcases h with ⟨h, rfl⟩ | ⟨q, _, h, rfl⟩
  · rw [List.take_length] at h
    exact sfN_not h
  · have := sfN_at (x := x) (o := 0) h (nodup_fst hd h)
    rw [Nat.zero_add] at this; exact this
theorem SfAt.hit {fs : List Int} {v x y : Int} {j : Nat} (h : fs[j]? = some v) : SfAt fs v x (j : Int) (j + 1) := .inr ⟨j, by omega, h, rfl⟩
theorem SfAt.miss {fs : List Int} {v x y f : Int} {j : Nat} (h : SfAt fs v x y j) (hf : fs[j]? = some f) (hn : f ≠ v) : SfAt fs v x y (j + 1) := by
  rcases h with ⟨h, rfl⟩ | ⟨q, hq, h, rfl⟩
  · exact .inl ⟨mem_take_succ hf h hn, rfl⟩
  · exact .inr ⟨q, by omega, h, rfl⟩
set_option maxHeartbeats 2000000 in
theorem sShift_any (b off n c b' off' n' c' : Nat) (fs ws : List Int) (need set clear : Int) (w : World) (h : SlI w w.heap.size (some ⟨b, off, none⟩) n fs) (h' : SlI w w.heap.size (some ⟨b', off', none⟩) n' ws) (hn : n ≤ 4294967296) (hn' : n' ≤ 4294967296) (hnc : n ≤ c) :
    Calls Try.prog 27 #[.slice (some ⟨b, off, none⟩) n c, .slice (some ⟨b', off', none⟩) n' c', .int .i64 need, .int .i64 set, .int .i64 clear] w fun e w' => ∃ v, e = .returned (.tuple #[v, .bool (shB fs ws need set clear)]) ∧ FOut w' w.heap.size v (shB fs ws need set clear) (sfL fs ws need set clear) ∧ Below w.heap.size w w' := by
  have hl := Lib.hid h.len
  have hl' := Lib.hid h'.len
  have hF := sFeat_any _ n c fs w.heap.size w h hn hnc
  have hG := fun (w' : World) (hb : Below w.heap.size w w') => sLong_any (some ⟨b', off', none⟩) n' c' ws (n : Int) w.heap.size w' (h'.below hb (Nat.le_refl _)) hn'
  have H := Lib.hid h; have H' := Lib.hid h'; clear h h'
  have hdef : shB fs ws need set clear = (feB fs && (longB ws (n : Int) && (inB need 0 255 && (inB set 0 255 && inB clear 0 255)))) := by rw [shB, hl.out]
  cases h1 : feB fs with
  | false =>
    have HB := Lib.hid (show shB fs ws need set clear = false by rw [hdef, h1, Bool.false_and])
    rw [h1] at hF
    clear hdef hG
    go_enter Try.func27, Try.ntmps27
    go_wp2_with fail
    refine hF.mono ?_; rintro e w1 ⟨rfl, hb1⟩; clear hF
    go_wp2_with fail
    go_ret2
    exact ⟨_, by rw [HB.out]; rfl, by rw [FOut, HB.out]; rfl, hb1⟩
  | true =>
    rw [h1] at hF
    cases h2 : longB ws (n : Int) with
    | false =>
      have HB := Lib.hid (show shB fs ws need set clear = false by rw [hdef, h2, Bool.false_and, Bool.and_false])
      rw [h2] at hG
      clear hdef
      go_enter Try.func27, Try.ntmps27
      go_wp2_with fail
      refine hF.mono ?_; rintro e w1 ⟨rfl, hb1⟩; clear hF
      go_wp2_with fail
      refine (hG _ hb1).mono ?_; rintro e w' ⟨rfl, hw⟩; subst hw; clear hG
      go_wp2_with fail
      go_ret2
      exact ⟨_, by rw [HB.out]; rfl, by rw [FOut, HB.out]; rfl, hb1⟩
    | true =>
      rw [h2] at hG
      have hY1 := sIn_any need 0 255
      have hY2 := sIn_any set 0 255
      have hY3 := sIn_any clear 0 255
      obtain ⟨o1, ho1⟩ : ∃ o, o = inB need 0 255 := ⟨_, rfl⟩
      obtain ⟨o2, ho2⟩ : ∃ o, o = inB set 0 255 := ⟨_, rfl⟩
      obtain ⟨o3, ho3⟩ : ∃ o, o = inB clear 0 255 := ⟨_, rfl⟩
      rw [← ho1] at hY1 hdef
      rw [← ho2] at hY2 hdef
      rw [← ho3] at hY3 hdef
      rw [h1, h2, Bool.true_and, Bool.true_and] at hdef
      have HDEF := Lib.hid hdef
      have h14 := feB_pos h1 hl.out
      have HD := Lib.hid (feB_true h1).1
      have HLG := Lib.hid h2
      have h24 : n' ≤ 24 := by have := long_24 h2; rw [hl'.out] at this; exact this
      clear hdef h1 h2 ho1 ho2 ho3
      go_enter Try.func27, Try.ntmps27
      go_wp2_with fail
      refine hF.mono ?_; rintro e w1 ⟨rfl, hb1⟩; clear hF
      go_wp2_with fail
      refine (hG _ hb1).mono ?_; rintro e w' ⟨rfl, hw⟩; subst hw; clear hG
      go_wp2_with fail
      refine (hY1 _).mono ?_; rintro e w' ⟨rfl, hw⟩; subst hw; clear hY1
      cases o1 with
      | false =>
        go_wp2_with fail
        go_ret2
        exact ⟨_, by rw [HDEF.out]; rfl, by rw [FOut, HDEF.out]; rfl, hb1⟩
      | true =>
        go_wp2_with fail
        refine (hY2 _).mono ?_; rintro e w' ⟨rfl, hw⟩; subst hw; clear hY2
        cases o2 with
        | false =>
          go_wp2_with fail
          go_ret2
          exact ⟨_, by rw [HDEF.out]; rfl, by rw [FOut, HDEF.out]; rfl, hb1⟩
        | true =>
          go_wp2_with fail
          refine (hY3 _).mono ?_; rintro e w' ⟨rfl, hw⟩; subst hw; clear hY3
          cases o3 with
          | false =>
            go_wp2_with fail
            go_ret2
            exact ⟨_, by rw [HDEF.out]; rfl, by rw [FOut, HDEF.out]; rfl, hb1⟩
          | true =>
            go_wp2_with fail
            go_loopg [12, 46] n' (fun m o i wr => ∃ k : Nat, i = .int .i64 k ∧ k ≤ n' ∧ n' ≤ m + k ∧ RowI wr w.heap.size 2 o (sfL fs (ws.take k) need set clear) ∧ Below w.heap.size w wr)
            case atStart => exact ⟨0, rfl, by omega, by omega, RowI.made _ _ _ hb1.size, hb1.alloc hb1.size _⟩
            case round =>
              obtain ⟨k, rfl, hk, hm, hr, hb⟩ := hrel
              have HR := Lib.hid hr; clear hr
              have hs := hb.size
              by_cases hlt : k < n'
              · obtain ⟨b2, off2, x, he, hbB, hx, hc⟩ := (H'.out.below hb (Nat.le_refl _)).at_ hlt
                have e2 := Option.some.inj he
                injection e2 with e3 e4 _
                subst e3 e4
                clear he hbB
                obtain ⟨q, f, hq, hqn, hf⟩ := long_at HLG.out hl.out hx.out
                obtain ⟨b3, off3, f', he, hbB, hf', hcf⟩ := (H.out.below hb (Nat.le_refl _)).at_ hqn
                have e2 := Option.some.inj he
                injection e2 with e3 e4 _
                subst e3 e4
                obtain rfl : f' = f := by have := hf'.out; rw [hf] at this; exact (Option.some.inj this).symm
                clear he hbB hf'
                have l1 : (0 : Int) ≤ (k : Int) := by omega
                have l2 : (0 : Int) ≤ (q : Int) := by omega
                have l3 : (q : Int) < (n : Int) := by omega
                have HQ := Lib.hid hq
                subst hq
                have HF := Lib.hid hf; clear hf
                have HT := Lib.hid (sfL_take (fs := fs) (need := need) (set := set) (clear := clear) hx.out)
                have hlen : Hid ((sfL fs (ws.take k) need set clear).length ≤ 24) := by show _ ≤ 24; rw [sfL, List.length_map, List.length_take, hl'.out]; omega
                cases ht : (bits .and .i64 f' need == need) with
                | false =>
                  have HN := Lib.hid (shV_no (need := need) (set := set) (clear := clear) HQ.out HF.out ht)
                  go_wp2_with (first | (at_builtin; refine wpList_int_push _ rfl (.tmp 80) (.tmp 82) _ rfl w.heap.size 2 Try.underlying22 infoF _ (sfL fs (ws.take k) need set clear) rfl HR.out _ rfl (by have := hlen.out; omega) hs ?_; intro g' cap w' hown hbl hat hgr; clear hat hgr))
                  go_roundg (gk - 1)
                  case measure => omega
                  case rel => exact ⟨k + 1, by go_num, by omega, by omega, by rw [HT.out, HN.out]; exact hown, hb.trans hbl⟩
                | true =>
                  have HY := Lib.hid (shV_yes (need := need) (set := set) (clear := clear) HQ.out HF.out ht)
                  obtain ⟨go, hgo⟩ : ∃ g : Nat, g = gk := ⟨_, rfl⟩
                  go_wp2_with fail
                  go_loopg [14, 69] n (fun m' y j wr' => ∃ (jn : Nat) (Y : Int), j = .int .i64 jn ∧ y = .int .i64 Y ∧ jn ≤ n ∧ n ≤ m' + jn ∧ Hid (SfAt fs (bits .andNot .i64 (bits .or .i64 f' set) clear) (q : Int) Y jn) ∧ wr' = wr)
                  case atStart => exact ⟨0, (q : Int), rfl, rfl, by omega, by omega, .inl ⟨by simp, rfl⟩, rfl⟩
                  case round =>
                    obtain ⟨j, Y, rfl, rfl, hj, hm', hsf, rfl⟩ := hrel
                    by_cases hjn : j < n
                    · obtain ⟨b3, off3, g, he, hbB, hg, hcg⟩ := (H.out.below hb (Nat.le_refl _)).at_ hjn
                      have e2 := Option.some.inj he
                      injection e2 with e3 e4 _
                      subst e3 e4
                      clear he hbB
                      have l4 : (0 : Int) ≤ (j : Int) := by omega
                      have l5 : (j : Int) < (n : Int) := by omega
                      by_cases hq : g = bits .andNot .i64 (bits .or .i64 f' set) clear
                      · have HH : Hid (SfAt fs (bits .andNot .i64 (bits .or .i64 f' set) clear) (q : Int) (j : Int) (j + 1)) := SfAt.hit (y := Y) (by rw [← hq]; exact hg.out)
                        go_wp2_with fail
                        go_roundg (gk - 1)
                        case measure => omega
                        case rel => exact ⟨j + 1, (j : Int), by go_num, rfl, by omega, by omega, HH, rfl⟩
                      · have HH : Hid (SfAt fs (bits .andNot .i64 (bits .or .i64 f' set) clear) (q : Int) Y (j + 1)) := hsf.out.miss hg.out hq
                        go_wp2_with fail
                        go_roundg (gk - 1)
                        case measure => omega
                        case rel => exact ⟨j + 1, Y, by go_num, rfl, by omega, by omega, HH, rfl⟩
                    · obtain rfl : n = j := by omega
                      have HN : Hid (shV fs need set clear ((q : Nat) : Int) = Y) := by
                        show _ = Y
                        rw [HY.out]
                        exact SfAt.end_ (by rw [hl.out]; exact hsf.out) HD.out
                      go_wp2_with (first | (at_builtin; refine wpList_int_push _ rfl (.tmp 80) (.tmp 82) _ rfl w.heap.size 2 Try.underlying22 infoF _ (sfL fs (ws.take k) need set clear) rfl HR.out _ rfl (by have := hlen.out; omega) hs ?_; intro g' cap w' hown hbl hat hgr; clear hat hgr))
                      go_roundg (go - 1)
                      case measure => omega
                      case rel => exact ⟨k + 1, by go_num, by omega, by omega, by rw [HT.out, HN.out]; exact hown, hb.trans hbl⟩
              · obtain rfl : n' = k := by omega
                have HE := Lib.hid (show ws.take n' = ws from take_all hl'.out)
                go_wp2_with fail
                go_ret2
                exact ⟨_, by rw [HDEF.out]; rfl, by rw [FOut, HDEF.out]; rw [← HE.out]; exact HR.out, hb⟩
end Go.Proofs.Ytcmnhnapnnpbdaa
