/- NearTexts of the reference. -/
import Derived.Test.YtpmklldochpnlaaNtI
namespace Go.Proofs.Ytpmklldochpnlaa
open Go.RowKit Go.PlainAid
set_option linter.unusedVariables false
theorem RowI.open {w : World} {base g c n : Nat} {t : TypeId} {r : List Int} (h : RowI w base t (.slice (some ⟨g, 0, none⟩) n c) r) : ∃ vs, Row w g t vs ∧ vs.take r.length = iv r ∧ vs.length = c ∧ c ≤ maxLen ∧ r.length = n ∧ n ≤ c ∧ base ≤ g := by
  obtain ⟨h1, h2⟩ := h
  rcases h2 with ⟨e, _⟩ | ⟨g', cap, cur, e, hb, hg, hn, hm, hs, ht⟩
  · cases e
  · injection e with e1 e2 e3
    injection e1 with e1
    injection e1 with e1 _ _
    subst e1
    refine ⟨cur.toList, by unfold Row; rw [Array.toArray_toList]; exact hg, by rw [← ht, Nat.mul_one], ?_, by omega, by omega, by omega, hb⟩
    rw [Array.length_toList, hs]; omega
theorem RowI.frozen {w : World} {base g c n : Nat} {t : TypeId} {r : List Int} (h : RowI w base t (.slice (some ⟨g, 0, none⟩) n c) r) (k : Nat) : w.frozen? ⟨g, k, none⟩ = false := by
  obtain ⟨vs, hr, _⟩ := h.open; exact hr.frozen k
theorem RowI.cell {w : World} {base g c n : Nat} {t : TypeId} {r : List Int} (h : RowI w base t (.slice (some ⟨g, 0, none⟩) n c) r) {k : Nat} {x : Int} (hx : r[k]? = some x) : w.cell? ⟨g, k, none⟩ = some (.int .i64 x) := by
  obtain ⟨vs, hr, ht, _⟩ := h.open
  have hk := (List.getElem?_eq_some_iff.1 hx).1
  rw [hr.cell, ← List.getElem?_take_of_lt hk, ht, iv, List.getElem?_map, hx]; rfl
theorem RowI.set {w : World} {base g c n : Nat} {t : TypeId} {r : List Int} (h : RowI w base t (.slice (some ⟨g, 0, none⟩) n c) r) (k : Nat) (x : Int) : RowI (w.setCell ⟨g, k, none⟩ (.int .i64 x)) base t (.slice (some ⟨g, 0, none⟩) n c) (r.set k x) := by
  obtain ⟨vs, hr, ht, hl, hm, hn, hnc, hb⟩ := h.open
  have hr' := hr.set_ k (.int .i64 x)
  have hlen : (r.set k x).length = n := by rw [List.length_set]; exact hn
  refine ⟨by rw [iv_length]; omega, .inr ⟨g, c, (vs.set k (.int .i64 x)).toArray, by rw [hlen], hb, hr', by omega, hm, by simp [hl], ?_⟩⟩
  rw [List.toList_toArray, List.take_set, hlen, Nat.mul_one, ← hn, ht, iv, iv, List.map_set]
theorem ix_put (A B : List Nat) (i y : Nat) : ((ix (A ++ [y] ++ i :: B)).set (A.length + 1) (y : Int)).set A.length (i : Int) = ix (A ++ i :: y :: B) := by
  simp [ix]
theorem ix_get (l : List Nat) {k x : Nat} (h : l[k]? = some x) : (ix l)[k]? = some (x : Int) := by simp [ix, h]
theorem nt_end {cs : Nat → Int} {n M : Nat} {most : Int} {L : List Nat} (h0 : ∀ j, 0 ≤ cs j ∧ cs j ≤ 48) (hn : n ≤ 64) (hs : SortK (ntKey cs) L) (hm : ∀ x, x ∈ L ↔ x < n ∧ cs x ≤ most) (hM : (M : Int) = min most 48) : L = ntTo cs n (M + 1) := by
  refine sortK_uniq _ _ _ hs (sort_ntTo cs n (fun j => (h0 j).1) hn _) (fun x => ?_)
  rw [hm, mem_ntTo cs n (fun j => (h0 j).1)]
  have := h0 x
  constructor
  · rintro ⟨a, b⟩; exact ⟨a, by omega⟩
  · rintro ⟨a, b⟩; exact ⟨a, by omega⟩
theorem nt_mem {cs : Nat → Int} {i : Nat} {most : Int} {A B L : List Nat} (hm : ∀ x, x ∈ L ↔ x < i ∧ cs x ≤ most) (hL : A ++ B = L) (hi : cs i ≤ most) : ∀ x, x ∈ A ++ i :: B ↔ x < i + 1 ∧ cs x ≤ most := by
  intro x
  have := hm x
  rw [← hL, List.mem_append] at this
  rw [List.mem_append, List.mem_cons]
  constructor
  · rintro (h | rfl | h)
    · have := this.1 (.inl h); exact ⟨by omega, this.2⟩
    · exact ⟨by omega, hi⟩
    · have := this.1 (.inr h); exact ⟨by omega, this.2⟩
  · rintro ⟨h1, h2⟩
    by_cases e : x = i
    · exact .inr (.inl e)
    · rcases this.2 ⟨by omega, h2⟩ with h | h
      · exact .inl h
      · exact .inr (.inr h)
theorem nt_skip' {cs : Nat → Int} {i : Nat} {most : Int} {L : List Nat} (hm : ∀ x, x ∈ L ↔ x < i ∧ cs x ≤ most) (hi : ¬ cs i ≤ most) : ∀ x, x ∈ L ↔ x < i + 1 ∧ cs x ≤ most := by
  intro x
  rw [hm]
  constructor
  · rintro ⟨h1, h2⟩; exact ⟨by omega, h2⟩
  · rintro ⟨h1, h2⟩
    by_cases e : x = i
    · subst e; exact absurd h2 hi
    · exact ⟨by omega, h2⟩
theorem nt_swap {w : World} {base g c n p y i : Nat} {t : TypeId} {P' B : List Nat} (h : RowI w base t (.slice (some ⟨g, 0, none⟩) n c) (ix (P' ++ [y] ++ i :: B))) (hp : p = P'.length) :
    RowI ((w.setCell ⟨g, p + 1, none⟩ (.int .i64 (y : Int))).setCell ⟨g, p, none⟩ (.int .i64 (i : Int))) base t (.slice (some ⟨g, 0, none⟩) n c) (ix (P' ++ i :: y :: B)) := by
  subst hp
  have hset := (h.set (P'.length + 1) (y : Int)).set P'.length (i : Int)
  rw [ix_put] at hset
  exact hset
theorem SlI.get {w : World} {B b off n k : Nat} {xs : List Int} {x : Int} (h : SlI w B (some ⟨b, off, none⟩) n xs) (hk : k < n) (hx : xs[k]? = some x) : w.cell? ⟨b, off + k, none⟩ = some (.int .i64 x) := by
  obtain ⟨b', off', x', e, _, hx', hc⟩ := h.at_ hk
  have e2 := Option.some.inj e
  injection e2 with e3 e4 _
  subst e3 e4
  rw [hx'.out] at hx
  rw [← Option.some.inj hx]; exact hc
theorem nt_last {P' B : List Nat} {y i : Nat} : (P' ++ [y] ++ i :: B)[P'.length]? = some y ∧ (P' ++ [y] ++ i :: B)[P'.length + 1]? = some i := by
  constructor
  · simp
  · rw [List.getElem?_append_right (by simp)]; simp
set_option maxHeartbeats 4000000 in
theorem sNearTexts_any (A : Option Addr) (n c : Nat) (ss : List ByteArray) (t : ByteArray) (most : Int) (w : World) (h : SlS w w.heap.size A n ss) (hn : n ≤ maxLen) (wt : t.size ≤ maxLen) :
    Calls Try.prog 29 #[.slice A n c, .string t, .int .i64 most] w fun e w' => ∃ v, e = .returned (.tuple #[v, .bool (ntB ss t most)]) ∧ NsOut w' w.heap.size v (ntB ss t most) (ntL ss t most) ∧ Below w.heap.size w w' := by
  have hl := Lib.hid h.len
  have hL := sList_any A n c ss w w.heap.size h hn
  have H := Lib.hid h; clear h
  by_cases h1 : ltB ss = true
  · rw [h1] at hL
    have hp := lt_parts h1
    have h32 : n ≤ 32 := by rw [← hl.out]; exact hp.1
    have HP := Lib.hid hp.2
    clear hp
    by_cases h2 : txtB t = true
    · have ht := txtB_true h2
      by_cases h3 : inB most 0 1000 = true
      · have hns : nsB ss t = true := by rw [nsB, h1, h2]; rfl
        have hB := Lib.hid (show ntB ss t most = true by rw [ntB, hns]; simp [allIn, h3])
        have hlen : (nrs ss t).length = n := by rw [nrs_length]; exact hl.out
        have hm := inB_true h3
        have HBD := Lib.hid (ntC_bd hns)
        have HL : Hid (∀ L : List Nat, SortK (ntKey (ntC ss t)) L → (∀ x, x ∈ L ↔ x < n ∧ ntC ss t x ≤ most) → ix L = ntL ss t most) := by
          intro L g1 g2
          have := nt_end (M := (min most 48).toNat) (ntC_bd hns) (by omega) g1 g2 (by omega)
          rw [this, ntL, hl.out]
        clear h1 hns
        go_enter Try.func29, Try.ntmps29
        go_wp2_with (first | (go_at_call 55; refine hL.mono ?_; rintro e w' ⟨rfl, hw⟩; obtain rfl := hw.symm; clear hL) | (go_at_call 58; refine (sText_any _ wt _).mono ?_; rintro e w' ⟨rfl, hw⟩; subst hw) | (go_at_call 59; refine (sIn_any _ _ _ _).mono ?_; rintro e w' ⟨rfl, hw⟩; subst hw) | (go_at_call 62; refine (sNears_any A n c ss t w H.out h32 HP.out ht).mono ?_; rintro e w2 ⟨v, rfl, hv, hb2⟩; obtain ⟨A2, c2, hv2, _, _⟩ := own_form hv; rw [hlen] at hv2; subst hv2; have HV := Lib.hid hv; clear hv))
        have hs2 := hb2.size
        go_loopg [9, 10] n (fun m o q wr => ∃ (i : Nat) (L : List Nat), q = .int .i64 i ∧ i ≤ n ∧ n ≤ m + i ∧ L.length ≤ i ∧ Hid (SortK (ntKey (ntC ss t)) L) ∧ Hid (∀ x, x ∈ L ↔ x < i ∧ ntC ss t x ≤ most) ∧ RowI wr w2.heap.size 2 o (ix L) ∧ Below w2.heap.size w2 wr)
        case atStart => exact ⟨0, [], rfl, by omega, by omega, by simp, by show SortK _ _; simp [SortK], by show ∀ x, _; simp, RowI.made _ _ _ (Nat.le_refl _), (Below.refl _ _).alloc (Nat.le_refl _) _⟩
        case round =>
          obtain ⟨i, L, rfl, hi, hm', hLi, hSK, hMM, hr, hb⟩ := hrel
          have HR := Lib.hid hr; clear hr
          have hs := hb.size
          by_cases hin : i < n
          · obtain ⟨b, off, x, rfl, hbB, hx, hc⟩ := ((HV.out.sl hlen).below hb (Nat.le_refl _)).at_ hin
            have hx' : Hid (x = ntC ss t i) := by have h := hx.out; rw [ntC_get (by rw [hl.out]; exact hin)] at h; exact (Option.some.inj h).symm
            have l1 : (0 : Int) ≤ (i : Int) := by omega
            by_cases hxm : x ≤ most
            · obtain ⟨go, hgo⟩ : ∃ g : Nat, g = gk := ⟨_, rfl⟩
              obtain ⟨K, hK⟩ : ∃ K, K = L.length := ⟨_, rfl⟩
              have hK2 : Hid ((ix L).length = K) := by show _ = _; rw [ix_len]; exact hK.symm
              rw [← hK] at hLi
              have HK := Lib.hid hK; clear hK
              go_wp2_with (first | (at_builtin; refine wpList_int_push _ rfl (.tmp 42) (.tmp 44) _ rfl w2.heap.size 2 Try.underlying37 infoI7 _ (ix L) rfl HR.out _ rfl (by rw [hK2.out]; omega) hs ?_; intro g' cap w' hown hbl hat hgr; rw [hK2.out] at hown ⊢; clear hat hgr))
              have hb' := hb.trans (hbl.mono (Nat.le_refl _))
              have hs' := hb'.size
              have HOW := Lib.hid hown; clear hown
              go_loopg [11] K (fun m' q wr' => ∃ (P B : List Nat), q = .int .i64 P.length ∧ Hid (P ++ B = L) ∧ Hid (∀ b, b ∈ B → ntC ss t i < ntC ss t b) ∧ P.length ≤ m' ∧ P.length ≤ K ∧ RowI wr' w2.heap.size 2 (.slice (some ⟨g', 0, none⟩) (K + 1) cap) (ix (P ++ i :: B)) ∧ Below w2.heap.size w2 wr')
              case atStart => exact ⟨L, [], by rw [← HK.out], by show _ = _; simp, by show ∀ b, _; simp, by rw [← HK.out]; exact Nat.le_refl _, by rw [← HK.out]; exact Nat.le_refl _, by rw [ix_snoc]; exact HOW.out, hb'⟩
              case round =>
                obtain ⟨P, B, rfl, hPB, hBB, hm2, hPK, hr2, hb2'⟩ := hrel
                have HR2 := Lib.hid hr2; clear hr2
                have hs2' := hb2'.size
                rcases List.eq_nil_or_concat P with rfl | ⟨P', y, hPe⟩
                · go_wp2
                  go_quiet (fail)
                  go_wp2
                  go_roundg (go - 1)
                  case measure => omega
                  case rel => exact ⟨i + 1, [] ++ i :: B, by go_num, by omega, by omega, by have h := congrArg List.length hPB.out; rw [← HK.out] at h; simp at h ⊢; omega, sort_put (ntC ss t) (by rw [hPB.out]; exact hSK.out) (fun z hz => by rw [hPB.out] at hz; exact ((hMM.out z).1 hz).1) (by omega) hBB.out (.inl rfl), nt_mem hMM.out hPB.out (by rw [← hx'.out]; exact hxm), HR2.out.drewN _, below_draws hb2' _⟩
                · rw [List.concat_eq_append] at hPe
                  subst hPe
                  obtain ⟨p, hp⟩ : ∃ p, p = P'.length := ⟨_, rfl⟩
                  have hpl : (P' ++ [y]).length = p + 1 := by rw [hp]; simp
                  rw [hpl] at hm2 hPK ⊢
                  have hyL : y ∈ L := by rw [← hPB.out]; simp
                  have hyi := ((hMM.out y).1 hyL).1
                  have hyn : y < n := by omega
                  clear hyL
                  have c0 := HR2.out.cell (ix_get _ (nt_last (P' := P') (B := B) (y := y) (i := i)).1)
                  have c1 := HR2.out.cell (ix_get _ (nt_last (P' := P') (B := B) (y := y) (i := i)).2)
                  rw [← hp] at c0 c1
                  have f1 := fun q : Nat => HR2.out.frozen q
                  have hgb : w2.heap.size ≤ g' := by obtain ⟨_, _, _, _, _, _, _, h⟩ := HR2.out.open; exact h
                  have HV2 := (HV.out.sl hlen).below hb2' (Nat.le_refl _)
                  have d1 := HV2.get hin hx.out
                  have hxy := ntC_get (t := t) (show y < ss.length by rw [hl.out]; exact hyn)
                  have d2 := HV2.get hyn hxy
                  clear HV2 hxy
                  obtain ⟨z, hz⟩ : ∃ z, z = ntC ss t y := ⟨_, rfl⟩
                  rw [← hz] at d2
                  have HZ := Lib.hid hz; clear hz
                  have HP2 := Lib.hid hp; clear hp
                  have l2 : (0 : Int) ≤ (y : Int) := by omega
                  have l3 : (i : Int) < (n : Int) := by omega
                  have l4 : (y : Int) < (n : Int) := by omega
                  have l5 : (0 : Int) ≤ (p : Int) := by omega
                  have l6 : (0 : Int) ≤ (p : Int) + 1 := by omega
                  have l7 : (p : Int) < (K : Int) + 1 := by omega
                  have l8 : (p : Int) + 1 < (K : Int) + 1 := by omega
                  have l9 : (0 : Int) < (p : Int) + 1 := by omega
                  have w1 : IntKind.i64.wrap (p : Int) = (p : Int) := IntWalk.i64_in _ (by omega)
                  by_cases hq : x < z
                  · skip
                    go_wp2
                    go_quiet (fail)
                    go_wp2
                    go_roundg p
                    case measure => omega
                    case rel => exact ⟨P', y :: B, by rw [← HP2.out], by have h := hPB.out; show _ = _; rw [← h]; simp, by show ∀ b, _; intro b hb9; rcases List.mem_cons.1 hb9 with rfl | h9; rw [← hx'.out, ← HZ.out]; exact hq; exact hBB.out b h9, by rw [← HP2.out]; exact Nat.le_refl _, by rw [← HP2.out]; omega, nt_swap (HR2.out.drewN _) HP2.out, ((below_draws hb2' _).setCell (p := ⟨g', p + 1, none⟩) hgb _).setCell (p := ⟨g', p, none⟩) hgb _⟩
                  · have hq' : z ≤ x := by omega
                    clear hq
                    go_wp2
                    go_quiet (fail)
                    go_wp2
                    go_roundg (go - 1)
                    case measure => omega
                    case rel => exact ⟨i + 1, (P' ++ [y]) ++ i :: B, by go_num, by omega, by omega, by have h := congrArg List.length hPB.out; rw [← HK.out] at h; simp at h ⊢; omega, sort_put (ntC ss t) (by rw [hPB.out]; exact hSK.out) (fun z hz => by rw [hPB.out] at hz; exact ((hMM.out z).1 hz).1) (by omega) hBB.out (.inr ⟨P', y, rfl, by rw [← hx'.out, ← HZ.out]; exact hq'⟩), nt_mem hMM.out hPB.out (by rw [← hx'.out]; exact hxm), HR2.out.drewN _, below_draws hb2' _⟩
            · have hxm' : most < x := by omega
              have HN := Lib.hid (nt_skip' hMM.out (show ¬ ntC ss t i ≤ most by rw [← hx'.out]; exact hxm))
              clear hxm
              go_wp2
              go_roundg (gk - 1)
              case measure => omega
              case rel => exact ⟨i + 1, L, by go_num, by omega, by omega, by omega, hSK, HN, HR.out, hb⟩
          · obtain rfl : n = i := by omega
            go_wp2
            go_ret2
            exact ⟨_, by rw [hB.out]; rfl, by rw [NsOut, hB.out, ← HL.out L hSK.out hMM.out]; exact World.ownsRow.mono HR.out hs2, hb2.trans (hb.mono hs2)⟩
      · have h3' : inB most 0 1000 = false := by simpa using h3
        have hB := Lib.hid (show ntB ss t most = false by rw [ntB]; simp [allIn, h3'])
        clear h1 h3
        go_enter Try.func29, Try.ntmps29
        go_wp2_with (first | (go_at_call 55; refine hL.mono ?_; rintro e w' ⟨rfl, hw⟩; obtain rfl := hw.symm; clear hL) | (go_at_call 58; refine (sText_any _ wt _).mono ?_; rintro e w' ⟨rfl, hw⟩; subst hw) | (go_at_call 59; refine (sIn_any _ _ _ _).mono ?_; rintro e w' ⟨rfl, hw⟩; subst hw))
        go_ret2
        exact ⟨_, by rw [hB.out]; rfl, by rw [NsOut, hB.out]; rfl, Below.refl _ _⟩
    · have h2' : txtB t = false := by simpa using h2
      have hB := Lib.hid (show ntB ss t most = false by rw [ntB, nsB, h2', Bool.and_false, Bool.false_and])
      clear h1 h2
      go_enter Try.func29, Try.ntmps29
      go_wp2_with (first | (go_at_call 55; refine hL.mono ?_; rintro e w' ⟨rfl, hw⟩; obtain rfl := hw.symm; clear hL) | (go_at_call 58; refine (sText_any _ wt _).mono ?_; rintro e w' ⟨rfl, hw⟩; subst hw))
      go_ret2
      exact ⟨_, by rw [hB.out]; rfl, by rw [NsOut, hB.out]; rfl, Below.refl _ _⟩
  · have h1' : ltB ss = false := by simpa using h1
    have hB := Lib.hid (show ntB ss t most = false by rw [ntB, nsB, h1', Bool.false_and, Bool.false_and])
    rw [h1'] at hL
    clear h1 h1'
    go_enter Try.func29, Try.ntmps29
    go_wp2_with (first | (go_at_call 55; refine hL.mono ?_; rintro e w' ⟨rfl, hw⟩; obtain rfl := hw.symm; clear hL))
    go_ret2
    exact ⟨_, by rw [hB.out]; rfl, by rw [NsOut, hB.out]; rfl, Below.refl _ _⟩
end Go.Proofs.Ytpmklldochpnlaa
