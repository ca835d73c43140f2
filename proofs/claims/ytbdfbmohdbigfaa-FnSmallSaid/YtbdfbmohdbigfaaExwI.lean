/- explore[int64]: the walk at the closures of LeastPlain. -/
import Derived.Test.YtbdfbmohdbigfaaMgr
import Derived.Test.YtbdfbmohdbigfaaExwU
import Derived.Test.YtbdfbmohdbigfaaMgv
import Derived.Test.YtbdfbmohdbigfaaMgb
import Derived.Test.YtbdfbmohdbigfaaMgf
import Derived.Deep.LoopGhost
import Derived.Deep.CutRange
import Derived.Deep.RegionHeld3
import Derived.Deep.RegionLaw
import Derived.Deep.DrawnRows
import Derived.BigQuiet

namespace Go.Proofs.Ytbdfbmohdbigfaa
open Go.RowKit Go.Maps
attribute [local go_sem ↓] Go.wp_at_zero Go.wp_at_succ
set_option linter.unusedVariables false
def kvI (x : Nat) : Value := (fun x : Nat => Value.int .i64 (x : Int)) x
def okI (x : Nat) : Prop := (fun x : Nat => x < 65536) x
theorem infoKI : (Try.prog.info? 2).map (fun i => (i.zero, i.size, i.bytes)) = some (some (.int .i64 0), 1, 8) := by kernel_rfl
theorem infoBI : (Try.prog.info? 4).map (fun i => (i.zero, i.size, i.bytes)) = some (some (.bool false), 1, 1) := by kernel_rfl
theorem infoII : (Try.prog.info? 2).map (fun i => (i.zero, i.size, i.bytes)) = some (some (.int .i64 0), 1, 8) := by kernel_rfl
theorem keyI : KeyOk Try.prog 156 2 2 kvI okI where
  K := int_keyed Try.underlying2
  und := Try.underlying156
  zero := fun w => by kernel_rfl
  key := fun x hx => ⟨_, keyOf_int_mk Try.underlying2 (by simp [Lit.wf, IntKind.min, IntKind.max, IntKind.bits, IntKind.signed]; have : x < 65536 := hx; omega)⟩
  inj := fun x y h => by
    have h' : (Value.int .i64 (x : Int)) = .int .i64 (y : Int) := h
    injection h' with _ h'
    omega
def kvsI (L : List Nat) : List Value := L.map kvI
theorem kvsI_len (L : List Nat) : (kvsI L).length = L.length := by simp [kvsI]
theorem kvsI_get {L : List Nat} {k : Nat} {x : Nat} (h : L[k]? = some x) : (kvsI L)[k]? = some (kvI x) := by simp [kvsI, h]
theorem kvsI_snoc (L : List Nat) (x : Nat) : kvsI (L ++ [x]) = kvsI L ++ [kvI x] := by simp [kvsI]
theorem own_cellI {w : World} {base n g c j : Nat} {t : TypeId} {X : List Value} {u : Value} (h : w.ownsRow base t 1 (.slice (some ⟨g, 0, none⟩) n c) n X) (hx : X[j]? = some u) : w.cell? ⟨g, j, none⟩ = some u := by
  have := h.cells (g := g) rfl j u hx
  have ea : (⟨g, 0, none⟩ : Addr).add j = ⟨g, j, none⟩ := by unfold Addr.add; by_cases h : j = 0 <;> simp [h]
  rw [ea] at this
  exact this
set_option maxRecDepth 100000 in
set_option maxHeartbeats 16000000 in
theorem iExploreI_any (nx : Nat → Nat → Nat) (en : Nat → Bool) (first : Nat) (T : Nat) (hT : T ≤ 4) (gc gp gf : Nat) (w : World) (I : World → Prop) (h0 : I w) (hI : ∀ x x', I x → Below w.heap.size x x' → w.heap.size ≤ x.heap.size → I x')
    (ok : Nat → Prop) (hokI : ∀ k, ok k → okI k) (hok : ok first) (hnx : ∀ k l, ok k → l < T → ok (nx k l))
    (cN : ∀ x k l, I x → w.heap.size ≤ x.heap.size → ok k → l < T → Calls Try.prog 90 #[(.int .i64 ((k : Nat) : Int)), .int .i64 (l : Int), .pointer (some ⟨gc, 0, none⟩), .pointer (some ⟨gp, 0, none⟩), .pointer (some ⟨gf, 0, none⟩)] x fun e x' => e = .returned (.int .i64 ((nx k l : Nat) : Int)) ∧ Below x.heap.size x x')
    (cE : ∀ x k, I x → w.heap.size ≤ x.heap.size → ok k → Calls Try.prog 92 #[(.int .i64 ((k : Nat) : Int)), .pointer (some ⟨gp, 0, none⟩), .pointer (some ⟨gf, 0, none⟩)] x fun e x' => e = .returned (.bool (en k)) ∧ Below x.heap.size x x') :
    Calls Try.prog 91 #[.int .i64 (T : Int), (.int .i64 ((first : Nat) : Int)), .func (.func 90) #[] #[.pointer (some ⟨gc, 0, none⟩), .pointer (some ⟨gp, 0, none⟩), .pointer (some ⟨gf, 0, none⟩)], .func (.func 92) #[] #[.pointer (some ⟨gp, 0, none⟩), .pointer (some ⟨gf, 0, none⟩)]] w fun e w' => ∃ v, e = .returned (.tuple #[v, .bool (exAll nx first T).isSome]) ∧ PlW w' w.heap.size v (exN nx first T : Int) (exT nx first T : Int) (exP nx first T) (exD nx en first T) ∧ Below w.heap.size w w' := by
  have KU := keyI
  have CN := Lib.hid cN; have CE := Lib.hid cE; have HOK := Lib.hid hok; have HNX := Lib.hid hnx; have HII := Lib.hid hokI; have HI := Lib.hid hI; have HI0 := Lib.hid h0
  clear cN cE hok hnx hI h0 hokI
  obtain ⟨w1, hw1⟩ : ∃ x, x = ((w.alloc (.cells ([.int .i64 0, .int .i64 0, .slice none 0 0, .slice none 0 0] : List Value).toArray 33)).alloc (.cells ([.int .i64 0, .int .i64 (T : Int), .slice none 0 0, .slice none 0 0] : List Value).toArray 33)).alloc (.map #[] 0) := ⟨_, rfl⟩
  have XB1 : Hid (Xb w w1 w.heap.size (w.heap.size + 1) 33 2 4 2 1 (.int .i64 0) (.int .i64 (T : Int)) (.slice none 0 0) (.slice none 0 0) (.slice none 0 0) 0 0 0 [] [] [] (w.heap.size + 2) w.heap.size (.map #[] 0) (.cells #[.int .i64 0, .int .i64 0, .slice none 0 0, .slice none 0 0] 33 (0, 0))) := by
    have r1 := Row.new w 33 [.int .i64 0, .int .i64 0, .slice none 0 0, .slice none 0 0]
    have r2 := Row.new (w.alloc (.cells ([.int .i64 0, .int .i64 0, .slice none 0 0, .slice none 0 0] : List Value).toArray 33)) 33 [.int .i64 0, .int .i64 (T : Int), .slice none 0 0, .slice none 0 0]
    rw [show (w.alloc (.cells ([.int .i64 0, .int .i64 0, .slice none 0 0, .slice none 0 0] : List Value).toArray 33)).heap.size = w.heap.size + 1 by simp] at r2
    subst hw1
    refine ⟨r2.alloc _, (((Below.refl _ _).alloc (Nat.le_refl _) _).alloc (by simp) _).alloc (by simp; omega) _, by omega, Nat.le_refl _, own_none _ _ _ _, own_none _ _ _ _, own_none _ _ _ _, (fun k h => by cases h), (fun k h => by cases h), (fun k h => by cases h), ?_, (r1.alloc _).alloc _, ⟨by omega, by omega, by omega⟩, ⟨by omega, by omega⟩⟩
    have := heap_alloc_new ((w.alloc (.cells ([.int .i64 0, .int .i64 0, .slice none 0 0, .slice none 0 0] : List Value).toArray 33)).alloc (.cells ([.int .i64 0, .int .i64 (T : Int), .slice none 0 0, .slice none 0 0] : List Value).toArray 33)) (.map #[] 0)
    rw [show ((w.alloc (.cells ([.int .i64 0, .int .i64 0, .slice none 0 0, .slice none 0 0] : List Value).toArray 33)).alloc (.cells ([.int .i64 0, .int .i64 (T : Int), .slice none 0 0, .slice none 0 0] : List Value).toArray 33)).heap.size = w.heap.size + 2 by simp] at this
    exact this
  have hmm := @run_makeMap Try.prog
  have NO0 : Hid (NamesO kvI (.map #[] 0) ([] : List Nat)) := NamesO.nil _
  go_enter Try.func91, Try.ntmps91
  go_wp2_with (first | (refine wpList_names_put KU _ rfl (.tmp 21) (.tmp 22) (.const (.int .i64 0)) (.inr rfl) (w.heap.size + 2) (L := ([] : List Nat)) (fun y hy => by cases hy) (by simp) (by first | exact XB1.out.hm | (rw [← hw1]; exact XB1.out.hm)) NO0.out (y := first) (HII.out _ HOK.out) (by simp) rfl rfl rfl ?_; intro w2 om2 hb2 ho2 hbut; have hbut' : But (w.heap.size + 2) w1 w2 := (by rw [hw1]; exact hbut); have XB2 := Lib.hid (XB1.out.map hbut' hb2); have NO2 := Lib.hid ho2; clear hb2 ho2 hbut hbut'))

  clear hmm hw1 XB1 NO0
  have XB3 := Lib.hid (xb_new4 XB2.out [(.int .i64 ((first : Nat) : Int))] (by unfold maxLen; simp))
  have hs3 := XB3.out.size
  have NO3 : Hid (NamesO kvI om2 [first]) := NO2.out
  clear XB2 NO2
  go_loopg [12, 13] 65 (fun m l i wr => ∃ (n g4 c4 : Nat) (v2 v3 : Value) (om : Obj), l = .slice (some ⟨g4, 0, none⟩) (exA nx first T n).1.length c4 ∧ i = .int .i64 n ∧ Hid (m + n = 65) ∧ Hid (n ≤ (exA nx first T n).1.length) ∧ Hid ((exA nx first T n).1.length ≤ 64) ∧ Hid (exE nx first T m n = exAll nx first T) ∧ Hid (∀ y ∈ (exA nx first T n).1, ok y) ∧ Hid (Xb w wr w.heap.size (w.heap.size + 1) 33 2 4 2 1 (.int .i64 0) (.int .i64 (T : Int)) v2 v3 (.slice (some ⟨g4, 0, none⟩) (exA nx first T n).1.length c4) (exA nx first T n).2.length n (exA nx first T n).1.length (iv (exA nx first T n).2) (bv (((exA nx first T n).1.take n).map en)) (kvsI (exA nx first T n).1) (w.heap.size + 2) w.heap.size om (.cells #[.int .i64 0, .int .i64 0, .slice none 0 0, .slice none 0 0] 33 (0, 0))) ∧ Hid (NamesO kvI om (exA nx first T n).1))
  case atStart => exact ⟨0, w2.heap.size, 1, .slice none 0 0, .slice none 0 0, om2, rfl, rfl, rfl, Nat.zero_le _, (show 1 ≤ 64 by omega), rfl, (fun y hy => by rw [show y = first from by simpa [exA] using hy]; exact HOK.out), XB3.out, NO3.out⟩
  case round =>
    clear XB3 NO3 hs3
    obtain ⟨n, g4, c4, v2, v3, om, rfl, rfl, hmn, HNL, HL64, HE, HKS, HX, HNO⟩ := hrel
    obtain ⟨wo, rfl⟩ : ∃ x : World, x = wr := ⟨_, rfl⟩
    obtain ⟨gq, hgq⟩ : ∃ g : Nat, g = gk := ⟨_, rfl⟩
    rw [← hgq] at hmn HE
    obtain ⟨st, hst⟩ : ∃ s, s = exA nx first T n := ⟨_, rfl⟩
    rw [← hst] at HNL HL64 HKS HX HNO ⊢
    have HST := Lib.hid hst
    have INV : Hid (ExI nx first T st n 0) := by rw [hst]; exact exA_inv n (by rw [← hst]; exact HNL.out)
    clear hst
    have hI1 : Hid (I wo) := HI.out w wo HI0.out HX.out.bel (Nat.le_refl _)
    have j0 : (0 : Int) ≤ (n : Int) := by omega
    have HSZ := Lib.hid HX.out.size
    by_cases hlt : n < st.1.length
    · obtain ⟨k, hk⟩ : ∃ k, st.1[n]? = some k := ⟨_, List.getElem?_eq_getElem hlt⟩
      have HK := Lib.hid hk
      have HOKk : Hid (ok k) := HKS.out k (List.mem_of_getElem? hk)
      have c0 : wo.cell? ⟨g4, n, none⟩ = some (.int .i64 ((k : Nat) : Int)) := own_cellI HX.out.o4 (kvsI_get hk)
      have l1 : (n : Int) < (st.1.length : Int) := by omega
      obtain ⟨e, he⟩ : ∃ e, e = en k := ⟨_, rfl⟩
      have HEN := Lib.hid he
      have CED : Hid (Calls Try.prog 92 #[(.int .i64 ((k : Nat) : Int)), .pointer (some ⟨gp, 0, none⟩), .pointer (some ⟨gf, 0, none⟩)] wo.drew fun e' w' => e' = .returned (.bool e) ∧ Below wo.heap.size wo.drew w') := by rw [he]; exact CE.out wo.drew k (HI.out w wo.drew HI0.out (HX.out.bel.trans ((Below.drew (Below.refl _ _)).mono HSZ.out)) (Nat.le_refl _)) HSZ.out HOKk.out
      clear hk he
      have e3 := HX.out.row.cell 3
      have P01 : 0 < 1 := by omega
      have P132 : 1 ≤ 32 := by omega
      have ROOM : Hid (n + 1 ≤ 4294967296) := by show _ ≤ _; have := HL64.out; omega
      have HTE : Hid (bv ((st.1.take n).map en) ++ [.bool e] = bv ((st.1.take (n + 1)).map en)) := by
        show _ = _
        obtain ⟨hh, hk'⟩ := List.getElem?_eq_some_iff.1 HK.out
        rw [List.take_succ_eq_append_getElem hh, List.map_append, bv_append, hk', HEN.out]; rfl
      go_upto_region 8 with fail
      go_cut [] from 36 to 43 (fun wx => ∃ (A5 : Option Addr) (d5 : Nat), Hid (Xb w wx w.heap.size (w.heap.size + 1) 33 2 4 2 1 (.int .i64 0) (.int .i64 (T : Int)) v2 (.slice A5 (n + 1) d5) (.slice (some ⟨g4, 0, none⟩) st.1.length c4) st.2.length (n + 1) st.1.length (iv st.2) (bv ((st.1.take (n + 1)).map en)) (kvsI st.1) (w.heap.size + 2) w.heap.size om (.cells #[.int .i64 0, .int .i64 0, .slice none 0 0, .slice none 0 0] 33 (0, 0))))
      case first =>
        go_region_law (first
          | (rw [if_pos (by rfl)]; go_simp; go_at_call 92; refine (CED.out).mono ?_; rintro e' wz ⟨rfl, hbz⟩; have HZ := Lib.hid (HX.out.drew.call hbz (Nat.le_refl _)); clear hbz; have z3 := HZ.out.row.cell 3; have HZA := Lib.hid (HZ.out.alloc (.cells ([.bool e] : List Value).toArray 4)); have za3 := HZA.out.row.cell 3; have HNEW : Hid (∀ j' u, ([.bool e] : List Value)[j']? = some u → (wz.alloc (.cells ([.bool e] : List Value).toArray 4)).cell? ⟨wz.heap.size, 0 + j', none⟩ = some u) := (fun j' u hu => by rw [Nat.zero_add]; exact ((Row.new wz 4 [.bool e]).cell j').trans hu))
          | (refine step_cells_push rfl (.tmp 37) (.tmp 41) _ rfl w.heap.size 4 (.bool false) 1 1 Try.underlying31 infoBI rfl P01 P132 v3 n (bv ((st.1.take n).map en)) ?_ HZA.out.o3 wz.heap.size 0 1 1 [.bool e] ?_ rfl HNEW.out (bv_one [e]) ROOM.out HZA.out.size ?_; rfl; rfl; intro A5 d5 wv hown hgr hbl hat; have hrow := HZA.out.row.grown hgr (fun e => (HZA.out.d3 _ e.symm).1 rfl); have y3 := hrow.cell 3; have f3 := hrow.frozen 3; have HP := Lib.hid (HZA.out.push3 (Y := bv ((st.1.take (n + 1)).map en)) (by rw [← HTE.out]; exact hown) hgr (at_grown hat)); clear hrow hown hgr hbl hat))
        all_goals
          try clear e3
          try clear z3
          try clear za3
          try clear y3
          try clear f3
          go_wp2_with fail
          go_meet
          exact ⟨A5, d5, HP.out⟩
      case rest =>
      obtain ⟨A5, d5, HP⟩ := hcut
      clear e3 P01 P132 ROOM HTE CED
      go_wp2_with fail
      go_loopg [12, 45] T (fun m l j wr => ∃ (i g5 c5 : Nat) (u2 : Value) (om' : Obj), l = .slice (some ⟨g5, 0, none⟩) (exR nx k st i).1.length c5 ∧ j = .int .i64 i ∧ i ≤ T ∧ T ≤ m + i ∧ Hid (ExI nx first T (exR nx k st i) n i) ∧ Hid (∀ y ∈ (exR nx k st i).1, ok y) ∧ Hid (Xb w wr w.heap.size (w.heap.size + 1) 33 2 4 2 1 (.int .i64 0) (.int .i64 (T : Int)) u2 (.slice A5 (n + 1) d5) (.slice (some ⟨g5, 0, none⟩) (exR nx k st i).1.length c5) (exR nx k st i).2.length (n + 1) (exR nx k st i).1.length (iv (exR nx k st i).2) (bv ((st.1.take (n + 1)).map en)) (kvsI (exR nx k st i).1) (w.heap.size + 2) w.heap.size om' (.cells #[.int .i64 0, .int .i64 0, .slice none 0 0, .slice none 0 0] 33 (0, 0))) ∧ Hid (NamesO kvI om' (exR nx k st i).1))
      case atStart => exact ⟨0, g4, c4, v2, om, rfl, rfl, by omega, by omega, INV.out, HKS.out, HP.out, HNO.out⟩
      case round =>
        clear HP HX HNO HSZ
        obtain ⟨i, g5, c5, u2, om', rfl, rfl, hiT, hmi, HV, HKi, HX, HNO⟩ := hrel
        obtain ⟨wi, rfl⟩ : ∃ x : World, x = wr := ⟨_, rfl⟩
        obtain ⟨gi, hgi⟩ : ∃ g : Nat, g = gk := ⟨_, rfl⟩
        rw [← hgi] at hmi
        have hlen := exR_len nx k st i
        have hlen2 := HV.out.len
        have hb64 := HL64.out
        obtain ⟨si, hsi⟩ : ∃ s, s = exR nx k st i := ⟨_, rfl⟩
        rw [← hsi] at HV HKi HX HNO hlen hlen2 ⊢
        have HSI := Lib.hid hsi
        clear hsi
        have hnT : n * T ≤ 64 * 4 := Nat.mul_le_mul (by omega) hT
        have i0 : (0 : Int) ≤ (i : Int) := by omega
        have LN2 : Hid (si.2.length + 1 ≤ 4294967296) := by show _ ≤ _; omega
        have LN1 : Hid (si.1.length + 1 ≤ 4294967296) := by show _ ≤ _; omega
        have HL68 : Hid (si.1.length ≤ 68) := by show _ ≤ _; omega
        clear hlen hlen2 hb64 hnT
        by_cases hlt2 : i < T
        · have l3 : (i : Int) < (T : Int) := by omega
          obtain ⟨x, hx⟩ : ∃ x, x = nx k i := ⟨_, rfl⟩
          have HOX : Hid (ok x) := by rw [hx]; exact HNX.out k i HOKk.out hlt2
          have CNi : Hid (Calls Try.prog 90 #[(.int .i64 ((k : Nat) : Int)), .int .i64 (i : Int), .pointer (some ⟨gc, 0, none⟩), .pointer (some ⟨gp, 0, none⟩), .pointer (some ⟨gf, 0, none⟩)] wi fun e x' => e = .returned (.int .i64 ((x : Nat) : Int)) ∧ Below wi.heap.size wi x') := by rw [hx]; exact CN.out wi k i (HI.out w wi HI0.out HX.out.bel (Nat.le_refl _)) HX.out.size HOKk.out hlt2
          have HRN : Hid (exR nx k st (i + 1) = (addL si.1 x, si.2 ++ [(((addL si.1 x).idxOf x : Nat) : Int)])) := by show _ = _; rw [exR, ← HSI.out, hx]
          have HVN : Hid (ExI nx first T (addL si.1 x, si.2 ++ [(((addL si.1 x).idxOf x : Nat) : Int)]) n (i + 1)) := by
            rw [hx]
            obtain ⟨r, hr⟩ := exR_app nx k st i
            rw [← HSI.out] at hr
            exact HV.out.step (by rw [hr, List.getElem?_append_left (List.getElem?_eq_some_iff.1 HK.out).1]; exact HK.out) hlt2
          clear hx
          go_wp2_with fail
          refine CNi.out.mono ?_
          rintro e' w5 ⟨rfl, hb5⟩
          have HX5 := Lib.hid (HX.out.call hb5 (Nat.le_refl _))
          clear hb5 HX CNi
          by_cases hin : x ∈ si.1
          · have HDC : Hid (decide (x ∈ si.1) = true) := decide_eq_true hin
            rw [addL_in hin] at HRN HVN
            have e2 := HX5.out.row.cell 2
            obtain ⟨q, hq⟩ : ∃ q, q = si.1.idxOf x := ⟨_, rfl⟩
            have HLK : Hid ((if x ∈ si.1 then ((si.1.idxOf x : Nat) : Int) else 0) = (q : Int)) := by rw [hq]; exact if_pos hin
            rw [← hq] at HRN HVN
            clear hin hq
            go_wp2_with (first
              | (refine wpList_names_look KU w5 rfl (.tmp 53) (.tmp 54) rfl (w.heap.size + 2) (fun y hy => HII.out y (HKi.out y hy)) HV.out.nd HX5.out.hm HNO.out (y := x) (HII.out x HOX.out) (q : Int) true HLK.out HDC.out rfl rfl ?_)
              | (at_builtin; refine wpList_int_push w5 rfl (.tmp 70) (.tmp 72) _ rfl w.heap.size 2 Try.underlying26 infoII u2 si.2 rfl HX5.out.o2 (q : Int) rfl LN2.out HX5.out.size ?_; intro g6 c6 w6 hown hbl hat hgr; have hrow := HX5.out.row.grown hgr (fun e => (HX5.out.d2 _ e.symm).1 rfl); have y2 := hrow.cell 2; have f2 := hrow.frozen 2; have HX6 := Lib.hid (HX5.out.push2 hown hgr (at_push hat)); clear hrow hown hbl hat hgr))
            try clear e2
            try clear y2
            try clear f2
            clear HX5
            go_roundg (gi - 1)
            case measure => omega
            case rel =>
              refine ⟨i + 1, g5, c5, .slice (some ⟨g6, 0, none⟩) (si.2.length + 1) c6, om', by rw [HRN.out], by go_num, by omega, by omega, ?_⟩
              rw [HRN.out]
              refine ⟨HVN.out, HKi.out, ?_, HNO.out⟩
              have := HX6.out
              simp only [List.length_append, List.length_cons, List.length_nil] at this ⊢
              exact this
          · have HLK : Hid ((if x ∈ si.1 then ((si.1.idxOf x : Nat) : Int) else 0) = 0) := if_neg hin
            have HDC : Hid (decide (x ∈ si.1) = false) := decide_eq_false hin
            rw [idx_new hin, addL_new hin] at HRN HVN
            have HIN := Lib.hid hin
            clear hin
            go_wp2_with (first
              | (refine wpList_names_look KU w5 rfl (.tmp 53) (.tmp 54) rfl (w.heap.size + 2) (fun y hy => HII.out y (HKi.out y hy)) HV.out.nd HX5.out.hm HNO.out (y := x) (HII.out x HOX.out) 0 false HLK.out HDC.out rfl rfl ?_)
              | (refine wpList_names_put KU w5 rfl (.tmp 62) (.tmp 63) (.tmp 64) (.inl rfl) (w.heap.size + 2) (fun y hy => HII.out y (HKi.out y hy)) HV.out.nd HX5.out.hm HNO.out (y := x) (HII.out x HOX.out) HIN.out rfl rfl rfl ?_; intro w6 om6 hb6 ho6 hbut; have HX6 := Lib.hid (HX5.out.map hbut hb6); have HN6 := Lib.hid ho6; clear hb6 ho6 hbut)
              | (at_builtin; (refine wpList_push w6 rfl (.tmp 65) (.tmp 67) _ rfl w.heap.size 2 (.int .i64 0) 8 Try.underlying26 infoKI rfl (.slice (some ⟨g5, 0, none⟩) si.1.length c5) si.1.length (kvsI si.1) rfl HX6.out.o4 (.int .i64 ((x : Nat) : Int)) rfl rfl LN1.out (by omega) HX6.out.size ?_; intro g7 c7 w7 hown hgr hat hlt7 hcap7; have HX7 := Lib.hid (HX6.out.push4 (Y := kvsI (si.1 ++ [x])) (by rw [kvsI_snoc]; exact hown) hgr (at_push hat)); have e2 := HX7.out.row.cell 2; clear hown hgr hat hlt7 hcap7))
              | (at_builtin; (refine wpList_int_push w7 rfl (.tmp 70) (.tmp 72) _ rfl w.heap.size 2 Try.underlying26 infoII u2 si.2 rfl HX7.out.o2 (si.1.length : Int) rfl LN2.out HX7.out.size ?_; intro g8 c8 w8 hown hbl hat hgr; have hrow := HX7.out.row.grown hgr (fun e => (HX7.out.d2 _ e.symm).1 rfl); have y2 := hrow.cell 2; have f2 := hrow.frozen 2; have HX8 := Lib.hid (HX7.out.push2 hown hgr (at_push hat)); clear hrow hown hbl hat hgr)))
            try clear e2
            try clear y2
            try clear f2
            clear HX5
            clear HX6
            clear HX7
            go_roundg (gi - 1)
            case measure => omega
            case rel =>
              refine ⟨i + 1, g7, c7, .slice (some ⟨g8, 0, none⟩) (si.2.length + 1) c8, om6, by rw [HRN.out]; simp, by go_num, by omega, by omega, ?_⟩
              rw [HRN.out]
              refine ⟨HVN.out, fun y hy => ?_, ?_, HN6.out⟩
              · rcases List.mem_append.1 hy with h | h
                · exact HKi.out y h
                · rw [show y = x from by simpa using h]; exact HOX.out
              · have := HX8.out
                simp only [List.length_append, List.length_cons, List.length_nil] at this ⊢
                exact this
        · have hT' : i = T := by omega
          have l3 : (T : Int) ≤ (i : Int) := by omega
          have HEX : Hid (exA nx first T (n + 1) = si) := by show _ = _; rw [exA_succ nx first T (by rw [← HST.out]; exact HK.out), ← HST.out, HSI.out, hT']
          clear hlt2
          by_cases h64 : 64 < si.1.length
          · have h64' : (64 : Int) < (si.1.length : Int) := by omega
            have HNONE : Hid (exAll nx first T = none) := by
              show _ = _
              rw [← HE.out]
              obtain ⟨f, hf⟩ : ∃ f, gq = f + 1 := ⟨gq - 1, by have := hmn.out; have := HL64.out; omega⟩
              rw [hf, exE, ← HST.out, if_pos hlt, HEX.out, if_pos h64]
            have hR : Row wi w.heap.size 33 [.int .i64 0, .int .i64 0, .slice none 0 0, .slice none 0 0] := HX.out.hr
            have RR := Lib.hid hR
            have k0 := hR.cell 0; have k1 := hR.cell 1; have k2 := hR.cell 2; have k3 := hR.cell 3
            have f0 := hR.frozen 0; have f1 := hR.frozen 1; have f2 := hR.frozen 2; have f3 := hR.frozen 3
            have HBL := Lib.hid HX.out.bel
            clear hR h64 HX HNO HV HKi
            go_wp2_with fail
            clear k0 k1 k2 k3 f0 f1 f2 f3
            have hF := ((((RR.out.set_ 0 (.int .i64 0)).set_ 1 (.int .i64 0)).set_ 2 (.slice none 0 0)).set_ 3 (.slice none 0 0))
            refine bodyPost_ret (results_cell2 rfl _ _ w.heap.size 33 #[.int .i64 0, .int .i64 0, .slice none 0 0, .slice none 0 0] (0, 0) _ (.bool false) rfl rfl hF Try.underlying33 rfl (by kernel_rfl)) rfl ?_
            refine ⟨_, by rw [HNONE.out]; rfl, ?_, set4_below HBL.out (Nat.le_refl _) _ _ _ _⟩
            have e1 : exN nx first T = 0 := by unfold exN; rw [HNONE.out]; rfl
            have e2 : exT nx first T = 0 := by unfold exT; rw [HNONE.out]
            have e3 : exP nx first T = [] := by unfold exP; rw [HNONE.out]
            have e4 : exD nx en first T = [] := by unfold exD; rw [HNONE.out]
            rw [e1, e2, e3, e4]
            exact plw_zero _ _
          · have h64' : (si.1.length : Int) ≤ 64 := by omega
            have hle : si.1.length ≤ 64 := by omega
            have WN : IntKind.i64.wrap ((n : Int) + 1) = (n : Int) + 1 := IntWalk.i64_in _ (by have := HL64.out; omega)
            clear h64
            go_wp2_with fail
            go_roundg (gq - 1)
            case measure => have := hmn.out; have := HL64.out; omega
            case rel =>
              have hge : n + 1 ≤ si.1.length := by
                obtain ⟨r, hr⟩ := exR_app nx k st i
                rw [← HSI.out] at hr
                rw [hr, List.length_append]; omega
              have hEE : exE nx first T (gq - 1) (n + 1) = exAll nx first T := by
                rw [← HE.out]
                obtain ⟨f, hf⟩ : ∃ f, gq = f + 1 := ⟨gq - 1, by have := hmn.out; have := HL64.out; omega⟩
                rw [hf, exE, ← HST.out, if_pos hlt, HEX.out, if_neg (by omega)]; rfl
              have hte : (st.1.take (n + 1)).map en = (si.1.take (n + 1)).map en := by
                obtain ⟨r, hr⟩ := exR_app nx k st i
                rw [← HSI.out] at hr
                rw [hr, List.take_append_of_le_length (by omega)]
              have hX := HX.out
              rw [hte] at hX
              have hn64 : n ≤ 64 := by have := HL64.out; omega
              refine ⟨n + 1, g5, c5, u2, (.slice A5 (n + 1) d5), om', by rw [HEX.out], by go_num, ?_, ?_⟩
              · have q1 := hmn.out
                have q2 := HL64.out
                show _ + _ = 65
                omega
              rw [HEX.out]
              exact ⟨hge, hle, hEE, HKi.out, hX, HNO.out⟩
    · have hnl : n = st.1.length := by have := HNL.out; omega
      have l1 : (st.1.length : Int) ≤ (n : Int) := by omega
      have HSOME : Hid (exAll nx first T = some n) := by
        show _ = _
        rw [← HE.out]
        obtain ⟨f, hf⟩ : ∃ f, gq = f + 1 := ⟨gq - 1, by have := hmn.out; have := HL64.out; omega⟩
        rw [hf, exE, ← HST.out, if_neg hlt]
      have hR : Row wo w.heap.size 33 [.int .i64 0, .int .i64 0, .slice none 0 0, .slice none 0 0] := HX.out.hr
      have RR := Lib.hid hR
      have HG := HX.out.row
      have b0 := HG.cell 0; have b1 := HG.cell 1; have b2 := HG.cell 2; have b3 := HG.cell 3; have z0 := HG.frozen 0
      have k0 := hR.cell 0; have k1 := hR.cell 1; have k2 := hR.cell 2; have k3 := hR.cell 3
      have f0 := hR.frozen 0; have f1 := hR.frozen 1; have f2 := hR.frozen 2; have f3 := hR.frozen 3
      have e1 : exN nx first T = n := by unfold exN; rw [HSOME.out]; rfl
      have e2 : exT nx first T = T := by unfold exT; rw [HSOME.out]
      have e3 : exP nx first T = st.2 := by unfold exP; rw [HSOME.out, HST.out]
      have e4 : exD nx en first T = (st.1.take n).map en := by unfold exD; rw [HSOME.out, List.take_of_length_le (by omega), HST.out]
      have E1 := Lib.hid e1; have E2 := Lib.hid e2; have E3 := Lib.hid e3; have E4 := Lib.hid e4
      obtain ⟨A2, c2, hv2, -⟩ := own_form HX.out.o2
      obtain ⟨A3, c3, hv3, -⟩ := own_form HX.out.o3
      have HLE : Hid (((st.1.take n).map en).length = n) := by show _ = _; rw [List.length_map, List.length_take]; omega
      have HNE := Lib.hid hnl
      clear e1 e2 e3 e4 HG hR hlt hnl
      subst hv2; subst hv3
      have hgr : w.heap.size ≠ w.heap.size + 1 := by omega
      have RR2 := Lib.hid (RR.out.far (p := ⟨w.heap.size + 1, 0, none⟩) hgr (.int .i64 (st.1.length : Int)))
      go_wp2_with fail
      clear b0 b1 b2 b3 z0 k0 k1 k2 k3 f0 f1 f2 f3
      have hF := ((((RR2.out.set_ 0 (.int .i64 (st.1.length : Int))).set_ 1 (.int .i64 (T : Int))).set_ 2 (.slice A2 st.2.length c2)).set_ 3 (.slice A3 n c3))
      refine bodyPost_ret (results_cell2 rfl _ _ w.heap.size 33 #[.int .i64 (st.1.length : Int), .int .i64 (T : Int), .slice A2 st.2.length c2, .slice A3 n c3] (0, 0) _ (.bool true) rfl rfl hF Try.underlying33 rfl (by kernel_rfl)) rfl ?_
      refine ⟨_, by rw [HSOME.out]; rfl, ?_, set4_below (HX.out.bel.setCell (p := ⟨w.heap.size + 1, 0, none⟩) (Nat.le_succ _) _) (Nat.le_refl _) _ _ _ _⟩
      rw [E1.out, E2.out, E3.out, E4.out, show (n : Int) = (st.1.length : Int) by rw [← HNE.out]]
      refine xb_end HX.out HLE.out.symm ?_ (fun k h1 h2 => ?_) _ _
      · rw [set4_size]; simp [World.setCell]
      · rw [set4_heap _ _ _ _ _ _ _ h2, Below.heap_setCell _ _ _ _ h1]
end Go.Proofs.Ytbdfbmohdbigfaa