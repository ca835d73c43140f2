/- explore[[2]int64]: the walk at its caller's two closures. -/
import Derived.Test.YtbdfbmohdbigfaaMgv
import Derived.Test.YtbdfbmohdbigfaaMgr
import Derived.Test.YtbdfbmohdbigfaaExwU

namespace Go.Proofs.Ytbdfbmohdbigfaa
open Go.RowKit Go.Maps
attribute [local go_sem ↓] Go.wp_at_zero Go.wp_at_succ
set_option linter.unusedVariables false
theorem infoKP : (Try.prog.info? 84).map (fun i => (i.zero, i.size, i.bytes)) = some (some (.agg #[.int .i64 0, .int .i64 0]), 2, 16) := by kernel_rfl
/-- The cells of pairs. -/
def qk : List (Nat × Nat) → List Value
  | [] => []
  | p :: L => .int .i64 (p.1 : Int) :: .int .i64 (p.2 : Int) :: qk L
theorem qk_snoc : ∀ (L : List (Nat × Nat)) (x : Nat × Nat), qk (L ++ [x]) = qk L ++ [.int .i64 (x.1 : Int), .int .i64 (x.2 : Int)]
  | [], x => rfl
  | a :: L, x => by simp only [List.cons_append, qk, qk_snoc L x]
theorem qk_len : ∀ L : List (Nat × Nat), (qk L).length = L.length * 2
  | [] => rfl
  | a :: L => by simp only [qk, List.length_cons, qk_len L]; omega
theorem qk_get : ∀ {L : List (Nat × Nat)} {j : Nat} {x : Nat × Nat}, L[j]? = some x → (qk L)[j * 2]? = some (.int .i64 (x.1 : Int)) ∧ (qk L)[j * 2 + 1]? = some (.int .i64 (x.2 : Int))
  | [], j, x, h => by simp at h
  | a :: L, 0, x, h => by simp at h; subst h; simp [qk]
  | a :: L, j + 1, x, h => by
    have ih := qk_get (L := L) (j := j) (x := x) (by simpa using h)
    rw [show (j + 1) * 2 = j * 2 + 1 + 1 from by omega]
    simpa [qk] using ih
theorem own_cellZ {w : World} {base n g c j sz : Nat} {t : TypeId} {X : List Value} {u : Value} (h : w.ownsRow base t sz (.slice (some ⟨g, 0, none⟩) n c) n X) (hx : X[j]? = some u) : w.cell? ⟨g, j, none⟩ = some u := by
  have := h.cells (g := g) rfl j u hx
  have ea : (⟨g, 0, none⟩ : Addr).add j = ⟨g, j, none⟩ := by unfold Addr.add; by_cases h : j = 0 <;> simp [h]
  rw [ea] at this
  exact this
theorem own_row2 {w : World} {g base n : Nat} {t : TypeId} {vs : List Value} (h : Row w g t vs) (hb : base ≤ g) (hn : vs.length = n * 2) (hm : n ≤ maxLen) : w.ownsRow base t 2 (.slice (some ⟨g, 0, none⟩) n n) n vs :=
  ⟨by omega, .inr ⟨g, n, vs.toArray, rfl, hb, h, Nat.le_refl _, hm, by simp [hn], by rw [List.toList_toArray]; exact List.take_of_length_le (by omega)⟩⟩
theorem xb_new4q {x0 w : World} {lo g : Nat} {T t2 t3 t4 : TypeId} {a b v2 v3 : Value} {n2 n3 : Nat} {X2 X3 : List Value} {gm gr : Nat} {om og : Obj} (h : Xb x0 w lo g T t2 t3 t4 2 a b v2 v3 (.slice none 0 0) n2 n3 0 X2 X3 [] gm gr om og) (u0 u1 : Value) (Y : List Value) (hY : Y = [u0, u1]) :
    Xb x0 (w.alloc (.cells ([u0, u1] : List Value).toArray t4)) lo g T t2 t3 t4 2 a b v2 v3 (.slice (some ⟨w.heap.size, 0, none⟩) 1 1) n2 n3 1 X2 X3 Y gm gr om og := by
  subst hY
  have h' := h.alloc (.cells ([u0, u1] : List Value).toArray t4)
  have hsz := h.size
  have o4 : (w.alloc (.cells ([u0, u1] : List Value).toArray t4)).ownsRow lo t4 2 (.slice (some ⟨w.heap.size, 0, none⟩) 1 1) 1 [u0, u1] := own_row2 (Row.new w t4 [u0, u1]) hsz rfl (by unfold maxLen; omega)
  have q : ∀ k, (Value.slice (some ⟨w.heap.size, 0, none⟩) 1 1).ownBlock = some k → k = w.heap.size := fun k hk => by simp [Value.ownBlock] at hk; exact hk.symm
  exact ⟨h'.row, h'.bel, h'.gb, h'.hl, h'.o2, h'.o3, o4, fun k hk => ⟨(h'.d2 k hk).1, (h'.d2 k hk).2.1, (h'.d2 k hk).2.2.1, (h'.d2 k hk).2.2.2.1, fun e => by have := q k e; have := (h.o2.lt k hk).2; omega⟩,
    fun k hk => ⟨(h'.d3 k hk).1, (h'.d3 k hk).2.1, (h'.d3 k hk).2.2.1, fun e => by have := q k e; have := (h.o3.lt k hk).2; omega⟩,
    fun k hk => by have e := q k hk; have l1 := h.row.lt; have l2 := heap_lt h.hm; have l3 := heap_lt h.hr; exact ⟨by omega, by omega, by omega⟩, h'.hm, h'.hr, h'.em, h'.er⟩
section
variable {α : Type} [DecidableEq α] (nx : α → Nat → α) (en : α → Bool) (first : α) (T : Nat)
def eqP : List Int := match exAll nx first T with
  | none => []
  | some M => (exA nx first T M).2
def eqD : List Bool := match exAll nx first T with
  | none => []
  | some M => (exA nx first T M).1.map en
def eqT : Nat := match exAll nx first T with
  | none => 0
  | some _ => T
def eqN : Nat := (exAll nx first T).getD 0
end

set_option maxRecDepth 100000 in
set_option maxHeartbeats 16000000 in
theorem iExploreP_any (nx : Nat × Nat → Nat → Nat × Nat) (en : Nat × Nat → Bool) (first : Nat × Nat) (T : Nat) (hT : T ≤ 4) (ga gb : Nat) (w : World) (I : World → Prop) (h0 : I w) (hI : ∀ x x', I x → Below w.heap.size x x' → w.heap.size ≤ x.heap.size → I x')
    (ok : Nat × Nat → Prop) (hokQ : ∀ k, ok k → okQ k) (hok : ok first) (hnx : ∀ k l, ok k → l < T → ok (nx k l))
    (cN : ∀ (x : World) (k : Nat × Nat) (l : Nat), I x → w.heap.size ≤ x.heap.size → ok k → l < T → Calls Try.prog 50 #[(.agg #[.int .i64 (k.1 : Int), .int .i64 (k.2 : Int)]), .int .i64 (l : Int), .pointer (some ⟨ga, 0, none⟩), .pointer (some ⟨gb, 0, none⟩)] x fun e x' => e = .returned (.agg #[.int .i64 ((nx k l).1 : Int), .int .i64 ((nx k l).2 : Int)]) ∧ Below x.heap.size x x')
    (cE : ∀ (x : World) (k : Nat × Nat), I x → w.heap.size ≤ x.heap.size → ok k → Calls Try.prog 53 #[(.agg #[.int .i64 (k.1 : Int), .int .i64 (k.2 : Int)]), .pointer (some ⟨ga, 0, none⟩), .pointer (some ⟨gb, 0, none⟩)] x fun e x' => e = .returned (.bool (en k)) ∧ Below x.heap.size x x') :
    Calls Try.prog 52 #[.int .i64 (T : Int), (.agg #[.int .i64 (first.1 : Int), .int .i64 (first.2 : Int)]), .func (.func 50) #[] #[.pointer (some ⟨ga, 0, none⟩), .pointer (some ⟨gb, 0, none⟩)], .func (.func 53) #[] #[.pointer (some ⟨ga, 0, none⟩), .pointer (some ⟨gb, 0, none⟩)]] w fun e w' => ∃ v, e = .returned (.tuple #[v, .bool (exAll nx first T).isSome]) ∧ PlW w' w.heap.size v (eqN nx first T : Int) (eqT nx first T : Int) (eqP nx first T) (eqD nx en first T) ∧ Below w.heap.size w w' := by
  have KU := keyQ
  have CN := Lib.hid cN; have CE := Lib.hid cE; have HOK := Lib.hid hok; have HNX := Lib.hid hnx; have HI := Lib.hid hI; have HI0 := Lib.hid h0; have HQQ := Lib.hid hokQ
  clear cN cE hok hnx hI h0 hokQ
  obtain ⟨w1, hw1⟩ : ∃ x, x = ((((w.alloc (.cells ([.int .i64 (first.1 : Int), .int .i64 (first.2 : Int)] : List Value).toArray 84)).alloc (.cells ([.int .i64 0, .int .i64 0, .slice none 0 0, .slice none 0 0] : List Value).toArray 33))).alloc (.cells ([.int .i64 0, .int .i64 (T : Int), .slice none 0 0, .slice none 0 0] : List Value).toArray 33)).alloc (.map #[] 0) := ⟨_, rfl⟩
  have rk0 := Row.new w 84 [.int .i64 (first.1 : Int), .int .i64 (first.2 : Int)]
  have XB1 : Hid (Xb w w1 w.heap.size (w.heap.size + 2) 33 2 4 84 2 (.int .i64 0) (.int .i64 (T : Int)) (.slice none 0 0) (.slice none 0 0) (.slice none 0 0) 0 0 0 [] [] [] (w.heap.size + 3) (w.heap.size + 1) (.map #[] 0) (.cells #[.int .i64 0, .int .i64 0, .slice none 0 0, .slice none 0 0] 33 (0, 0))) := by
    have r1 := Row.new (w.alloc (.cells ([.int .i64 (first.1 : Int), .int .i64 (first.2 : Int)] : List Value).toArray 84)) 33 [.int .i64 0, .int .i64 0, .slice none 0 0, .slice none 0 0]
    have r2 := Row.new ((w.alloc (.cells ([.int .i64 (first.1 : Int), .int .i64 (first.2 : Int)] : List Value).toArray 84)).alloc (.cells ([.int .i64 0, .int .i64 0, .slice none 0 0, .slice none 0 0] : List Value).toArray 33)) 33 ([.int .i64 0, .int .i64 (T : Int), .slice none 0 0, .slice none 0 0] : List Value)
    rw [show (w.alloc (.cells ([.int .i64 (first.1 : Int), .int .i64 (first.2 : Int)] : List Value).toArray 84)).heap.size = w.heap.size + 1 by simp] at r1
    rw [show ((w.alloc (.cells ([.int .i64 (first.1 : Int), .int .i64 (first.2 : Int)] : List Value).toArray 84)).alloc (.cells ([.int .i64 0, .int .i64 0, .slice none 0 0, .slice none 0 0] : List Value).toArray 33)).heap.size = w.heap.size + 2 by simp] at r2
    subst hw1
    refine ⟨r2.alloc _, ((((Below.refl _ _).alloc (Nat.le_refl _) _).alloc (by simp) _).alloc (by simp; omega) _).alloc (by simp; omega) _, by omega, Nat.le_refl _, own_none _ _ _ _, own_none _ _ _ _, own_none _ _ _ _, (fun k h => by cases h), (fun k h => by cases h), (fun k h => by cases h), ?_, (r1.alloc _).alloc _, ⟨by omega, by omega, by omega⟩, ⟨by omega, by omega⟩⟩
    have := heap_alloc_new (((w.alloc (.cells ([.int .i64 (first.1 : Int), .int .i64 (first.2 : Int)] : List Value).toArray 84)).alloc (.cells ([.int .i64 0, .int .i64 0, .slice none 0 0, .slice none 0 0] : List Value).toArray 33)).alloc (.cells ([.int .i64 0, .int .i64 (T : Int), .slice none 0 0, .slice none 0 0] : List Value).toArray 33)) (.map #[] 0)
    rw [show (((w.alloc (.cells ([.int .i64 (first.1 : Int), .int .i64 (first.2 : Int)] : List Value).toArray 84)).alloc (.cells ([.int .i64 0, .int .i64 0, .slice none 0 0, .slice none 0 0] : List Value).toArray 33)).alloc (.cells ([.int .i64 0, .int .i64 (T : Int), .slice none 0 0, .slice none 0 0] : List Value).toArray 33)).heap.size = w.heap.size + 3 by simp] at this
    exact this
  have RK0 : Hid (Row w1 w.heap.size 84 [.int .i64 (first.1 : Int), .int .i64 (first.2 : Int)]) := by
    show Row _ _ _ _
    rw [hw1]; exact ((rk0.alloc _).alloc _).alloc _
  have hmm := @run_makeMap Try.prog
  have NO0 : Hid (NamesO qv (.map #[] 0) ([] : List (Nat × Nat))) := NamesO.nil _
  have HW1 := Lib.hid hw1
  clear rk0 hw1
  obtain ⟨f1, hf1⟩ : ∃ x, x = first.1 := ⟨_, rfl⟩
  obtain ⟨f2, hf2⟩ : ∃ x, x = first.2 := ⟨_, rfl⟩
  have HFE : Hid ((f1, f2) = first) := by show _ = _; rw [hf1, hf2]
  rw [← hf1, ← hf2] at RK0 HW1 ⊢
  clear hf1 hf2
  go_enter Try.func52, Try.ntmps52
  go_wp2_with (first | (refine wpList_names_put2 KU _ rfl (.tmp 21) (.tmp 22) (.const (.int .i64 0)) (.inr rfl) (w.heap.size + 3) (L := ([] : List (Nat × Nat))) (fun y hy => by cases hy) (by simp) (by first | exact XB1.out.hm | (rw [← HW1.out]; exact XB1.out.hm)) NO0.out (y := (f1, f2)) (by rw [HFE.out]; exact HQQ.out _ HOK.out) (by simp) rfl rfl rfl ?_; intro w2 om2 hb2 ho2 hbut; have hbut' : But (w.heap.size + 3) w1 w2 := (by rw [HW1.out]; exact hbut); have XB2 := Lib.hid (XB1.out.map hbut' hb2); have NO2 := Lib.hid ho2; have rk2 : Row w2 w.heap.size 84 [.int .i64 (f1 : Int), .int .i64 (f2 : Int)] := ((hbut'.2.2.2.2 _ RK0.out.lt (by omega)).trans RK0.out); have z0 := rk2.cell 0; have z1 := rk2.cell 1; clear hb2 ho2 hbut hbut' rk2))

  clear hmm XB1 NO0 RK0 z0 z1 HW1
  have HQF : Hid (qk [first] = [.int .i64 (f1 : Int), .int .i64 (f2 : Int)]) := by show _ = _; rw [← HFE.out]; rfl
  have XB3 := Lib.hid (xb_new4q XB2.out (.int .i64 (f1 : Int)) (.int .i64 (f2 : Int)) (qk [first]) HQF.out)
  have hs3 := XB3.out.size
  have NO3 : Hid (NamesO qv om2 [first]) := by show NamesO _ _ _; rw [← HFE.out]; exact NO2.out
  clear XB2 NO2
  go_loopg [12, 13] 65 (fun m l i wr => ∃ (n g4 c4 : Nat) (v2 v3 : Value) (om : Obj), l = .slice (some ⟨g4, 0, none⟩) (exA nx first T n).1.length c4 ∧ i = .int .i64 n ∧ Hid (m + n = 65) ∧ Hid (n ≤ (exA nx first T n).1.length) ∧ Hid ((exA nx first T n).1.length ≤ 64) ∧ Hid (exE nx first T m n = exAll nx first T) ∧ Hid (∀ y ∈ (exA nx first T n).1, ok y) ∧ Hid (Xb w wr w.heap.size (w.heap.size + 2) 33 2 4 84 2 (.int .i64 0) (.int .i64 (T : Int)) v2 v3 (.slice (some ⟨g4, 0, none⟩) (exA nx first T n).1.length c4) (exA nx first T n).2.length n (exA nx first T n).1.length (iv (exA nx first T n).2) (bv (((exA nx first T n).1.take n).map en)) (qk (exA nx first T n).1) (w.heap.size + 3) (w.heap.size + 1) om (.cells #[.int .i64 0, .int .i64 0, .slice none 0 0, .slice none 0 0] 33 (0, 0))) ∧ Hid (NamesO qv om (exA nx first T n).1))
  case atStart => exact ⟨0, w2.heap.size, 1, .slice none 0 0, .slice none 0 0, om2, rfl, rfl, rfl, Nat.zero_le _, (show 1 ≤ 64 by omega), rfl, (fun y hy => by rw [show y = first from by simpa [exA] using hy]; exact HOK.out), XB3.out, NO3.out⟩
  case round =>
    clear XB3 NO3 hs3 HQF
    obtain ⟨n, g4, c4, v2, v3, om, rfl, rfl, hmn, HNL, HL64, HE, HKS, HX, HNO⟩ := hrel
    obtain ⟨wo, rfl⟩ : ∃ x : World, x = wr := ⟨_, rfl⟩
    obtain ⟨gq, hgq⟩ : ∃ g : Nat, g = gk := ⟨_, rfl⟩
    rw [← hgq] at hmn HE
    obtain ⟨st, hst⟩ : ∃ s, s = exA nx first T n := ⟨_, rfl⟩
    rw [← hst] at HNL HL64 HKS HX HNO ⊢
    have HST := Lib.hid hst
    have INV : Hid (ExI nx first T st n 0) := by rw [hst]; exact exA_inv n (by rw [← hst]; exact HNL.out)
    clear hst
    have j0 : (0 : Int) ≤ (n : Int) := by omega
    have HSZ := Lib.hid HX.out.size
    by_cases hlt : n < st.1.length
    · obtain ⟨k, hk⟩ : ∃ k, st.1[n]? = some k := ⟨_, List.getElem?_eq_getElem hlt⟩
      have HK := Lib.hid hk
      have HOKk : Hid (ok k) := HKS.out k (List.mem_of_getElem? hk)
      have c0 : wo.cell? ⟨g4, n * 2, none⟩ = some (.int .i64 (k.1 : Int)) := own_cellZ HX.out.o4 (qk_get hk).1
      have c1 : wo.cell? ⟨g4, n * 2 + 1, none⟩ = some (.int .i64 (k.2 : Int)) := own_cellZ HX.out.o4 (qk_get hk).2
      have l1 : (n : Int) < (st.1.length : Int) := by omega
      obtain ⟨gK, hgK⟩ : ∃ q, q = wo.heap.size := ⟨_, rfl⟩
      obtain ⟨wk, hwk⟩ : ∃ x, x = wo.alloc (.cells ([.int .i64 (k.1 : Int), .int .i64 (k.2 : Int)] : List Value).toArray 84) := ⟨_, rfl⟩
      have RK : Hid (Row wk gK 84 [.int .i64 (k.1 : Int), .int .i64 (k.2 : Int)]) := by rw [hwk, hgK]; exact Row.new wo 84 [.int .i64 (k.1 : Int), .int .i64 (k.2 : Int)]
      have HXk := Lib.hid (HX.out.alloc (.cells ([.int .i64 (k.1 : Int), .int .i64 (k.2 : Int)] : List Value).toArray 84))
      rw [← hwk] at HXk
      have HD2 : Hid (∀ q, v2.ownBlock = some q → q ≠ gK) := fun q hq => by have := (HX.out.o2.lt q hq).2; omega
      have HD3 : Hid (∀ q, v3.ownBlock = some q → q ≠ gK) := fun q hq => by have := (HX.out.o3.lt q hq).2; omega
      have HD4 : Hid (g4 ≠ gK) := by show _ ≠ _; have := (HX.out.o4.lt g4 rfl).2; omega
      have HGM : Hid (w.heap.size + 3 < gK) := by show _ < _; have := heap_lt HX.out.hm; omega
      have hI1 : Hid (I wk) := HI.out w wk HI0.out HXk.out.bel (Nat.le_refl _)
      obtain ⟨e, he⟩ : ∃ e, e = en k := ⟨_, rfl⟩
      have HEN := Lib.hid he
      have CED : Hid (Calls Try.prog 53 #[(.agg #[.int .i64 (k.1 : Int), .int .i64 (k.2 : Int)]), .pointer (some ⟨ga, 0, none⟩), .pointer (some ⟨gb, 0, none⟩)] wk.drew fun e' w' => e' = .returned (.bool e) ∧ Below wk.heap.size wk.drew w') := by rw [he]; exact CE.out wk.drew k (HI.out w wk.drew HI0.out (HXk.out.bel.trans ((Below.drew (Below.refl _ _)).mono HXk.out.size)) (Nat.le_refl _)) HXk.out.size HOKk.out
      clear hk he
      have e3 := HXk.out.row.cell 3
      have kk0 := RK.out.cell 0; have kk1 := RK.out.cell 1
      have P01 : 0 < 1 := by omega
      have P132 : 1 ≤ 32 := by omega
      have ROOM : Hid (n + 1 ≤ 4294967296) := by show _ ≤ _; have := HL64.out; omega
      have HTE : Hid (bv ((st.1.take n).map en) ++ [.bool e] = bv ((st.1.take (n + 1)).map en)) := by
        show _ = _
        obtain ⟨hh, hk'⟩ := List.getElem?_eq_some_iff.1 HK.out
        rw [List.take_succ_eq_append_getElem hh, List.map_append, bv_append, hk', HEN.out]; rfl
      have HWK := Lib.hid hwk
      have HGK := Lib.hid hgK
      clear hgK hwk
      go_upto_region 8 with fail
      rw [← HWK.out]
      try rw [← HGK.out]
      go_cut [] from 36 to 43 (fun wx => ∃ (A5 : Option Addr) (d5 : Nat), Hid (Xb w wx w.heap.size (w.heap.size + 2) 33 2 4 84 2 (.int .i64 0) (.int .i64 (T : Int)) v2 (.slice A5 (n + 1) d5) (.slice (some ⟨g4, 0, none⟩) st.1.length c4) st.2.length (n + 1) st.1.length (iv st.2) (bv ((st.1.take (n + 1)).map en)) (qk st.1) (w.heap.size + 3) (w.heap.size + 1) om (.cells #[.int .i64 0, .int .i64 0, .slice none 0 0, .slice none 0 0] 33 (0, 0))) ∧ Hid (Row wx gK 84 [.int .i64 (k.1 : Int), .int .i64 (k.2 : Int)]))
      case first =>
        go_region_law (first
          | (rw [if_pos (by rfl)]; go_simp; go_at_call 53; refine (CED.out).mono ?_; rintro e' wz ⟨rfl, hbz⟩; have HZ := Lib.hid (HXk.out.drew.call hbz (Nat.le_refl _)); have RKz := Lib.hid (RK.out.drew.below hbz RK.out.lt); clear hbz; have z3 := HZ.out.row.cell 3; have HZA := Lib.hid (HZ.out.alloc (.cells ([.bool e] : List Value).toArray 4)); have za3 := HZA.out.row.cell 3; have HNEW : Hid (∀ j' u, ([.bool e] : List Value)[j']? = some u → (wz.alloc (.cells ([.bool e] : List Value).toArray 4)).cell? ⟨wz.heap.size, 0 + j', none⟩ = some u) := (fun j' u hu => by rw [Nat.zero_add]; exact ((Row.new wz 4 [.bool e]).cell j').trans hu))
          | (refine step_cells_push rfl (.tmp 37) (.tmp 41) _ rfl w.heap.size 4 (.bool false) 1 1 Try.underlying31 infoBU rfl P01 P132 v3 n (bv ((st.1.take n).map en)) ?_ HZA.out.o3 wz.heap.size 0 1 1 [.bool e] ?_ rfl HNEW.out (bv_one [e]) ROOM.out HZA.out.size ?_; rfl; rfl; intro A5 d5 wv hown hgr hbl hat; have hrow := HZA.out.row.grown hgr (fun e => (HZA.out.d3 _ e.symm).1 rfl); have y3 := hrow.cell 3; have f3 := hrow.frozen 3; have HP := Lib.hid (HZA.out.push3 (Y := bv ((st.1.take (n + 1)).map en)) (by rw [← HTE.out]; exact hown) hgr (at_grown hat)); have RKv : Hid (Row (wv.setCell ⟨w.heap.size + 2, 3, none⟩ (.slice A5 (n + 1) d5)) gK 84 [.int .i64 (k.1 : Int), .int .i64 (k.2 : Int)]) := ((((RKz.out.alloc (.cells ([.bool e] : List Value).toArray 4)).grown hgr (fun e => HD3.out _ e.symm rfl)).far (p := ⟨w.heap.size + 2, 3, none⟩) (show gK ≠ w.heap.size + 2 by have := HGM.out; omega) _)); clear hrow hown hgr hbl hat))
        all_goals
          try clear e3
          try clear z3
          try clear za3
          try clear y3
          try clear f3
          try clear kk0
          try clear kk1
          go_wp2_with fail
          go_meet
          exact ⟨A5, d5, HP.out, RKv.out⟩
      case rest =>
      obtain ⟨A5, d5, HP, RKP⟩ := hcut
      clear e3 P01 P132 ROOM HTE CED kk0 kk1 HXk RK hI1
      go_wp2_with fail
      go_loopg [12, 45] T (fun m l j wr => ∃ (i g5 c5 : Nat) (u2 : Value) (om' : Obj), l = .slice (some ⟨g5, 0, none⟩) (exR nx k st i).1.length c5 ∧ j = .int .i64 i ∧ i ≤ T ∧ T ≤ m + i ∧ Hid (ExI nx first T (exR nx k st i) n i) ∧ Hid (∀ y ∈ (exR nx k st i).1, ok y) ∧ Hid (Xb w wr w.heap.size (w.heap.size + 2) 33 2 4 84 2 (.int .i64 0) (.int .i64 (T : Int)) u2 (.slice A5 (n + 1) d5) (.slice (some ⟨g5, 0, none⟩) (exR nx k st i).1.length c5) (exR nx k st i).2.length (n + 1) (exR nx k st i).1.length (iv (exR nx k st i).2) (bv ((st.1.take (n + 1)).map en)) (qk (exR nx k st i).1) (w.heap.size + 3) (w.heap.size + 1) om' (.cells #[.int .i64 0, .int .i64 0, .slice none 0 0, .slice none 0 0] 33 (0, 0))) ∧ Hid (NamesO qv om' (exR nx k st i).1) ∧ Hid (Row wr gK 84 [.int .i64 (k.1 : Int), .int .i64 (k.2 : Int)]) ∧ Hid (∀ q, u2.ownBlock = some q → q ≠ gK) ∧ Hid (g5 ≠ gK))
      case atStart => exact ⟨0, g4, c4, v2, om, rfl, rfl, by omega, by omega, INV.out, HKS.out, HP.out, HNO.out, RKP.out, HD2.out, HD4.out⟩
      case round =>
        clear HP HX HNO HSZ RKP HD2 HD4
        obtain ⟨i, g5, c5, u2, om', rfl, rfl, hiT, hmi, HV, HKi, HX, HNO, RK, HD2, HD4⟩ := hrel
        obtain ⟨wi, rfl⟩ : ∃ x : World, x = wr := ⟨_, rfl⟩
        obtain ⟨gi, hgi⟩ : ∃ g : Nat, g = gk := ⟨_, rfl⟩
        rw [← hgi] at hmi
        have hlen := exR_len nx k st i
        have hlen2 := HV.out.len
        have hb64 := HL64.out
        obtain ⟨si, hsi⟩ : ∃ s, s = exR nx k st i := ⟨_, rfl⟩
        rw [← hsi] at HV HKi HX HNO hlen hlen2 ⊢
        have HSI := Lib.hid hsi
        clear hsi
        have hnT : n * T ≤ 64 * 4 := Nat.mul_le_mul (by omega) hT
        have i0 : (0 : Int) ≤ (i : Int) := by omega
        have LN2 : Hid (si.2.length + 1 ≤ 4294967296) := by show _ ≤ _; omega
        have LN1 : Hid (si.1.length + 1 ≤ 4294967296) := by show _ ≤ _; omega
        have HL68 : Hid (si.1.length ≤ 68) := by show _ ≤ _; omega
        clear hlen hlen2 hb64 hnT
        by_cases hlt2 : i < T
        · have l3 : (i : Int) < (T : Int) := by omega
          obtain ⟨x, hx⟩ : ∃ x, x = nx k i := ⟨_, rfl⟩
          have HOX : Hid (ok x) := by rw [hx]; exact HNX.out k i HOKk.out hlt2
          have HOXQ : Hid (okQ x) := HQQ.out _ HOX.out
          have HKQ : Hid (∀ y ∈ si.1, okQ y) := fun y hy => HQQ.out _ (HKi.out y hy)
          have CNi : Hid (Calls Try.prog 50 #[(.agg #[.int .i64 (k.1 : Int), .int .i64 (k.2 : Int)]), .int .i64 (i : Int), .pointer (some ⟨ga, 0, none⟩), .pointer (some ⟨gb, 0, none⟩)] wi fun e x' => e = .returned (.agg #[.int .i64 (x.1 : Int), .int .i64 (x.2 : Int)]) ∧ Below wi.heap.size wi x') := by rw [hx]; exact CN.out wi k i (HI.out w wi HI0.out HX.out.bel (Nat.le_refl _)) HX.out.size HOKk.out hlt2
          have HXE := Lib.hid hx
          have HSTE : Hid (si.1[n]? = some k) := by
            show _ = _
            obtain ⟨r, hr⟩ := exR_app nx k st i
            rw [← HSI.out] at hr
            rw [hr, List.getElem?_append_left (List.getElem?_eq_some_iff.1 HK.out).1]; exact HK.out
          have kk0 := RK.out.cell 0; have kk1 := RK.out.cell 1
          obtain ⟨x1, x2⟩ := x
          clear hx
          go_wp2_with fail
          refine CNi.out.mono ?_
          rintro e' w5 ⟨rfl, hb5⟩
          have HX5 := Lib.hid ((HX.out.call hb5 (Nat.le_refl _)).alloc (.cells ([.int .i64 (x1 : Int), .int .i64 (x2 : Int)] : List Value).toArray 84))
          have RK5 := Lib.hid ((RK.out.below hb5 RK.out.lt).alloc (.cells ([.int .i64 (x1 : Int), .int .i64 (x2 : Int)] : List Value).toArray 84))
          have hgm5 : w.heap.size + 3 < w5.heap.size := heap_lt (HX.out.call hb5 (Nat.le_refl _)).hm
          clear hb5 HX CNi kk0 kk1 RK
          obtain ⟨gT, hgT⟩ : ∃ q, q = w5.heap.size := ⟨_, rfl⟩
          obtain ⟨w5', hw5⟩ : ∃ y, y = w5.alloc (.cells ([.int .i64 (x1 : Int), .int .i64 (x2 : Int)] : List Value).toArray 84) := ⟨_, rfl⟩
          have RT : Hid (Row w5' gT 84 [.int .i64 (x1 : Int), .int .i64 (x2 : Int)]) := by rw [hw5, hgT]; exact Row.new w5 84 _
          have HGT : Hid (w.heap.size + 3 < gT) := by rw [hgT]; exact hgm5
          rw [← hw5] at HX5 RK5
          have HW5 := Lib.hid hw5; have HGTE := Lib.hid hgT
          have t0 := RT.out.cell 0; have t1 := RT.out.cell 1
          clear hw5 hgT hgm5
          go_upto_region 13 with fail
          rw [← HW5.out]
          try rw [← HGTE.out]
          by_cases hin : (x1, x2) ∈ si.1
          · obtain ⟨q, hq⟩ : ∃ q, q = ixL si.1 (x1, x2) := ⟨_, rfl⟩
            have HLK : Hid ((true = true ∧ (x1, x2) ∈ si.1 ∧ (q : Int) = ((ixL si.1 (x1, x2) : Nat) : Int)) ∨ (true = false ∧ (x1, x2) ∉ si.1 ∧ (q : Int) = 0)) := .inl ⟨rfl, hin, by rw [hq]⟩
            have HRN : Hid (exR nx k st (i + 1) = (si.1, si.2 ++ [(q : Int)])) := by
              show _ = _
              have h := exR_in (nx := nx) (k := k) (st := st) (l := i) (by rw [← HSI.out, ← HXE.out]; exact hin)
              rw [h, ← HSI.out, ← HXE.out, hq]
            have HVN : Hid (ExI nx first T (si.1, si.2 ++ [(q : Int)]) n (i + 1)) := by
              have h := HV.out.old HSTE.out hlt2 (by rw [← HXE.out]; exact hin)
              rw [← HXE.out, ← hq] at h
              exact h
            have e2 := HX5.out.row.cell 2
            clear hin hq
            go_wp2_with (first
              | (refine wpList_names_look2 KU w5' rfl (.tmp 53) (.tmp 54) rfl (w.heap.size + 3) HKQ.out HV.out.nd HX5.out.hm HNO.out (y := (x1, x2)) HOXQ.out (q : Int) true HLK.out rfl rfl ?_)
              | (at_builtin; refine wpList_int_push w5' rfl (.tmp 70) (.tmp 72) _ rfl w.heap.size 2 Try.underlying26 infoIU u2 si.2 rfl HX5.out.o2 (q : Int) rfl LN2.out HX5.out.size ?_; intro g6 c6 w6 hown hbl hat hgr; have hrow := HX5.out.row.grown hgr (fun e => (HX5.out.d2 _ e.symm).1 rfl); have y2 := hrow.cell 2; have f2 := hrow.frozen 2; have HX6 := Lib.hid (HX5.out.push2 hown hgr (at_push hat)); have HAT := Lib.hid hat; have RK6 := Lib.hid (RK5.out.grown hgr (fun e => HD2.out _ e.symm rfl)); have hK5 := RK5.out.lt; clear hrow hown hbl hat hgr))
            try clear e2
            try clear y2
            try clear f2
            clear HX5
            go_roundg (gi - 1)
            case measure => omega
            case rel =>
              refine ⟨i + 1, g5, c5, .slice (some ⟨g6, 0, none⟩) (si.2.length + 1) c6, om', by rw [HRN.out], by go_num, by omega, by omega, ?_⟩
              rw [HRN.out]
              refine ⟨HVN.out, HKi.out, ?_, HNO.out, RK6.out.far (p := ⟨w.heap.size + 2, 2, none⟩) (show gK ≠ w.heap.size + 2 by have := HGM.out; omega) _, ?_, HD4.out⟩
              · have := HX6.out
                simp only [List.length_append, List.length_cons, List.length_nil] at this ⊢
                exact this
              · intro k' hk'
                simp [Value.ownBlock] at hk'
                subst hk'
                rcases HAT.out with e | e
                · exact HD2.out _ e
                · omega
          · have HLK : Hid ((false = true ∧ (x1, x2) ∈ si.1 ∧ (0 : Int) = ((ixL si.1 (x1, x2) : Nat) : Int)) ∨ (false = false ∧ (x1, x2) ∉ si.1 ∧ (0 : Int) = 0)) := .inr ⟨rfl, hin, rfl⟩
            have HRN : Hid (exR nx k st (i + 1) = (si.1 ++ [(x1, x2)], si.2 ++ [((si.1.length : Nat) : Int)])) := by
              show _ = _
              have h := exR_new (nx := nx) (k := k) (st := st) (l := i) (by rw [← HSI.out, ← HXE.out]; exact hin)
              rw [h, ← HSI.out, ← HXE.out]
            have HVN : Hid (ExI nx first T (si.1 ++ [(x1, x2)], si.2 ++ [((si.1.length : Nat) : Int)]) n (i + 1)) := by
              have h := HV.out.fresh HSTE.out hlt2 (by rw [← HXE.out]; exact hin)
              rw [← HXE.out] at h
              exact h
            have HIN := Lib.hid hin
            have HONE : Hid (∀ u ∈ ([.int .i64 (x1 : Int), .int .i64 (x2 : Int)] : List Value), u.oneCell' = true) := fun u hu => by
              simp only [List.mem_cons, List.not_mem_nil, or_false] at hu
              rcases hu with rfl | rfl <;> rfl
            have P02 : 0 < 2 := by omega
            have P16 : 16 ≤ 32 := by omega
            clear hin
            go_wp2_with (first
              | (refine wpList_names_look2 KU w5' rfl (.tmp 53) (.tmp 54) rfl (w.heap.size + 3) HKQ.out HV.out.nd HX5.out.hm HNO.out (y := (x1, x2)) HOXQ.out 0 false HLK.out rfl rfl ?_)
              | (refine wpList_names_put2 KU w5' rfl (.tmp 62) (.tmp 63) (.tmp 64) (.inl rfl) (w.heap.size + 3) HKQ.out HV.out.nd HX5.out.hm HNO.out (y := (x1, x2)) HOXQ.out HIN.out rfl rfl rfl ?_; intro w6 om6 hb6 ho6 hbut; have HX6 := Lib.hid (HX5.out.map hbut hb6); have HN6 := Lib.hid ho6; have rt6 : Row w6 gT 84 [.int .i64 (x1 : Int), .int .i64 (x2 : Int)] := ((hbut.2.2.2.2 gT RT.out.lt (by have := HGT.out; omega)).trans RT.out); have t60 := rt6.cell 0; have t61 := rt6.cell 1; have RK6 : Hid (Row w6 gK 84 [.int .i64 (k.1 : Int), .int .i64 (k.2 : Int)]) := ((hbut.2.2.2.2 gK RK5.out.lt (by have := HGM.out; omega)).trans RK5.out); clear hb6 ho6 hbut rt6)
              | (at_builtin; (refine wpList_one_push w6 rfl (.tmp 65) (.tmp 67) _ rfl w.heap.size 84 (.agg #[.int .i64 0, .int .i64 0]) 2 16 Try.underlying137 infoKP rfl P02 P16 (.slice (some ⟨g5, 0, none⟩) si.1.length c5) si.1.length (qk si.1) rfl HX6.out.o4 [.int .i64 (x1 : Int), .int .i64 (x2 : Int)] rfl HONE.out w6.heap.size rfl rfl LN1.out HX6.out.size ?_; intro v7 w7 hown hgr hat; have hh7 := World.ownsRow.form hown (by omega); obtain ⟨g7, c7, hv7, -, -⟩ := hh7; subst hv7; have HX7 := Lib.hid (HX6.out.push4 (Y := qk (si.1 ++ [(x1, x2)])) (by rw [qk_snoc]; exact hown) hgr hat); have RK7 := Lib.hid (RK6.out.grown hgr (fun e => HD4.out (by simpa [Value.ownBlock] using e.symm))); have HAT7 := Lib.hid (hat g7 rfl); have e2 := HX7.out.row.cell 2; have hK6 := RK6.out.lt; clear hown hgr hat))
              | (at_builtin; (refine wpList_int_push w7 rfl (.tmp 70) (.tmp 72) _ rfl w.heap.size 2 Try.underlying26 infoIU u2 si.2 rfl HX7.out.o2 (si.1.length : Int) rfl LN2.out HX7.out.size ?_; intro g8 c8 w8 hown hbl hat hgr; have hrow := HX7.out.row.grown hgr (fun e => (HX7.out.d2 _ e.symm).1 rfl); have y2 := hrow.cell 2; have f2 := hrow.frozen 2; have HX8 := Lib.hid (HX7.out.push2 hown hgr (at_push hat)); have HAT8 := Lib.hid hat; have RK8 := Lib.hid (RK7.out.grown hgr (fun e => HD2.out _ e.symm rfl)); have hK7 := RK7.out.lt; clear hrow hown hbl hat hgr)))
            try clear e2
            try clear y2
            try clear f2
            clear HX5
            clear HX6
            clear HX7
            go_roundg (gi - 1)
            case measure => omega
            case rel =>
              refine ⟨i + 1, g7, c7, .slice (some ⟨g8, 0, none⟩) (si.2.length + 1) c8, om6, by rw [HRN.out]; simp, by go_num, by omega, by omega, ?_⟩
              rw [HRN.out]
              refine ⟨HVN.out, fun y hy => ?_, ?_, HN6.out, RK8.out.far (p := ⟨w.heap.size + 2, 2, none⟩) (show gK ≠ w.heap.size + 2 by have := HGM.out; omega) _, ?_, ?_⟩
              · rcases List.mem_append.1 hy with h | h
                · exact HKi.out y h
                · rw [show y = (x1, x2) from by simpa using h]; exact HOX.out
              · have := HX8.out
                simp only [List.length_append, List.length_cons, List.length_nil] at this ⊢
                exact this
              · intro k' hk'
                simp [Value.ownBlock] at hk'
                subst hk'
                rcases HAT8.out with e | e
                · exact HD2.out _ e
                · omega
              · show g7 ≠ gK
                rcases HAT7.out with e | e
                · have h1 : g5 = g7 := by simpa [Value.ownBlock] using e
                  rw [← h1]; exact HD4.out
                · omega
        · have hT' : i = T := by omega
          have l3 : (T : Int) ≤ (i : Int) := by omega
          have HEX : Hid (exA nx first T (n + 1) = si) := by show _ = _; rw [exA_succ nx first T (by rw [← HST.out]; exact HK.out), ← HST.out, HSI.out, hT']
          clear hlt2
          by_cases h64 : 64 < si.1.length
          · have h64' : (64 : Int) < (si.1.length : Int) := by omega
            have HNONE : Hid (exAll nx first T = none) := by
              show _ = _
              rw [← HE.out]
              obtain ⟨f, hf⟩ : ∃ f, gq = f + 1 := ⟨gq - 1, by have := hmn.out; have := HL64.out; omega⟩
              rw [hf, exE, ← HST.out, if_pos hlt, HEX.out, if_pos h64]
            have hR : Row wi (w.heap.size + 1) 33 [.int .i64 0, .int .i64 0, .slice none 0 0, .slice none 0 0] := HX.out.hr
            have RR := Lib.hid hR
            have k0 := hR.cell 0; have k1 := hR.cell 1; have k2 := hR.cell 2; have k3 := hR.cell 3
            have f0 := hR.frozen 0; have f1 := hR.frozen 1; have f2 := hR.frozen 2; have f3 := hR.frozen 3
            have HBL := Lib.hid HX.out.bel
            clear hR h64 HX HNO HV HKi
            go_wp2_with fail
            clear k0 k1 k2 k3 f0 f1 f2 f3
            have hF := ((((RR.out.set_ 0 (.int .i64 0)).set_ 1 (.int .i64 0)).set_ 2 (.slice none 0 0)).set_ 3 (.slice none 0 0))
            refine bodyPost_ret (results_cell2 rfl _ _ (w.heap.size + 1) 33 #[.int .i64 0, .int .i64 0, .slice none 0 0, .slice none 0 0] (0, 0) _ (.bool false) rfl rfl hF Try.underlying33 rfl (by kernel_rfl)) rfl ?_
            refine ⟨_, by rw [HNONE.out]; rfl, ?_, set4_below HBL.out (Nat.le_succ _) _ _ _ _⟩
            have e1 : eqN nx first T = 0 := by unfold eqN; rw [HNONE.out]; rfl
            have e2 : eqT nx first T = 0 := by unfold eqT; rw [HNONE.out]
            have e3 : eqP nx first T = [] := by unfold eqP; rw [HNONE.out]
            have e4 : eqD nx en first T = [] := by unfold eqD; rw [HNONE.out]
            rw [e1, e2, e3, e4]
            exact plw_zero _ _
          · have h64' : (si.1.length : Int) ≤ 64 := by omega
            have hle : si.1.length ≤ 64 := by omega
            have WN : IntKind.i64.wrap ((n : Int) + 1) = (n : Int) + 1 := IntWalk.i64_in _ (by have := HL64.out; omega)
            clear h64
            go_wp2_with fail
            go_roundg (gq - 1)
            case measure => have := hmn.out; have := HL64.out; omega
            case rel =>
              have hge : n + 1 ≤ si.1.length := by
                obtain ⟨r, hr⟩ := exR_app nx k st i
                rw [← HSI.out] at hr
                rw [hr, List.length_append]; omega
              have hEE : exE nx first T (gq - 1) (n + 1) = exAll nx first T := by
                rw [← HE.out]
                obtain ⟨f, hf⟩ : ∃ f, gq = f + 1 := ⟨gq - 1, by have := hmn.out; have := HL64.out; omega⟩
                rw [hf, exE, ← HST.out, if_pos hlt, HEX.out, if_neg (by omega)]; rfl
              have hte : (st.1.take (n + 1)).map en = (si.1.take (n + 1)).map en := by
                obtain ⟨r, hr⟩ := exR_app nx k st i
                rw [← HSI.out] at hr
                rw [hr, List.take_append_of_le_length (by omega)]
              have hX := HX.out
              rw [hte] at hX
              have hn64 : n ≤ 64 := by have := HL64.out; omega
              refine ⟨n + 1, g5, c5, u2, (.slice A5 (n + 1) d5), om', by rw [HEX.out], by go_num, ?_, ?_⟩
              · have q1 := hmn.out
                have q2 := HL64.out
                show _ + _ = 65
                omega
              rw [HEX.out]
              exact ⟨hge, hle, hEE, HKi.out, hX, HNO.out⟩
    · have hnl : n = st.1.length := by have := HNL.out; omega
      have l1 : (st.1.length : Int) ≤ (n : Int) := by omega
      have HSOME : Hid (exAll nx first T = some n) := by
        show _ = _
        rw [← HE.out]
        obtain ⟨f, hf⟩ : ∃ f, gq = f + 1 := ⟨gq - 1, by have := hmn.out; have := HL64.out; omega⟩
        rw [hf, exE, ← HST.out, if_neg hlt]
      have hR : Row wo (w.heap.size + 1) 33 [.int .i64 0, .int .i64 0, .slice none 0 0, .slice none 0 0] := HX.out.hr
      have RR := Lib.hid hR
      have HG := HX.out.row
      have b0 := HG.cell 0; have b1 := HG.cell 1; have b2 := HG.cell 2; have b3 := HG.cell 3; have z0 := HG.frozen 0
      have k0 := hR.cell 0; have k1 := hR.cell 1; have k2 := hR.cell 2; have k3 := hR.cell 3
      have f0 := hR.frozen 0; have f1 := hR.frozen 1; have f2 := hR.frozen 2; have f3 := hR.frozen 3
      have e1 : eqN nx first T = n := by unfold eqN; rw [HSOME.out]; rfl
      have e2 : eqT nx first T = T := by unfold eqT; rw [HSOME.out]
      have e3 : eqP nx first T = st.2 := by unfold eqP; rw [HSOME.out, HST.out]
      have e4 : eqD nx en first T = (st.1.take n).map en := by unfold eqD; rw [HSOME.out, List.take_of_length_le (by omega), HST.out]
      have E1 := Lib.hid e1; have E2 := Lib.hid e2; have E3 := Lib.hid e3; have E4 := Lib.hid e4
      obtain ⟨A2, c2, hv2, -⟩ := own_form HX.out.o2
      obtain ⟨A3, c3, hv3, -⟩ := own_form HX.out.o3
      have HLE : Hid (((st.1.take n).map en).length = n) := by show _ = _; rw [List.length_map, List.length_take]; omega
      have HNE := Lib.hid hnl
      clear e1 e2 e3 e4 HG hR hlt hnl
      subst hv2; subst hv3
      have hgr : w.heap.size + 1 ≠ w.heap.size + 2 := by omega
      have RR2 := Lib.hid (RR.out.far (p := ⟨w.heap.size + 2, 0, none⟩) hgr (.int .i64 (st.1.length : Int)))
      go_wp2_with fail
      clear b0 b1 b2 b3 z0 k0 k1 k2 k3 f0 f1 f2 f3
      have hF := ((((RR2.out.set_ 0 (.int .i64 (st.1.length : Int))).set_ 1 (.int .i64 (T : Int))).set_ 2 (.slice A2 st.2.length c2)).set_ 3 (.slice A3 n c3))
      refine bodyPost_ret (results_cell2 rfl _ _ (w.heap.size + 1) 33 #[.int .i64 (st.1.length : Int), .int .i64 (T : Int), .slice A2 st.2.length c2, .slice A3 n c3] (0, 0) _ (.bool true) rfl rfl hF Try.underlying33 rfl (by kernel_rfl)) rfl ?_
      refine ⟨_, by rw [HSOME.out]; rfl, ?_, set4_below (HX.out.bel.setCell (p := ⟨w.heap.size + 2, 0, none⟩) (show w.heap.size ≤ w.heap.size + 2 by omega) _) (Nat.le_succ _) _ _ _ _⟩
      rw [E1.out, E2.out, E3.out, E4.out, show (n : Int) = (st.1.length : Int) by rw [← HNE.out]]
      refine xb_end HX.out HLE.out.symm ?_ (fun k h1 h2 => ?_) _ _
      · rw [set4_size]; simp [World.setCell]
      · rw [set4_heap _ _ _ _ _ _ _ h2, Below.heap_setCell _ _ _ _ h1]
end Go.Proofs.Ytbdfbmohdbigfaa