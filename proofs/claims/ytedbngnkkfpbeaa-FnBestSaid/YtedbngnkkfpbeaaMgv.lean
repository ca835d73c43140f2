/- Several texts in one: BestWords: the words up to a length (wordsUpTo), walked. BestWords: sorting by insertion, plainly; what the list of costed words wants of the memory. -/
import Derived.Test.YtedbngnkkfpbeaaWoW

namespace Go.Proofs.Ytedbngnkkfpbeaa
open Go.RowKit
set_option linter.unusedVariables false
/-- 'table = append(table, rows...)'. -/
theorem wpList_tab_app {P : Program} (w0 : World) {ops : Array Oper} {rest : List Oper} {o : Oper} {a : Act} {Q : Exit → Act → World → Prop} (hgd : o.guard = none) (s x : Operand) (t : TypeId)
    (ho : o.op = .call { callee := .builtin .append, args := #[s, x], argTypes := #[t, t] })
    (base base2 : Nat) (TT : TypeId) (ht : P.underlying t = some (.slice TT)) (hinfo : (P.info? TT).map (fun i => (i.zero, i.size, i.bytes)) = some (some (.slice none 0 0), 1, 24))
    (v : Value) (rows : List (List Int)) (hs : a.eval s = v) (htab : TabI w0 base TT v rows)
    (g c : Nat) (rows2 : List (List Int)) (hx : a.eval x = .slice (some ⟨g, 0, none⟩) rows2.length c) (htab2 : TabI w0 base2 TT (.slice (some ⟨g, 0, none⟩) rows2.length c) rows2)
    (hb12 : base ≤ base2) (hv : ∀ k, v.ownBlock = some k → k < base2) (hm : 0 < rows2.length)
    (hn : rows.length + rows2.length ≤ 1000000) (hbase : base ≤ w0.heap.size)
    (h : ∀ g' cap w', TabI w' base TT (.slice (some ⟨g', 0, none⟩) (rows.length + rows2.length) cap) (rows ++ rows2) → w0.grownBy w' v.ownBlock → Below base w0 w' → 
      wpList P ops Q rest (a.put o.dst (.slice (some ⟨g', 0, none⟩) (rows.length + rows2.length) cap)) w') :
    wpList P ops Q (o :: rest) a w0 := by
  obtain ⟨vs, hown, hr⟩ := htab
  obtain ⟨vs2, hown2, hr2⟩ := htab2
  obtain ⟨i, hi, hz, hsz, hb⟩ := info_parts hinfo
  have hl : vs.length = rows.length := by have := hown.1; omega
  have hl2 : vs2.length = rows2.length := by have := hown2.1; omega
  refine wpList_append_lies w0 hgd s x t ho base TT i (.slice none 0 0) 1 24 ht hi hz hsz hb rfl (by omega) v rows.length vs hs hown ⟨g, 0, none⟩ rows2.length c vs2 hx (by omega) (fun j u hu => hown2.cells (g := g) rfl j u hu) ?_ hm (by unfold maxLen; omega) (by omega) hbase w0.heap.size rfl ?_
  · intro u hu
    obtain ⟨j, hj, rfl⟩ := List.getElem_of_mem hu
    obtain ⟨g1, c1, e1, -⟩ := hr2 j rows2[j] (List.getElem?_eq_getElem (by omega))
    rw [List.getElem?_eq_getElem hj] at e1
    injection e1 with e1
    rw [e1]; rfl
  · intro g' cap w' hown' hgr hat hlt'
    have hbel := grown_below hown hgr hbase
    refine h g' cap w' ⟨vs ++ vs2, by rw [List.length_append]; exact hown', ?_⟩ hgr hbel
    intro j r' hj
    by_cases hjl : j < rows.length
    · rw [List.getElem?_append_left hjl] at hj
      obtain ⟨g1, c1, e1, e2, e3, e4, e5, e6⟩ := hr j r' hj
      refine ⟨g1, c1, by rw [List.getElem?_append_left (by omega)]; exact e1, e2, Nat.lt_of_lt_of_le e3 hgr.size, ?_, e5, fun k x hx => hgr.cell (e6 k x hx) (Ne.symm e4)⟩
      intro e
      simp [Value.ownBlock] at e
      rcases hat with h | h
      · exact e4 (by rw [h, e])
      · omega
    · rw [List.getElem?_append_right (by omega)] at hj
      obtain ⟨g1, c1, e1, e2, e3, e4, e5, e6⟩ := hr2 (j - rows.length) r' hj
      have hne : v.ownBlock ≠ some g1 := fun e => by have := hv g1 e; omega
      refine ⟨g1, c1, by rw [List.getElem?_append_right (by omega), hl]; exact e1, by omega, Nat.lt_of_lt_of_le e3 hgr.size, ?_, e5, fun k x hx => hgr.cell (e6 k x hx) (Ne.symm hne)⟩
      intro e
      simp [Value.ownBlock] at e
      rcases hat with h | h
      · exact hne (by rw [h, e])
      · omega
/-- The words of up to m letters. -/
def wlU (T m : Nat) : List (List Int) := (List.range (m + 1)).flatMap (wlN T)
theorem wlU_part {T : Nat} (hT : T ≤ 4) : ∀ k, k ≤ 6 → ((List.range k).flatMap (wlN T)).length ≤ k * 1024
  | 0, _ => by simp
  | k + 1, h => by
    have := wlU_part hT k (by omega)
    have := wlN_max (T := T) (n := k) hT (by omega)
    rw [List.range_succ, List.flatMap_append, List.length_append]
    simp only [List.flatMap_cons, List.flatMap_nil, List.append_nil]
    omega
theorem wlN_pos {T : Nat} (hT : 1 ≤ T) (n : Nat) : 0 < (wlN T n).length := by
  rw [wlN_len]; exact Nat.pow_pos (by omega)
set_option maxRecDepth 100000 in
set_option maxHeartbeats 8000000 in
theorem iWu_any (T m : Nat) (hT1 : 1 ≤ T) (hT : T ≤ 4) (hm : m ≤ 5) (w : World) :
    Calls Try.prog 40 #[.int .i64 (T : Int), .int .i64 (m : Int)] w fun e w' => ∃ g c, e = .returned (.slice (some ⟨g, 0, none⟩) (wlU T m).length c) ∧ (∃ B, TabO w' w.heap.size 26 2 (.slice (some ⟨g, 0, none⟩) (wlU T m).length c) (wlU T m) B) ∧ Below w.heap.size w w' := by
  have wm : IntKind.i64.wrap ((m : Int) + 1) = ((m + 1 : Nat) : Int) := by rw [IntWalk.i64_in _ (by omega)]; omega
  have HT4 := Lib.hid hT; have HM5 := Lib.hid hm; have HT1 := Lib.hid hT1
  go_enter Try.func40, Try.ntmps40
  go_wp2_with fail
  go_loopg [5, 10] (m + 1) (fun q tl ti wr => ∃ (k g c : Nat) (R : List (List Int)), tl = .slice (some ⟨g, 0, none⟩) R.length c ∧ ti = .int .i64 (k : Int) ∧ Hid (k ≤ m + 1 ∧ m + 1 ≤ q + k) ∧ Hid (R = (List.range k).flatMap (wlN T)) ∧ Hid (∃ B, TabO wr w.heap.size 26 2 (.slice (some ⟨g, 0, none⟩) R.length c) R B) ∧ Hid (Below w.heap.size w wr))
  case atStart =>
    refine ⟨0, w.heap.size, 0, [], rfl, rfl, ?_, ?_, ?_, ?_⟩
    · show _ ∧ _; omega
    · show _ = _; rfl
    · exact ⟨[], TabO.made w _ _ _ (Nat.le_refl _)⟩
    · exact (Below.refl _ _).alloc (Nat.le_refl _) _
  case round =>
    obtain ⟨wo, rfl⟩ : ∃ z : World, z = wr := ⟨_, rfl⟩
    obtain ⟨k, g, c, R, rfl, rfl, EK, ER, HTB, HBW⟩ := hrel
    by_cases hlt : k < m + 1
    · have l0 : (k : Int) < ((m + 1 : Nat) : Int) := by omega
      have l00 : (k : Int) < (m : Int) + 1 := by omega
      have wk : IntKind.i64.wrap ((k : Int) + 1) = ((k + 1 : Nat) : Int) := by rw [IntWalk.i64_in _ (by omega)]; omega
      have CW := Lib.hid (iWo_any T k hT (by omega) wo)
      obtain ⟨R2, hR2⟩ : ∃ R2, R2 = wlN T k := ⟨_, rfl⟩
      have hL2 : 0 < R2.length := by rw [hR2]; exact wlN_pos hT1 k
      have hL3 : R2.length ≤ 1024 := by rw [hR2]; exact wlN_max hT (by omega)
      rw [← hR2] at CW
      have HR2 := Lib.hid hR2; have HL2 := Lib.hid hL2
      have HLN : Hid (R.length + R2.length ≤ 1000000) := by
        show _ ≤ _
        have := wlU_part (T := T) hT k (by omega)
        rw [ER.out]; omega
      have HV : Hid (g < wo.heap.size) := ((TabO.ex HTB.out).block g rfl).2
      have hsz : w.heap.size ≤ wo.heap.size := HBW.out.size
      have HLT : Hid (k < m + 1) := hlt
      obtain ⟨BO, hBO⟩ := HTB.out
      have HTO := Lib.hid hBO
      clear hR2 hL2 hL3 hlt hBO
      go_wp2_with (first
        | (go_at_call 65; refine CW.out.mono ?_; rintro e w1 ⟨g1, c1, rfl, ⟨B1, h1⟩, h2⟩; have H1 := Lib.hid h1; have H2 := Lib.hid h2; clear h1 h2)
        | (at_builtin; refine wpList_tabO_app wo w1 rfl (.tmp 13) (.tmp 16) _ rfl w.heap.size 26 2 Try.underlying35 infoWo (.slice (some ⟨g, 0, none⟩) R.length c) R BO rfl HTO.out H2.out g1 c1 R2 B1 rfl H1.out HL2.out HLN.out hsz ?_; intro g7 c7 w7 htab hgr hbl; have HT7 := Lib.hid htab; have HB7 := Lib.hid hbl; clear htab hgr hbl))
      go_roundg (gk - 1)
      case measure => have := EK.out; have := HLT.out; omega
      case rel =>
        refine ⟨k + 1, g7, c7, R ++ R2, by simp, by go_num, ?_, ?_, ?_, HBW.out.trans ((H2.out.mono hsz).trans HB7.out)⟩
        · show _ ∧ _; have := EK.out; have := HLT.out; omega
        · show _ = _; rw [ER.out, HR2.out, List.range_succ, List.flatMap_append]; simp
        · show ∃ B, TabO _ _ _ _ _ _ B
          rw [List.length_append]; exact ⟨_, HT7.out⟩
    · have hkn : k = m + 1 := by have := EK.out; omega
      have l0 : ¬ (k : Int) < ((m + 1 : Nat) : Int) := by omega
      have l00 : ¬ (k : Int) < (m : Int) + 1 := by omega
      have HKN := Lib.hid hkn
      clear hlt hkn
      go_wp2_with fail
      go_ret
      have h := HTB.out
      have e : R = wlU T m := by rw [ER.out, HKN.out]; rfl
      rw [e] at h
      exact ⟨g, c, by rw [← e]; rfl, h, HBW.out⟩
end Go.Proofs.Ytedbngnkkfpbeaa


namespace Go.Proofs.Ytedbngnkkfpbeaa
open Go.RowKit
set_option linter.unusedVariables false
section
variable {β γ : Type}
/-- One put behind all that cost no more. -/
def insK (k : β → Int) (x : β) : List β → List β
  | [] => [x]
  | y :: l => if k x < k y then x :: y :: l else y :: insK k x l
/-- Sorted by putting one after the other in its place. -/
def srtK (k : β → Int) (L : List β) : List β := L.foldl (fun acc x => insK k x acc) []
theorem srtK_snoc (k : β → Int) (L : List β) (x : β) : srtK k (L ++ [x]) = insK k x (srtK k L) := by simp [srtK, List.foldl_append]
theorem insK_len (k : β → Int) (x : β) : ∀ L : List β, (insK k x L).length = L.length + 1
  | [] => rfl
  | y :: l => by
    unfold insK
    split
    · rfl
    · rw [List.length_cons, insK_len k x l]; rfl
theorem insK_map (f : β → γ) (k : γ → Int) (x : β) : ∀ L : List β, (insK (fun b => k (f b)) x L).map f = insK k (f x) (L.map f)
  | [] => rfl
  | y :: l => by
    show (insK _ x (y :: l)).map f = insK k (f x) (f y :: l.map f)
    unfold insK
    split
    · rfl
    · rw [List.map_cons, insK_map f k x l]
theorem snoc_ind {p : List β → Prop} (h0 : p []) (h1 : ∀ L x, p L → p (L ++ [x])) (L : List β) : p L := by
  have h : ∀ n, ∀ L : List β, L.length = n → p L := by
    intro n
    induction n with
    | zero => intro L hl; rw [List.length_eq_zero_iff.1 hl]; exact h0
    | succ n ih =>
      intro L hl
      have hne : L ≠ [] := by intro e; rw [e] at hl; cases hl
      rw [← List.dropLast_concat_getLast hne]
      exact h1 _ _ (ih _ (by rw [List.length_dropLast]; omega))
  exact h _ L rfl
theorem srtK_map (f : β → γ) (k : γ → Int) (L : List β) : (srtK (fun b => k (f b)) L).map f = srtK k (L.map f) := by
  refine snoc_ind (p := fun L => (srtK (fun b => k (f b)) L).map f = srtK k (L.map f)) rfl (fun L x ih => ?_) L
  rw [srtK_snoc, insK_map, ih, List.map_append]
  exact (srtK_snoc k (L.map f) (f x)).symm
theorem srtK_len (k : β → Int) (L : List β) : (srtK k L).length = L.length := by
  refine snoc_ind (p := fun L => (srtK k L).length = L.length) rfl (fun L x ih => ?_) L
  rw [srtK_snoc, insK_len, ih]; simp
theorem insK_mem {k : β → Int} {x y : β} : ∀ {L : List β}, y ∈ insK k x L → y = x ∨ y ∈ L
  | [], h => by rw [List.mem_singleton.1 h]; exact .inl rfl
  | z :: l, h => by
    unfold insK at h
    split at h
    · rcases List.mem_cons.1 h with h | h
      · exact .inl h
      · exact .inr h
    · rcases List.mem_cons.1 h with h | h
      · exact .inr (h ▸ List.mem_cons_self)
      · rcases insK_mem h with h | h
        · exact .inl h
        · exact .inr (List.mem_cons_of_mem _ h)
theorem srtK_mem {k : β → Int} {y : β} (L : List β) : y ∈ srtK k L → y ∈ L := by
  refine snoc_ind (p := fun L => y ∈ srtK k L → y ∈ L) (fun h => h) (fun L x ih h => ?_) L
  rw [srtK_snoc] at h
  rcases insK_mem h with h | h
  · rw [h]; simp
  · exact List.mem_append_left _ (ih h)
/-- Cutting ahead of putting one in, when all is cut again, changes nothing. -/
theorem insK_take (k : β → Int) (x : β) : ∀ (n : Nat) (L : List β), (insK k x (L.take n)).take n = (insK k x L).take n
  | 0, L => by simp
  | n + 1, [] => by simp
  | n + 1, y :: l => by
    rw [List.take_succ_cons]
    unfold insK
    split
    · rw [List.take_succ_cons, List.take_succ_cons]
      congr 1
      cases n with
      | zero => rfl
      | succ n => rw [List.take_succ_cons, List.take_succ_cons, List.take_take]; congr 2; omega
    · rw [List.take_succ_cons, List.take_succ_cons, insK_take k x n l]
end
theorem insK_parts (x : Ce) : ∀ (L : List Ce), Srt L → ∃ M1 M2, L = M1 ++ M2 ∧ insK (fun e : Ce => e.c) x L = M1 ++ x :: M2 ∧ (∀ y ∈ M2, x.c < y.c) ∧ (∀ y ∈ M1, y.c ≤ x.c)
  | [], _ => ⟨[], [], rfl, rfl, fun y h => (by cases h), fun y h => (by cases h)⟩
  | z :: l, hs => by
    by_cases h : x.c < z.c
    · refine ⟨[], z :: l, rfl, if_pos h, fun y hy => ?_, fun y h => (by cases h)⟩
      rcases List.mem_cons.1 hy with rfl | hy
      · exact h
      · have := (List.pairwise_cons.1 hs).1 y hy; omega
    · obtain ⟨M1, M2, e1, e2, e3, e4⟩ := insK_parts x l (List.pairwise_cons.1 hs).2
      refine ⟨z :: M1, M2, by rw [e1]; rfl, (if_neg h).trans (by rw [e2]; rfl), e3, fun y hy => ?_⟩
      rcases List.mem_cons.1 hy with rfl | hy
      · omega
      · exact e4 y hy
theorem srtK_ok (L : List Ce) : Srt (srtK (fun e : Ce => e.c) L) ∧ Stb L (srtK (fun e : Ce => e.c) L) := by
  refine snoc_ind (p := fun L => Srt (srtK (fun e : Ce => e.c) L) ∧ Stb L (srtK (fun e : Ce => e.c) L)) ⟨Srt.nil, Stb.refl _⟩ (fun L x ih => ?_) L
  obtain ⟨M1, M2, e1, e2, e3, e4⟩ := insK_parts x _ ih.1
  rw [srtK_snoc, e2]
  refine ⟨srt_insert (by rw [← e1]; exact ih.1) e3 e4, ?_⟩
  have h := ih.2.append (Stb.refl [x])
  rw [e1] at h
  exact h.trans (stb_insert e3)
/-- What the sorting of the library makes is the sorting by insertion. -/
theorem srtK_is {L M : List Ce} (h : Srt M) (h' : Stb L M) : M = srtK (fun e : Ce => e.c) L := stb_unique h (srtK_ok L).1 h' (srtK_ok L).2
theorem infoCe : (Try.prog.info? 68).map (fun i => (i.zero, i.size, i.bytes)) = some (some (.agg #[.slice none 0 0, .int .i64 0]), 2, 32) := by kernel_rfl
/-- 'list = append(list, costed{word, cost})'. -/
theorem wpList_ce_push (w0 : World) {ops : Array Oper} {rest : List Oper} {o : Oper} {a : Act} {Q : Exit → Act → World → Prop} (hgd : o.guard = none) (s x : Operand) (t : TypeId)
    (ho : o.op = .call { callee := .builtin .append, args := #[s, x], argTypes := #[t, t] })
    (ht : Try.prog.underlying t = some (.slice 68)) (base g cap : Nat) (D : List Ce) (hs : a.eval s = .slice (some ⟨g, 0, none⟩) D.length cap) (hw : Dw w0 base g cap D)
    (e : Ce) (hx : a.eval x = .slice (some ⟨w0.heap.size, 0, none⟩) 1 1) (hn : D.length + 1 ≤ 100000) (hbase : base ≤ w0.heap.size)
    (h : ∀ g' cap' w', Dw w' base g' cap' (D ++ [e]) → w0.grownBy w' (some g) → (g' = g ∨ w0.heap.size ≤ g') → wpList Try.prog ops Q rest (a.put o.dst (.slice (some ⟨g', 0, none⟩) (D.length + 1) cap')) w') :
    wpList Try.prog ops Q (o :: rest) a (w0.alloc (.cells #[.slice e.A e.n e.k, .int .i64 e.c] 68)) := by
  obtain ⟨i, hi, hz, hsz, hb⟩ := info_parts infoCe
  have hown : (w0.alloc (.cells #[.slice e.A e.n e.k, .int .i64 e.c] 68)).ownsRow base 68 2 (.slice (some ⟨g, 0, none⟩) D.length cap) D.length (cellsC D) := World.ownsRow.alloc hw _
  have hr := Row.new w0 68 [.slice e.A e.n e.k, .int .i64 e.c]
  refine wpList_append_lies _ hgd s x t ho base 68 i _ 2 32 ht hi hz hsz hb rfl (by omega) _ D.length (cellsC D) hs hown ⟨w0.heap.size, 0, none⟩ 1 1 (ceV e) hx rfl ?_ ?_ (by omega) (by unfold maxLen; omega) (by omega) (by simp; omega) (w0.heap.size + 1) (by simp) ?_
  · intro j u hu
    have hj : j < 2 := (List.getElem?_eq_some_iff.1 hu).1
    have hj2 : j = 0 ∨ j = 1 := by omega
    rcases hj2 with rfl | rfl
    · simp [ceV] at hu; subst hu
      simp [Addr.add]
    · simp [ceV] at hu; subst hu
      simp [Addr.add]
  · intro u hu
    simp [ceV] at hu
    rcases hu with rfl | rfl <;> rfl
  · intro g' cap' w' hown' hg hat hlt
    refine h g' cap' w' ?_ ⟨hg.os, hg.tape, hg.output, ?_, ?_⟩ ?_
    · unfold Dw
      rw [cellsC_append, List.length_append]
      exact hown'
    · have := hg.size; simp at this; omega
    · intro k hk hne
      exact (hg.block k (by simp; omega) hne).trans (Below.heap_alloc w0 _ k hk)
    · rcases hat with h | h
      · exact .inl (by simpa [Value.ownBlock] using h.symm)
      · exact .inr (by omega)
/-- A list of rows in any world that changed but one block beneath. -/
theorem TabI.lo {w w' : World} {base g0 : Nat} {TT : TypeId} {v : Value} {rows : List (List Int)} (h : TabI w base TT v rows) (hl : Lo w.heap.size g0 w w') (hg : g0 < base) : TabI w' base TT v rows := by
  have hb := h.block
  obtain ⟨vs, hown, hr⟩ := h
  refine ⟨vs, own_move hown (fun k hk => hl.2.2.2.2 k (hb k hk).2 (by have := (hb k hk).1; omega)), fun j r hj => ?_⟩
  obtain ⟨g, c, e1, e2, e3, e4, e5, e6⟩ := hr j r hj
  refine ⟨g, c, e1, e2, Nat.lt_of_lt_of_le e3 hl.2.2.2.1, e4, e5, fun k x hx => ?_⟩
  exact (World.cell?_of_block (a := ⟨g, k, none⟩) (hl.2.2.2.2 g e3 (by omega))).trans (e6 k x hx)
end Go.Proofs.Ytedbngnkkfpbeaa
