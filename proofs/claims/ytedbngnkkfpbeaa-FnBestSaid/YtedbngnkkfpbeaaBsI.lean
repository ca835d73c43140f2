/- BestWords of the program: the costed words, gathered. -/
import Derived.Test.YtedbngnkkfpbeaaMgv
import Derived.Test.YtedbngnkkfpbeaaMgj
import Derived.Test.YtedbngnkkfpbeaaMga
import Derived.Deep.CutRange

namespace Go.Proofs.Ytedbngnkkfpbeaa
open Go.RowKit
set_option linter.unusedVariables false
/-- A costed word and the word, as it lies in memory. -/
def RdC (w : World) (base : Nat) (p : Ce × List Int) : Prop := ∃ gr, p.1.A = some ⟨gr, 0, none⟩ ∧ p.1.n = p.2.length ∧ p.2.length ≤ p.1.k ∧ base ≤ gr ∧ gr < w.heap.size ∧ (∀ (k : Nat) (x : Int), p.2[k]? = some x → w.cell? ⟨gr, k, none⟩ = some (.int .i64 x)) ∧ ∃ m, p.2.length ≤ m ∧ RowN w gr 2 m
/-- The block that a word lies in. -/
def blkA : Option Addr → Nat
  | some a => a.block
  | none => 0
theorem insK_perm {β : Type} (k : β → Int) (x : β) : ∀ L : List β, (insK k x L).Perm (x :: L)
  | [] => List.Perm.refl _
  | y :: l => by
    unfold insK
    split
    · exact List.Perm.refl _
    · exact ((insK_perm k x l).cons y).trans (List.Perm.swap x y l)
theorem srtK_perm {β : Type} (k : β → Int) (L : List β) : (srtK k L).Perm L := by
  refine snoc_ind (p := fun L => (srtK k L).Perm L) (List.Perm.refl _) (fun L x ih => ?_) L
  rw [srtK_snoc]
  exact ((insK_perm k x _).trans (ih.cons x)).trans (List.perm_append_singleton x L).symm
/-- A word with its cost, if it has one. -/
def cfW (F : Int) (L : List A4) (P E : List Int) (xs : List Int) : Option (List Int × Int) := if 0 ≤ coV F L P E xs then some (xs, coV F L P E xs) else none
/-- The best words of up to m letters. -/
def bwsL (F : Int) (T m cnt : Nat) (L : List A4) (P E : List Int) : List (List Int × Int) := (srtK Prod.snd ((wlU T m).filterMap (cfW F L P E))).take cnt
theorem wlU_len {T m : Nat} (hT : T ≤ 4) (hm : m ≤ 5) : (wlU T m).length ≤ 6144 := by
  have := wlU_part hT (m + 1) (by omega)
  unfold wlU; omega
theorem slI_cells2 {w : World} {gr : Nat} {x : List Int} (h : gr < w.heap.size) (hc : ∀ (k : Nat) (u : Int), x[k]? = some u → w.cell? ⟨gr, k, none⟩ = some (.int .i64 u)) : SlI w w.heap.size (some ⟨gr, 0, none⟩) x.length x :=
  ⟨iv_length x, fun _ => ⟨gr, 0, rfl, h, fun k u hu => by
    obtain ⟨y, hy, rfl⟩ := iv_get hu
    rw [Nat.zero_add]; exact hc k y hy⟩⟩
theorem min_run (P : Program) (a b n : Nat) (hn : n = min a b) (tys : Array TypeId) (ty : TypeId) (w : World) : (Builtin.min_ tys ty #[.int .i64 (a : Int), .int .i64 (b : Int)]).run P w = .ok (.int .i64 (n : Int)) w := by
  have key : Builtin.min_ tys ty #[.int .i64 (a : Int), .int .i64 (b : Int)] = pure (.int .i64 (n : Int)) := by
    show (Builtin.min2 (.int .i64 (a : Int)) (.int .i64 (b : Int)) >>= fun x => pure x) = _
    have e : (if (b : Int) < (a : Int) then (b : Int) else (a : Int)) = (n : Int) := by
      split <;> omega
    rw [← e]; rfl
  rw [key]; rfl
theorem Lo.grown2 {lo g0 g : Nat} {x y : World} (h : x.grownBy y (some g)) (hg : g = g0 ∨ lo ≤ g) (hs : lo ≤ x.heap.size) : Lo lo g0 x y :=
  ⟨h.os, h.tape, h.output, h.size, fun k hk hne => h.block k (by omega) (fun e => by have := Option.some.inj e; omega)⟩
theorem Lo.other {lo lo' g0 g : Nat} {x y : World} (h : Lo lo' g x y) (hg : g = g0 ∨ lo ≤ g) (hl : lo ≤ lo') : Lo lo g0 x y :=
  ⟨h.1, h.2.1, h.2.2.1, h.2.2.2.1, fun k hk hne => h.2.2.2.2 k (by omega) (by omega)⟩
set_option maxRecDepth 100000 in
set_option maxHeartbeats 8000000 in
theorem iBws_yes (S : Int) (T m cnt : Nat) (L : List A4) (P E : List Int) (A2 : Option Addr) (n2 c2 : Nat) (A3 : Option Addr) (n3 c3 : Nat) (A4 : Option Addr) (n4 c4 : Nat) (w : World) (h2 : SlA w w.heap.size A2 n2 L) (h3 : SlI w w.heap.size A3 n3 P) (h4 : SlI w w.heap.size A4 n4 E) (v1 : vmB S (T : Int) L P E = true) (hm : m ≤ 5) (hc : 1 ≤ cnt) (hc2 : cnt ≤ 64) :
    Calls Try.prog 11 #[.agg #[.int .i64 S, .int .i64 (T : Int), .slice A2 n2 c2, .slice A3 n3 c3, .slice A4 n4 c4], .int .i64 (m : Int), .int .i64 (cnt : Int)] w fun e w' => ∃ (R : List (List Int × Int)) (g c g' c' : Nat) (B : List Nat), R = bwsL 1099511627776 T m cnt L P E ∧ e = .returned (.tuple #[.slice (some ⟨g, 0, none⟩) R.length c, .slice (some ⟨g', 0, none⟩) R.length c', .bool true]) ∧ TabO w' w.heap.size 26 2 (.slice (some ⟨g, 0, none⟩) R.length c) (R.map Prod.fst) B ∧ RowI w' w.heap.size 2 (.slice (some ⟨g', 0, none⟩) R.length c') (R.map Prod.snd) ∧ g ≠ g' ∧ g' ∉ B ∧ Below w.heap.size w w' := by
  obtain ⟨q3, q1, q2, q4, q5, q6, q7, q8, q9, q10⟩ := vm_okM v1
  have hT1 : 1 ≤ T ∧ T ≤ 4 := by omega
  have e2 := h2.len; have e3 := h3.len; have e4 := h4.len
  have rb := Row.new w 28 (BxM S (T : Int) A2 n2 c2 A3 n3 c3 A4 n4 c4)
  have bx : Below w.heap.size w (w.alloc (.cells (BxM S (T : Int) A2 n2 c2 A3 n3 c3 A4 n4 c4).toArray 28)) := (Below.refl _ _).alloc (Nat.le_refl _) _
  obtain ⟨x0, hx0⟩ : ∃ x, x = w.alloc (.cells (BxM S (T : Int) A2 n2 c2 A3 n3 c3 A4 n4 c4).toArray 28) := ⟨_, rfl⟩
  have hsx : x0.heap.size = w.heap.size + 1 := by rw [hx0]; simp
  rw [← hx0] at rb bx
  have V := iValidMachine_any (.agg #[.int .i64 S, .int .i64 (T : Int), .slice A2 n2 c2, .slice A3 n3 c3, .slice A4 n4 c4]) S (T : Int) L P E x0 ⟨_, _, _, _, _, _, _, _, _, rfl, (h2.below bx (Nat.le_refl _)).more bx.size, (h3.below bx (Nat.le_refl _)).more bx.size, (h4.below bx (Nat.le_refl _)).more bx.size⟩ (by omega) (by omega) (by omega)
  rw [v1] at V
  have V := Lib.hid V
  have W1 : Hid (∀ w, Calls Try.prog 39 #[.int .i64 (m : Int), .int .i64 0, .int .i64 5] w fun e w' => e = .returned (.bool true) ∧ w = w') := fun w => by
    have e : inB (m : Int) 0 5 = true := by simp [inB]; omega
    have := iIn_any (m : Int) 0 5 w; rw [e] at this; exact this
  have W2 : Hid (∀ w, Calls Try.prog 39 #[.int .i64 (cnt : Int), .int .i64 1, .int .i64 64] w fun e w' => e = .returned (.bool true) ∧ w = w') := fun w => by
    have e : inB (cnt : Int) 1 64 = true := by simp [inB]; omega
    have := iIn_any (cnt : Int) 1 64 w; rw [e] at this; exact this
  have CU := Lib.hid (fun w => iWu_any T m hT1.1 hT1.2 hm w)
  have CO := Lib.hid (fun (A : Option Addr) (n c : Nat) (xs : List Int) (y : World) (hb : Below w.heap.size w y) (hx : SlI y y.heap.size A n xs) (hn : n ≤ 1000000) => iCostOf0_any (.agg #[.int .i64 S, .int .i64 (T : Int), .slice A2 n2 c2, .slice A3 n3 c3, .slice A4 n4 c4]) S (T : Int) L P E A n c xs y ⟨_, _, _, _, _, _, _, _, _, rfl, (h2.below hb (Nat.le_refl _)).more hb.size, (h3.below hb (Nat.le_refl _)).more hb.size, (h4.below hb (Nat.le_refl _)).more hb.size⟩ hx q1 q2 q3 q4 q5 (by omega) (by omega) hn)
  have RB := Lib.hid rb; have BX := Lib.hid bx; have HX0 := Lib.hid hx0
  have HSX := Lib.hid hsx
  have HT4 := Lib.hid hT1; have HM5 := Lib.hid hm; have HC1 := Lib.hid hc; have HC64 := Lib.hid hc2
  obtain ⟨W, hW⟩ : ∃ W, W = wlU T m := ⟨_, rfl⟩
  have HW := Lib.hid hW
  rw [← hW] at CU
  have HWL : Hid (W.length ≤ 6144) := by show _ ≤ _; rw [hW]; exact wlU_len hT1.2 hm
  clear h2 h3 h4 v1 rb bx hsx hT1 hm hc hc2 q1 q2 q3 q4 q5 q6 q7 q8 q9 q10 e2 e3 e4 hW hx0
  go_enter Try.func11, Try.ntmps11
  go_upto_region 1 with fail
  change Code.wp _ _ _ _ (w.alloc (.cells (BxM S (T : Int) A2 n2 c2 A3 n3 c3 A4 n4 c4).toArray 28))
  rw [← HX0.out]
  have z0 : x0.cell? ⟨w.heap.size, 0, none⟩ = some (.int .i64 S) := RB.out.cell 0; have z1 : x0.cell? ⟨w.heap.size, 1, none⟩ = some (.int .i64 (T : Int)) := RB.out.cell 1; have z2 : x0.cell? ⟨w.heap.size, 2, none⟩ = some (.slice A2 n2 c2) := RB.out.cell 2; have z3 : x0.cell? ⟨w.heap.size, 3, none⟩ = some (.slice A3 n3 c3) := RB.out.cell 3; have z4 : x0.cell? ⟨w.heap.size, 4, none⟩ = some (.slice A4 n4 c4) := RB.out.cell 4
  go_upto_region 4 with (first
    | (go_at_call 28; refine V.out.mono ?_; rintro e w1 ⟨rfl, hb1⟩; have RB1 := Lib.hid (RB.out.below hb1 RB.out.lt); have BX1 := Lib.hid (BX.out.trans (hb1.mono BX.out.size)); have HS1 : Hid (w.heap.size < w1.heap.size) := Nat.lt_of_lt_of_le RB.out.lt hb1.size; clear hb1 z0 z1 z2 z3 z4)
    | (go_at_call 39; refine (W1.out _).mono ?_; rintro e w' ⟨rfl, hw⟩; obtain rfl := hw; clear W1)
    | (go_at_call 39; refine (W2.out _).mono ?_; rintro e w' ⟨rfl, hw⟩; obtain rfl := hw; clear W2))
  have ba : Below w1.heap.size w1 (w1.alloc (.cells #[] 68)) := (Below.refl _ _).alloc (Nat.le_refl _) _
  have hda : Dw (w1.alloc (.cells #[] 68)) w.heap.size w1.heap.size 0 [] := World.ownsRow_made w1 #[] 0 (Nat.le_of_lt HS1.out) (by unfold maxLen; omega) rfl
  have hsa : (w1.alloc (.cells #[] 68)).heap.size = w1.heap.size + 1 := by simp
  obtain ⟨wA, hwA⟩ : ∃ x, x = w1.alloc (.cells #[] 68) := ⟨_, rfl⟩
  change Code.wp _ _ _ _ (w1.alloc (.cells #[] 68))
  rw [← hwA] at ba hda hsa ⊢
  obtain ⟨g0, hg0⟩ : ∃ g, g = w1.heap.size := ⟨_, rfl⟩
  rw [← hg0] at hda hsa ⊢
  have HDA := Lib.hid hda; have HSA := Lib.hid hsa; have HG0 : Hid (w.heap.size < g0) := by show _ < _; rw [hg0]; exact HS1.out
  have RBA := Lib.hid (RB1.out.below ba HS1.out)
  have BXA := Lib.hid (BX1.out.trans (ba.mono (Nat.le_of_lt HS1.out)))
  clear hwA ba hda hsa hg0 RB RB1 BX BX1 HS1 HX0 HSX V
  have z0 : wA.cell? ⟨w.heap.size, 0, none⟩ = some (.int .i64 S) := RBA.out.cell 0; have z1 : wA.cell? ⟨w.heap.size, 1, none⟩ = some (.int .i64 (T : Int)) := RBA.out.cell 1; have z2 : wA.cell? ⟨w.heap.size, 2, none⟩ = some (.slice A2 n2 c2) := RBA.out.cell 2; have z3 : wA.cell? ⟨w.heap.size, 3, none⟩ = some (.slice A3 n3 c3) := RBA.out.cell 3; have z4 : wA.cell? ⟨w.heap.size, 4, none⟩ = some (.slice A4 n4 c4) := RBA.out.cell 4
  go_wp2_with (first
    | (go_at_call 40; refine (CU.out _).mono ?_; rintro e w2 ⟨gw, cw, rfl, ⟨BW, h5⟩, h6⟩; have HTB := Lib.hid h5; have HB2 := Lib.hid h6; clear h5 h6 z0 z1 z2 z3 z4))
  obtain ⟨bs, hbs⟩ : ∃ b, b = wA.heap.size := ⟨_, rfl⟩
  rw [← hbs] at HTB HB2
  have HBS : Hid (g0 < bs ∧ bs ≤ w2.heap.size ∧ bs = wA.heap.size) := ⟨by rw [hbs, HSA.out]; omega, by have := HB2.out.size; omega, hbs⟩
  have HDB : Hid (Dw w2 w.heap.size g0 0 []) := HDA.out.keep HB2.out (by omega)
  have RB2 := Lib.hid (RBA.out.below HB2.out (by have := RBA.out.lt; omega))
  have BX2 : Hid (Below w.heap.size w w2) := BXA.out.trans (HB2.out.mono (by have := HG0.out; have := HBS.out; omega))
  clear hbs RBA BXA HDA HSA HB2
  go_loopg [9, 36] W.length (fun q tl ti wr => ∃ (i g cap : Nat) (D : List Ce) (C : List (Ce × List Int)), tl = .slice (some ⟨g, 0, none⟩) D.length cap ∧ ti = .int .i64 (i : Int) ∧ Hid (i ≤ W.length ∧ W.length ≤ q + i ∧ D.length ≤ i) ∧ Hid (D = C.map Prod.fst) ∧ Hid (Dw wr w.heap.size g cap D) ∧ Hid (∀ p ∈ C, RdC w2 bs p) ∧ Hid (C.map (fun p => (p.2, p.1.c)) = (W.take i).filterMap (cfW 1099511627776 L P E)) ∧ Hid ((C.map fun p => blkA p.1.A).Nodup ∧ ∀ p ∈ C, ∃ j, j < i ∧ BW[j]? = some (blkA p.1.A)) ∧ Hid (g = g0 ∨ w2.heap.size ≤ g) ∧ Hid (Lo w2.heap.size g0 w2 wr))
  case atStart =>
    refine ⟨0, g0, 0, [], [], rfl, rfl, ?_, rfl, HDB.out, ?_, ?_, ?_, Or.inl rfl, Lo.refl _ _ _⟩
    · show _ ∧ _; simp
    · show ∀ p ∈ [], _; intro p hp; cases hp
    · show _ = _; simp
    · exact ⟨List.nodup_nil, fun p hp => by cases hp⟩
  case round =>
    obtain ⟨wo, rfl⟩ : ∃ z : World, z = wr := ⟨_, rfl⟩
    obtain ⟨i, g, cap, D, C, rfl, rfl, EI, ED, HDW, HRD, HCM, HND, HGG, HL⟩ := hrel
    obtain ⟨go, hgo⟩ : ∃ z : Nat, z = gk := ⟨_, rfl⟩
    clear HDB
    by_cases hlt : i < W.length
    · obtain ⟨x, hx⟩ : ∃ x, W[i]? = some x := ⟨_, List.getElem?_eq_getElem hlt⟩
      obtain ⟨gt, ct, gr, cr, mr, e, -, hgt1, hgt2, hc0, hrc, hgr1, hgr2, -, hBi, hrm, hrn, hcells⟩ := HTB.out.at_ hx
      injection e with e e8 e9
      clear e8 e9
      injection e with e
      injection e with e e8 e9
      clear e8 e9
      subst e
      have hbs := HBS.out
      have kb : ∀ k, k < w2.heap.size → bs ≤ k → wo.heap[k]? = w2.heap[k]? := fun k h1 h2 => HL.out.2.2.2.2 k h1 (by omega)
      have c0 : wo.cell? ⟨gw, i, none⟩ = some (.slice (some ⟨gr, 0, none⟩) x.length cr) := (World.cell?_of_block (a := ⟨gw, i, none⟩) (kb gw hgt2 hgt1)).trans hc0
      have hsl : SlI wo wo.heap.size (some ⟨gr, 0, none⟩) x.length x := slI_cells2 (Nat.lt_of_lt_of_le hgr2 HL.out.2.2.2.1) (fun k u hu => (World.cell?_of_block (a := ⟨gr, k, none⟩) (kb gr hgr2 hgr1)).trans (hcells k u hu))
      have hxl : x.length ≤ 5 := by
        have hmem := List.mem_of_getElem? hx
        rw [HW.out] at hmem
        obtain ⟨n, hn1, hn2⟩ := List.mem_flatMap.1 hmem
        have := (wlN_word hn2).1; have := List.mem_range.1 hn1; have := HM5.out; omega
      have hbw : Below w.heap.size w wo := BX2.out.trans (HL.out.bel (by have := HG0.out; omega) (Nat.le_of_lt HG0.out))
      have CC := Lib.hid (CO.out (some ⟨gr, 0, none⟩) x.length cr x wo hbw hsl (by omega))
      have RBO := Lib.hid (HL.out.row RB2.out RB2.out.lt (by have := HG0.out; omega))
      obtain ⟨cv, hcv⟩ : ∃ cv, cv = coV 1099511627776 L P E x := ⟨_, rfl⟩
      rw [← hcv] at CC
      have HCV := Lib.hid hcv
      have HRN : Hid (∀ cv', RdC w2 bs (⟨some ⟨gr, 0, none⟩, x.length, cr, cv'⟩, x)) := fun cv' => ⟨gr, rfl, rfl, hrc, hgr1, hgr2, hcells, mr, hrm, hrn⟩
      have HBI := Lib.hid hBi
      have HNB : Hid (∀ p ∈ C, blkA p.1.A ≠ gr) := fun p hp e => by
        obtain ⟨j, hj, hjb⟩ := HND.out.2 p hp
        rw [e] at hjb
        have := nodup_at HTB.out.2.1 hjb hBi; omega
      have HTK : Hid ((W.take (i + 1)).filterMap (cfW 1099511627776 L P E) = (W.take i).filterMap (cfW 1099511627776 L P E) ++ (if 0 ≤ cv then [(x, cv)] else [])) := by
        obtain ⟨h1, h2⟩ := List.getElem?_eq_some_iff.1 hx
        show _ = _
        rw [List.take_succ_eq_append_getElem h1, List.filterMap_append, h2]
        unfold cfW
        simp only [List.filterMap_cons, List.filterMap_nil, ← hcv]
        split <;> simp_all
      have hwo : w.heap.size ≤ wo.heap.size := hbw.size
      have HS2 : Hid (w2.heap.size ≤ wo.heap.size) := HL.out.2.2.2.1
      have l1 : (i : Int) < (W.length : Int) := by omega
      have l2 : (0 : Int) ≤ (i : Int) := by omega
      have wi1 : IntKind.i64.wrap ((i : Int) + 1) = ((i + 1 : Nat) : Int) := by rw [IntWalk.i64_in _ (by have := HWL.out; omega)]; omega
      have HLT : Hid (i < W.length) := hlt
      have HLD : Hid (D.length + 1 ≤ 100000) := by show _ ≤ _; have := EI.out; have := HWL.out; omega
      have z0 : wo.cell? ⟨w.heap.size, 0, none⟩ = some (.int .i64 S) := RBO.out.cell 0; have z1 : wo.cell? ⟨w.heap.size, 1, none⟩ = some (.int .i64 (T : Int)) := RBO.out.cell 1; have z2 : wo.cell? ⟨w.heap.size, 2, none⟩ = some (.slice A2 n2 c2) := RBO.out.cell 2; have z3 : wo.cell? ⟨w.heap.size, 3, none⟩ = some (.slice A3 n3 c3) := RBO.out.cell 3; have z4 : wo.cell? ⟨w.heap.size, 4, none⟩ = some (.slice A4 n4 c4) := RBO.out.cell 4
      clear hx hgt1 hgt2 hc0 hrc hgr1 hgr2 hcells hBi hrm hrn hbs kb hsl hxl hbw hcv hlt
      by_cases hcp : 0 ≤ cv
      · have b0 : cv ≥ 0 := hcp
        go_wp2_with (first
          | (go_at_call 30; refine CC.out.mono ?_; rintro e w3 ⟨rfl, h3b⟩; have H3 := Lib.hid h3b; clear h3b z0 z1 z2 z3 z4)
          | (at_builtin; refine wpList_ce_push w3 rfl (.tmp 45) (.tmp 49) _ rfl Try.underlying65 w.heap.size g cap D rfl (HDW.out.keep H3.out (Nat.le_refl _)) ⟨some ⟨gr, 0, none⟩, x.length, cr, cv⟩ rfl HLD.out (Nat.le_trans hwo H3.out.size) ?_; intro g7 c7 w7 hd hgr hat; have HD7 := Lib.hid hd; have HG7 := Lib.hid hgr; have HA7 := Lib.hid hat; clear hd hgr hat))
        go_roundg (gk - 1)
        case measure => have := EI.out; have := HLT.out; omega
        case rel =>
          have hl3 : Lo w2.heap.size g0 w2 w3 := HL.out.trans (Lo.below H3.out HS2.out)
          refine ⟨i + 1, g7, c7, D ++ [(⟨some ⟨gr, 0, none⟩, x.length, cr, cv⟩ : Ce)], C ++ [((⟨some ⟨gr, 0, none⟩, x.length, cr, cv⟩ : Ce), x)], by simp, by go_num, ?_, ?_, HD7.out, ?_, ?_, ?_, ?_, hl3.trans (Lo.grown2 HG7.out HGG.out (Nat.le_trans HS2.out H3.out.size))⟩
          · show _ ∧ _; have := EI.out; have := HLT.out; simp; omega
          · show _ = _; rw [ED.out]; simp
          · show ∀ p ∈ _, _
            intro p hp
            rcases List.mem_append.1 hp with hp | hp
            · exact HRD.out p hp
            · rw [List.mem_singleton.1 hp]; exact HRN.out cv
          · show _ = _
            rw [HTK.out, if_pos hcp, List.map_append, HCM.out]; rfl
          · refine ⟨?_, fun p hp => ?_⟩
            · rw [List.map_append, List.nodup_append]
              refine ⟨HND.out.1, by simp, fun a ha b hb => ?_⟩
              obtain ⟨p, hp, rfl⟩ := List.mem_map.1 ha
              rw [show b = gr by simpa [blkA] using hb]
              exact HNB.out p hp
            · rcases List.mem_append.1 hp with hp | hp
              · obtain ⟨j, h1, h2⟩ := HND.out.2 p hp
                exact ⟨j, by omega, h2⟩
              · rw [List.mem_singleton.1 hp]
                exact ⟨i, by omega, HBI.out⟩
          · have h1 := HA7.out; have h2 := HGG.out; have h3 := HS2.out; have h4 := H3.out.size
            show _ ∨ _; omega
      · have b0 : ¬ cv ≥ 0 := hcp
        go_wp2_with (first
          | (go_at_call 30; refine CC.out.mono ?_; rintro e w3 ⟨rfl, h3b⟩; have H3 := Lib.hid h3b; clear h3b z0 z1 z2 z3 z4))
        go_roundg (gk - 1)
        case measure => have := EI.out; have := HLT.out; omega
        case rel =>
          have hl3 : Lo w2.heap.size g0 w2 w3 := HL.out.trans (Lo.below H3.out HS2.out)
          refine ⟨i + 1, g, cap, D, C, rfl, by go_num, ?_, ED.out, HDW.out.keep H3.out (Nat.le_refl _), HRD.out, ?_, ⟨HND.out.1, fun p hp => (HND.out.2 p hp).elim fun j h => ⟨j, by omega, h.2⟩⟩, HGG.out, hl3⟩
          · show _ ∧ _; have := EI.out; have := HLT.out; omega
          · show _ = _
            rw [HTK.out, if_neg (by omega), HCM.out, List.append_nil]
    · have hiW : i = W.length := by have := EI.out; omega
      have l1 : ¬ (i : Int) < (W.length : Int) := by omega
      have HDL : Hid (D.length ≤ 6144) := by show _ ≤ _; have := EI.out; have := HWL.out; omega
      have SO := sortS_any D w.heap.size g cap D.length wo rfl HDW.out (by have := HDL.out; omega)
      unfold cmpV at SO
      have SO := Lib.hid SO
      have HCM2 : Hid (C.map (fun p => (p.2, p.1.c)) = (wlU T m).filterMap (cfW 1099511627776 L P E)) := by
        show _ = _; rw [HCM.out, hiW, List.take_length, HW.out]
      clear hiW hlt
      go_upto_region 12 with (first
        | (go_at_call 41; refine SO.out.mono ?_; rintro e w5 ⟨rfl, M, hd5, hl5, hs5, hb5⟩; have HML : Hid (M.length = D.length) := hb5.len; have HD5 := Lib.hid hd5; have HL5 := Lib.hid hl5; have HSR := Lib.hid (srtK_is hs5 hb5); clear hd5 hl5 hs5 hb5))
      obtain ⟨n, hn⟩ : ∃ n, n = min D.length cnt := ⟨_, rfl⟩
      have hmin := min_run Try.prog D.length cnt n hn
      obtain ⟨CS, hCS⟩ : ∃ CS, CS = (srtK (fun p : Ce × List Int => p.1.c) C).take n := ⟨_, rfl⟩
      have hM1 : M = (srtK (fun p : Ce × List Int => p.1.c) C).map Prod.fst := by
        rw [HSR.out, ED.out]; exact (srtK_map Prod.fst (fun e : Ce => e.c) C).symm
      have hCL : (srtK (fun p : Ce × List Int => p.1.c) C).length = D.length := by rw [srtK_len, ED.out, List.length_map]
      have hCSn : CS.length = n := by rw [hCS, List.length_take, hCL]; omega
      have HMAT : Hid (∀ (j : Nat) (p : Ce × List Int), CS[j]? = some p → M[j]? = some p.1) := fun j p hp => by
        have hj := (List.getElem?_eq_some_iff.1 hp).1
        rw [hCS, List.getElem?_take_of_lt (by omega)] at hp
        rw [hM1, List.getElem?_map, hp]; rfl
      have HR : Hid (CS.map (fun p => (p.2, p.1.c)) = bwsL 1099511627776 T m cnt L P E) := by
        show _ = _
        unfold bwsL
        rw [← HCM2.out, ← srtK_map (fun p : Ce × List Int => (p.2, p.1.c)) Prod.snd C, ← List.map_take, hCS]
        have h9 : (srtK (fun p : Ce × List Int => p.1.c) C).take n = (srtK (fun p : Ce × List Int => p.1.c) C).take cnt := by
          rcases Nat.le_total D.length cnt with h | h
          · rw [show n = D.length by omega, List.take_of_length_le (by omega), List.take_of_length_le (by omega)]
          · rw [show n = cnt by omega]
        rw [h9]
      have HRC : Hid (∀ p ∈ CS, RdC w2 bs p) := fun p hp => HRD.out p (srtK_mem C (List.mem_of_mem_take (by rw [← hCS]; exact hp)))
      have HNC2 : Hid ((CS.map fun p => blkA p.1.A).Nodup) := by
        show List.Nodup _
        rw [hCS, List.map_take]
        exact ((((srtK_perm (fun p : Ce × List Int => p.1.c) C).map fun p => blkA p.1.A).nodup_iff).2 HND.out.1).sublist (List.take_sublist _ _)
      have HLA : Hid (Lo w2.heap.size g0 w2 w5) := HL.out.trans (HL5.out.other HGG.out HL.out.2.2.2.1)
      have HB5 : Hid (Below w.heap.size w w5) := BX2.out.trans (HLA.out.bel (by have := BX2.out.size; omega) (Nat.le_of_lt HG0.out))
      have hcap : D.length ≤ cap := by
        obtain ⟨A9, c9, e9, h9, -⟩ := own_form HDW.out
        injection e9 with _ _ e9
        omega
      have HCSN := Lib.hid hCSn
      have HNC : Hid (n ≤ cnt ∧ n ≤ D.length ∧ n ≤ 6144) := by show _ ∧ _; have := HDL.out; omega
      have f1 : n ≤ cap := by omega
      have f2 : (n : Int) ≤ (cap : Int) := by omega
      have f3 : (0 : Int) ≤ (n : Int) := by omega
      have f4 : (n : Int).toNat = n := by omega
      have HGL := Lib.hid HD5.out.lt
      clear hn hCS hM1 hCL hCSn hcap HL HDW HSR HCM HND HCM2 SO HL5 EI ED HRD l1 HTB RB2 CO CU HDL
      go_wp2_with fail
      clear f1 f2 f3 f4 hmin
      go_loopg [13, 14, 63] n (fun q tw tc tj wr => ∃ (j ga ca gb cb : Nat) (Wd : List Value) (Cd : List Int), tw = .slice (some ⟨ga, 0, none⟩) Wd.length ca ∧ tc = .slice (some ⟨gb, 0, none⟩) Cd.length cb ∧ tj = .int .i64 (j : Int) ∧ Hid (j ≤ n ∧ n ≤ q + j ∧ Wd.length = j ∧ Cd.length = j) ∧ Hid (Wd = (CS.take j).map fun p => Value.slice p.1.A p.1.n p.1.k) ∧ Hid (Cd = (CS.take j).map (fun p => p.1.c)) ∧ Hid (wr.ownsRow w5.heap.size 26 1 (.slice (some ⟨ga, 0, none⟩) Wd.length ca) Wd.length Wd) ∧ Hid (RowI wr w5.heap.size 2 (.slice (some ⟨gb, 0, none⟩) Cd.length cb) Cd) ∧ Hid (ga ≠ gb) ∧ Hid (Below w5.heap.size w5 wr))
      case atStart =>
        refine ⟨0, w5.heap.size, 0, w5.heap.size + 1, 0, [], [], rfl, rfl, rfl, ?_, rfl, rfl, ?_, ?_, ?_, ?_⟩
        · show _ ∧ _; simp
        · have h : (w5.alloc (.cells #[] 26)).ownsRow w5.heap.size 26 1 (.slice (some ⟨w5.heap.size, 0, none⟩) 0 0) 0 [] := World.ownsRow_made w5 #[] 0 (Nat.le_refl _) (by unfold maxLen; omega) rfl
          exact World.ownsRow.alloc h _
        · have h := RowI.made (w5.alloc (.cells #[] 26)) w5.heap.size 2 (by simp)
          rw [show (w5.alloc (.cells #[] 26)).heap.size = w5.heap.size + 1 by simp] at h
          exact h
        · show _ ≠ _; omega
        · exact ((Below.refl _ _).alloc (Nat.le_refl _) _).alloc (by simp) _
      case round =>
        obtain ⟨wo, rfl⟩ : ∃ z : World, z = wr := ⟨_, rfl⟩
        obtain ⟨j, ga, ca, gb, cb, Wd, Cd, rfl, rfl, rfl, EJ, EW, EC, HTW, HTC, HNE, HBW⟩ := hrel
        by_cases hlj : j < n
        · obtain ⟨p, hp⟩ : ∃ p, CS[j]? = some p := ⟨_, List.getElem?_eq_getElem (by rw [HCSN.out]; exact hlj)⟩
          obtain ⟨gr, r1, r2, r3, r4, r5, r6, -⟩ := HRC.out p (List.mem_of_getElem? hp)
          obtain ⟨⟨c1, c2⟩, -, -⟩ := (HD5.out.keep HBW.out (Nat.le_refl _)).at (HMAT.out j p hp)
          have HVP : Hid (Value.slice p.1.A p.1.n p.1.k = .slice (some ⟨gr, 0, none⟩) p.2.length p.1.k) := by show _ = _; rw [r1, r2]
          rw [r1, r2] at c1
          obtain ⟨pk, hpk⟩ : ∃ k, k = p.1.k := ⟨_, rfl⟩
          obtain ⟨pc, hpc⟩ : ∃ c, c = p.1.c := ⟨_, rfl⟩
          rw [← hpk] at c1 r3 HVP
          rw [← hpc] at c2
          have l1 : (j : Int) < (n : Int) := by omega
          have l2 : (0 : Int) ≤ (j : Int) := by omega
          have wi1 : IntKind.i64.wrap ((j : Int) + 1) = ((j + 1 : Nat) : Int) := by rw [IntWalk.i64_in _ (by have := HNC.out; omega)]; omega
          have HLT : Hid (j < n) := hlj
          have HTK : Hid (CS.take (j + 1) = CS.take j ++ [p]) := by
            obtain ⟨h1, h2⟩ := List.getElem?_eq_some_iff.1 hp
            show _ = _; rw [List.take_succ_eq_append_getElem h1, h2]
          have HPC := Lib.hid hpc; have HPK := Lib.hid hpk
          clear hp hpk hpc r1 r2 r3 r4 r5 r6 hlj
          go_upto_region 16 with fail
          clear c1 c2 l1 l2
          have rx := Row.new wo 68 [.slice (some ⟨gr, 0, none⟩) p.2.length pk, .int .i64 pc]
          have bx : Below wo.heap.size wo (wo.alloc (.cells #[.slice (some ⟨gr, 0, none⟩) p.2.length pk, .int .i64 pc] 68)) := (Below.refl _ _).alloc (Nat.le_refl _) _
          obtain ⟨wx, hwx⟩ : ∃ x, x = wo.alloc (.cells #[.slice (some ⟨gr, 0, none⟩) p.2.length pk, .int .i64 pc] 68) := ⟨_, rfl⟩
          change Row (wo.alloc (.cells #[.slice (some ⟨gr, 0, none⟩) p.2.length pk, .int .i64 pc] 68)) _ _ _ at rx
          rw [← hwx] at rx bx ⊢
          have RX := Lib.hid rx; have BX := Lib.hid bx
          have y0 : wx.cell? ⟨wo.heap.size, 0, none⟩ = some (.slice (some ⟨gr, 0, none⟩) p.2.length pk) := rx.cell 0
          have hso : w5.heap.size ≤ wo.heap.size := HBW.out.size
          have HSX : Hid (w5.heap.size ≤ wx.heap.size) := Nat.le_trans hso bx.size
          have HGA : Hid (w5.heap.size ≤ ga ∧ ga < wo.heap.size) := HTW.out.lt ga rfl
          have HGB : Hid (w5.heap.size ≤ gb ∧ gb < wo.heap.size) := World.ownsRow.lt HTC.out gb rfl
          have HTW1 : Hid (wx.ownsRow w5.heap.size 26 1 (.slice (some ⟨ga, 0, none⟩) Wd.length ca) Wd.length Wd) := own_move HTW.out (fun k hk => bx.block k (HTW.out.lt k hk).2)
          have HL1 : Hid (Wd.length + 1 ≤ 4294967296 ∧ Cd.length + 1 ≤ 4294967296) := by show _ ∧ _; have := EJ.out; have := HNC.out; omega
          have HBX5 : Hid (Below w5.heap.size w5 wx) := HBW.out.trans (bx.mono hso)
          clear hwx rx bx hso
          go_upto_region 17 with (first
            | (at_builtin; refine wpList_push wx rfl (.tmp 67) (.tmp 70) _ rfl w5.heap.size 26 (.slice none 0 0) 24 Try.underlying35 infoWo rfl (.slice (some ⟨ga, 0, none⟩) Wd.length ca) Wd.length Wd rfl HTW1.out (.slice (some ⟨gr, 0, none⟩) p.2.length pk) rfl rfl HL1.out.1 (by omega) HSX.out ?_; intro g7 c7 w7 hown hgr hat hlt7 hcap7; have HO7 := Lib.hid hown; have HG7 := Lib.hid hgr; have HA7 := Lib.hid hat; clear hown hgr hat hlt7 hcap7 y0))
          have y1 : w7.cell? ⟨wo.heap.size, 1, none⟩ = some (.int .i64 pc) := HG7.out.cell (RX.out.cell 1) (by have := HGA.out; simp [Value.ownBlock]; omega)
          have HTC7 : Hid (RowI w7 w5.heap.size 2 (.slice (some ⟨gb, 0, none⟩) Cd.length cb) Cd) := by
            refine own_move (own_move HTC.out (fun k hk => BX.out.block k (World.ownsRow.lt HTC.out k hk).2)) (fun k hk => ?_)
            have hk2 : k = gb := by simp [Value.ownBlock] at hk; exact hk.symm
            subst hk2
            exact HG7.out.block k (by have := HGB.out; have := BX.out.size; omega) (by have := HNE.out; simp [Value.ownBlock]; omega)
          have HS7 : Hid (w5.heap.size ≤ w7.heap.size) := Nat.le_trans HSX.out HG7.out.size
          go_wp2_with (first
            | (at_builtin; refine wpList_int_push w7 rfl (.tmp 72) (.tmp 75) _ rfl w5.heap.size 2 Try.underlying26 infoW6 (.slice (some ⟨gb, 0, none⟩) Cd.length cb) Cd rfl HTC7.out pc rfl HL1.out.2 HS7.out ?_; intro g8 c8 w8 hown hbl hat hgr; have HO8 := Lib.hid hown; have HG8 := Lib.hid hgr; have HA8 := Lib.hid hat; clear hown hgr hat hbl y1))
          go_roundg (gk - 1)
          case measure => have := EJ.out; have := HLT.out; omega
          case rel =>
            have hga := HGA.out; have hgb := HGB.out; have hne := HNE.out; have hbx := BX.out.size; have h7 := HG7.out.size
            have a7 : g7 = ga ∨ wx.heap.size ≤ g7 := by
              have h := HA7.out; simp [Value.ownBlock] at h; omega
            have a8 : g8 = gb ∨ w7.heap.size ≤ g8 := by
              have h := HA8.out; simp [Value.ownBlock] at h; omega
            have l7 := HO7.out.lt g7 rfl
            refine ⟨j + 1, g7, c7, g8, c8, Wd ++ [.slice (some ⟨gr, 0, none⟩) p.2.length pk], Cd ++ [pc], by simp, by simp, by go_num, ?_, ?_, ?_, ?_, ?_, ?_, ?_⟩
            · show _ ∧ _; have := EJ.out; have := HLT.out; simp; omega
            · show _ = _; rw [HTK.out, List.map_append, EW.out]; simp only [List.map_cons, List.map_nil]; rw [← HPK.out, HVP.out]
            · show _ = _; rw [HTK.out, List.map_append, EC.out, HPC.out]; rfl
            · show World.ownsRow _ _ _ _ _ _ _
              rw [List.length_append]
              refine own_move HO7.out (fun k hk => ?_)
              have hk2 : k = g7 := by simp [Value.ownBlock] at hk; exact hk.symm
              subst hk2
              exact HG8.out.block k l7.2 (by simp [Value.ownBlock]; omega)
            · show RowI _ _ _ _ _
              rw [List.length_append]; exact HO8.out
            · show _ ≠ _; omega
            · have b7 : Below w5.heap.size wx w7 := (Below.refl _ wx).grown HG7.out HSX.out (fun k hk => by simp [Value.ownBlock] at hk; omega)
              have b8 : Below w5.heap.size w7 w8 := (Below.refl _ w7).grown HG8.out HS7.out (fun k hk => by simp [Value.ownBlock] at hk; omega)
              exact (HBX5.out.trans b7).trans b8
        · have hjn : j = n := by have := EJ.out; omega
          have l1 : ¬ (j : Int) < (n : Int) := by omega
          have HJN := Lib.hid hjn
          clear hlj hjn
          go_wp2_with fail
          go_ret3
          have hj := EJ.out; have hjn := HJN.out; have hcn := HCSN.out
          have htk : CS.take j = CS := List.take_of_length_le (by omega)
          have eR : (CS.map fun p => (p.2, p.1.c)).length = n := by rw [List.length_map]; exact hcn
          have eW : Wd.length = (CS.map fun p => (p.2, p.1.c)).length := by omega
          have eC : Cd.length = (CS.map fun p => (p.2, p.1.c)).length := by omega
          have hlw : ∀ k, k < w2.heap.size → bs ≤ k → wo.heap[k]? = w2.heap[k]? := fun k h1 h2 => by
            have hbs := HBS.out
            have h3 := HLA.out.2.2.2.2 k h1 (by omega)
            exact (HBW.out.block k (Nat.lt_of_lt_of_le h1 HLA.out.2.2.2.1)).trans h3
          have hs25 := HLA.out.2.2.2.1
          have hs5o := HBW.out.size
          have hw2 := HB5.out.size
          rw [← HR.out]
          refine ⟨ga, ca, gb, cb, ?_, CS.map (fun p => blkA p.1.A), ?_, ?_, HNE.out, ?_, HB5.out.trans (HBW.out.mono hw2)⟩
          · rw [← eW]; rw [eW, ← eC]; rfl
          · rw [List.map_map]
            refine ⟨by rw [List.length_map, List.length_map], HNC2.out, Wd, ?_, fun q r g hq hg => ?_⟩
            · have h := HTW.out
              rw [← eW]
              have e : ((CS.map (Prod.fst ∘ fun p : Ce × List Int => (p.2, p.1.c)))).length = Wd.length := by rw [List.length_map, eW, List.length_map]
              rw [e]
              exact World.ownsRow.mono h hw2
            · rw [List.getElem?_map] at hq hg
              obtain ⟨p, hp, hpr⟩ := Option.map_eq_some_iff.1 hq
              rw [hp] at hg
              obtain ⟨gr, r1, r2, r3, r4, r5, r6, mr, r7, r8⟩ := HRC.out p (List.mem_of_getElem? hp)
              have hpr' : p.2 = r := hpr
              subst hpr'
              have hgg : gr = g := by have h : blkA p.1.A = g := Option.some.inj hg; rw [r1] at h; exact h
              subst hgg
              have hga := HTW.out.lt ga rfl
              refine ⟨p.1.k, mr, ?_, ?_, by omega, ?_, r3, r7, r8.move (hlw gr r5 r4), fun k x hx => (World.cell?_of_block (a := ⟨gr, k, none⟩) (hlw gr r5 r4)).trans (r6 k x hx)⟩
              · rw [EW.out, htk, List.getElem?_map, hp]
                show some (Value.slice p.1.A p.1.n p.1.k) = _
                rw [r1, r2]
              · have := HBS.out; have := HG0.out; omega
              · simp [Value.ownBlock]; omega
          · rw [List.map_map]
            have h := HTC.out
            have e : CS.map (Prod.snd ∘ fun p : Ce × List Int => (p.2, p.1.c)) = Cd := by rw [EC.out, htk]; rfl
            rw [e, ← eC]
            exact World.ownsRow.mono h hw2
          · intro hgb
            obtain ⟨p, hp, hpe⟩ := List.mem_map.1 hgb
            obtain ⟨gr, r1, r2, r3, r4, r5, -⟩ := HRC.out p hp
            rw [r1] at hpe
            have h1 : gr = gb := hpe
            have h2 := (World.ownsRow.lt HTC.out gb rfl).1
            omega
end Go.Proofs.Ytedbngnkkfpbeaa
