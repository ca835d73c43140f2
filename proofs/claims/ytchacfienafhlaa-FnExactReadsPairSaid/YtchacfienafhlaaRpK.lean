/- ReadsPair of the reference: the search, walked. -/
import Derived.Test.YtchacfienafhlaaRpJ
import Derived.Deep.DeepCutAuto
namespace Go.Proofs.Ytchacfienafhlaa
open Go.RowKit
set_option linter.unusedVariables false
/-- How a word goes on. -/
def sdI (xs : List Int) (k : Nat) (l : Int) : Int := match pss xs k l with | some i => (i : Int) | none => -1
theorem sdI_neg (xs : List Int) (k : Nat) (l : Int) (h : l < 0) : sdI xs k l = k := by unfold sdI; rw [pss_neg h]
theorem sdI_some {xs : List Int} {k i : Nat} {l : Int} (h : pss xs k l = some i) : sdI xs k l = i := by unfold sdI; rw [h]
theorem sdI_none {xs : List Int} {k : Nat} {l : Int} (h : pss xs k l = none) : sdI xs k l = -1 := by unfold sdI; rw [h]
theorem sdI_cases (xs : List Int) (k : Nat) (l : Int) : (sdI xs k l < 0 ∧ pss xs k l = none) ∨ ∃ i : Nat, sdI xs k l = i ∧ pss xs k l = some i := by
  cases h : pss xs k l with
  | none => exact .inl ⟨by rw [sdI_none h]; omega, rfl⟩
  | some i => exact .inr ⟨i, sdI_some h, rfl⟩
set_option maxHeartbeats 1000000 in
theorem sSide_any (A : Option Addr) (n c : Nat) (xs : List Int) (k : Nat) (l : Int) (w : World) (h : SlI w w.heap.size A n xs) (hk : k ≤ n) (hn : n ≤ 1000000) :
    Calls Try.prog 79 #[.slice A n c, .int .i64 k, .int .i64 l] w fun e w' => e = .returned (.int .i64 (sdI xs k l)) ∧ w = w' := by
  have hl := Lib.hid h.len
  by_cases hlt : l < 0
  · have HE := Lib.hid (sdI_neg xs k l hlt)
    go_enter Try.func79, Try.ntmps79
    go_wp2
    go_ret
    exact ⟨ret_int HE.out.symm, rfl⟩
  · have HL := Lib.hid hlt
    have hl0 : (0 : Int) ≤ l := by omega
    clear hlt
    by_cases hkn : k < n
    · obtain ⟨b, off, x, rfl, _, hx, hc⟩ := h.at_ hkn
      have l1 : (0 : Int) ≤ (k : Int) := by omega
      have l2 : (k : Int) < (n : Int) := by omega
      by_cases hq : x = l
      · have q1 : (x == l) = true := by simp [hq]
        have HE := Lib.hid (sdI_some (pss_hit HL.out (by rw [← hq]; exact hx.out)))
        clear hq
        go_enter Try.func79, Try.ntmps79
        go_wp2
        go_ret
        exact ⟨ret_int (by rw [HE.out]; rfl), rfl⟩
      · have q1 : (x == l) = false := by simp [hq]
        have HE := Lib.hid (sdI_none (pss_miss (k := k) (xs := xs) HL.out (by rw [hx.out]; simpa using hq)))
        clear hq
        go_enter Try.func79, Try.ntmps79
        go_wp2
        go_ret
        exact ⟨ret_int HE.out.symm, rfl⟩
    · have HE := Lib.hid (sdI_none (pss_miss (k := k) (xs := xs) HL.out (by rw [List.getElem?_eq_none (by have := hl.out; omega)]; simp)))
      have l2 : (n : Int) ≤ (k : Int) := by omega
      go_enter Try.func79, Try.ntmps79
      go_wp2
      go_ret
      exact ⟨ret_int HE.out.symm, rfl⟩
theorem infoIn : (Try.prog.info? 3).map (fun i => (i.zero, i.size, i.bytes)) = some (some (.int .i64 0), 1, 8) := by kernel_rfl
/-- Which places have been seen, by their numbers. -/
def seenL (enc : P3 → Nat) (M : Nat) (ps : List P3) : List Value := (List.range M).map fun x => Value.bool (decide (x ∈ ps.map enc))
theorem seenL_len (enc : P3 → Nat) (M : Nat) (ps : List P3) : (seenL enc M ps).length = M := by simp [seenL]
theorem seenL_get {enc : P3 → Nat} {M : Nat} {ps : List P3} {x : Nat} (h : x < M) : (seenL enc M ps)[x]? = some (.bool (decide (x ∈ ps.map enc))) := by simp [seenL, h]
theorem seenL_nil (enc : P3 → Nat) (M : Nat) : seenL enc M [] = List.replicate M (.bool false) := by
  apply List.ext_getElem?
  intro i
  by_cases h : i < M
  · rw [seenL_get h, List.getElem?_replicate, if_pos h]; simp
  · rw [List.getElem?_eq_none (by rw [seenL_len]; omega), List.getElem?_eq_none (by simp; omega)]
theorem seenL_set {enc : P3 → Nat} {M : Nat} {ps : List P3} {q : P3} (h : enc q < M) : (seenL enc M ps).set (enc q) (.bool true) = seenL enc M (ps ++ [q]) := by
  apply List.ext_getElem?
  intro i
  by_cases hi : i < M
  · rw [seenL_get hi]
    by_cases e : enc q = i
    · subst e
      rw [List.getElem?_set_self (by rw [seenL_len]; exact h)]
      simp
    · rw [List.getElem?_set_ne e, seenL_get hi]
      congr 2
      simp only [List.map_append, List.mem_append, List.map_cons, List.map_nil, List.mem_singleton]
      rw [decide_eq_decide]
      exact ⟨.inl, fun h => h.elim id (fun h => absurd h.symm e)⟩
  · rw [List.getElem?_eq_none (by rw [List.length_set, seenL_len]; omega), List.getElem?_eq_none (by rw [seenL_len]; omega)]
def encI (enc : P3 → Nat) (ps : List P3) : List Int := ps.map fun p => (enc p : Int)
/-- The world of the search. -/
def RqW (w0 : World) (enc : P3 → Nat) (M gl cl : Nat) (ps qs : List P3) (w : World) : Prop :=
  RowI w (w0.heap.size + 1) 3 (.slice (some ⟨gl, 0, none⟩) ps.length cl) (encI enc ps) ∧ Row w w0.heap.size 4 (seenL enc M qs) ∧ Below w0.heap.size w0 w
section
variable {w0 w w' : World} {enc : P3 → Nat} {M gl cl : Nat} {ps qs : List P3}
theorem RqW.step (h : RqW w0 enc M gl cl ps qs w) (hb : Below w.heap.size w w') : RqW w0 enc M gl cl ps qs w' :=
  ⟨h.1.keep hb (Nat.le_refl _), h.2.1.below hb h.2.1.lt, h.2.2.trans (hb.mono h.2.2.size)⟩
theorem RqW.at_ (h : RqW w0 enc M gl cl ps qs w) {k : Nat} {p : P3} (hp : ps[k]? = some p) : w.cell? ⟨gl, k, none⟩ = some (.int .i64 (enc p : Int)) := by
  have := World.ownsRow.cells h.1 (g := gl) rfl k (.int .i64 (enc p : Int)) (by simp [iv, encI, hp])
  have ea : (⟨gl, 0, none⟩ : Addr).add k = ⟨gl, k, none⟩ := by unfold Addr.add; by_cases h : k = 0 <;> simp [h]
  rw [ea] at this
  exact this
theorem RqW.put (h : RqW w0 enc M gl cl ps qs w) {q : P3} (hq : enc q < M) : RqW w0 enc M gl cl ps (qs ++ [q]) (w.setCell ⟨w0.heap.size, enc q, none⟩ (.bool true)) := by
  refine ⟨?_, by rw [← seenL_set hq]; exact h.2.1.set_ _ _, h.2.2.setCell (Nat.le_refl _) _⟩
  refine own_move h.1 (fun g hg => Below.heap_setCell _ _ _ _ ?_)
  have := (World.ownsRow.lt h.1 g hg).1
  show g ≠ w0.heap.size
  omega
end
theorem enc_parts (wn cn pa pb st : Nat) (hb : pb < wn) (hr : pa * wn + pb < cn) (hd : wn ∣ cn) : (st * cn + pa * wn + pb) / cn = st ∧ (st * cn + pa * wn + pb) % cn = pa * wn + pb ∧ (pa * wn + pb) / wn = pa ∧ (st * cn + pa * wn + pb) % wn = pb := by
  have h0 : 0 < cn := by omega
  have h1 : 0 < wn := by omega
  refine ⟨?_, ?_, ?_, ?_⟩
  · rw [Nat.add_assoc, Nat.mul_comm st, Nat.mul_add_div h0, Nat.div_eq_of_lt hr, Nat.add_zero]
  · rw [Nat.add_assoc, Nat.mul_comm st, Nat.mul_add_mod, Nat.mod_eq_of_lt hr]
  · rw [Nat.mul_comm pa, Nat.mul_add_div h1, Nat.div_eq_of_lt hb, Nat.add_zero]
  · obtain ⟨d, rfl⟩ := hd
    rw [show st * (wn * d) + pa * wn + pb = wn * (st * d + pa) + pb from by rw [Nat.mul_add, Nat.mul_left_comm, Nat.mul_comm pa]]
    rw [Nat.mul_add_mod, Nat.mod_eq_of_lt hb]
theorem tdivN {a b c : Nat} (h : a / b = c) : (a : Int).tdiv (b : Int) = (c : Int) := by subst h; rfl
theorem tmodN {a b c : Nat} (h : a % b = c) : (a : Int).tmod (b : Int) = (c : Int) := by subst h; rfl
theorem encI_app (enc : P3 → Nat) (ps : List P3) (q : P3) : encI enc (ps ++ [q]) = encI enc ps ++ [(enc q : Int)] := by simp [encI]
theorem encI_len (enc : P3 → Nat) (ps : List P3) : (encI enc ps).length = ps.length := by simp [encI]
set_option maxRecDepth 100000 in
set_option maxHeartbeats 8000000 in
theorem sReadsP_any (gm : Nat) (S T : Int) (L : List A4) (E : List Bool) (A2 : Option Addr) (n2 c2 : Nat) (A3 : Option Addr) (n3 c3 : Nat) (A : Option Addr) (n c : Nat) (xs : List Int) (A' : Option Addr) (n' c' : Nat) (ys : List Int) (w : World) (hr : Row w gm 46 [.int .i64 S, .int .i64 T, .slice A2 n2 c2, .slice A3 n3 c3]) (h2 : SlA w w.heap.size A2 n2 L) (h3 : SlB w w.heap.size A3 n3 E) (hx : SlI w w.heap.size A n xs) (hy : SlI w w.heap.size A' n' ys) (hv : vsB S T L E = true) (hn : n ≤ 12) (hn' : n' ≤ 12) :
    Calls Try.prog 58 #[.pointer (some ⟨gm, 0, none⟩), .slice A n c, .slice A' n' c'] w fun e w' => e = .returned (.bool (rpS S L E xs ys)) ∧ Below w.heap.size w w' := by
  obtain ⟨qS, qT, qL, qE, qA⟩ := vsB_true hv
  have el := h2.len; have ee := h3.len; have ex := hx.len; have ey := hy.len
  subst ex ey
  obtain ⟨sN, rfl⟩ : ∃ s : Nat, S = (s : Int) := ⟨S.toNat, by omega⟩
  obtain ⟨cN, hcN⟩ : ∃ N, N = (xs.length + 1) * (ys.length + 1) := ⟨_, rfl⟩
  obtain ⟨N, hN⟩ : ∃ N, N = sN * cN := ⟨_, rfl⟩
  have hc1 : cN ≤ 169 := by rw [hcN]; exact Nat.mul_le_mul (show _ ≤ 13 by omega) (show _ ≤ 13 by omega)
  have hc0 : 0 < cN := by rw [hcN]; exact Nat.mul_pos (by omega) (by omega)
  have hN1 : N ≤ 1352 := by rw [hN]; exact Nat.mul_le_mul (show sN ≤ 8 by omega) hc1
  have hN0 : 0 < N := by rw [hN]; exact Nat.mul_pos (by omega) hc0
  have hR : rpS (sN : Int) L E xs ys = srch xs ys L E (N + 1) [(0, 0, 0)] 0 := by rw [hN, hcN]; rfl
  obtain ⟨enc, hen⟩ : ∃ f, f = encP (ys.length + 1) cN := ⟨_, rfl⟩
  have HENC : Hid (∀ a b s : Nat, enc (a, b, (s : Int)) = s * cN + a * (ys.length + 1) + b) := fun a b s => by rw [hen]; unfold encP; simp
  have HELT : Hid (∀ p, okP (sN : Int) xs ys p → enc p < N) := fun p hp => by
    have := encP_lt hp
    rw [hen, hN, hcN]
    simpa using this
  have HINJ : Hid (∀ p q, okP (sN : Int) xs ys p → okP (sN : Int) xs ys q → enc p = enc q → p = q) := fun p q hp hq h => by
    rw [hen, hcN] at h
    exact encP_inj hp hq h
  have HOKL : Hid (∀ a ∈ L, 0 ≤ a.2.1 ∧ a.2.1 < (sN : Int)) := fun a ha => by have := okA_bd (qA a ha); omega
  have HLEN : Hid (∀ ps, okL (sN : Int) xs ys ps → ps.length ≤ N) := fun ps hp => by have := okL_len hp; rw [hN, hcN]; simpa using this
  have m1 : ((xs.length : Int) + 1) * ((ys.length : Int) + 1) = (cN : Int) := by rw [hcN]; simp
  have m2 : (sN : Int) * (cN : Int) = (N : Int) := by rw [hN]; simp
  have HDV : Hid ((ys.length + 1) ∣ cN) := by show _ ∣ _; rw [hcN]; exact Nat.dvd_mul_left _ _
  have HCN := Lib.hid hcN
  have HRR := Lib.hid hR; clear hR hN qA hv hen hcN
  have hn2 : n2 ≤ 48 := by omega
  have H2 := Lib.hid h2; have H3 := Lib.hid h3; have HX := Lib.hid hx; have HY := Lib.hid hy; have HEL := Lib.hid el; have HEE := Lib.hid ee
  have HR := Lib.hid hr
  have hgm := hr.lt
  clear h2 h3 hx hy el ee
  have r0 := HR.out.cell 0
  have hmk := run_make_row' (P := Try.prog) 28 4 (.bool false) 1 Try.underlying28 infoBool rfl .i64 .i64 N (by omega) (by omega)
  have e00 : enc (0, 0, 0) = 0 := by have := HENC.out 0 0 0; simpa using this
  have RQ0 : RqW w enc N (w.heap.size + 1) 1 [(0, 0, 0)] [] ((w.alloc (.cells (madeCells #[.bool false] N) 4)).alloc (.cells ([.int .i64 0] : List Value).toArray 3)) := by
    have q1 := Row.made w (.bool false) N 4
    have q2 := Row.new (w.alloc (.cells (madeCells #[.bool false] N) 4)) 3 [.int .i64 0]
    have hz : (w.alloc (.cells (madeCells #[.bool false] N) 4)).heap.size = w.heap.size + 1 := by simp
    rw [hz] at q2
    refine ⟨?_, ?_, ((Below.refl _ _).alloc (Nat.le_refl _) _).alloc (by simp) _⟩
    · have := q2.own (base := w.heap.size + 1) (cap := 0) (Nat.le_refl _) (by simp [maxLen])
      show World.ownsRow _ _ _ _ _ _ _
      rw [show encI enc [(0, 0, 0)] = [0] by simp [encI, e00]]
      exact this
    · rw [seenL_nil]; exact q1.alloc _
  have RQ1 : RqW w enc N (w.heap.size + 1) 1 [(0, 0, 0)] [(0, 0, 0)] ((w.alloc (.cells ((madeCells #[.bool false] N).setIfInBounds 0 (.bool true)) 4)).alloc (.cells ([.int .i64 0] : List Value).toArray 3)) := by
    have hm : madeCells #[Value.bool false] N = (List.replicate N (.bool false)).toArray := by
      apply Array.ext
      · simp [size_madeCells]
      · intro i h1 h2
        simp [madeCells, Nat.mod_one]
    have ha : (madeCells #[Value.bool false] N).setIfInBounds 0 (.bool true) = (seenL enc N [(0, 0, 0)]).toArray := by
      rw [hm, List.setIfInBounds_toArray, ← seenL_nil enc]
      have := seenL_set (enc := enc) (M := N) (ps := []) (q := (0, 0, 0)) (by rw [e00]; exact hN0)
      rw [e00] at this
      rw [this]; rfl
    have q1 := Row.new w 4 (seenL enc N [(0, 0, 0)])
    rw [← ha] at q1
    have q2 := Row.new (w.alloc (.cells ((madeCells #[Value.bool false] N).setIfInBounds 0 (.bool true)) 4)) 3 [.int .i64 0]
    have hz : (w.alloc (.cells ((madeCells #[Value.bool false] N).setIfInBounds 0 (.bool true)) 4)).heap.size = w.heap.size + 1 := by simp
    rw [hz] at q2
    refine ⟨?_, q1.alloc _, ((Below.refl _ _).alloc (Nat.le_refl _) _).alloc (by simp) _⟩
    have := q2.own (base := w.heap.size + 1) (cap := 0) (Nat.le_refl _) (by simp [maxLen])
    show World.ownsRow _ _ _ _ _ _ _
    rw [show encI enc [(0, 0, 0)] = [0] by simp [encI, e00]]
    exact this
  have s0 := RQ0.2.1.cell 0
  rw [seenL_get hN0] at s0
  have s0' : ((w.alloc (.cells (madeCells #[.bool false] N) 4)).alloc (.cells ([.int .i64 0] : List Value).toArray 3)).cell? ⟨w.heap.size, 0, none⟩ = some (.bool false) := by rw [s0]; simp
  have f0 := RQ0.2.1.frozen 0
  have R1 := Lib.hid RQ1
  clear RQ0 RQ1 s0 e00
  go_enter Try.func58, Try.ntmps58
  go_wp2_with fail
  clear hmk s0' f0 r0
  have hc2 : ((cN : Int) == 0) = false := by rw [beq_eq_false_iff_ne]; omega
  have hc3 : (cN : Int) ≠ 0 := by omega
  have hw2 : (((ys.length : Int) + 1) == 0) = false := by rw [beq_eq_false_iff_ne]; omega
  have hw3 : ((ys.length : Int) + 1) ≠ 0 := by omega
  go_loopg [10, 11] (N + 1) (fun m l i wr => ∃ (k gl cl : Nat) (ps : List P3), l = .slice (some ⟨gl, 0, none⟩) ps.length cl ∧ i = .int .i64 k ∧ m + k = N + 1 ∧ Hid (srch xs ys L E m ps k = rpS (sN : Int) L E xs ys) ∧ Hid (okL (sN : Int) xs ys ps) ∧ Hid (RqW w enc N gl cl ps ps wr))
  case atStart => exact ⟨0, w.heap.size + 1, 1, [(0, 0, 0)], rfl, rfl, by omega, HRR.out.symm, okL_start (by omega), R1.out⟩
  case round =>
    obtain ⟨k, gl, cl, ps, rfl, rfl, hmk, HS, HO, HW⟩ := hrel
    obtain ⟨wo, rfl⟩ : ∃ x : World, x = wr := ⟨_, rfl⟩
    clear R1 HRR
    have hpl := HLEN.out ps HO.out
    have hBo := HW.out.2.2
    by_cases hlt : k < ps.length
    · obtain ⟨p, hp⟩ : ∃ p, ps[k]? = some p := ⟨ps[k], List.getElem?_eq_getElem hlt⟩
      obtain ⟨pa, pb, pc⟩ := p
      have hpo := HO.out.2 _ (List.mem_of_getElem? hp)
      have hel := HELT.out _ hpo
      obtain ⟨o1, o2, o3, o4⟩ := hpo
      simp only at o1 o2 o3 o4
      obtain ⟨st, rfl⟩ : ∃ s : Nat, pc = (s : Int) := ⟨pc.toNat, by omega⟩
      have d0 := HW.out.at_ hp
      obtain ⟨en, hen⟩ : ∃ e, e = enc (pa, pb, (st : Int)) := ⟨_, rfl⟩
      rw [← hen] at d0 hel
      obtain ⟨rn, hrn⟩ : ∃ r, r = pa * (ys.length + 1) + pb := ⟨_, rfl⟩
      have hrc : rn < cN := by
        rw [HCN.out, hrn]
        have a3 := Nat.mul_le_mul_right (ys.length + 1) (show pa + 1 ≤ xs.length + 1 by omega)
        rw [Nat.add_mul, Nat.one_mul] at a3
        omega
      obtain ⟨t1, t2, t3, t4⟩ := enc_parts (ys.length + 1) cN pa pb st (by omega) (by rw [← hrn]; exact hrc) HDV.out
      rw [← HENC.out pa pb st, ← hen] at t1 t2 t4
      rw [← hrn] at t2 t3
      have T1 := tdivN t1; have T2 := tmodN t2
      have T3 : (rn : Int).tdiv ((ys.length : Int) + 1) = (pa : Int) := tdivN t3
      have T4 : (en : Int).tmod ((ys.length : Int) + 1) = (pb : Int) := tmodN t4
      have HP := Lib.hid hp; clear hp hen hrn t1 t2 t3 t4
      have l1 : (0 : Int) ≤ (k : Int) := by omega
      have l2 : (k : Int) < (ps.length : Int) := by omega
      have RG := HR.out.below hBo hgm
      have m3 := RG.cell 3
      have HRG := Lib.hid RG; clear RG
      obtain ⟨b3, off3, e, e3, _, he, ce⟩ := (H3.out.below hBo (Nat.le_refl _)).at_ (show st < n3 by have := HEE.out; omega)
      obtain rfl := e3
      have l3 : (0 : Int) ≤ (st : Int) := by omega
      have l4 : (st : Int) < (n3 : Int) := by have := HEE.out; omega
      have HACC : Hid (accP xs ys E (pa, pb, (st : Int)) = (decide (pa = xs.length) && (decide (pb = ys.length) && e))) := by
        show _ = _
        unfold accP
        show (decide (pa = xs.length) && (decide (pb = ys.length) && decide (E[(st : Int).toNat]? = some true))) = _
        rw [Int.toNat_natCast, he.out]
        cases e <;> simp
      go_upto_region 12 with fail
      clear d0 T1 T2 T3 T4
      go_cut [82] from 38 to 149 (fun c wx => c = .bool (accP xs ys E (pa, pb, (st : Int))) ∧ wx = wo)
      case first =>
        by_cases q1 : pa = xs.length
        · have z1 : ((pa : Int) == (xs.length : Int)) = true := by rw [q1]; simp
          by_cases q2 : pb = ys.length
          · have z2 : ((pb : Int) == (ys.length : Int)) = true := by rw [q2]; simp
            have HE := Lib.hid (show accP xs ys E (pa, pb, (st : Int)) = e by rw [HACC.out, decide_eq_true q1, decide_eq_true q2]; simp)
            clear q1 q2
            cases e
            all_goals
              go_wp2_with fail
              go_meet
              exact ⟨by rw [HE.out], rfl⟩
          · have z2 : ((pb : Int) == (ys.length : Int)) = false := by rw [beq_eq_false_iff_ne]; omega
            have HE := Lib.hid (show accP xs ys E (pa, pb, (st : Int)) = false by rw [HACC.out, decide_eq_false q2]; simp)
            clear q1 q2
            go_wp2_with fail
            go_meet
            exact ⟨by rw [HE.out], rfl⟩
        · have z1 : ((pa : Int) == (xs.length : Int)) = false := by rw [beq_eq_false_iff_ne]; omega
          have HE := Lib.hid (show accP xs ys E (pa, pb, (st : Int)) = false by rw [HACC.out, decide_eq_false q1]; simp)
          clear q1
          go_wp2_with fail
          go_meet
          exact ⟨by rw [HE.out], rfl⟩
      case rest =>
      obtain ⟨rfl, hcw⟩ := hcut
      obtain rfl := hcw.symm
      obtain ⟨f, rfl⟩ : ∃ f, gk = f + 1 := ⟨gk - 1, by omega⟩
      cases hacc : accP xs ys E (pa, pb, (st : Int)) with
      | true =>
        have HA := Lib.hid (srch_acc (L := L) (f := f) HP.out hacc)
        go_wp2_with fail
        go_ret
        exact ⟨ret_bool (by rw [← HS.out, HA.out]), HW.out.2.2⟩
      | false =>
      have HA := Lib.hid (srch_next (L := L) (f := f) HP.out hacc)
      clear hacc m3 ce
      have m2 := HRG.out.cell 2
      go_wp2_with fail
      clear m2
      go_loopg [10, 88] n2 (fun m l j wr => ∃ (i gl' cl' : Nat) (ps' : List P3), l = .slice (some ⟨gl', 0, none⟩) ps'.length cl' ∧ j = .int .i64 i ∧ i ≤ n2 ∧ n2 ≤ m + i ∧ Hid (ps' = rnd xs ys (L.take i) (pa, pb, (st : Int)) ps) ∧ Hid (okL (sN : Int) xs ys ps') ∧ Hid (RqW w enc N gl' cl' ps' ps' wr))
      case atStart => exact ⟨0, gl, cl, ps, rfl, rfl, by omega, by omega, (rnd_zero _ _ _ _ _).symm, HO.out, HW.out⟩
      case round =>
        clear HW hBo
        obtain ⟨i, gl', cl', ps', rfl, rfl, hi, hmi, HPS, HO', HW'⟩ := hrel
        obtain ⟨wi, rfl⟩ : ∃ x : World, x = wr := ⟨_, rfl⟩
        by_cases hlt2 : i < n2
        · have hBi := HW'.out.2.2
          obtain ⟨b2, off2, a0, a1, a2, a3, e2, _, ha, c0, c1, c2', c3'⟩ := (H2.out.below hBi (Nat.le_refl _)).at_ hlt2
          obtain rfl := e2
          have r1 : (0 : Int) ≤ (i : Int) := by omega
          have r2 : (i : Int) < (n2 : Int) := by omega
          have RG := HR.out.below hBi hgm
          have m2 := RG.cell 2
          clear RG
          have hS1 := sSide_any A xs.length c xs pa a2 wi ((HX.out.below hBi (Nat.le_refl _)).more hBi.size) o1 (by omega)
          have hS2 := sSide_any A' ys.length c' ys pb a3 wi ((HY.out.below hBi (Nat.le_refl _)).more hBi.size) o2 (by omega)
          clear hBi
          have hLq : L[i]? = some (a0, a1, a2, a3) := ha.out
          have HNX := Lib.hid (rnd_succ (xs := xs) (ys := ys) (p := (pa, pb, (st : Int))) (ps := ps) hLq)
          have hax := HOKL.out _ (List.mem_of_getElem? hLq)
          simp only at hax
          clear hLq
          obtain ⟨tn, rfl⟩ : ∃ s : Nat, a1 = (s : Int) := ⟨a1.toNat, by omega⟩
          obtain ⟨z1, hz1⟩ : ∃ z, z = sdI xs pa a2 := ⟨_, rfl⟩
          obtain ⟨z2, hz2⟩ : ∃ z, z = sdI ys pb a3 := ⟨_, rfl⟩
          rw [← hz1] at hS1
          rw [← hz2] at hS2
          have HZ1 := Lib.hid hz1; have HZ2 := Lib.hid hz2
          have HOP : Hid (∀ q, nxt xs ys (pa, pb, (st : Int)) (a0, (tn : Int), a2, a3) = some q → ∃ i1 i2 : Nat, q = (i1, i2, (tn : Int)) ∧ z1 = (i1 : Int) ∧ z2 = (i2 : Int) ∧ okP (sN : Int) xs ys q) := fun q hq => by
            have hok := nxt_ok (S := (sN : Int)) ⟨o1, o2, o3, o4⟩ hax hq
            unfold nxt at hq
            split at hq
            · split at hq
              · rename_i i1 i2 h1 h2
                exact ⟨i1, i2, (Option.some.inj hq).symm, by rw [HZ1.out]; exact sdI_some h1, by rw [HZ2.out]; exact sdI_some h2, hok⟩
              · cases hq
            · cases hq
          clear hz1 hz2
          go_upto_region 20 with (first | (go_at_call_of 79 (Value.slice A xs.length c); refine hS1.mono ?_; rintro e w' ⟨rfl, hw⟩; obtain rfl := hw) | (go_at_call_of 79 (Value.slice A' ys.length c'); refine hS2.mono ?_; rintro e w' ⟨rfl, hw⟩; obtain rfl := hw))
          go_cut [88, 124] from 88 to 149 (fun jj cc wx => jj = .int .i64 i ∧ cc = .bool (nxt xs ys (pa, pb, (st : Int)) (a0, (tn : Int), a2, a3)).isNone ∧ wx = wi)
          case first =>
            have z1s : (0 : Int) ≤ z1 ∨ z1 < 0 := by omega
            have HC1 := Lib.hid (sdI_cases xs pa a2); have HC2 := Lib.hid (sdI_cases ys pb a3)
            by_cases s0 : a0 = (st : Int)
            · have y0 : (a0 == (st : Int)) = true := by rw [s0]; simp
              have y1 : (a0 != (st : Int)) = false := by rw [s0]; simp
              have S0 := Lib.hid s0; clear s0
              by_cases s1 : z1 < 0
              · have HE : Hid ((nxt xs ys (pa, pb, (st : Int)) (a0, (tn : Int), a2, a3)).isNone = true) := by
                  show _ = _
                  rw [nxt_no1 (by show pss xs pa a2 = none; rcases HC1.out with h | ⟨i1, h, _⟩; exact h.2; have := HZ1.out; omega)]; rfl
                clear z1s
                go_wp2_with fail
                go_meet
                exact ⟨rfl, by rw [HE.out], rfl⟩
              · have s1' : (0 : Int) ≤ z1 := by omega
                have s1d : decide (z1 < 0) = false := decide_eq_false s1
                by_cases s2 : z2 < 0
                · have HE : Hid ((nxt xs ys (pa, pb, (st : Int)) (a0, (tn : Int), a2, a3)).isNone = true) := by
                    show _ = _
                    rw [nxt_no2 (by show pss ys pb a3 = none; rcases HC2.out with h | ⟨i1, h, _⟩; exact h.2; have := HZ2.out; omega)]; rfl
                  clear z1s s1
                  go_wp2_with fail
                  go_meet
                  exact ⟨rfl, by rw [HE.out], rfl⟩
                · have s2' : (0 : Int) ≤ z2 := by omega
                  have s2d : decide (z2 < 0) = false := decide_eq_false s2
                  have HE : Hid ((nxt xs ys (pa, pb, (st : Int)) (a0, (tn : Int), a2, a3)).isNone = false) := by
                    show _ = _
                    obtain ⟨i1, _, h1⟩ : ∃ i : Nat, sdI xs pa a2 = i ∧ pss xs pa a2 = some i := by
                      rcases HC1.out with h | h
                      · have := HZ1.out; omega
                      · exact h
                    obtain ⟨i2, _, h2⟩ : ∃ i : Nat, sdI ys pb a3 = i ∧ pss ys pb a3 = some i := by
                      rcases HC2.out with h | h
                      · have := HZ2.out; omega
                      · exact h
                    rw [nxt_some (a := (a0, (tn : Int), a2, a3)) (p := (pa, pb, (st : Int))) S0.out h1 h2]; rfl
                  clear z1s s1 s2
                  go_wp2_with fail
                  go_meet
                  exact ⟨rfl, by rw [HE.out], rfl⟩
            · have y0 : (a0 == (st : Int)) = false := by rw [beq_eq_false_iff_ne]; exact s0
              have y1 : (a0 != (st : Int)) = true := by rw [bne, y0]; rfl
              have HE : Hid ((nxt xs ys (pa, pb, (st : Int)) (a0, (tn : Int), a2, a3)).isNone = true) := by
                show _ = _
                rw [nxt_no0 (by show ¬ a0 = (st : Int); exact s0)]; rfl
              clear s0 z1s
              go_wp2_with fail
              go_meet
              exact ⟨rfl, by rw [HE.out], rfl⟩
          case rest =>
          obtain ⟨rfl, rfl, hcw⟩ := hcut
          obtain rfl := hcw.symm
          clear c0 c2' c3' m2 hS1 hS2
          cases hnb : nxt xs ys (pa, pb, (st : Int)) (a0, (tn : Int), a2, a3) with
          | none =>
            have HAD : Hid (rnd xs ys (L.take (i + 1)) (pa, pb, (st : Int)) ps = ps') := by
              show _ = _
              rw [HNX.out, hnb, ← HPS.out]; rfl
            clear hnb c1
            go_wp2_with fail
            go_roundg (gk - 1)
            case measure => omega
            case rel => exact ⟨i + 1, gl', cl', ps', rfl, by go_num, by omega, by omega, HAD.out.symm, HO'.out, HW'.out⟩
          | some q =>
            obtain ⟨i1, i2, rfl, rfl, rfl, hqo⟩ := HOP.out q hnb
            have hql := HELT.out _ hqo
            have hqe := HENC.out i1 i2 tn
            obtain ⟨u1, hu1⟩ : ∃ u, u = tn * cN := ⟨_, rfl⟩
            obtain ⟨u2, hu2⟩ : ∃ u, u = i1 * (ys.length + 1) := ⟨_, rfl⟩
            have M1 : (tn : Int) * (cN : Int) = (u1 : Int) := by rw [hu1]; simp
            have M2 : (i1 : Int) * ((ys.length : Int) + 1) = (u2 : Int) := by rw [hu2]; simp
            rw [← hu1, ← hu2] at hqe
            obtain ⟨eq, heq⟩ : ∃ e, e = enc (i1, i2, (tn : Int)) := ⟨_, rfl⟩
            rw [← heq] at hql hqe
            have hto : ((u1 : Int) + (u2 : Int) + (i2 : Int)).toNat = eq := by omega
            have HEQ := Lib.hid heq
            have HSN : Hid (decide (eq ∈ ps'.map enc) = decide ((i1, i2, (tn : Int)) ∈ ps')) := by
              show _ = _
              rw [decide_eq_decide, heq, List.mem_map]
              exact ⟨fun ⟨r, hr, e⟩ => by rw [← HINJ.out r _ (HO'.out.2 r hr) hqo e]; exact hr, fun h => ⟨_, h, rfl⟩⟩
            have HNB := Lib.hid hnb
            have sc := HW'.out.2.1.cell eq
            rw [seenL_get hql, HSN.out] at sc
            have sf := HW'.out.2.1.frozen eq
            have v1 : (0 : Int) ≤ (u1 : Int) + (u2 : Int) + (i2 : Int) := by omega
            have v2 : (u1 : Int) + (u2 : Int) + (i2 : Int) < (N : Int) := by omega
            have u1b : u1 ≤ 1352 := by omega
            have u2b : u2 ≤ 1352 := by omega
            have i2b : i2 ≤ 1352 := by omega
            clear hnb hu1 hu2 heq
            subst hqe
            by_cases hm : (i1, i2, (tn : Int)) ∈ ps'
            · rw [decide_eq_true hm] at sc
              have HAD : Hid (rnd xs ys (L.take (i + 1)) (pa, pb, (st : Int)) ps = ps') := by
                show _ = _
                rw [HNX.out, HNB.out, ← HPS.out]; exact if_pos hm
              clear hm
              go_wp2_with fail
              go_roundg (gk - 1)
              case measure => omega
              case rel => exact ⟨i + 1, gl', cl', ps', rfl, by go_num, by omega, by omega, HAD.out.symm, HO'.out, HW'.out⟩
            · rw [decide_eq_false hm] at sc
              have HAD : Hid (rnd xs ys (L.take (i + 1)) (pa, pb, (st : Int)) ps = ps' ++ [(i1, i2, (tn : Int))]) := by
                show _ = _
                rw [HNX.out, HNB.out, ← HPS.out]; exact if_neg hm
              have HO2 : Hid (okL (sN : Int) xs ys (ps' ++ [(i1, i2, (tn : Int))])) := by
                have := addp_ok (o := some (i1, i2, (tn : Int))) HO'.out (fun r hr => by cases hr; exact hqo)
                rw [show addp ps' (some (i1, i2, (tn : Int))) = ps' ++ [(i1, i2, (tn : Int))] from if_neg hm] at this
                exact this
              have hln := HLEN.out _ HO'.out
              have HW2 : Hid (RqW w enc N gl' cl' ps' (ps' ++ [(i1, i2, (tn : Int))]) (wi.setCell ⟨w.heap.size, u1 + u2 + i2, none⟩ (.bool true))) := by
                have := HW'.out.put (q := (i1, i2, (tn : Int))) (by rw [← HEQ.out]; exact hql)
                rw [← HEQ.out] at this
                exact this
              have HBS : Hid (w.heap.size + 1 ≤ (wi.setCell ⟨w.heap.size, u1 + u2 + i2, none⟩ (.bool true)).heap.size) := by
                have h1 := (World.ownsRow.lt HW2.out.1 gl' rfl)
                show _ ≤ _
                omega
              have HZZ : Hid (Value.slice (some ⟨wi.heap.size, 0, none⟩) 1 1 = Value.slice (some ⟨(wi.setCell ⟨w.heap.size, u1 + u2 + i2, none⟩ (.bool true)).heap.size, 0, none⟩) 1 1) := by show _ = _; simp
              have HLE : Hid ((encI enc ps').length + 1 ≤ 4294967296) := by show _ ≤ _; rw [encI_len]; omega
              clear hm
              go_wp2_with (first | (at_builtin; refine wpList_int_push (wi.setCell ⟨w.heap.size, u1 + u2 + i2, none⟩ (.bool true)) rfl (.tmp 145) (.tmp 147) _ rfl (w.heap.size + 1) 3 Try.underlying114 infoIn (.slice (some ⟨gl', 0, none⟩) ps'.length cl') (encI enc ps') rfl HW2.out.1 _ HZZ.out HLE.out HBS.out ?_; intro g2 cap w' hown hbl hat hgr; clear hat; have HOW := Lib.hid hown; have HBL := Lib.hid hbl; have HGR := Lib.hid hgr; clear hown hbl hgr))
              go_roundg (gk - 1)
              case measure => omega
              case rel =>
                refine ⟨i + 1, g2, cap, ps' ++ [(i1, i2, (tn : Int))], by rw [encI_len, List.length_append]; rfl, by go_num, by omega, by omega, HAD.out.symm, HO2.out, ?_, ?_, ?_⟩
                · have := HOW.out
                  rw [encI_len] at this
                  rw [encI_app, List.length_append, ← HEQ.out, Int.natCast_add, Int.natCast_add]
                  exact this
                · exact HW2.out.2.1.grown HGR.out (by have h1 := (World.ownsRow.lt HW2.out.1 gl' rfl).1; simp [Value.ownBlock]; omega)
                · exact HW2.out.2.2.trans (HBL.out.mono (by omega))
        · have hii : i = n2 := by omega
          have r2 : (n2 : Int) ≤ (i : Int) := by omega
          have HPS2 : Hid (ps' = rnd xs ys L (pa, pb, (st : Int)) ps) := by
            have := HPS.out
            rw [hii, List.take_of_length_le (by rw [HEL.out]; exact Nat.le_refl _)] at this
            exact this
          clear hii
          go_wp2_with fail
          go_roundg f
          case measure => omega
          case rel => exact ⟨k + 1, gl', cl', ps', rfl, by go_num, by omega, by show _ = _; rw [HPS2.out, ← HA.out]; exact HS.out, HO'.out, HW'.out⟩
    · have HN := Lib.hid (srch_none (xs := xs) (ys := ys) (L := L) (E := E) (f := gk) (ps := ps) (k := k) (by omega))
      have l2 : (ps.length : Int) ≤ (k : Int) := by omega
      go_wp2_with fail
      go_ret
      exact ⟨ret_bool (by rw [← HS.out, HN.out]), HW.out.2.2⟩
end Go.Proofs.Ytchacfienafhlaa
