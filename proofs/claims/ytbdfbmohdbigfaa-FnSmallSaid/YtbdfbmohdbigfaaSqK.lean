/- classesOf: states that no word tells apart get one number. -/
import Derived.Test.YtbdfbmohdbigfaaMgy
import Derived.Test.YtbdfbmohdbigfaaMgu
import Derived.Test.YtbdfbmohdbigfaaMgv
import Derived.Deep.LoopGhost
import Derived.Deep.CutRange

namespace Go.Proofs.Ytbdfbmohdbigfaa
open Go.RowKit Go.Maps
set_option linter.unusedVariables false
/-- A key of five numbers as a value. -/
def kv5 (k : Ky) : Value := .agg #[.int .i64 (k.1 : Int), .int .i64 (k.2.1 : Int), .int .i64 (k.2.2.1 : Int), .int .i64 (k.2.2.2.1 : Int), .int .i64 (k.2.2.2.2 : Int)]
theorem kv5_inj (p q : Ky) (h : kv5 p = kv5 q) : p = q := by
  obtain ⟨a, b, c, d, e⟩ := p
  obtain ⟨a', b', c', d', e'⟩ := q
  simp only [kv5, Value.agg.injEq] at h
  simp at h
  obtain ⟨h1, h2, h3, h4, h5⟩ := h
  rw [show a = a' by omega, show b = b' by omega, show c = c' by omega, show d = d' by omega, show e = e' by omega]
def ok5 (p : Ky) : Prop := p.1 ≤ 64 ∧ p.2.1 ≤ 64 ∧ p.2.2.1 ≤ 64 ∧ p.2.2.2.1 ≤ 64 ∧ p.2.2.2.2 ≤ 64
theorem law5 : WideMaps.KeyLaw Try.prog 155 := deep_law (m := 5) (by omega) (by kernel_rfl) (by kernel_rfl) (by kernel_rfl)
theorem key5' (p : Ky) (h : ok5 p) : ∃ l, keyOf Try.prog 155 (kv5 p) = some l := by
  obtain ⟨a, b, c, d, e⟩ := p
  obtain ⟨h1, h2, h3, h4, h5⟩ := h
  simp only at h1 h2 h3 h4 h5
  have w1 : (Lit.int .i64 (a : Int)).wf = true := WalkArith.wf_i64 (by omega)
  have w2 : (Lit.int .i64 (b : Int)).wf = true := WalkArith.wf_i64 (by omega)
  have w3 : (Lit.int .i64 (c : Int)).wf = true := WalkArith.wf_i64 (by omega)
  have w4 : (Lit.int .i64 (d : Int)).wf = true := WalkArith.wf_i64 (by omega)
  have w5 : (Lit.int .i64 (e : Int)).wf = true := WalkArith.wf_i64 (by omega)
  have k1 : Try.prog.keyType 155 = true := by kernel_rfl
  have k2 : (kv5 (a, b, c, d, e)).formed Try.prog 155 = true := by kernel_rfl
  have c1 : Try.prog.cellsOf 155 = 5 := by kernel_rfl
  have c3 : Try.prog.cellsOf 2 = 1 := by kernel_rfl
  have hs : 0 < Try.prog.types.size := of_decide_eq_true (by kernel_rfl)
  obtain ⟨q, hd⟩ : ∃ d, Try.prog.types.size = d + 1 := ⟨Try.prog.types.size - 1, by omega⟩
  have kl : Try.prog.keyLits (Try.prog.types.size + 1) 155 [.int .i64 (a : Int), .int .i64 (b : Int), .int .i64 (c : Int), .int .i64 (d : Int), .int .i64 (e : Int)] = some [.int .i64 (a : Int), .int .i64 (b : Int), .int .i64 (c : Int), .int .i64 (d : Int), .int .i64 (e : Int)] := by
    rw [hd]
    simp [Program.keyLits, Try.underlying155, Try.underlying2, c1, c3, w1, w2, w3, w4, w5, List.range_succ]
  refine ⟨.string (keyBytes [.int .i64 (a : Int), .int .i64 (b : Int), .int .i64 (c : Int), .int .i64 (d : Int), .int .i64 (e : Int)]), ?_⟩
  unfold keyOf
  rw [Try.underlying155]
  have hc : (kv5 (a, b, c, d, e)).cells.toList = [.int .i64 (a : Int), .int .i64 (b : Int), .int .i64 (c : Int), .int .i64 (d : Int), .int .i64 (e : Int)] := rfl
  simp only [k1, k2, Bool.and_self, if_true, hc, kl, Option.map_some]
theorem key5 : KeyOk Try.prog 154 155 2 kv5 ok5 where
  K := Keyed.of_law law5
  und := Try.underlying154
  zero := fun w => by kernel_rfl
  key := key5'
  inj := kv5_inj
theorem mapLen : Try.prog.underlying 154 = some (.map (Try.prog.mapKeyOf 154) (Try.prog.mapElemOf 154)) := by kernel_rfl
theorem names_len {α : Type} {kv : α → Value} {om : Obj} {L : List α} (h : NamesO kv om L) : ∃ (es : Array MapEntry) (clock : Nat), om = .map es clock ∧ es.size = L.length := by
  obtain ⟨es, clock, rfl, he⟩ := h
  refine ⟨es, clock, rfl, ?_⟩
  have := congrArg List.length he
  simpa [mpE] using this
/-- A list that is written from its beginning on: the first i are there. -/
def ptL (L : List Nat) (i : Nat) : List Nat := L.take i ++ List.replicate (L.length - i) 0
theorem ptL_len (L : List Nat) {i : Nat} (h : i ≤ L.length) : (ptL L i).length = L.length := by unfold ptL; rw [List.length_append, List.length_take, List.length_replicate]; omega
theorem ptL_set {L : List Nat} {i x : Nat} (h : L[i]? = some x) : (ptL L i).set i x = ptL L (i + 1) := by
  obtain ⟨h1, h2⟩ := List.getElem?_eq_some_iff.1 h
  unfold ptL
  rw [List.take_succ_eq_append_getElem h1, h2, show L.length - i = (L.length - (i + 1)) + 1 by omega, List.replicate_succ, List.set_append_right i x (by rw [List.length_take]; omega)]
  rw [show i - (L.take i).length = 0 by rw [List.length_take]; omega, List.set_cons_zero, List.append_assoc]; rfl
theorem ptL_zero (L : List Nat) : ptL L 0 = List.replicate L.length 0 := by unfold ptL; simp
theorem ptL_all (L : List Nat) : ptL L L.length = L := by unfold ptL; simp
theorem ptL_same {L : List Nat} {i : Nat} (h : L[i]? = some 0) : ptL L (i + 1) = ptL L i := by
  have hl := (List.getElem?_eq_some_iff.1 h).1
  rw [← ptL_set h]
  refine List.ext_getElem? fun j => ?_
  rw [List.getElem?_set]
  split
  · rename_i e
    subst e
    rw [if_pos (by rw [ptL_len L (Nat.le_of_lt hl)]; exact hl)]
    unfold ptL
    rw [List.getElem?_append_right (by rw [List.length_take]; omega), List.length_take, show i - min i L.length = 0 by omega, List.getElem?_replicate, if_pos (by omega)]
  · rfl
theorem natW_set (L : List Nat) (i x : Nat) : (iv (natW L)).set i (.int .i64 (x : Int)) = iv (natW (L.set i x)) := by unfold natW; rw [iv_set, List.map_set]
theorem natW_repl (n : Nat) : iv (natW (List.replicate n 0)) = List.replicate n (.int .i64 0) := by unfold natW; rw [List.map_replicate]; exact iv_repl n
theorem row_nat {w : World} {g : Nat} {t : TypeId} {l : List Nat} (h : Row w g t (iv (natW l))) {k : Nat} (hk : k < l.length) : w.cell? ⟨g, k, none⟩ = some (.int .i64 ((l.getD k 0 : Nat) : Int)) := by
  rw [h.cell]
  unfold iv natW
  rw [List.getElem?_map, List.getElem?_map, List.getD_eq_getElem?_getD, List.getElem?_eq_getElem hk]
  rfl
/-- The cells of the key while it is being made. -/
def kyC (T : Nat) (P : List Int) (C : List Nat) (i l : Nat) : List Value := [.int .i64 ((C.getD i 0 : Nat) : Int), .int .i64 ((if 0 < l then kyG T P C i 0 else 0 : Nat) : Int), .int .i64 ((if 1 < l then kyG T P C i 1 else 0 : Nat) : Int), .int .i64 ((if 2 < l then kyG T P C i 2 else 0 : Nat) : Int), .int .i64 ((if 3 < l then kyG T P C i 3 else 0 : Nat) : Int)]
theorem kyC_set {T : Nat} {P : List Int} {C : List Nat} {i l : Nat} (hl : l < T) (hT : T ≤ 4) : (kyC T P C i l).set (1 + l) (.int .i64 ((C.getD (plT T P i l) 0 : Nat) : Int)) = kyC T P C i (l + 1) := by
  have h4 : l = 0 ∨ l = 1 ∨ l = 2 ∨ l = 3 := by omega
  have e : C.getD (plT T P i l) 0 = kyG T P C i l := by unfold kyG; rw [if_pos hl]
  rw [e]
  rcases h4 with rfl | rfl | rfl | rfl <;> simp [kyC]
theorem kyC_all {T : Nat} {P : List Int} {C : List Nat} {i : Nat} : (.agg (kyC T P C i T).toArray : Value) = kv5 (kyF T P C i) := by
  have e : ∀ m, (if m < T then kyG T P C i m else 0) = kyG T P C i m := fun m => by
    split
    · rfl
    · rename_i h; unfold kyG; rw [if_neg h]
  unfold kyC
  rw [e 0, e 1, e 2, e 3]; rfl
theorem kyC_full (T : Nat) (P : List Int) (C : List Nat) (i : Nat) : kyC T P C i T = [.int .i64 ((kyF T P C i).1 : Int), .int .i64 ((kyF T P C i).2.1 : Int), .int .i64 ((kyF T P C i).2.2.1 : Int), .int .i64 ((kyF T P C i).2.2.2.1 : Int), .int .i64 ((kyF T P C i).2.2.2.2 : Int)] := by
  have e : ∀ m, (if m < T then kyG T P C i m else 0) = kyG T P C i m := fun m => by
    split
    · rfl
    · rename_i h; unfold kyG; rw [if_neg h]
  unfold kyC
  rw [e 0, e 1, e 2, e 3]; rfl
theorem ky_ok {S T : Nat} {P : List Int} {E : List Bool} (h : TeO S T P E) (r i : Nat) : ok5 (kyF T P (clR S T P E r) i) := by
  have hb : ∀ j, (clR S T P E r).getD j 0 ≤ 64 := fun j => by
    rw [List.getD_eq_getElem?_getD]
    cases hj : (clR S T P E r)[j]? with
    | none => exact Nat.zero_le _
    | some x => exact clR_lt h r x (List.mem_of_getElem? hj)
  have hg : ∀ m, kyG T P (clR S T P E r) i m ≤ 64 := fun m => by
    unfold kyG
    split
    · exact hb _
    · exact Nat.zero_le _
  exact ⟨hb _, hg _, hg _, hg _, hg _⟩

set_option maxRecDepth 100000 in
set_option maxHeartbeats 16000000 in
theorem iClasses_any (S T : Nat) (A2 : Option Addr) (n2 c2 : Nat) (A3 : Option Addr) (n3 c3 : Nat) (P : List Int) (E : List Bool) (w : World) (h : PlOk w S T A2 n2 A3 n3 P E) (hte : TeO S T P E) :
    Calls Try.prog 87 #[.agg #[.int .i64 (S : Int), .int .i64 (T : Int), .slice A2 n2 c2, .slice A3 n3 c3]] w fun e w' => ∃ g, e = .returned (.slice (some ⟨g, 0, none⟩) S S) ∧ Row w' g 2 (iv (natW (clF S T P E))) ∧ w.heap.size ≤ g ∧ Below w.heap.size w w' := by
  have hS := h.hS; have hT := h.hT
  have rb := Row.new w 33 (BxP (S : Int) (T : Int) A2 n2 c2 A3 n3 c3)
  have bx : Below w.heap.size w (w.alloc (.cells (BxP (S : Int) (T : Int) A2 n2 c2 A3 n3 c3).toArray 33)) := (Below.refl _ _).alloc (Nat.le_refl _) _
  have hsx : (w.alloc (.cells (BxP (S : Int) (T : Int) A2 n2 c2 A3 n3 c3).toArray 33)).heap.size = w.heap.size + 1 := by simp
  obtain ⟨x0, hx0⟩ : ∃ x, x = w.alloc (.cells (BxP (S : Int) (T : Int) A2 n2 c2 A3 n3 c3).toArray 33) := ⟨_, rfl⟩
  rw [← hx0] at rb bx hsx
  have HV := Lib.hid (h.below bx (Nat.le_refl _))
  have hmk := run_make_row' (P := Try.prog) 26 2 (.int .i64 0) 8 Try.underlying26 infoIC rfl .i64 .i64 S (by omega) (by omega)
  have hmm := @run_makeMap Try.prog
  have KU := key5
  have RB := Lib.hid rb; have BX := Lib.hid bx; have HLS := Lib.hid hS; have HLT := Lib.hid hT; have HTE := Lib.hid hte; have HSX := Lib.hid hsx
  have HCL : Hid (∀ r, (clR S T P E r).length = S) := fun r => clR_len hte r
  have HC : Hid (∀ (y : World) (s j : Nat), Below x0.heap.size x0 y → s < S → j < T → Calls Try.prog 51 #[.agg #[.int .i64 (S : Int), .int .i64 (T : Int), .slice A2 n2 c2, .slice A3 n3 c3], .int .i64 (s : Int), .int .i64 (j : Int)] y fun e w' => e = .returned (.int .i64 ((plT T P s j : Nat) : Int)) ∧ Below y.heap.size y w') := fun y s j hy hs hj => iToN_any c2 c3 s j y (HV.out.below hy (Nat.le_refl _)) hs hj
  have HR1 : Hid (Row (x0.alloc (.cells (madeCells #[.int .i64 0] S) 2)) x0.heap.size 2 (iv (natW (ptL (clR S T P E 0) 0)))) := by
    show Row _ _ _ _
    rw [ptL_zero, natW_repl, HCL.out 0]
    exact Row.made x0 (.int .i64 0) S 2
  have HB1 : Hid (Below x0.heap.size x0 (x0.alloc (.cells (madeCells #[.int .i64 0] S) 2))) := (Below.refl _ _).alloc (Nat.le_refl _) _
  have k0 := rb.cell 0
  have kb := (rb.alloc (.cells (madeCells #[.int .i64 0] S) 2)).cell 3
  have HX0 : x0 = w.alloc (.cells #[.int .i64 (S : Int), .int .i64 (T : Int), .slice A2 n2 c2, .slice A3 n3 c3] 33) := hx0
  clear rb bx h hte hsx
  go_enter Try.func87, Try.ntmps87
  go_upto_region 1 with fail
  rw [← HX0]
  clear HX0 hx0
  go_wp2_with fail
  clear k0 kb
  go_loopg [19] S (fun m i wr => ∃ k : Nat, i = .int .i64 (k : Int) ∧ k ≤ S ∧ S ≤ m + k ∧ Hid (Row wr x0.heap.size 2 (iv (natW (ptL (clR S T P E 0) k)))) ∧ Hid (Below x0.heap.size x0 wr))
  case atStart => exact ⟨0, rfl, by omega, by omega, HR1.out, HB1.out⟩
  case round =>
    clear HR1 HB1
    obtain ⟨k, rfl, hk, hm, HR, HB⟩ := hrel
    obtain ⟨wo, rfl⟩ : ∃ x : World, x = wr := ⟨_, rfl⟩
    have hn3 : n3 = S := HV.out.hE
    by_cases hlt : k < S
    · obtain ⟨b3, o3, ea, rfl, -, hea, cea⟩ := (HV.out.below HB.out (Nat.le_refl _)).h3.at_ (show k < n3 by omega)
      have l0 : (0 : Int) ≤ (k : Int) := by omega
      have l1 : (k : Int) < (S : Int) := by omega
      have l2 : (k : Int) < (n3 : Int) := by omega
      have wk : IntKind.i64.wrap ((k : Int) + 1) = (k : Int) + 1 := IntWalk.i64_in _ (by omega)
      have HG : Hid ((clR S T P E 0)[k]? = some (if ea then 1 else 0)) := by show _ = _; unfold clR; rw [List.getElem?_map, hea.out]; rfl
      have hlen : (ptL (clR S T P E 0) k).length = S := by rw [ptL_len _ (by rw [HCL.out]; omega), HCL.out]
      have c0 := row_nat HR.out (k := k) (by omega)
      have f0 := HR.out.frozen k
      clear hea hlen hn3
      cases ea with
      | true =>
        have HG1 : Hid ((clR S T P E 0)[k]? = some 1) := HG.out
        go_wp2_with fail
        go_roundg (gk - 1)
        case measure => omega
        case rel =>
          refine ⟨k + 1, by go_num, by omega, by omega, ?_, HB.out.setCell (p := ⟨x0.heap.size, k, none⟩) (Nat.le_refl _) _⟩
          show Row _ _ _ _
          rw [← ptL_set HG1.out, ← natW_set]
          exact HR.out.set_ k _
      | false =>
        have HG1 : Hid ((clR S T P E 0)[k]? = some 0) := HG.out
        go_wp2_with fail
        go_roundg (gk - 1)
        case measure => omega
        case rel =>
          refine ⟨k + 1, by go_num, by omega, by omega, ?_, HB.out⟩
          show Row _ _ _ _
          rw [ptL_same HG1.out]
          exact HR.out
    · have hkS : k = S := by omega
      subst hkS

      have HR2 : Hid (Row wo x0.heap.size 2 (iv (natW (clR k T P E 0)))) := by
        have h := HR.out
        have e : ptL (clR k T P E 0) k = clR k T P E 0 := by have := ptL_all (clR k T P E 0); rwa [HCL.out] at this
        rw [e] at h
        exact h
      have ra := RB.out.below HB.out RB.out.lt
      have k0 := ra.cell 0
      have l1 : (k : Int) ≤ (k : Int) := by omega
      have dk3 : decide (k < n3) = false := decide_eq_false (by omega)
      have dl3 : (n3 : Int) ≤ (k : Int) := by omega
      clear ra hlt hk hm hn3
      go_wp2_with fail
      clear k0 dk3 dl3
      go_loopg [3, 31] k (fun m v3 i wr => ∃ (r g3 : Nat), v3 = .slice (some ⟨g3, 0, none⟩) k k ∧ i = .int .i64 (r : Int) ∧ r ≤ k ∧ k ≤ m + r ∧ Hid (Row wr g3 2 (iv (natW (clR k T P E r)))) ∧ Hid (x0.heap.size ≤ g3) ∧ Hid (Below x0.heap.size x0 wr))
      case atStart => exact ⟨0, x0.heap.size, rfl, rfl, by omega, by omega, HR2.out, Nat.le_refl _, HB.out⟩
      case round =>
        clear HR2 HR HB
        obtain ⟨r, g3, rfl, rfl, hr, hm, HR, HG3, HB⟩ := hrel
        obtain ⟨wo, rfl⟩ : ∃ x : World, x = wr := ⟨_, rfl⟩
        obtain ⟨gq, hgq⟩ : ∃ q : Nat, q = gk := ⟨_, rfl⟩
        rw [← hgq] at hm
        have hks := HLS.out
        have wrr : IntKind.i64.wrap ((r : Int) + 1) = (r : Int) + 1 := IntWalk.i64_in _ (by omega)
        by_cases hlt : r < k
        · have l2 : (r : Int) < (k : Int) := by omega
          obtain ⟨C, hC⟩ : ∃ C, C = clR k T P E r := ⟨_, rfl⟩
          have hCl : C.length = k := by rw [hC]; exact HCL.out r
          have hN : clR k T P E (r + 1) = nmV (kyF T P C) k := by rw [hC]; rfl
          have hok : ∀ i, ok5 (kyF T P C i) := fun i => by rw [hC]; exact ky_ok HTE.out r i
          rw [← hC] at HR
          have HN := Lib.hid hN; have HOK := Lib.hid hok; have HCLn := Lib.hid hCl
          obtain ⟨gm, hgm⟩ : ∃ q, q = wo.heap.size := ⟨_, rfl⟩
          obtain ⟨wM, hwM⟩ : ∃ x, x = wo.alloc (.map #[] 0) := ⟨_, rfl⟩
          have hsM : wM.heap.size = gm + 1 := by rw [hwM, hgm]; simp
          have hmM : wM.heap[gm]? = some (.map #[] 0) := by rw [hwM, hgm]; exact heap_alloc_new wo _
          have hbM : Below wo.heap.size wo wM := by rw [hwM]; exact (Below.refl _ _).alloc (Nat.le_refl _) _
          obtain ⟨wN, hwN⟩ : ∃ x, x = wM.alloc (.cells (madeCells #[.int .i64 0] k) 2) := ⟨_, rfl⟩
          have hbN : Below wM.heap.size wM wN := by rw [hwN]; exact (Below.refl _ _).alloc (Nat.le_refl _) _
          have hx0 := HB.out.size
          have HRN : Hid (Row wN (gm + 1) 2 (iv (natW (ptL (nmV (kyF T P C) k) 0)))) := by
            show Row _ _ _ _
            rw [ptL_zero, natW_repl, nmV_len, hwN, ← hsM]
            exact Row.made wM (.int .i64 0) k 2
          have hg3 : g3 < wo.heap.size := HR.out.lt
          have HRC : Hid (Row wN g3 2 (iv (natW C))) := (HR.out.below hbM HR.out.lt).below hbN (by omega)
          have HBN : Hid (Below x0.heap.size x0 wN) := HB.out.trans ((hbM.mono hx0).trans (hbN.mono (by omega)))
          have HMN : Hid (wN.heap[gm]? = some (.map #[] 0)) := (hbN.block gm (by omega)).trans hmM
          have HGM : Hid (x0.heap.size ≤ gm ∧ g3 < gm) := ⟨by omega, by omega⟩
          have HWM := Lib.hid hwM; have HWN := Lib.hid hwN; have HGME := Lib.hid hgm; have HSM := Lib.hid hsM
          have ro := RB.out.below HB.out RB.out.lt
          have rM := ro.below hbM ro.lt
          have rN := RB.out.below HBN.out RB.out.lt
          have k0 := ro.cell 0; have k0M := rM.cell 0; have k0N := rN.cell 0
          clear hC hCl hN hok hgm hwM hwN hsM hmM hbM hbN hx0 hg3 ro rM rN hks
          go_upto_region 11 with fail
          try rw [← HWM.out]
          try rw [← HGME.out]
          go_upto_region 12 with fail
          try rw [HSM.out]
          try rw [← HWN.out]

          clear k0 k0M
          go_wp2_with fail
          clear k0N
          go_loopg [39] k (fun m i wr => ∃ (a : Nat) (om : Obj), i = .int .i64 (a : Int) ∧ a ≤ k ∧ k ≤ m + a ∧ Hid (Row wr (gm + 1) 2 (iv (natW (ptL (nmV (kyF T P C) k) a)))) ∧ Hid (Row wr g3 2 (iv (natW C))) ∧ Hid (Below x0.heap.size x0 wr) ∧ Hid (wr.heap[gm]? = some om) ∧ Hid (NamesO kv5 om (nmK (kyF T P C) a)))
          case atStart => exact ⟨0, .map #[] 0, rfl, by omega, by omega, HRN.out, HRC.out, HBN.out, HMN.out, NamesO.nil _⟩
          case round =>
            clear HRN HRC HBN HMN HR HB
            obtain ⟨a, om, rfl, haS, hma, HRN, HRC, HB, HM, HNO⟩ := hrel
            obtain ⟨wa, rfl⟩ : ∃ x : World, x = wr := ⟨_, rfl⟩
            obtain ⟨ga, hga⟩ : ∃ q : Nat, q = gk := ⟨_, rfl⟩
            rw [← hga] at hma
            have hks := HLS.out
            by_cases hlt2 : a < k
            · have q2 : (a : Int) < (k : Int) := by omega
              have q20 : (0 : Int) ≤ (a : Int) := by omega
              have waa : IntKind.i64.wrap ((a : Int) + 1) = (a : Int) + 1 := IntWalk.i64_in _ (by omega)
              have c0 := row_nat HRC.out (k := a) (by rw [HCLn.out]; exact hlt2)
              obtain ⟨ca, hca⟩ : ∃ x, x = C.getD a 0 := ⟨_, rfl⟩
              rw [← hca] at c0
              have HKC : Hid (kyC T P C a 0 = [.int .i64 (ca : Int), .int .i64 0, .int .i64 0, .int .i64 0, .int .i64 0]) := by show _ = _; rw [hca]; rfl
              obtain ⟨gy, hgy⟩ : ∃ q, q = wa.heap.size := ⟨_, rfl⟩
              obtain ⟨wY, hwY⟩ : ∃ x, x = wa.alloc (.cells (kyC T P C a 0).toArray 155) := ⟨_, rfl⟩
              have hbY : Below wa.heap.size wa wY := by rw [hwY]; exact (Below.refl _ _).alloc (Nat.le_refl _) _
              have HY0 : Hid (Row wY gy 155 (kyC T P C a 0)) := by rw [hwY, hgy]; exact Row.new wa 155 _
              have HRN0 := Lib.hid (HRN.out.below hbY HRN.out.lt); have HRC0 := Lib.hid (HRC.out.below hbY HRC.out.lt)
              have HB0 := Lib.hid (HB.out.trans (hbY.mono HB.out.size))
              have hgml := heap_lt HM.out
              have HM0 : Hid (wY.heap[gm]? = some om) := (hbY.block gm hgml).trans HM.out
              have HGY : Hid (x0.heap.size ≤ gy ∧ gm < gy ∧ gm + 1 < gy ∧ g3 < gy) := ⟨by have := HB.out.size; omega, by omega, by have := HRN.out.lt; omega, by have := HRC.out.lt; omega⟩
              have HWY : Hid (wY = wa.alloc (.cells #[.int .i64 (ca : Int), .int .i64 0, .int .i64 0, .int .i64 0, .int .i64 0] 155)) := by show _ = _; rw [hwY, HKC.out]
              have HGYE := Lib.hid hgy
              have k1 := (RB.out.below HB0.out RB.out.lt).cell 1
              clear hbY hgml hwY hgy hks hca
              go_upto_region 16 with fail
              try rw [← HWY.out]
              try rw [← HGYE.out]

              clear c0
              go_wp2_with fail
              clear k1
              go_loopg [49] T (fun m i wr => ∃ l : Nat, i = .int .i64 (l : Int) ∧ l ≤ T ∧ T ≤ m + l ∧ Hid (Row wr gy 155 (kyC T P C a l)) ∧ Hid (Row wr (gm + 1) 2 (iv (natW (ptL (nmV (kyF T P C) k) a)))) ∧ Hid (Row wr g3 2 (iv (natW C))) ∧ Hid (Below x0.heap.size x0 wr) ∧ Hid (wr.heap[gm]? = some om))
              case atStart => exact ⟨0, rfl, by omega, by omega, HY0.out, HRN0.out, HRC0.out, HB0.out, HM0.out⟩
              case round =>
                clear HY0 HRN0 HRC0 HB0 HM0 HRN HRC HB HM
                obtain ⟨l, rfl, hlT, hml, HY, HRN, HRC, HB, HM⟩ := hrel
                obtain ⟨wl, rfl⟩ : ∃ x : World, x = wr := ⟨_, rfl⟩
                have hTT := HLT.out
                by_cases hlt3 : l < T
                · have q3 : (l : Int) < (T : Int) := by omega
                  have rbl := RB.out.below HB.out RB.out.lt
                  have k0 := rbl.cell 0; have k1 := rbl.cell 1; have k2 := rbl.cell 2; have k3 := rbl.cell 3
                  have CT := HC.out wl a l HB.out hlt2 hlt3
                  have hts := (plT_bd HTE.out.hl rfl HTE.out.hP hlt2 hlt3).2
                  have hto := kyC_set (P := P) (C := C) (i := a) hlt3 hTT.2
                  obtain ⟨t, htt⟩ : ∃ t, t = plT T P a l := ⟨_, rfl⟩
                  rw [← htt] at CT hts hto
                  have HTO := Lib.hid hto
                  have w1l : IntKind.i64.wrap (1 + (l : Int)) = ((1 + l : Nat) : Int) := by rw [show (1 + (l : Int)) = ((1 + l : Nat) : Int) by omega]; exact IntWalk.i64_in _ (by omega)
                  have wll : IntKind.i64.wrap ((l : Int) + 1) = (l : Int) + 1 := IntWalk.i64_in _ (by omega)
                  have u0 : (0 : Int) ≤ ((1 + l : Nat) : Int) := by omega
                  have u1 : ((1 + l : Nat) : Int) < 5 := by omega
                  obtain ⟨ul, hul⟩ : ∃ x, x = 1 + l := ⟨_, rfl⟩
                  rw [← hul] at w1l u0 u1 HTO
                  have HUL : Hid (ul < 5) := by show _ < _; omega
                  clear htt rbl hto hTT hul
                  go_wp2_with fail
                  refine CT.mono ?_
                  rintro e wm ⟨rfl, hbm⟩
                  have HYm := Lib.hid (HY.out.below hbm HY.out.lt); have HRNm := Lib.hid (HRN.out.below hbm HRN.out.lt); have HRCm := Lib.hid (HRC.out.below hbm HRC.out.lt)
                  have HBm := Lib.hid (HB.out.trans (hbm.mono HB.out.size))
                  have HMm : Hid (wm.heap[gm]? = some om) := (hbm.block gm (heap_lt HM.out)).trans HM.out
                  have d0 := row_nat HRCm.out (k := t) (by rw [HCLn.out]; exact hts)
                  have y0 := HYm.out.cell ul
                  have f0 := HYm.out.frozen ul
                  obtain ⟨cv, hcv⟩ : ∃ x, x = C.getD t 0 := ⟨_, rfl⟩
                  rw [← hcv] at d0
                  have HTO2 : Hid ((kyC T P C a l).set ul (.int .i64 (cv : Int)) = kyC T P C a (l + 1)) := by show _ = _; rw [hcv]; exact HTO.out
                  have t0 : (0 : Int) ≤ (t : Int) := by omega
                  have t1 : (t : Int) < (k : Int) := by omega
                  have hyl : ∃ v, (kyC T P C a l)[ul]? = some v := ⟨_, List.getElem?_eq_getElem HUL.out⟩
                  obtain ⟨yv, hyv⟩ := hyl
                  rw [hyv] at y0
                  clear CT hbm k0 k1 k2 k3 HY HRN HRC HB HM hyv hcv
                  go_wp2_with fail
                  go_roundg (gk - 1)
                  case measure => omega
                  case rel =>
                    refine ⟨l + 1, by go_num, by omega, by omega, ?_, HRNm.out.far (p := ⟨gy, ul, none⟩) (show gm + 1 ≠ gy by have := HGY.out; omega) _, HRCm.out.far (p := ⟨gy, ul, none⟩) (show g3 ≠ gy by have := HGY.out; omega) _, HBm.out.setCell (p := ⟨gy, ul, none⟩) HGY.out.1 _, ?_⟩
                    · show Row _ _ _ _
                      rw [← HTO2.out]
                      exact HYm.out.set_ ul _
                    · show _ = _
                      exact (Below.heap_setCell _ ⟨gy, ul, none⟩ _ _ (show gm ≠ gy by have := HGY.out; omega)).trans HMm.out
                · have hlT' : l = T := by omega
                  subst hlT'
                  clear hlt3
                  obtain ⟨es, clock, rfl, hes⟩ := names_len HNO.out
                  have HES : (es.size : Int) = ((nmK (kyF l P C) a).length : Int) := by rw [hes]
                  have hyf := HY.out
                  rw [kyC_full] at hyf
                  obtain ⟨ky, hkyd⟩ : ∃ x, x = kyF l P C a := ⟨_, rfl⟩
                  rw [← hkyd] at hyf
                  have y0 := hyf.cell 0; have y1 := hyf.cell 1; have y2 := hyf.cell 2; have y3 := hyf.cell 3; have y4 := hyf.cell 4
                  have HKD := Lib.hid hkyd
                  have HOKY : Hid (ok5 ky) := by rw [hkyd]; exact HOK.out a
                  have HOKL : Hid (∀ y ∈ nmK (kyF l P C) a, ok5 y) := by
                    have : ∀ n, ∀ y ∈ nmK (kyF l P C) n, ok5 y := by
                      intro n
                      induction n with
                      | zero => intro y hy; cases hy
                      | succ n ih =>
                        intro y hy
                        show _
                        have hy' : y ∈ addL (nmK (kyF l P C) n) (kyF l P C n) := hy
                        exact addL_all (ok := ok5) ih (HOK.out n) y hy'
                    exact this a
                  have HND : Hid ((nmK (kyF l P C) a).Nodup) := nmK_nodup _ a
                  obtain ⟨L, hL⟩ : ∃ x, x = nmK (kyF l P C) a := ⟨_, rfl⟩
                  have HLE := Lib.hid hL
                  rw [← hL] at HES HOKL HND HNO
                  have n0 := HRN.out.frozen a
                  have hln : (ptL (nmV (kyF l P C) k) a).length = k := by rw [ptL_len _ (by rw [nmV_len]; omega), nmV_len]
                  have n1 := row_nat HRN.out (k := a) (by omega)
                  obtain ⟨nv, hnv⟩ : ∃ x, x = (ptL (nmV (kyF l P C) k) a).getD a 0 := ⟨_, rfl⟩
                  rw [← hnv] at n1
                  clear hnv
                  have HNX : Hid (nmK (kyF l P C) (a + 1) = addL L ky) := by show addL _ _ = _; rw [hL, hkyd]
                  have HAT : Hid ((nmV (kyF l P C) k)[a]? = some (ixL (addL L ky) ky)) := by
                    show _ = _
                    rw [nmV_ix _ hlt2, hL, hkyd]
                  have waa2 := waa
                  clear hyf hkyd hL hes hln

                  by_cases hin : ky ∈ L
                  · have HIN := Lib.hid hin
                    obtain ⟨q, hq⟩ : ∃ q, q = ixL L ky := ⟨_, rfl⟩
                    have HQE : Hid ((q : Int) = ((ixL L ky : Nat) : Int)) := by show _ = _; rw [hq]
                    have HAQ : Hid ((nmV (kyF l P C) k)[a]? = some q) := by
                      have h := HAT.out
                      rw [addL_in hin] at h
                      rw [hq]; exact h
                    have HNX2 : Hid (nmK (kyF l P C) (a + 1) = L) := by show _ = _; rw [HNX.out, addL_in hin]
                    clear hin hq
                    go_wp2_with (first
                      | (refine wpList_names_look2 KU wl rfl (.tmp 64) (.tmp 65) rfl gm HOKL.out HND.out HM.out HNO.out (y := ky) HOKY.out (q : Int) true (.inl ⟨rfl, HIN.out, HQE.out⟩) rfl rfl ?_))
                    clear y0 y1 y2 y3 y4 n0 n1 HES
                    go_roundg (ga - 1)
                    case measure => omega
                    case rel =>
                      refine ⟨a + 1, .map es clock, by go_num, by omega, by omega, ?_, HRC.out.far (p := ⟨gm + 1, a, none⟩) (show g3 ≠ gm + 1 by have := HGM.out; omega) _, HB.out.setCell (p := ⟨gm + 1, a, none⟩) (show x0.heap.size ≤ gm + 1 by have := HGM.out; omega) _, ?_, ?_⟩
                      · show Row _ _ _ _
                        rw [← ptL_set HAQ.out, ← natW_set]
                        exact HRN.out.set_ a _
                      · show _ = _
                        exact (Below.heap_setCell _ ⟨gm + 1, a, none⟩ _ _ (show gm ≠ gm + 1 by omega)).trans HM.out
                      · rw [HNX2.out]; exact HNO.out
                  · have HIN := Lib.hid hin
                    have HAQ : Hid ((nmV (kyF l P C) k)[a]? = some L.length) := by
                      have h := HAT.out
                      rw [ixL_new hin] at h
                      exact h
                    have HNX2 : Hid (nmK (kyF l P C) (a + 1) = L ++ [ky]) := by show _ = _; rw [HNX.out, addL_new hin]
                    have hln : ∀ ty, Sem.run Try.prog (Builtin.len_ #[154] ty #[.map (some gm)]) wl = Result.ok (Value.int .i64 (L.length : Int)) wl := fun ty => by
                      rw [run_len_map wl _ _ gm es clock mapLen HM.out]
                      show Result.ok (Value.int .i64 (es.size : Int)) wl = _
                      rw [HES]
                    clear hin
                    go_wp2_with (first
                      | (refine wpList_names_look2 KU wl rfl (.tmp 64) (.tmp 65) rfl gm HOKL.out HND.out HM.out HNO.out (y := ky) HOKY.out 0 false (.inr ⟨rfl, HIN.out, rfl⟩) rfl rfl ?_)
                      | (refine wpList_names_put2 KU wl rfl (.tmp 73) (.tmp 74) (.tmp 75) (.inl rfl) gm (L := L) HOKL.out HND.out HM.out HNO.out (y := ky) HOKY.out HIN.out rfl rfl rfl ?_; intro w9 om9 hb9 ho9 hbut; have HM9 := Lib.hid hb9; have HN9 := Lib.hid ho9; have HBU := Lib.hid hbut; have hrn9 : Row w9 (gm + 1) 2 (iv (natW (ptL (nmV (kyF l P C) k) a))) := (hbut.2.2.2.2 (gm + 1) HRN.out.lt (by omega)).trans HRN.out; have HRN9 := Lib.hid hrn9; have HRC9 : Hid (Row w9 g3 2 (iv (natW C))) := (hbut.2.2.2.2 g3 HRC.out.lt (by have := HGM.out; omega)).trans HRC.out; have m0 := hrn9.frozen a; have m1 : w9.cell? ⟨gm + 1, a, none⟩ = some (.int .i64 (nv : Int)) := (World.cell?_of_block (a := ⟨gm + 1, a, none⟩) (hbut.2.2.2.2 (gm + 1) HRN.out.lt (by omega))).trans n1; clear hb9 ho9 hbut hrn9))
                    clear y0 y1 y2 y3 y4 n0 n1 HES hln
                    go_roundg (ga - 1)
                    case measure => omega
                    case rel =>
                      refine ⟨a + 1, om9, by go_num, by omega, by omega, ?_, HRC9.out.far (p := ⟨gm + 1, a, none⟩) (show g3 ≠ gm + 1 by have := HGM.out; omega) _, (HB.out.trans (HBU.out.below HGM.out.1 HB.out.size)).setCell (p := ⟨gm + 1, a, none⟩) (show x0.heap.size ≤ gm + 1 by have := HGM.out; omega) _, ?_, ?_⟩
                      · show Row _ _ _ _
                        rw [← ptL_set HAQ.out, ← natW_set]
                        exact HRN9.out.set_ a _
                      · show _ = _
                        exact (Below.heap_setCell _ ⟨gm + 1, a, none⟩ _ _ (show gm ≠ gm + 1 by omega)).trans HM9.out
                      · rw [HNX2.out]; exact HN9.out
            · have haS' : a = k := by omega
              subst haS'
              clear hlt2
              have l3 : (a : Int) ≤ (a : Int) := by omega
              go_wp2_with fail
              go_roundg (gq - 1)
              case measure => omega
              case rel =>
                refine ⟨r + 1, gm + 1, rfl, by go_num, by omega, by omega, ?_, by have := HGM.out; show _ ≤ _; omega, HB.out⟩
                show Row _ _ _ _
                have h := HRN.out
                have e : ptL (nmV (kyF T P C) a) a = nmV (kyF T P C) a := by have := ptL_all (nmV (kyF T P C) a); rwa [nmV_len] at this
                rw [e] at h
                rw [HN.out]; exact h
        · have hrk : r = k := by omega
          subst hrk
          have l3 : (r : Int) ≤ (r : Int) := by omega
          clear hlt
          go_wp2_with fail
          go_ret
          exact ⟨g3, rfl, HR.out, Nat.le_trans (by rw [HSX.out]; omega) HG3.out, BX.out.trans (HB.out.mono (by rw [HSX.out]; omega))⟩

end Go.Proofs.Ytbdfbmohdbigfaa