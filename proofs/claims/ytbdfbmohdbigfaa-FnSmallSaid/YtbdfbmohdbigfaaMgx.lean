/- Several texts in one: What FnPlains says, plainly. Learning a plain machine by questions, plainly: words whose rows differ, the machine that they tell, and why it ends. -/
import Derived.Test.YtbdfbmohdbigfaaFmP
import Derived.Test.YtbdfbmohdbigfaaMgq
import Derived.Test.YtbdfbmohdbigfaaMgu
import Derived.Test.YtbdfbmohdbigfaaExwP
import Derived.Test.YtbdfbmohdbigfaaMgw

namespace Go.Proofs.Ytbdfbmohdbigfaa
open Go.RowKit
set_option linter.unusedVariables false
/-- Whether a machine reads a word. -/
def rdP (T : Nat) (P : List Int) (E : List Bool) (ys : List Nat) : Bool := E.getD (ys.foldl (plT T P) 0) false
theorem plF_lt {S T n2 : Nat} {P : List Int} (hn : n2 = S * T) (hl : P.length = n2) (hP : ∀ x ∈ P, 0 ≤ x ∧ x < (S : Int)) : ∀ (ys : List Nat) (s : Nat), s < S → (∀ y ∈ ys, y < T) → ys.foldl (plT T P) s < S
  | [], s, hs, _ => hs
  | y :: ys, s, hs, hy => plF_lt hn hl hP ys _ (plT_bd hn hl hP hs (hy y (by simp))).2 (fun z hz => hy z (List.mem_cons_of_mem _ hz))
theorem rnW_from {S T n2 : Nat} {P : List Int} (hn : n2 = S * T) (hl : P.length = n2) (hP : ∀ x ∈ P, 0 ≤ x ∧ x < (S : Int)) : ∀ (ys : List Nat) (s : Nat), s < S → (∀ y ∈ ys, y < T) → (natW ys).foldl (fun s x => P.getD (s * (T : Int) + x).toNat 0) (s : Int) = ((ys.foldl (plT T P) s : Nat) : Int)
  | [], s, hs, _ => rfl
  | y :: ys, s, hs, hy => by
    have hb := plT_bd hn hl hP hs (hy y (by simp))
    have ih := rnW_from hn hl hP ys _ hb.2 (fun z hz => hy z (List.mem_cons_of_mem _ hz))
    have e : ((s : Int) * (T : Int) + (y : Int)).toNat = s * T + y := by
      rw [show ((s : Int) * (T : Int) + (y : Int)) = ((s * T + y : Nat) : Int) by simp]; exact Int.toNat_natCast _
    show (natW ys).foldl _ (P.getD ((s : Int) * (T : Int) + (y : Int)).toNat 0) = _
    rw [e, ← hb.1]
    exact ih
theorem rnW_nat {S T n2 : Nat} {P : List Int} (hn : n2 = S * T) (hl : P.length = n2) (hP : ∀ x ∈ P, 0 ≤ x ∧ x < (S : Int)) (h0 : 0 < S) {ys : List Nat} (hy : ∀ y ∈ ys, y < T) : rnW P (T : Int) (natW ys) = ((ys.foldl (plT T P) 0 : Nat) : Int) := rnW_from hn hl hP ys 0 h0 hy
theorem natW_of {xs : List Int} {T : Nat} (h : ∀ x ∈ xs, 0 ≤ x ∧ x < (T : Int)) : natW (xs.map Int.toNat) = xs ∧ ∀ y ∈ xs.map Int.toNat, y < T := by
  constructor
  · unfold natW
    rw [List.map_map]
    exact (List.map_congr_left (fun x hx => by have := h x hx; show ((x.toNat : Nat) : Int) = x; omega)).trans (List.map_id xs)
  · intro y hy
    obtain ⟨x, hx, rfl⟩ := List.mem_map.1 hy
    have := h x hx
    omega
theorem fReads {S T : Nat} {A2 : Option Addr} {n2 : Nat} (c2 : Nat) {A3 : Option Addr} {n3 : Nat} (c3 : Nat) {P : List Int} {E : List Bool} {A : Option Addr} {n : Nat} (c : Nat) {xs : List Int} {x : World} (h : PlOk x S T A2 n2 A3 n3 P E) (hx : SlI x x.heap.size A n xs) (ys : List Nat) (hxy : natW ys = xs) (hy : ∀ y ∈ ys, y < T) (hl : xs.length ≤ 12) (r : Bool) (hr : rdP T P E ys = r) :
    Calls Try.prog 13 #[.agg #[.int .i64 (S : Int), .int .i64 (T : Int), .slice A2 n2 c2, .slice A3 n3 c3], .slice A n c] x fun e y => e = .returned (.tuple #[.bool r, .bool true]) ∧ Below x.heap.size x y := by
  have hP : allIn P 0 ((S : Int) - 1) = true := by
    unfold allIn
    rw [List.all_eq_true]
    intro z hz
    have := h.hP z hz
    exact decide_eq_true (by omega)
  have hw : wordB xs (T : Int) = true := wordB_mk' h.hT hl (by
    rw [← hxy]
    intro z hz
    obtain ⟨y, hy1, rfl⟩ := List.mem_map.1 hz
    have := hy y hy1
    omega)
  have C := iReadsWord_yes S T A2 n2 c2 A3 n3 c3 P E A n c xs x h.h2 h.h3 hx h.hS h.hT h.hn hP h.hE hw
  rw [← hxy, rnW_nat h.hn h.h2.len h.hP (by have := h.hS; omega) hy, Int.toNat_natCast] at C
  rw [← hr]
  exact C
where
  wordB_mk' {xs : List Int} {t : Nat} (ht : 1 ≤ t ∧ t ≤ 4) (hl : xs.length ≤ 12) (hx : ∀ x ∈ xs, 0 ≤ x ∧ x < (t : Int)) : wordB xs t = true := by
    simp only [wordB, allIn, Bool.and_eq_true, decide_eq_true_eq, List.all_eq_true]
    refine ⟨decide_eq_true (by omega), hl, fun x h => decide_eq_true ?_⟩
    have := hx x h
    omega
section
variable {α : Type} [DecidableEq α] {nx : α → Nat → α} {first : α} {T : Nat} {ok : α → Prop}
theorem addL_all {ls : List α} {x : α} (h : ∀ y ∈ ls, ok y) (hx : ok x) : ∀ y ∈ addL ls x, ok y := by
  unfold addL
  split
  · exact h
  · intro y hy
    rcases List.mem_append.1 hy with q | q
    · exact h y q
    · rw [show y = x from by simpa using q]; exact hx
theorem exR_all (hnx : ∀ k l, ok k → l < T → ok (nx k l)) {k : α} (hk : ok k) {st : List α × List Int} (h : ∀ y ∈ st.1, ok y) : ∀ l, l ≤ T → ∀ y ∈ (exR nx k st l).1, ok y
  | 0, _ => h
  | l + 1, hl => by
    rw [exR]
    exact addL_all (exR_all hnx hk h l (by omega)) (hnx k l hk (by omega))
theorem exA_all (hf : ok first) (hnx : ∀ k l, ok k → l < T → ok (nx k l)) : ∀ n, ∀ y ∈ (exA nx first T n).1, ok y
  | 0 => fun y hy => by rw [show y = first from by simpa [exA] using hy]; exact hf
  | n + 1 => by
    rw [exA]
    split
    · exact exA_all hf hnx n
    · rename_i k hk
      exact exR_all hnx (exA_all hf hnx n k (List.mem_of_getElem? hk)) (exA_all hf hnx n) T (Nat.le_refl _)
/-- If there are few states in all, then all are found. -/
theorem exE_is {B : Nat} (hB : B ≤ 64) (hlen : ∀ n, n ≤ (exA nx first T n).1.length → (exA nx first T n).1.length ≤ B) : ∀ (f n : Nat), n + f = 65 → n ≤ (exA nx first T n).1.length → ∃ N, exE nx first T f n = some N ∧ N ≤ B
  | 0, n, hf, hn => by have := hlen n hn; omega
  | f + 1, n, hf, hn => by
    rw [exE]
    split
    · rename_i hlt
      have hn1 : n + 1 ≤ (exA nx first T (n + 1)).1.length := by
        obtain ⟨k, hk⟩ : ∃ k, (exA nx first T n).1[n]? = some k := ⟨_, List.getElem?_eq_getElem hlt⟩
        rw [exA_succ nx first T hk]
        have := (exR_len nx k (exA nx first T n) T).1
        omega
      have := hlen (n + 1) hn1
      rw [if_neg (by omega)]
      exact exE_is hB hlen f (n + 1) (by omega) hn1
    · exact ⟨n, rfl, by have := hlen n hn; omega⟩
theorem exAll_is {B : Nat} (hB : B ≤ 64) (h0 : ok first) (hnx : ∀ k l, ok k → l < T → ok (nx k l)) (g : α → Nat) (hg : ∀ a b, ok a → ok b → g a = g b → a = b) (hgB : ∀ a, ok a → g a < B) : ∃ N, exAll nx first T = some N ∧ N ≤ B := by
  refine exE_is hB (fun n hn => ?_) 65 0 rfl (Nat.zero_le _)
  have hi := exA_inv (nx := nx) (first := first) (T := T) n hn
  have hok := exA_all (nx := nx) (T := T) (ok := ok) h0 hnx n
  have := nodup_le B ((exA nx first T n).1.map g) (List.pairwise_map.2 (List.Pairwise.imp_of_mem (fun {a b} ha hb hne he => hne (hg a b (hok a ha) (hok b hb) he)) hi.nd)) (fun x hx => by
    obtain ⟨a, ha, rfl⟩ := List.mem_map.1 hx
    exact hgB a (hok a ha))
  simpa using this
/-- The explored machine. -/
theorem ex_res (en : α → Bool) {N : Nat} (h : exAll nx first T = some N) :
    1 ≤ N ∧ N ≤ 64 ∧ (exA nx first T N).2.length = N * T ∧ (∀ x ∈ (exA nx first T N).2, 0 ≤ x ∧ x < (N : Int)) ∧ ((exA nx first T N).1.map en).length = N ∧ ∀ ys : List Nat, (∀ y ∈ ys, y < T) → rdP T (exA nx first T N).2 ((exA nx first T N).1.map en) ys = en (ys.foldl nx first) := by
  obtain ⟨h1, h2, h3, h4, h5, h6, h7⟩ := ex_whole h
  refine ⟨h2, h3, h6, fun x hx => ?_, by rw [List.length_map]; exact h1, fun ys hy => ?_⟩
  · obtain ⟨i, hi⟩ := List.getElem?_of_mem hx
    have hil := (List.getElem?_eq_some_iff.1 hi).1
    rw [h6] at hil
    have hT : 0 < T := by
      rcases Nat.eq_zero_or_pos T with e | e
      · rw [e] at hil; omega
      · exact e
    have hs : i / T < N := Nat.div_lt_of_lt_mul (by rw [Nat.mul_comm]; exact hil)
    obtain ⟨k, e1, e2, e3⟩ := h7 (i / T) (i % T) hs (Nat.mod_lt _ hT)
    rw [show i / T * T + i % T = i from by rw [Nat.mul_comm]; exact Nat.div_add_mod _ _, hi] at e3
    injection e3 with e3
    have := List.idxOf_lt_length_of_mem e2
    rw [e3]
    omega
  · obtain ⟨t, e1, e2⟩ := ex_reads h ys hy first 0 h5
    have e3 : ys.foldl (plT T (exA nx first T N).2) 0 = t := e1
    unfold rdP
    rw [e3, List.getD_eq_getElem?_getD, List.getElem?_map, e2]; rfl
end
/-- PlainOf of a small machine. -/
theorem po_is {s T : Nat} {L : List A4} {P E : List Int} (hv : vmB (s : Int) (T : Int) L P E = true) (hs : P.length = s) (h4 : s ≤ 4) : ∃ N, exAll (pxN L P.length) (pxF L P) T = some N ∧ N ≤ 16 := by
  obtain ⟨hL, -⟩ := vm_okM hv
  have hp : 2 ^ P.length ≤ 16 := Nat.le_trans (Nat.pow_le_pow_right (by omega) (show P.length ≤ 4 by omega)) (by decide)
  have h := exAll_is (nx := pxN L P.length) (first := pxF L P) (T := T) (ok := fun v => v < 2 ^ P.length) (B := 2 ^ P.length) (by omega)
    (clN_lt hL (mkN_is _ _).lt _) (fun k l hk hl => by
      have h : nxT L (l : Int) k < 2 ^ P.length := by
        have := nxT_lt (n := P.length) hL (l : Int) k L.length
        rw [List.take_of_length_le (Nat.le_refl _)] at this
        exact this
      exact clN_lt hL h _) id (fun a b _ _ h => h) (fun a ha => ha)
  obtain ⟨N, h1, h2⟩ := h
  exact ⟨N, h1, by omega⟩
theorem cst_iff {T : Nat} {S : Int} {L : List A4} {P E : List Int} (hv : vmB S (T : Int) L P E = true) {w : List Int} (hw : w.length ≤ 12) : 0 ≤ cst L P E w ↔ ∃ c, Wc L P E w c := by
  rcases cv_co (okw_vm hv T) hw with ⟨h1, h2⟩ | ⟨h1, h2, -⟩
  · constructor
    · intro h; exact absurd (show 0 ≤ coV 1099511627776 L P E w from h) (by omega)
    · rintro ⟨c, hc⟩; exact absurd hc (h2 c)
  · exact ⟨fun _ => ⟨_, h2⟩, fun _ => h1⟩
/-- The plain machine reads what the machine weighs. -/
theorem po_reads {T : Nat} {S : Int} {L : List A4} {P E : List Int} (hv : vmB S (T : Int) L P E = true) {ys : List Nat} (hw : ys.length ≤ 12) : pxE E (ys.foldl (pxN L P.length) (pxF L P)) = decide (0 ≤ cst L P E (natW ys)) := by
  obtain ⟨hL, -, -, -, hPE, -⟩ := vm_okM hv
  rw [pxW_foldl]
  have h1 := pxW_reads hL hPE ys.reverse
  have h2 := cst_iff hv (w := natW ys) (by unfold natW; simpa using hw)
  have h3 : ∀ c, Tw P.length L P E (natW ys.reverse) c ↔ Wc L P E (natW ys) c := fun c => by
    have := tw_wc hL hPE.symm (natW ys) c
    rw [← this]
    unfold natW
    rw [List.map_reverse]
  rw [Bool.eq_iff_iff, h1, decide_eq_true_iff, h2]
  exact ⟨fun ⟨c, hc⟩ => ⟨c, (h3 c).1 hc⟩, fun ⟨c, hc⟩ => ⟨c, (h3 c).2 hc⟩⟩
/-- The other machine. -/
theorem rd_other {S T n2 : Nat} {P : List Int} {E : List Bool} (hn : n2 = S * T) (hl : P.length = n2) (hP : ∀ x ∈ P, 0 ≤ x ∧ x < (S : Int)) (h0 : 0 < S) (hE : E.length = S) {ys : List Nat} (hy : ∀ y ∈ ys, y < T) : rdP T P (E.map (!·)) ys = !rdP T P E ys := by
  have h := plF_lt hn hl hP ys 0 h0 hy
  unfold rdP
  rw [List.getD_eq_getElem?_getD, List.getD_eq_getElem?_getD, List.getElem?_map, List.getElem?_eq_getElem (by omega)]; rfl
/-- The machine of both. -/
theorem plX_fold (T : Nat) (Pa Pb : List Int) : ∀ (ys : List Nat) (p : Nat × Nat), ys.foldl (plX T Pa Pb) p = (ys.foldl (plT T Pa) p.1, ys.foldl (plT T Pb) p.2)
  | [], p => rfl
  | y :: ys, p => plX_fold T Pa Pb ys (plX T Pa Pb p y)
theorem mt_is {Sa Sb T n2 m2 : Nat} {Pa Pb : List Int} (ha : n2 = Sa * T) (hla : Pa.length = n2) (hPa : ∀ x ∈ Pa, 0 ≤ x ∧ x < (Sa : Int)) (hb : m2 = Sb * T) (hlb : Pb.length = m2) (hPb : ∀ x ∈ Pb, 0 ≤ x ∧ x < (Sb : Int)) (h0 : 0 < Sa) (h0' : 0 < Sb) (h5 : Sa ≤ 8) (h5' : Sb ≤ 8) : ∃ N, exAll (plX T Pa Pb) (0, 0) T = some N ∧ N ≤ 64 :=
  exAll_is (nx := plX T Pa Pb) (first := (0, 0)) (T := T) (ok := fun p => p.1 < Sa ∧ p.2 < Sb) (B := 64) (Nat.le_refl _) ⟨h0, h0'⟩ (fun k l hk hl => ⟨(plT_bd ha hla hPa hk.1 hl).2, (plT_bd hb hlb hPb hk.2 hl).2⟩) (fun p => p.1 * 8 + p.2)
    (fun a b h1 h2 e => by
      have e' : a.1 * 8 + a.2 = b.1 * 8 + b.2 := e
      exact Prod.ext (by omega) (by omega)) (fun a h => by show a.1 * 8 + a.2 < 64; omega)
/-- Words of a machine and of the other one are all words. -/
theorem cw_both {E : List Bool} {v : List Int} : ∀ i, i ≤ E.length → cwS E v i + cwS (E.map (!·)) v i = smT v i
  | 0, _ => rfl
  | i + 1, h => by
    have ih := cw_both (E := E) (v := v) i (by omega)
    have e1 : E.getD i false = E[i]'(by omega) := by rw [List.getD_eq_getElem?_getD, List.getElem?_eq_getElem (by omega)]; rfl
    have e2 : (E.map (!·)).getD i false = !E[i]'(by omega) := by rw [List.getD_eq_getElem?_getD, List.getElem?_map, List.getElem?_eq_getElem (by omega)]; rfl
    rw [cwS, cwS, e1, e2]
    show _ = smT v i + g0 v i
    cases E[i]'(by omega) <;> simp <;> omega
theorem cw_pos {E : List Bool} {v : List Int} (h : ∀ k, 0 ≤ g0 v k) : ∀ i, 0 < cwS E v i ↔ ∃ k, k < i ∧ E.getD k false = true ∧ 0 < g0 v k
  | 0 => ⟨fun h => absurd h (by unfold cwS; omega), fun ⟨k, hk, _⟩ => by omega⟩
  | i + 1 => by
    have ih := cw_pos (E := E) h i
    have hb := (cwS_bd (E := E) h i).1
    have hg := h i
    rw [cwS]
    split
    · rename_i he
      constructor
      · intro hp
        by_cases hq : 0 < cwS E v i
        · obtain ⟨k, h1, h2⟩ := ih.1 hq; exact ⟨k, by omega, h2⟩
        · exact ⟨i, by omega, he, by omega⟩
      · rintro ⟨k, h1, h2, h3⟩
        rcases Nat.lt_or_ge k i with q | q
        · have := ih.2 ⟨k, q, h2, h3⟩; omega
        · rw [show k = i by omega] at h3; omega
    · rename_i he
      rw [ih]
      constructor
      · rintro ⟨k, h1, h2⟩; exact ⟨k, by omega, h2⟩
      · rintro ⟨k, h1, h2, h3⟩
        rcases Nat.lt_or_ge k i with q | q
        · exact ⟨k, q, h2, h3⟩
        · rw [show k = i by omega] at h2; exact absurd h2 he
/-- How many words are read: not none just if one is. -/
theorem cw_reads {S T n2 : Nat} {P : List Int} {E : List Bool} (hn : n2 = S * T) (hl : P.length = n2) (hP : ∀ x ∈ P, 0 ≤ x ∧ x < (S : Int)) (h0 : 0 < S) (j : Nat) : 0 ≤ cwS E (cuN (plT T P) S T j) S ∧ (0 < cwS E (cuN (plT T P) S T j) S ↔ ∃ ys : List Nat, ys.length = j ∧ (∀ y ∈ ys, y < T) ∧ rdP T P E ys = true) := by
  have ht : ∀ i l, i < S → l < T → plT T P i l < S := fun i l h1 h2 => (plT_bd hn hl hP h1 h2).2
  obtain ⟨h1, h2⟩ := cuN_at h0 ht j
  refine ⟨(cwS_bd h1 S).1, ?_⟩
  rw [cw_pos h1 S]
  constructor
  · rintro ⟨k, hk, he, hg⟩
    obtain ⟨ys, e1, e2, e3⟩ := (h2 k hk).1 hg
    exact ⟨ys, e1, e2, by unfold rdP; rw [show ys.foldl (plT T P) 0 = k from e3]; exact he⟩
  · rintro ⟨ys, e1, e2, e3⟩
    have hk := plF_lt hn hl hP ys 0 h0 e2
    exact ⟨_, hk, e3, (h2 _ hk).2 ⟨ys, e1, e2, rfl⟩⟩
theorem cw_all {S T n2 : Nat} {P : List Int} {E : List Bool} (hn : n2 = S * T) (hl : P.length = n2) (hP : ∀ x ∈ P, 0 ≤ x ∧ x < (S : Int)) (h0 : 0 < S) (hE : E.length = S) (j : Nat) : cwS E (cuN (plT T P) S T j) S + cwS (E.map (!·)) (cuN (plT T P) S T j) S = ((T ^ j : Nat) : Int) := by
  have ht : ∀ i l, i < S → l < T → plT T P i l < S := fun i l h1 h2 => (plT_bd hn hl hP h1 h2).2
  rw [cw_both S (by omega), ← cuN_sum h0 ht j]
  have e := smT_all (cuN (plT T P) S T j)
  rw [cuN_len] at e
  exact e
/-- The first word. -/
theorem plT_zero (T j : Nat) : plT T (List.replicate T 0) 0 j = 0 := by
  unfold plT
  rw [List.getD_eq_getElem?_getD, List.getElem?_replicate]
  split <;> rfl
theorem plF_zero (T : Nat) : ∀ ys : List Nat, ys.foldl (plT T (List.replicate T 0)) 0 = 0
  | [] => rfl
  | y :: ys => by rw [List.foldl_cons, plT_zero]; exact plF_zero T ys
theorem fw_law {S T n2 : Nat} {P : List Int} {E : List Bool} (hn : n2 = S * T) (hl : P.length = n2) (hP : ∀ x ∈ P, 0 ≤ x ∧ x < (S : Int)) (h0 : 0 < S) (h64 : S ≤ 64) :
    match faAll (plX T P (List.replicate T 0)) (plD E [false]) (0, 0) T with
    | none => ∀ ys : List Nat, (∀ y ∈ ys, y < T) → ys.length ≤ 12 → rdP T P E ys = false
    | some wd => wd.length ≤ 12 ∧ (∃ xs : List Nat, wd = natW xs ∧ (∀ x ∈ xs, x < T) ∧ rdP T P E xs = true) ∧ ∀ ys : List Nat, (∀ y ∈ ys, y < T) → ys.length ≤ 12 → rdP T P E ys = true → wd.length ≤ ys.length := by
  have hdf : ∀ ys : List Nat, plD E [false] (ys.foldl (plX T P (List.replicate T 0)) (0, 0)) = rdP T P E ys := fun ys => by
    rw [plX_fold]
    unfold plD rdP
    simp only [plF_zero]
    cases E.getD (ys.foldl (plT T P) 0) false <;> rfl
  have h := faAll_law (nx := plX T P (List.replicate T 0)) (df := plD E [false]) (T := T) (Sa := S) (Sb := 1) h64 (by omega) ⟨h0, by omega⟩ (fun p j h1 h2 h3 => ⟨(plT_bd hn hl hP h1 h3).2, by
    show plT T (List.replicate T 0) p.2 j < 1
    rw [show p.2 = 0 by omega, plT_zero]; omega⟩)
  cases hf : faAll (plX T P (List.replicate T 0)) (plD E [false]) (0, 0) T with
  | none =>
    rw [hf] at h
    intro ys h1 h2
    have := h ys h1 h2
    rw [hdf] at this; exact this
  | some wd =>
    rw [hf] at h
    obtain ⟨h1, ⟨xs, h2, h3, h4⟩, h5⟩ := h
    refine ⟨h1, ⟨xs, h2, h3, by rw [← hdf]; exact h4⟩, fun ys q1 q2 q3 => h5 ys q1 q2 (by rw [hdf]; exact q3)⟩
end Go.Proofs.Ytbdfbmohdbigfaa


namespace Go.Proofs.Ytbdfbmohdbigfaa
set_option linter.unusedVariables false
section
variable (T : Nat) (P : List Int) (E : List Bool)
/-- What the teacher says of a word behind which each test is put. -/
def rkW (Q : List (List Nat)) (w : List Nat) : List Bool := Q.map fun q => rdP T P E (w ++ q)
def gsR (Q : List (List Nat)) (w : List Nat) (st : List (List Nat) × List Int) : Nat → List (List Nat) × List Int
  | 0 => st
  | l + 1 => if rkW T P E Q (w ++ [l]) ∈ (gsR Q w st l).1.map (rkW T P E Q) then ((gsR Q w st l).1, (gsR Q w st l).2 ++ [((ixL ((gsR Q w st l).1.map (rkW T P E Q)) (rkW T P E Q (w ++ [l])) : Nat) : Int)])
    else ((gsR Q w st l).1 ++ [w ++ [l]], (gsR Q w st l).2 ++ [(((gsR Q w st l).1.length : Nat) : Int)])
def gsA (Q W : List (List Nat)) : Nat → List (List Nat) × List Int
  | 0 => (W, [])
  | n + 1 => match (gsA Q W n).1[n]? with
    | none => gsA Q W n
    | some w => gsR T P E Q w (gsA Q W n) T
def gsE (Q W : List (List Nat)) : Nat → Nat → Nat
  | 0, n => n
  | f + 1, n => if n < (gsA T P E Q W n).1.length then gsE Q W f (n + 1) else n
/-- How many words there are in the end. -/
def gsN (Q W : List (List Nat)) : Nat := gsE T P E Q W 65 0
/-- The ends of a word that are no tests yet become tests. -/
def tsA (wd : List Nat) (Q : List (List Nat)) : Nat → List (List Nat)
  | 0 => Q
  | k + 1 => if wd.drop k ∈ tsA wd Q k then tsA wd Q k else tsA wd Q k ++ [wd.drop k]
/-- The guess of words and tests. -/
def gsW (Q W : List (List Nat)) : List (List Nat) := (gsA T P E Q W (gsN T P E Q W)).1
def gsP (Q W : List (List Nat)) : List Int := (gsA T P E Q W (gsN T P E Q W)).2
def gsD (Q W : List (List Nat)) : List Bool := (gsW T P E Q W).map (rdP T P E)
def lnF (Q W : List (List Nat)) : Option (List Int) := faAll (plX T P (gsP T P E Q W)) (plD E (gsD T P E Q W)) (0, 0) T
def lnQ (Q W : List (List Nat)) (wd : List Int) : List (List Nat) := tsA (wd.map Int.toNat) Q wd.length
def lnE : Nat → List (List Nat) → List (List Nat) → Nat → Option (List Int × List Bool × Nat)
  | 0, _, _, _ => none
  | f + 1, Q, W, c => match lnF T P E Q W with
    | none => some (gsP T P E Q W, gsD T P E Q W, c)
    | some wd => lnE f (lnQ Q W wd) (gsW T P E Q W) (c + 1)
def lnAll : Option (List Int × List Bool × Nat) := lnE T P E 65 [[]] [[]] 1
end
/-- The teacher. -/
structure TeO (S T : Nat) (P : List Int) (E : List Bool) : Prop where
  hS : 1 ≤ S ∧ S ≤ 64
  hT : 1 ≤ T ∧ T ≤ 4
  hl : P.length = S * T
  hP : ∀ x ∈ P, 0 ≤ x ∧ x < (S : Int)
  hE : E.length = S
/-- What holds of words: they begin with the empty one, each is short, and their rows differ. -/
structure WdO (T : Nat) (P : List Int) (E : List Bool) (Q W : List (List Nat)) : Prop where
  nd : (W.map (rkW T P E Q)).Nodup
  fst : W[0]? = some []
  let_ : ∀ w ∈ W, ∀ x ∈ w, x < T
  short : ∀ (i : Nat) (w : List Nat), W[i]? = some w → w.length ≤ i
section
variable {S T : Nat} {P : List Int} {E : List Bool} {Q W : List (List Nat)}
theorem rd_app (w q : List Nat) : rdP T P E (w ++ q) = E.getD (q.foldl (plT T P) (w.foldl (plT T P) 0)) false := by unfold rdP; rw [List.foldl_append]
theorem rk_state {w w' : List Nat} (h : w.foldl (plT T P) 0 = w'.foldl (plT T P) 0) : rkW T P E Q w = rkW T P E Q w' := by
  unfold rkW
  exact List.map_congr_left (fun q _ => by rw [rd_app, rd_app, h])
/-- There are no more words than states. -/
theorem WdO.len (h : TeO S T P E) (hw : WdO T P E Q W) : W.length ≤ S := by
  have := nodup_le S (W.map fun w => w.foldl (plT T P) 0) (by
    have hn := hw.nd
    rw [List.Nodup, List.pairwise_map] at hn ⊢
    exact hn.imp (fun {a b} hab e => hab (rk_state e))) (fun x hx => by
    obtain ⟨w, hw', rfl⟩ := List.mem_map.1 hx
    exact plF_lt rfl h.hl h.hP w 0 (by have := h.hS; omega) (hw.let_ w hw'))
  simpa using this
theorem gsR_in {w : List Nat} {st : List (List Nat) × List Int} {l : Nat} (h : rkW T P E Q (w ++ [l]) ∈ (gsR T P E Q w st l).1.map (rkW T P E Q)) : gsR T P E Q w st (l + 1) = ((gsR T P E Q w st l).1, (gsR T P E Q w st l).2 ++ [((ixL ((gsR T P E Q w st l).1.map (rkW T P E Q)) (rkW T P E Q (w ++ [l])) : Nat) : Int)]) := by
  rw [gsR]; exact if_pos h
theorem gsR_new {w : List Nat} {st : List (List Nat) × List Int} {l : Nat} (h : rkW T P E Q (w ++ [l]) ∉ (gsR T P E Q w st l).1.map (rkW T P E Q)) : gsR T P E Q w st (l + 1) = ((gsR T P E Q w st l).1 ++ [w ++ [l]], (gsR T P E Q w st l).2 ++ [(((gsR T P E Q w st l).1.length : Nat) : Int)]) := by
  rw [gsR]; exact if_neg h
/-- While words are found: n are done, and l letters of word n. -/
structure GsI (T : Nat) (P : List Int) (E : List Bool) (Q W : List (List Nat)) (st : List (List Nat) × List Int) (n l : Nat) : Prop where
  wd : WdO T P E Q st.1
  app : ∃ r, st.1 = W ++ r
  len : st.2.length = n * T + l
  at_ : ∀ s j, j < T → s * T + j < n * T + l → ∃ (w w' : List Nat) (k : Nat), st.1[s]? = some w ∧ st.1[k]? = some w' ∧ rkW T P E Q w' = rkW T P E Q (w ++ [j]) ∧ st.2[s * T + j]? = some (k : Int)
theorem ix_at {α : Type} [DecidableEq α] {L : List α} {x : α} (h : x ∈ L) : L[ixL L x]? = some x ∧ ixL L x < L.length := by
  have h1 := List.idxOf_lt_length_of_mem h
  exact ⟨by unfold ixL; rw [List.getElem?_eq_getElem h1, List.getElem_idxOf h1], h1⟩
theorem GsI.start (hw : WdO T P E Q W) : GsI T P E Q W (W, []) 0 0 := ⟨hw, ⟨[], by simp⟩, by simp, fun s j _ h => absurd h (by omega)⟩
theorem GsI.split {st : List (List Nat) × List Int} {n l s j : Nat} (hj : j < T) (hl : l < T) (h : s * T + j < n * T + (l + 1)) : s * T + j < n * T + l ∨ (s = n ∧ j = l) := by
  rcases Nat.lt_or_ge (s * T + j) (n * T + l) with hlt | hge
  · exact .inl hlt
  · right
    have he : s * T + j = n * T + l := by omega
    have hsn : s = n := by
      rcases Nat.lt_trichotomy s n with q | q | q
      · have : (s + 1) * T ≤ n * T := Nat.mul_le_mul_right T (by omega)
        rw [Nat.succ_mul] at this; omega
      · exact q
      · have : (n + 1) * T ≤ s * T := Nat.mul_le_mul_right T (by omega)
        rw [Nat.succ_mul] at this; omega
    subst hsn
    exact ⟨rfl, by omega⟩
theorem GsI.old {st : List (List Nat) × List Int} {n l : Nat} (h : GsI T P E Q W st n l) {w : List Nat} (hw : st.1[n]? = some w) (hl : l < T) (hin : rkW T P E Q (w ++ [l]) ∈ st.1.map (rkW T P E Q)) : GsI T P E Q W (st.1, st.2 ++ [((ixL (st.1.map (rkW T P E Q)) (rkW T P E Q (w ++ [l])) : Nat) : Int)]) n (l + 1) := by
  obtain ⟨i1, i2⟩ := ix_at hin
  refine ⟨h.wd, h.app, by simp [h.len]; omega, fun s j hj hs => ?_⟩
  rcases GsI.split (st := st) hj hl hs with q | ⟨rfl, rfl⟩
  · obtain ⟨a, b, k, e1, e2, e3, e4⟩ := h.at_ s j hj q
    exact ⟨a, b, k, e1, e2, e3, by rw [List.getElem?_append_left (by rw [h.len]; exact q)]; exact e4⟩
  · rw [List.getElem?_map] at i1
    obtain ⟨w', hw', e⟩ := Option.map_eq_some_iff.1 i1
    exact ⟨w, w', _, hw, hw', e, by rw [List.getElem?_append_right (by rw [h.len]; exact Nat.le_refl _), h.len, Nat.sub_self]; rfl⟩
theorem GsI.fresh {st : List (List Nat) × List Int} {n l : Nat} (h : GsI T P E Q W st n l) {w : List Nat} (hw : st.1[n]? = some w) (hl : l < T) (hin : rkW T P E Q (w ++ [l]) ∉ st.1.map (rkW T P E Q)) : GsI T P E Q W (st.1 ++ [w ++ [l]], st.2 ++ [((st.1.length : Nat) : Int)]) n (l + 1) := by
  have hn := (List.getElem?_eq_some_iff.1 hw).1
  obtain ⟨r, hr⟩ := h.app
  refine ⟨⟨?_, ?_, ?_, ?_⟩, ⟨r ++ [w ++ [l]], by rw [hr, List.append_assoc]⟩, by simp [h.len]; omega, fun s j hj hs => ?_⟩
  · rw [List.map_append, List.nodup_append]
    refine ⟨h.wd.nd, by simp, fun a ha b hb => ?_⟩
    have : b = rkW T P E Q (w ++ [l]) := by simpa using hb
    subst this
    exact fun e => hin (e ▸ ha)
  · exact get_left h.wd.fst
  · intro x hx
    rcases List.mem_append.1 hx with hx | hx
    · exact h.wd.let_ x hx
    · rw [show x = w ++ [l] from by simpa using hx]
      intro y hy
      rcases List.mem_append.1 hy with hy | hy
      · exact h.wd.let_ w (List.mem_of_getElem? hw) y hy
      · rw [show y = l from by simpa using hy]; exact hl
  · intro i x hx
    rcases get_snoc hx with hx | ⟨hi, rfl⟩
    · exact h.wd.short i x hx
    · have := h.wd.short n w hw
      simp; omega
  · rcases GsI.split (st := st) hj hl hs with q | ⟨rfl, rfl⟩
    · obtain ⟨a, b, k, e1, e2, e3, e4⟩ := h.at_ s j hj q
      exact ⟨a, b, k, get_left e1, get_left e2, e3, by rw [List.getElem?_append_left (by rw [h.len]; exact q)]; exact e4⟩
    · exact ⟨w, w ++ [j], st.1.length, get_left hw, by simp, rfl, by rw [List.getElem?_append_right (by rw [h.len]; exact Nat.le_refl _), h.len, Nat.sub_self]; rfl⟩
theorem gsR_app (w : List Nat) (st : List (List Nat) × List Int) : ∀ l, ∃ r, (gsR T P E Q w st l).1 = st.1 ++ r
  | 0 => ⟨[], by simp [gsR]⟩
  | l + 1 => by
    obtain ⟨r, hr⟩ := gsR_app w st l
    rw [gsR]
    split
    · exact ⟨r, hr⟩
    · exact ⟨r ++ [w ++ [l]], by show _ ++ _ = _; rw [hr, List.append_assoc]⟩
theorem GsI.row {st : List (List Nat) × List Int} {n : Nat} (h : GsI T P E Q W st n 0) {w : List Nat} (hw : st.1[n]? = some w) : ∀ l, l ≤ T → GsI T P E Q W (gsR T P E Q w st l) n l
  | 0, _ => h
  | l + 1, hl => by
    have ih := GsI.row h hw l (by omega)
    obtain ⟨r, hr⟩ := gsR_app (T := T) (P := P) (E := E) (Q := Q) w st l
    have hw' : (gsR T P E Q w st l).1[n]? = some w := by rw [hr]; exact get_left hw
    by_cases hin : rkW T P E Q (w ++ [l]) ∈ (gsR T P E Q w st l).1.map (rkW T P E Q)
    · rw [gsR_in hin]; exact ih.old hw' (by omega) hin
    · rw [gsR_new hin]; exact ih.fresh hw' (by omega) hin
theorem GsI.next {st : List (List Nat) × List Int} {n : Nat} (h : GsI T P E Q W st n T) : GsI T P E Q W st (n + 1) 0 := by
  have e : (n + 1) * T + 0 = n * T + T := by rw [Nat.succ_mul]; rfl
  exact ⟨h.wd, h.app, by rw [e]; exact h.len, fun s j hj hs => h.at_ s j hj (by omega)⟩
theorem gsA_succ {n : Nat} {w : List Nat} (h : (gsA T P E Q W n).1[n]? = some w) : gsA T P E Q W (n + 1) = gsR T P E Q w (gsA T P E Q W n) T := by rw [gsA, h]
theorem gsA_inv (hw : WdO T P E Q W) : ∀ n, n ≤ (gsA T P E Q W n).1.length → GsI T P E Q W (gsA T P E Q W n) n 0
  | 0, _ => GsI.start hw
  | n + 1, h => by
    cases hk : (gsA T P E Q W n).1[n]? with
    | none =>
      exfalso
      have h2 := List.getElem?_eq_none_iff.1 hk
      have e : gsA T P E Q W (n + 1) = gsA T P E Q W n := by rw [gsA, hk]
      rw [e] at h; omega
    | some w =>
      rw [gsA_succ hk]
      have hn := (List.getElem?_eq_some_iff.1 hk).1
      exact ((gsA_inv hw n (by omega)).row hk T (Nat.le_refl _)).next
theorem gsE_is (h : TeO S T P E) (hw : WdO T P E Q W) : ∀ (f n : Nat), n + f = 65 → n ≤ (gsA T P E Q W n).1.length → gsE T P E Q W f n = (gsA T P E Q W (gsE T P E Q W f n)).1.length
  | 0, n, hf, hn => by have := (gsA_inv hw n hn).wd.len h; have := h.hS; omega
  | f + 1, n, hf, hn => by
    rw [gsE]
    split
    · rename_i hlt
      refine gsE_is h hw f (n + 1) (by omega) ?_
      obtain ⟨w, hk⟩ : ∃ w, (gsA T P E Q W n).1[n]? = some w := ⟨_, List.getElem?_eq_getElem hlt⟩
      rw [gsA_succ hk]
      obtain ⟨r, hr⟩ := gsR_app (T := T) (P := P) (E := E) (Q := Q) w (gsA T P E Q W n) T
      rw [hr, List.length_append]; omega
    · omega
/-- The guess. -/
theorem gs_whole (h : TeO S T P E) (hw : WdO T P E Q W) : gsN T P E Q W = (gsW T P E Q W).length ∧ GsI T P E Q W (gsW T P E Q W, gsP T P E Q W) (gsW T P E Q W).length 0 := by
  have e := gsE_is h hw 65 0 rfl (Nat.zero_le _)
  have e' : gsN T P E Q W = (gsW T P E Q W).length := e
  refine ⟨e', ?_⟩
  have hi := gsA_inv hw (gsN T P E Q W) (Nat.le_of_eq e)
  rw [← e']
  exact hi
/-- The guess is a plain machine. -/
theorem gs_ok (h : TeO S T P E) (hw : WdO T P E Q W) : TeO (gsW T P E Q W).length T (gsP T P E Q W) (gsD T P E Q W) := by
  obtain ⟨e, hi⟩ := gs_whole h hw
  have h0 : 0 < (gsW T P E Q W).length := (List.getElem?_eq_some_iff.1 hi.wd.fst).1
  have hle : (gsW T P E Q W).length ≤ S := hi.wd.len h
  have hl : (gsP T P E Q W).length = (gsW T P E Q W).length * T := by have := hi.len; simpa using this
  refine ⟨⟨h0, by have := h.hS; omega⟩, h.hT, hl, fun x hx => ?_, by unfold gsD; simp⟩
  obtain ⟨i, hi'⟩ := List.getElem?_of_mem hx
  have hil := (List.getElem?_eq_some_iff.1 hi').1
  rw [hl] at hil
  have hT := h.hT.1
  have hs : i / T < (gsW T P E Q W).length := Nat.div_lt_of_lt_mul (by rw [Nat.mul_comm]; exact hil)
  have hsT : (i / T + 1) * T ≤ (gsW T P E Q W).length * T := Nat.mul_le_mul_right T hs
  rw [Nat.succ_mul] at hsT
  have hm := Nat.mod_lt i (show 0 < T by omega)
  obtain ⟨a, b, k, e1, e2, e3, e4⟩ := hi.at_ (i / T) (i % T) hm (by omega)
  rw [show i / T * T + i % T = i from by rw [Nat.mul_comm]; exact Nat.div_add_mod _ _] at e4
  have e4' : (gsP T P E Q W)[i]? = some (k : Int) := e4
  rw [hi'] at e4'
  injection e4' with e4'
  have := (List.getElem?_eq_some_iff.1 e2).1
  rw [e4']
  exact ⟨by omega, by have h2 : k < (gsW T P E Q W).length := this; omega⟩
theorem tsA_app (wd : List Nat) (Q : List (List Nat)) : ∀ k, ∃ r, tsA wd Q k = Q ++ r
  | 0 => ⟨[], by simp [tsA]⟩
  | k + 1 => by
    obtain ⟨r, hr⟩ := tsA_app wd Q k
    rw [tsA]
    split
    · exact ⟨r, hr⟩
    · exact ⟨r ++ [wd.drop k], by rw [hr, List.append_assoc]⟩
theorem tsA_has (wd : List Nat) (Q : List (List Nat)) : ∀ k i, i < k → wd.drop i ∈ tsA wd Q k
  | 0, i, h => by omega
  | k + 1, i, h => by
    rw [tsA]
    rcases Nat.lt_or_ge i k with q | q
    · have := tsA_has wd Q k i q
      split
      · exact this
      · exact List.mem_append_left _ this
    · rw [show i = k by omega]
      split
      · rename_i hin; exact hin
      · simp
theorem rk_mem {Q' : List (List Nat)} (hs : ∀ q ∈ Q, q ∈ Q') {w w' : List Nat} (h : rkW T P E Q' w = rkW T P E Q' w') : rkW T P E Q w = rkW T P E Q w' := by
  unfold rkW at h ⊢
  refine List.map_congr_left (fun q hq => ?_)
  have := List.map_inj_left.1 h q (hs q hq)
  exact this
/-- More tests: the words' rows still differ. -/
theorem WdO.more (hw : WdO T P E Q W) {Q' : List (List Nat)} (hs : ∀ q ∈ Q, q ∈ Q') : WdO T P E Q' W :=
  ⟨by
    have hn := hw.nd
    rw [List.Nodup, List.pairwise_map] at hn ⊢
    exact hn.imp (fun {a b} hab e => hab (rk_mem hs e)), hw.fst, hw.let_, hw.short⟩
theorem WdO.start (T : Nat) (P : List Int) (E : List Bool) : WdO T P E [[]] [[]] where
  nd := by simp
  fst := rfl
  let_ := fun w hw x hx => by
    rw [show w = [] from by simpa using hw] at hx
    cases hx
  short := fun i w hi => by
    cases i with
    | zero => simp at hi; subst hi; simp
    | succ i => simp at hi
/-- If the words stay as they are, then the guess reads an end of the word as the teacher does. -/
theorem gs_same (h : TeO S T P E) (hw : WdO T P E Q W) {wd : List Nat} (hwd : ∀ x ∈ wd, x < T) {Q' : List (List Nat)} (hs : ∀ q ∈ Q, q ∈ Q') (hd : ∀ i, i < wd.length → wd.drop i ∈ Q') (he : [] ∈ Q')
    (hst : gsW T P E Q' (gsW T P E Q W) = gsW T P E Q W) : rdP T (gsP T P E Q W) (gsD T P E Q W) wd = rdP T P E wd := by
  obtain ⟨-, h1⟩ := gs_whole h hw
  have hw' : WdO T P E Q' (gsW T P E Q W) := h1.wd.more hs
  obtain ⟨-, h2⟩ := gs_whole h hw'
  rw [hst] at h2
  have hok := gs_ok h hw
  obtain ⟨WW, hWW⟩ : ∃ x, x = gsW T P E Q W := ⟨_, rfl⟩
  obtain ⟨PP, hPP⟩ : ∃ x, x = gsP T P E Q W := ⟨_, rfl⟩
  have hDD : gsD T P E Q W = WW.map (rdP T P E) := by unfold gsD; rw [hWW]
  rw [hDD]
  rw [← hWW, ← hPP] at h1
  rw [← hWW] at h2
  rw [hDD, ← hWW, ← hPP] at hok
  rw [← hPP]
  have key : ∀ (m : Nat) (i s : Nat) (w : List Nat), i ≤ wd.length → wd.length - i = m → WW[s]? = some w → (WW.map (rdP T P E)).getD ((wd.drop i).foldl (plT T PP) s) false = rdP T P E (w ++ wd.drop i) := by
    intro m
    induction m with
    | zero =>
      intro i s w hi hm hs'
      have e : wd.drop i = [] := List.drop_of_length_le (by omega)
      rw [e, List.getD_eq_getElem?_getD, List.foldl_nil, List.getElem?_map, hs', List.append_nil]; rfl
    | succ m ih =>
      intro i s w hi hm hs'
      have hil : i < wd.length := by omega
      have e : wd.drop i = wd[i] :: wd.drop (i + 1) := List.drop_eq_getElem_cons hil
      have hj : wd[i] < T := hwd _ (List.getElem_mem hil)
      have hsl := (List.getElem?_eq_some_iff.1 hs').1
      have hsT : (s + 1) * T ≤ WW.length * T := Nat.mul_le_mul_right T hsl
      rw [Nat.succ_mul] at hsT
      obtain ⟨a, b, k, q1, q2, q3, q4⟩ := h1.at_ s wd[i] hj (by omega)
      obtain ⟨a', b', k', r1, r2, r3, r4⟩ := h2.at_ s wd[i] hj (by omega)
      have q1' : WW[s]? = some a := q1
      have r1' : WW[s]? = some a' := r1
      rw [hs'] at q1' r1'
      injection q1' with q1'
      injection r1' with r1'
      rw [← q1'] at q3
      rw [← r1'] at r3
      have hkk : rkW T P E Q b = rkW T P E Q b' := by rw [q3]; exact (rk_mem hs r3).symm
      have hk : k = k' := by
        have n1 : (WW.map (rkW T P E Q))[k]? = some (rkW T P E Q b) := by rw [List.getElem?_map, show WW[k]? = some b from q2]; rfl
        have n2 : (WW.map (rkW T P E Q))[k']? = some (rkW T P E Q b) := by rw [List.getElem?_map, show WW[k']? = some b' from r2, hkk]; rfl
        have h3 := idx_of h1.wd.nd n1
        have h4 := idx_of h1.wd.nd n2
        omega
      subst hk
      have hbb : b = b' := by rw [show WW[k]? = some b from q2] at r2; injection r2
      subst hbb
      have hpt : plT T PP s wd[i] = k := by
        unfold plT
        rw [List.getD_eq_getElem?_getD, show PP[s * T + wd[i]]? = some (k : Int) from q4]; simp
      rw [e, List.foldl_cons, hpt, ih (i + 1) k b (by omega) (by omega) q2]
      have hin : wd.drop (i + 1) ∈ Q' := by
        rcases Nat.lt_or_ge (i + 1) wd.length with q | q
        · exact hd _ q
        · rw [List.drop_of_length_le q]; exact he
      have := List.map_inj_left.1 (show Q'.map (fun q => rdP T P E (b ++ q)) = Q'.map (fun q => rdP T P E (w ++ [wd[i]] ++ q)) from r3) _ hin
      rw [this]
      congr 1
      simp
  have := key _ 0 0 [] (Nat.zero_le _) rfl h1.wd.fst
  rw [List.drop_zero] at this
  exact this
theorem faAll_nat {xs : List Nat} : (natW xs).map Int.toNat = xs := by
  unfold natW
  rw [List.map_map]
  exact (List.map_congr_left (fun x _ => by simp)).trans (List.map_id xs)
/-- What firstApart tells of the teacher and the guess. -/
theorem lnF_law (h : TeO S T P E) (hw : WdO T P E Q W) : match lnF T P E Q W with
    | none => True
    | some wd => wd.length ≤ 12 ∧ ∃ xs : List Nat, wd = natW xs ∧ (∀ x ∈ xs, x < T) ∧ rdP T P E xs ≠ rdP T (gsP T P E Q W) (gsD T P E Q W) xs := by
  have hok := gs_ok h hw
  have hl := faAll_law (nx := plX T P (gsP T P E Q W)) (df := plD E (gsD T P E Q W)) (T := T) (Sa := S) (Sb := (gsW T P E Q W).length) h.hS.2 hok.hS.2 ⟨by have := h.hS; omega, by have := hok.hS; omega⟩ (fun p j h1 h2 h3 => ⟨(plT_bd rfl h.hl h.hP h1 h3).2, (plT_bd rfl hok.hl hok.hP h2 h3).2⟩)
  cases hf : lnF T P E Q W with
  | none => trivial
  | some wd =>
    unfold lnF at hf
    rw [hf] at hl
    obtain ⟨h1, ⟨xs, h2, h3, h4⟩, -⟩ := hl
    refine ⟨h1, xs, h2, h3, ?_⟩
    rw [plX_fold] at h4
    unfold rdP
    intro e
    unfold plD at h4
    simp only [e] at h4
    simp at h4
/-- Each round finds more words. -/
theorem ln_grows (h : TeO S T P E) (hw : WdO T P E Q W) (he : [] ∈ Q) {wd : List Int} (hf : lnF T P E Q W = some wd) : (gsW T P E Q W).length < (gsW T P E (lnQ Q W wd) (gsW T P E Q W)).length ∧ WdO T P E (lnQ Q W wd) (gsW T P E Q W) ∧ [] ∈ lnQ Q W wd := by
  have hl := lnF_law h hw
  rw [hf] at hl
  obtain ⟨h12, xs, rfl, hx, hne⟩ := hl
  have hq : lnQ Q W (natW xs) = tsA xs Q xs.length := by unfold lnQ; rw [faAll_nat]; unfold natW; simp
  rw [hq]
  obtain ⟨r, hr⟩ := tsA_app xs Q xs.length
  have hs : ∀ q ∈ Q, q ∈ tsA xs Q xs.length := fun q hq => by rw [hr]; exact List.mem_append_left _ hq
  obtain ⟨-, h1⟩ := gs_whole h hw
  have hw' : WdO T P E (tsA xs Q xs.length) (gsW T P E Q W) := h1.wd.more hs
  refine ⟨?_, hw', hs _ he⟩
  obtain ⟨-, h2⟩ := gs_whole h hw'
  obtain ⟨r2, hr2⟩ := h2.app
  have hr2' : gsW T P E (tsA xs Q xs.length) (gsW T P E Q W) = gsW T P E Q W ++ r2 := hr2
  rcases Nat.eq_zero_or_pos r2.length with e | e
  · exfalso
    rw [List.length_eq_zero_iff.1 e, List.append_nil] at hr2'
    exact hne (gs_same h hw hx hs (fun i hi => tsA_has xs Q xs.length i hi) (hs _ he) hr2').symm
  · rw [hr2', List.length_append]; omega
/-- It ends. -/
theorem lnE_is (h : TeO S T P E) : ∀ (f : Nat) (Q W : List (List Nat)) (c : Nat), WdO T P E Q W → [] ∈ Q → 65 ≤ (gsW T P E Q W).length + f → ∃ r, lnE T P E f Q W c = some r
  | 0, Q, W, c, hw, he, hf => by have := (gs_ok h hw).hS; omega
  | f + 1, Q, W, c, hw, he, hf => by
    rw [lnE]
    cases hl : lnF T P E Q W with
    | none => exact ⟨_, rfl⟩
    | some wd =>
      obtain ⟨h1, h2, h3⟩ := ln_grows h hw he hl
      exact lnE_is h f _ _ _ h2 h3 (by omega)
end
end Go.Proofs.Ytbdfbmohdbigfaa
