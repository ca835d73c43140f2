/- What FnPlains says, plainly. -/
import Derived.Test.YtbdfbmohdbigfaaFmP
import Derived.Test.YtbdfbmohdbigfaaMgs
import Derived.Test.YtbdfbmohdbigfaaFpC
import Derived.Test.YtbdfbmohdbigfaaExwP
import Derived.Test.YtbdfbmohdbigfaaPxI

namespace Go.Proofs.Ytbdfbmohdbigfaa
open Go.RowKit
set_option linter.unusedVariables false
/-- Whether a machine reads a word. -/
def rdP (T : Nat) (P : List Int) (E : List Bool) (ys : List Nat) : Bool := E.getD (ys.foldl (plT T P) 0) false
theorem plF_lt {S T n2 : Nat} {P : List Int} (hn : n2 = S * T) (hl : P.length = n2) (hP : ∀ x ∈ P, 0 ≤ x ∧ x < (S : Int)) : ∀ (ys : List Nat) (s : Nat), s < S → (∀ y ∈ ys, y < T) → ys.foldl (plT T P) s < S
  | [], s, hs, _ => hs
  | y :: ys, s, hs, hy => plF_lt hn hl hP ys _ (plT_bd hn hl hP hs (hy y (by simp))).2 (fun z hz => hy z (List.mem_cons_of_mem _ hz))
theorem rnW_from {S T n2 : Nat} {P : List Int} (hn : n2 = S * T) (hl : P.length = n2) (hP : ∀ x ∈ P, 0 ≤ x ∧ x < (S : Int)) : ∀ (ys : List Nat) (s : Nat), s < S → (∀ y ∈ ys, y < T) → (natW ys).foldl (fun s x => P.getD (s * (T : Int) + x).toNat 0) (s : Int) = ((ys.foldl (plT T P) s : Nat) : Int)
  | [], s, hs, _ => rfl
  | y :: ys, s, hs, hy => by
    have hb := plT_bd hn hl hP hs (hy y (by simp))
    have ih := rnW_from hn hl hP ys _ hb.2 (fun z hz => hy z (List.mem_cons_of_mem _ hz))
    have e : ((s : Int) * (T : Int) + (y : Int)).toNat = s * T + y := by
      rw [show ((s : Int) * (T : Int) + (y : Int)) = ((s * T + y : Nat) : Int) by simp]; exact Int.toNat_natCast _
    show (natW ys).foldl _ (P.getD ((s : Int) * (T : Int) + (y : Int)).toNat 0) = _
    rw [e, ← hb.1]
    exact ih
theorem rnW_nat {S T n2 : Nat} {P : List Int} (hn : n2 = S * T) (hl : P.length = n2) (hP : ∀ x ∈ P, 0 ≤ x ∧ x < (S : Int)) (h0 : 0 < S) {ys : List Nat} (hy : ∀ y ∈ ys, y < T) : rnW P (T : Int) (natW ys) = ((ys.foldl (plT T P) 0 : Nat) : Int) := rnW_from hn hl hP ys 0 h0 hy
theorem natW_of {xs : List Int} {T : Nat} (h : ∀ x ∈ xs, 0 ≤ x ∧ x < (T : Int)) : natW (xs.map Int.toNat) = xs ∧ ∀ y ∈ xs.map Int.toNat, y < T := by
  constructor
  · unfold natW
    rw [List.map_map]
    exact (List.map_congr_left (fun x hx => by have := h x hx; show ((x.toNat : Nat) : Int) = x; omega)).trans (List.map_id xs)
  · intro y hy
    obtain ⟨x, hx, rfl⟩ := List.mem_map.1 hy
    have := h x hx
    omega
theorem fReads {S T : Nat} {A2 : Option Addr} {n2 : Nat} (c2 : Nat) {A3 : Option Addr} {n3 : Nat} (c3 : Nat) {P : List Int} {E : List Bool} {A : Option Addr} {n : Nat} (c : Nat) {xs : List Int} {x : World} (h : PlOk x S T A2 n2 A3 n3 P E) (hx : SlI x x.heap.size A n xs) (ys : List Nat) (hxy : natW ys = xs) (hy : ∀ y ∈ ys, y < T) (hl : xs.length ≤ 12) (r : Bool) (hr : rdP T P E ys = r) :
    Calls Try.prog 13 #[.agg #[.int .i64 (S : Int), .int .i64 (T : Int), .slice A2 n2 c2, .slice A3 n3 c3], .slice A n c] x fun e y => e = .returned (.tuple #[.bool r, .bool true]) ∧ Below x.heap.size x y := by
  have hP : allIn P 0 ((S : Int) - 1) = true := by
    unfold allIn
    rw [List.all_eq_true]
    intro z hz
    have := h.hP z hz
    exact decide_eq_true (by omega)
  have hw : wordB xs (T : Int) = true := wordB_mk' h.hT hl (by
    rw [← hxy]
    intro z hz
    obtain ⟨y, hy1, rfl⟩ := List.mem_map.1 hz
    have := hy y hy1
    omega)
  have C := iReadsWord_yes S T A2 n2 c2 A3 n3 c3 P E A n c xs x h.h2 h.h3 hx h.hS h.hT h.hn hP h.hE hw
  rw [← hxy, rnW_nat h.hn h.h2.len h.hP (by have := h.hS; omega) hy, Int.toNat_natCast] at C
  rw [← hr]
  exact C
where
  wordB_mk' {xs : List Int} {t : Nat} (ht : 1 ≤ t ∧ t ≤ 4) (hl : xs.length ≤ 12) (hx : ∀ x ∈ xs, 0 ≤ x ∧ x < (t : Int)) : wordB xs t = true := by
    simp only [wordB, allIn, Bool.and_eq_true, decide_eq_true_eq, List.all_eq_true]
    refine ⟨decide_eq_true (by omega), hl, fun x h => decide_eq_true ?_⟩
    have := hx x h
    omega
section
variable {α : Type} [DecidableEq α] {nx : α → Nat → α} {first : α} {T : Nat} {ok : α → Prop}
theorem addL_all {ls : List α} {x : α} (h : ∀ y ∈ ls, ok y) (hx : ok x) : ∀ y ∈ addL ls x, ok y := by
  unfold addL
  split
  · exact h
  · intro y hy
    rcases List.mem_append.1 hy with q | q
    · exact h y q
    · rw [show y = x from by simpa using q]; exact hx
theorem exR_all (hnx : ∀ k l, ok k → l < T → ok (nx k l)) {k : α} (hk : ok k) {st : List α × List Int} (h : ∀ y ∈ st.1, ok y) : ∀ l, l ≤ T → ∀ y ∈ (exR nx k st l).1, ok y
  | 0, _ => h
  | l + 1, hl => by
    rw [exR]
    exact addL_all (exR_all hnx hk h l (by omega)) (hnx k l hk (by omega))
theorem exA_all (hf : ok first) (hnx : ∀ k l, ok k → l < T → ok (nx k l)) : ∀ n, ∀ y ∈ (exA nx first T n).1, ok y
  | 0 => fun y hy => by rw [show y = first from by simpa [exA] using hy]; exact hf
  | n + 1 => by
    rw [exA]
    split
    · exact exA_all hf hnx n
    · rename_i k hk
      exact exR_all hnx (exA_all hf hnx n k (List.mem_of_getElem? hk)) (exA_all hf hnx n) T (Nat.le_refl _)
/-- If there are few states in all, then all are found. -/
theorem exE_is {B : Nat} (hB : B ≤ 64) (hlen : ∀ n, n ≤ (exA nx first T n).1.length → (exA nx first T n).1.length ≤ B) : ∀ (f n : Nat), n + f = 65 → n ≤ (exA nx first T n).1.length → ∃ N, exE nx first T f n = some N ∧ N ≤ B
  | 0, n, hf, hn => by have := hlen n hn; omega
  | f + 1, n, hf, hn => by
    rw [exE]
    split
    · rename_i hlt
      have hn1 : n + 1 ≤ (exA nx first T (n + 1)).1.length := by
        obtain ⟨k, hk⟩ : ∃ k, (exA nx first T n).1[n]? = some k := ⟨_, List.getElem?_eq_getElem hlt⟩
        rw [exA_succ nx first T hk]
        have := (exR_len nx k (exA nx first T n) T).1
        omega
      have := hlen (n + 1) hn1
      rw [if_neg (by omega)]
      exact exE_is hB hlen f (n + 1) (by omega) hn1
    · exact ⟨n, rfl, by have := hlen n hn; omega⟩
theorem exAll_is {B : Nat} (hB : B ≤ 64) (h0 : ok first) (hnx : ∀ k l, ok k → l < T → ok (nx k l)) (g : α → Nat) (hg : ∀ a b, ok a → ok b → g a = g b → a = b) (hgB : ∀ a, ok a → g a < B) : ∃ N, exAll nx first T = some N ∧ N ≤ B := by
  refine exE_is hB (fun n hn => ?_) 65 0 rfl (Nat.zero_le _)
  have hi := exA_inv (nx := nx) (first := first) (T := T) n hn
  have hok := exA_all (nx := nx) (T := T) (ok := ok) h0 hnx n
  have := nodup_le B ((exA nx first T n).1.map g) (List.pairwise_map.2 (List.Pairwise.imp_of_mem (fun {a b} ha hb hne he => hne (hg a b (hok a ha) (hok b hb) he)) hi.nd)) (fun x hx => by
    obtain ⟨a, ha, rfl⟩ := List.mem_map.1 hx
    exact hgB a (hok a ha))
  simpa using this
/-- The explored machine. -/
theorem ex_res (en : α → Bool) {N : Nat} (h : exAll nx first T = some N) :
    1 ≤ N ∧ N ≤ 64 ∧ (exA nx first T N).2.length = N * T ∧ (∀ x ∈ (exA nx first T N).2, 0 ≤ x ∧ x < (N : Int)) ∧ ((exA nx first T N).1.map en).length = N ∧ ∀ ys : List Nat, (∀ y ∈ ys, y < T) → rdP T (exA nx first T N).2 ((exA nx first T N).1.map en) ys = en (ys.foldl nx first) := by
  obtain ⟨h1, h2, h3, h4, h5, h6, h7⟩ := ex_whole h
  refine ⟨h2, h3, h6, fun x hx => ?_, by rw [List.length_map]; exact h1, fun ys hy => ?_⟩
  · obtain ⟨i, hi⟩ := List.getElem?_of_mem hx
    have hil := (List.getElem?_eq_some_iff.1 hi).1
    rw [h6] at hil
    have hT : 0 < T := by
      rcases Nat.eq_zero_or_pos T with e | e
      · rw [e] at hil; omega
      · exact e
    have hs : i / T < N := Nat.div_lt_of_lt_mul (by rw [Nat.mul_comm]; exact hil)
    obtain ⟨k, e1, e2, e3⟩ := h7 (i / T) (i % T) hs (Nat.mod_lt _ hT)
    rw [show i / T * T + i % T = i from by rw [Nat.mul_comm]; exact Nat.div_add_mod _ _, hi] at e3
    injection e3 with e3
    have := List.idxOf_lt_length_of_mem e2
    rw [e3]
    omega
  · obtain ⟨t, e1, e2⟩ := ex_reads h ys hy first 0 h5
    have e3 : ys.foldl (plT T (exA nx first T N).2) 0 = t := e1
    unfold rdP
    rw [e3, List.getD_eq_getElem?_getD, List.getElem?_map, e2]; rfl
end
/-- PlainOf of a small machine. -/
theorem po_is {s T : Nat} {L : List A4} {P E : List Int} (hv : vmB (s : Int) (T : Int) L P E = true) (hs : P.length = s) (h4 : s ≤ 4) : ∃ N, exAll (pxN L P.length) (pxF L P) T = some N ∧ N ≤ 16 := by
  obtain ⟨hL, -⟩ := vm_okM hv
  have hp : 2 ^ P.length ≤ 16 := Nat.le_trans (Nat.pow_le_pow_right (by omega) (show P.length ≤ 4 by omega)) (by decide)
  have h := exAll_is (nx := pxN L P.length) (first := pxF L P) (T := T) (ok := fun v => v < 2 ^ P.length) (B := 2 ^ P.length) (by omega)
    (clN_lt hL (mkN_is _ _).lt _) (fun k l hk hl => by
      have h : nxT L (l : Int) k < 2 ^ P.length := by
        have := nxT_lt (n := P.length) hL (l : Int) k L.length
        rw [List.take_of_length_le (Nat.le_refl _)] at this
        exact this
      exact clN_lt hL h _) id (fun a b _ _ h => h) (fun a ha => ha)
  obtain ⟨N, h1, h2⟩ := h
  exact ⟨N, h1, by omega⟩
theorem cst_iff {T : Nat} {S : Int} {L : List A4} {P E : List Int} (hv : vmB S (T : Int) L P E = true) {w : List Int} (hw : w.length ≤ 12) : 0 ≤ cst L P E w ↔ ∃ c, Wc L P E w c := by
  rcases cv_co (okw_vm hv T) hw with ⟨h1, h2⟩ | ⟨h1, h2, -⟩
  · constructor
    · intro h; exact absurd (show 0 ≤ coV 1099511627776 L P E w from h) (by omega)
    · rintro ⟨c, hc⟩; exact absurd hc (h2 c)
  · exact ⟨fun _ => ⟨_, h2⟩, fun _ => h1⟩
/-- The plain machine reads what the machine weighs. -/
theorem po_reads {T : Nat} {S : Int} {L : List A4} {P E : List Int} (hv : vmB S (T : Int) L P E = true) {ys : List Nat} (hw : ys.length ≤ 12) : pxE E (ys.foldl (pxN L P.length) (pxF L P)) = decide (0 ≤ cst L P E (natW ys)) := by
  obtain ⟨hL, -, -, -, hPE, -⟩ := vm_okM hv
  rw [pxW_foldl]
  have h1 := pxW_reads hL hPE ys.reverse
  have h2 := cst_iff hv (w := natW ys) (by unfold natW; simpa using hw)
  have h3 : ∀ c, Tw P.length L P E (natW ys.reverse) c ↔ Wc L P E (natW ys) c := fun c => by
    have := tw_wc hL hPE.symm (natW ys) c
    rw [← this]
    unfold natW
    rw [List.map_reverse]
  rw [Bool.eq_iff_iff, h1, decide_eq_true_iff, h2]
  exact ⟨fun ⟨c, hc⟩ => ⟨c, (h3 c).1 hc⟩, fun ⟨c, hc⟩ => ⟨c, (h3 c).2 hc⟩⟩
/-- The other machine. -/
theorem rd_other {S T n2 : Nat} {P : List Int} {E : List Bool} (hn : n2 = S * T) (hl : P.length = n2) (hP : ∀ x ∈ P, 0 ≤ x ∧ x < (S : Int)) (h0 : 0 < S) (hE : E.length = S) {ys : List Nat} (hy : ∀ y ∈ ys, y < T) : rdP T P (E.map (!·)) ys = !rdP T P E ys := by
  have h := plF_lt hn hl hP ys 0 h0 hy
  unfold rdP
  rw [List.getD_eq_getElem?_getD, List.getD_eq_getElem?_getD, List.getElem?_map, List.getElem?_eq_getElem (by omega)]; rfl
/-- The machine of both. -/
theorem plX_fold (T : Nat) (Pa Pb : List Int) : ∀ (ys : List Nat) (p : Nat × Nat), ys.foldl (plX T Pa Pb) p = (ys.foldl (plT T Pa) p.1, ys.foldl (plT T Pb) p.2)
  | [], p => rfl
  | y :: ys, p => plX_fold T Pa Pb ys (plX T Pa Pb p y)
theorem mt_is {Sa Sb T n2 m2 : Nat} {Pa Pb : List Int} (ha : n2 = Sa * T) (hla : Pa.length = n2) (hPa : ∀ x ∈ Pa, 0 ≤ x ∧ x < (Sa : Int)) (hb : m2 = Sb * T) (hlb : Pb.length = m2) (hPb : ∀ x ∈ Pb, 0 ≤ x ∧ x < (Sb : Int)) (h0 : 0 < Sa) (h0' : 0 < Sb) (h5 : Sa ≤ 8) (h5' : Sb ≤ 8) : ∃ N, exAll (plX T Pa Pb) (0, 0) T = some N ∧ N ≤ 64 :=
  exAll_is (nx := plX T Pa Pb) (first := (0, 0)) (T := T) (ok := fun p => p.1 < Sa ∧ p.2 < Sb) (B := 64) (Nat.le_refl _) ⟨h0, h0'⟩ (fun k l hk hl => ⟨(plT_bd ha hla hPa hk.1 hl).2, (plT_bd hb hlb hPb hk.2 hl).2⟩) (fun p => p.1 * 8 + p.2)
    (fun a b h1 h2 e => by
      have e' : a.1 * 8 + a.2 = b.1 * 8 + b.2 := e
      exact Prod.ext (by omega) (by omega)) (fun a h => by show a.1 * 8 + a.2 < 64; omega)
/-- Words of a machine and of the other one are all words. -/
theorem cw_both {E : List Bool} {v : List Int} : ∀ i, i ≤ E.length → cwS E v i + cwS (E.map (!·)) v i = smT v i
  | 0, _ => rfl
  | i + 1, h => by
    have ih := cw_both (E := E) (v := v) i (by omega)
    have e1 : E.getD i false = E[i]'(by omega) := by rw [List.getD_eq_getElem?_getD, List.getElem?_eq_getElem (by omega)]; rfl
    have e2 : (E.map (!·)).getD i false = !E[i]'(by omega) := by rw [List.getD_eq_getElem?_getD, List.getElem?_map, List.getElem?_eq_getElem (by omega)]; rfl
    rw [cwS, cwS, e1, e2]
    show _ = smT v i + g0 v i
    cases E[i]'(by omega) <;> simp <;> omega
theorem cw_pos {E : List Bool} {v : List Int} (h : ∀ k, 0 ≤ g0 v k) : ∀ i, 0 < cwS E v i ↔ ∃ k, k < i ∧ E.getD k false = true ∧ 0 < g0 v k
  | 0 => ⟨fun h => absurd h (by unfold cwS; omega), fun ⟨k, hk, _⟩ => by omega⟩
  | i + 1 => by
    have ih := cw_pos (E := E) h i
    have hb := (cwS_bd (E := E) h i).1
    have hg := h i
    rw [cwS]
    split
    · rename_i he
      constructor
      · intro hp
        by_cases hq : 0 < cwS E v i
        · obtain ⟨k, h1, h2⟩ := ih.1 hq; exact ⟨k, by omega, h2⟩
        · exact ⟨i, by omega, he, by omega⟩
      · rintro ⟨k, h1, h2, h3⟩
        rcases Nat.lt_or_ge k i with q | q
        · have := ih.2 ⟨k, q, h2, h3⟩; omega
        · rw [show k = i by omega] at h3; omega
    · rename_i he
      rw [ih]
      constructor
      · rintro ⟨k, h1, h2⟩; exact ⟨k, by omega, h2⟩
      · rintro ⟨k, h1, h2, h3⟩
        rcases Nat.lt_or_ge k i with q | q
        · exact ⟨k, q, h2, h3⟩
        · rw [show k = i by omega] at h2; exact absurd h2 he
/-- How many words are read: not none just if one is. -/
theorem cw_reads {S T n2 : Nat} {P : List Int} {E : List Bool} (hn : n2 = S * T) (hl : P.length = n2) (hP : ∀ x ∈ P, 0 ≤ x ∧ x < (S : Int)) (h0 : 0 < S) (j : Nat) : 0 ≤ cwS E (cuN (plT T P) S T j) S ∧ (0 < cwS E (cuN (plT T P) S T j) S ↔ ∃ ys : List Nat, ys.length = j ∧ (∀ y ∈ ys, y < T) ∧ rdP T P E ys = true) := by
  have ht : ∀ i l, i < S → l < T → plT T P i l < S := fun i l h1 h2 => (plT_bd hn hl hP h1 h2).2
  obtain ⟨h1, h2⟩ := cuN_at h0 ht j
  refine ⟨(cwS_bd h1 S).1, ?_⟩
  rw [cw_pos h1 S]
  constructor
  · rintro ⟨k, hk, he, hg⟩
    obtain ⟨ys, e1, e2, e3⟩ := (h2 k hk).1 hg
    exact ⟨ys, e1, e2, by unfold rdP; rw [show ys.foldl (plT T P) 0 = k from e3]; exact he⟩
  · rintro ⟨ys, e1, e2, e3⟩
    have hk := plF_lt hn hl hP ys 0 h0 e2
    exact ⟨_, hk, e3, (h2 _ hk).2 ⟨ys, e1, e2, rfl⟩⟩
theorem cw_all {S T n2 : Nat} {P : List Int} {E : List Bool} (hn : n2 = S * T) (hl : P.length = n2) (hP : ∀ x ∈ P, 0 ≤ x ∧ x < (S : Int)) (h0 : 0 < S) (hE : E.length = S) (j : Nat) : cwS E (cuN (plT T P) S T j) S + cwS (E.map (!·)) (cuN (plT T P) S T j) S = ((T ^ j : Nat) : Int) := by
  have ht : ∀ i l, i < S → l < T → plT T P i l < S := fun i l h1 h2 => (plT_bd hn hl hP h1 h2).2
  rw [cw_both S (by omega), ← cuN_sum h0 ht j]
  have e := smT_all (cuN (plT T P) S T j)
  rw [cuN_len] at e
  exact e
/-- The first word. -/
theorem plT_zero (T j : Nat) : plT T (List.replicate T 0) 0 j = 0 := by
  unfold plT
  rw [List.getD_eq_getElem?_getD, List.getElem?_replicate]
  split <;> rfl
theorem plF_zero (T : Nat) : ∀ ys : List Nat, ys.foldl (plT T (List.replicate T 0)) 0 = 0
  | [] => rfl
  | y :: ys => by rw [List.foldl_cons, plT_zero]; exact plF_zero T ys
theorem fw_law {S T n2 : Nat} {P : List Int} {E : List Bool} (hn : n2 = S * T) (hl : P.length = n2) (hP : ∀ x ∈ P, 0 ≤ x ∧ x < (S : Int)) (h0 : 0 < S) (h64 : S ≤ 64) :
    match faAll (plX T P (List.replicate T 0)) (plD E [false]) (0, 0) T with
    | none => ∀ ys : List Nat, (∀ y ∈ ys, y < T) → ys.length ≤ 12 → rdP T P E ys = false
    | some wd => wd.length ≤ 12 ∧ (∃ xs : List Nat, wd = natW xs ∧ (∀ x ∈ xs, x < T) ∧ rdP T P E xs = true) ∧ ∀ ys : List Nat, (∀ y ∈ ys, y < T) → ys.length ≤ 12 → rdP T P E ys = true → wd.length ≤ ys.length := by
  have hdf : ∀ ys : List Nat, plD E [false] (ys.foldl (plX T P (List.replicate T 0)) (0, 0)) = rdP T P E ys := fun ys => by
    rw [plX_fold]
    unfold plD rdP
    simp only [plF_zero]
    cases E.getD (ys.foldl (plT T P) 0) false <;> rfl
  have h := faAll_law (nx := plX T P (List.replicate T 0)) (df := plD E [false]) (T := T) (Sa := S) (Sb := 1) h64 (by omega) ⟨h0, by omega⟩ (fun p j h1 h2 h3 => ⟨(plT_bd hn hl hP h1 h3).2, by
    show plT T (List.replicate T 0) p.2 j < 1
    rw [show p.2 = 0 by omega, plT_zero]; omega⟩)
  cases hf : faAll (plX T P (List.replicate T 0)) (plD E [false]) (0, 0) T with
  | none =>
    rw [hf] at h
    intro ys h1 h2
    have := h ys h1 h2
    rw [hdf] at this; exact this
  | some wd =>
    rw [hf] at h
    obtain ⟨h1, ⟨xs, h2, h3, h4⟩, h5⟩ := h
    refine ⟨h1, ⟨xs, h2, h3, by rw [← hdf]; exact h4⟩, fun ys q1 q2 q3 => h5 ys q1 q2 (by rw [hdf]; exact q3)⟩
end Go.Proofs.Ytbdfbmohdbigfaa
