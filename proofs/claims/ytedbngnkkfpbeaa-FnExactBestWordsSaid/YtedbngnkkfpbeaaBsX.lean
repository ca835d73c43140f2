/- BestWords: both contracts as the law's walk wants them. -/
import Derived.Test.YtedbngnkkfpbeaaMgq

namespace Go.Proofs.Ytedbngnkkfpbeaa
open Go.RowKit
set_option linter.unusedVariables false
/-- What BestWords answers: words and costs, none where it takes no argument. -/
def bwsR (S T m cnt : Int) (L : List A4) (P E : List Int) : List (List Int × Int) := if bwsB S T m cnt L P E then bwsL 1099511627776 T.toNat m.toNat cnt.toNat L P E else []
theorem bws_fit {S T m cnt : Int} {L : List A4} {P E : List Int} (h : bwsB S T m cnt L P E = true) : vmB S T L P E = true ∧ (0 ≤ m ∧ m ≤ 5) ∧ (1 ≤ cnt ∧ cnt ≤ 64) ∧ 1 ≤ T ∧ T ≤ 4 := by
  unfold bwsB at h
  simp only [Bool.and_eq_true, inB, decide_eq_true_eq] at h
  obtain ⟨h1, h2, h3⟩ := h
  obtain ⟨-, -, -, -, -, -, -, -, q9, q10⟩ := vm_okM h1
  exact ⟨h1, h2, h3, q9, q10⟩
theorem bwsL_mem {F : Int} {T m cnt : Nat} {L : List A4} {P E : List Int} {p : List Int × Int} (h : p ∈ bwsL F T m cnt L P E) : p.1 ∈ wlU T m ∧ p.2 = coV F L P E p.1 ∧ 0 ≤ p.2 := by
  have h1 := srtK_mem _ (List.mem_of_mem_take h)
  obtain ⟨x, hx, hc⟩ := List.mem_filterMap.1 h1
  unfold cfW at hc
  split at hc
  · injection hc with hc
    subst hc
    exact ⟨hx, rfl, by assumption⟩
  · cases hc
theorem wlU_word {T m : Nat} {r : List Int} (h : r ∈ wlU T m) : r.length ≤ m ∧ ∀ x ∈ r, 0 ≤ x ∧ x < (T : Int) := by
  obtain ⟨n, hn, hr⟩ := List.mem_flatMap.1 h
  obtain ⟨h1, h2⟩ := wlN_word hr
  exact ⟨by have := List.mem_range.1 hn; omega, h2⟩
theorem sumL_le {R : List (List Int)} {k : Nat} (h : ∀ r ∈ R, r.length ≤ k) : sumL R ≤ R.length * k := by
  induction R with
  | nil => simp [sumL_nil]
  | cons a R ih =>
    have h1 := h a List.mem_cons_self
    have h2 := ih (fun r hr => h r (List.mem_cons_of_mem _ hr))
    have h3 : sumL (a :: R) = a.length + sumL R := by simp [sumL]
    rw [h3, List.length_cons, Nat.add_mul]; omega
theorem bwsR_len (S T m cnt : Int) (L : List A4) (P E : List Int) : (bwsR S T m cnt L P E).length ≤ 64 ∧ sumL ((bwsR S T m cnt L P E).map Prod.fst) ≤ 320 := by
  unfold bwsR
  split
  · rename_i h
    obtain ⟨-, h2, h3, -⟩ := bws_fit h
    have hl : (bwsL 1099511627776 T.toNat m.toNat cnt.toNat L P E).length ≤ 64 := by unfold bwsL; rw [List.length_take]; omega
    refine ⟨hl, ?_⟩
    have hw := sumL_le (R := (bwsL 1099511627776 T.toNat m.toNat cnt.toNat L P E).map Prod.fst) (k := 5) (fun r hr => by
      obtain ⟨p, hp, rfl⟩ := List.mem_map.1 hr
      have := (wlU_word (bwsL_mem hp).1).1; omega)
    rw [List.length_map] at hw; omega
  · simp [sumL_nil]
theorem bwsW_len (S T m cnt : Int) (L : List A4) (P E : List Int) : ((bwsR S T m cnt L P E).map Prod.fst).length ≤ 1048576 := by rw [List.length_map]; have := (bwsR_len S T m cnt L P E).1; omega
theorem bwsC_len (S T m cnt : Int) (L : List A4) (P E : List Int) : ((bwsR S T m cnt L P E).map Prod.snd).length ≤ 1048576 := by rw [List.length_map]; have := (bwsR_len S T m cnt L P E).1; omega
theorem bwsW_sum (S T m cnt : Int) (L : List A4) (P E : List Int) : sumL ((bwsR S T m cnt L P E).map Prod.fst) ≤ 1048576 := by have := (bwsR_len S T m cnt L P E).2; omega
theorem iBwsL_any (v : Value) (S T m cnt : Int) (L : List A4) (P E : List Int) (w : World) (h : Mc w w.heap.size v S T L P E) (hL : L.length ≤ 1048576) (hP : P.length ≤ 1048576) (hE : E.length ≤ 1048576) :
    Calls Try.prog 11 #[v, .int .i64 m, .int .i64 cnt] w fun e w' => ∃ v0 v1 B, e = .returned (.tuple #[v0, v1, .bool (bwsB S T m cnt L P E)]) ∧ TabO w' w.heap.size 26 2 v0 ((bwsR S T m cnt L P E).map Prod.fst) B ∧ RowI w' w.heap.size 2 v1 ((bwsR S T m cnt L P E).map Prod.snd) ∧ (∀ b, v1.ownBlock = some b → b ∉ B ∧ v0.ownBlock ≠ some b) ∧ Below w.heap.size w w' := by
  obtain ⟨A2, n2, c2, A3, n3, c3, A4, n4, c4, rfl, h2, h3, h4⟩ := h
  cases hb : bwsB S T m cnt L P E
  · refine (iBws_no S T m cnt L P E A2 n2 c2 A3 n3 c3 A4 n4 c4 w h2 h3 h4 hL hP hE hb).mono ?_
    rintro e w' ⟨rfl, hbl⟩
    have hR : bwsR S T m cnt L P E = [] := by unfold bwsR; rw [hb]; rfl
    rw [hR]
    exact ⟨_, _, [], rfl, TabO.nil _ _ _ _, RowI.nil _ _ _, fun b e => by simp [Value.ownBlock] at e, hbl⟩
  · obtain ⟨q1, q2, q3, q4⟩ := bws_fit hb
    obtain ⟨t, rfl⟩ : ∃ t : Nat, T = (t : Int) := ⟨T.toNat, by omega⟩
    obtain ⟨k, rfl⟩ : ∃ t : Nat, m = (t : Int) := ⟨m.toNat, by omega⟩
    obtain ⟨q, rfl⟩ : ∃ t : Nat, cnt = (t : Int) := ⟨cnt.toNat, by omega⟩
    refine (iBws_yes S t k q L P E A2 n2 c2 A3 n3 c3 A4 n4 c4 w h2 h3 h4 q1 (by omega) (by omega) (by omega)).mono ?_
    rintro e w' ⟨R, g, c, g', c', B, hR, rfl, h5, h6, h7, h8, h9⟩
    have hRR : bwsR S (t : Int) (k : Int) (q : Int) L P E = R := by unfold bwsR; rw [hb, hR]; rfl
    rw [hRR]
    exact ⟨_, _, B, rfl, h5, h6, fun b e => by
      have e2 : g' = b := by simpa [Value.ownBlock] using e
      subst e2
      exact ⟨h8, by simp [Value.ownBlock]; exact h7⟩, h9⟩
theorem sBwsL_any (v : Value) (S T m cnt : Int) (L : List A4) (P E : List Int) (w : World) (h : Mc w w.heap.size v S T L P E) (hL : L.length ≤ 1048576) (hP : P.length ≤ 1048576) (hE : E.length ≤ 1048576) :
    Calls Try.prog 15 #[v, .int .i64 m, .int .i64 cnt] w fun e w' => ∃ v0 v1, e = .returned (.tuple #[v0, v1, .bool (bwsB S T m cnt L P E)]) ∧ TabI w' w.heap.size 26 v0 ((bwsR S T m cnt L P E).map Prod.fst) ∧ RowI w' w.heap.size 2 v1 ((bwsR S T m cnt L P E).map Prod.snd) ∧ Below w.heap.size w w' := by
  obtain ⟨A2, n2, c2, A3, n3, c3, A4, n4, c4, rfl, h2, h3, h4⟩ := h
  cases hb : bwsB S T m cnt L P E
  · refine (sBws_no S T m cnt L P E A2 n2 c2 A3 n3 c3 A4 n4 c4 w h2 h3 h4 hL hP hE hb).mono ?_
    rintro e w' ⟨rfl, hbl⟩
    have hR : bwsR S T m cnt L P E = [] := by unfold bwsR; rw [hb]; rfl
    rw [hR]
    exact ⟨_, _, rfl, (TabO.nil _ _ _ 2).tabI, RowI.nil _ _ _, hbl⟩
  · obtain ⟨q1, q2, q3, q4⟩ := bws_fit hb
    obtain ⟨t, rfl⟩ : ∃ t : Nat, T = (t : Int) := ⟨T.toNat, by omega⟩
    obtain ⟨k, rfl⟩ : ∃ t : Nat, m = (t : Int) := ⟨m.toNat, by omega⟩
    obtain ⟨q, rfl⟩ : ∃ t : Nat, cnt = (t : Int) := ⟨cnt.toNat, by omega⟩
    refine (sBws_yes S t k q L P E A2 n2 c2 A3 n3 c3 A4 n4 c4 w h2 h3 h4 q1 (by omega) (by omega) (by omega)).mono ?_
    rintro e w' ⟨R, g, c, g', c', hR, rfl, h5, h6, h7, h9⟩
    have hRR : bwsR S (t : Int) (k : Int) (q : Int) L P E = R := by unfold bwsR; rw [hb, hR]; rfl
    rw [hRR]
    refine ⟨_, _, rfl, ?_, ?_, h9⟩
    · obtain ⟨vs, o1, o2⟩ := h5
      exact ⟨vs, o1, o2⟩
    · exact h6
end Go.Proofs.Ytedbngnkkfpbeaa
