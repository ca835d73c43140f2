/- Several texts in one: BestWords: both contracts as the law's walk wants them. The best words, plainly: they stand by their costs, those that cost as much by their lengths and letters; the best word is the first of them. -/
import Derived.Test.YtedbngnkkfpbeaaMgz
import Derived.Test.YtedbngnkkfpbeaaMgr

namespace Go.Proofs.Ytedbngnkkfpbeaa
open Go.RowKit
set_option linter.unusedVariables false
/-- What BestWords answers: words and costs, none where it takes no argument. -/
def bwsR (S T m cnt : Int) (L : List A4) (P E : List Int) : List (List Int × Int) := if bwsB S T m cnt L P E then bwsL 1099511627776 T.toNat m.toNat cnt.toNat L P E else []
theorem bws_fit {S T m cnt : Int} {L : List A4} {P E : List Int} (h : bwsB S T m cnt L P E = true) : vmB S T L P E = true ∧ (0 ≤ m ∧ m ≤ 5) ∧ (1 ≤ cnt ∧ cnt ≤ 64) ∧ 1 ≤ T ∧ T ≤ 4 := by
  unfold bwsB at h
  simp only [Bool.and_eq_true, inB, decide_eq_true_eq] at h
  obtain ⟨h1, h2, h3⟩ := h
  obtain ⟨-, -, -, -, -, -, -, -, q9, q10⟩ := vm_okM h1
  exact ⟨h1, h2, h3, q9, q10⟩
theorem bwsL_mem {F : Int} {T m cnt : Nat} {L : List A4} {P E : List Int} {p : List Int × Int} (h : p ∈ bwsL F T m cnt L P E) : p.1 ∈ wlU T m ∧ p.2 = coV F L P E p.1 ∧ 0 ≤ p.2 := by
  have h1 := srtK_mem _ (List.mem_of_mem_take h)
  obtain ⟨x, hx, hc⟩ := List.mem_filterMap.1 h1
  unfold cfW at hc
  split at hc
  · injection hc with hc
    subst hc
    exact ⟨hx, rfl, by assumption⟩
  · cases hc
theorem wlU_word {T m : Nat} {r : List Int} (h : r ∈ wlU T m) : r.length ≤ m ∧ ∀ x ∈ r, 0 ≤ x ∧ x < (T : Int) := by
  obtain ⟨n, hn, hr⟩ := List.mem_flatMap.1 h
  obtain ⟨h1, h2⟩ := wlN_word hr
  exact ⟨by have := List.mem_range.1 hn; omega, h2⟩
theorem sumL_le {R : List (List Int)} {k : Nat} (h : ∀ r ∈ R, r.length ≤ k) : sumL R ≤ R.length * k := by
  induction R with
  | nil => simp [sumL_nil]
  | cons a R ih =>
    have h1 := h a List.mem_cons_self
    have h2 := ih (fun r hr => h r (List.mem_cons_of_mem _ hr))
    have h3 : sumL (a :: R) = a.length + sumL R := by simp [sumL]
    rw [h3, List.length_cons, Nat.add_mul]; omega
theorem bwsR_len (S T m cnt : Int) (L : List A4) (P E : List Int) : (bwsR S T m cnt L P E).length ≤ 64 ∧ sumL ((bwsR S T m cnt L P E).map Prod.fst) ≤ 320 := by
  unfold bwsR
  split
  · rename_i h
    obtain ⟨-, h2, h3, -⟩ := bws_fit h
    have hl : (bwsL 1099511627776 T.toNat m.toNat cnt.toNat L P E).length ≤ 64 := by unfold bwsL; rw [List.length_take]; omega
    refine ⟨hl, ?_⟩
    have hw := sumL_le (R := (bwsL 1099511627776 T.toNat m.toNat cnt.toNat L P E).map Prod.fst) (k := 5) (fun r hr => by
      obtain ⟨p, hp, rfl⟩ := List.mem_map.1 hr
      have := (wlU_word (bwsL_mem hp).1).1; omega)
    rw [List.length_map] at hw; omega
  · simp [sumL_nil]
theorem bwsW_len (S T m cnt : Int) (L : List A4) (P E : List Int) : ((bwsR S T m cnt L P E).map Prod.fst).length ≤ 1048576 := by rw [List.length_map]; have := (bwsR_len S T m cnt L P E).1; omega
theorem bwsC_len (S T m cnt : Int) (L : List A4) (P E : List Int) : ((bwsR S T m cnt L P E).map Prod.snd).length ≤ 1048576 := by rw [List.length_map]; have := (bwsR_len S T m cnt L P E).1; omega
theorem bwsW_sum (S T m cnt : Int) (L : List A4) (P E : List Int) : sumL ((bwsR S T m cnt L P E).map Prod.fst) ≤ 1048576 := by have := (bwsR_len S T m cnt L P E).2; omega
theorem iBwsL_any (v : Value) (S T m cnt : Int) (L : List A4) (P E : List Int) (w : World) (h : Mc w w.heap.size v S T L P E) (hL : L.length ≤ 1048576) (hP : P.length ≤ 1048576) (hE : E.length ≤ 1048576) :
    Calls Try.prog 11 #[v, .int .i64 m, .int .i64 cnt] w fun e w' => ∃ v0 v1 B, e = .returned (.tuple #[v0, v1, .bool (bwsB S T m cnt L P E)]) ∧ TabO w' w.heap.size 26 2 v0 ((bwsR S T m cnt L P E).map Prod.fst) B ∧ RowI w' w.heap.size 2 v1 ((bwsR S T m cnt L P E).map Prod.snd) ∧ (∀ b, v1.ownBlock = some b → b ∉ B ∧ v0.ownBlock ≠ some b) ∧ Below w.heap.size w w' := by
  obtain ⟨A2, n2, c2, A3, n3, c3, A4, n4, c4, rfl, h2, h3, h4⟩ := h
  cases hb : bwsB S T m cnt L P E
  · refine (iBws_no S T m cnt L P E A2 n2 c2 A3 n3 c3 A4 n4 c4 w h2 h3 h4 hL hP hE hb).mono ?_
    rintro e w' ⟨rfl, hbl⟩
    have hR : bwsR S T m cnt L P E = [] := by unfold bwsR; rw [hb]; rfl
    rw [hR]
    exact ⟨_, _, [], rfl, TabO.nil _ _ _ _, RowI.nil _ _ _, fun b e => by simp [Value.ownBlock] at e, hbl⟩
  · obtain ⟨q1, q2, q3, q4⟩ := bws_fit hb
    obtain ⟨t, rfl⟩ : ∃ t : Nat, T = (t : Int) := ⟨T.toNat, by omega⟩
    obtain ⟨k, rfl⟩ : ∃ t : Nat, m = (t : Int) := ⟨m.toNat, by omega⟩
    obtain ⟨q, rfl⟩ : ∃ t : Nat, cnt = (t : Int) := ⟨cnt.toNat, by omega⟩
    refine (iBws_yes S t k q L P E A2 n2 c2 A3 n3 c3 A4 n4 c4 w h2 h3 h4 q1 (by omega) (by omega) (by omega)).mono ?_
    rintro e w' ⟨R, g, c, g', c', B, hR, rfl, h5, h6, h7, h8, h9⟩
    have hRR : bwsR S (t : Int) (k : Int) (q : Int) L P E = R := by unfold bwsR; rw [hb, hR]; rfl
    rw [hRR]
    exact ⟨_, _, B, rfl, h5, h6, fun b e => by
      have e2 : g' = b := by simpa [Value.ownBlock] using e
      subst e2
      exact ⟨h8, by simp [Value.ownBlock]; exact h7⟩, h9⟩
theorem sBwsL_any (v : Value) (S T m cnt : Int) (L : List A4) (P E : List Int) (w : World) (h : Mc w w.heap.size v S T L P E) (hL : L.length ≤ 1048576) (hP : P.length ≤ 1048576) (hE : E.length ≤ 1048576) :
    Calls Try.prog 15 #[v, .int .i64 m, .int .i64 cnt] w fun e w' => ∃ v0 v1, e = .returned (.tuple #[v0, v1, .bool (bwsB S T m cnt L P E)]) ∧ TabI w' w.heap.size 26 v0 ((bwsR S T m cnt L P E).map Prod.fst) ∧ RowI w' w.heap.size 2 v1 ((bwsR S T m cnt L P E).map Prod.snd) ∧ Below w.heap.size w w' := by
  obtain ⟨A2, n2, c2, A3, n3, c3, A4, n4, c4, rfl, h2, h3, h4⟩ := h
  cases hb : bwsB S T m cnt L P E
  · refine (sBws_no S T m cnt L P E A2 n2 c2 A3 n3 c3 A4 n4 c4 w h2 h3 h4 hL hP hE hb).mono ?_
    rintro e w' ⟨rfl, hbl⟩
    have hR : bwsR S T m cnt L P E = [] := by unfold bwsR; rw [hb]; rfl
    rw [hR]
    exact ⟨_, _, rfl, (TabO.nil _ _ _ 2).tabI, RowI.nil _ _ _, hbl⟩
  · obtain ⟨q1, q2, q3, q4⟩ := bws_fit hb
    obtain ⟨t, rfl⟩ : ∃ t : Nat, T = (t : Int) := ⟨T.toNat, by omega⟩
    obtain ⟨k, rfl⟩ : ∃ t : Nat, m = (t : Int) := ⟨m.toNat, by omega⟩
    obtain ⟨q, rfl⟩ : ∃ t : Nat, cnt = (t : Int) := ⟨cnt.toNat, by omega⟩
    refine (sBws_yes S t k q L P E A2 n2 c2 A3 n3 c3 A4 n4 c4 w h2 h3 h4 q1 (by omega) (by omega) (by omega)).mono ?_
    rintro e w' ⟨R, g, c, g', c', hR, rfl, h5, h6, h7, h9⟩
    have hRR : bwsR S (t : Int) (k : Int) (q : Int) L P E = R := by unfold bwsR; rw [hb, hR]; rfl
    rw [hRR]
    refine ⟨_, _, rfl, ?_, ?_, h9⟩
    · obtain ⟨vs, o1, o2⟩ := h5
      exact ⟨vs, o1, o2⟩
    · exact h6
end Go.Proofs.Ytedbngnkkfpbeaa


namespace Go.Proofs.Ytedbngnkkfpbeaa
open Go.RowKit
set_option linter.unusedVariables false
/-- Shorter words ahead; as long ones by their letters. -/
def Od (x y : List Int) : Prop := x.length < y.length ∨ (x.length = y.length ∧ Bf x y)
def Rc (p q : List Int × Int) : Prop := p.2 < q.2 ∨ (p.2 = q.2 ∧ Od p.1 q.1)
theorem Bf.append : ∀ {r q : List Int} (a b : List Int), Bf r q → Bf (r ++ a) (q ++ b)
  | x :: xs, y :: ys, a, b, h => by
    rcases h with h | ⟨e, h⟩
    · exact .inl h
    · exact .inr ⟨e, Bf.append a b h⟩
  | [], [], _, _, h => h.elim
  | [], _ :: _, _, _, h => h.elim
  | _ :: _, [], _, _, h => h.elim
theorem Bf.last : ∀ (r : List Int) {i j : Int}, i < j → Bf (r ++ [i]) (r ++ [j])
  | [], i, j, h => .inl h
  | x :: xs, i, j, h => .inr ⟨rfl, Bf.last xs h⟩
theorem wlG_srt {T : Nat} {R : List (List Int)} (h : R.Pairwise Bf) : (wlG T R).Pairwise Bf := by
  unfold wlG
  induction R with
  | nil => exact List.Pairwise.nil
  | cons r R ih =>
    obtain ⟨h1, h2⟩ := List.pairwise_cons.1 h
    rw [List.flatMap_cons]
    refine List.pairwise_append.2 ⟨?_, ih h2, ?_⟩
    · rw [List.pairwise_map]
      exact List.Pairwise.imp (fun {a b} hab => Bf.last r (by omega)) List.pairwise_lt_range
    · intro a ha b hb
      obtain ⟨i, -, rfl⟩ := List.mem_map.1 ha
      obtain ⟨q, hq, hb⟩ := List.mem_flatMap.1 hb
      obtain ⟨j, -, rfl⟩ := List.mem_map.1 hb
      exact (h1 q hq).append _ _
theorem wlN_srt (T : Nat) : ∀ n, (wlN T n).Pairwise Bf
  | 0 => List.pairwise_singleton _ _
  | n + 1 => wlG_srt (wlN_srt T n)
theorem wlR_srt (T : Nat) : ∀ k, ((List.range k).flatMap (wlN T)).Pairwise Od ∧ ∀ x ∈ (List.range k).flatMap (wlN T), x.length < k
  | 0 => ⟨List.Pairwise.nil, fun x hx => by simp at hx⟩
  | k + 1 => by
    obtain ⟨h1, h2⟩ := wlR_srt T k
    rw [List.range_succ, List.flatMap_append]
    have e : [k].flatMap (wlN T) = wlN T k := by simp
    rw [e]
    refine ⟨List.pairwise_append.2 ⟨h1, List.Pairwise.imp_of_mem (fun {a b} ha hb hab => .inr ⟨by rw [(wlN_word ha).1, (wlN_word hb).1], hab⟩) (wlN_srt T k), fun a ha b hb => .inl (by rw [(wlN_word hb).1]; exact h2 a ha)⟩, fun x hx => ?_⟩
    rcases List.mem_append.1 hx with hx | hx
    · have := h2 x hx; omega
    · rw [(wlN_word hx).1]; omega
theorem wlU_srt (T m : Nat) : (wlU T m).Pairwise Od := (wlR_srt T (m + 1)).1
theorem wlN_all {T : Nat} : ∀ {n : Nat} {xs : List Int}, xs.length = n → (∀ x ∈ xs, 0 ≤ x ∧ x < (T : Int)) → xs ∈ wlN T n
  | 0, xs, h, _ => by rw [List.length_eq_zero_iff.1 h]; exact List.mem_singleton.2 rfl
  | n + 1, xs, h, hx => by
    have hne : xs ≠ [] := by intro e; rw [e] at h; cases h
    obtain ⟨ys, y, rfl⟩ : ∃ ys y, xs = ys ++ [y] := ⟨xs.dropLast, xs.getLast hne, (List.dropLast_concat_getLast hne).symm⟩
    have hy := hx y (by simp)
    refine List.mem_flatMap.2 ⟨ys, wlN_all (by simpa using h) (fun x hxx => hx x (List.mem_append_left _ hxx)), List.mem_map.2 ⟨y.toNat, List.mem_range.2 (by omega), ?_⟩⟩
    rw [show ((y.toNat : Nat) : Int) = y by omega]
theorem wlU_all {T m : Nat} {xs : List Int} (h : xs.length ≤ m) (hx : ∀ x ∈ xs, 0 ≤ x ∧ x < (T : Int)) : xs ∈ wlU T m :=
  List.mem_flatMap.2 ⟨xs.length, List.mem_range.2 (by omega), wlN_all rfl hx⟩
/-- One put in stands in its place. -/
theorem insK_rc {x : List Int × Int} : ∀ {L : List (List Int × Int)}, L.Pairwise Rc → (∀ y ∈ L, Od y.1 x.1) → (insK Prod.snd x L).Pairwise Rc
  | [], _, _ => List.pairwise_singleton _ _
  | y :: l, h, ho => by
    obtain ⟨h1, h2⟩ := List.pairwise_cons.1 h
    unfold insK
    split
    · rename_i hlt
      refine List.pairwise_cons.2 ⟨fun z hz => ?_, h⟩
      rcases List.mem_cons.1 hz with hz | hz
      · rw [hz]; exact .inl hlt
      · rcases h1 z hz with h3 | ⟨h3, -⟩
        · exact .inl (by omega)
        · exact .inl (by omega)
    · rename_i hge
      refine List.pairwise_cons.2 ⟨fun z hz => ?_, insK_rc h2 (fun q hq => ho q (List.mem_cons_of_mem _ hq))⟩
      rcases insK_mem hz with hz | hz
      · rw [hz]
        by_cases hlt : y.2 < x.2
        · exact .inl hlt
        · exact .inr ⟨by omega, ho y List.mem_cons_self⟩
      · exact h1 z hz
theorem srtK_rc (L : List (List Int × Int)) (h : L.Pairwise (fun p q => Od p.1 q.1)) : (srtK Prod.snd L).Pairwise Rc := by
  revert h
  refine snoc_ind (p := fun L : List (List Int × Int) => L.Pairwise (fun p q => Od p.1 q.1) → (srtK Prod.snd L).Pairwise Rc) (fun _ => List.Pairwise.nil) (fun L x ih h => ?_) L
  obtain ⟨h1, -, h3⟩ := List.pairwise_append.1 h
  rw [srtK_snoc]
  exact insK_rc (ih h1) (fun y hy => h3 y (srtK_mem L hy) x (by simp))
/-- All words of up to m letters that have a cost, best ones first. -/
def bsA (F : Int) (T m : Nat) (L : List A4) (P E : List Int) : List (List Int × Int) := srtK Prod.snd ((wlU T m).filterMap (cfW F L P E))
theorem bsA_take (F : Int) (T m cnt : Nat) (L : List A4) (P E : List Int) : bwsL F T m cnt L P E = (bsA F T m L P E).take cnt := rfl
theorem bsA_rc (F : Int) (T m : Nat) (L : List A4) (P E : List Int) : (bsA F T m L P E).Pairwise Rc := by
  refine srtK_rc _ ?_
  rw [List.pairwise_filterMap]
  refine List.Pairwise.imp (fun {a b} hab p hp q hq => ?_) (wlU_srt T m)
  unfold cfW at hp hq
  split at hp
  · split at hq
    · injection hp with hp; injection hq with hq
      subst hp hq; exact hab
    · cases hq
  · cases hp
theorem bsA_mem {F : Int} {T m : Nat} {L : List A4} {P E : List Int} {p : List Int × Int} : p ∈ bsA F T m L P E ↔ p.1 ∈ wlU T m ∧ p.2 = coV F L P E p.1 ∧ 0 ≤ p.2 := by
  unfold bsA
  rw [(srtK_perm Prod.snd _).mem_iff, List.mem_filterMap]
  constructor
  · rintro ⟨x, hx, hc⟩
    unfold cfW at hc
    split at hc
    · injection hc with hc
      subst hc
      exact ⟨hx, rfl, by assumption⟩
    · cases hc
  · rintro ⟨h1, h2, h3⟩
    refine ⟨p.1, h1, ?_⟩
    unfold cfW
    rw [← h2, if_pos h3]
/-- The best word, if it has few letters, is the first of the best words. -/
theorem bs_first {S : Int} {T m : Nat} {L : List A4} {P E : List Int} (v1 : vmB S (T : Int) L P E = true) (hm : m ≤ 12) (hb : bwB 1099511627776 S (T : Int) L P E = true) (hn : P.length ≤ 13) (hl : (bwW 1099511627776 S (T : Int) L P E).length ≤ m) :
    (bsA 1099511627776 T m L P E)[0]? = some (bwW 1099511627776 S (T : Int) L P E, bwC 1099511627776 S (T : Int) L P E) := by
  obtain ⟨w1, w2, w3, w4, w5⟩ := bw_word v1 hb
  have hmem : (bwW 1099511627776 S (T : Int) L P E, bwC 1099511627776 S (T : Int) L P E) ∈ bsA 1099511627776 T m L P E := bsA_mem.2 ⟨wlU_all hl w2, w3.symm, w4⟩
  have hrc := bsA_rc 1099511627776 T m L P E
  have hall : ∀ p ∈ bsA 1099511627776 T m L P E, p.1 ∈ wlU T m ∧ p.2 = coV 1099511627776 L P E p.1 ∧ 0 ≤ p.2 := fun p hp => bsA_mem.1 hp
  cases hA : bsA 1099511627776 T m L P E with
  | nil => rw [hA] at hmem; cases hmem
  | cons v l =>
    rw [hA] at hmem hrc hall
    obtain ⟨a1, a2, a3⟩ := hall v List.mem_cons_self
    obtain ⟨q1, q2⟩ := wlU_word a1
    have hle := (bw_least v1 hn (by omega) q2 (by rw [← a2]; exact a3)).2.1
    rw [← a2] at hle
    rcases List.mem_cons.1 hmem with h | h
    · rw [h]; rfl
    · have hr := (List.pairwise_cons.1 hrc).1 _ h
      rcases hr with hr | ⟨e, hr⟩
      · exact absurd hr (by show ¬ v.2 < _; omega)
      · have e' : v.2 = bwC 1099511627776 S (T : Int) L P E := e
        obtain ⟨b1, b2⟩ := w5 v.1 (by omega) q2 (by rw [← a2]; exact e')
        rcases hr with hr | ⟨hr, hr2⟩
        · exact absurd hr (by show ¬ v.1.length < (bwW _ _ _ _ _ _).length; omega)
        · exact absurd hr2 (b2 hr)
end Go.Proofs.Ytedbngnkkfpbeaa
