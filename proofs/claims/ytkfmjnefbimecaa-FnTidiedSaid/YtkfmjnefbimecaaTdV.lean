/- MeetOf plainly: a word costs what it costs both. -/
import Derived.Test.YtkfmjnefbimecaaMgr


namespace Go.Proofs.Ytkfmjnefbimecaa
open Go.RowKit
set_option linter.unusedVariables false
/-- Arcs of both that read the same letter; sums of all pairs. -/
def mtB (n : Int) (x y : A4) : A4 := (x.1 * n + y.1, x.2.1 * n + y.2.1, x.2.2.1, x.2.2.2 + y.2.2.2)
def mtC (n : Int) (x y : A4) : List A4 := if x.2.2.1 = y.2.2.1 then [mtB n x y] else []
def mtR (n : Int) (L' : List A4) (x : A4) : List A4 := L'.flatMap (mtC n x)
def mtA (n : Int) (L L' : List A4) : List A4 := L.flatMap (mtR n L')
def psV (x y : Int) : Int := if x < 0 ∨ y < 0 then -1 else x + y
def psR (P' : List Int) (x : Int) : List Int := P'.map (psV x)
def psL (P P' : List Int) : List Int := P.flatMap (psR P')
theorem psL_len (P P' : List Int) : (psL P P').length = P.length * P'.length := by
  unfold psL
  induction P with
  | nil => simp
  | cons x P ih => rw [List.flatMap_cons, List.length_append, ih, psR, List.length_map, List.length_cons, Nat.succ_mul, Nat.add_comm]
theorem psL_at {P' : List Int} : ∀ {P : List Int} {i j : Nat} {x y : Int}, P[i]? = some x → P'[j]? = some y → (psL P P')[i * P'.length + j]? = some (psV x y)
  | [], i, j, x, y, h, _ => by simp at h
  | a :: P, 0, j, x, y, h, h' => by
    have hj := (List.getElem?_eq_some_iff.1 h').1
    have e : a = x := by simpa using h
    subst e
    unfold psL
    rw [List.flatMap_cons, Nat.zero_mul, Nat.zero_add, List.getElem?_append_left (by rw [psR, List.length_map]; exact hj), psR, List.getElem?_map, h']; rfl
  | a :: P, i + 1, j, x, y, h, h' => by
    have ih := psL_at (P := P) (i := i) (x := x) (by simpa using h) h'
    unfold psL at ih ⊢
    rw [List.flatMap_cons, List.getElem?_append_right (by rw [psR, List.length_map, Nat.succ_mul]; omega), psR, List.length_map, Nat.succ_mul, show i * P'.length + P'.length + j - P'.length = i * P'.length + j by omega]
    exact ih
theorem split_at {n m k : Nat} (h : k < m * n) : ∃ i j, i < m ∧ j < n ∧ k = i * n + j := by
  have hn : 0 < n := by
    rcases Nat.eq_zero_or_pos n with e | e
    · subst e; simp at h
    · exact e
  refine ⟨k / n, k % n, (Nat.div_lt_iff_lt_mul hn).2 h, Nat.mod_lt _ hn, ?_⟩
  rw [Nat.mul_comm]; exact (Nat.div_add_mod k n).symm
theorem at_inj {n i j i' j' : Nat} (hj : j < n) (hj' : j' < n) (e : i * n + j = i' * n + j') : i = i' ∧ j = j' := by
  have h1 : (i * n + j) / n = i := by rw [Nat.mul_comm, Nat.mul_add_div (by omega), Nat.div_eq_of_lt hj, Nat.add_zero]
  have h2 : (i' * n + j') / n = i' := by rw [Nat.mul_comm, Nat.mul_add_div (by omega), Nat.div_eq_of_lt hj', Nat.add_zero]
  rw [e, h2] at h1
  subst h1
  exact ⟨rfl, by omega⟩
theorem stt_psL {P P' : List Int} {m : Nat} {c : Int} : Stt (psL P P') m c ↔ ∃ i j c1 c2, m = i * P'.length + j ∧ Stt P i c1 ∧ Stt P' j c2 ∧ c = c1 + c2 := by
  constructor
  · rintro ⟨h, h0⟩
    have hl := (List.getElem?_eq_some_iff.1 h).1
    rw [psL_len] at hl
    obtain ⟨i, j, hi, hj, rfl⟩ := split_at hl
    have e1 := List.getElem?_eq_getElem hi
    have e2 := List.getElem?_eq_getElem hj
    rw [psL_at e1 e2] at h
    have h3 := Option.some.inj h
    unfold psV at h3
    split at h3
    · omega
    · exact ⟨i, j, _, _, rfl, ⟨e1, by omega⟩, ⟨e2, by omega⟩, h3.symm⟩
  · rintro ⟨i, j, c1, c2, rfl, ⟨h1, p1⟩, ⟨h2, p2⟩, rfl⟩
    refine ⟨?_, by omega⟩
    rw [psL_at h1 h2]
    unfold psV
    rw [if_neg (by omega)]
theorem mtA_mem {n : Int} {L L' : List A4} {b : A4} : b ∈ mtA n L L' ↔ ∃ x ∈ L, ∃ y ∈ L', x.2.2.1 = y.2.2.1 ∧ b = mtB n x y := by
  unfold mtA mtR
  simp only [List.mem_flatMap]
  constructor
  · rintro ⟨x, hx, y, hy, h⟩
    unfold mtC at h
    split at h
    · rename_i e
      exact ⟨x, hx, y, hy, e, List.mem_singleton.1 h⟩
    · cases h
  · rintro ⟨x, hx, y, hy, e, rfl⟩
    exact ⟨x, hx, y, hy, by unfold mtC; rw [if_pos e]; exact List.mem_singleton.2 rfl⟩
theorem mtR_len (n : Int) (x : A4) : ∀ L' : List A4, (mtR n L' x).length ≤ L'.length
  | [] => by simp [mtR]
  | y :: L' => by
    have ih := mtR_len n x L'
    unfold mtR at ih ⊢
    rw [List.flatMap_cons, List.length_append, List.length_cons]
    have : (mtC n x y).length ≤ 1 := by unfold mtC; split <;> simp
    omega
theorem mtA_len (n : Int) (L' : List A4) : ∀ L : List A4, (mtA n L L').length ≤ L.length * L'.length
  | [] => by simp [mtA]
  | x :: L => by
    have ih := mtA_len n L' L
    have h := mtR_len n x L'
    unfold mtA at ih ⊢
    rw [List.flatMap_cons, List.length_append, List.length_cons, Nat.succ_mul]
    omega
section
variable {t n' : Nat} {L L' : List A4} {P E P' E' : List Int}
theorem at_cast (i j n : Nat) : ((i * n + j : Nat) : Int) = (i : Int) * (n : Int) + (j : Int) := by push_cast; rfl
theorem lt_mt {n : Nat} (hL : okM n L) (hL' : okM n' L') {l : Int} {i j k : Nat} (hj : j < n') {c : Int} : Lt (mtA (n' : Int) L L') l (i * n' + j) k c ↔ ∃ p q c1 c2, k = p * n' + q ∧ q < n' ∧ Lt L l i p c1 ∧ Lt L' l j q c2 ∧ c = c1 + c2 := by
  constructor
  · rintro ⟨b, hb, e1, e2, e3, e4⟩
    obtain ⟨x, hx, y, hy, e, rfl⟩ := mtA_mem.1 hb
    have h1 := hL x hx
    have h2 := hL' y hy
    have f1 : x.1 * (n' : Int) + y.1 = ((i * n' + j : Nat) : Int) := e1
    have f2 : x.2.1 * (n' : Int) + y.2.1 = (k : Int) := e2
    have f3 : x.2.2.1 = l := e3
    have f4 : x.2.2.2 + y.2.2.2 = c := e4
    have g1 : x.1.toNat * n' + y.1.toNat = i * n' + j := by
      have : ((x.1.toNat * n' + y.1.toNat : Nat) : Int) = ((i * n' + j : Nat) : Int) := by
        rw [at_cast, Int.toNat_of_nonneg h1.1.1, Int.toNat_of_nonneg h2.1.1]; exact f1
      omega
    obtain ⟨g2, g3⟩ := at_inj (by omega) hj g1
    refine ⟨x.2.1.toNat, y.2.1.toNat, x.2.2.2, y.2.2.2, ?_, by omega, ⟨x, hx, by omega, by omega, f3, rfl⟩, ⟨y, hy, by omega, by omega, by omega, rfl⟩, f4.symm⟩
    have : ((k : Nat) : Int) = ((x.2.1.toNat * n' + y.2.1.toNat : Nat) : Int) := by
      rw [at_cast, Int.toNat_of_nonneg h1.2.1.1, Int.toNat_of_nonneg h2.2.1.1]; exact f2.symm
    omega
  · rintro ⟨p, q, c1, c2, rfl, hq, ⟨x, hx, a1, a2, a3, a4⟩, ⟨y, hy, b1, b2, b3, b4⟩, rfl⟩
    refine ⟨mtB n' x y, mtA_mem.2 ⟨x, hx, y, hy, by omega, rfl⟩, ?_, ?_, a3, ?_⟩
    · show x.1 * (n' : Int) + y.1 = _; rw [at_cast, a1, b1]
    · show x.2.1 * (n' : Int) + y.2.1 = _; rw [at_cast, a2, b2]
    · show x.2.2.2 + y.2.2.2 = _; omega
theorem em_mt {n : Int} (h0 : ∀ a ∈ L, 0 ≤ a.2.2.1) {i k : Nat} {c : Int} (h : Em (mtA n L L') i k c) : False := by
  obtain ⟨b, hb, e1, e2, e3, e4⟩ := h
  obtain ⟨x, hx, y, hy, e, rfl⟩ := mtA_mem.1 hb
  have h1 := h0 x hx
  have h2 : x.2.2.1 < 0 := e3
  omega
theorem em_no (h0 : ∀ a ∈ L, 0 ≤ a.2.2.1) {i k : Nat} {c : Int} (h : Em L i k c) : False := by
  obtain ⟨b, hb, e1, e2, e3, e4⟩ := h
  have := h0 b hb
  omega
theorem rd_mt {n : Nat} (hL : okM n L) (hL' : okM n' L') (h0 : ∀ a ∈ L, 0 ≤ a.2.2.1) {w : List Int} {x y : Nat} {c : Int} (h : Rd (mtA (n' : Int) L L') w x y c) : ∀ i j, x = i * n' + j → j < n' → ∃ k q c1 c2, y = k * n' + q ∧ q < n' ∧ Rd L w i k c1 ∧ Rd L' w j q c2 ∧ c = c1 + c2 := by
  induction h with
  | nil x => exact fun i j e hj => ⟨i, j, 0, 0, e, hj, .nil i, .nil j, rfl⟩
  | emp hr _ ih => exact (em_mt h0 hr).elim
  | let_ hr _ ih =>
    intro i j e hj
    subst e
    obtain ⟨p, q, d1, d2, rfl, hq, g1, g2, e1⟩ := (lt_mt hL hL' hj).1 hr
    obtain ⟨k, q2, c1, c2, e2, hq2, f1, f2, e3⟩ := ih p q rfl hq
    exact ⟨k, q2, _, _, e2, hq2, .let_ g1 f1, .let_ g2 f2, by omega⟩
theorem mt_rd {n : Nat} (hL : okM n L) (hL' : okM n' L') (h0 : ∀ a ∈ L, 0 ≤ a.2.2.1) (h0' : ∀ a ∈ L', 0 ≤ a.2.2.1) {w : List Int} {i k : Nat} {c1 : Int} (h : Rd L w i k c1) : ∀ {j q : Nat} {c2 : Int}, j < n' → Rd L' w j q c2 → Rd (mtA (n' : Int) L L') w (i * n' + j) (k * n' + q) (c1 + c2) := by
  induction h with
  | nil i =>
    intro j q c2 hj h'
    cases h' with
    | nil => exact (Rd.nil _).cast (by omega)
    | emp hr _ => exact (em_no h0' hr).elim
  | emp hr _ ih => exact (em_no h0 hr).elim
  | let_ hr _ ih =>
    intro j q c2 hj h'
    cases h' with
    | emp hr _ => exact (em_no h0' hr).elim
    | let_ hr' hd' =>
      have hx := (hL'.lt hr').2.1
      exact (Rd.let_ ((lt_mt hL hL' hj).2 ⟨_, _, _, _, rfl, hx, hr, hr', rfl⟩) (ih hx hd')).cast (by omega)
theorem wc_mt (ho : Okw t L P E) (ho' : Okw t L' P' E') (h0 : ∀ a ∈ L, 0 ≤ a.2.2.1) (h0' : ∀ a ∈ L', 0 ≤ a.2.2.1) (w : List Int) (c : Int) : Wc (mtA (P'.length : Int) L L') (psL P P') (psL E E') w c ↔ ∃ c1 c2, Wc L P E w c1 ∧ Wc L' P' E' w c2 ∧ c = c1 + c2 := by
  constructor
  · rintro ⟨x, y, c0, c1, c2, h1, h2, h3, e⟩
    obtain ⟨i, j, a1, a2, rfl, s1, s2, e1⟩ := stt_psL.1 h1
    obtain ⟨k, q, b1, b2, rfl, t1, t2, e2⟩ := stt_psL.1 h3
    obtain ⟨k2, q2, d1, d2, e3, hq2, r1, r2, e4⟩ := rd_mt ho.arcs ho'.arcs h0 h2 i j rfl s2.lt
    rw [ho'.len] at e3
    obtain ⟨rfl, rfl⟩ := at_inj (by have := t2.lt; rwa [ho'.len] at this) hq2 e3
    exact ⟨_, _, ⟨i, k, a1, d1, b1, s1, r1, t1, rfl⟩, ⟨j, q, a2, d2, b2, s2, r2, t2, rfl⟩, by omega⟩
  · rintro ⟨c1, c2, ⟨i, k, a0, a1, a2, h1, h2, h3, e⟩, ⟨j, q, b0, b1, b2, g1, g2, g3, e'⟩, rfl⟩
    exact ⟨i * P'.length + j, k * P'.length + q, a0 + b0, a1 + b1, a2 + b2, stt_psL.2 ⟨i, j, a0, b0, rfl, h1, g1, rfl⟩, mt_rd ho.arcs ho'.arcs h0 h0' h2 g1.lt g2, stt_psL.2 ⟨k, q, a2, b2, by rw [ho'.len], h3, g3, rfl⟩, by omega⟩
theorem cst_mt (ho : Okw t L P E) (ho' : Okw t L' P' E') (h0 : ∀ a ∈ L, 0 ≤ a.2.2.1) (h0' : ∀ a ∈ L', 0 ≤ a.2.2.1) (hm : Okw t (mtA (P'.length : Int) L L') (psL P P') (psL E E')) {w : List Int} (hw : w.length ≤ 12) :
    cst (mtA (P'.length : Int) L L') (psL P P') (psL E E') w = r8A (cst L P E w) (cst L' P' E' w) :=
  (cv_co hm hw).uniq (((cv_co ho hw).add (cv_co ho' hw)).congr (fun c => (wc_mt ho ho' h0 h0' w c).symm))
end
section
variable {s s' t : Nat} {L L' : List A4} {P E P' E' : List Int}
theorem psL_bd {X Y : List Int} (hX : ∀ x ∈ X, -1 ≤ x ∧ x ≤ 3) (hY : ∀ x ∈ Y, -1 ≤ x ∧ x ≤ 3) : ∀ x ∈ psL X Y, -1 ≤ x ∧ x ≤ 6 := by
  intro z hz
  unfold psL psR at hz
  simp only [List.mem_flatMap, List.mem_map] at hz
  obtain ⟨x, hx, y, hy, rfl⟩ := hz
  have := hX x hx; have := hY y hy
  unfold psV
  split <;> omega
/-- Of two drawn machines: what MeetOf makes is valid. -/
theorem vm_mt (h : Dwn s t false L P E) (h' : Dwn s' t false L' P' E') (hs : 1 ≤ s) (hs4 : s ≤ 3) (hs' : 1 ≤ s') (hs4' : s' ≤ 3) (ht : 1 ≤ t) (ht' : t ≤ 4) : vmB ((s : Int) * (s' : Int)) t (mtA (P'.length : Int) L L') (psL P P') (psL E E') = true := by
  have h1 := h.np; have h2 := h.ne; have h3 := h.nl
  have k1 := h'.np; have k2 := h'.ne; have k3 := h'.nl
  have g1 := mtA_len (P'.length : Int) L' L
  have g2 : L.length * L'.length ≤ 8 * 8 := Nat.mul_le_mul (by omega) (by omega)
  have g3 : s * s' ≤ 3 * 3 := Nat.mul_le_mul hs4 hs4'
  have g4 : 1 * 1 ≤ s * s' := Nat.mul_le_mul hs hs'
  have g5 : (s : Int) * (s' : Int) = ((s * s' : Nat) : Int) := by push_cast; rfl
  rw [g5]
  refine vmB_mk (by omega) (by omega) (by omega) (fun b hb => ?_) (by rw [psL_len, h1, k1]) (fun x hx => by have := psL_bd h.st h'.st x hx; omega) (by rw [psL_len, h2, k2]) (fun x hx => by have := psL_bd h.en h'.en x hx; omega)
  obtain ⟨x, hx, y, hy, e, rfl⟩ := mtA_mem.1 hb
  have a1 := h.arc x hx
  have a2 := h'.arc y hy
  rw [k1]
  have m1 : ∀ p q : Int, 0 ≤ p → p < s → 0 ≤ q → q < s' → 0 ≤ p * (s' : Int) + q ∧ p * (s' : Int) + q ≤ ((s * s' : Nat) : Int) - 1 := by
    intro p q hp0 hp hq0 hq
    have b1 : p * (s' : Int) ≤ ((s : Int) - 1) * (s' : Int) := Int.mul_le_mul_of_nonneg_right (by omega) (by omega)
    have b2 : 0 ≤ p * (s' : Int) := Int.mul_nonneg hp0 (by omega)
    have b3 : ((s : Int) - 1) * (s' : Int) = (s : Int) * (s' : Int) - (s' : Int) := by rw [Int.sub_mul, Int.one_mul]
    rw [← g5]
    omega
  have m2 := m1 x.1 y.1 (by omega) (by omega) (by omega) (by omega)
  have m3 := m1 x.2.1 y.2.1 (by omega) (by omega) (by omega) (by omega)
  show (0 ≤ x.1 * (s' : Int) + y.1 ∧ _) ∧ (0 ≤ x.2.1 * (s' : Int) + y.2.1 ∧ _) ∧ (-1 ≤ x.2.2.1 ∧ x.2.2.1 ≤ t - 1) ∧ 0 ≤ x.2.2.2 + y.2.2.2 ∧ x.2.2.2 + y.2.2.2 ≤ 1000
  exact ⟨m2, m3, by omega, by omega⟩
end
end Go.Proofs.Ytkfmjnefbimecaa
