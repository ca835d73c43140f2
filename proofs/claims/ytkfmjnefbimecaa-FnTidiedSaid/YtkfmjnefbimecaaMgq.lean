/- Several texts in one: WithoutEmpty plainly: it tells no more and no less than the machine. WithoutEmpty plainly: words cost as before; the arcs are few and cheap. -/
import Derived.Test.YtkfmjnefbimecaaMgc
import Derived.Test.YtkfmjnefbimecaaFmP


namespace Go.Proofs.Ytkfmjnefbimecaa
open Go.RowKit
set_option linter.unusedVariables false
/-- Tidy arcs weigh words alike. -/
theorem em_tdy {L : List A4} {i k : Nat} {c : Int} (h : Em (tdy L) i k c) : Em L i k c := by
  obtain ⟨a, ha, h⟩ := h
  exact ⟨a, tdy_mem ha, h⟩
theorem lt_tdy {L : List A4} {l : Int} {i k : Nat} {c : Int} (h : Lt (tdy L) l i k c) : Lt L l i k c := by
  obtain ⟨a, ha, h⟩ := h
  exact ⟨a, tdy_mem ha, h⟩
theorem em_tdy' {L : List A4} {i k : Nat} {c : Int} (h : Em L i k c) : ∃ c', c' ≤ c ∧ Em (tdy L) i k c' := by
  obtain ⟨a, ha, e1, e2, e3, e4⟩ := h
  obtain ⟨b, hb, f1, f2, f3, f4⟩ := tdy_has ha
  exact ⟨b.2.2.2, by omega, b, hb, by omega, by omega, by omega, rfl⟩
theorem lt_tdy' {L : List A4} {l : Int} {i k : Nat} {c : Int} (h : Lt L l i k c) : ∃ c', c' ≤ c ∧ Lt (tdy L) l i k c' := by
  obtain ⟨a, ha, e1, e2, e3, e4⟩ := h
  obtain ⟨b, hb, f1, f2, f3, f4⟩ := tdy_has ha
  exact ⟨b.2.2.2, by omega, b, hb, by omega, by omega, by omega, rfl⟩
theorem rd_tdy {L : List A4} {w : List Int} {i k : Nat} {c : Int} (h : Rd L w i k c) : ∃ c', c' ≤ c ∧ Rd (tdy L) w i k c' := by
  induction h with
  | nil i => exact ⟨0, Int.le_refl _, .nil i⟩
  | emp hr _ ih =>
    obtain ⟨d, hd, h1⟩ := em_tdy' hr
    obtain ⟨d', hd', h2⟩ := ih
    exact ⟨d + d', by omega, .emp h1 h2⟩
  | let_ hr _ ih =>
    obtain ⟨d, hd, h1⟩ := lt_tdy' hr
    obtain ⟨d', hd', h2⟩ := ih
    exact ⟨d + d', by omega, .let_ h1 h2⟩
theorem wc_tdy {L : List A4} {P E w : List Int} {c : Int} (h : Wc (tdy L) P E w c) : Wc L P E w c := by
  obtain ⟨i, k, c0, c1, c2, h1, h2, h3, e⟩ := h
  exact ⟨i, k, c0, c1, c2, h1, h2.mono (fun _ _ _ => em_tdy) (fun _ _ _ _ => lt_tdy), h3, e⟩
theorem wc_tdy' {L : List A4} {P E w : List Int} {c : Int} (h : Wc L P E w c) : ∃ c', c' ≤ c ∧ Wc (tdy L) P E w c' := by
  obtain ⟨i, k, c0, c1, c2, h1, h2, h3, e⟩ := h
  obtain ⟨d, hd, h4⟩ := rd_tdy h2
  exact ⟨c0 + d + c2, by omega, i, k, c0, d, c2, h1, h4, h3, rfl⟩
theorem okw_tdy {t : Nat} {L : List A4} {P E : List Int} (h : Okw t L P E) : Okw t (tdy L) P E := ⟨h.len, h.n, fun a ha => h.arcs a (tdy_mem ha), h.st, h.en⟩
theorem cst_tdy {t : Nat} {L : List A4} {P E w : List Int} (h : Okw t L P E) (hw : w.length ≤ 12) : cst (tdy L) P E w = cst L P E w :=
  Cv.uniq ((cv_co (okw_tdy h) hw).sub (R := Wc L P E w) (fun _ => wc_tdy) (fun _ => wc_tdy')) (cv_co h hw)
/-! WithoutEmpty -/
def one0 (F : Int) (n i : Nat) : List Int := (List.replicate n F).set i 0
def weR (F : Int) (L : List A4) (n i : Nat) : List Int := relN L (one0 F n i) n
theorem one0_len (F : Int) (n i : Nat) : (one0 F n i).length = n := by unfold one0; simp
theorem weR_len (F : Int) (L : List A4) (n i : Nat) : (weR F L n i).length = n := by unfold weR; rw [relN_len, one0_len]
theorem rep_one {F : Int} (hF : 0 ≤ F) {n i : Nat} (hi : i < n) : Rep F n (one0 F n i) (fun k c => k = i ∧ c = 0) := by
  refine ⟨one0_len _ _ _, fun k x hx => ?_⟩
  unfold one0 at hx
  rw [List.getElem?_set] at hx
  by_cases e : i = k
  · rw [if_pos e, if_pos (by simp; exact hi)] at hx
    obtain rfl := Option.some.inj hx
    exact ⟨hF, fun c hc => by omega, fun _ => ⟨e.symm, rfl⟩⟩
  · rw [if_neg e, List.getElem?_replicate] at hx
    split at hx
    · obtain rfl := Option.some.inj hx
      exact ⟨Int.le_refl _, fun c hc => absurd hc.1.symm e, fun h => by omega⟩
    · cases hx
theorem rep_row {F : Int} (hF : 0 ≤ F) {n i : Nat} {L : List A4} (hL : okM n L) (hi : i < n) : Rep F n (weR F L n i) (Wy (Em L) i) := by
  refine (Rep.relax hL (rep_one hF hi)).congr (fun k c hk => ⟨?_, fun h => ⟨i, 0, c, hi, ⟨rfl, rfl⟩, h, by omega⟩⟩)
  rintro ⟨j, c1, c2, hj, ⟨rfl, rfl⟩, h, rfl⟩
  rw [Int.zero_add]; exact h
/-- The arcs of one state, one state behind it and one arc. -/
def weC (F : Int) (r : List Int) (i k : Nat) (a : A4) : List A4 := if g0 r k < F ∧ 0 ≤ a.2.2.1 ∧ a.1 = (k : Int) then [((i : Int), a.2.1, a.2.2.1, g0 r k + a.2.2.2)] else []
def weK (F : Int) (L : List A4) (r : List Int) (i k : Nat) : List A4 := L.flatMap (weC F r i k)
def weKs (F : Int) (L : List A4) (r : List Int) (i : Nat) : Nat → List A4
  | 0 => []
  | k + 1 => weKs F L r i k ++ weK F L r i k
def weIs (F : Int) (L : List A4) (n : Nat) : Nat → List A4
  | 0 => []
  | i + 1 => weIs F L n i ++ weKs F L (weR F L n i) i n
def weA (F : Int) (L : List A4) (n : Nat) : List A4 := weIs F L n n
def weEs (F : Int) (L : List A4) (E : List Int) (n : Nat) : Nat → List Int
  | 0 => []
  | i + 1 => weEs F L E n i ++ [lsV F (weR F L n i) (frL F E)]
def weE (F : Int) (L : List A4) (E : List Int) (n : Nat) : List Int := weEs F L E n n
theorem weC_mem {F : Int} {r : List Int} {i k : Nat} {a b : A4} : b ∈ weC F r i k a ↔ g0 r k < F ∧ 0 ≤ a.2.2.1 ∧ a.1 = (k : Int) ∧ b = ((i : Int), a.2.1, a.2.2.1, g0 r k + a.2.2.2) := by
  unfold weC
  split
  · rename_i h
    rw [List.mem_singleton]
    exact ⟨fun e => ⟨h.1, h.2.1, h.2.2, e⟩, fun e => e.2.2.2⟩
  · rename_i h
    exact ⟨fun e => (List.not_mem_nil e).elim, fun e => (h ⟨e.1, e.2.1, e.2.2.1⟩).elim⟩
theorem weKs_mem {F : Int} {L : List A4} {r : List Int} {i : Nat} {b : A4} : ∀ {m : Nat}, b ∈ weKs F L r i m ↔ ∃ k a, k < m ∧ a ∈ L ∧ b ∈ weC F r i k a
  | 0 => ⟨fun h => (List.not_mem_nil h).elim, fun ⟨k, a, h, _⟩ => (Nat.not_lt_zero _ h).elim⟩
  | m + 1 => by
    rw [weKs, List.mem_append, weKs_mem, weK, List.mem_flatMap]
    constructor
    · rintro (⟨k, a, hk, h⟩ | ⟨a, h⟩)
      · exact ⟨k, a, by omega, h⟩
      · exact ⟨m, a, by omega, h⟩
    · rintro ⟨k, a, hk, h⟩
      by_cases e : k = m
      · subst e; exact .inr ⟨a, h⟩
      · exact .inl ⟨k, a, by omega, h⟩
theorem weIs_mem {F : Int} {L : List A4} {n : Nat} {b : A4} : ∀ {m : Nat}, b ∈ weIs F L n m ↔ ∃ i k a, i < m ∧ k < n ∧ a ∈ L ∧ b ∈ weC F (weR F L n i) i k a
  | 0 => ⟨fun h => (List.not_mem_nil h).elim, fun ⟨i, k, a, h, _⟩ => (Nat.not_lt_zero _ h).elim⟩
  | m + 1 => by
    rw [weIs, List.mem_append, weIs_mem, weKs_mem]
    constructor
    · rintro (⟨i, k, a, hk, h⟩ | ⟨k, a, h⟩)
      · exact ⟨i, k, a, by omega, h⟩
      · exact ⟨m, k, a, by omega, h⟩
    · rintro ⟨i, k, a, hk, h⟩
      by_cases e : i = m
      · subst e; exact .inr ⟨k, a, h⟩
      · exact .inl ⟨i, k, a, by omega, h⟩
theorem weA_mem {F : Int} {L : List A4} {n : Nat} {b : A4} : b ∈ weA F L n ↔ ∃ i k a, i < n ∧ k < n ∧ a ∈ L ∧ g0 (weR F L n i) k < F ∧ 0 ≤ a.2.2.1 ∧ a.1 = (k : Int) ∧ b = ((i : Int), a.2.1, a.2.2.1, g0 (weR F L n i) k + a.2.2.2) := by
  unfold weA
  rw [weIs_mem]
  simp only [weC_mem]
theorem em_weA {F : Int} {L : List A4} {n i k : Nat} {c : Int} (h : Em (weA F L n) i k c) : False := by
  obtain ⟨b, hb, e1, e2, e3, e4⟩ := h
  obtain ⟨i', k', a, hi, hk, ha, h1, h2, h3, rfl⟩ := weA_mem.1 hb
  simp only at e3
  omega
theorem lt_weA {F : Int} {L : List A4} {n i y : Nat} {l c : Int} : Lt (weA F L n) l i y c ↔ 0 ≤ l ∧ i < n ∧ ∃ k c2, k < n ∧ g0 (weR F L n i) k < F ∧ Lt L l k y c2 ∧ c = g0 (weR F L n i) k + c2 := by
  constructor
  · rintro ⟨b, hb, e1, e2, e3, e4⟩
    obtain ⟨i', k', a, hi, hk, ha, h1, h2, h3, rfl⟩ := weA_mem.1 hb
    simp only at e1 e2 e3 e4
    have e1' : i' = i := by omega
    subst e1'
    exact ⟨by omega, hi, k', a.2.2.2, hk, h1, ⟨a, ha, h3, e2, e3, rfl⟩, e4.symm⟩
  · rintro ⟨h0, hi, k, c2, hk, h1, ⟨a, ha, e1, e2, e3, e4⟩, e⟩
    exact ⟨_, weA_mem.2 ⟨i, k, a, hi, hk, ha, h1, by omega, e1, rfl⟩, rfl, e2, e3, by simp only; omega⟩
theorem weEs_len (F : Int) (L : List A4) (E : List Int) (n : Nat) : ∀ m, (weEs F L E n m).length = m
  | 0 => rfl
  | m + 1 => by rw [weEs, List.length_append, weEs_len]; rfl
theorem weEs_at {F : Int} {L : List A4} {E : List Int} {n i : Nat} : ∀ {m}, i < m → (weEs F L E n m)[i]? = some (lsV F (weR F L n i) (frL F E))
  | 0, h => by omega
  | m + 1, h => by
    rw [weEs]
    by_cases e : i = m
    · subst e
      rw [List.getElem?_append_right (by rw [weEs_len]; omega), weEs_len, Nat.sub_self]; rfl
    · rw [List.getElem?_append_left (by rw [weEs_len]; omega)]
      exact weEs_at (by omega)
theorem weE_len (F : Int) (L : List A4) (E : List Int) (n : Nat) : (weE F L E n).length = n := weEs_len _ _ _ _ _
end Go.Proofs.Ytkfmjnefbimecaa



namespace Go.Proofs.Ytkfmjnefbimecaa
open Go.RowKit
set_option linter.unusedVariables false
section
variable {F : Int} {t : Nat} {L : List A4} {P E : List Int}
theorem row_way {n i k : Nat} (hF : 0 ≤ F) (hL : okM n L) (hi : i < n) (hk : k < n) (h : g0 (weR F L n i) k < F) : Wy (Em L) i k (g0 (weR F L n i) k) := by
  obtain ⟨x, hx, h1, h2, h3⟩ := (rep_row hF hL hi).get hk
  rw [g0_get hx] at h ⊢
  exact h3 h
theorem row_le {n i k : Nat} (hF : 0 ≤ F) (hL : okM n L) (hi : i < n) (hk : k < n) {c : Int} (h : Wy (Em L) i k c) : g0 (weR F L n i) k ≤ c := by
  obtain ⟨x, hx, h1, h2, h3⟩ := (rep_row hF hL hi).get hk
  rw [g0_get hx]
  exact h2 c h
theorem row_bd {b : Int} {n i k : Nat} (hF : 0 ≤ F) (hL : okM n L) (hb0 : 0 ≤ b) (hb : ∀ a ∈ L, a.2.2.2 ≤ b) (hi : i < n) (hk : k < n) (h : g0 (weR F L n i) k < F) : 0 ≤ g0 (weR F L n i) k ∧ g0 (weR F L n i) k ≤ b * n := by
  have hw := row_way hF hL hi hk h
  obtain ⟨l, c', g1, g2, g3, g4⟩ := hw.short (b := b) (fun _ _ _ he => (hL.em he).2.2.1) (fun _ _ _ ⟨a, ha, _, _, _, e⟩ => by have := hb a ha; omega) (fun _ _ _ he => (hL.em he).2.1) hb0 hi
  have h5 := row_le (F := F) hF hL hi hk g1.way
  exact ⟨hw.nonneg (fun _ _ _ he => (hL.em he).2.2.1), by omega⟩
/-- A way that is short enough. -/
theorem way_short {n i k : Nat} (hL : okM n L) (hn : n ≤ 16) (hi : i < n) {c : Int} (h : Wy (Em L) i k c) : ∃ c', c' ≤ c ∧ c' ≤ 16000 ∧ Wy (Em L) i k c' := by
  obtain ⟨l, c', g1, g2, g3, g4⟩ := h.short (b := 1000) (fun _ _ _ he => (hL.em he).2.2.1) (fun _ _ _ he => (hL.em he).2.2.2) (fun _ _ _ he => (hL.em he).2.1) (by omega) hi
  exact ⟨c', g2, by omega, g1.way⟩
theorem cv_weE (ho : Okw t L P E) {i : Nat} (hi : i < P.length) : Cv (lsV 1099511627776 (weR 1099511627776 L P.length i) (frL 1099511627776 E)) (Sm P.length (Wy (Em L) i) (Stt E)) := by
  have hn := ho.n
  have h1 := lst_sm (F := 1099511627776) (by omega) (rep_row (by omega) ho.arcs hi) (ho.len ▸ rep_fr (F := 1099511627776) (fun x hx => by have := ho.en x hx; omega)) (fun k c h => h.nonneg (fun _ _ _ he => (ho.arcs.em he).2.2.1)) (fun k c h => h.2)
  unfold lsV
  rw [weR_len]
  refine Cv.of_lst h1 ?_ ?_
  · rintro c ⟨k, c1, c2, hk, g1, g2, e⟩
    have := g1.nonneg (fun _ _ _ he => (ho.arcs.em he).2.2.1)
    have := g2.2
    omega
  · rintro c ⟨k, c1, c2, hk, g1, g2, e⟩
    obtain ⟨c', f1, f2, f3⟩ := way_short ho.arcs hn hi g1
    have := ho.en c2 (List.mem_of_getElem? g2.1)
    exact ⟨c' + c2, ⟨k, c', c2, hk, f3, g2, rfl⟩, by omega⟩
theorem stt_weE {n i : Nat} {c : Int} (hi : i < n) : Stt (weE F L E n) i c ↔ lsV F (weR F L n i) (frL F E) = c ∧ 0 ≤ c := by
  unfold Stt weE
  rw [weEs_at hi]
  exact ⟨fun h => ⟨Option.some.inj h.1, h.2⟩, fun h => ⟨congrArg some h.1, h.2⟩⟩
theorem Rd.of_we (hF : 0 ≤ F) (hL : okM P.length L) {w : List Int} {i k : Nat} {c : Int} (h : Rd (weA F L P.length) w i k c) : Rd L w i k c := by
  induction h with
  | nil i => exact .nil i
  | emp hr _ ih => exact (em_weA hr).elim
  | let_ hr _ ih =>
    obtain ⟨h0, hi, p, c2, hp, h1, h2, e⟩ := lt_weA.1 hr
    exact (Rd.way (row_way hF hL hi hp h1) (.let_ h2 ih)).cast (by omega)
theorem wc_we (ho : Okw t L P E) {w : List Int} {c : Int} (h : Wc (weA 1099511627776 L P.length) P (weE 1099511627776 L E P.length) w c) : Wc L P E w c := by
  obtain ⟨i, k, c0, c1, c2, h1, h2, h3, e⟩ := h
  have hk : k < P.length := by have := h3.lt; rwa [weE_len] at this
  have h4 := (stt_weE hk).1 h3
  rcases cv_weE ho hk with ⟨e1, _⟩ | ⟨_, ⟨q, d1, d2, hq, g1, g2, e2⟩, _⟩
  · omega
  · have h5 := (Rd.of_we (by omega) ho.arcs h2).trans (Rd.way g1 (.nil q))
    rw [List.append_nil] at h5
    exact ⟨i, q, c0, _, d2, h1, h5, g2, by omega⟩
theorem we_rd (ho : Okw t L P E) {w : List Int} {i k : Nat} {c : Int} (h : Rd L w i k c) : (∀ l ∈ w, 0 ≤ l) → ∀ {c2 : Int}, Stt E k c2 → ∀ z d, z < P.length → Wy (Em L) z i d → ∃ q c1 e, Rd (weA 1099511627776 L P.length) w z q c1 ∧ Stt (weE 1099511627776 L E P.length) q e ∧ c1 + e ≤ d + c + c2 := by
  induction h with
  | nil i =>
    intro _ c2 hs z d hz hw
    have hi : i < P.length := by have := hs.lt; rw [ho.len] at this; exact this
    rcases cv_weE ho hz with ⟨e1, h⟩ | ⟨h0, _, h⟩
    · exact (h _ ⟨i, d, c2, hi, hw, hs, rfl⟩).elim
    · have := h _ ⟨i, d, c2, hi, hw, hs, rfl⟩
      exact ⟨z, 0, _, .nil z, (stt_weE hz).2 ⟨rfl, h0⟩, by omega⟩
  | emp hr _ ih =>
    intro h0 c2 hs z d hz hw
    obtain ⟨q, c1, e, g1, g2, g3⟩ := ih h0 hs z _ hz (hw.snoc hr)
    exact ⟨q, c1, e, g1, g2, by omega⟩
  | @let_ w l i x k c c' hr _ ih =>
    intro h0 c2 hs z d hz hw
    have hl := ho.arcs.lt hr
    obtain ⟨q, c1, e, g1, g2, g3⟩ := ih (fun l' h => h0 l' (List.mem_cons_of_mem _ h)) hs x 0 hl.2.1 (.refl x)
    have h1 := row_le (F := 1099511627776) (by omega) ho.arcs hz hl.1 hw
    obtain ⟨d', f1, f2, f3⟩ := way_short ho.arcs ho.n hz hw
    have h2 := row_le (F := 1099511627776) (by omega) ho.arcs hz hl.1 f3
    exact ⟨q, _, e, .let_ (lt_weA.2 ⟨h0 l (List.mem_cons_self ..), hz, i, c, hl.1, by omega, hr, rfl⟩) g1, g2, by omega⟩
theorem we_wc (ho : Okw t L P E) {w : List Int} (h0 : ∀ l ∈ w, 0 ≤ l) {c : Int} (h : Wc L P E w c) : ∃ c', c' ≤ c ∧ Wc (weA 1099511627776 L P.length) P (weE 1099511627776 L E P.length) w c' := by
  obtain ⟨i, k, c0, c1, c2, h1, h2, h3, e⟩ := h
  obtain ⟨q, d, e', g1, g2, g3⟩ := we_rd ho h2 h0 h3 i 0 h1.lt (.refl i)
  exact ⟨c0 + d + e', by omega, i, q, c0, d, e', h1, g1, g2, rfl⟩
theorem cst_we (ho : Okw t L P E) (hc : Okw t (tdy (weA 1099511627776 L P.length)) P (weE 1099511627776 L E P.length)) {w : List Int} (h0 : ∀ l ∈ w, 0 ≤ l) (hw : w.length ≤ 12) :
    cst (tdy (weA 1099511627776 L P.length)) P (weE 1099511627776 L E P.length) w = cst L P E w :=
  Cv.uniq ((cv_co hc hw).sub (R := Wc L P E w) (fun _ h => wc_we ho (wc_tdy h)) (fun c h => by
    obtain ⟨c1, e1, h1⟩ := we_wc ho h0 h
    obtain ⟨c2, e2, h2⟩ := wc_tdy' h1
    exact ⟨c2, by omega, h2⟩)) (cv_co ho hw)
/-! The arcs are few. -/
def cntLt (L : List A4) (k : Nat) : Nat := L.countP fun a => decide (a.1 < (k : Int))
theorem cnt_step (L : List A4) (k : Nat) : cntLt L k + L.countP (fun a => decide (a.1 = (k : Int))) ≤ cntLt L (k + 1) := by
  unfold cntLt
  induction L with
  | nil => simp
  | cons a L ih =>
    rw [List.countP_cons, List.countP_cons, List.countP_cons]
    have : (if decide (a.1 < (k : Int)) = true then 1 else 0) + (if decide (a.1 = (k : Int)) = true then 1 else 0) ≤ (if decide (a.1 < ((k + 1 : Nat) : Int)) = true then 1 else 0 : Nat) := by
      simp only [decide_eq_true_eq]
      split <;> split <;> split <;> omega
    omega
theorem weK_len (r : List Int) (i k : Nat) : ∀ L : List A4, (weK F L r i k).length ≤ L.countP (fun a => decide (a.1 = (k : Int)))
  | [] => by simp [weK]
  | a :: L => by
    have ih := weK_len r i k L
    unfold weK at ih ⊢
    rw [List.flatMap_cons, List.length_append, List.countP_cons]
    have : (weC F r i k a).length ≤ if decide (a.1 = (k : Int)) = true then 1 else 0 := by
      unfold weC
      split
      · rename_i h
        rw [if_pos (decide_eq_true h.2.2)]; exact Nat.le_refl _
      · exact Nat.zero_le _
    omega
theorem weKs_len (r : List Int) (i : Nat) : ∀ k, (weKs F L r i k).length ≤ cntLt L k
  | 0 => Nat.zero_le _
  | k + 1 => by
    have h1 := weKs_len r i k
    have h2 := weK_len (F := F) r i k L
    have h3 := cnt_step L k
    rw [weKs, List.length_append]; omega
theorem weIs_len (n : Nat) : ∀ m, (weIs F L n m).length ≤ L.length * m
  | 0 => Nat.zero_le _
  | m + 1 => by
    have h1 := weIs_len n m
    have h2 := weKs_len (F := F) (L := L) (weR F L n m) m n
    have h3 : cntLt L n ≤ L.length := List.countP_le_length
    rw [weIs, List.length_append, Nat.mul_succ]; omega
theorem weA_len (n : Nat) : (weA F L n).length ≤ L.length * n := weIs_len n n
end
section
variable {s t : Nat} {em : Bool} {L : List A4} {P E : List Int}
/-- Of a drawn machine: what WithoutEmpty makes is valid. -/
theorem vm_we (h : Dwn s t em L P E) (hs : 1 ≤ s) (hs4 : s ≤ 4) (ht : 1 ≤ t) (ht' : t ≤ 4) : vmB s t (weA 1099511627776 L P.length) P (weE 1099511627776 L E P.length) = true := by
  have h1 := h.np; have h2 := h.ne; have h3 := h.nl
  have hv := h.vm hs (by omega) ht ht'
  have ho := okw_vm hv t
  have g1 := weA_len (F := 1099511627776) (L := L) P.length
  have g2 : L.length * P.length ≤ 10 * 4 := Nat.mul_le_mul (by omega) (by omega)
  refine vmB_mk (by omega) (by omega) (by omega) (fun b hb => ?_) (by omega) (fun x hx => ?_) (by rw [weE_len]; omega) (fun x hx => ?_)
  · obtain ⟨i, k, a, hi, hk, ha, q1, q2, q3, rfl⟩ := weA_mem.1 hb
    have q4 := row_bd (b := 8) (by omega) ho.arcs (by omega) (fun a ha => (h.arc a ha).2.2.2.2.2.2.2.1) hi hk q1
    have := h.arc a ha
    show (0 ≤ (i : Int) ∧ (i : Int) ≤ s - 1) ∧ (0 ≤ a.2.1 ∧ a.2.1 ≤ s - 1) ∧ (-1 ≤ a.2.2.1 ∧ a.2.2.1 ≤ t - 1) ∧ 0 ≤ g0 _ k + a.2.2.2 ∧ g0 _ k + a.2.2.2 ≤ 1000
    omega
  · have := h.st x hx; omega
  · obtain ⟨i, hi⟩ := List.getElem?_of_mem hx
    have hl := (List.getElem?_eq_some_iff.1 hi).1
    rw [weE_len] at hl
    have hx2 : lsV 1099511627776 (weR 1099511627776 L P.length i) (frL 1099511627776 E) = x := by
      have := weEs_at (F := 1099511627776) (L := L) (E := E) (n := P.length) hl
      unfold weE at hi
      exact Option.some.inj (this.symm.trans hi)
    rcases cv_weE ho hl with ⟨e, _⟩ | ⟨p0, ⟨k, c1, c2, hk, w1, w2, e⟩, p2⟩
    · omega
    · obtain ⟨l, c', f1, f2, f3, f4⟩ := w1.short (b := 8) (fun _ _ _ he => (ho.arcs.em he).2.2.1) (fun _ _ _ ⟨a, ha, _, _, _, e⟩ => by have := h.arc a ha; omega) (fun _ _ _ he => (ho.arcs.em he).2.1) (by omega) hl
      have := p2 _ ⟨k, c', c2, hk, f1.way, w2, rfl⟩
      have := h.en c2 (List.mem_of_getElem? w2.1)
      omega
end
end Go.Proofs.Ytkfmjnefbimecaa
