/- Best words, plainly: program and reference choose the same word. -/
import Derived.Test.YtedbngnkkfpbeaaBwP

namespace Go.Proofs.Ytedbngnkkfpbeaa
open Go.RowKit
set_option linter.unusedVariables false
/-- The costs behind these letters (told backwards), as the program and the reference reckon them. -/
def cwV (F : Int) (L : List A4) (P : List Int) : List Int → List Int
  | [] => fiV F L P
  | l :: rw => stV F L l (cwV F L P rw)
def nwV (F : Int) (L : List A4) (P : List Int) (C : List (List Int)) : List Int → List Int
  | [] => frL F P
  | l :: rw => mvV F (nwV F L P C rw) (spV F L l C)
theorem cwV_len (F : Int) (L : List A4) (P : List Int) : ∀ rw, (cwV F L P rw).length = P.length
  | [] => fiV_len F L P
  | l :: rw => by rw [cwV, stV_len, cwV_len F L P rw]
theorem nwV_len (F : Int) (L : List A4) (P : List Int) (C : List (List Int)) : ∀ rw, (nwV F L P C rw).length = P.length
  | [] => frL_len F P
  | l :: rw => by rw [nwV, mvV_len, nwV_len F L P C rw]
theorem cwV_bd {F : Int} (hF : 0 ≤ F) {L : List A4} {P : List Int} (hP : ∀ x ∈ P, x ≤ F) (hL : ∀ a ∈ L, 0 ≤ a.2.2.2) : ∀ rw, Bd F (cwV F L P rw)
  | [] => fiV_bd hF hP hL
  | l :: rw => stV_bd hF (cwV_bd hF hP hL rw) hL
theorem nwV_bd {F : Int} (hF : 0 ≤ F) {L : List A4} {P : List Int} {C : List (List Int)} (hP : ∀ x ∈ P, x ≤ F) (hL : ∀ a ∈ L, 0 ≤ a.2.2.2) (hC : BdR F C) : ∀ rw, Bd F (nwV F L P C rw)
  | [] => frL_bd hF hP
  | l :: rw => mvV_bd hF (nwV_bd hF hP hL hC rw) (spV_bd hF hC hL)
theorem rep_cw {F : Int} (hF : 0 ≤ F) {L : List A4} {P : List Int} (hL : okM P.length L) (hP : ∀ x ∈ P, x ≤ F) : ∀ rw, Rep F P.length (cwV F L P rw) (Cl P.length L (Bw P.length L P rw))
  | [] => (rep_fr hP).relax hL
  | l :: rw => by
    have h := rep_cw hF hL hP rw
    have h2 := Rep.step (l := l) hL h hF L.length
    rw [List.take_length] at h2
    have h3 := h2.relax hL
    rw [cwV]
    unfold stV
    rw [cwV_len]
    exact h3
theorem rep_nw {F : Int} (hF : 0 ≤ F) {L : List A4} {P : List Int} {C : List (List Int)} (hL : okM P.length L) (hP : ∀ x ∈ P, x ≤ F) (hC : ClsT F P.length L C) : ∀ rw, Rep F P.length (nwV F L P C rw) (Bw P.length L P rw)
  | [] => rep_fr hP
  | l :: rw => rep_move hF hL (rep_nw hF hL hP hC rw) (nwV_bd hF hP hL.cost hC.2.1 rw) hC
/-- A machine's numbers, as both programs want them. -/
structure Okw (T : Nat) (L : List A4) (P E : List Int) : Prop where
  len : E.length = P.length
  n : P.length ≤ 16
  arcs : okM P.length L
  st : ∀ x ∈ P, x ≤ 1000
  en : ∀ x ∈ E, x ≤ 1000
/-- The least cost of all ways; the tests. -/
def bcI (F : Int) (L : List A4) (P E : List Int) : Int := lsm F (frL F P) (edV F L E) P.length
def lgI (F : Int) (T : Nat) (L : List A4) (P E : List Int) (r : Nat) : Int := lsm F (frL F P) (rsV F T L E r) P.length
def htI (F : Int) (T : Nat) (L : List A4) (P E : List Int) (rw : List Int) (r l : Nat) : Int := lsm F (stV F L (l : Int) (cwV F L P rw)) (rsV F T L E r) P.length
def lgR (F : Int) (T : Nat) (L : List A4) (P E : List Int) (C : List (List Int)) (r : Nat) : Int := lsm F (frL F P) (reV F T L E C r) P.length
def htR (F : Int) (T : Nat) (L : List A4) (P E : List Int) (C : List (List Int)) (rw : List Int) (r l : Nat) : Int := lsm F (mvV F (nwV F L P C rw) (spV F L (l : Int) C)) (reV F T L E C r) P.length
section
variable {F : Int} {T : Nat} {L : List A4} {P E : List Int} {C : List (List Int)}
theorem Stt.nonneg {P : List Int} (i : Nat) (c : Int) (h : Stt P i c) : 0 ≤ c := h.2
theorem Al.nonneg {n : Nat} (hL : okM n L) (i : Nat) (c : Int) (h : Al n L E i c) : 0 ≤ c := by
  obtain ⟨k, c1, c2, hk, h1, h2, e⟩ := h
  have := h1.nonneg (fun i k c h => (hL.an h).2.2.1)
  have := h2.2
  omega
theorem Bst.nonneg {n : Nat} (hL : okM n L) {c : Int} (h : Bst n L P E c) : 0 ≤ c := by
  obtain ⟨i, c1, c2, hi, h1, h2, e⟩ := h
  have := h1.2; have := Al.nonneg hL i c2 h2
  omega
theorem lst_bc (ho : Okw T L P E) (hF : 1000 ≤ F) : Lst F (bcI F L P E) (Bst P.length L P E) := by
  have hL := ho.arcs
  have h1 := rep_fr (F := F) (P := P) (fun x hx => by have := ho.st x hx; omega)
  have h2 := rep_ed (F := F) (L := L) (E := E) (by rw [ho.len]; exact hL) (fun x hx => by have := ho.en x hx; omega)
  rw [ho.len] at h2
  exact lst_sm (by omega) h1 h2 (fun i c => Stt.nonneg i c) (fun i c => Al.nonneg hL i c)
theorem lst_lgI (ho : Okw T L P E) (hF : 1000 ≤ F) (r : Nat) : Lst F (lgI F T L P E r) (Ht P.length T L P E [] r) := by
  have hL := ho.arcs
  have h1 := rep_fr (F := F) (P := P) (fun x hx => by have := ho.st x hx; omega)
  have h2 := rep_rs (F := F) (T := T) (L := L) (E := E) (by omega) (by rw [ho.len]; exact hL) (fun x hx => by have := ho.en x hx; omega) r
  rw [ho.len] at h2
  exact lst_sm (by omega) h1 h2 (fun i c => Stt.nonneg i c) (fun i c h => h.nonneg hL)
theorem lst_htI (ho : Okw T L P E) (hF : 1000 ≤ F) (rw : List Int) (r l : Nat) : Lst F (htI F T L P E rw r l) (Ht P.length T L P E ((l : Int) :: rw) r) := by
  have hL := ho.arcs
  have h1 := rep_cw (F := F) (by omega) hL (fun x hx => by have := ho.st x hx; omega) ((l : Int) :: rw)
  have h2 := rep_rs (F := F) (T := T) (L := L) (E := E) (by omega) (by rw [ho.len]; exact hL) (fun x hx => by have := ho.en x hx; omega) r
  rw [ho.len] at h2
  exact (lst_sm (by omega) h1 h2 (fun i c h => h.nonneg hL (fun i c h => Bw.nonneg hL _ i c h)) (fun i c h => h.nonneg hL)).congr (fun c => Ht.cl)
theorem lst_lgR (ho : Okw T L P E) (hF : 1000 ≤ F) (hC : ClsT F P.length L C) (r : Nat) : Lst F (lgR F T L P E C r) (Ht P.length T L P E [] r) := by
  have hL := ho.arcs
  have h1 := rep_fr (F := F) (P := P) (fun x hx => by have := ho.st x hx; omega)
  have h2 := rep_re (F := F) (T := T) (L := L) (E := E) (C := C) (by omega) (by rw [ho.len]; exact hL) (by rw [ho.len]; exact hC) r
  rw [ho.len] at h2
  exact lst_sm (by omega) h1 h2 (fun i c => Stt.nonneg i c) (fun i c h => h.nonneg hL)
theorem lst_htR (ho : Okw T L P E) (hF : 1000 ≤ F) (hC : ClsT F P.length L C) (rw : List Int) (r l : Nat) : Lst F (htR F T L P E C rw r l) (Ht P.length T L P E ((l : Int) :: rw) r) := by
  have hL := ho.arcs
  have h1 := rep_nw (F := F) (by omega) hL (fun x hx => by have := ho.st x hx; omega) hC ((l : Int) :: rw)
  have h2 := rep_re (F := F) (T := T) (L := L) (E := E) (C := C) (by omega) (by rw [ho.len]; exact hL) (by rw [ho.len]; exact hC) r
  rw [ho.len] at h2
  exact lst_sm (by omega) h1 h2 (fun i c h => Bw.nonneg hL _ i c h) (fun i c h => h.nonneg hL)
theorem Bst.short (ho : Okw T L P E) {c : Int} (h : Bst P.length L P E c) : ∃ c', Bst P.length L P E c' ∧ c' ≤ 18000 := by
  have hL := ho.arcs
  obtain ⟨i, c1, c2, hi, h1, ⟨k, d1, d2, hk, h2, h3, e2⟩, e⟩ := h
  obtain ⟨l, d1', p1, p2, _, p3⟩ := h2.short (b := 1000) (fun i k c h => (hL.an h).2.2.1) (fun i k c h => (hL.an h).2.2.2) (fun i k c h => (hL.an h).2.1) (by omega) hi
  have a1 := ho.st c1 (List.mem_of_getElem? h1.1)
  have a2 := ho.en d2 (List.mem_of_getElem? h3.1)
  have a3 := ho.n
  refine ⟨c1 + (d1' + d2), ⟨i, c1, d1' + d2, hi, h1, ⟨k, d1', d2, hk, p1.way, h3, rfl⟩, rfl⟩, ?_⟩
  omega
/-- The least cost is told alike. -/
theorem bc_same (ho : Okw T L P E) {F' : Int} (hF : 20000 ≤ F) (hF' : 20000 ≤ F') : tld F (bcI F L P E) = tld F' (bcI F' L P E) :=
  tld_same (lst_bc ho (by omega)) (lst_bc ho (by omega)) (fun c hc => by
    obtain ⟨c', h1, h2⟩ := Bst.short ho hc
    exact ⟨c', h1, by omega, by omega⟩)
theorem bc_nn (ho : Okw T L P E) (hF : 1000 ≤ F) : 0 ≤ bcI F L P E := (lst_bc ho hF).nn (by omega) (fun c h => Bst.nonneg ho.arcs h)
theorem bc_both (ho : Okw T L P E) {F' : Int} (hF : 20000 ≤ F) (hF' : 20000 ≤ F') : (bcI F L P E < F ↔ bcI F' L P E < F') ∧ (bcI F L P E < F → bcI F L P E = bcI F' L P E) := by
  have h := bc_same ho hF hF'
  have h1 := bc_nn ho (F := F) (by omega)
  have h2 := bc_nn ho (F := F') (by omega)
  unfold tld at h
  by_cases a : F ≤ bcI F L P E <;> by_cases b : F' ≤ bcI F' L P E
  · rw [if_pos a, if_pos b] at h; exact ⟨by omega, fun _ => by omega⟩
  · rw [if_pos a, if_neg b] at h; exact ⟨by omega, fun _ => by omega⟩
  · rw [if_neg a, if_pos b] at h; exact ⟨by omega, fun _ => by omega⟩
  · rw [if_neg a, if_neg b] at h; exact ⟨by omega, fun _ => by omega⟩
/-- What the program's tests say; what the reference's say. -/
theorem lgI_iff (ho : Okw T L P E) (hF : 1000 ≤ F) (hb : bcI F L P E < F) (r : Nat) : tld F (lgI F T L P E r) = bcI F L P E ↔ Ht P.length T L P E [] r (bcI F L P E) := hit_tld (lst_lgI ho hF r) (lst_bc ho hF) (fun c h => h.bst) hb (bc_nn ho hF)
theorem htI_iff (ho : Okw T L P E) (hF : 1000 ≤ F) (hb : bcI F L P E < F) (rw : List Int) (r l : Nat) : tld F (htI F T L P E rw r l) = bcI F L P E ↔ Ht P.length T L P E ((l : Int) :: rw) r (bcI F L P E) := hit_tld (lst_htI ho hF rw r l) (lst_bc ho hF) (fun c h => h.bst) hb (bc_nn ho hF)
theorem lgR_iff (ho : Okw T L P E) (hF : 1000 ≤ F) (hC : ClsT F P.length L C) (hb : bcI F L P E < F) (r : Nat) : lgR F T L P E C r ≤ bcI F L P E ↔ Ht P.length T L P E [] r (bcI F L P E) := hit_le (lst_lgR ho hF hC r) (lst_bc ho hF) (fun c h => h.bst) hb
theorem htR_iff (ho : Okw T L P E) (hF : 1000 ≤ F) (hC : ClsT F P.length L C) (hb : bcI F L P E < F) (rw : List Int) (r l : Nat) : htR F T L P E C rw r l ≤ bcI F L P E ↔ Ht P.length T L P E ((l : Int) :: rw) r (bcI F L P E) := hit_le (lst_htR ho hF hC rw r l) (lst_bc ho hF) (fun c h => h.bst) hb
/-- The program's letters: 'h' is its test. -/
def hI (F : Int) (T : Nat) (L : List A4) (P E : List Int) (rw : List Int) (r l : Nat) : Bool := decide (tld F (htI F T L P E rw r l) = bcI F L P E)
def hR (F : Int) (T : Nat) (L : List A4) (P E : List Int) (C : List (List Int)) (rw : List Int) (r l : Nat) : Bool := decide (htR F T L P E C rw r l ≤ bcI F L P E)
def lI (F : Int) (T : Nat) (L : List A4) (P E : List Int) : Nat := fstT (fun r => decide (tld F (lgI F T L P E r) = bcI F L P E)) 13 0
def lR (F : Int) (T : Nat) (L : List A4) (P E : List Int) (C : List (List Int)) : Nat := fstT (fun r => decide (lgR F T L P E C r ≤ bcI F L P E)) 13 0
theorem h_same (ho : Okw T L P E) {F' : Int} (hF : 20000 ≤ F) (hF' : 20000 ≤ F') (hC : ClsT F' P.length L C) (hb : bcI F L P E < F) : hI F T L P E = hR F' T L P E C ∧ lI F T L P E = lR F' T L P E C := by
  obtain ⟨b1, b2⟩ := bc_both ho hF hF'
  have hb' := b1.1 hb
  have e := b2 hb
  have q : ∀ {p q : Prop} [Decidable p] [Decidable q], (p ↔ q) → decide p = decide q := fun h => by simp [h]
  refine ⟨funext fun rw => funext fun r => funext fun l => ?_, ?_⟩
  · refine q ((htI_iff ho (by omega) hb rw r l).trans ?_)
    rw [e]
    exact (htR_iff ho (by omega) hC hb' rw r l).symm
  · unfold lI lR
    congr 1
    refine funext fun r => q ((lgI_iff ho (by omega) hb r).trans ?_)
    rw [e]
    exact (lgR_iff ho (by omega) hC hb' r).symm
/-- The next letter is there. -/
theorem nextL {rw : List Int} {r : Nat} {b : Int} {h : Nat → Bool} (hh : ∀ l, h l = true ↔ Ht P.length T L P E ((l : Int) :: rw) r b) (hw : Ht P.length T L P E rw (r + 1) b) :
    h (fstT h T 0) = true ∧ fstT h T 0 < T ∧ (∀ j, j < fstT h T 0 → h j = false) ∧ Ht P.length T L P E ((fstT h T 0 : Int) :: rw) r b := by
  obtain ⟨l, hl, hx⟩ := Ht.succ.1 hw
  obtain ⟨a, _, c, d⟩ := fstT_spec (p := h) (f := T) (l := 0) (m := l) (by omega) (by omega) ((hh l).2 hx)
  exact ⟨a, by omega, fun j hj => d j (by omega) hj, (hh _).1 a⟩
end
end Go.Proofs.Ytedbngnkkfpbeaa
