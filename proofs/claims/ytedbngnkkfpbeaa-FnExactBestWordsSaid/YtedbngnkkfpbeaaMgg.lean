/- Several texts in one: BestWords of the reference: words grown by a letter (l02Grown). The plain law of a search through places: a list that grows, looked at from its head on. -/
import Derived.Test.YtedbngnkkfpbeaaMgf
import Derived.Deep.CutRange
import Derived.Test.YtedbngnkkfpbeaaMgc

namespace Go.Proofs.Ytedbngnkkfpbeaa
open Go.RowKit
set_option linter.unusedVariables false
set_option maxRecDepth 100000 in
set_option maxHeartbeats 8000000 in
theorem sGrown_any (base gn cn T : Nat) (R : List (List Int)) (w : World) (hR : TabI w base 26 (.slice (some ⟨gn, 0, none⟩) R.length cn) R) (hT : T ≤ 4) (hRL : R.length ≤ 4096) (hr : ∀ r ∈ R, r.length ≤ 5) :
    Calls Try.prog 53 #[.slice (some ⟨gn, 0, none⟩) R.length cn, .int .i64 (T : Int)] w fun e w' => ∃ g c, e = .returned (.slice (some ⟨g, 0, none⟩) (wlG T R).length c) ∧ TabI w' w.heap.size 26 (.slice (some ⟨g, 0, none⟩) (wlG T R).length c) (wlG T R) ∧ Below w.heap.size w w' := by
  have HR := Lib.hid hR; have HT4 := Lib.hid hT; have HRL := Lib.hid hRL; have HRW := Lib.hid hr
  clear hR hRL hr
  go_enter Try.func53, Try.ntmps53
  go_wp2_with fail
  go_loopg [5, 6] R.length (fun q tl ti wr => ∃ (i g2 c2 : Nat) (R' : List (List Int)), tl = .slice (some ⟨g2, 0, none⟩) R'.length c2 ∧ ti = .int .i64 (i : Int) ∧ Hid (i ≤ R.length ∧ R.length ≤ q + i) ∧ Hid (R' = wlG T (R.take i)) ∧ Hid (TabI wr w.heap.size 26 (.slice (some ⟨g2, 0, none⟩) R'.length c2) R') ∧ Hid (Below w.heap.size w wr))
  case atStart =>
    refine ⟨0, w.heap.size, 0, [], rfl, rfl, ?_, ?_, ?_, ?_⟩
    · show _ ∧ _; omega
    · show _ = _; simp [wlG]
    · exact TabI.made w _ _ (Nat.le_refl _)
    · exact (Below.refl _ _).alloc (Nat.le_refl _) _
  case round =>
    obtain ⟨wm, rfl⟩ : ∃ z : World, z = wr := ⟨_, rfl⟩
    obtain ⟨i, g2, c2, R', rfl, rfl, EI, ER, HT2, HB2⟩ := hrel
    obtain ⟨gm, hgm⟩ : ∃ z : Nat, z = gk := ⟨_, rfl⟩
    by_cases hli : i < R.length
    · obtain ⟨r, hr⟩ : ∃ r, R[i]? = some r := ⟨_, List.getElem?_eq_getElem hli⟩
      obtain ⟨gr, cr, c0, hsr, hgr⟩ := HR.out.slI hr
      have hrl : r.length ≤ 5 := HRW.out r (List.mem_of_getElem? hr)
      have l1 : (i : Int) < (R.length : Int) := by omega
      have l2 : (0 : Int) ≤ (i : Int) := by omega
      have wi1 : IntKind.i64.wrap ((i : Int) + 1) = ((i + 1 : Nat) : Int) := by rw [IntWalk.i64_in _ (by have := HRL.out; omega)]; omega
      have HC0 := Lib.hid c0; have HSR := Lib.hid hsr; have HRLN := Lib.hid hrl; have HLI : Hid (i < R.length) := hli
      have HGN : Hid (gn < w.heap.size) := (HR.out.block gn rfl).2
      have HFIN : Hid (wlG T (R.take (i + 1)) = R' ++ (List.range T).map fun (t : Nat) => r ++ [(t : Int)]) := by show _ = _; rw [wlG_succ hr, ER.out]
      have HR'L : Hid (R'.length ≤ 1000000) := by
        show _ ≤ _; rw [ER.out, wlG_len]
        have h1 : (R.take i).length ≤ 4096 := by rw [List.length_take]; have := HRL.out; omega
        have := Nat.mul_le_mul h1 HT4.out; omega
      clear hr hsr hrl hli hgr c0
      go_wp2_with fail
      go_loopg [5, 7] T (fun q tl ti wr => ∃ (j g3 c3 : Nat) (R3 : List (List Int)), tl = .slice (some ⟨g3, 0, none⟩) R3.length c3 ∧ ti = .int .i64 (j : Int) ∧ Hid (j ≤ T ∧ T ≤ q + j) ∧ Hid (R3 = R' ++ (List.range j).map fun (t : Nat) => r ++ [(t : Int)]) ∧ Hid (TabI wr w.heap.size 26 (.slice (some ⟨g3, 0, none⟩) R3.length c3) R3) ∧ Hid (Below w.heap.size w wr))
      case atStart =>
        refine ⟨0, g2, c2, R', rfl, rfl, ?_, ?_, HT2.out, HB2.out⟩
        · show _ ∧ _; omega
        · show _ = _; simp
      case round =>
        obtain ⟨wi, rfl⟩ : ∃ z : World, z = wr := ⟨_, rfl⟩
        obtain ⟨j, g3, c3, R3, rfl, rfl, EJ, ER3, HT3, HB3⟩ := hrel
        by_cases hlj : j < T
        · have lj : (j : Int) < (T : Int) := by omega
          have wj1 : IntKind.i64.wrap ((j : Int) + 1) = ((j + 1 : Nat) : Int) := by rw [IntWalk.i64_in _ (by have := HT4.out; omega)]; omega
          have ba : Below wi.heap.size wi (wi.alloc (.cells #[] 2)) := (Below.refl _ _).alloc (Nat.le_refl _) _
          have HBA := Lib.hid ba
          have HR0 := Lib.hid (RowI.made wi wi.heap.size 2 (Nat.le_refl _))
          have HS0 := Lib.hid (HSR.out.below (HB3.out.trans (ba.mono HB3.out.size)) (Nat.le_refl _))
          have c0 : (wi.alloc (.cells #[] 2)).cell? ⟨gn, i, none⟩ = some (.slice (some ⟨gr, 0, none⟩) r.length cr) := ((HB3.out.trans (ba.mono HB3.out.size)).cell (p := ⟨gn, i, none⟩) HGN.out).trans HC0.out
          have PW0 : Hid (([] : List Int).length + r.length ≤ 4294967296) := by show _ ≤ _; have := HRLN.out; simp; omega
          have PWD : Hid (([] ++ r).length + 1 ≤ 4294967296) := by show _ ≤ _; have := HRLN.out; simp; omega
          have HR3 : Hid (R3.length + 1 ≤ 4294967296) := by
            show _ ≤ _; rw [ER3.out]; simp; have := HR'L.out; have := HT4.out; omega
          have HLJ : Hid (j < T) := hlj
          have HG3 : Hid (g3 < wi.heap.size) := (HT3.out.block g3 rfl).2
          have hlo : w.heap.size ≤ wi.heap.size := HB3.out.size
          have HX6 : ∀ {w6 : World} {g6 c6 : Nat}, Hid (RowI w6 wi.heap.size 2 (.slice (some ⟨g6, 0, none⟩) (r.length + 1) c6) (r ++ [(j : Int)])) → ∀ (k : Nat) (x : Int), (r ++ [(j : Int)])[k]? = some x → w6.cell? ⟨g6, k, none⟩ = some (.int .i64 x) := fun h k x hx => by
            have h1 := RowI.sl (n := r.length + 1) h.out (by simp)
            have h2 := SlV.cells h1 k (.int .i64 x) (by unfold iv; rw [List.getElem?_map, hx]; rfl)
            rw [Nat.zero_add] at h2; exact h2
          clear hlj ba
          go_wp2_with (first
            | (at_builtin; refine wpList_ints_push rfl (.tmp 21) (.tmp 25) _ rfl wi.heap.size 2 Try.underlying26 infoW6 _ [] rfl HR0.out gr 0 r.length cr w.heap.size r rfl HS0.out PW0.out (by simp) ?_; intro v1 w5 hown1 hbl1; have hsz1 : wi.heap.size ≤ w5.heap.size := Nat.le_trans HBA.out.size hbl1.size; obtain ⟨A1, k1, hv1, -, -⟩ := own_form hown1; subst hv1; have HO1 := Lib.hid hown1; have HB1 := Lib.hid (HBA.out.trans hbl1); clear hown1 hbl1 c0)
            | (at_builtin; refine wpList_int_push w5 rfl (.tmp 26) (.tmp 28) _ rfl wi.heap.size 2 Try.underlying26 infoW6 (.slice A1 ([] ++ r).length k1) ([] ++ r) rfl HO1.out (j : Int) rfl PWD.out hsz1 ?_; intro g6 c6 w6 hown hbl hat hgr; have HR6 : Hid (RowI w6 wi.heap.size 2 (.slice (some ⟨g6, 0, none⟩) (r.length + 1) c6) (r ++ [(j : Int)])) := hown; have HB6 := Lib.hid (HB1.out.trans hbl); have h6 : wi.heap.size ≤ g6 ∧ g6 < w6.heap.size := World.ownsRow.lt hown g6 rfl; have HC6 : Hid (r.length + 1 ≤ c6) := by { show _ ≤ _; obtain ⟨A9, c9, e9, h9, -⟩ := own_form HR6.out; injection e9 with _ _ e9; simp at h9; omega }; clear hown hbl hat hgr)
            | (at_builtin; refine wpList_tab_push w6 rfl (.tmp 20) (.tmp 30) _ rfl w.heap.size 26 Try.underlying35 infoWo (.slice (some ⟨g3, 0, none⟩) R3.length c3) R3 rfl (HT3.out.keep HB6.out (Nat.le_refl _)) g6 c6 (r.length + 1) (r ++ [(j : Int)]) (by simp) rfl (by omega) h6.2 (by have := HG3.out; simp [Value.ownBlock]; omega) HC6.out (HX6 HR6) HR3.out (by have := HB6.out.size; omega) ?_; intro g7 c7 w7 htab hgr hbl hat; have HT7 := Lib.hid htab; have HB7 := Lib.hid hbl; clear htab hgr hbl hat))
          go_roundg (gk - 1)
          case measure => have := EJ.out; have := HLJ.out; omega
          case rel =>
            have hb7 : Below w.heap.size wi w7 := (HB6.out.mono hlo).trans HB7.out
            refine ⟨j + 1, g7, c7, R3 ++ [r ++ [(j : Int)]], by simp, by go_num, ?_, ?_, ?_, HB3.out.trans hb7⟩
            · show _ ∧ _; have := EJ.out; have := HLJ.out; omega
            · show _ = _; rw [ER3.out, List.range_succ, List.map_append, List.append_assoc]; rfl
            · show TabI _ _ _ _ _
              rw [List.length_append]; exact HT7.out
        · have hjT : j = T := by have := EJ.out; omega
          have lj : ¬ (j : Int) < (T : Int) := by omega
          clear hlj
          go_wp2_with fail
          go_roundg (gm - 1)
          case measure => have := EI.out; have := HLI.out; omega
          case rel =>
            refine ⟨i + 1, g3, c3, R3, rfl, by go_num, ?_, ?_, HT3.out, HB3.out⟩
            · show _ ∧ _; have := EI.out; have := HLI.out; omega
            · show _ = _; rw [HFIN.out, ER3.out, hjT]
    · have hiR : i = R.length := by have := EI.out; omega
      have l1 : ¬ (i : Int) < (R.length : Int) := by omega
      have HRR : Hid (R' = wlG T R) := by show _ = _; rw [ER.out, hiR, List.take_length]
      clear hli hiR
      go_wp2_with fail
      go_ret
      have h := HT2.out
      have e := HRR.out
      rw [e] at h
      exact ⟨g2, c2, by rw [← e]; rfl, h, HB2.out⟩
end Go.Proofs.Ytedbngnkkfpbeaa


namespace Go.Proofs.Ytedbngnkkfpbeaa
open Go.RowKit
set_option linter.unusedVariables false
theorem nodup_lt {n : Nat} : ∀ {l : List Nat}, l.Nodup → (∀ x ∈ l, x < n) → l.length ≤ n := by
  induction n with
  | zero =>
    intro l _ h
    cases l with
    | nil => simp
    | cons a l => exact absurd (h a (by simp)) (by omega)
  | succ n ih =>
    intro l hn h
    by_cases hm : n ∈ l
    · have h1 : (l.erase n).Nodup := hn.erase n
      have h2 : (l.erase n).length ≤ n := ih h1 (fun x hx => by
        have hx' := (hn.mem_erase_iff).1 hx
        have := h x hx'.2
        omega)
      rw [List.length_erase_of_mem hm] at h2
      omega
    · have := ih hn (fun x hx => by
        have := h x hx
        have : x ≠ n := fun e => hm (e ▸ hx)
        omega)
      omega
abbrev P3 := Nat × Nat × Int
def pss (ws : List Int) (k : Nat) (letter : Int) : Option Nat := if letter < 0 then some k else if ws[k]? = some letter then some (k + 1) else none
theorem pss_le {ws : List Int} {k i : Nat} {letter : Int} (h : pss ws k letter = some i) (hk : k ≤ ws.length) : i ≤ ws.length := by
  unfold pss at h
  split at h
  · simp at h; omega
  · split at h
    · rename_i h2
      have := (List.getElem?_eq_some_iff.1 h2).1
      simp at h; omega
    · cases h
def nxt (xs ys : List Int) (p : P3) (a : A4) : Option P3 :=
  if a.1 = p.2.2 then match pss xs p.1 a.2.2.1, pss ys p.2.1 a.2.2.2 with
    | some i, some k => some (i, k, a.2.1)
    | _, _ => none
  else none
def addp (ps : List P3) : Option P3 → List P3
  | none => ps
  | some q => if q ∈ ps then ps else ps ++ [q]
def rnd (xs ys : List Int) (L : List A4) (p : P3) (ps : List P3) : List P3 := L.foldl (fun ps a => addp ps (nxt xs ys p a)) ps
theorem rnd_zero (xs ys : List Int) (L : List A4) (p : P3) (ps : List P3) : rnd xs ys (L.take 0) p ps = ps := by simp [rnd]
theorem rnd_succ {xs ys : List Int} {L : List A4} {p : P3} {ps : List P3} {j : Nat} {a : A4} (h : L[j]? = some a) : rnd xs ys (L.take (j + 1)) p ps = addp (rnd xs ys (L.take j) p ps) (nxt xs ys p a) := by
  obtain ⟨hj, rfl⟩ := List.getElem?_eq_some_iff.1 h
  unfold rnd
  rw [List.take_succ_eq_append_getElem hj, List.foldl_append]
  rfl
/-- A place is within the words and the states. -/
def okP (S : Int) (xs ys : List Int) (p : P3) : Prop := p.1 ≤ xs.length ∧ p.2.1 ≤ ys.length ∧ 0 ≤ p.2.2 ∧ p.2.2 < S
def okL (S : Int) (xs ys : List Int) (ps : List P3) : Prop := ps.Nodup ∧ ∀ p ∈ ps, okP S xs ys p
theorem nxt_ok {S : Int} {xs ys : List Int} {p q : P3} {a : A4} (hp : okP S xs ys p) (ha : 0 ≤ a.2.1 ∧ a.2.1 < S) (h : nxt xs ys p a = some q) : okP S xs ys q := by
  unfold nxt at h
  split at h
  · split at h
    · rename_i i k h1 h2
      simp at h; subst h
      exact ⟨pss_le h1 hp.1, pss_le h2 hp.2.1, ha.1, ha.2⟩
    · cases h
  · cases h
theorem addp_ok {S : Int} {xs ys : List Int} {ps : List P3} {o : Option P3} (h : okL S xs ys ps) (ho : ∀ q, o = some q → okP S xs ys q) : okL S xs ys (addp ps o) := by
  cases o with
  | none => exact h
  | some q =>
    by_cases hm : q ∈ ps
    · rw [show addp ps (some q) = ps from if_pos hm]; exact h
    · rw [show addp ps (some q) = ps ++ [q] from if_neg hm]
      refine ⟨?_, fun x hx => ?_⟩
      · rw [List.nodup_append]
        refine ⟨h.1, by simp, fun a ha b hb => ?_⟩
        simp at hb; subst hb
        exact fun e => hm (e ▸ ha)
      · rcases List.mem_append.1 hx with hx | hx
        · exact h.2 x hx
        · simp at hx; subst hx; exact ho _ rfl
def encP (wide count : Nat) (p : P3) : Nat := p.2.2.toNat * count + p.1 * wide + p.2.1
theorem encP_lt {S : Int} {xs ys : List Int} {p : P3} (h : okP S xs ys p) : encP (ys.length + 1) ((xs.length + 1) * (ys.length + 1)) p < S.toNat * ((xs.length + 1) * (ys.length + 1)) := by
  obtain ⟨h1, h2, h3, h4⟩ := h
  unfold encP
  have a1 : p.2.2.toNat + 1 ≤ S.toNat := by omega
  have a2 := Nat.mul_le_mul_right ((xs.length + 1) * (ys.length + 1)) a1
  have a3 := Nat.mul_le_mul_right (ys.length + 1) (show p.1 + 1 ≤ xs.length + 1 by omega)
  rw [Nat.add_mul, Nat.one_mul] at a2 a3
  omega
theorem encP_inj {S : Int} {xs ys : List Int} {p q : P3} (hp : okP S xs ys p) (hq : okP S xs ys q) (h : encP (ys.length + 1) ((xs.length + 1) * (ys.length + 1)) p = encP (ys.length + 1) ((xs.length + 1) * (ys.length + 1)) q) : p = q := by
  obtain ⟨p1, p2, p3, p4⟩ := hp
  obtain ⟨q1, q2, q3, q4⟩ := hq
  obtain ⟨a, b, c⟩ := p
  obtain ⟨a', b', c'⟩ := q
  simp only at *
  unfold encP at h
  simp only at h
  have r1 : a * (ys.length + 1) + b < (xs.length + 1) * (ys.length + 1) := by
    have a3 := Nat.mul_le_mul_right (ys.length + 1) (show a + 1 ≤ xs.length + 1 by omega)
    rw [Nat.add_mul, Nat.one_mul] at a3
    omega
  have r2 : a' * (ys.length + 1) + b' < (xs.length + 1) * (ys.length + 1) := by
    have a3 := Nat.mul_le_mul_right (ys.length + 1) (show a' + 1 ≤ xs.length + 1 by omega)
    rw [Nat.add_mul, Nat.one_mul] at a3
    omega
  have d1 : ∀ (s r : Nat), r < (xs.length + 1) * (ys.length + 1) → (s * ((xs.length + 1) * (ys.length + 1)) + r) / ((xs.length + 1) * (ys.length + 1)) = s ∧ (s * ((xs.length + 1) * (ys.length + 1)) + r) % ((xs.length + 1) * (ys.length + 1)) = r := by
    intro s r hr
    rw [Nat.mul_comm s]
    exact ⟨by rw [Nat.mul_add_div (by omega), Nat.div_eq_of_lt hr, Nat.add_zero], by rw [Nat.mul_add_mod, Nat.mod_eq_of_lt hr]⟩
  have d2 : ∀ (s r : Nat), r < ys.length + 1 → (s * (ys.length + 1) + r) / (ys.length + 1) = s ∧ (s * (ys.length + 1) + r) % (ys.length + 1) = r := by
    intro s r hr
    rw [Nat.mul_comm s]
    exact ⟨by rw [Nat.mul_add_div (by omega), Nat.div_eq_of_lt hr, Nat.add_zero], by rw [Nat.mul_add_mod, Nat.mod_eq_of_lt hr]⟩
  rw [Nat.add_assoc, Nat.add_assoc] at h
  obtain ⟨e1, e2⟩ := d1 c.toNat _ r1
  obtain ⟨e3, e4⟩ := d1 c'.toNat _ r2
  have hc : c.toNat = c'.toNat := by rw [← e1, h, e3]
  have hr : a * (ys.length + 1) + b = a' * (ys.length + 1) + b' := by rw [← e2, h, e4]
  obtain ⟨e5, e6⟩ := d2 a b (by omega)
  obtain ⟨e7, e8⟩ := d2 a' b' (by omega)
  have ha : a = a' := by rw [← e5, hr, e7]
  have hb : b = b' := by rw [← e6, hr, e8]
  have hcc : c = c' := by omega
  rw [ha, hb, hcc]
theorem okL_len {S : Int} {xs ys : List Int} {ps : List P3} (h : okL S xs ys ps) : ps.length ≤ S.toNat * ((xs.length + 1) * (ys.length + 1)) := by
  have h1 : (ps.map (encP (ys.length + 1) ((xs.length + 1) * (ys.length + 1)))).Nodup := by
    obtain ⟨hn, ho⟩ := h
    induction ps with
    | nil => simp
    | cons p ps ih =>
      rw [List.map_cons, List.nodup_cons]
      rw [List.nodup_cons] at hn
      refine ⟨fun hm => ?_, ih hn.2 (fun x hx => ho x (by simp [hx]))⟩
      obtain ⟨q, hq, e⟩ := List.mem_map.1 hm
      have := encP_inj (ho q (by simp [hq])) (ho p (by simp)) e
      exact hn.1 (this ▸ hq)
  have h2 := nodup_lt h1 (n := S.toNat * ((xs.length + 1) * (ys.length + 1))) (fun x hx => by
    obtain ⟨q, hq, rfl⟩ := List.mem_map.1 hx
    exact encP_lt (h.2 q hq))
  rw [List.length_map] at h2
  exact h2
def accP (xs ys : List Int) (E : List Bool) (p : P3) : Bool := decide (p.1 = xs.length) && (decide (p.2.1 = ys.length) && decide (E[p.2.2.toNat]? = some true))
def srch (xs ys : List Int) (L : List A4) (E : List Bool) : Nat → List P3 → Nat → Bool
  | 0, _, _ => false
  | f + 1, ps, k => match ps[k]? with
    | none => false
    | some p => if accP xs ys E p then true else srch xs ys L E f (rnd xs ys L p ps) (k + 1)
theorem srch_none {xs ys : List Int} {L : List A4} {E : List Bool} {f k : Nat} {ps : List P3} (h : ps.length ≤ k) : srch xs ys L E f ps k = false := by
  cases f with
  | zero => rfl
  | succ f => unfold srch; rw [List.getElem?_eq_none h]
theorem srch_acc {xs ys : List Int} {L : List A4} {E : List Bool} {f k : Nat} {ps : List P3} {p : P3} (h : ps[k]? = some p) (ha : accP xs ys E p = true) : srch xs ys L E (f + 1) ps k = true := by
  unfold srch; rw [h]; simp [ha]
theorem srch_next {xs ys : List Int} {L : List A4} {E : List Bool} {f k : Nat} {ps : List P3} {p : P3} (h : ps[k]? = some p) (ha : accP xs ys E p = false) : srch xs ys L E (f + 1) ps k = srch xs ys L E f (rnd xs ys L p ps) (k + 1) := by
  rw [srch, h]; simp [ha]
/-- Whether the pair is read. -/
def rdS (S : Int) (L : List A4) (E : List Bool) (xs ys : List Int) : Bool := srch xs ys L E (S.toNat * ((xs.length + 1) * (ys.length + 1)) + 1) [(0, 0, 0)] 0
theorem okL_start {S : Int} {xs ys : List Int} (hS : 0 < S) : okL S xs ys [(0, 0, 0)] := ⟨by simp, fun p hp => by simp at hp; subst hp; exact ⟨Nat.zero_le _, Nat.zero_le _, Int.le_refl _, hS⟩⟩
theorem addp_pre {ps : List P3} {o : Option P3} {k : Nat} {p : P3} (h : ps[k]? = some p) : (addp ps o)[k]? = some p := by
  cases o with
  | none => exact h
  | some q =>
    by_cases hm : q ∈ ps
    · rw [show addp ps (some q) = ps from if_pos hm]; exact h
    · rw [show addp ps (some q) = ps ++ [q] from if_neg hm, List.getElem?_append_left (List.getElem?_eq_some_iff.1 h).1]; exact h
end Go.Proofs.Ytedbngnkkfpbeaa
