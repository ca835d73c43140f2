/- Several texts in one: Whether a plain machine is valid: the reference, at any plain machine. The plain law of a search through places: a list that grows, looked at from its head on. -/
import Derived.Test.YtbdfbmohdbigfaaMgf
import Derived.Deep.QuietTactic
import Derived.BigQuiet
import Derived.Test.YtbdfbmohdbigfaaMgd

namespace Go.Proofs.Ytbdfbmohdbigfaa
open Go.RowKit
set_option linter.unusedVariables false
theorem allTk {xs : List Int} {p : Int → Bool} {k : Nat} {x : Int} (h : (xs.take k).all p = true) (hx : xs[k]? = some x) (h1 : p x = true) : (xs.take (k + 1)).all p = true := by
  obtain ⟨hk, e⟩ := List.getElem?_eq_some_iff.1 hx
  rw [List.take_succ_eq_append_getElem hk, List.all_append, h, e]
  simp [h1]

set_option maxRecDepth 100000 in
set_option maxHeartbeats 8000000 in
theorem sPlain_no1 (g : Nat) (S T : Int) (A2 : Option Addr) (n2 c2 : Nat) (A3 : Option Addr) (n3 c3 : Nat) (P : List Int) (w : World) (hr : Row w g 33 (BxP S T A2 n2 c2 A3 n3 c3)) (h2 : SlI w w.heap.size A2 n2 P) (hn : n2 ≤ 4294967296) (e1 : inB S 1 64 = false) :
    Calls Try.prog 78 #[.pointer (some ⟨g, 0, none⟩)] w fun e w' => e = .returned (.bool false) ∧ Below w.heap.size w w' := by
  have RB := Lib.hid hr
  have r0 := hr.cell 0; have r1 := hr.cell 1; have r2 := hr.cell 2; have r3 := hr.cell 3
  have W1 := sIn_any S 1 64; have W2 := sIn_any T 1 4
  rw [e1] at W1
  clear e1 h2 hr
  go_enter Try.func78, Try.ntmps78
  go_wp2_with fail
  go_quiet (first | (go_at_call_of 104 (Value.int .i64 S); exact quietL (W1 _)) | (go_at_call_of 104 (Value.int .i64 T); exact quietL (W2 _)))
  go_wp2_with fail
  go_ret
  exact ⟨rfl, below_draws (Below.refl _ _) _⟩
set_option maxRecDepth 100000 in
set_option maxHeartbeats 8000000 in
theorem sPlain_no2 (g : Nat) (S T : Int) (A2 : Option Addr) (n2 c2 : Nat) (A3 : Option Addr) (n3 c3 : Nat) (P : List Int) (w : World) (hr : Row w g 33 (BxP S T A2 n2 c2 A3 n3 c3)) (h2 : SlI w w.heap.size A2 n2 P) (hn : n2 ≤ 4294967296) (e1 : inB S 1 64 = true) (e2 : inB T 1 4 = false) :
    Calls Try.prog 78 #[.pointer (some ⟨g, 0, none⟩)] w fun e w' => e = .returned (.bool false) ∧ Below w.heap.size w w' := by
  have RB := Lib.hid hr
  have r0 := hr.cell 0; have r1 := hr.cell 1; have r2 := hr.cell 2; have r3 := hr.cell 3
  have W1 := sIn_any S 1 64; have W2 := sIn_any T 1 4
  rw [e1] at W1
  rw [e2] at W2
  have s1 := inB_true e1
  clear e1 h2 hr e2 s1
  go_enter Try.func78, Try.ntmps78
  go_wp2_with fail
  go_quiet (first | (go_at_call_of 104 (Value.int .i64 S); exact quietL (W1 _)) | (go_at_call_of 104 (Value.int .i64 T); exact quietL (W2 _)))
  go_wp2_with fail
  go_ret
  exact ⟨rfl, below_draws (Below.refl _ _) _⟩
set_option maxRecDepth 100000 in
set_option maxHeartbeats 8000000 in
theorem sPlain_no3 (g : Nat) (S T : Int) (A2 : Option Addr) (n2 c2 : Nat) (A3 : Option Addr) (n3 c3 : Nat) (P : List Int) (w : World) (hr : Row w g 33 (BxP S T A2 n2 c2 A3 n3 c3)) (h2 : SlI w w.heap.size A2 n2 P) (hn : n2 ≤ 4294967296) (e1 : inB S 1 64 = true) (e2 : inB T 1 4 = true) (e3 : (n2 : Int) ≠ S * T) :
    Calls Try.prog 78 #[.pointer (some ⟨g, 0, none⟩)] w fun e w' => e = .returned (.bool false) ∧ Below w.heap.size w w' := by
  have RB := Lib.hid hr
  have r0 := hr.cell 0; have r1 := hr.cell 1; have r2 := hr.cell 2; have r3 := hr.cell 3
  have W1 := sIn_any S 1 64; have W2 := sIn_any T 1 4
  rw [e1] at W1
  rw [e2] at W2
  have s1 := inB_true e1
  have s2 := inB_true e2
  have m0 : 0 ≤ S * T := Int.mul_nonneg (by omega) (by omega)
  have m1 : S * T ≤ 64 * 4 := Int.mul_le_mul (by omega) (by omega) (by omega) (by omega)
  have WM : IntKind.i64.wrap (S * T) = S * T := IntWalk.i64_in _ (by omega)
  have z1 : ((n2 : Int) == S * T) = false := by simpa using e3
  have z1' : ((n2 : Int) != S * T) = true := by simpa using e3
  clear e1 h2 hr e2 s1 s2 m0 m1 e3
  go_enter Try.func78, Try.ntmps78
  go_wp2_with fail
  go_quiet (first | (go_at_call_of 104 (Value.int .i64 S); exact quietL (W1 _)) | (go_at_call_of 104 (Value.int .i64 T); exact quietL (W2 _)))
  go_wp2_with fail
  go_ret
  exact ⟨rfl, below_draws (Below.refl _ _) _⟩
set_option maxRecDepth 100000 in
set_option maxHeartbeats 8000000 in
theorem sPlain_no4 (g : Nat) (S T : Int) (A2 : Option Addr) (n2 c2 : Nat) (A3 : Option Addr) (n3 c3 : Nat) (P : List Int) (w : World) (hr : Row w g 33 (BxP S T A2 n2 c2 A3 n3 c3)) (h2 : SlI w w.heap.size A2 n2 P) (hn : n2 ≤ 4294967296) (e1 : inB S 1 64 = true) (e2 : inB T 1 4 = true) (e3 : (n2 : Int) = S * T) (e5 : (n3 : Int) ≠ S) :
    Calls Try.prog 78 #[.pointer (some ⟨g, 0, none⟩)] w fun e w' => e = .returned (.bool false) ∧ Below w.heap.size w w' := by
  have RB := Lib.hid hr
  have r0 := hr.cell 0; have r1 := hr.cell 1; have r2 := hr.cell 2; have r3 := hr.cell 3
  have W1 := sIn_any S 1 64; have W2 := sIn_any T 1 4
  rw [e1] at W1
  rw [e2] at W2
  have s1 := inB_true e1
  have s2 := inB_true e2
  have m0 : 0 ≤ S * T := Int.mul_nonneg (by omega) (by omega)
  have m1 : S * T ≤ 64 * 4 := Int.mul_le_mul (by omega) (by omega) (by omega) (by omega)
  have WM : IntKind.i64.wrap (S * T) = S * T := IntWalk.i64_in _ (by omega)
  have WM' : IntKind.i64.wrap (S * T) = (n2 : Int) := by rw [WM, e3]
  have z1 : ((n2 : Int) == (n2 : Int)) = true := by simp
  clear WM
  have z2 : ((n3 : Int) == S) = false := by simpa using e5
  clear e1 h2 hr e2 s1 s2 m0 m1 e3 e5
  go_enter Try.func78, Try.ntmps78
  go_wp2_with fail
  go_quiet (first | (go_at_call_of 104 (Value.int .i64 S); exact quietL (W1 _)) | (go_at_call_of 104 (Value.int .i64 T); exact quietL (W2 _)))
  go_wp2_with fail
  go_ret
  exact ⟨rfl, below_draws (Below.refl _ _) _⟩
set_option maxRecDepth 100000 in
set_option maxHeartbeats 8000000 in
theorem sPlain_loop (g : Nat) (S T : Int) (A2 : Option Addr) (n2 c2 : Nat) (A3 : Option Addr) (n3 c3 : Nat) (P : List Int) (w : World) (hr : Row w g 33 (BxP S T A2 n2 c2 A3 n3 c3)) (h2 : SlI w w.heap.size A2 n2 P) (hn : n2 ≤ 4294967296) (e1 : inB S 1 64 = true) (e2 : inB T 1 4 = true) (e3 : (n2 : Int) = S * T) (e5 : (n3 : Int) = S) :
    Calls Try.prog 78 #[.pointer (some ⟨g, 0, none⟩)] w fun e w' => e = .returned (.bool (allIn P 0 (S - 1))) ∧ Below w.heap.size w w' := by
  have RB := Lib.hid hr
  have r0 := hr.cell 0; have r1 := hr.cell 1; have r2 := hr.cell 2; have r3 := hr.cell 3
  have W1 := sIn_any S 1 64; have W2 := sIn_any T 1 4
  rw [e1] at W1
  rw [e2] at W2
  have s1 := inB_true e1
  have s2 := inB_true e2
  have m0 : 0 ≤ S * T := Int.mul_nonneg (by omega) (by omega)
  have m1 : S * T ≤ 64 * 4 := Int.mul_le_mul (by omega) (by omega) (by omega) (by omega)
  have WM : IntKind.i64.wrap (S * T) = S * T := IntWalk.i64_in _ (by omega)
  have WM' : IntKind.i64.wrap (S * T) = (n2 : Int) := by rw [WM, e3]
  have z1 : ((n2 : Int) == (n2 : Int)) = true := by simp
  clear WM
  have z2 : ((n3 : Int) == S) = true := by simpa using e5
  have WS : IntKind.i64.wrap (S - 1) = S - 1 := IntWalk.i64_in _ (by omega)
  have hl := h2.len
  have H := Lib.hid h2; have HL := Lib.hid hl
  clear e1 h2 hr e2 s1 s2 m0 m1 e3 e5 hl
  go_enter Try.func78, Try.ntmps78
  go_wp2_with fail
  go_quiet (first | (go_at_call_of 104 (Value.int .i64 S); exact quietL (W1 _)) | (go_at_call_of 104 (Value.int .i64 T); exact quietL (W2 _)))
  go_wp2_with fail
  go_loopg [3] n2 (fun m i wr => ∃ k : Nat, i = .int .i64 k ∧ k ≤ n2 ∧ n2 ≤ m + k ∧ Hid ((P.take k).all (fun x => inB x 0 (S - 1)) = true) ∧ Hid (∃ d, wr = w.drewN d))
  case atStart => exact ⟨0, rfl, by omega, by omega, by rw [List.take_zero]; rfl, ⟨_, rfl⟩⟩
  case round =>
    obtain ⟨k, rfl, hk, hm, hall, HD⟩ := hrel
    obtain ⟨wo, rfl⟩ : ∃ x : World, x = wr := ⟨_, rfl⟩
    have hro : Row wo g 33 (BxP S T A2 n2 c2 A3 n3 c3) := by obtain ⟨d, hd⟩ := HD.out; rw [hd]; exact RB.out
    have r0 := hro.cell 0; have r1 := hro.cell 1; have r2 := hro.cell 2; have r3 := hro.cell 3
    have HH : Hid (SlI wo wo.heap.size A2 n2 P) := by show SlI _ _ _ _ _; obtain ⟨d, hd⟩ := HD.out; rw [hd]; exact H.out
    have HBB : Hid (∀ n, Below w.heap.size w (wo.drewN n)) := fun n => by obtain ⟨d, hd⟩ := HD.out; rw [hd]; exact below_draws (below_draws (Below.refl _ _) _) _
    have HBC : Hid (Below w.heap.size w wo) := by show Below _ _ _; obtain ⟨d, hd⟩ := HD.out; rw [hd]; exact below_draws (Below.refl _ _) _
    have HDD : Hid (∀ n, ∃ d, wo.drewN n = w.drewN d) := fun n => by obtain ⟨d, hd⟩ := HD.out; rw [hd]; exact ⟨d + n, World.drewN_drewN ..⟩
    clear hro
    by_cases hlt : k < n2
    · obtain ⟨b, off, x, rfl, _, hx, kx⟩ := HH.out.at_ hlt
      have l0 : (0 : Int) ≤ (k : Int) := by omega
      have l1 : (k : Int) < (n2 : Int) := by omega
      have W3 := sIn_any x 0 (S - 1)
      cases p0 : inB x 0 (S - 1) with
      | false =>
        rw [p0] at W3
        have HN : Hid (allIn P 0 (S - 1) = false) := by
          show _ = _
          rw [allIn, List.all_eq_false]
          exact ⟨x, List.mem_of_getElem? hx.out, by rw [p0]; decide⟩
        clear p0 hx HD
        go_wp2_with fail
        go_quiet (first | (go_at_call_of 104 (Value.int .i64 x); exact quietL (W3 _)))
        go_wp2_with fail
        go_ret
        exact ⟨ret_bool HN.out.symm, HBB.out _⟩
      | true =>
        rw [p0] at W3
        have HN := Lib.hid (allTk hall.out hx.out p0)
        clear p0 hx HD
        go_wp2_with fail
        go_quiet (first | (go_at_call_of 104 (Value.int .i64 x); exact quietL (W3 _)))
        go_wp2_with fail
        go_roundg (gk - 1)
        case measure => omega
        case rel => exact ⟨k + 1, by go_num, by omega, by omega, HN.out, HDD.out _⟩
    · have l1 : (n2 : Int) ≤ (k : Int) := by omega
      have HN : Hid (allIn P 0 (S - 1) = true) := by
        have h := hall.out
        rw [List.take_of_length_le (by have := HL.out; omega)] at h
        exact h
      clear HD
      go_wp2_with fail
      go_ret
      exact ⟨ret_bool HN.out.symm, HBC.out⟩
theorem sPlain_any (g : Nat) (S T : Int) (A2 : Option Addr) (n2 c2 : Nat) (A3 : Option Addr) (n3 c3 : Nat) (P : List Int) (w : World) (hr : Row w g 33 (BxP S T A2 n2 c2 A3 n3 c3)) (h2 : SlI w w.heap.size A2 n2 P) (hn : n2 ≤ 4294967296) :
    Calls Try.prog 78 #[.pointer (some ⟨g, 0, none⟩)] w fun e w' => e = .returned (.bool (vpB S T n2 n3 P)) ∧ Below w.heap.size w w' := by
  unfold vpB
  cases e1 : inB S 1 64 with
  | false => exact sPlain_no1 g S T A2 n2 c2 A3 n3 c3 P w hr h2 hn e1
  | true =>
    cases e2 : inB T 1 4 with
    | false => exact sPlain_no2 g S T A2 n2 c2 A3 n3 c3 P w hr h2 hn e1 e2
    | true =>
      by_cases e3 : (n2 : Int) = S * T
      · by_cases e5 : (n3 : Int) = S
        · rw [decide_eq_true e3, decide_eq_true e5]
          have h := sPlain_loop g S T A2 n2 c2 A3 n3 c3 P w hr h2 hn e1 e2 e3 e5
          cases e4 : allIn P 0 (S - 1) with
          | false => rw [e4] at h; exact h
          | true => rw [e4] at h; exact h
        · rw [decide_eq_true e3, decide_eq_false e5, Bool.and_false]; exact sPlain_no4 g S T A2 n2 c2 A3 n3 c3 P w hr h2 hn e1 e2 e3 e5
      · rw [decide_eq_false e3]; exact sPlain_no3 g S T A2 n2 c2 A3 n3 c3 P w hr h2 hn e1 e2 e3
end Go.Proofs.Ytbdfbmohdbigfaa

namespace Go.Proofs.Ytbdfbmohdbigfaa
open Go.RowKit
set_option linter.unusedVariables false
theorem nodup_lt {n : Nat} : ∀ {l : List Nat}, l.Nodup → (∀ x ∈ l, x < n) → l.length ≤ n := by
  induction n with
  | zero =>
    intro l _ h
    cases l with
    | nil => simp
    | cons a l => exact absurd (h a (by simp)) (by omega)
  | succ n ih =>
    intro l hn h
    by_cases hm : n ∈ l
    · have h1 : (l.erase n).Nodup := hn.erase n
      have h2 : (l.erase n).length ≤ n := ih h1 (fun x hx => by
        have hx' := (hn.mem_erase_iff).1 hx
        have := h x hx'.2
        omega)
      rw [List.length_erase_of_mem hm] at h2
      omega
    · have := ih hn (fun x hx => by
        have := h x hx
        have : x ≠ n := fun e => hm (e ▸ hx)
        omega)
      omega
abbrev P3 := Nat × Nat × Int
def pss (ws : List Int) (k : Nat) (letter : Int) : Option Nat := if letter < 0 then some k else if ws[k]? = some letter then some (k + 1) else none
theorem pss_le {ws : List Int} {k i : Nat} {letter : Int} (h : pss ws k letter = some i) (hk : k ≤ ws.length) : i ≤ ws.length := by
  unfold pss at h
  split at h
  · simp at h; omega
  · split at h
    · rename_i h2
      have := (List.getElem?_eq_some_iff.1 h2).1
      simp at h; omega
    · cases h
def nxt (xs ys : List Int) (p : P3) (a : A4) : Option P3 :=
  if a.1 = p.2.2 then match pss xs p.1 a.2.2.1, pss ys p.2.1 a.2.2.2 with
    | some i, some k => some (i, k, a.2.1)
    | _, _ => none
  else none
def addp (ps : List P3) : Option P3 → List P3
  | none => ps
  | some q => if q ∈ ps then ps else ps ++ [q]
def rnd (xs ys : List Int) (L : List A4) (p : P3) (ps : List P3) : List P3 := L.foldl (fun ps a => addp ps (nxt xs ys p a)) ps
theorem rnd_zero (xs ys : List Int) (L : List A4) (p : P3) (ps : List P3) : rnd xs ys (L.take 0) p ps = ps := by simp [rnd]
theorem rnd_succ {xs ys : List Int} {L : List A4} {p : P3} {ps : List P3} {j : Nat} {a : A4} (h : L[j]? = some a) : rnd xs ys (L.take (j + 1)) p ps = addp (rnd xs ys (L.take j) p ps) (nxt xs ys p a) := by
  obtain ⟨hj, rfl⟩ := List.getElem?_eq_some_iff.1 h
  unfold rnd
  rw [List.take_succ_eq_append_getElem hj, List.foldl_append]
  rfl
/-- A place is within the words and the states. -/
def okP (S : Int) (xs ys : List Int) (p : P3) : Prop := p.1 ≤ xs.length ∧ p.2.1 ≤ ys.length ∧ 0 ≤ p.2.2 ∧ p.2.2 < S
def okL (S : Int) (xs ys : List Int) (ps : List P3) : Prop := ps.Nodup ∧ ∀ p ∈ ps, okP S xs ys p
theorem nxt_ok {S : Int} {xs ys : List Int} {p q : P3} {a : A4} (hp : okP S xs ys p) (ha : 0 ≤ a.2.1 ∧ a.2.1 < S) (h : nxt xs ys p a = some q) : okP S xs ys q := by
  unfold nxt at h
  split at h
  · split at h
    · rename_i i k h1 h2
      simp at h; subst h
      exact ⟨pss_le h1 hp.1, pss_le h2 hp.2.1, ha.1, ha.2⟩
    · cases h
  · cases h
theorem addp_ok {S : Int} {xs ys : List Int} {ps : List P3} {o : Option P3} (h : okL S xs ys ps) (ho : ∀ q, o = some q → okP S xs ys q) : okL S xs ys (addp ps o) := by
  cases o with
  | none => exact h
  | some q =>
    by_cases hm : q ∈ ps
    · rw [show addp ps (some q) = ps from if_pos hm]; exact h
    · rw [show addp ps (some q) = ps ++ [q] from if_neg hm]
      refine ⟨?_, fun x hx => ?_⟩
      · rw [List.nodup_append]
        refine ⟨h.1, by simp, fun a ha b hb => ?_⟩
        simp at hb; subst hb
        exact fun e => hm (e ▸ ha)
      · rcases List.mem_append.1 hx with hx | hx
        · exact h.2 x hx
        · simp at hx; subst hx; exact ho _ rfl
def encP (wide count : Nat) (p : P3) : Nat := p.2.2.toNat * count + p.1 * wide + p.2.1
theorem encP_lt {S : Int} {xs ys : List Int} {p : P3} (h : okP S xs ys p) : encP (ys.length + 1) ((xs.length + 1) * (ys.length + 1)) p < S.toNat * ((xs.length + 1) * (ys.length + 1)) := by
  obtain ⟨h1, h2, h3, h4⟩ := h
  unfold encP
  have a1 : p.2.2.toNat + 1 ≤ S.toNat := by omega
  have a2 := Nat.mul_le_mul_right ((xs.length + 1) * (ys.length + 1)) a1
  have a3 := Nat.mul_le_mul_right (ys.length + 1) (show p.1 + 1 ≤ xs.length + 1 by omega)
  rw [Nat.add_mul, Nat.one_mul] at a2 a3
  omega
theorem encP_inj {S : Int} {xs ys : List Int} {p q : P3} (hp : okP S xs ys p) (hq : okP S xs ys q) (h : encP (ys.length + 1) ((xs.length + 1) * (ys.length + 1)) p = encP (ys.length + 1) ((xs.length + 1) * (ys.length + 1)) q) : p = q := by
  obtain ⟨p1, p2, p3, p4⟩ := hp
  obtain ⟨q1, q2, q3, q4⟩ := hq
  obtain ⟨a, b, c⟩ := p
  obtain ⟨a', b', c'⟩ := q
  simp only at *
  unfold encP at h
  simp only at h
  have r1 : a * (ys.length + 1) + b < (xs.length + 1) * (ys.length + 1) := by
    have a3 := Nat.mul_le_mul_right (ys.length + 1) (show a + 1 ≤ xs.length + 1 by omega)
    rw [Nat.add_mul, Nat.one_mul] at a3
    omega
  have r2 : a' * (ys.length + 1) + b' < (xs.length + 1) * (ys.length + 1) := by
    have a3 := Nat.mul_le_mul_right (ys.length + 1) (show a' + 1 ≤ xs.length + 1 by omega)
    rw [Nat.add_mul, Nat.one_mul] at a3
    omega
  have d1 : ∀ (s r : Nat), r < (xs.length + 1) * (ys.length + 1) → (s * ((xs.length + 1) * (ys.length + 1)) + r) / ((xs.length + 1) * (ys.length + 1)) = s ∧ (s * ((xs.length + 1) * (ys.length + 1)) + r) % ((xs.length + 1) * (ys.length + 1)) = r := by
    intro s r hr
    rw [Nat.mul_comm s]
    exact ⟨by rw [Nat.mul_add_div (by omega), Nat.div_eq_of_lt hr, Nat.add_zero], by rw [Nat.mul_add_mod, Nat.mod_eq_of_lt hr]⟩
  have d2 : ∀ (s r : Nat), r < ys.length + 1 → (s * (ys.length + 1) + r) / (ys.length + 1) = s ∧ (s * (ys.length + 1) + r) % (ys.length + 1) = r := by
    intro s r hr
    rw [Nat.mul_comm s]
    exact ⟨by rw [Nat.mul_add_div (by omega), Nat.div_eq_of_lt hr, Nat.add_zero], by rw [Nat.mul_add_mod, Nat.mod_eq_of_lt hr]⟩
  rw [Nat.add_assoc, Nat.add_assoc] at h
  obtain ⟨e1, e2⟩ := d1 c.toNat _ r1
  obtain ⟨e3, e4⟩ := d1 c'.toNat _ r2
  have hc : c.toNat = c'.toNat := by rw [← e1, h, e3]
  have hr : a * (ys.length + 1) + b = a' * (ys.length + 1) + b' := by rw [← e2, h, e4]
  obtain ⟨e5, e6⟩ := d2 a b (by omega)
  obtain ⟨e7, e8⟩ := d2 a' b' (by omega)
  have ha : a = a' := by rw [← e5, hr, e7]
  have hb : b = b' := by rw [← e6, hr, e8]
  have hcc : c = c' := by omega
  rw [ha, hb, hcc]
theorem okL_len {S : Int} {xs ys : List Int} {ps : List P3} (h : okL S xs ys ps) : ps.length ≤ S.toNat * ((xs.length + 1) * (ys.length + 1)) := by
  have h1 : (ps.map (encP (ys.length + 1) ((xs.length + 1) * (ys.length + 1)))).Nodup := by
    obtain ⟨hn, ho⟩ := h
    induction ps with
    | nil => simp
    | cons p ps ih =>
      rw [List.map_cons, List.nodup_cons]
      rw [List.nodup_cons] at hn
      refine ⟨fun hm => ?_, ih hn.2 (fun x hx => ho x (by simp [hx]))⟩
      obtain ⟨q, hq, e⟩ := List.mem_map.1 hm
      have := encP_inj (ho q (by simp [hq])) (ho p (by simp)) e
      exact hn.1 (this ▸ hq)
  have h2 := nodup_lt h1 (n := S.toNat * ((xs.length + 1) * (ys.length + 1))) (fun x hx => by
    obtain ⟨q, hq, rfl⟩ := List.mem_map.1 hx
    exact encP_lt (h.2 q hq))
  rw [List.length_map] at h2
  exact h2
def accP (xs ys : List Int) (E : List Bool) (p : P3) : Bool := decide (p.1 = xs.length) && (decide (p.2.1 = ys.length) && decide (E[p.2.2.toNat]? = some true))
def srch (xs ys : List Int) (L : List A4) (E : List Bool) : Nat → List P3 → Nat → Bool
  | 0, _, _ => false
  | f + 1, ps, k => match ps[k]? with
    | none => false
    | some p => if accP xs ys E p then true else srch xs ys L E f (rnd xs ys L p ps) (k + 1)
theorem srch_none {xs ys : List Int} {L : List A4} {E : List Bool} {f k : Nat} {ps : List P3} (h : ps.length ≤ k) : srch xs ys L E f ps k = false := by
  cases f with
  | zero => rfl
  | succ f => unfold srch; rw [List.getElem?_eq_none h]
theorem srch_acc {xs ys : List Int} {L : List A4} {E : List Bool} {f k : Nat} {ps : List P3} {p : P3} (h : ps[k]? = some p) (ha : accP xs ys E p = true) : srch xs ys L E (f + 1) ps k = true := by
  unfold srch; rw [h]; simp [ha]
theorem srch_next {xs ys : List Int} {L : List A4} {E : List Bool} {f k : Nat} {ps : List P3} {p : P3} (h : ps[k]? = some p) (ha : accP xs ys E p = false) : srch xs ys L E (f + 1) ps k = srch xs ys L E f (rnd xs ys L p ps) (k + 1) := by
  rw [srch, h]; simp [ha]
/-- Whether the pair is read. -/
def rdS (S : Int) (L : List A4) (E : List Bool) (xs ys : List Int) : Bool := srch xs ys L E (S.toNat * ((xs.length + 1) * (ys.length + 1)) + 1) [(0, 0, 0)] 0
theorem okL_start {S : Int} {xs ys : List Int} (hS : 0 < S) : okL S xs ys [(0, 0, 0)] := ⟨by simp, fun p hp => by simp at hp; subst hp; exact ⟨Nat.zero_le _, Nat.zero_le _, Int.le_refl _, hS⟩⟩
theorem addp_pre {ps : List P3} {o : Option P3} {k : Nat} {p : P3} (h : ps[k]? = some p) : (addp ps o)[k]? = some p := by
  cases o with
  | none => exact h
  | some q =>
    by_cases hm : q ∈ ps
    · rw [show addp ps (some q) = ps from if_pos hm]; exact h
    · rw [show addp ps (some q) = ps ++ [q] from if_neg hm, List.getElem?_append_left (List.getElem?_eq_some_iff.1 h).1]; exact h
end Go.Proofs.Ytbdfbmohdbigfaa
