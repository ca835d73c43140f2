/- ReadsPair of the program: the search through places. -/
import Derived.Test.YtchacfienafhlaaMpb
import Derived.Test.YtchacfienafhlaaVs
import Derived.Test.YtchacfienafhlaaStO
import Derived.Deep.LoopGhost
import Derived.Deep.QuietTactic
import Derived.Deep.CutRange
import Derived.BigQuiet
namespace Go.Proofs.Ytchacfienafhlaa
open Go.RowKit
set_option linter.unusedVariables false
theorem pss_neg {xs : List Int} {k : Nat} {l : Int} (h : l < 0) : pss xs k l = some k := if_pos h
theorem pss_hit {xs : List Int} {k : Nat} {l : Int} (h : ¬ l < 0) (hx : xs[k]? = some l) : pss xs k l = some (k + 1) := by unfold pss; rw [if_neg h, if_pos hx]
theorem pss_miss {xs : List Int} {k : Nat} {l : Int} (h : ¬ l < 0) (hx : xs[k]? ≠ some l) : pss xs k l = none := by unfold pss; rw [if_neg h, if_neg hx]
/-- Where a word is behind a letter. -/
def psI (k : Nat) (l : Int) : Nat := if l < 0 then k else k + 1
theorem psI_le (k : Nat) (l : Int) : psI k l ≤ k + 1 := by unfold psI; split <;> omega
theorem psI_of {xs : List Int} {k i : Nat} {l : Int} (h : pss xs k l = some i) : psI k l = i := by
  unfold pss at h
  unfold psI
  split at h
  · rename_i h1; rw [if_pos h1]; exact Option.some.inj h
  · rename_i h1
    rw [if_neg h1]
    split at h
    · exact Option.some.inj h
    · cases h
set_option maxHeartbeats 1000000 in
theorem iPass_any (A : Option Addr) (n c : Nat) (xs : List Int) (k : Nat) (l : Int) (w : World) (h : SlI w w.heap.size A n xs) (hk : k ≤ n) (hn : n ≤ 1000000) :
    Calls Try.prog 81 #[.slice A n c, .int .i64 k, .int .i64 l] w fun e w' => e = .returned (.tuple #[.int .i64 (psI k l : Int), .bool (pss xs k l).isSome]) ∧ Below w.heap.size w w' := by
  have hl := Lib.hid h.len
  have w1 : IntKind.i64.wrap ((k : Int) + 1) = (k : Int) + 1 := IntWalk.i64_in _ (by omega)
  by_cases hlt : l < 0
  · have HE := Lib.hid (pss_neg (xs := xs) (k := k) hlt)
    have HZ : Hid (psI k l = k) := if_pos hlt
    go_enter Try.func81, Try.ntmps81
    go_wp2
    go_ret2
    exact ⟨by rw [HE.out, HZ.out]; rfl, Below.refl _ _⟩
  · have HL := Lib.hid hlt
    have HZ : Hid (psI k l = k + 1) := if_neg hlt
    have hl0 : (0 : Int) ≤ l := by omega
    clear hlt
    by_cases hkn : k < n
    · obtain ⟨b, off, x, rfl, _, hx, hc⟩ := h.at_ hkn
      have hd : decide ((k : Int) < (n : Int)) = true := decide_eq_true (by omega)
      have l1 : (0 : Int) ≤ (k : Int) := by omega
      have l2 : (k : Int) < (n : Int) := by omega
      by_cases hq : x = l
      · have q1 : (x == l) = true := by simp [hq]
        have HE := Lib.hid (pss_hit HL.out (by rw [← hq]; exact hx.out))
        clear hq
        go_enter Try.func81, Try.ntmps81
        go_wp2
        go_quiet (fail)
        go_wp2
        go_ret2
        exact ⟨by rw [HE.out, HZ.out]; rfl, below_draws (Below.refl _ _) _⟩
      · have q1 : (x == l) = false := by simp [hq]
        have HE := Lib.hid (pss_miss (k := k) (xs := xs) HL.out (by rw [hx.out]; simpa using hq))
        clear hq
        go_enter Try.func81, Try.ntmps81
        go_wp2
        go_quiet (fail)
        go_wp2
        go_ret2
        exact ⟨by rw [HE.out, HZ.out]; rfl, below_draws (Below.refl _ _) _⟩
    · have hd : decide ((k : Int) < (n : Int)) = false := decide_eq_false (by omega)
      have HE := Lib.hid (pss_miss (k := k) (xs := xs) HL.out (by rw [List.getElem?_eq_none (by have := hl.out; omega)]; simp))
      have l2 : (n : Int) ≤ (k : Int) := by omega
      go_enter Try.func81, Try.ntmps81
      go_wp2
      go_quiet (fail)
      go_wp2
      go_ret2
      exact ⟨by rw [HE.out, HZ.out]; rfl, below_draws (Below.refl _ _) _⟩
/-- The cells of places. -/
def fp : List P3 → List Value
  | [] => []
  | p :: ps => .int .i64 (p.1 : Int) :: .int .i64 (p.2.1 : Int) :: .int .i64 p.2.2 :: fp ps
theorem fp_append (ps qs : List P3) : fp (ps ++ qs) = fp ps ++ fp qs := by
  induction ps with
  | nil => rfl
  | cons p ps ih => simp [fp, ih]
theorem fp_len (ps : List P3) : (fp ps).length = 3 * ps.length := by
  induction ps with
  | nil => rfl
  | cons p ps ih => simp [fp, ih]; omega
theorem fp_get {ps : List P3} {j : Nat} {p : P3} (h : ps[j]? = some p) : (fp ps)[j * 3]? = some (.int .i64 (p.1 : Int)) ∧ (fp ps)[j * 3 + 1]? = some (.int .i64 (p.2.1 : Int)) ∧ (fp ps)[j * 3 + 2]? = some (.int .i64 p.2.2) := by
  induction ps generalizing j with
  | nil => simp at h
  | cons b ps ih =>
    cases j with
    | zero => simp at h; subst h; simp [fp]
    | succ j =>
      simp at h
      have := ih h
      rw [show (j + 1) * 3 = j * 3 + 1 + 1 + 1 from by omega]
      simpa [fp] using this
theorem infoPl : (Try.prog.info? 119).map (fun i => (i.zero, i.size, i.bytes)) = some (some (.agg #[.int .i64 0, .int .i64 0, .int .i64 0]), 3, 24) := by kernel_rfl
/-- The world of the search: the machine's box, the list, the map. -/
def RpW (w0 : World) (bx : List Value) (gl cl : Nat) (ps qs : List P3) (w : World) : Prop :=
  Row w w0.heap.size 46 bx ∧ w.ownsRow (w0.heap.size + 1) 119 3 (.slice (some ⟨gl, 0, none⟩) ps.length cl) ps.length (fp ps) ∧ gl ≠ w0.heap.size + 2 ∧ SeenM w (w0.heap.size + 2) qs ∧ Below w0.heap.size w0 w
section
variable {w0 w w' : World} {bx : List Value} {gl cl : Nat} {ps qs : List P3}
theorem RpW.lg (h : RpW w0 bx gl cl ps qs w) : gl < w.heap.size := (World.ownsRow.lt h.2.1 gl rfl).2
theorem RpW.step (h : RpW w0 bx gl cl ps qs w) (hb : Below w.heap.size w w') : RpW w0 bx gl cl ps qs w' :=
  ⟨h.1.below hb h.1.lt, own_move h.2.1 (fun g hg => hb.block g (World.ownsRow.lt h.2.1 g hg).2), h.2.2.1, h.2.2.2.1.below hb h.2.2.2.1.lt, h.2.2.2.2.trans (hb.mono h.2.2.2.2.size)⟩
theorem RpW.at_ (h : RpW w0 bx gl cl ps qs w) {k : Nat} {p : P3} (hp : ps[k]? = some p) : w.cell? ⟨gl, k * 3, none⟩ = some (.int .i64 (p.1 : Int)) ∧ w.cell? ⟨gl, k * 3 + 1, none⟩ = some (.int .i64 (p.2.1 : Int)) ∧ w.cell? ⟨gl, k * 3 + 2, none⟩ = some (.int .i64 p.2.2) := by
  obtain ⟨e1, e2, e3⟩ := fp_get hp
  have ea : ∀ j, (⟨gl, 0, none⟩ : Addr).add j = ⟨gl, j, none⟩ := fun j => by unfold Addr.add; by_cases h : j = 0 <;> simp [h]
  have k1 := World.ownsRow.cells h.2.1 (g := gl) rfl _ _ e1
  have k2 := World.ownsRow.cells h.2.1 (g := gl) rfl _ _ e2
  have k3 := World.ownsRow.cells h.2.1 (g := gl) rfl _ _ e3
  rw [ea] at k1 k2 k3
  exact ⟨k1, k2, k3⟩
theorem RpW.put (h : RpW w0 bx gl cl ps qs w) {q : P3} (hs : SeenM w' (w0.heap.size + 2) (qs ++ [q])) (hb : But (w0.heap.size + 2) w w') : RpW w0 bx gl cl ps (qs ++ [q]) w' :=
  ⟨(hb.2.2.2.2 _ h.1.lt (by omega)).trans h.1, own_move h.2.1 (fun g hg => hb.2.2.2.2 g (World.ownsRow.lt h.2.1 g hg).2 (by simp [Value.ownBlock] at hg; have := h.2.2.1; omega)), h.2.2.1, hs, h.2.2.2.2.trans (hb.below (by omega) h.2.2.2.2.size)⟩
theorem RpW.push (h : RpW w0 bx gl cl ps qs w) {q : P3} {v' : Value} (hown : w'.ownsRow (w0.heap.size + 1) 119 3 v' (ps.length + 1) (fp ps ++ [.int .i64 (q.1 : Int), .int .i64 (q.2.1 : Int), .int .i64 q.2.2])) (hgr : w.grownBy w' (Value.slice (some ⟨gl, 0, none⟩) ps.length cl).ownBlock) (hat : ∀ k, v'.ownBlock = some k → (Value.slice (some ⟨gl, 0, none⟩) ps.length cl).ownBlock = some k ∨ w.heap.size ≤ k) :
    ∃ gl' cl', v' = .slice (some ⟨gl', 0, none⟩) (ps.length + 1) cl' ∧ RpW w0 bx gl' cl' (ps ++ [q]) qs w' ∧ (gl' = gl ∨ w.heap.size ≤ gl') := by
  obtain ⟨gl', cl', rfl, hb1, hlt⟩ := World.ownsRow.form hown (by omega)
  have hg : gl' = gl ∨ w.heap.size ≤ gl' := by
    rcases hat gl' rfl with h | h
    · simp [Value.ownBlock] at h; exact .inl h.symm
    · exact .inr h
  have hm := h.2.2.2.1.lt
  have hb0 := World.ownsRow.lt h.2.1 gl rfl
  have hs0 := h.1.lt
  refine ⟨gl', cl', rfl, ⟨h.1.grown hgr (by simp [Value.ownBlock]; omega), ?_, ?_, ?_, h.2.2.2.2.grown hgr h.2.2.2.2.size (fun k hk => by simp [Value.ownBlock] at hk; omega)⟩, hg⟩
  · have := hown
    rw [show fp ps ++ [.int .i64 (q.1 : Int), .int .i64 (q.2.1 : Int), .int .i64 q.2.2] = fp (ps ++ [q]) from by rw [fp_append]; rfl] at this
    rw [List.length_append]
    exact this
  · have := h.2.2.1
    omega
  · exact h.2.2.2.1.keep (hgr.block _ hm (by simp [Value.ownBlock]; exact fun e => h.2.2.1 e.symm))
end
end Go.Proofs.Ytchacfienafhlaa
