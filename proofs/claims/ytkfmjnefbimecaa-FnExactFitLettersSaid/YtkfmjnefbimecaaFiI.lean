/- FitLetters of the program: its tests, and the empty counts. -/
import Derived.Test.YtkfmjnefbimecaaFiP
import Derived.Test.YtkfmjnefbimecaaVd
import Derived.Test.YtkfmjnefbimecaaAwd
import Derived.Test.YtkfmjnefbimecaaWrd
import Derived.Test.YtkfmjnefbimecaaTxtB
import Derived.Test.YtkfmjnefbimecaaStO
import Derived.BigRegion
namespace Go.Proofs.Ytkfmjnefbimecaa
open Go.RowKit
set_option linter.unusedVariables false
/-- Whether a model is valid and has 1 to 16 words. -/
def hwB (S T : Int) (P Q R : List F32) (ws : List (List Int)) : Bool := vdM S T P Q R && decide (1 ≤ ws.length) && decide (ws.length ≤ 16) && ws.all (fun xs => wordB xs T)
def hidA (S : Int) (word way : List Int) : Bool := decide (way.length = word.length + 1) && allIn way 0 (S - 1)
set_option maxHeartbeats 4000000 in
theorem iHave_any (S T : Int) (P Q R : List F32) (A2 : Option Addr) (n2 c2 : Nat) (A3 : Option Addr) (n3 c3 : Nat) (A4 : Option Addr) (n4 c4 : Nat) (A : Option Addr) (n c : Nat) (ws : List (List Int)) (w : World) (h2 : SlF w w.heap.size A2 n2 P) (h3 : SlF w w.heap.size A3 n3 Q) (h4 : SlF w w.heap.size A4 n4 R) (hcap : capOk (.agg #[.int .i64 S, .int .i64 T, .slice A2 n2 c2, .slice A3 n3 c3, .slice A4 n4 c4])) (hw : SlL w w.heap.size A n ws) (hn : n ≤ 4294967296) (hm : ∀ r ∈ ws, r.length ≤ 4294967296) :
    Calls Try.prog 69 #[.agg #[.int .i64 S, .int .i64 T, .slice A2 n2 c2, .slice A3 n3 c3, .slice A4 n4 c4], .slice A n c] w fun e w' => e = .returned (.bool (hwB S T P Q R ws)) ∧ Below w.heap.size w w' := by
  have hl := hw.len
  have rb := Row.new w 48 [.int .i64 S, .int .i64 T, .slice A2 n2 c2, .slice A3 n3 c3, .slice A4 n4 c4]
  have bx : Below w.heap.size w (w.alloc (.cells ([.int .i64 S, .int .i64 T, .slice A2 n2 c2, .slice A3 n3 c3, .slice A4 n4 c4] : List Value).toArray 48)) := (Below.refl _ _).alloc (Nat.le_refl _) _
  have H2 := Lib.hid h2; have H3 := Lib.hid h3; have H4 := Lib.hid h4; have HW := Lib.hid hw; have HM := Lib.hid hm; have HC := Lib.hid hcap
  have RB := Lib.hid rb; have BX := Lib.hid bx
  have HD : Hid (hwB S T P Q R ws = (vdM S T P Q R && decide (1 ≤ n) && decide (n ≤ 16) && ws.all (fun xs => wordB xs T))) := by show _ = _; rw [← hl]; rfl
  clear h2 h3 h4 hw hm hcap rb bx hl
  go_enter Try.func69, Try.ntmps69
  go_wp2_with fail
  obtain ⟨x0, hx0⟩ : ∃ x, x = w.alloc (.cells ([.int .i64 S, .int .i64 T, .slice A2 n2 c2, .slice A3 n3 c3, .slice A4 n4 c4] : List Value).toArray 48) := ⟨_, rfl⟩
  rw [← hx0] at RB BX
  change Calls _ _ _ (w.alloc (.cells ([.int .i64 S, .int .i64 T, .slice A2 n2 c2, .slice A3 n3 c3, .slice A4 n4 c4] : List Value).toArray 48)) _
  rw [← hx0]
  clear hx0
  refine (iValidModel_any _ S T P Q R x0 ⟨_, _, _, _, _, _, _, _, _, rfl, (H2.out.below BX.out (Nat.le_refl _)).more BX.out.size, (H3.out.below BX.out (Nat.le_refl _)).more BX.out.size, (H4.out.below BX.out (Nat.le_refl _)).more BX.out.size⟩ HC.out).mono ?_
  rintro e w1 ⟨rfl, hb1⟩
  have BX1 := Lib.hid (BX.out.trans (hb1.mono BX.out.size))
  have RB1 := Lib.hid (RB.out.below hb1 RB.out.lt)
  clear hb1
  have r1 := RB1.out.cell 1
  obtain ⟨ok, hok⟩ : ∃ b, b = vdM S T P Q R := ⟨_, rfl⟩
  rw [← hok] at HD ⊢
  clear hok
  cases ok with
  | false =>
    go_wp2_with fail
    go_ret
    exact ⟨by rw [HD.out]; rfl, BX1.out⟩
  | true =>
    by_cases h1 : 1 ≤ n
    · by_cases h16 : n ≤ 16
      · have g1 : (1 : Int) ≤ (n : Int) := by omega
        have g2 : (n : Int) ≤ 16 := by omega
        rw [decide_eq_true h1, decide_eq_true h16] at HD
        clear h1 h16
        go_wp2_with fail
        clear r1
        refine (iAreWords_any A n c ws T w1 ((HW.out.below BX1.out (Nat.le_refl _)).more BX1.out.size) hn HM.out).mono ?_
        rintro e w2 ⟨rfl, hw2⟩
        obtain rfl := hw2
        go_wp2_with fail
        go_ret
        exact ⟨by rw [HD.out]; rfl, BX1.out⟩
      · have g1 : (1 : Int) ≤ (n : Int) := by omega
        have g2 : (16 : Int) < (n : Int) := by omega
        rw [decide_eq_true h1, decide_eq_false h16] at HD
        clear h1 h16
        go_wp2_with fail
        go_ret
        exact ⟨by rw [HD.out]; rfl, BX1.out⟩
    · have g1 : (n : Int) < 1 := by omega
      rw [decide_eq_false h1] at HD
      clear h1
      go_wp2_with fail
      go_ret
      exact ⟨by rw [HD.out]; rfl, BX1.out⟩
set_option maxHeartbeats 4000000 in
theorem iHidden_any (S T : Int) (A2 : Option Addr) (n2 c2 : Nat) (A3 : Option Addr) (n3 c3 : Nat) (A4 : Option Addr) (n4 c4 : Nat) (A : Option Addr) (n c : Nat) (word : List Int) (A' : Option Addr) (n' c' : Nat) (way : List Int) (w : World) (hS : 1 ≤ S ∧ S ≤ 5) (h : SlI w w.heap.size A n word) (h' : SlI w w.heap.size A' n' way) (hn : n ≤ 4294967296) (hn' : n' ≤ 4294967296) :
    Calls Try.prog 71 #[.agg #[.int .i64 S, .int .i64 T, .slice A2 n2 c2, .slice A3 n3 c3, .slice A4 n4 c4], .slice A n c, .slice A' n' c'] w fun e w' => e = .returned (.bool (hidA S word way)) ∧ Below w.heap.size w w' := by
  have hl := h.len; have hl' := h'.len
  have rb := Row.new w 48 [.int .i64 S, .int .i64 T, .slice A2 n2 c2, .slice A3 n3 c3, .slice A4 n4 c4]
  have k0 := rb.cell 0
  have bx : Below w.heap.size w (w.alloc (.cells ([.int .i64 S, .int .i64 T, .slice A2 n2 c2, .slice A3 n3 c3, .slice A4 n4 c4] : List Value).toArray 48)) := (Below.refl _ _).alloc (Nat.le_refl _) _
  have HD : Hid (hidA S word way = (decide (n' = n + 1) && allIn way 0 (S - 1))) := by show _ = _; rw [← hl, ← hl']; rfl
  have hA := iAllIn_any A' n' c' way 0 (S - 1) _ _ ((h'.below bx (Nat.le_refl _)).more bx.size) hn'
  have ew : IntKind.i64.wrap (S - 1) = S - 1 := IntWalk.i64_in _ (by omega)
  have ew2 : IntKind.i64.wrap ((n : Int) + 1) = (n : Int) + 1 := IntWalk.i64_in _ (by omega)
  have BX := Lib.hid bx
  clear bx rb hl hl' h h' hS
  by_cases hnn : n' = n + 1
  · subst hnn
    rw [decide_eq_true rfl, Bool.true_and] at HD
    go_enter Try.func71, Try.ntmps71
    go_wp2_with fail
    refine hA.mono ?_
    rintro e w1 ⟨rfl, hw1⟩
    obtain rfl := hw1
    clear hA
    go_wp2_with fail
    go_ret
    exact ⟨by rw [HD.out]; rfl, BX.out⟩
  · have hne : ((n' : Int) == (n : Int) + 1) = false := beq_false_of_ne (by omega)
    rw [decide_eq_false hnn, Bool.false_and] at HD
    clear hA hnn
    go_enter Try.func71, Try.ntmps71
    go_wp2_with fail
    go_ret
    exact ⟨by rw [HD.out]; rfl, BX.out⟩
end Go.Proofs.Ytkfmjnefbimecaa
