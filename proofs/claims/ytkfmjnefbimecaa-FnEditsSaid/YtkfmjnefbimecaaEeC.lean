/- The contracts of FnEdits' calls at three told texts. -/
import Derived.Test.YtkfmjnefbimecaaEeB
import Derived.Test.YtkfmjnefbimecaaApI
import Derived.Test.YtkfmjnefbimecaaAgK
import Derived.Test.YtkfmjnefbimecaaShI
import Derived.Test.YtkfmjnefbimecaaCsC

namespace Go.Proofs.Ytkfmjnefbimecaa
open Go.RowKit Go.PlainAid
set_option linter.unusedVariables false
theorem max9 {s : ByteArray} {n : Nat} (h : s.size ≤ n) (hn : n ≤ 100) : s.size ≤ maxLen := by unfold maxLen; omega
theorem row3 (w : World) (x y z : ByteArray) (hx : x.size ≤ 9) (hy : y.size ≤ 9) (hz : z.size ≤ 9) (t : TypeId) : SlS (w.alloc (.cells ([.string x, .string y, .string z] : List Value).toArray t)) (w.alloc (.cells ([.string x, .string y, .string z] : List Value).toArray t)).heap.size (some ⟨w.heap.size, 0, none⟩) 3 [x, y, z] := by
  refine RowS.sl (Row.new w t (sv [x, y, z])) rfl (fun s hs => ?_)
  have h : s = x ∨ s = y ∨ s = z := by simpa using hs
  rcases h with rfl | rfl | rfl <;> unfold maxLen <;> omega
section
variable {a b c : ByteArray} {X Z V SW Y G LO : Int} {ST CO : ByteArray} {m : Nat} (T : Told a b c X Z V SW Y G LO ST CO m)
include T
theorem ecAB (w : World) :
    Calls Try.prog 30 #[.string a, .string b, .int .i64 1, .int .i64 1, .int .i64 1] w fun e w' => e = .returned (.tuple #[.int .i64 X, .bool true]) ∧ Below w.heap.size w w' := by
  have h := iEditCost_any a b 1 1 1 (max9 T.sa (by omega)) (max9 T.sb (by omega)) w
  rw [T.eab.1, T.eab.2] at h
  exact h
theorem ecBA (w : World) :
    Calls Try.prog 30 #[.string b, .string a, .int .i64 1, .int .i64 1, .int .i64 1] w fun e w' => e = .returned (.tuple #[.int .i64 X, .bool true]) ∧ Below w.heap.size w w' := by
  have h := iEditCost_any b a 1 1 1 (max9 T.sb (by omega)) (max9 T.sa (by omega)) w
  rw [T.eba.1, T.eba.2] at h
  exact h
theorem ecAC (w : World) :
    Calls Try.prog 30 #[.string a, .string c, .int .i64 1, .int .i64 1, .int .i64 1] w fun e w' => e = .returned (.tuple #[.int .i64 Z, .bool true]) ∧ Below w.heap.size w w' := by
  have h := iEditCost_any a c 1 1 1 (max9 T.sa (by omega)) (max9 T.sc (by omega)) w
  rw [T.eac.1, T.eac.2] at h
  exact h
theorem ecCB (w : World) :
    Calls Try.prog 30 #[.string c, .string b, .int .i64 1, .int .i64 1, .int .i64 1] w fun e w' => e = .returned (.tuple #[.int .i64 V, .bool true]) ∧ Below w.heap.size w w' := by
  have h := iEditCost_any c b 1 1 1 (max9 T.sc (by omega)) (max9 T.sb (by omega)) w
  rw [T.ecb.1, T.ecb.2] at h
  exact h
theorem ec2 (w : World) :
    Calls Try.prog 30 #[.string a, .string b, .int .i64 1, .int .i64 1, .int .i64 2] w fun e w' => e = .returned (.tuple #[.int .i64 ((a.size : Int) + (b.size : Int) - 2 * (CO.size : Int)), .bool true]) ∧ Below w.heap.size w w' := by
  have h := iEditCost_any a b 1 1 2 (max9 T.sa (by omega)) (max9 T.sb (by omega)) w
  rw [T.two.1, T.two.2] at h
  exact h
theorem esAB (w : World) :
    Calls Try.prog 31 #[.string a, .string b] w fun e w' => e = .returned (.tuple #[.string ST, .bool true]) ∧ Below w.heap.size w w' := by
  have h := iEditSteps_any a b (max9 T.sa (by omega)) (max9 T.sb (by omega)) w
  rw [T.st.1, T.st.2] at h
  exact h
theorem apAB (w : World) :
    Calls Try.prog 32 #[.string a, .string b, .string ST] w fun e w' => e = .returned (.tuple #[.string b, .bool true]) ∧ Below w.heap.size w w' := by
  have h := iApply_any a b ST (max9 T.sa (by omega)) (max9 T.sb (by omega)) (max9 T.stn (by omega)) w
  rw [T.ap.1, T.ap.2] at h
  exact h
theorem swAB (w : World) :
    Calls Try.prog 33 #[.string a, .string b] w fun e w' => e = .returned (.tuple #[.int .i64 SW, .bool true]) ∧ Below w.heap.size w w' := by
  have h := iSwapCost_any a b (max9 T.sa (by omega)) (max9 T.sb (by omega)) w
  rw [T.sab.1, T.sab.2] at h
  exact h
theorem swBA (w : World) :
    Calls Try.prog 33 #[.string b, .string a] w fun e w' => e = .returned (.tuple #[.int .i64 SW, .bool true]) ∧ Below w.heap.size w w' := by
  have h := iSwapCost_any b a (max9 T.sb (by omega)) (max9 T.sa (by omega)) w
  rw [T.sba.1, T.sba.2] at h
  exact h
theorem coAB (w : World) :
    Calls Try.prog 34 #[.string a, .string b] w fun e w' => e = .returned (.tuple #[.string CO, .bool true]) ∧ Below w.heap.size w w' := by
  have h := iCommonText_any a b (max9 T.sa (by omega)) (max9 T.sb (by omega)) w
  rw [T.co.1, T.co.2] at h
  exact h
theorem agAA (w : World) :
    Calls Try.prog 37 #[.string a, .string a, .int .i64 3, .int .i64 1, .int .i64 2, .int .i64 1] w fun e w' => e = .returned (.tuple #[.int .i64 (3 * (a.size : Int)), .bool true]) ∧ Below w.heap.size w w' := by
  have h := iAlign_yes a a 3 1 2 1 (max9 T.sa (by omega)) (max9 T.sa (by omega)) (txt9 T.sa) (txt9 T.sa) (by decide) w
  rw [T.g1] at h
  exact h
theorem agAB0 (w : World) :
    Calls Try.prog 37 #[.string a, .string b, .int .i64 0, .int .i64 1, .int .i64 0, .int .i64 1] w fun e w' => e = .returned (.tuple #[.int .i64 (-X), .bool true]) ∧ Below w.heap.size w w' := by
  have h := iAlign_yes a b 0 1 0 1 (max9 T.sa (by omega)) (max9 T.sb (by omega)) (txt9 T.sa) (txt9 T.sb) (by decide) w
  rw [T.g2] at h
  exact h
theorem agBA (w : World) :
    Calls Try.prog 37 #[.string b, .string a, .int .i64 3, .int .i64 1, .int .i64 2, .int .i64 1] w fun e w' => e = .returned (.tuple #[.int .i64 G, .bool true]) ∧ Below w.heap.size w w' := by
  have h := iAlign_yes b a 3 1 2 1 (max9 T.sb (by omega)) (max9 T.sa (by omega)) (txt9 T.sb) (txt9 T.sa) (by decide) w
  rw [T.g3] at h
  exact h
theorem agAB (w : World) :
    Calls Try.prog 37 #[.string a, .string b, .int .i64 3, .int .i64 1, .int .i64 2, .int .i64 1] w fun e w' => e = .returned (.tuple #[.int .i64 G, .bool true]) ∧ Below w.heap.size w w' := by
  have h := iAlign_yes a b 3 1 2 1 (max9 T.sa (by omega)) (max9 T.sb (by omega)) (txt9 T.sa) (txt9 T.sb) (by decide) w
  rw [T.g4] at h
  exact h
theorem lgAB (w : World) :
    Calls Try.prog 38 #[.string a, .string b, .int .i64 3, .int .i64 1, .int .i64 2] w fun e w' => e = .returned (.tuple #[.int .i64 LO, .bool true]) ∧ Below w.heap.size w w' := by
  have h := iLocal_any a b 3 1 2 (max9 T.sa (by omega)) (max9 T.sb (by omega)) w
  rw [T.l1.1, T.l1.2] at h
  exact h
theorem lgAA (w : World) :
    Calls Try.prog 38 #[.string a, .string a, .int .i64 3, .int .i64 1, .int .i64 2] w fun e w' => e = .returned (.tuple #[.int .i64 (3 * (a.size : Int)), .bool true]) ∧ Below w.heap.size w w' := by
  have h := iLocal_any a a 3 1 2 (max9 T.sa (by omega)) (max9 T.sa (by omega)) w
  rw [T.l2.1, T.l2.2] at h
  exact h
theorem shAB (w : World) (hG : GInt w) :
    Calls Try.prog 36 #[.string a, .string b] w fun e w' => ∃ x y l : Nat, e = .returned (.tuple #[.int .i64 x, .int .i64 y, .int .i64 l, .bool true]) ∧ (x + l ≤ a.size ∧ y + l ≤ b.size ∧ l ≤ CO.size ∧ a.extract x (x + l) = b.extract y (y + l) ∧ 3 * (l : Int) ≤ LO) ∧ Below w.heap.size w w' := by
  refine (iSharedText_any a b (max9 T.sa (by omega)) (max9 T.sb (by omega)) w hG).mono ?_
  rintro e w' ⟨x, y, l, rfl, h, hb⟩
  exact ⟨x, y, l, by rw [T.shb], T.sh x y l h, hb⟩
/-- The costs, in NearShared's order, of the places that NearTexts tells. -/
theorem near3 (w : World) (A : Option Addr) (q : Nat) (h : SlS w w.heap.size A 3 [a, b, c]) :
    Calls Try.prog 39 #[.slice A 3 q, .string b, .int .i64 4] w fun e w' => ∃ (g k : Nat) (r : List Nat), e = .returned (.tuple #[.slice (some ⟨g, 0, none⟩) r.length k, .bool true]) ∧ w.heap.size ≤ g ∧ g < w'.heap.size ∧ 1 ≤ r.length ∧ r.length ≤ 15
      ∧ (∀ (j x : Nat), r[j]? = some x → w'.cell? ⟨g, j, none⟩ = some (.int .i64 x) ∧ x < 3 ∧ ∃ y : Int, [SW, 0, Y][x]? = some y ∧ y ≤ 4)
      ∧ (∀ (j x x' : Nat) (y y' : Int), r[j]? = some x → r[j + 1]? = some x' → [SW, 0, Y][x]? = some y → [SW, 0, Y][x']? = some y' → y ≤ y')
      ∧ Below w.heap.size w w' := by
  have h1 : ntC [a, b, c] b 1 = 0 := by unfold ntC; rw [T.nr]; rfl
  obtain ⟨n1, n2, n3⟩ := nt_law [a, b, c] b rfl T.ns h1
  have hB : ntB [a, b, c] b 4 = true := by unfold ntB; rw [T.ns]; rfl
  have hl : ntL [a, b, c] b 4 = ix (ntTo (ntC [a, b, c] b) 3 5) := rfl
  have hlen := ntTo_len (ntC [a, b, c] b) 3 5
  have hget : ∀ x : Nat, x < 3 → [SW, 0, Y][x]? = some (ntC [a, b, c] b x) := by
    intro x hx
    unfold ntC
    rw [T.nr]
    have : x = 0 ∨ x = 1 ∨ x = 2 := by omega
    rcases this with rfl | rfl | rfl <;> rfl
  obtain ⟨r, hr⟩ : ∃ r, r = ntTo (ntC [a, b, c] b) 3 5 := ⟨_, rfl⟩
  rw [show ([a, b, c] : List ByteArray).length = 3 from rfl, ← hr] at n1 n2 n3
  rw [← hr] at hl hlen
  refine (iNearTexts_any A 3 q [a, b, c] b 4 w h (by unfold maxLen; omega) (max9 T.sb (by omega))).mono ?_
  rintro e w' ⟨v, rfl, hv, hb⟩
  rw [hB, hl] at hv
  have hv' : RowI w' w.heap.size 2 v (ix r) := hv
  obtain ⟨g, k, rfl, -, hg, hlt, hc⟩ := hv'.form (by rw [ix_len]; omega)
  refine ⟨g, k, r, by rw [hB, ix_len], hg, hlt, n1, by omega, fun j x hx => ?_, fun j x x' y y' hx hx' hy hy' => ?_, hb⟩
  · have hx2 := n2 j x hx
    exact ⟨hc j (x : Int) (by unfold ix; rw [List.getElem?_map, hx]; rfl), hx2.1, ntC [a, b, c] b x, hget x hx2.1, hx2.2⟩
  · have q1 := n3 j x x' hx hx'
    rw [hget x (n2 j x hx).1] at hy
    rw [hget x' (n2 (j + 1) x' hx').1] at hy'
    injection hy with hy; injection hy' with hy'
    rw [← hy, ← hy']; exact q1
theorem shared3 (w : World) (A : Option Addr) (q : Nat) (h : SlS w w.heap.size A 3 [a, b, c]) (k : Int) (hk : 1 ≤ k ∧ k ≤ 8) :
    Calls Try.prog 40 #[.slice A 3 q, .string b, .int .i64 k] w fun e w' => ∃ (g d : Nat), e = .returned (.tuple #[.slice (some ⟨g, 0, none⟩) 3 d, .bool true]) ∧ g < w'.heap.size
      ∧ (∀ (j : Nat) (y : Int), [SW, 0, Y][j]? = some y → w'.cell? ⟨g, j, none⟩ = some (.int .i64 y))
      ∧ Below w.heap.size w w' := by
  have hB : nshB [a, b, c] b k = true := by unfold nshB; rw [T.ns, show inB k 1 8 = true from decide_eq_true hk]; rfl
  refine (iNearShared_any A 3 q [a, b, c] b k w h (by unfold maxLen; omega) (max9 T.sb (by omega))).mono ?_
  rintro e w' ⟨v, rfl, hv, hb⟩
  rw [hB, T.nr] at hv
  have hv' : RowI w' w.heap.size 2 v [SW, 0, Y] := hv
  obtain ⟨g, d, rfl, -, hg, hlt, hc⟩ := hv'.form (by show 0 < 3; omega)
  exact ⟨g, d, by rw [hB]; rfl, hlt, hc, hb⟩
theorem start3 (w : World) (A : Option Addr) (q : Nat) (h : SlS w w.heap.size A 3 [a, b, a]) :
    Calls Try.prog 41 #[.slice A 3 q] w fun e w' => e = .returned (.tuple #[.string (a.extract 0 m), .bool true]) ∧ Below w.heap.size w w' := by
  have h := iCommonStart_any A 3 q [a, b, a] w h (by unfold maxLen; omega)
  rw [T.cs.1, T.cs.2] at h
  exact h
end
end Go.Proofs.Ytkfmjnefbimecaa
