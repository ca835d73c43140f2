/- Several texts in one: Roman digits are read back (for FnTold), plainly. Roman digits are read back (for FnTold): the two laws. Small words that many texts want. -/
import Derived.Test.YtpmklldochpnlaaDoorReadRoman
import Derived.Test.YtpmklldochpnlaaDoorMem
import Derived.Test.YtpmklldochpnlaaDoorTxt
import Derived.Test.YtpmklldochpnlaaDoorMgb
import Derived.Deep.LoopGhost
import Derived.Deep.QuietTactic
import Derived.BigQuiet

namespace Go.Proofs.YtpmklldochpnlaaDoor
set_option linter.unusedVariables false
def vR (c : UInt8) : Int := if c = 77 then 1000 else if c = 68 then 500 else if c = 67 then 100 else if c = 76 then 50 else if c = 88 then 10 else if c = 86 then 5 else if c = 73 then 1 else 0
def dR : List UInt8 → Int
  | [] => 0
  | a :: r => match r with
    | [] => vR a
    | b :: _ => if vR a < vR b then dR r - vR a else dR r + vR a
def romB (m : Nat) : Bool := decide (dR (romanS m).data.toList = (m : Int)) && (let t := (romanS m).data.toList ++ [77]; let k := dR t; !decide ((romanS k).data.toList = t) || decide (m % 1000 = 0) || decide (m % 1000 = 100))
theorem romB_all : (List.range 4000).all romB = true := by decide +kernel
end Go.Proofs.YtpmklldochpnlaaDoor


namespace Go.Proofs.YtpmklldochpnlaaDoor
set_option linter.unusedVariables false
theorem searchR_some {t : ByteArray} {k : Int} : ∀ (f : Nat) (n : Int), searchR t f n = (k, true) → romanS k = t ∧ n ≤ k ∧ k < n + f
  | 0, n, h => by simp [searchR] at h
  | f + 1, n, h => by
    rw [searchR] at h
    split at h
    · rename_i e
      simp only [Prod.mk.injEq, and_true] at h
      subst h
      exact ⟨e, Int.le_refl _, by omega⟩
    · have := searchR_some f (n + 1) h
      exact ⟨this.1, by omega, by omega⟩
theorem searchR_hit {t : ByteArray} {m : Int} (hm : romanS m = t) : ∀ (f : Nat) (n : Int), n ≤ m → m < n + f → (searchR t f n).2 = true
  | 0, n, h1, h2 => by omega
  | f + 1, n, h1, h2 => by
    rw [searchR]
    split
    · rfl
    · rename_i e
      refine searchR_hit hm f (n + 1) ?_ (by omega)
      by_cases h : n = m
      · subst h; exact absurd hm e
      · omega
theorem romB_at {m : Int} (h0 : 0 ≤ m) (h1 : m < 4000) : dR (romanS m).data.toList = m ∧ ((romanS (dR ((romanS m).data.toList ++ [77]))).data.toList = (romanS m).data.toList ++ [77] → m % 1000 = 0 ∨ m % 1000 = 100) := by
  obtain ⟨k, rfl⟩ := Int.eq_ofNat_of_zero_le h0
  have h := List.all_eq_true.1 romB_all k (List.mem_range.2 (by omega))
  simp only [romB, Bool.and_eq_true, Bool.or_eq_true, Bool.not_eq_true', decide_eq_true_eq, decide_eq_false_iff_not] at h
  refine ⟨h.1, fun e => ?_⟩
  rcases h.2 with (h2 | h2) | h2
  · exact absurd e h2
  · left; omega
  · right; omega
/-- What was written is read back. -/
theorem rr_back {m : Int} (h0 : 1 ≤ m) (h1 : m ≤ 3999) : rrI (romanS m) = (m, true) := by
  have hs := roman_short (n := m) (by omega) (by omega)
  unfold rrI
  rw [if_neg (by omega)]
  have h2 := searchR_hit (t := romanS m) rfl 3999 1 h0 (by omega)
  obtain ⟨k, hk⟩ : ∃ k, searchR (romanS m) 3999 1 = (k, true) := ⟨_, Prod.ext rfl h2⟩
  obtain ⟨e, k1, k2⟩ := searchR_some _ _ hk
  have a := (romB_at (m := k) (by omega) (by omega)).1
  have b := (romB_at (m := m) (by omega) (by omega)).1
  rw [e, b] at a
  show searchR (romanS m) 3999 1 = (m, true)
  rw [hk, a]
/-- One 'M' more: digits of a number in few cases alone. -/
theorem rr_more {m : Int} (h0 : 1 ≤ m) (h1 : m ≤ 3999) (h : (rrI (romanS m ++ ⟨#[77]⟩)).2 = true) : m % 1000 = 0 ∨ m % 1000 = 100 := by
  unfold rrI at h
  split at h
  · cases h
  · obtain ⟨k, hk⟩ : ∃ k, searchR (romanS m ++ ⟨#[77]⟩) 3999 1 = (k, true) := ⟨_, Prod.ext rfl h⟩
    obtain ⟨e, k1, k2⟩ := searchR_some _ _ hk
    have a := (romB_at (m := k) (by omega) (by omega)).1
    have el : (romanS k).data.toList = (romanS m).data.toList ++ [77] := by rw [e]; simp
    have b := (romB_at (m := m) (by omega) (by omega)).2
    rw [el] at a
    refine b ?_
    rw [a, el]
end Go.Proofs.YtpmklldochpnlaaDoor


namespace Go.Proofs.YtpmklldochpnlaaDoor
open Go.RowKit
set_option linter.unusedVariables false
theorem quietL {P : Program} {f : FuncId} {args : Array Value} {w : World} {n : Nat} {v : Value}
    (h : Calls P f args (w.drewN n) fun e w' => e = .returned v ∧ w.drewN n = w') : Calls P f args (w.drewN n) fun e w'' => e = .returned v ∧ ∃ m, w'' = w.drewN m :=
  h.mono fun _ _ ⟨he, hm⟩ => ⟨he, n, hm.symm⟩
theorem infoQ : (Tryd.prog.info? 2).map (fun i => (i.zero, i.size, i.bytes)) = some (some (.int .i64 0), 1, 8) := by kernel_rfl
theorem allT {α : Type} {p : α → Bool} {L : List α} {k : Nat} {a : α} (h : (L.take k).all p = true) (ha : L[k]? = some a) (hp : p a = true) : (L.take (k + 1)).all p = true := by
  obtain ⟨hk, rfl⟩ := List.getElem?_eq_some_iff.1 ha
  rw [List.take_succ_eq_append_getElem hk, List.all_append, h]
  simp [hp]
theorem allN {α : Type} {p : α → Bool} {L : List α} {k : Nat} {a : α} (ha : L[k]? = some a) (hp : p a = false) : L.all p = false := by
  rw [List.all_eq_false]
  exact ⟨a, List.mem_of_getElem? ha, by simp [hp]⟩
end Go.Proofs.YtpmklldochpnlaaDoor
