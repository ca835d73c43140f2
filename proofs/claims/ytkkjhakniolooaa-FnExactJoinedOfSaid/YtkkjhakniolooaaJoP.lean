/- The arcs, starts and ends of a joined machine, plainly. -/
import Derived.Test.YtkkjhakniolooaaEiA
namespace Go.Proofs.Ytkkjhakniolooaa
open Go.RowKit
set_option linter.unusedVariables false
/-- The arcs between an end and a start; from one end to all starts. -/
def jAr (S : Int) (i : Nat) (e : Int) (k : Nat) (x : Int) : List A4 := if 0 ≤ e ∧ 0 ≤ x then [((i : Int), S + (k : Int), -1, e + x)] else []
def jRw (S : Int) (P' : List Int) (i : Nat) (e : Int) : List A4 := gath (jAr S i e) 0 P'
def jo1 (S : Int) (L L' : List A4) (P' E : List Int) (i : Nat) : List A4 := eiL S L L' ++ gath (jRw S P') 0 (E.take i)
def jo2 (S : Int) (L L' : List A4) (P' E : List Int) (i : Nat) (e : Int) (k : Nat) : List A4 := jo1 S L L' P' E i ++ gath (jAr S i e) 0 (P'.take k)
def joA (S : Int) (L L' : List A4) (P' E : List Int) : List A4 := jo1 S L L' P' E E.length
def joS (P P' : List Int) : List Int := P ++ List.replicate P'.length (-1)
def joE (P E' : List Int) : List Int := List.replicate P.length (-1) ++ E'
def joOk (S T : Int) (L : List A4) (P E : List Int) (S' T' : Int) (L' : List A4) (P' E' : List Int) : Bool := vmB S T L P E && vmB S' T' L' P' E' && decide (T = T') && vmB (S + S') T (joA S L L' P' E) (joS P P') (joE P E')
theorem jAr_len (S : Int) (i : Nat) (e : Int) (k : Nat) (x : Int) : (jAr S i e k x).length ≤ 1 := by unfold jAr; split <;> simp
theorem jAr_pos {S : Int} {i : Nat} {e : Int} {k : Nat} {x : Int} (h : 0 ≤ e) (h' : 0 ≤ x) : jAr S i e k x = [((i : Int), S + (k : Int), -1, e + x)] := if_pos ⟨h, h'⟩
theorem jAr_no1 {S : Int} {i : Nat} {e : Int} {k : Nat} {x : Int} (h : ¬ 0 ≤ e) : jAr S i e k x = [] := if_neg (fun g => h g.1)
theorem jAr_no2 {S : Int} {i : Nat} {e : Int} {k : Nat} {x : Int} (h : ¬ 0 ≤ x) : jAr S i e k x = [] := if_neg (fun g => h g.2)
theorem jRw_len (S : Int) (P' : List Int) (i : Nat) (e : Int) : (jRw S P' i e).length ≤ P'.length := gath_len (jAr_len S i e) P' 0
theorem gath_lenM {f : Nat → Int → List A4} {m : Nat} (hf : ∀ k x, (f k x).length ≤ m) : ∀ (xs : List Int) (k : Nat), (gath f k xs).length ≤ xs.length * m
  | [], _ => by simp [gath]
  | x :: xs, k => by
    show (f k x ++ gath f (k + 1) xs).length ≤ (xs.length + 1) * m
    rw [List.length_append, Nat.add_mul]; have := hf k x; have := gath_lenM hf xs (k + 1); omega
theorem jo1_len {S : Int} {L L' : List A4} {P' E : List Int} (i : Nat) (hE : E.length ≤ 16) (hP : P'.length ≤ 16) : (jo1 S L L' P' E i).length ≤ L.length + L'.length + 256 := by
  have h1 := gath_lenM (jRw_len S P') (E.take i) 0
  have h2 : (E.take i).length * P'.length ≤ 16 * 16 := Nat.mul_le_mul (by simp; omega) hP
  have h3 := eiL_len S L L'
  unfold jo1; rw [List.length_append]; omega
theorem jo2_len {S : Int} {L L' : List A4} {P' E : List Int} (i : Nat) (e : Int) (k : Nat) (hE : E.length ≤ 16) (hP : P'.length ≤ 16) : (jo2 S L L' P' E i e k).length ≤ L.length + L'.length + 272 := by
  have h1 := gath_len (jAr_len S i e) (P'.take k) 0
  have h2 : (P'.take k).length ≤ P'.length := by simp; omega
  have h3 := jo1_len (S := S) (L := L) (L' := L') i hE hP
  unfold jo2; rw [List.length_append]; omega
theorem jo1_zero (S : Int) (L L' : List A4) (P' E : List Int) : jo1 S L L' P' E 0 = eiL S L L' := by simp [jo1, gath]
theorem jo2_zero (S : Int) (L L' : List A4) (P' E : List Int) (i : Nat) (e : Int) : jo2 S L L' P' E i e 0 = jo1 S L L' P' E i := by simp [jo2, gath]
theorem jo1_step {S : Int} {L L' : List A4} {P' E : List Int} {i : Nat} {e : Int} (h : E[i]? = some e) : jo1 S L L' P' E (i + 1) = jo2 S L L' P' E i e P'.length := by
  unfold jo1 jo2; rw [gath_succ _ h, List.take_length, ← List.append_assoc]; rfl
theorem jo2_step {S : Int} {L L' : List A4} {P' E : List Int} {i : Nat} {e : Int} {k : Nat} {x : Int} (h : P'[k]? = some x) : jo2 S L L' P' E i e (k + 1) = jo2 S L L' P' E i e k ++ jAr S i e k x := by
  unfold jo2; rw [gath_succ _ h, ← List.append_assoc]
theorem joS_len (P P' : List Int) : (joS P P').length = P.length + P'.length := by simp [joS]
theorem joE_len (P E' : List Int) : (joE P E').length = P.length + E'.length := by simp [joE]
theorem row_slR {w : World} {g k : Nat} {x : Int} {t : TypeId} (h : Row w g t (iv (List.replicate k x))) : SlI w w.heap.size (some ⟨g, 0, none⟩) k (List.replicate k x) := by
  have := h.slI; rwa [List.length_replicate] at this
end Go.Proofs.Ytkkjhakniolooaa
