/- Several texts in one: Arcs of the call's own: cloned; and moved, nothing else being written. RepeatOf of the program. -/
import Derived.Test.YtkfmjnefbimecaaMgh
import Derived.Test.YtkfmjnefbimecaaMgg
import Derived.Deep.RegionHeld3
import Derived.Deep.RegionLaw
import Derived.Outline


namespace Go.Proofs.Ytkfmjnefbimecaa
open Go.RowKit
set_option linter.unusedVariables false
set_option maxHeartbeats 2000000 in
theorem iCloneA_any (b off n c : Nat) (L : List A4) (w : World) (h : SlA w w.heap.size (some ⟨b, off, none⟩) n L) (hn : n ≤ 4294967296) :
    Calls Try.prog 97 #[.slice (some ⟨b, off, none⟩) n c] w fun e w' => ∃ A' c', e = .returned (.slice A' n c') ∧ w'.ownsRow w.heap.size 39 4 (.slice A' n c') n (fa L) ∧ Below w.heap.size w w' := by
  have hl := h.len
  have ha : SlA (w.alloc (.cells #[] 39)) w.heap.size (some ⟨b, off, none⟩) n L := h.below ((Below.refl _ _).alloc (Nat.le_refl _) _) (Nat.le_refl _)
  have hcell := ha.cells
  have HC : Hid (∀ j u, (fa L)[j]? = some u → (w.alloc (.cells #[] 39)).cell? ⟨b, off + j, none⟩ = some u) := hcell
  have HLN : Hid ((fa L).length = n * 4) := by show _ = _; rw [fa_length, hl]; omega
  have HO : Hid ((w.alloc (.cells #[] 39)).ownsRow w.heap.size 39 4 (.slice (some ⟨w.heap.size, 0, none⟩) 0 0) 0 []) := World.ownsRow_made w #[] 0 (Nat.le_refl _) (by unfold maxLen; omega) rfl
  have hb0 : Below w.heap.size w (w.alloc (.cells #[] 39)) := (Below.refl _ _).alloc (Nat.le_refl _) _
  have HB0 := Lib.hid hb0; clear hb0 ha hcell h hl
  have hnil := fun w => Lib.run_eql_slice_nil (P := Try.prog) w 25 39 (some ⟨b, off, none⟩) n c 0 0 Try.underlying25
  go_enter Try.func97, Try.ntmps97
  go_wp2_with (first | (at_builtin; refine wpList_cells_push rfl (.tmp 5) (.tmp 6) _ rfl w.heap.size 39 (.agg #[.int .i64 0, .int .i64 0, .int .i64 0, .int .i64 0]) 4 32 Try.underlying25 infoAr rfl (by omega) (by omega) (.slice (some ⟨w.heap.size, 0, none⟩) 0 0) 0 [] rfl HO.out b off n c (fa L) rfl HLN.out HC.out (fa_one L) (by omega) HB0.out.size ?_; intro v' w' hown hgr hat; obtain ⟨A', c', hv', _, _⟩ := own_form hown; subst hv'; have HG := Lib.hid (grown_below' HO.out hgr HB0.out.size); have HOW := Lib.hid hown; clear hgr hown hat))
  go_ret
  have := HOW.out
  rw [Nat.zero_add, List.nil_append] at this
  exact ⟨A', c', rfl, this, HB0.out.trans HG.out⟩
/-- What a call that appends to one own row does: no other block is written. -/
def Only (A : Option Addr) (n c : Nat) (w w' : World) : Prop := ∀ k, k < w.heap.size → (Value.slice A n c).ownBlock ≠ some k → w'.heap[k]? = w.heap[k]?
def From0 (A : Option Addr) (n c : Nat) (w : World) (A' : Option Addr) (n' c' : Nat) : Prop := ∀ k, (Value.slice A' n' c').ownBlock = some k → (Value.slice A n c).ownBlock = some k ∨ w.heap.size ≤ k
end Go.Proofs.Ytkfmjnefbimecaa



namespace Go.Proofs.Ytkfmjnefbimecaa
open Go.RowKit
set_option linter.unusedVariables false
/-- Arcs gathered from a list of numbers with their places. -/
def gath (f : Nat → Int → List A4) : Nat → List Int → List A4
  | _, [] => []
  | k, x :: xs => f k x ++ gath f (k + 1) xs
theorem gath_append (f : Nat → Int → List A4) : ∀ (xs ys : List Int) (k : Nat), gath f k (xs ++ ys) = gath f k xs ++ gath f (k + xs.length) ys
  | [], ys, k => by simp [gath]
  | x :: xs, ys, k => by
    rw [List.cons_append]
    show f k x ++ gath f (k + 1) (xs ++ ys) = (f k x ++ gath f (k + 1) xs) ++ gath f (k + (xs.length + 1)) ys
    rw [gath_append f xs ys (k + 1), List.append_assoc, show k + (xs.length + 1) = k + 1 + xs.length by omega]
theorem gath_succ (f : Nat → Int → List A4) {xs : List Int} {k : Nat} {x : Int} (h : xs[k]? = some x) : gath f 0 (xs.take (k + 1)) = gath f 0 (xs.take k) ++ f k x := by
  obtain ⟨hk, rfl⟩ := List.getElem?_eq_some_iff.1 h
  rw [List.take_succ_eq_append_getElem hk, gath_append]
  simp [gath, List.length_take, Nat.min_eq_left (Nat.le_of_lt hk)]
def sAr (k : Nat) (x : Int) : List A4 := if 0 ≤ x then [(0, (k : Int) + 1, -1, x)] else []
def eAr (k : Nat) (x : Int) : List A4 := if 0 ≤ x then [((k : Int) + 1, 0, -1, x)] else []
theorem sAr_pos {k : Nat} {x : Int} (h : 0 ≤ x) : sAr k x = [(0, (k : Int) + 1, -1, x)] := if_pos h
theorem sAr_neg {k : Nat} {x : Int} (h : ¬ 0 ≤ x) : sAr k x = [] := if_neg h
theorem eAr_pos {k : Nat} {x : Int} (h : 0 ≤ x) : eAr k x = [((k : Int) + 1, 0, -1, x)] := if_pos h
theorem eAr_neg {k : Nat} {x : Int} (h : ¬ 0 ≤ x) : eAr k x = [] := if_neg h
theorem gath_len {f : Nat → Int → List A4} (hf : ∀ k x, (f k x).length ≤ 1) : ∀ (xs : List Int) (k : Nat), (gath f k xs).length ≤ xs.length
  | [], _ => Nat.le_refl _
  | x :: xs, k => by
    show (f k x ++ gath f (k + 1) xs).length ≤ xs.length + 1
    rw [List.length_append]; have := hf k x; have := gath_len hf xs (k + 1); omega
theorem sAr_len (k : Nat) (x : Int) : (sAr k x).length ≤ 1 := by unfold sAr; split <;> simp
theorem eAr_len (k : Nat) (x : Int) : (eAr k x).length ≤ 1 := by unfold eAr; split <;> simp
/-- The arcs after k starts have been read, and after k ends. -/
def rp1 (L : List A4) (P : List Int) (k : Nat) : List A4 := L.map (mvA 1) ++ gath sAr 0 (P.take k)
def rp2 (L : List A4) (P E : List Int) (k : Nat) : List A4 := rp1 L P P.length ++ gath eAr 0 (E.take k)
def rpA (L : List A4) (P E : List Int) : List A4 := rp2 L P E E.length
def rpS (n : Nat) : List Int := 0 :: List.replicate n (-1)
theorem rp1_len (L : List A4) (P : List Int) (k : Nat) : (rp1 L P k).length ≤ L.length + P.length := by
  have := gath_len sAr_len (P.take k) 0; have e : (P.take k).length ≤ P.length := by simp; omega
  unfold rp1; rw [List.length_append, List.length_map]; omega
theorem rp2_len (L : List A4) (P E : List Int) (k : Nat) : (rp2 L P E k).length ≤ L.length + P.length + E.length := by
  have := gath_len eAr_len (E.take k) 0; have e : (E.take k).length ≤ E.length := by simp; omega
  have := rp1_len L P P.length
  unfold rp2; rw [List.length_append]; omega
theorem rpA_len {L : List A4} {P E : List Int} : (rpA L P E).length ≤ L.length + P.length + E.length := rp2_len L P E _
theorem rpS_len (n : Nat) : (rpS n).length = n + 1 := by simp [rpS]
theorem rp1_step {L : List A4} {P : List Int} {k : Nat} {x : Int} (h : P[k]? = some x) : rp1 L P (k + 1) = rp1 L P k ++ sAr k x := by
  unfold rp1; rw [gath_succ _ h, List.append_assoc]
theorem rp2_step {L : List A4} {P E : List Int} {k : Nat} {x : Int} (h : E[k]? = some x) : rp2 L P E (k + 1) = rp2 L P E k ++ eAr k x := by
  unfold rp2; rw [gath_succ _ h, List.append_assoc]
theorem rp1_zero (L : List A4) (P : List Int) : rp1 L P 0 = L.map (mvA 1) := by simp [rp1, gath]
theorem rp2_zero (L : List A4) (P E : List Int) : rp2 L P E 0 = rp1 L P P.length := by simp [rp2, gath]
/-- Whether RepeatOf gives a machine. -/
def rpOk (S T : Int) (L : List A4) (P E : List Int) : Bool := vmB S T L P E && vmB (S + 1) T (rpA L P E) (rpS S.toNat) (rpS S.toNat)
def ckA (ok : Bool) (x : Option Addr) : Option Addr := if ok then x else none
def ckN (ok : Bool) (x : Nat) : Nat := if ok then x else 0
theorem ckV_agg (ok : Bool) (S T : Int) (A2 : Option Addr) (n2 c2 : Nat) (A3 : Option Addr) (n3 c3 : Nat) (A4 : Option Addr) (n4 c4 : Nat) :
    ckV ok (.agg #[.int .i64 S, .int .i64 T, .slice A2 n2 c2, .slice A3 n3 c3, .slice A4 n4 c4]) = .agg #[.int .i64 (ckI ok S), .int .i64 (ckI ok T), .slice (ckA ok A2) (ckN ok n2) (ckN ok c2), .slice (ckA ok A3) (ckN ok n3) (ckN ok c3), .slice (ckA ok A4) (ckN ok n4) (ckN ok c4)] := by
  cases ok <;> rfl
theorem own_row {w : World} {g base n sz : Nat} {t : TypeId} {vs : List Value} (h : Row w g t vs) (hb : base ≤ g) (hn : vs.length = n * sz) (hm : n ≤ maxLen) : w.ownsRow base t sz (.slice (some ⟨g, 0, none⟩) n n) n vs :=
  ⟨by omega, .inr ⟨g, n, vs.toArray, rfl, hb, h, Nat.le_refl _, hm, by simp [hn], by rw [List.toList_toArray]; exact List.take_of_length_le (by omega)⟩⟩
theorem iCheckedG (lo : Nat) (S T : Int) (L : List A4) (P E : List Int) (A2 : Option Addr) (n2 c2 : Nat) (A3 : Option Addr) (n3 c3 : Nat) (A4 : Option Addr) (n4 c4 : Nat) (w : World) (h2 : w.ownsRow lo 39 4 (.slice A2 n2 c2) n2 (fa L)) (h3 : w.ownsRow lo 2 1 (.slice A3 n3 c3) n3 (iv P)) (h4 : w.ownsRow lo 2 1 (.slice A4 n4 c4) n4 (iv E)) (e2 : L.length = n2) (e3 : P.length = n3) (e4 : E.length = n4) (hL : n2 ≤ 4294967296) (hP : n3 ≤ 4294967296) (hE : n4 ≤ 4294967296) :
    Calls Try.prog 60 #[.agg #[.int .i64 S, .int .i64 T, .slice A2 n2 c2, .slice A3 n3 c3, .slice A4 n4 c4]] w fun e w' => ∃ ok, ok = vmB S T L P E ∧ e = .returned (.tuple #[.agg #[.int .i64 (ckI ok S), .int .i64 (ckI ok T), .slice (ckA ok A2) (ckN ok n2) (ckN ok c2), .slice (ckA ok A3) (ckN ok n3) (ckN ok c3), .slice (ckA ok A4) (ckN ok n4) (ckN ok c4)], .bool ok]) ∧ Below w.heap.size w w' := by
  subst e2 e3 e4
  refine (iChecked_any S T L P E A2 _ c2 A3 _ c3 A4 _ c4 w ?_ (RowI.sl (r := P) h3 rfl) (RowI.sl (r := E) h4 rfl) hL hP hE).mono ?_
  · obtain ⟨A, c, hv, hs⟩ := (OwnV.of h2).slA
    injection hv with e1 _ _
    rw [e1]; exact hs
  · rintro e w' ⟨rfl, hb⟩
    exact ⟨_, rfl, by rw [ckV_agg], hb⟩
end Go.Proofs.Ytkfmjnefbimecaa
