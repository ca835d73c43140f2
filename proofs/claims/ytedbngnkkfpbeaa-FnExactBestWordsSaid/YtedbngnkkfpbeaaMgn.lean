/- Several texts in one: Arcs of the call's own: cloned; and moved, nothing else being written. RepeatOf of the program. EitherOf of the program: what a step keeps, and what is told. -/
import Derived.Test.YtedbngnkkfpbeaaMgj
import Derived.Test.YtedbngnkkfpbeaaMge
import Derived.Deep.RegionHeld3
import Derived.Deep.RegionLaw
import Derived.Outline

namespace Go.Proofs.Ytedbngnkkfpbeaa
open Go.RowKit
set_option linter.unusedVariables false
set_option maxHeartbeats 2000000 in
theorem iCloneA_any (b off n c : Nat) (L : List A4) (w : World) (h : SlA w w.heap.size (some ⟨b, off, none⟩) n L) (hn : n ≤ 4294967296) :
    Calls Try.prog 76 #[.slice (some ⟨b, off, none⟩) n c] w fun e w' => ∃ A' c', e = .returned (.slice A' n c') ∧ w'.ownsRow w.heap.size 89 4 (.slice A' n c') n (fa L) ∧ Below w.heap.size w w' := by
  have hl := h.len
  have ha : SlA (w.alloc (.cells #[] 89)) w.heap.size (some ⟨b, off, none⟩) n L := h.below ((Below.refl _ _).alloc (Nat.le_refl _) _) (Nat.le_refl _)
  have hcell := ha.cells
  have HC : Hid (∀ j u, (fa L)[j]? = some u → (w.alloc (.cells #[] 89)).cell? ⟨b, off + j, none⟩ = some u) := hcell
  have HLN : Hid ((fa L).length = n * 4) := by show _ = _; rw [fa_length, hl]; omega
  have HO : Hid ((w.alloc (.cells #[] 89)).ownsRow w.heap.size 89 4 (.slice (some ⟨w.heap.size, 0, none⟩) 0 0) 0 []) := World.ownsRow_made w #[] 0 (Nat.le_refl _) (by unfold maxLen; omega) rfl
  have hb0 : Below w.heap.size w (w.alloc (.cells #[] 89)) := (Below.refl _ _).alloc (Nat.le_refl _) _
  have HB0 := Lib.hid hb0; clear hb0 ha hcell h hl
  have hnil := fun w => Lib.run_eql_slice_nil (P := Try.prog) w 25 89 (some ⟨b, off, none⟩) n c 0 0 Try.underlying25
  go_enter Try.func76, Try.ntmps76
  go_wp2_with (first | (at_builtin; refine wpList_cells_push rfl (.tmp 5) (.tmp 6) _ rfl w.heap.size 89 (.agg #[.int .i64 0, .int .i64 0, .int .i64 0, .int .i64 0]) 4 32 Try.underlying25 infoAr rfl (by omega) (by omega) (.slice (some ⟨w.heap.size, 0, none⟩) 0 0) 0 [] rfl HO.out b off n c (fa L) rfl HLN.out HC.out (fa_one L) (by omega) HB0.out.size ?_; intro v' w' hown hgr hat; obtain ⟨A', c', hv', _, _⟩ := own_form hown; subst hv'; have HG := Lib.hid (grown_below' HO.out hgr HB0.out.size); have HOW := Lib.hid hown; clear hgr hown hat))
  go_ret
  have := HOW.out
  rw [Nat.zero_add, List.nil_append] at this
  exact ⟨A', c', rfl, this, HB0.out.trans HG.out⟩
/-- What a call that appends to one own row does: no other block is written. -/
def Only (A : Option Addr) (n c : Nat) (w w' : World) : Prop := ∀ k, k < w.heap.size → (Value.slice A n c).ownBlock ≠ some k → w'.heap[k]? = w.heap[k]?
def From0 (A : Option Addr) (n c : Nat) (w : World) (A' : Option Addr) (n' c' : Nat) : Prop := ∀ k, (Value.slice A' n' c').ownBlock = some k → (Value.slice A n c).ownBlock = some k ∨ w.heap.size ≤ k
end Go.Proofs.Ytedbngnkkfpbeaa


namespace Go.Proofs.Ytedbngnkkfpbeaa
open Go.RowKit
set_option linter.unusedVariables false
/-- Arcs gathered from a list of numbers with their places. -/
def gath (f : Nat → Int → List A4) : Nat → List Int → List A4
  | _, [] => []
  | k, x :: xs => f k x ++ gath f (k + 1) xs
theorem gath_append (f : Nat → Int → List A4) : ∀ (xs ys : List Int) (k : Nat), gath f k (xs ++ ys) = gath f k xs ++ gath f (k + xs.length) ys
  | [], ys, k => by simp [gath]
  | x :: xs, ys, k => by
    rw [List.cons_append]
    show f k x ++ gath f (k + 1) (xs ++ ys) = (f k x ++ gath f (k + 1) xs) ++ gath f (k + (xs.length + 1)) ys
    rw [gath_append f xs ys (k + 1), List.append_assoc, show k + (xs.length + 1) = k + 1 + xs.length by omega]
theorem gath_succ (f : Nat → Int → List A4) {xs : List Int} {k : Nat} {x : Int} (h : xs[k]? = some x) : gath f 0 (xs.take (k + 1)) = gath f 0 (xs.take k) ++ f k x := by
  obtain ⟨hk, rfl⟩ := List.getElem?_eq_some_iff.1 h
  rw [List.take_succ_eq_append_getElem hk, gath_append]
  simp [gath, List.length_take, Nat.min_eq_left (Nat.le_of_lt hk)]
def sAr (k : Nat) (x : Int) : List A4 := if 0 ≤ x then [(0, (k : Int) + 1, -1, x)] else []
def eAr (k : Nat) (x : Int) : List A4 := if 0 ≤ x then [((k : Int) + 1, 0, -1, x)] else []
theorem sAr_pos {k : Nat} {x : Int} (h : 0 ≤ x) : sAr k x = [(0, (k : Int) + 1, -1, x)] := if_pos h
theorem sAr_neg {k : Nat} {x : Int} (h : ¬ 0 ≤ x) : sAr k x = [] := if_neg h
theorem eAr_pos {k : Nat} {x : Int} (h : 0 ≤ x) : eAr k x = [((k : Int) + 1, 0, -1, x)] := if_pos h
theorem eAr_neg {k : Nat} {x : Int} (h : ¬ 0 ≤ x) : eAr k x = [] := if_neg h
theorem gath_len {f : Nat → Int → List A4} (hf : ∀ k x, (f k x).length ≤ 1) : ∀ (xs : List Int) (k : Nat), (gath f k xs).length ≤ xs.length
  | [], _ => Nat.le_refl _
  | x :: xs, k => by
    show (f k x ++ gath f (k + 1) xs).length ≤ xs.length + 1
    rw [List.length_append]; have := hf k x; have := gath_len hf xs (k + 1); omega
theorem sAr_len (k : Nat) (x : Int) : (sAr k x).length ≤ 1 := by unfold sAr; split <;> simp
theorem eAr_len (k : Nat) (x : Int) : (eAr k x).length ≤ 1 := by unfold eAr; split <;> simp
/-- The arcs after k starts have been read, and after k ends. -/
def rp1 (L : List A4) (P : List Int) (k : Nat) : List A4 := L.map (mvA 1) ++ gath sAr 0 (P.take k)
def rp2 (L : List A4) (P E : List Int) (k : Nat) : List A4 := rp1 L P P.length ++ gath eAr 0 (E.take k)
def rpA (L : List A4) (P E : List Int) : List A4 := rp2 L P E E.length
def rpS (n : Nat) : List Int := 0 :: List.replicate n (-1)
theorem rp1_len (L : List A4) (P : List Int) (k : Nat) : (rp1 L P k).length ≤ L.length + P.length := by
  have := gath_len sAr_len (P.take k) 0; have e : (P.take k).length ≤ P.length := by simp; omega
  unfold rp1; rw [List.length_append, List.length_map]; omega
theorem rp2_len (L : List A4) (P E : List Int) (k : Nat) : (rp2 L P E k).length ≤ L.length + P.length + E.length := by
  have := gath_len eAr_len (E.take k) 0; have e : (E.take k).length ≤ E.length := by simp; omega
  have := rp1_len L P P.length
  unfold rp2; rw [List.length_append]; omega
theorem rpA_len {L : List A4} {P E : List Int} : (rpA L P E).length ≤ L.length + P.length + E.length := rp2_len L P E _
theorem rpS_len (n : Nat) : (rpS n).length = n + 1 := by simp [rpS]
theorem rp1_step {L : List A4} {P : List Int} {k : Nat} {x : Int} (h : P[k]? = some x) : rp1 L P (k + 1) = rp1 L P k ++ sAr k x := by
  unfold rp1; rw [gath_succ _ h, List.append_assoc]
theorem rp2_step {L : List A4} {P E : List Int} {k : Nat} {x : Int} (h : E[k]? = some x) : rp2 L P E (k + 1) = rp2 L P E k ++ eAr k x := by
  unfold rp2; rw [gath_succ _ h, List.append_assoc]
theorem rp1_zero (L : List A4) (P : List Int) : rp1 L P 0 = L.map (mvA 1) := by simp [rp1, gath]
theorem rp2_zero (L : List A4) (P E : List Int) : rp2 L P E 0 = rp1 L P P.length := by simp [rp2, gath]
/-- Whether RepeatOf gives a machine. -/
def rpOk (S T : Int) (L : List A4) (P E : List Int) : Bool := vmB S T L P E && vmB (S + 1) T (rpA L P E) (rpS S.toNat) (rpS S.toNat)
def ckA (ok : Bool) (x : Option Addr) : Option Addr := if ok then x else none
def ckN (ok : Bool) (x : Nat) : Nat := if ok then x else 0
theorem ckV_agg (ok : Bool) (S T : Int) (A2 : Option Addr) (n2 c2 : Nat) (A3 : Option Addr) (n3 c3 : Nat) (A4 : Option Addr) (n4 c4 : Nat) :
    ckV ok (.agg #[.int .i64 S, .int .i64 T, .slice A2 n2 c2, .slice A3 n3 c3, .slice A4 n4 c4]) = .agg #[.int .i64 (ckI ok S), .int .i64 (ckI ok T), .slice (ckA ok A2) (ckN ok n2) (ckN ok c2), .slice (ckA ok A3) (ckN ok n3) (ckN ok c3), .slice (ckA ok A4) (ckN ok n4) (ckN ok c4)] := by
  cases ok <;> rfl
theorem own_row {w : World} {g base n sz : Nat} {t : TypeId} {vs : List Value} (h : Row w g t vs) (hb : base ≤ g) (hn : vs.length = n * sz) (hm : n ≤ maxLen) : w.ownsRow base t sz (.slice (some ⟨g, 0, none⟩) n n) n vs :=
  ⟨by omega, .inr ⟨g, n, vs.toArray, rfl, hb, h, Nat.le_refl _, hm, by simp [hn], by rw [List.toList_toArray]; exact List.take_of_length_le (by omega)⟩⟩
end Go.Proofs.Ytedbngnkkfpbeaa


namespace Go.Proofs.Ytedbngnkkfpbeaa
open Go.RowKit
set_option linter.unusedVariables false
/-- What a step keeps: all blocks that there were; rows of headers. -/
theorem Lo.size {lo g : Nat} {x y : World} (h : Lo lo g x y) : x.heap.size ≤ y.heap.size := h.2.2.2.1
def Up (x y : World) : Prop := x.heap.size ≤ y.heap.size ∧ ∀ k, k < x.heap.size → y.heap[k]? = x.heap[k]?
def Kp3 (x y : World) : Prop := ∀ g vs, Row x g 26 vs → Row y g 26 vs
theorem Up.kp3 {x y : World} (h : Up x y) : Kp3 x y := fun g vs hr => (h.2 g hr.lt).trans hr
theorem Up.of {x y : World} (h : Below x.heap.size x y) : Up x y := ⟨h.size, fun k hk => h.block k hk⟩
theorem kp_use {x y : World} {g : Nat} {vs : List Value} (h : Kp3 x y) (hr : Row x g 26 vs) : Row y g 26 vs := h g vs hr
theorem rowNewE {w : World} {t : TypeId} {vs : List Value} {g : Nat} (h : w.heap.size = g) : Row (w.alloc (.cells vs.toArray t)) g t vs := by subst h; exact Row.new w t vs
theorem row_low {x y : World} {g B : Nat} {t : TypeId} {vs : List Value} (hb : Below B x y) (hg : g < B) (hr : Row x g t vs) : Row y g t vs := (hb.block g hg).trans hr
def OwX (w : World) (lo : Nat) (e : TypeId) (sz : Nat) (v : Value) (n : Nat) (xs : List Value) : Prop := w.ownsRow lo e sz v n xs
theorem OwX.up {x y : World} {lo : Nat} {e : TypeId} {sz : Nat} {v : Value} {n : Nat} {xs : List Value} (hu : Up x y) (h : OwX x lo e sz v n xs) : OwX y lo e sz v n xs := own_move h (fun k hk => hu.2 k (World.ownsRow.lt h k hk).2)
theorem OwX.upd {x y : World} {lo : Nat} {e : TypeId} {sz : Nat} {v : Value} {n : Nat} {xs : List Value} (h : OwX x lo e sz v n xs) (hu : Up x y) : OwX y lo e sz v n xs := OwX.up hu h
theorem OwX.alloc {x : World} {lo : Nat} {e : TypeId} {sz : Nat} {v : Value} {n : Nat} {xs : List Value} (h : OwX x lo e sz v n xs) (ob : Obj) : OwX (x.alloc ob) lo e sz v n xs := World.ownsRow.alloc h ob
theorem OwX.drew {x : World} {lo : Nat} {e : TypeId} {sz : Nat} {v : Value} {n : Nat} {xs : List Value} (h : OwX x lo e sz v n xs) : OwX x.drew lo e sz v n xs := own_move h (fun _ _ => rfl)
theorem OwX.lt {x : World} {lo : Nat} {e : TypeId} {sz : Nat} {v : Value} {n : Nat} {xs : List Value} (h : OwX x lo e sz v n xs) : ∀ k, v.ownBlock = some k → lo ≤ k ∧ k < x.heap.size := World.ownsRow.lt h
def Apt (u v : Value) : Prop := ∀ k, u.ownBlock = some k → v.ownBlock ≠ some k
theorem OwX.apt {x : World} {lo : Nat} {e : TypeId} {sz : Nat} {u v : Value} {n : Nat} {xs : List Value} (h : OwX x lo e sz u n xs) (hv : ∀ k, v.ownBlock = some k → x.heap.size ≤ k) : Apt u v := fun k hk hv' => by
  have := h.lt k hk; have := hv k hv'; omega
theorem Row.ty {w : World} {g : Nat} {t t' : TypeId} {vs : List Value} {cs : Array Value} {fr : Nat × Nat} (h : Row w g t vs) (h' : w.heap[g]? = some (.cells cs t' fr)) : t = t' := by
  unfold Row at h
  rw [h'] at h
  injection h with h
  injection h with _ h _
  exact h.symm
theorem only_kp3 {x y : World} {lo n c m : Nat} {A : Option Addr} {xs : List Value} (ho : x.ownsRow lo 89 4 (.slice A n c) m xs) (h : Only A n c x y) : Kp3 x y := fun g vs hr => by
  refine (h g hr.lt ?_).trans hr
  intro e
  obtain ⟨_, h2⟩ := ho
  rcases h2 with ⟨e2, _⟩ | ⟨q, cap, cur, e2, _, hg, _⟩
  · rw [e2] at e; simp [Value.ownBlock] at e
  · rw [e2] at e
    simp [Value.ownBlock] at e
    subst e
    exact absurd (hr.ty hg) (by decide)
/-- Whether EitherOf gives a machine; its lists. -/
def eiL (S : Int) (L L' : List A4) : List A4 := L ++ L'.map (mvA S)
def eiOk (S T : Int) (L : List A4) (P E : List Int) (S' T' : Int) (L' : List A4) (P' E' : List Int) : Bool := vmB S T L P E && vmB S' T' L' P' E' && decide (T = T') && vmB (S + S') T (eiL S L L') (P ++ P') (E ++ E')
theorem eiL_len (S : Int) (L L' : List A4) : (eiL S L L').length = L.length + L'.length := by simp [eiL]
theorem catL_two (p q : Part) : catL [p, q] = p.xs ++ q.xs := by simp [catL]
end Go.Proofs.Ytedbngnkkfpbeaa
