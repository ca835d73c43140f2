/- Several texts in one: Arcs of the call's own: cloned; and moved, nothing else being written. RepeatOf of the program. EitherOf of the program: what a step keeps, and what is told. The arcs, starts and ends of a joined machine, plainly. Machines built of others, plainly: reading a word from a state to a state. -/
import Derived.Test.YtedbngnkkfpbeaaMgh
import Derived.Test.YtedbngnkkfpbeaaMgg
import Derived.Deep.RegionHeld3
import Derived.Deep.RegionLaw
import Derived.Outline
import Derived.Test.YtedbngnkkfpbeaaBwP

namespace Go.Proofs.Ytedbngnkkfpbeaa
open Go.RowKit
set_option linter.unusedVariables false
set_option maxHeartbeats 2000000 in
theorem iCloneA_any (b off n c : Nat) (L : List A4) (w : World) (h : SlA w w.heap.size (some ⟨b, off, none⟩) n L) (hn : n ≤ 4294967296) :
    Calls Try.prog 76 #[.slice (some ⟨b, off, none⟩) n c] w fun e w' => ∃ A' c', e = .returned (.slice A' n c') ∧ w'.ownsRow w.heap.size 89 4 (.slice A' n c') n (fa L) ∧ Below w.heap.size w w' := by
  have hl := h.len
  have ha : SlA (w.alloc (.cells #[] 89)) w.heap.size (some ⟨b, off, none⟩) n L := h.below ((Below.refl _ _).alloc (Nat.le_refl _) _) (Nat.le_refl _)
  have hcell := ha.cells
  have HC : Hid (∀ j u, (fa L)[j]? = some u → (w.alloc (.cells #[] 89)).cell? ⟨b, off + j, none⟩ = some u) := hcell
  have HLN : Hid ((fa L).length = n * 4) := by show _ = _; rw [fa_length, hl]; omega
  have HO : Hid ((w.alloc (.cells #[] 89)).ownsRow w.heap.size 89 4 (.slice (some ⟨w.heap.size, 0, none⟩) 0 0) 0 []) := World.ownsRow_made w #[] 0 (Nat.le_refl _) (by unfold maxLen; omega) rfl
  have hb0 : Below w.heap.size w (w.alloc (.cells #[] 89)) := (Below.refl _ _).alloc (Nat.le_refl _) _
  have HB0 := Lib.hid hb0; clear hb0 ha hcell h hl
  have hnil := fun w => Lib.run_eql_slice_nil (P := Try.prog) w 25 89 (some ⟨b, off, none⟩) n c 0 0 Try.underlying25
  go_enter Try.func76, Try.ntmps76
  go_wp2_with (first | (at_builtin; refine wpList_cells_push rfl (.tmp 5) (.tmp 6) _ rfl w.heap.size 89 (.agg #[.int .i64 0, .int .i64 0, .int .i64 0, .int .i64 0]) 4 32 Try.underlying25 infoAr rfl (by omega) (by omega) (.slice (some ⟨w.heap.size, 0, none⟩) 0 0) 0 [] rfl HO.out b off n c (fa L) rfl HLN.out HC.out (fa_one L) (by omega) HB0.out.size ?_; intro v' w' hown hgr hat; obtain ⟨A', c', hv', _, _⟩ := own_form hown; subst hv'; have HG := Lib.hid (grown_below' HO.out hgr HB0.out.size); have HOW := Lib.hid hown; clear hgr hown hat))
  go_ret
  have := HOW.out
  rw [Nat.zero_add, List.nil_append] at this
  exact ⟨A', c', rfl, this, HB0.out.trans HG.out⟩
/-- What a call that appends to one own row does: no other block is written. -/
def Only (A : Option Addr) (n c : Nat) (w w' : World) : Prop := ∀ k, k < w.heap.size → (Value.slice A n c).ownBlock ≠ some k → w'.heap[k]? = w.heap[k]?
def From0 (A : Option Addr) (n c : Nat) (w : World) (A' : Option Addr) (n' c' : Nat) : Prop := ∀ k, (Value.slice A' n' c').ownBlock = some k → (Value.slice A n c).ownBlock = some k ∨ w.heap.size ≤ k
end Go.Proofs.Ytedbngnkkfpbeaa


namespace Go.Proofs.Ytedbngnkkfpbeaa
open Go.RowKit
set_option linter.unusedVariables false
/-- Arcs gathered from a list of numbers with their places. -/
def gath (f : Nat → Int → List A4) : Nat → List Int → List A4
  | _, [] => []
  | k, x :: xs => f k x ++ gath f (k + 1) xs
theorem gath_append (f : Nat → Int → List A4) : ∀ (xs ys : List Int) (k : Nat), gath f k (xs ++ ys) = gath f k xs ++ gath f (k + xs.length) ys
  | [], ys, k => by simp [gath]
  | x :: xs, ys, k => by
    rw [List.cons_append]
    show f k x ++ gath f (k + 1) (xs ++ ys) = (f k x ++ gath f (k + 1) xs) ++ gath f (k + (xs.length + 1)) ys
    rw [gath_append f xs ys (k + 1), List.append_assoc, show k + (xs.length + 1) = k + 1 + xs.length by omega]
theorem gath_succ (f : Nat → Int → List A4) {xs : List Int} {k : Nat} {x : Int} (h : xs[k]? = some x) : gath f 0 (xs.take (k + 1)) = gath f 0 (xs.take k) ++ f k x := by
  obtain ⟨hk, rfl⟩ := List.getElem?_eq_some_iff.1 h
  rw [List.take_succ_eq_append_getElem hk, gath_append]
  simp [gath, List.length_take, Nat.min_eq_left (Nat.le_of_lt hk)]
def sAr (k : Nat) (x : Int) : List A4 := if 0 ≤ x then [(0, (k : Int) + 1, -1, x)] else []
def eAr (k : Nat) (x : Int) : List A4 := if 0 ≤ x then [((k : Int) + 1, 0, -1, x)] else []
theorem sAr_pos {k : Nat} {x : Int} (h : 0 ≤ x) : sAr k x = [(0, (k : Int) + 1, -1, x)] := if_pos h
theorem sAr_neg {k : Nat} {x : Int} (h : ¬ 0 ≤ x) : sAr k x = [] := if_neg h
theorem eAr_pos {k : Nat} {x : Int} (h : 0 ≤ x) : eAr k x = [((k : Int) + 1, 0, -1, x)] := if_pos h
theorem eAr_neg {k : Nat} {x : Int} (h : ¬ 0 ≤ x) : eAr k x = [] := if_neg h
theorem gath_len {f : Nat → Int → List A4} (hf : ∀ k x, (f k x).length ≤ 1) : ∀ (xs : List Int) (k : Nat), (gath f k xs).length ≤ xs.length
  | [], _ => Nat.le_refl _
  | x :: xs, k => by
    show (f k x ++ gath f (k + 1) xs).length ≤ xs.length + 1
    rw [List.length_append]; have := hf k x; have := gath_len hf xs (k + 1); omega
theorem sAr_len (k : Nat) (x : Int) : (sAr k x).length ≤ 1 := by unfold sAr; split <;> simp
theorem eAr_len (k : Nat) (x : Int) : (eAr k x).length ≤ 1 := by unfold eAr; split <;> simp
/-- The arcs after k starts have been read, and after k ends. -/
def rp1 (L : List A4) (P : List Int) (k : Nat) : List A4 := L.map (mvA 1) ++ gath sAr 0 (P.take k)
def rp2 (L : List A4) (P E : List Int) (k : Nat) : List A4 := rp1 L P P.length ++ gath eAr 0 (E.take k)
def rpA (L : List A4) (P E : List Int) : List A4 := rp2 L P E E.length
def rpS (n : Nat) : List Int := 0 :: List.replicate n (-1)
theorem rp1_len (L : List A4) (P : List Int) (k : Nat) : (rp1 L P k).length ≤ L.length + P.length := by
  have := gath_len sAr_len (P.take k) 0; have e : (P.take k).length ≤ P.length := by simp; omega
  unfold rp1; rw [List.length_append, List.length_map]; omega
theorem rp2_len (L : List A4) (P E : List Int) (k : Nat) : (rp2 L P E k).length ≤ L.length + P.length + E.length := by
  have := gath_len eAr_len (E.take k) 0; have e : (E.take k).length ≤ E.length := by simp; omega
  have := rp1_len L P P.length
  unfold rp2; rw [List.length_append]; omega
theorem rpA_len {L : List A4} {P E : List Int} : (rpA L P E).length ≤ L.length + P.length + E.length := rp2_len L P E _
theorem rpS_len (n : Nat) : (rpS n).length = n + 1 := by simp [rpS]
theorem rp1_step {L : List A4} {P : List Int} {k : Nat} {x : Int} (h : P[k]? = some x) : rp1 L P (k + 1) = rp1 L P k ++ sAr k x := by
  unfold rp1; rw [gath_succ _ h, List.append_assoc]
theorem rp2_step {L : List A4} {P E : List Int} {k : Nat} {x : Int} (h : E[k]? = some x) : rp2 L P E (k + 1) = rp2 L P E k ++ eAr k x := by
  unfold rp2; rw [gath_succ _ h, List.append_assoc]
theorem rp1_zero (L : List A4) (P : List Int) : rp1 L P 0 = L.map (mvA 1) := by simp [rp1, gath]
theorem rp2_zero (L : List A4) (P E : List Int) : rp2 L P E 0 = rp1 L P P.length := by simp [rp2, gath]
/-- Whether RepeatOf gives a machine. -/
def rpOk (S T : Int) (L : List A4) (P E : List Int) : Bool := vmB S T L P E && vmB (S + 1) T (rpA L P E) (rpS S.toNat) (rpS S.toNat)
def ckA (ok : Bool) (x : Option Addr) : Option Addr := if ok then x else none
def ckN (ok : Bool) (x : Nat) : Nat := if ok then x else 0
theorem ckV_agg (ok : Bool) (S T : Int) (A2 : Option Addr) (n2 c2 : Nat) (A3 : Option Addr) (n3 c3 : Nat) (A4 : Option Addr) (n4 c4 : Nat) :
    ckV ok (.agg #[.int .i64 S, .int .i64 T, .slice A2 n2 c2, .slice A3 n3 c3, .slice A4 n4 c4]) = .agg #[.int .i64 (ckI ok S), .int .i64 (ckI ok T), .slice (ckA ok A2) (ckN ok n2) (ckN ok c2), .slice (ckA ok A3) (ckN ok n3) (ckN ok c3), .slice (ckA ok A4) (ckN ok n4) (ckN ok c4)] := by
  cases ok <;> rfl
theorem own_row {w : World} {g base n sz : Nat} {t : TypeId} {vs : List Value} (h : Row w g t vs) (hb : base ≤ g) (hn : vs.length = n * sz) (hm : n ≤ maxLen) : w.ownsRow base t sz (.slice (some ⟨g, 0, none⟩) n n) n vs :=
  ⟨by omega, .inr ⟨g, n, vs.toArray, rfl, hb, h, Nat.le_refl _, hm, by simp [hn], by rw [List.toList_toArray]; exact List.take_of_length_le (by omega)⟩⟩
end Go.Proofs.Ytedbngnkkfpbeaa


namespace Go.Proofs.Ytedbngnkkfpbeaa
open Go.RowKit
set_option linter.unusedVariables false
/-- What a step keeps: all blocks that there were; rows of headers. -/
theorem Lo.size {lo g : Nat} {x y : World} (h : Lo lo g x y) : x.heap.size ≤ y.heap.size := h.2.2.2.1
def Up (x y : World) : Prop := x.heap.size ≤ y.heap.size ∧ ∀ k, k < x.heap.size → y.heap[k]? = x.heap[k]?
def Kp3 (x y : World) : Prop := ∀ g vs, Row x g 26 vs → Row y g 26 vs
theorem Up.kp3 {x y : World} (h : Up x y) : Kp3 x y := fun g vs hr => (h.2 g hr.lt).trans hr
theorem Up.of {x y : World} (h : Below x.heap.size x y) : Up x y := ⟨h.size, fun k hk => h.block k hk⟩
theorem kp_use {x y : World} {g : Nat} {vs : List Value} (h : Kp3 x y) (hr : Row x g 26 vs) : Row y g 26 vs := h g vs hr
theorem rowNewE {w : World} {t : TypeId} {vs : List Value} {g : Nat} (h : w.heap.size = g) : Row (w.alloc (.cells vs.toArray t)) g t vs := by subst h; exact Row.new w t vs
theorem row_low {x y : World} {g B : Nat} {t : TypeId} {vs : List Value} (hb : Below B x y) (hg : g < B) (hr : Row x g t vs) : Row y g t vs := (hb.block g hg).trans hr
def OwX (w : World) (lo : Nat) (e : TypeId) (sz : Nat) (v : Value) (n : Nat) (xs : List Value) : Prop := w.ownsRow lo e sz v n xs
theorem OwX.up {x y : World} {lo : Nat} {e : TypeId} {sz : Nat} {v : Value} {n : Nat} {xs : List Value} (hu : Up x y) (h : OwX x lo e sz v n xs) : OwX y lo e sz v n xs := own_move h (fun k hk => hu.2 k (World.ownsRow.lt h k hk).2)
theorem OwX.upd {x y : World} {lo : Nat} {e : TypeId} {sz : Nat} {v : Value} {n : Nat} {xs : List Value} (h : OwX x lo e sz v n xs) (hu : Up x y) : OwX y lo e sz v n xs := OwX.up hu h
theorem OwX.alloc {x : World} {lo : Nat} {e : TypeId} {sz : Nat} {v : Value} {n : Nat} {xs : List Value} (h : OwX x lo e sz v n xs) (ob : Obj) : OwX (x.alloc ob) lo e sz v n xs := World.ownsRow.alloc h ob
theorem OwX.drew {x : World} {lo : Nat} {e : TypeId} {sz : Nat} {v : Value} {n : Nat} {xs : List Value} (h : OwX x lo e sz v n xs) : OwX x.drew lo e sz v n xs := own_move h (fun _ _ => rfl)
theorem OwX.lt {x : World} {lo : Nat} {e : TypeId} {sz : Nat} {v : Value} {n : Nat} {xs : List Value} (h : OwX x lo e sz v n xs) : ∀ k, v.ownBlock = some k → lo ≤ k ∧ k < x.heap.size := World.ownsRow.lt h
def Apt (u v : Value) : Prop := ∀ k, u.ownBlock = some k → v.ownBlock ≠ some k
theorem OwX.apt {x : World} {lo : Nat} {e : TypeId} {sz : Nat} {u v : Value} {n : Nat} {xs : List Value} (h : OwX x lo e sz u n xs) (hv : ∀ k, v.ownBlock = some k → x.heap.size ≤ k) : Apt u v := fun k hk hv' => by
  have := h.lt k hk; have := hv k hv'; omega
theorem Row.ty {w : World} {g : Nat} {t t' : TypeId} {vs : List Value} {cs : Array Value} {fr : Nat × Nat} (h : Row w g t vs) (h' : w.heap[g]? = some (.cells cs t' fr)) : t = t' := by
  unfold Row at h
  rw [h'] at h
  injection h with h
  injection h with _ h _
  exact h.symm
theorem only_kp3 {x y : World} {lo n c m : Nat} {A : Option Addr} {xs : List Value} (ho : x.ownsRow lo 89 4 (.slice A n c) m xs) (h : Only A n c x y) : Kp3 x y := fun g vs hr => by
  refine (h g hr.lt ?_).trans hr
  intro e
  obtain ⟨_, h2⟩ := ho
  rcases h2 with ⟨e2, _⟩ | ⟨q, cap, cur, e2, _, hg, _⟩
  · rw [e2] at e; simp [Value.ownBlock] at e
  · rw [e2] at e
    simp [Value.ownBlock] at e
    subst e
    exact absurd (hr.ty hg) (by decide)
/-- Whether EitherOf gives a machine; its lists. -/
def eiL (S : Int) (L L' : List A4) : List A4 := L ++ L'.map (mvA S)
def eiOk (S T : Int) (L : List A4) (P E : List Int) (S' T' : Int) (L' : List A4) (P' E' : List Int) : Bool := vmB S T L P E && vmB S' T' L' P' E' && decide (T = T') && vmB (S + S') T (eiL S L L') (P ++ P') (E ++ E')
theorem eiL_len (S : Int) (L L' : List A4) : (eiL S L L').length = L.length + L'.length := by simp [eiL]
theorem catL_two (p q : Part) : catL [p, q] = p.xs ++ q.xs := by simp [catL]
end Go.Proofs.Ytedbngnkkfpbeaa


namespace Go.Proofs.Ytedbngnkkfpbeaa
open Go.RowKit
set_option linter.unusedVariables false
/-- The arcs between an end and a start; from one end to all starts. -/
def jAr (S : Int) (i : Nat) (e : Int) (k : Nat) (x : Int) : List A4 := if 0 ≤ e ∧ 0 ≤ x then [((i : Int), S + (k : Int), -1, e + x)] else []
def jRw (S : Int) (P' : List Int) (i : Nat) (e : Int) : List A4 := gath (jAr S i e) 0 P'
def jo1 (S : Int) (L L' : List A4) (P' E : List Int) (i : Nat) : List A4 := eiL S L L' ++ gath (jRw S P') 0 (E.take i)
def jo2 (S : Int) (L L' : List A4) (P' E : List Int) (i : Nat) (e : Int) (k : Nat) : List A4 := jo1 S L L' P' E i ++ gath (jAr S i e) 0 (P'.take k)
def joA (S : Int) (L L' : List A4) (P' E : List Int) : List A4 := jo1 S L L' P' E E.length
def joS (P P' : List Int) : List Int := P ++ List.replicate P'.length (-1)
def joE (P E' : List Int) : List Int := List.replicate P.length (-1) ++ E'
def joOk (S T : Int) (L : List A4) (P E : List Int) (S' T' : Int) (L' : List A4) (P' E' : List Int) : Bool := vmB S T L P E && vmB S' T' L' P' E' && decide (T = T') && vmB (S + S') T (joA S L L' P' E) (joS P P') (joE P E')
theorem jAr_len (S : Int) (i : Nat) (e : Int) (k : Nat) (x : Int) : (jAr S i e k x).length ≤ 1 := by unfold jAr; split <;> simp
theorem jAr_pos {S : Int} {i : Nat} {e : Int} {k : Nat} {x : Int} (h : 0 ≤ e) (h' : 0 ≤ x) : jAr S i e k x = [((i : Int), S + (k : Int), -1, e + x)] := if_pos ⟨h, h'⟩
theorem jAr_no1 {S : Int} {i : Nat} {e : Int} {k : Nat} {x : Int} (h : ¬ 0 ≤ e) : jAr S i e k x = [] := if_neg (fun g => h g.1)
theorem jAr_no2 {S : Int} {i : Nat} {e : Int} {k : Nat} {x : Int} (h : ¬ 0 ≤ x) : jAr S i e k x = [] := if_neg (fun g => h g.2)
theorem jRw_len (S : Int) (P' : List Int) (i : Nat) (e : Int) : (jRw S P' i e).length ≤ P'.length := gath_len (jAr_len S i e) P' 0
theorem gath_lenM {f : Nat → Int → List A4} {m : Nat} (hf : ∀ k x, (f k x).length ≤ m) : ∀ (xs : List Int) (k : Nat), (gath f k xs).length ≤ xs.length * m
  | [], _ => by simp [gath]
  | x :: xs, k => by
    show (f k x ++ gath f (k + 1) xs).length ≤ (xs.length + 1) * m
    rw [List.length_append, Nat.add_mul]; have := hf k x; have := gath_lenM hf xs (k + 1); omega
theorem jo1_len {S : Int} {L L' : List A4} {P' E : List Int} (i : Nat) (hE : E.length ≤ 16) (hP : P'.length ≤ 16) : (jo1 S L L' P' E i).length ≤ L.length + L'.length + 256 := by
  have h1 := gath_lenM (jRw_len S P') (E.take i) 0
  have h2 : (E.take i).length * P'.length ≤ 16 * 16 := Nat.mul_le_mul (by simp; omega) hP
  have h3 := eiL_len S L L'
  unfold jo1; rw [List.length_append]; omega
theorem jo2_len {S : Int} {L L' : List A4} {P' E : List Int} (i : Nat) (e : Int) (k : Nat) (hE : E.length ≤ 16) (hP : P'.length ≤ 16) : (jo2 S L L' P' E i e k).length ≤ L.length + L'.length + 272 := by
  have h1 := gath_len (jAr_len S i e) (P'.take k) 0
  have h2 : (P'.take k).length ≤ P'.length := by simp; omega
  have h3 := jo1_len (S := S) (L := L) (L' := L') i hE hP
  unfold jo2; rw [List.length_append]; omega
theorem jo1_zero (S : Int) (L L' : List A4) (P' E : List Int) : jo1 S L L' P' E 0 = eiL S L L' := by simp [jo1, gath]
theorem jo2_zero (S : Int) (L L' : List A4) (P' E : List Int) (i : Nat) (e : Int) : jo2 S L L' P' E i e 0 = jo1 S L L' P' E i := by simp [jo2, gath]
theorem jo1_step {S : Int} {L L' : List A4} {P' E : List Int} {i : Nat} {e : Int} (h : E[i]? = some e) : jo1 S L L' P' E (i + 1) = jo2 S L L' P' E i e P'.length := by
  unfold jo1 jo2; rw [gath_succ _ h, List.take_length, ← List.append_assoc]; rfl
theorem jo2_step {S : Int} {L L' : List A4} {P' E : List Int} {i : Nat} {e : Int} {k : Nat} {x : Int} (h : P'[k]? = some x) : jo2 S L L' P' E i e (k + 1) = jo2 S L L' P' E i e k ++ jAr S i e k x := by
  unfold jo2; rw [gath_succ _ h, ← List.append_assoc]
theorem joS_len (P P' : List Int) : (joS P P').length = P.length + P'.length := by simp [joS]
theorem joE_len (P E' : List Int) : (joE P E').length = P.length + E'.length := by simp [joE]
theorem row_slR {w : World} {g k : Nat} {x : Int} {t : TypeId} (h : Row w g t (iv (List.replicate k x))) : SlI w w.heap.size (some ⟨g, 0, none⟩) k (List.replicate k x) := by
  have := h.slI; rwa [List.length_replicate] at this
end Go.Proofs.Ytedbngnkkfpbeaa


namespace Go.Proofs.Ytedbngnkkfpbeaa
open Go.RowKit
set_option linter.unusedVariables false
/-- A word is read from a state to a state, at a cost. -/
inductive Rd (L : List A4) : List Int → Nat → Nat → Int → Prop
  | nil (i : Nat) : Rd L [] i i 0
  | emp {w : List Int} {i x k : Nat} {c c' : Int} : Em L i x c → Rd L w x k c' → Rd L w i k (c + c')
  | let_ {w : List Int} {l : Int} {i x k : Nat} {c c' : Int} : Lt L l i x c → Rd L w x k c' → Rd L (l :: w) i k (c + c')
theorem Rd.cast {L : List A4} {w : List Int} {i k : Nat} {c c' : Int} (h : Rd L w i k c) (e : c = c') : Rd L w i k c' := e ▸ h
theorem Rd.way {L : List A4} {w : List Int} {i x k : Nat} {c c' : Int} (h : Wy (Em L) i x c) (h' : Rd L w x k c') : Rd L w i k (c + c') := by
  induction h with
  | refl i => exact h'.cast (by omega)
  | cons hr _ ih => exact (Rd.emp hr (ih h')).cast (by omega)
theorem Rd.trans {L : List A4} {w u : List Int} {i x k : Nat} {c c' : Int} (h : Rd L w i x c) (h' : Rd L u x k c') : Rd L (w ++ u) i k (c + c') := by
  induction h with
  | nil i => exact h'.cast (by omega)
  | emp hr _ ih => exact (Rd.emp hr (ih h')).cast (by omega)
  | let_ hr _ ih => exact (Rd.let_ hr (ih h')).cast (by omega)
theorem Rd.nonneg {n : Nat} {L : List A4} (hL : okM n L) {w : List Int} {i k : Nat} {c : Int} (h : Rd L w i k c) : 0 ≤ c := by
  induction h with
  | nil i => omega
  | emp hr _ ih => have := (hL.em hr).2.2.1; omega
  | let_ hr _ ih => have := (hL.lt hr).2.2.1; omega
theorem Rd.lt {n : Nat} {L : List A4} (hL : okM n L) {w : List Int} {i k : Nat} {c : Int} (h : Rd L w i k c) (hi : i < n) : k < n := by
  induction h with
  | nil i => exact hi
  | emp hr _ ih => exact ih (hL.em hr).2.1
  | let_ hr _ ih => exact ih (hL.lt hr).2.1
theorem Rd.nil_way {L : List A4} {w : List Int} {i k : Nat} {c : Int} (h : Rd L w i k c) : w = [] → Wy (Em L) i k c := by
  induction h with
  | nil i => exact fun _ => .refl i
  | emp hr _ ih => exact fun e => .cons hr (ih e)
  | let_ hr _ ih => intro e; cases e
/-- A word that ends with a letter: the letter's arc, and empty ones behind it. -/
theorem Rd.last {n : Nat} {L : List A4} (hL : okM n L) {w : List Int} {i k : Nat} {c : Int} (h : Rd L w i k c) (hi : i < n) : ∀ u l, w = u ++ [l] → ∃ p q c1 c2 c3, p < n ∧ q < n ∧ Rd L u i p c1 ∧ Lt L l p q c2 ∧ Wy (Em L) q k c3 ∧ c = c1 + c2 + c3 := by
  induction h with
  | nil i => intro u l e; cases u <;> cases e
  | @emp w i x k c c' hr _ ih =>
    intro u l e
    obtain ⟨p, q, c1, c2, c3, hp, hq, h1, h2, h3, e2⟩ := ih (hL.em hr).2.1 u l e
    exact ⟨p, q, c + c1, c2, c3, hp, hq, .emp hr h1, h2, h3, by omega⟩
  | @let_ w l' i x k c c' hr hd ih =>
    intro u l e
    cases u with
    | nil =>
      injection e with e1 e2
      subst e1
      exact ⟨i, x, 0, c, c', hi, (hL.lt hr).2.1, .nil i, hr, hd.nil_way e2, by omega⟩
    | cons a u =>
      injection e with e1 e2
      subst e1
      obtain ⟨p, q, c1, c2, c3, hp, hq, h1, h2, h3, e3⟩ := ih (hL.lt hr).2.1 u l e2
      exact ⟨p, q, c + c1, c2, c3, hp, hq, .let_ hr h1, h2, h3, by omega⟩
/-- What a word costs. -/
def Wc (L : List A4) (P E : List Int) (w : List Int) (c : Int) : Prop := ∃ i k c0 c1 c2, Stt P i c0 ∧ Rd L w i k c1 ∧ Stt E k c2 ∧ c = c0 + c1 + c2
theorem Stt.lt {P : List Int} {i : Nat} {c : Int} (h : Stt P i c) : i < P.length := (List.getElem?_eq_some_iff.1 h.1).1
theorem bw_rd {L : List A4} {P : List Int} (hL : okM P.length L) : ∀ (rw : List Int) (k : Nat) (c : Int), k < P.length → (Cl P.length L (Bw P.length L P rw) k c ↔ ∃ i c0 c1, Stt P i c0 ∧ Rd L rw.reverse i k c1 ∧ c = c0 + c1)
  | [], k, c, hk => by
    constructor
    · rintro ⟨i, c1, c2, hi, h1, h2, e⟩
      exact ⟨i, c1, c2, h1, by simpa using Rd.way h2 (.nil k), e⟩
    · rintro ⟨i, c0, c1, h1, h2, e⟩
      exact ⟨i, c0, c1, h1.lt, h1, h2.nil_way rfl, e⟩
  | l :: rw, k, c, hk => by
    constructor
    · rintro ⟨q, c1, c2, hq, ⟨p, d1, d2, hp, h1, h2, e1⟩, h3, e⟩
      obtain ⟨i, a0, a1, s1, s2, e2⟩ := (bw_rd hL rw p d1 hp).1 h1
      refine ⟨i, a0, a1 + (d2 + (c2 + 0)), s1, ?_, by omega⟩
      rw [List.reverse_cons]
      exact s2.trans (.let_ h2 (Rd.way h3 (.nil k)))
    · rintro ⟨i, c0, c1, h1, h2, e⟩
      rw [List.reverse_cons] at h2
      obtain ⟨p, q, d1, d2, d3, hp, hq, g1, g2, g3, e2⟩ := h2.last hL h1.lt _ _ rfl
      exact ⟨q, c0 + d1 + d2, d3, hq, ⟨p, c0 + d1, d2, hp, (bw_rd hL rw p _ hp).2 ⟨i, c0, d1, h1, g1, rfl⟩, g2, rfl⟩, g3, by omega⟩
theorem tw_wc {L : List A4} {P E : List Int} (hL : okM P.length L) (hE : E.length = P.length) (w : List Int) (c : Int) : Tw P.length L P E w.reverse c ↔ Wc L P E w c := by
  constructor
  · rintro ⟨k, c1, c2, hk, h1, h2, e⟩
    obtain ⟨i, a0, a1, s1, s2, e2⟩ := (bw_rd hL _ k c1 hk).1 h1
    rw [List.reverse_reverse] at s2
    exact ⟨i, k, a0, a1, c2, s1, s2, h2, by omega⟩
  · rintro ⟨i, k, c0, c1, c2, h1, h2, h3, e⟩
    have hk : k < P.length := by have := h3.lt; omega
    refine ⟨k, c0 + c1, c2, hk, (bw_rd hL _ k _ hk).2 ⟨i, c0, c1, h1, ?_, rfl⟩, h3, by omega⟩
    rw [List.reverse_reverse]; exact h2
theorem Wc.nonneg {n : Nat} {L : List A4} {P E : List Int} (hL : okM n L) {w : List Int} {c : Int} (h : Wc L P E w c) : 0 ≤ c := by
  obtain ⟨i, k, c0, c1, c2, h1, h2, h3, e⟩ := h
  have := h1.2; have := h2.nonneg hL; have := h3.2
  omega
/-! Backwards -/
theorem Rd.back {L : List A4} {w : List Int} {i k : Nat} {c : Int} (h : Rd L w i k c) : Rd (L.map bkA) w.reverse k i c := by
  induction h with
  | nil i => exact .nil i
  | @emp w i x k c c' hr _ ih =>
    have h2 : Rd (L.map bkA) [] x i c := (Rd.emp (em_bkA.2 hr) (.nil i)).cast (by omega)
    have := ih.trans h2
    rw [List.append_nil] at this
    exact this.cast (by omega)
  | @let_ w l i x k c c' hr _ ih =>
    have h2 : Rd (L.map bkA) [l] x i c := (Rd.let_ (lt_bkA.2 hr) (.nil i)).cast (by omega)
    rw [List.reverse_cons]
    exact (ih.trans h2).cast (by omega)
theorem bkA_bkA (L : List A4) : (L.map bkA).map bkA = L := by rw [List.map_map]; exact (List.map_congr_left (fun a _ => rfl)).trans (List.map_id L)
theorem wc_back {L : List A4} {P E : List Int} (w : List Int) (c : Int) : Wc (L.map bkA) E P w.reverse c ↔ Wc L P E w c := by
  constructor
  · rintro ⟨i, k, c0, c1, c2, h1, h2, h3, e⟩
    have := h2.back
    rw [bkA_bkA, List.reverse_reverse] at this
    exact ⟨k, i, c2, c1, c0, h3, this, h1, by omega⟩
  · rintro ⟨i, k, c0, c1, c2, h1, h2, h3, e⟩
    exact ⟨k, i, c2, c1, c0, h3, h2.back, h1, by omega⟩
end Go.Proofs.Ytedbngnkkfpbeaa
