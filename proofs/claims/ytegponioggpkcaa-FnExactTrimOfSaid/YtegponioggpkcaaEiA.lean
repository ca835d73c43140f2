/- EitherOf of the program: what a step keeps, and what is told. -/
import Derived.Test.YtegponioggpkcaaArr
import Derived.Test.YtegponioggpkcaaRt
import Derived.Deep.RegionHeld3
namespace Go.Proofs.Ytegponioggpkcaa
open Go.RowKit
set_option linter.unusedVariables false
/-- What a step keeps: all blocks that there were; rows of headers. -/
theorem Lo.size {lo g : Nat} {x y : World} (h : Lo lo g x y) : x.heap.size ≤ y.heap.size := h.2.2.2.1
def Up (x y : World) : Prop := x.heap.size ≤ y.heap.size ∧ ∀ k, k < x.heap.size → y.heap[k]? = x.heap[k]?
def Kp3 (x y : World) : Prop := ∀ g vs, Row x g 26 vs → Row y g 26 vs
theorem Up.kp3 {x y : World} (h : Up x y) : Kp3 x y := fun g vs hr => (h.2 g hr.lt).trans hr
theorem Up.of {x y : World} (h : Below x.heap.size x y) : Up x y := ⟨h.size, fun k hk => h.block k hk⟩
theorem kp_use {x y : World} {g : Nat} {vs : List Value} (h : Kp3 x y) (hr : Row x g 26 vs) : Row y g 26 vs := h g vs hr
theorem rowNewE {w : World} {t : TypeId} {vs : List Value} {g : Nat} (h : w.heap.size = g) : Row (w.alloc (.cells vs.toArray t)) g t vs := by subst h; exact Row.new w t vs
theorem row_low {x y : World} {g B : Nat} {t : TypeId} {vs : List Value} (hb : Below B x y) (hg : g < B) (hr : Row x g t vs) : Row y g t vs := (hb.block g hg).trans hr
def OwX (w : World) (lo : Nat) (e : TypeId) (sz : Nat) (v : Value) (n : Nat) (xs : List Value) : Prop := w.ownsRow lo e sz v n xs
theorem OwX.up {x y : World} {lo : Nat} {e : TypeId} {sz : Nat} {v : Value} {n : Nat} {xs : List Value} (hu : Up x y) (h : OwX x lo e sz v n xs) : OwX y lo e sz v n xs := own_move h (fun k hk => hu.2 k (World.ownsRow.lt h k hk).2)
theorem OwX.upd {x y : World} {lo : Nat} {e : TypeId} {sz : Nat} {v : Value} {n : Nat} {xs : List Value} (h : OwX x lo e sz v n xs) (hu : Up x y) : OwX y lo e sz v n xs := OwX.up hu h
theorem OwX.alloc {x : World} {lo : Nat} {e : TypeId} {sz : Nat} {v : Value} {n : Nat} {xs : List Value} (h : OwX x lo e sz v n xs) (ob : Obj) : OwX (x.alloc ob) lo e sz v n xs := World.ownsRow.alloc h ob
theorem OwX.drew {x : World} {lo : Nat} {e : TypeId} {sz : Nat} {v : Value} {n : Nat} {xs : List Value} (h : OwX x lo e sz v n xs) : OwX x.drew lo e sz v n xs := own_move h (fun _ _ => rfl)
theorem OwX.lt {x : World} {lo : Nat} {e : TypeId} {sz : Nat} {v : Value} {n : Nat} {xs : List Value} (h : OwX x lo e sz v n xs) : ∀ k, v.ownBlock = some k → lo ≤ k ∧ k < x.heap.size := World.ownsRow.lt h
def Apt (u v : Value) : Prop := ∀ k, u.ownBlock = some k → v.ownBlock ≠ some k
theorem OwX.apt {x : World} {lo : Nat} {e : TypeId} {sz : Nat} {u v : Value} {n : Nat} {xs : List Value} (h : OwX x lo e sz u n xs) (hv : ∀ k, v.ownBlock = some k → x.heap.size ≤ k) : Apt u v := fun k hk hv' => by
  have := h.lt k hk; have := hv k hv'; omega
theorem Row.ty {w : World} {g : Nat} {t t' : TypeId} {vs : List Value} {cs : Array Value} {fr : Nat × Nat} (h : Row w g t vs) (h' : w.heap[g]? = some (.cells cs t' fr)) : t = t' := by
  unfold Row at h
  rw [h'] at h
  injection h with h
  injection h with _ h _
  exact h.symm
theorem only_kp3 {x y : World} {lo n c m : Nat} {A : Option Addr} {xs : List Value} (ho : x.ownsRow lo 62 4 (.slice A n c) m xs) (h : Only A n c x y) : Kp3 x y := fun g vs hr => by
  refine (h g hr.lt ?_).trans hr
  intro e
  obtain ⟨_, h2⟩ := ho
  rcases h2 with ⟨e2, _⟩ | ⟨q, cap, cur, e2, _, hg, _⟩
  · rw [e2] at e; simp [Value.ownBlock] at e
  · rw [e2] at e
    simp [Value.ownBlock] at e
    subst e
    exact absurd (hr.ty hg) (by decide)
/-- Whether EitherOf gives a machine; its lists. -/
def eiL (S : Int) (L L' : List A4) : List A4 := L ++ L'.map (mvA S)
def eiOk (S T : Int) (L : List A4) (P E : List Int) (S' T' : Int) (L' : List A4) (P' E' : List Int) : Bool := vmB S T L P E && vmB S' T' L' P' E' && decide (T = T') && vmB (S + S') T (eiL S L L') (P ++ P') (E ++ E')
theorem eiL_len (S : Int) (L L' : List A4) : (eiL S L L').length = L.length + L'.length := by simp [eiL]
theorem catL_two (p q : Part) : catL [p, q] = p.xs ++ q.xs := by simp [catL]
end Go.Proofs.Ytegponioggpkcaa
