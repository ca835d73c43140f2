/- Two lists that are handed out are marked and held, one after the other. -/
import Derived.Test.YtkgifbiaaaemnaaStO
import Derived.Test.YtkgifbiaaaemnaaMkO
namespace Go.Proofs.Ytkgifbiaaaemnaa
open Go.RowKit
theorem markOwn2 (base : Nat) (v : Value) (r : List Int) (k : Int) (w : World) (h : RowI w base 2 v r) (hb : base ≤ w.heap.size) (hn : r.length ≤ 4294967296) (hk0 : 0 ≤ k) (hk1 : k ≤ 4294967296) :
    Calls Try.prog 30 #[v, .int .i64 k] w fun e w' => e = .returned (.int .i64 (k + r.length)) ∧ MarkedI w' v k r.length ∧ Below base w w' ∧ ∀ j, j < w.heap.size → v.ownBlock ≠ some j → w'.heap[j]? = w.heap[j]? := by
  rcases h.rowN with ⟨rfl, h0⟩ | ⟨g, cap, rfl, hbg, hr, hc⟩
  · refine (markInt64S_nil k w).mono ?_
    rintro e w' ⟨rfl, rfl⟩
    exact ⟨ret_int (by omega), .inl ⟨rfl, h0⟩, Below.refl _ _, fun _ _ _ => rfl⟩
  · refine (markInt64S_any g r.length cap cap k w hr hc hn hk0 hk1).mono ?_
    rintro e w' ⟨rfl, hq, hbut⟩
    exact ⟨rfl, .inr ⟨g, cap, rfl, Nat.lt_of_lt_of_le hr.lt hbut.2.2.2.1, hq⟩, hbut.below hbg hb, fun j hj hne => hbut.2.2.2.2 j hj (fun e => hne (by subst e; rfl))⟩
theorem MarkedI.move {w w' : World} {v u : Value} {k : Int} {n : Nat} (h : MarkedI w v k n) (hs : w.heap.size ≤ w'.heap.size) (ho : ∀ j, j < w.heap.size → u.ownBlock ≠ some j → w'.heap[j]? = w.heap[j]?) (hd : ∀ j, v.ownBlock = some j → u.ownBlock ≠ some j) : MarkedI w' v k n := by
  rcases h with h | ⟨g, c, rfl, hg, hc⟩
  · exact .inl h
  · refine .inr ⟨g, c, rfl, by omega, fun q hq => ?_⟩
    have e := ho g hg (hd g rfl)
    have := hc q hq
    unfold World.cell? at this ⊢
    rw [show (⟨g, q, none⟩ : Addr).block = g from rfl] at *
    rw [e]; exact this
theorem RowI.moveO {w w' : World} {base : Nat} {t : TypeId} {v u : Value} {r : List Int} (h : RowI w base t v r) (ho : ∀ j, j < w.heap.size → u.ownBlock ≠ some j → w'.heap[j]? = w.heap[j]?) (hd : ∀ j, v.ownBlock = some j → u.ownBlock ≠ some j) : RowI w' base t v r := own_move h (fun j hj => ho j (h.lt j hj).2 (hd j hj))
end Go.Proofs.Ytkgifbiaaaemnaa
