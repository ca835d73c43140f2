/- DrawnWord of both programs. -/
import Derived.Test.YtkgifbiaaaemnaaDw
import Derived.Test.YtkgifbiaaaemnaaModelOw
import Derived.Test.YtkgifbiaaaemnaaStO
import Derived.Test.YtkgifbiaaaemnaaTab
import Derived.Deep.RegionHeld3
import Derived.Deep.RegionLaw
import Derived.Deep.DrawnRows
namespace Go.Proofs.Ytkgifbiaaaemnaa
open Go.RowKit
set_option linter.unusedVariables false
attribute [local go_sem ↓] Go.wp_at_zero Go.wp_at_succ
theorem infoI7 : (Try.prog.info? 2).map (fun i => (i.zero, i.size, i.bytes)) = some (some (.int .i64 0), 1, 8) := by kernel_rfl
def ckZ (ok : Bool) (x : Int) : Int := if ok then x else 0
def ckL {α : Type} (ok : Bool) (xs : List α) : List α := if ok then xs else []
/-- State and seed behind k letters. -/
def dwSt (P Q : List F32) (s z : Nat) : Nat → Nat × Nat
  | 0 => (pick P (shF (seedN z)).b, seedN z)
  | k + 1 => (pick (chk Q s (dwSt P Q s z k).1) (shF (seedN (seedN (dwSt P Q s z k).2))).b, seedN (seedN (dwSt P Q s z k).2))
def dwLe (P Q R : List F32) (s t z k : Nat) : Nat := pick (chk R t (dwSt P Q s z k).1) (shF (seedN (dwSt P Q s z k).2)).b
def dwW (P Q R : List F32) (s t z n : Nat) : List Int := (List.range n).map fun k => (dwLe P Q R s t z k : Int)
def dwH (P Q : List F32) (s z n : Nat) : List Int := (List.range n).map fun k => ((dwSt P Q s z k).1 : Int)
def dwOk (S T : Int) (P Q R : List F32) (z n : Int) : Bool := vdM S T P Q R && (inB z 0 4294967295 && inB n 0 12)
theorem dwW_len (P Q R : List F32) (s t z n : Nat) : (dwW P Q R s t z n).length = n := by simp [dwW]
theorem dwH_len (P Q : List F32) (s z n : Nat) : (dwH P Q s z n).length = n := by simp [dwH]
theorem dwW_succ (P Q R : List F32) (s t z n : Nat) : dwW P Q R s t z (n + 1) = dwW P Q R s t z n ++ [(dwLe P Q R s t z n : Int)] := by simp [dwW, List.range_succ]
theorem dwH_succ (P Q : List F32) (s z n : Nat) : dwH P Q s z (n + 1) = dwH P Q s z n ++ [((dwSt P Q s z n).1 : Int)] := by simp [dwH, List.range_succ]
theorem arB_true {xs : List F32} {r l : Nat} (h : arB xs r l = true) : xs.length = r * l ∧ ∀ i, i < r → rowB (chk xs l i) = true := by
  simp only [arB, Bool.and_eq_true, decide_eq_true_eq, List.all_eq_true, List.mem_range] at h; exact h
theorem vdM_true {S T : Int} {P Q R : List F32} (h : vdM S T P Q R = true) : ∃ s t : Nat, S = s ∧ T = t ∧ 1 ≤ s ∧ s ≤ 5 ∧ 1 ≤ t ∧ t ≤ 4 ∧ P.length = s ∧ rowB P = true ∧ Q.length = s * s ∧ (∀ i, i < s → rowB (chk Q s i) = true) ∧ R.length = s * t ∧ (∀ i, i < s → rowB (chk R t i) = true) := by
  simp only [vdM, Bool.and_eq_true] at h
  obtain ⟨h1, h2, h3, h4, h5⟩ := h
  have h1 := inB_true h1; have h2 := inB_true h2
  obtain ⟨s, rfl⟩ : ∃ s : Nat, S = (s : Int) := ⟨S.toNat, by omega⟩
  obtain ⟨t, rfl⟩ : ∃ t : Nat, T = (t : Int) := ⟨T.toNat, by omega⟩
  simp only [Int.toNat_natCast] at h3 h4 h5
  have a3 := arB_true h3; have a4 := arB_true h4; have a5 := arB_true h5
  have hp : P.length = s := by omega
  refine ⟨s, t, rfl, rfl, by omega, by omega, by omega, by omega, hp, ?_, a4.1, a4.2, a5.1, a5.2⟩
  have := a3.2 0 (by omega)
  rw [chk_one hp] at this; exact this
theorem rowB_NN {xs : List F32} (h : rowB xs = true) : ∀ x ∈ xs, NN x.b := by
  simp only [rowB, Bool.and_eq_true] at h; exact all_NN h.1
theorem dwSt_lt {P Q : List F32} {s : Nat} (hP : P.length = s) (hQ : Q.length = s * s) (h0 : 0 < s) (z : Nat) : ∀ k, (dwSt P Q s z k).1 < s ∧ (dwSt P Q s z k).2 < 4294967296
  | 0 => ⟨by have := pick_lt (xs := P) (shF (seedN z)).b (by omega); rw [hP] at this; exact this, seedN_lt z⟩
  | k + 1 => by
    have ih := dwSt_lt hP hQ h0 z k
    have hl := chk_len hQ ih.1
    refine ⟨?_, seedN_lt _⟩
    have := pick_lt (xs := chk Q s (dwSt P Q s z k).1) (shF (seedN (seedN (dwSt P Q s z k).2))).b (by omega)
    rw [hl] at this; exact this
/-- Two rows of the call's own, apart. -/
structure D2 (x0 w : World) (lo : Nat) (t : TypeId) (v1 v2 : Value) (n1 n2 : Nat) (X1 X2 : List Value) : Prop where
  bel : Below lo x0 w
  hl : lo ≤ x0.heap.size
  o1 : w.ownsRow lo t 1 v1 n1 X1
  o2 : w.ownsRow lo t 1 v2 n2 X2
  d : ∀ k, v1.ownBlock = some k → v2.ownBlock ≠ some k
section
variable {x0 w w' : World} {lo : Nat} {t : TypeId} {v1 v2 : Value} {n1 n2 : Nat} {X1 X2 : List Value}
theorem D2.size (h : D2 x0 w lo t v1 v2 n1 n2 X1 X2) : lo ≤ w.heap.size := Nat.le_trans h.hl h.bel.size
theorem D2.push1 (h : D2 x0 w lo t v1 v2 n1 n2 X1 X2) {g m c : Nat} {Y : List Value} (ho : w'.ownsRow lo t 1 (.slice (some ⟨g, 0, none⟩) m c) m Y) (hg : w.grownBy w' v1.ownBlock) (hat : v1.ownBlock = some g ∨ w.heap.size ≤ g) : D2 x0 w' lo t (.slice (some ⟨g, 0, none⟩) m c) v2 m n2 Y X2 := by
  refine ⟨h.bel.grown hg h.size (fun k hk => (h.o1.lt k hk).1), h.hl, ho, own_move h.o2 (fun k hk => hg.block k (h.o2.lt k hk).2 (fun e => h.d k e.symm hk)), fun k hk hk2 => ?_⟩
  simp [Value.ownBlock] at hk
  subst hk
  rcases hat with e | e
  · exact h.d _ e hk2
  · have := (h.o2.lt _ hk2).2; omega
theorem D2.push2 (h : D2 x0 w lo t v1 v2 n1 n2 X1 X2) {g m c : Nat} {Y : List Value} (ho : w'.ownsRow lo t 1 (.slice (some ⟨g, 0, none⟩) m c) m Y) (hg : w.grownBy w' v2.ownBlock) (hat : v2.ownBlock = some g ∨ w.heap.size ≤ g) : D2 x0 w' lo t v1 (.slice (some ⟨g, 0, none⟩) m c) n1 m X1 Y := by
  refine ⟨h.bel.grown hg h.size (fun k hk => (h.o2.lt k hk).1), h.hl, own_move h.o1 (fun k hk => hg.block k (h.o1.lt k hk).2 (fun e => h.d k hk e.symm)), ho, fun k hk hk2 => ?_⟩
  simp [Value.ownBlock] at hk2
  subst hk2
  rcases hat with e | e
  · exact h.d _ hk e
  · have := (h.o1.lt _ hk).2; omega
theorem D2.far (h : D2 x0 w lo t v1 v2 n1 n2 X1 X2) (p : Addr) (hp : p.block < lo) (u : Value) : w.heap.size = (w.setCell p u).heap.size ∧ (w.setCell p u).ownsRow lo t 1 v1 n1 X1 ∧ (w.setCell p u).ownsRow lo t 1 v2 n2 X2 :=
  ⟨by simp, own_move h.o1 (fun k hk => Below.heap_setCell _ _ _ _ (by have := (h.o1.lt k hk).1; omega)), own_move h.o2 (fun k hk => Below.heap_setCell _ _ _ _ (by have := (h.o2.lt k hk).1; omega))⟩
end
/-- Two rows of the call's own, apart, and the cell of the seed below them. -/
structure DS (x0 w : World) (lb gz lo : Nat) (t : TypeId) (z v1 v2 : Value) (n1 n2 : Nat) (X1 X2 : List Value) : Prop where
  bel : Below lb x0 w
  hz : lb ≤ gz
  hg : gz < lo
  hl : lo ≤ x0.heap.size
  rz : Row w gz t [z]
  o1 : w.ownsRow lo t 1 v1 n1 X1
  o2 : w.ownsRow lo t 1 v2 n2 X2
  d : ∀ k, v1.ownBlock = some k → v2.ownBlock ≠ some k
section
variable {x0 w w' : World} {lb gz lo : Nat} {t : TypeId} {z v1 v2 : Value} {n1 n2 : Nat} {X1 X2 : List Value}
theorem DS.size (h : DS x0 w lb gz lo t z v1 v2 n1 n2 X1 X2) : lo ≤ w.heap.size := Nat.le_trans h.hl h.bel.size
theorem DS.call {B : Nat} (h : DS x0 w lb gz lo t z v1 v2 n1 n2 X1 X2) (hb : Below B w w') (hB : w.heap.size ≤ B) : DS x0 w' lb gz lo t z v1 v2 n1 n2 X1 X2 :=
  ⟨h.bel.trans (hb.mono (by have := h.size; have := h.hz; have := h.hg; omega)), h.hz, h.hg, h.hl, h.rz.below hb (Nat.lt_of_lt_of_le h.rz.lt hB),
    own_move h.o1 (fun k hk => hb.block k (Nat.lt_of_lt_of_le (h.o1.lt k hk).2 hB)), own_move h.o2 (fun k hk => hb.block k (Nat.lt_of_lt_of_le (h.o2.lt k hk).2 hB)), h.d⟩
theorem DS.drew (h : DS x0 w lb gz lo t z v1 v2 n1 n2 X1 X2) : DS x0 w.drew lb gz lo t z v1 v2 n1 n2 X1 X2 := h.call (B := w.heap.size) (Below.drew (Below.refl _ _)) (Nat.le_refl _)
theorem DS.seed (h : DS x0 w lb gz lo t z v1 v2 n1 n2 X1 X2) {u : Value} (e : w' = w.setCell ⟨gz, 0, none⟩ u) : DS x0 w' lb gz lo t u v1 v2 n1 n2 X1 X2 := by
  subst e
  exact ⟨h.bel.setCell (p := ⟨gz, 0, none⟩) h.hz u, h.hz, h.hg, h.hl, h.rz.set_ 0 u,
    own_move h.o1 (fun k hk => Below.heap_setCell _ _ _ _ (by have := (h.o1.lt k hk).1; have := h.hg; show k ≠ gz; omega)), own_move h.o2 (fun k hk => Below.heap_setCell _ _ _ _ (by have := (h.o2.lt k hk).1; have := h.hg; show k ≠ gz; omega)), h.d⟩
theorem DS.push1 (h : DS x0 w lb gz lo t z v1 v2 n1 n2 X1 X2) {g m c : Nat} {Y : List Value} (ho : w'.ownsRow lo t 1 (.slice (some ⟨g, 0, none⟩) m c) m Y) (hg : w.grownBy w' v1.ownBlock) (hat : v1.ownBlock = some g ∨ w.heap.size ≤ g) : DS x0 w' lb gz lo t z (.slice (some ⟨g, 0, none⟩) m c) v2 m n2 Y X2 := by
  refine ⟨h.bel.grown hg (by have := h.size; have := h.hz; have := h.hg; omega) (fun k hk => by have := (h.o1.lt k hk).1; have := h.hz; have := h.hg; omega), h.hz, h.hg, h.hl, h.rz.grown hg (fun e => by have := (h.o1.lt _ e.symm).1; have := h.hg; omega), ho, own_move h.o2 (fun k hk => hg.block k (h.o2.lt k hk).2 (fun e => h.d k e.symm hk)), fun k hk hk2 => ?_⟩
  simp [Value.ownBlock] at hk
  subst hk
  rcases hat with e | e
  · exact h.d _ e hk2
  · have := (h.o2.lt _ hk2).2; omega
theorem DS.push2 (h : DS x0 w lb gz lo t z v1 v2 n1 n2 X1 X2) {g m c : Nat} {Y : List Value} (ho : w'.ownsRow lo t 1 (.slice (some ⟨g, 0, none⟩) m c) m Y) (hg : w.grownBy w' v2.ownBlock) (hat : v2.ownBlock = some g ∨ w.heap.size ≤ g) : DS x0 w' lb gz lo t z v1 (.slice (some ⟨g, 0, none⟩) m c) n1 m X1 Y := by
  refine ⟨h.bel.grown hg (by have := h.size; have := h.hz; have := h.hg; omega) (fun k hk => by have := (h.o2.lt k hk).1; have := h.hz; have := h.hg; omega), h.hz, h.hg, h.hl, h.rz.grown hg (fun e => by have := (h.o2.lt _ e.symm).1; have := h.hg; omega), own_move h.o1 (fun k hk => hg.block k (h.o1.lt k hk).2 (fun e => h.d k hk e.symm)), ho, fun k hk hk2 => ?_⟩
  simp [Value.ownBlock] at hk2
  subst hk2
  rcases hat with e | e
  · exact h.d _ hk e
  · have := (h.o1.lt _ hk).2; omega
end
/-- What DrawnWord hands out. -/
def DwO (w : World) (base : Nat) (v1 v2 : Value) (W H : List Int) : Prop := RowI w base 2 v1 W ∧ RowI w base 2 v2 H ∧ ∀ k, v1.ownBlock = some k → v2.ownBlock ≠ some k
theorem DwO.nil (w : World) (base : Nat) : DwO w base (.slice none 0 0) (.slice none 0 0) [] [] := ⟨RowI.nil _ _ _, RowI.nil _ _ _, fun k hk => by simp [Value.ownBlock] at hk⟩

set_option maxRecDepth 100000 in
set_option maxHeartbeats 4000000 in
theorem iDrawn_no1 (v : Value) (S T : Int) (P Q R : List F32) (z n : Int) (w : World) (h : Md w w.heap.size v S T P Q R) (hcap : capOk v) (q1 : vdM S T P Q R = false) :
    Calls Try.prog 28 #[v, .int .i64 z, .int .i64 n] w fun e w' => ∃ v1 v2, e = .returned (.tuple #[v1, v2, .int .i64 (ckZ (dwOk S T P Q R z n) ((dwSt P Q S.toNat z.toNat n.toNat).2 : Int)), .bool (dwOk S T P Q R z n)]) ∧ DwO w' w.heap.size v1 v2 (ckL (dwOk S T P Q R z n) (dwW P Q R S.toNat T.toNat z.toNat n.toNat)) (ckL (dwOk S T P Q R z n) (dwH P Q S.toNat z.toNat (n.toNat + 1))) ∧ Below w.heap.size w w' := by
  obtain ⟨A2, n2, c2, A3, n3, c3, A4, n4, c4, rfl, h2, h3, h4⟩ := h
  obtain ⟨S_, T_, A2_, n2_, c2_, A3_, n3_, c3_, A4_, n4_, c4_, e, k2, k2', k3, k3', k4, k4'⟩ := hcap
  simp only [Value.agg.injEq, Array.mk.injEq, List.cons.injEq, Value.slice.injEq, and_true] at e
  obtain ⟨-, -, ⟨-, e2, e3⟩, ⟨-, e4, e5⟩, ⟨-, e6, e7⟩⟩ := e
  subst e2 e3 e4 e5 e6 e7
  have rb := Row.new w 27 [.int .i64 S, .int .i64 T, .slice A2 n2 c2, .slice A3 n3 c3, .slice A4 n4 c4]
  have bx : Below w.heap.size w (w.alloc (.cells ([.int .i64 S, .int .i64 T, .slice A2 n2 c2, .slice A3 n3 c3, .slice A4 n4 c4] : List Value).toArray 27)) := (Below.refl _ _).alloc (Nat.le_refl _) _
  have V := Lib.hid (iValidModel_any _ S T P Q R (w.alloc (.cells ([.int .i64 S, .int .i64 T, .slice A2 n2 c2, .slice A3 n3 c3, .slice A4 n4 c4] : List Value).toArray 27)) ⟨_, _, _, _, _, _, _, _, _, rfl, (h2.below bx (Nat.le_refl _)).more bx.size, (h3.below bx (Nat.le_refl _)).more bx.size, (h4.below bx (Nat.le_refl _)).more bx.size⟩ ⟨_, _, _, _, _, _, _, _, _, _, _, rfl, k2, k2', k3, k3', k4, k4'⟩)
  have W1 := Lib.hid (iIn_any z 0 4294967295); have W2 := Lib.hid (iIn_any n 0 12)
  have RB := Lib.hid rb; have BX := Lib.hid bx; clear rb bx
  rw [q1] at V
  have HN : Hid (dwOk S T P Q R z n = false) := by show _ = _; rw [dwOk, q1]; simp
  clear h2 h3 h4 k2 k2' k3 k3' k4 k4'
  go_enter Try.func28, Try.ntmps28
  go_wp2_with (first | (go_at_call 20; refine V.out.mono ?_; rintro e w1 ⟨rfl, hb1⟩;  have hb1 := Lib.hid hb1; clear V))
  refine bodyPost_ret (v := .tuple #[.slice none 0 0, .slice none 0 0, .int .i64 0, .bool false]) (by simp [results, Try.results28, go_sem]) rfl ?_
  rw [HN.out]
  exact ⟨_, _, rfl, DwO.nil _ _, BX.out.trans (hb1.out.mono BX.out.size)⟩
set_option maxRecDepth 100000 in
set_option maxHeartbeats 4000000 in
theorem iDrawn_no2 (v : Value) (S T : Int) (P Q R : List F32) (z n : Int) (w : World) (h : Md w w.heap.size v S T P Q R) (hcap : capOk v) (q1 : vdM S T P Q R = true) (q2 : inB z 0 4294967295 = false) :
    Calls Try.prog 28 #[v, .int .i64 z, .int .i64 n] w fun e w' => ∃ v1 v2, e = .returned (.tuple #[v1, v2, .int .i64 (ckZ (dwOk S T P Q R z n) ((dwSt P Q S.toNat z.toNat n.toNat).2 : Int)), .bool (dwOk S T P Q R z n)]) ∧ DwO w' w.heap.size v1 v2 (ckL (dwOk S T P Q R z n) (dwW P Q R S.toNat T.toNat z.toNat n.toNat)) (ckL (dwOk S T P Q R z n) (dwH P Q S.toNat z.toNat (n.toNat + 1))) ∧ Below w.heap.size w w' := by
  obtain ⟨A2, n2, c2, A3, n3, c3, A4, n4, c4, rfl, h2, h3, h4⟩ := h
  obtain ⟨S_, T_, A2_, n2_, c2_, A3_, n3_, c3_, A4_, n4_, c4_, e, k2, k2', k3, k3', k4, k4'⟩ := hcap
  simp only [Value.agg.injEq, Array.mk.injEq, List.cons.injEq, Value.slice.injEq, and_true] at e
  obtain ⟨-, -, ⟨-, e2, e3⟩, ⟨-, e4, e5⟩, ⟨-, e6, e7⟩⟩ := e
  subst e2 e3 e4 e5 e6 e7
  have rb := Row.new w 27 [.int .i64 S, .int .i64 T, .slice A2 n2 c2, .slice A3 n3 c3, .slice A4 n4 c4]
  have bx : Below w.heap.size w (w.alloc (.cells ([.int .i64 S, .int .i64 T, .slice A2 n2 c2, .slice A3 n3 c3, .slice A4 n4 c4] : List Value).toArray 27)) := (Below.refl _ _).alloc (Nat.le_refl _) _
  have V := Lib.hid (iValidModel_any _ S T P Q R (w.alloc (.cells ([.int .i64 S, .int .i64 T, .slice A2 n2 c2, .slice A3 n3 c3, .slice A4 n4 c4] : List Value).toArray 27)) ⟨_, _, _, _, _, _, _, _, _, rfl, (h2.below bx (Nat.le_refl _)).more bx.size, (h3.below bx (Nat.le_refl _)).more bx.size, (h4.below bx (Nat.le_refl _)).more bx.size⟩ ⟨_, _, _, _, _, _, _, _, _, _, _, rfl, k2, k2', k3, k3', k4, k4'⟩)
  have W1 := Lib.hid (iIn_any z 0 4294967295); have W2 := Lib.hid (iIn_any n 0 12)
  have RB := Lib.hid rb; have BX := Lib.hid bx; clear rb bx
  rw [q1] at V; rw [q2] at W1
  have HN : Hid (dwOk S T P Q R z n = false) := by show _ = _; rw [dwOk, q1, q2]; simp
  clear h2 h3 h4 k2 k2' k3 k3' k4 k4'
  go_enter Try.func28, Try.ntmps28
  go_wp2_with (first | (go_at_call 20; refine V.out.mono ?_; rintro e w1 ⟨rfl, hb1⟩;  have hb1 := Lib.hid hb1; clear V) | (go_at_call 65; refine (W1.out _).mono ?_; rintro e w' ⟨rfl, hw⟩; subst hw; clear W1))
  refine bodyPost_ret (v := .tuple #[.slice none 0 0, .slice none 0 0, .int .i64 0, .bool false]) (by simp [results, Try.results28, go_sem]) rfl ?_
  rw [HN.out]
  exact ⟨_, _, rfl, DwO.nil _ _, BX.out.trans (hb1.out.mono BX.out.size)⟩
set_option maxRecDepth 100000 in
set_option maxHeartbeats 4000000 in
theorem iDrawn_no3 (v : Value) (S T : Int) (P Q R : List F32) (z n : Int) (w : World) (h : Md w w.heap.size v S T P Q R) (hcap : capOk v) (q1 : vdM S T P Q R = true) (q2 : inB z 0 4294967295 = true) (q3 : inB n 0 12 = false) :
    Calls Try.prog 28 #[v, .int .i64 z, .int .i64 n] w fun e w' => ∃ v1 v2, e = .returned (.tuple #[v1, v2, .int .i64 (ckZ (dwOk S T P Q R z n) ((dwSt P Q S.toNat z.toNat n.toNat).2 : Int)), .bool (dwOk S T P Q R z n)]) ∧ DwO w' w.heap.size v1 v2 (ckL (dwOk S T P Q R z n) (dwW P Q R S.toNat T.toNat z.toNat n.toNat)) (ckL (dwOk S T P Q R z n) (dwH P Q S.toNat z.toNat (n.toNat + 1))) ∧ Below w.heap.size w w' := by
  obtain ⟨A2, n2, c2, A3, n3, c3, A4, n4, c4, rfl, h2, h3, h4⟩ := h
  obtain ⟨S_, T_, A2_, n2_, c2_, A3_, n3_, c3_, A4_, n4_, c4_, e, k2, k2', k3, k3', k4, k4'⟩ := hcap
  simp only [Value.agg.injEq, Array.mk.injEq, List.cons.injEq, Value.slice.injEq, and_true] at e
  obtain ⟨-, -, ⟨-, e2, e3⟩, ⟨-, e4, e5⟩, ⟨-, e6, e7⟩⟩ := e
  subst e2 e3 e4 e5 e6 e7
  have rb := Row.new w 27 [.int .i64 S, .int .i64 T, .slice A2 n2 c2, .slice A3 n3 c3, .slice A4 n4 c4]
  have bx : Below w.heap.size w (w.alloc (.cells ([.int .i64 S, .int .i64 T, .slice A2 n2 c2, .slice A3 n3 c3, .slice A4 n4 c4] : List Value).toArray 27)) := (Below.refl _ _).alloc (Nat.le_refl _) _
  have V := Lib.hid (iValidModel_any _ S T P Q R (w.alloc (.cells ([.int .i64 S, .int .i64 T, .slice A2 n2 c2, .slice A3 n3 c3, .slice A4 n4 c4] : List Value).toArray 27)) ⟨_, _, _, _, _, _, _, _, _, rfl, (h2.below bx (Nat.le_refl _)).more bx.size, (h3.below bx (Nat.le_refl _)).more bx.size, (h4.below bx (Nat.le_refl _)).more bx.size⟩ ⟨_, _, _, _, _, _, _, _, _, _, _, rfl, k2, k2', k3, k3', k4, k4'⟩)
  have W1 := Lib.hid (iIn_any z 0 4294967295); have W2 := Lib.hid (iIn_any n 0 12)
  have RB := Lib.hid rb; have BX := Lib.hid bx; clear rb bx
  rw [q1] at V; rw [q2] at W1; rw [q3] at W2
  have HN : Hid (dwOk S T P Q R z n = false) := by show _ = _; rw [dwOk, q1, q2, q3]; simp
  clear h2 h3 h4 k2 k2' k3 k3' k4 k4'
  go_enter Try.func28, Try.ntmps28
  go_wp2_with (first | (go_at_call 20; refine V.out.mono ?_; rintro e w1 ⟨rfl, hb1⟩;  have hb1 := Lib.hid hb1; clear V) | (go_at_call 65; refine (W1.out _).mono ?_; rintro e w' ⟨rfl, hw⟩; subst hw; clear W1) | (go_at_call 65; refine (W2.out _).mono ?_; rintro e w' ⟨rfl, hw⟩; subst hw; clear W2))
  refine bodyPost_ret (v := .tuple #[.slice none 0 0, .slice none 0 0, .int .i64 0, .bool false]) (by simp [results, Try.results28, go_sem]) rfl ?_
  rw [HN.out]
  exact ⟨_, _, rfl, DwO.nil _ _, BX.out.trans (hb1.out.mono BX.out.size)⟩
set_option maxRecDepth 100000 in
set_option maxHeartbeats 4000000 in
theorem iDrawn_yes (v : Value) (S T : Int) (P Q R : List F32) (z n : Int) (w : World) (h : Md w w.heap.size v S T P Q R) (hcap : capOk v) (q1 : vdM S T P Q R = true) (q2 : inB z 0 4294967295 = true) (q3 : inB n 0 12 = true) :
    Calls Try.prog 28 #[v, .int .i64 z, .int .i64 n] w fun e w' => ∃ v1 v2, e = .returned (.tuple #[v1, v2, .int .i64 (ckZ (dwOk S T P Q R z n) ((dwSt P Q S.toNat z.toNat n.toNat).2 : Int)), .bool (dwOk S T P Q R z n)]) ∧ DwO w' w.heap.size v1 v2 (ckL (dwOk S T P Q R z n) (dwW P Q R S.toNat T.toNat z.toNat n.toNat)) (ckL (dwOk S T P Q R z n) (dwH P Q S.toNat z.toNat (n.toNat + 1))) ∧ Below w.heap.size w w' := by
  obtain ⟨A2, n2, c2, A3, n3, c3, A4, n4, c4, rfl, h2, h3, h4⟩ := h
  obtain ⟨S_, T_, A2_, n2_, c2_, A3_, n3_, c3_, A4_, n4_, c4_, e, k2, k2', k3, k3', k4, k4'⟩ := hcap
  simp only [Value.agg.injEq, Array.mk.injEq, List.cons.injEq, Value.slice.injEq, and_true] at e
  obtain ⟨-, -, ⟨-, e2, e3⟩, ⟨-, e4, e5⟩, ⟨-, e6, e7⟩⟩ := e
  subst e2 e3 e4 e5 e6 e7
  have rb := Row.new w 27 [.int .i64 S, .int .i64 T, .slice A2 n2 c2, .slice A3 n3 c3, .slice A4 n4 c4]
  have bx : Below w.heap.size w (w.alloc (.cells ([.int .i64 S, .int .i64 T, .slice A2 n2 c2, .slice A3 n3 c3, .slice A4 n4 c4] : List Value).toArray 27)) := (Below.refl _ _).alloc (Nat.le_refl _) _
  have V := Lib.hid (iValidModel_any _ S T P Q R (w.alloc (.cells ([.int .i64 S, .int .i64 T, .slice A2 n2 c2, .slice A3 n3 c3, .slice A4 n4 c4] : List Value).toArray 27)) ⟨_, _, _, _, _, _, _, _, _, rfl, (h2.below bx (Nat.le_refl _)).more bx.size, (h3.below bx (Nat.le_refl _)).more bx.size, (h4.below bx (Nat.le_refl _)).more bx.size⟩ ⟨_, _, _, _, _, _, _, _, _, _, _, rfl, k2, k2', k3, k3', k4, k4'⟩)
  have W1 := Lib.hid (iIn_any z 0 4294967295); have W2 := Lib.hid (iIn_any n 0 12)
  have RB := Lib.hid rb; have BX := Lib.hid bx; clear rb bx
  have HD : Hid (dwOk S T P Q R z n = true) := by show _ = _; rw [dwOk, q1, q2, q3]; rfl
  obtain ⟨s, t, eS, eT, s1, s5, t1, t4, lP, rP, lQ, rQ, lR, rR⟩ := vdM_true q1
  rw [q1] at V; rw [q2] at W1; rw [q3] at W2
  have z1 := inB_true q2; have m1 := inB_true q3
  clear q1 q2 q3
  subst eS eT
  obtain ⟨z, rfl⟩ : ∃ y : Nat, z = (y : Int) := ⟨z.toNat, by omega⟩
  obtain ⟨m, rfl⟩ : ∃ y : Nat, n = (y : Int) := ⟨n.toNat, by omega⟩
  have z2 : z < 4294967296 := by omega
  have m2 : m ≤ 12 := by omega
  clear z1 m1
  have e2 := h2.len; have e3 := h3.len; have e4 := h4.len
  rw [lP] at e2; subst e2
  obtain ⟨g2, o2, hA2, -, -⟩ := h2.2 s1
  obtain ⟨g3, o3, hA3, -, -⟩ := h3.2 (by rw [← e3, lQ]; exact Nat.mul_pos s1 s1)
  obtain ⟨g4, o4, hA4, -, -⟩ := h4.2 (by rw [← e4, lR]; exact Nat.mul_pos s1 t1)
  subst hA2 hA3 hA4
  have N3 : Hid (n3 = s * s) := by show _ = _; rw [← e3, lQ]
  have N4 : Hid (n4 = s * t) := by show _ = _; rw [← e4, lR]
  have b3 : n3 ≤ 25 := by rw [N3.out]; exact Nat.mul_le_mul s5 s5
  have b4 : n4 ≤ 25 := by rw [N4.out]; exact Nat.mul_le_mul s5 (show t ≤ 5 by omega)
  clear e3 e4
  have H2 := Lib.hid h2; have H3 := Lib.hid h3; have H4 := Lib.hid h4
  have LP := Lib.hid lP; have RP := Lib.hid rP; have LQ := Lib.hid lQ; have RQ := Lib.hid rQ; have LR := Lib.hid lR; have RR := Lib.hid rR
  have ST := Lib.hid (fun k => dwSt_lt lP lQ s1 z k)
  clear h2 h3 h4 lP rP lQ rQ lR rR
  obtain ⟨a0, ha0⟩ : ∃ a, a = dwSt P Q s z 0 := ⟨_, rfl⟩
  obtain ⟨σ0, y0⟩ := a0
  have HA0 := Lib.hid ha0; clear ha0
  have hσ0 : σ0 = pick P (shF (seedN z)).b := congrArg Prod.fst HA0.out
  have hy0 : y0 = seedN z := congrArg Prod.snd HA0.out
  have C0 := Lib.hid (fun (x : World) (hx : Below w.heap.size w x) => iDraw_any (some ⟨g2, o2, none⟩) s c2 P z x w.heap.size (H2.out.below hx (Nat.le_refl _)) (rowB_NN RP.out) (by omega) z2)
  rw [← hσ0, ← hy0] at C0
  clear hσ0 hy0
  go_enter Try.func28, Try.ntmps28
  go_wp2_with (first
    | (go_at_call 20; refine V.out.mono ?_; rintro e w1 ⟨rfl, hb1⟩; have HB1 := Lib.hid (BX.out.trans (hb1.mono BX.out.size)); have RB1 := Lib.hid (RB.out.below hb1 RB.out.lt); have r2 := RB1.out.cell 2; clear V hb1)
    | (go_at_call 65; refine (W1.out _).mono ?_; rintro e w' ⟨rfl, hw⟩; subst hw; clear W1)
    | (go_at_call 65; refine (W2.out _).mono ?_; rintro e w' ⟨rfl, hw⟩; subst hw; clear W2)
    | (go_at_call 77; refine (C0.out _ HB1.out).mono ?_; rintro e w' ⟨rfl, hw⟩; subst hw; clear C0))
  clear r2
  have D0 : Hid (D2 w1 ((w1.alloc (.cells #[] 2)).alloc (.cells ([.int .i64 (σ0 : Int)] : List Value).toArray 2)) w1.heap.size 2 (.slice (some ⟨w1.heap.size, 0, none⟩) 0 0) (.slice (some ⟨w1.heap.size + 1, 0, none⟩) 1 1) 0 1 [] [.int .i64 (σ0 : Int)]) := by
    have ha := own_made w1 w1.heap.size 2 1 (Nat.le_refl _)
    have hr := Row.new (w1.alloc (.cells #[] 2)) 2 [.int .i64 (σ0 : Int)]
    rw [show (w1.alloc (.cells #[] 2)).heap.size = w1.heap.size + 1 by simp] at hr
    exact ⟨((Below.refl _ _).alloc (Nat.le_refl _) _).alloc (by simp) _, Nat.le_refl _, ha.alloc _, ⟨rfl, .inr ⟨_, 1, _, rfl, by omega, hr, Nat.le_refl _, by unfold maxLen; omega, rfl, rfl⟩⟩, fun k hk hk2 => by simp [Value.ownBlock] at hk hk2; omega⟩
  go_loopg [1, 10, 11, 12, 13, 38] m (fun q se st v1 v2 le i wr => ∃ (k : Nat) (A1 : Option Addr) (c1 : Nat) (Ah : Option Addr) (ch : Nat), i = .int .i64 k ∧ k ≤ m ∧ m ≤ q + k ∧ se = .int .i64 ((dwSt P Q s z k).2 : Nat) ∧ st = .int .i64 ((dwSt P Q s z k).1 : Nat) ∧ v1 = .slice A1 k c1 ∧ v2 = .slice Ah (k + 1) ch ∧ Hid (D2 w1 wr w1.heap.size 2 (.slice A1 k c1) (.slice Ah (k + 1) ch) k (k + 1) (iv (dwW P Q R s t z k)) (iv (dwH P Q s z (k + 1)))))
  case atStart => exact ⟨0, _, _, _, _, rfl, by omega, by omega, by rw [← HA0.out], by rw [← HA0.out], rfl, rfl, by rw [dwH_succ, ← HA0.out]; exact D0.out⟩
  case round =>
    obtain ⟨k, A1, c1, Ah, ch, rfl, hk, hm, rfl, rfl, rfl, rfl, HM⟩ := hrel
    have hst := ST.out k
    by_cases hlt : k < m
    · obtain ⟨a, ha⟩ : ∃ a, a = dwSt P Q s z k := ⟨_, rfl⟩
      rw [← ha] at hst ⊢
      obtain ⟨σ, y⟩ := a
      obtain ⟨hs1, hs2⟩ := hst
      simp only at hs1 hs2
      have HA := Lib.hid ha; clear ha
      obtain ⟨p3, hp3⟩ : ∃ p, p = σ * s := ⟨_, rfl⟩
      obtain ⟨p4, hp4⟩ : ∃ p, p = σ * t := ⟨_, rfl⟩
      have b3' : p3 + s ≤ n3 := by
        rw [N3.out, hp3]
        have : (σ + 1) * s ≤ s * s := Nat.mul_le_mul_right _ hs1
        rw [Nat.add_mul, Nat.one_mul] at this; exact this
      have b4' : p4 + t ≤ n4 := by
        rw [N4.out, hp4]
        have : (σ + 1) * t ≤ s * t := Nat.mul_le_mul_right _ hs1
        rw [Nat.add_mul, Nat.one_mul] at this; exact this
      have HBw := Lib.hid (HB1.out.trans (HM.out.bel.mono HB1.out.size))
      have KR := RB1.out.below HM.out.bel RB1.out.lt
      have r0 := KR.cell 0; have r1 := KR.cell 1; have r3 := KR.cell 3; have r4 := KR.cell 4
      clear KR
      have C1 := Lib.hid (iRowOf_any g4 o4 n4 c4 t σ p4 wr hp4 b4' k4 k4' (by omega) (by omega) t1)
      have C2 := Lib.hid (iDraw_any (some ⟨g4, o4 + p4, none⟩) t t (chk R t σ) y wr w.heap.size (by rw [hp4]; rw [hp4] at b4'; exact SlF.sub (H4.out.below HBw.out (Nat.le_refl _)) b4') (rowB_NN (RR.out σ hs1)) (by omega) hs2)
      have C3 := Lib.hid (iRowOf_any g3 o3 n3 c3 s σ p3 wr hp3 b3' k3 k3' (by omega) (by omega) s1)
      have C4 := Lib.hid (iDraw_any (some ⟨g3, o3 + p3, none⟩) s s (chk Q s σ) (seedN y) wr w.heap.size (by rw [hp3]; rw [hp3] at b3'; exact SlF.sub (H3.out.below HBw.out (Nat.le_refl _)) b3') (rowB_NN (RQ.out σ hs1)) (by omega) (seedN_lt y))
      clear hp3 hp4
      obtain ⟨le, hle⟩ : ∃ x, x = pick (chk R t σ) (shF (seedN y)).b := ⟨_, rfl⟩
      obtain ⟨y1, hy1⟩ : ∃ x, x = seedN y := ⟨_, rfl⟩
      obtain ⟨y2, hy2⟩ : ∃ x, x = seedN y1 := ⟨_, rfl⟩
      obtain ⟨σ', hσ'⟩ : ∃ x, x = pick (chk Q s σ) (shF y2).b := ⟨_, rfl⟩
      rw [← hle] at C2
      rw [← hy1] at C2 C4
      rw [← hy2] at C4
      rw [← hσ'] at C4
      have E1 : Hid (dwLe P Q R s t z k = le) := by show _ = _; rw [hle, dwLe, ← HA.out]
      have E2 : Hid (dwSt P Q s z (k + 1) = (σ', y2)) := by show _ = _; rw [dwSt, ← HA.out, hσ', hy2, hy1]
      clear hle hy1 hy2 hσ'
      have HSZ := Lib.hid HM.out.size
      go_wp2_with (first
        | (go_at_call_of 71 (Value.slice (some ⟨g4, o4, none⟩) n4 c4); refine C1.out.mono ?_; rintro e w' ⟨rfl, hw⟩; subst hw; clear C1)
        | (go_at_call_of 71 (Value.slice (some ⟨g3, o3, none⟩) n3 c3); refine C3.out.mono ?_; rintro e w' ⟨rfl, hw⟩; subst hw; clear C3)
        | (go_at_call_of 77 (Value.slice (some ⟨g4, o4 + p4, none⟩) t t); refine C2.out.mono ?_; rintro e w' ⟨rfl, hw⟩; subst hw; clear C2)
        | (go_at_call_of 77 (Value.slice (some ⟨g3, o3 + p3, none⟩) s s); refine C4.out.mono ?_; rintro e w' ⟨rfl, hw⟩; subst hw; clear C4)
        | (at_builtin; refine wpList_push wr rfl (.tmp 62) (.tmp 64) _ rfl w1.heap.size 2 (.int .i64 0) 8 Try.underlying39 infoI7 rfl (.slice A1 k c1) k (iv (dwW P Q R s t z k)) rfl HM.out.o1 (.int .i64 (le : Int)) rfl rfl (by omega) (by omega) HSZ.out ?_; intro ga ca wa hown hgr hat hlt' hcap; have HMa := Lib.hid (D2.push1 HM.out hown hgr hat); clear hown hgr hat hlt' hcap; have HSa := Lib.hid HMa.out.size)
        | (at_builtin; refine wpList_push wa rfl (.tmp 66) (.tmp 68) _ rfl w1.heap.size 2 (.int .i64 0) 8 Try.underlying39 infoI7 rfl (.slice Ah (k + 1) ch) (k + 1) (iv (dwH P Q s z (k + 1))) rfl HMa.out.o2 (.int .i64 (σ' : Int)) rfl rfl (by omega) (by omega) HSa.out ?_; intro gb cb wb hown hgr hat hlt' hcap; have HMb := Lib.hid (D2.push2 HMa.out hown hgr hat); clear hown hgr hat hlt' hcap))
      clear r0 r1 r3 r4
      go_roundg (gk - 1)
      case measure => omega
      case rel =>
        refine ⟨k + 1, _, _, _, _, by go_num, by omega, by omega, by rw [E2.out], by rw [E2.out], rfl, rfl, ?_⟩
        have := HMb.out
        rw [dwW_succ, E1.out, dwH_succ P Q s z (k + 1), E2.out, iv_append, iv_append]
        exact this
    · obtain rfl : m = k := by omega
      have HBw := Lib.hid (HB1.out.trans (HM.out.bel.mono HB1.out.size))
      have HSZ : Hid (w.heap.size ≤ w1.heap.size) := HB1.out.size
      go_wp2_with fail
      refine bodyPost_ret (v := .tuple #[.slice A1 m c1, .slice Ah (m + 1) ch, .int .i64 ((dwSt P Q s z m).2 : Nat), .bool true]) (by simp [results, Try.results28, go_sem]) rfl ?_
      rw [HD.out]
      simp only [Int.toNat_natCast]
      refine ⟨_, _, rfl, ⟨?_, ?_, HM.out.d⟩, HBw.out⟩
      · show World.ownsRow _ _ _ _ _ _ _
        show World.ownsRow wr w.heap.size 2 1 _ (dwW P Q R s t z m).length (iv (dwW P Q R s t z m))
        rw [dwW_len]; exact World.ownsRow.mono HM.out.o1 HSZ.out
      · show World.ownsRow wr w.heap.size 2 1 _ (dwH P Q s z (m + 1)).length (iv (dwH P Q s z (m + 1)))
        rw [dwH_len]; exact World.ownsRow.mono HM.out.o2 HSZ.out
set_option maxRecDepth 100000 in
set_option maxHeartbeats 4000000 in
theorem iDrawn_any (v : Value) (S T : Int) (P Q R : List F32) (z n : Int) (w : World) (h : Md w w.heap.size v S T P Q R) (hcap : capOk v)  :
    Calls Try.prog 28 #[v, .int .i64 z, .int .i64 n] w fun e w' => ∃ v1 v2, e = .returned (.tuple #[v1, v2, .int .i64 (ckZ (dwOk S T P Q R z n) ((dwSt P Q S.toNat z.toNat n.toNat).2 : Int)), .bool (dwOk S T P Q R z n)]) ∧ DwO w' w.heap.size v1 v2 (ckL (dwOk S T P Q R z n) (dwW P Q R S.toNat T.toNat z.toNat n.toNat)) (ckL (dwOk S T P Q R z n) (dwH P Q S.toNat z.toNat (n.toNat + 1))) ∧ Below w.heap.size w w' := by
  cases q1 : vdM S T P Q R with
  | false => exact iDrawn_no1 v S T P Q R z n w h hcap q1
  | true =>
    cases q2 : inB z 0 4294967295 with
    | false => exact iDrawn_no2 v S T P Q R z n w h hcap q1 q2
    | true =>
      cases q3 : inB n 0 12 with
      | false => exact iDrawn_no3 v S T P Q R z n w h hcap q1 q2 q3
      | true => exact iDrawn_yes v S T P Q R z n w h hcap q1 q2 q3
end Go.Proofs.Ytkgifbiaaaemnaa
