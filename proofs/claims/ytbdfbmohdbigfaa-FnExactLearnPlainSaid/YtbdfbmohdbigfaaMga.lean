/- Several texts in one: Words for memory, over any program: a slice that reads as a list ('SlV', 'SlI'), a block known whole ('Row'), rows of the call's own. The least fit, plainly: tables and ends as numbers, forced ends, the first fit of both orders. -/
import Derived.WalkKit
import Derived.WalkSpells
import Derived.WalkLawsBesides
import Derived.Lib.Hide
import Derived.Handy
import Derived.PlainAid
import Derived.Maps.AppendAt
import Derived.Deep.AppendLies
import Derived.Deep.OwnRows
import Derived.Deep.Draws

namespace Go.Proofs.Ytbdfbmohdbigfaa
open Go.RowKit
set_option linter.unusedVariables false

theorem ret_bool {a b : Bool} (h : a = b) : Ending.returned (.bool a) = Ending.returned (.bool b) := by rw [h]
theorem ret_int {k : IntKind} {a b : Int} (h : a = b) : Ending.returned (.int k a) = Ending.returned (.int k b) := by rw [h]
theorem ret_str {a b : ByteArray} (h : a = b) : Ending.returned (.string a) = Ending.returned (.string b) := by rw [h]

theorem str_inj {a b : ByteArray} (h : a.toList = b.toList) : a = b := by
  rw [ByteArray.toList_eq, ByteArray.toList_eq] at h
  exact ByteArray.ext (Array.toList_inj.1 h)
theorem str_eq {a b : ByteArray} (h : a = b) : (a.toList == b.toList) = true := by rw [h]; simp
theorem str_ne {a b : ByteArray} (h : a ≠ b) : (a.toList == b.toList) = false := by
  rw [beq_eq_false_iff_ne]; exact fun e => h (str_inj e)

/-- The slice value '.slice A n c' reads, in w, as the one-cell values xs; its cells lie in blocks below B. -/
def SlV (w : World) (B : Nat) (A : Option Addr) (n : Nat) (xs : List Value) : Prop :=
  xs.length = n ∧ (0 < n → ∃ b off, A = some ⟨b, off, none⟩ ∧ b < B ∧ ∀ j u, xs[j]? = some u → w.cell? ⟨b, off + j, none⟩ = some u)
def iv (xs : List Int) : List Value := xs.map (.int .i64)
def SlI (w : World) (B : Nat) (A : Option Addr) (n : Nat) (xs : List Int) : Prop := SlV w B A n (iv xs)
theorem iv_length (xs : List Int) : (iv xs).length = xs.length := by simp [iv]
theorem iv_get {xs : List Int} {k : Nat} {u : Value} (h : (iv xs)[k]? = some u) : ∃ x, xs[k]? = some x ∧ u = .int .i64 x := by
  simp only [iv, List.getElem?_map, Option.map_eq_some_iff] at h
  obtain ⟨x, hx, rfl⟩ := h
  exact ⟨x, hx, rfl⟩
theorem iv_append (xs ys : List Int) : iv (xs ++ ys) = iv xs ++ iv ys := by simp [iv]
theorem iv_one (xs : List Int) : ∀ u ∈ iv xs, u.oneCell' = true := by
  intro u hu
  simp only [iv, List.mem_map] at hu
  obtain ⟨x, _, rfl⟩ := hu
  rfl

section
variable {w w' : World} {B B' n : Nat} {A : Option Addr} {xs : List Value}
theorem SlV.len (h : SlV w B A n xs) : xs.length = n := h.1
theorem SlV.nil (w : World) (B : Nat) (A : Option Addr) : SlV w B A 0 [] := ⟨rfl, fun h => absurd h (by omega)⟩
theorem SlV.at_ {k : Nat} (h : SlV w B A n xs) (hk : k < n) :
    ∃ b off u, A = some ⟨b, off, none⟩ ∧ b < B ∧ xs[k]? = some u ∧ w.cell? ⟨b, off + k, none⟩ = some u := by
  obtain ⟨hl, h2⟩ := h
  obtain ⟨b, off, e, hb, hc⟩ := h2 (by omega)
  exact ⟨b, off, xs[k], e, hb, List.getElem?_eq_getElem (by omega), hc k _ (List.getElem?_eq_getElem (by omega))⟩
theorem SlV.keep (h : SlV w B A n xs) (hk : ∀ b o, b < B → w'.cell? ⟨b, o, none⟩ = w.cell? ⟨b, o, none⟩) : SlV w' B A n xs :=
  ⟨h.1, fun hn => by
    obtain ⟨b, off, e, hb, hc⟩ := h.2 hn
    exact ⟨b, off, e, hb, fun j u hu => (hk _ _ hb).trans (hc j u hu)⟩⟩
theorem SlV.more (h : SlV w B A n xs) (hB : B ≤ B') : SlV w B' A n xs :=
  ⟨h.1, fun hn => by
    obtain ⟨b, off, e, hb, hc⟩ := h.2 hn
    exact ⟨b, off, e, by omega, hc⟩⟩
theorem SlV.below (h : SlV w B A n xs) (hb : Below B' w w') (hB : B ≤ B') : SlV w' B A n xs :=
  h.keep fun b o hlt => hb.cell (p := ⟨b, o, none⟩) (show b < B' by omega)
theorem SlV.drew (h : SlV w B A n xs) : SlV w.drew B A n xs := h
theorem SlV.drewN (h : SlV w B A n xs) (k : Nat) : SlV (w.drewN k) B A n xs := h
theorem SlV.alloc (h : SlV w B A n xs) (hB : B ≤ w.heap.size) (o : Obj) : SlV (w.alloc o) B A n xs :=
  h.keep fun b off hlt => World.cell?_alloc_lt w o ⟨b, off, none⟩ (show b < w.heap.size by omega)
theorem SlV.setCell (h : SlV w B A n xs) {p : Addr} (hB : B ≤ p.block) (u : Value) : SlV (w.setCell p u) B A n xs :=
  h.keep fun b off hlt => World.cell?_setCell_other w p ⟨b, off, none⟩ u (fun e => by subst e; simp at hB; omega)
theorem SlV.take (h : SlV w B A n xs) {m : Nat} (hm : m ≤ n) : SlV w B A m (xs.take m) := by
  refine ⟨by rw [List.length_take, h.1]; omega, fun h0 => ?_⟩
  obtain ⟨b, off, e, hb, hc⟩ := h.2 (by omega)
  refine ⟨b, off, e, hb, fun j u hu => hc j u ?_⟩
  rw [List.getElem?_take] at hu
  split at hu
  · exact hu
  · cases hu
theorem SlI.len {xs : List Int} (h : SlI w B A n xs) : xs.length = n := by have := SlV.len h; simpa [iv] using this
theorem SlI.at_ {xs : List Int} {k : Nat} (h : SlI w B A n xs) (hk : k < n) :
    ∃ b off x, A = some ⟨b, off, none⟩ ∧ b < B ∧ Hid (xs[k]? = some x) ∧ w.cell? ⟨b, off + k, none⟩ = some (.int .i64 x) := by
  obtain ⟨b, off, u, e, hb, hu, hc⟩ := SlV.at_ h hk
  obtain ⟨x, hx, rfl⟩ := iv_get hu
  exact ⟨b, off, x, e, hb, hx, hc⟩
theorem SlI.below {xs : List Int} (h : SlI w B A n xs) (hb : Below B' w w') (hB : B ≤ B') : SlI w' B A n xs := SlV.below h hb hB
theorem SlI.more {xs : List Int} (h : SlI w B A n xs) (hB : B ≤ B') : SlI w B' A n xs := SlV.more h hB
theorem SlI.alloc {xs : List Int} (h : SlI w B A n xs) (hB : B ≤ w.heap.size) (o : Obj) : SlI (w.alloc o) B A n xs := SlV.alloc h hB o
theorem SlI.setCell {xs : List Int} (h : SlI w B A n xs) {p : Addr} (hB : B ≤ p.block) (u : Value) : SlI (w.setCell p u) B A n xs := SlV.setCell h hB u
end

/-- What came in as a row of integers (the frame's word). -/
def IsRow (k : IntKind) (w : World) (a : Option Addr) (len cap : Nat) (zs : List Int) : Prop :=
  (a = none ∧ len = 0 ∧ cap = 0 ∧ zs = []) ∨
  ∃ x, a = some x ∧ len ≤ cap ∧ cap ≤ maxLen ∧ zs.length = cap ∧ (∀ i, i < zs.length → w.cell? (x.add i) = some (.int k (zs.getD i 0))) ∧ ∀ n ∈ zs, (Lit.int k n).wf = true
theorem IsRow.sl {w : World} {a : Option Addr} {len cap : Nat} {zs : List Int} (h : IsRow .i64 w a len cap zs) : SlI w w.heap.size a len (zs.take len) := by
  rcases h with ⟨rfl, rfl, rfl, rfl⟩ | ⟨x, rfl, hl, hm, hz, hc, hw⟩
  · exact SlV.nil _ _ _
  · refine ⟨by simp [iv]; omega, fun h0 => ?_⟩
    obtain ⟨b, off, spot⟩ := x
    have h00 := hc 0 (by omega)
    have hspot : spot = none := by simpa [Addr.add] using World.cell?_spot h00
    subst hspot
    refine ⟨b, off, rfl, World.block_lt_of_cell? _ _ (by simpa [Addr.add] using h00), fun j u hu => ?_⟩
    obtain ⟨y, hy, rfl⟩ := iv_get hu
    rw [List.getElem?_take] at hy
    split at hy
    · have hj : j < zs.length := by omega
      have := hc j hj
      rw [List.getD_eq_getElem?_getD, hy] at this
      have e : (⟨b, off, none⟩ : Addr).add j = ⟨b, off + j, none⟩ := by
        unfold Addr.add; by_cases h : j = 0 <;> simp [h]
      rw [e] at this
      simpa using this
    · cases hy
theorem IsRow.lens {k : IntKind} {w : World} {a : Option Addr} {len cap : Nat} {zs : List Int} (h : IsRow k w a len cap zs) : len ≤ cap ∧ cap ≤ maxLen ∧ zs.length = cap := by
  rcases h with ⟨rfl, rfl, rfl, rfl⟩ | ⟨x, rfl, hl, hm, hz, hc, hw⟩
  · simp
  · exact ⟨hl, hm, hz⟩

/-- Block g is just the cells vs of element type t, none frozen. -/
def Row (w : World) (g : Nat) (t : TypeId) (vs : List Value) : Prop := w.heap[g]? = some (.cells vs.toArray t (0, 0))
section
variable {w w' : World} {g B : Nat} {t : TypeId} {vs : List Value}
theorem Row.lt (h : Row w g t vs) : g < w.heap.size := by
  rcases Nat.lt_or_ge g w.heap.size with hlt | hge
  · exact hlt
  · unfold Row at h; rw [Array.getElem?_eq_none hge] at h; cases h
theorem Row.cell (h : Row w g t vs) (i : Nat) : w.cell? ⟨g, i, none⟩ = vs[i]? := by
  rw [cell_of_row w g i vs.toArray t (0, 0) h]; simp
theorem Row.frozen (h : Row w g t vs) (i : Nat) : w.frozen? ⟨g, i, none⟩ = false := by
  unfold Row at h; simp [World.frozen?, h]
theorem Row.new (w : World) (t : TypeId) (vs : List Value) : Row (w.alloc (.cells vs.toArray t)) w.heap.size t vs := heap_alloc_new w _
theorem Row.drew (h : Row w g t vs) : Row w.drew g t vs := h
theorem Row.drewN (h : Row w g t vs) (n : Nat) : Row (w.drewN n) g t vs := h
theorem Row.alloc (h : Row w g t vs) (o : Obj) : Row (w.alloc o) g t vs := (Below.heap_alloc w o g h.lt).trans h
theorem Row.set_ (h : Row w g t vs) (i : Nat) (u : Value) : Row (w.setCell ⟨g, i, none⟩ u) g t (vs.set i u) := by
  unfold Row at h ⊢
  simp [World.setCell, Array.getElem?_modify, h]
theorem Row.far (h : Row w g t vs) {p : Addr} (hp : g ≠ p.block) (u : Value) : Row (w.setCell p u) g t vs := (Below.heap_setCell w p u g hp).trans h
theorem Row.below (h : Row w g t vs) (hb : Below B w w') (hg : g < B) : Row w' g t vs := (hb.block g hg).trans h
theorem Row.grown {row : Option Nat} (h : Row w g t vs) (hb : w.grownBy w' row) (hg : some g ≠ row) : Row w' g t vs := (hb.block g h.lt hg).trans h
theorem Row.sl (h : Row w g t vs) : SlV w w.heap.size (some ⟨g, 0, none⟩) vs.length vs :=
  ⟨rfl, fun _ => ⟨g, 0, rfl, h.lt, fun j u hu => by rw [Nat.zero_add, h.cell]; exact hu⟩⟩
theorem Row.own {base cap : Nat} (h : Row w g t vs) (hb : base ≤ g) (hm : vs.length ≤ maxLen) : w.ownsRow base t 1 (.slice (some ⟨g, 0, none⟩) vs.length vs.length) vs.length vs :=
  ⟨by simp, .inr ⟨g, vs.length, vs.toArray, rfl, hb, h, Nat.le_refl _, hm, by simp, by simp⟩⟩
theorem Row.made (w : World) (z : Value) (n : Nat) (t : TypeId) : Row (w.alloc (.cells (madeCells #[z] n) t)) w.heap.size t (List.replicate n z) := by
  have h : (madeCells #[z] n) = (List.replicate n z).toArray := by
    apply Array.ext
    · simp [size_madeCells]
    · intro i h1 h2
      simp [madeCells, Nat.mod_one]
  rw [h]
  exact Row.new _ _ _
end

/-- A row that is being filled: vs, and z up to n. -/
def fill (vs : List Value) (n : Nat) (z : Value) : List Value := vs ++ List.replicate (n - vs.length) z
theorem fill_nil (n : Nat) (z : Value) : fill [] n z = List.replicate n z := by simp [fill]
theorem fill_length {vs : List Value} {n : Nat} {z : Value} (h : vs.length ≤ n) : (fill vs n z).length = n := by simp [fill]; omega
theorem fill_at {vs : List Value} {n k : Nat} {z : Value} (hk : vs.length = k) (h : k < n) : (fill vs n z)[k]? = some z := by
  subst hk
  simp only [fill]
  rw [List.getElem?_append_right (Nat.le_refl _), Nat.sub_self, List.getElem?_replicate]
  simp; omega
theorem fill_old {vs : List Value} {n k : Nat} {z : Value} (h : k < vs.length) : (fill vs n z)[k]? = vs[k]? := by
  simp only [fill]; rw [List.getElem?_append_left h]
theorem fill_set {vs : List Value} {n k : Nat} {z u : Value} (hk : vs.length = k) (h : k < n) : (fill vs n z).set k u = fill (vs ++ [u]) n z := by
  subst hk
  simp only [fill]
  rw [List.set_append_right _ _ (Nat.le_refl _), Nat.sub_self, List.length_append, List.append_assoc]
  obtain ⟨m, hm⟩ : ∃ m, n - vs.length = m + 1 := ⟨n - vs.length - 1, by omega⟩
  rw [hm, List.replicate_succ, List.set_cons_zero, show n - (vs.length + [u].length) = m from by simp; omega]
  rfl
theorem fill_full {vs : List Value} {n : Nat} {z : Value} (h : vs.length = n) : fill vs n z = vs := by simp [fill, h]
theorem iv_take {xs : List Int} {k : Nat} {x : Int} (hx : xs[k]? = some x) : iv (xs.take (k + 1)) = iv (xs.take k) ++ [.int .i64 x] := by
  obtain ⟨hk, rfl⟩ := List.getElem?_eq_some_iff.1 hx
  rw [List.take_succ_eq_append_getElem hk, iv_append]; rfl
theorem below_draws {B : Nat} {a w : World} (h : Below B a w) (n : Nat) : Below B a (w.drewN n) := ⟨h.os, h.tape, h.output, h.size, h.block⟩
theorem take_all {α : Type} {xs : List α} {n : Nat} (h : xs.length = n) : xs.take n = xs := List.take_of_length_le (by omega)
theorem take_eq_succ {α : Type} {xs ys : List α} {k : Nat} {x : α} (h : xs.take k = ys.take k) (hx : xs[k]? = some x) (hy : ys[k]? = some x) : xs.take (k + 1) = ys.take (k + 1) := by
  obtain ⟨h1, rfl⟩ := List.getElem?_eq_some_iff.1 hx
  obtain ⟨h2, e⟩ := List.getElem?_eq_some_iff.1 hy
  rw [List.take_succ_eq_append_getElem h1, List.take_succ_eq_append_getElem h2, h, e]

/-- A row of the call's own reads as its list. -/
theorem own_sl {w : World} {base c n : Nat} {e : TypeId} {A : Option Addr} {xs : List Value} (h : w.ownsRow base e 1 (.slice A n c) n xs) : SlV w w.heap.size A n xs := by
  obtain ⟨hl, h2⟩ := h
  refine ⟨by omega, fun h0 => ?_⟩
  rcases h2 with ⟨hv, hn⟩ | ⟨g, cap, cur, hv, hb, hg, hnc, hm, hs, ht⟩
  · omega
  · injection hv with hA hn hc
    refine ⟨g, 0, hA, (Array.getElem?_eq_some_iff.1 hg).1, fun j u hu => ?_⟩
    rw [Nat.zero_add, cell_of_row w g j cur e (0, 0) hg]
    rw [← ht, List.getElem?_take] at hu
    split at hu
    · simpa using hu
    · cases hu
theorem own_form {w : World} {base n : Nat} {e : TypeId} {size : Nat} {v : Value} {xs : List Value} (h : w.ownsRow base e size v n xs) : ∃ A c, v = .slice A n c ∧ n ≤ c ∧ c ≤ maxLen := by
  rcases h.2 with ⟨rfl, rfl⟩ | ⟨g, cap, cur, rfl, hb, hg, hnc, hm, hs, ht⟩
  · exact ⟨none, 0, rfl, Nat.le_refl _, Nat.zero_le _⟩
  · exact ⟨_, cap, rfl, hnc, hm⟩
end Go.Proofs.Ytbdfbmohdbigfaa


namespace Go.Proofs.Ytbdfbmohdbigfaa
set_option linter.unusedVariables false
/-- The n digits of N to the base b, the greatest first. -/
def digs (b : Nat) : Nat → Nat → List Nat
  | 0, _ => []
  | n + 1, N => digs b n (N / b) ++ [N % b]
theorem digs_len (b : Nat) : ∀ n N, (digs b n N).length = n
  | 0, _ => rfl
  | n + 1, N => by simp [digs, digs_len b n]
theorem digs_lt {b : Nat} (hb : 0 < b) : ∀ n N, ∀ x ∈ digs b n N, x < b
  | 0, _, x, h => by cases h
  | n + 1, N, x, h => by
    simp only [digs, List.mem_append, List.mem_singleton] at h
    rcases h with h | h
    · exact digs_lt hb n _ x h
    · subst h; exact Nat.mod_lt _ hb
theorem digs_zero (b : Nat) : ∀ n, digs b n 0 = List.replicate n 0
  | 0 => rfl
  | n + 1 => by rw [digs, Nat.zero_div, Nat.zero_mod, digs_zero b n, List.replicate_succ']
theorem div_succ {N b : Nat} (h : N % b + 1 < b) : (N + 1) / b = N / b ∧ (N + 1) % b = N % b + 1 := by
  have h1 := Nat.div_add_mod N b
  have h0 : 0 < b := by omega
  have e : N + 1 = b * (N / b) + (N % b + 1) := by omega
  constructor
  · rw [e, Nat.mul_add_div h0, Nat.div_eq_of_lt h, Nat.add_zero]
  · rw [e, Nat.mul_add_mod, Nat.mod_eq_of_lt h]
theorem div_carry {N b : Nat} (h0 : 0 < b) (h : N % b + 1 = b) : (N + 1) / b = N / b + 1 ∧ (N + 1) % b = 0 := by
  have h1 := Nat.div_add_mod N b
  have e : N + 1 = b * (N / b + 1) := by rw [Nat.mul_add, Nat.mul_one]; omega
  constructor
  · rw [e, Nat.mul_div_cancel_left _ h0]
  · rw [e, Nat.mul_mod_right]
theorem digs_succ {b n N : Nat} (h : N % b + 1 < b) : digs b (n + 1) (N + 1) = digs b n (N / b) ++ [N % b + 1] := by
  rw [digs, (div_succ h).1, (div_succ h).2]
theorem digs_carry {b n N : Nat} (h0 : 0 < b) (h : N % b + 1 = b) : digs b (n + 1) (N + 1) = digs b n (N / b + 1) ++ [0] := by
  rw [digs, (div_carry h0 h).1, (div_carry h0 h).2]
/-- The table with a number. -/
def tb (S n N : Nat) : List Int := (digs S n N).map fun (x : Nat) => (x : Int)
theorem tb_len (S n N : Nat) : (tb S n N).length = n := by simp [tb, digs_len]
theorem tb_bd {S : Nat} (hS : 0 < S) (n N : Nat) : ∀ x ∈ tb S n N, 0 ≤ x ∧ x < (S : Int) := by
  intro x hx
  simp only [tb, List.mem_map] at hx
  obtain ⟨y, hy, rfl⟩ := hx
  have := digs_lt hS n N y hy
  omega
/-- Where letters lead. -/
def rnW (t : List Int) (T : Int) (xs : List Int) : Int := xs.foldl (fun s x => t.getD (s * T + x).toNat 0) 0
theorem rnW_nil (t : List Int) (T : Int) : rnW t T [] = 0 := rfl
theorem rnW_take {t : List Int} {T : Int} {xs : List Int} {k : Nat} {x : Int} (h : xs[k]? = some x) : rnW t T (xs.take (k + 1)) = t.getD (rnW t T (xs.take k) * T + x).toNat 0 := by
  obtain ⟨hk, rfl⟩ := List.getElem?_eq_some_iff.1 h
  unfold rnW
  rw [List.take_succ_eq_append_getElem hk, List.foldl_append]; rfl
theorem rnW_bd {t : List Int} {T : Int} {S : Nat} (hS : 0 < S) (ht : ∀ x ∈ t, 0 ≤ x ∧ x < (S : Int)) (xs : List Int) : 0 ≤ rnW t T xs ∧ rnW t T xs < (S : Int) := by
  unfold rnW
  have : ∀ (ys : List Int) (s : Int), 0 ≤ s ∧ s < (S : Int) → 0 ≤ ys.foldl (fun s x => t.getD (s * T + x).toNat 0) s ∧ ys.foldl (fun s x => t.getD (s * T + x).toNat 0) s < (S : Int) := by
    intro ys
    induction ys with
    | nil => intro s h; exact h
    | cons y ys ih =>
      intro s h
      refine ih _ ?_
      show 0 ≤ t.getD (s * T + y).toNat 0 ∧ t.getD (s * T + y).toNat 0 < (S : Int)
      rw [List.getD_eq_getElem?_getD]
      cases hq : t[(s * T + y).toNat]? with
      | none => simp; omega
      | some v => exact ht v (List.mem_of_getElem? hq)
  exact this xs 0 (by omega)
/-- The ends that samples force. -/
def frcW (f : List Int → Nat) (S : Nat) (good : List (List Int)) : List Bool := good.foldl (fun E w => E.set (f w) true) (List.replicate S false)
theorem frcW_take {f : List Int → Nat} {S : Nat} {good : List (List Int)} {k : Nat} {x : List Int} (h : good[k]? = some x) : frcW f S (good.take (k + 1)) = (frcW f S (good.take k)).set (f x) true := by
  obtain ⟨hk, rfl⟩ := List.getElem?_eq_some_iff.1 h
  unfold frcW
  rw [List.take_succ_eq_append_getElem hk, List.foldl_append]; rfl
theorem frc_fold_len (f : List Int → Nat) : ∀ (good : List (List Int)) (E : List Bool), (good.foldl (fun E w => E.set (f w) true) E).length = E.length
  | [], E => rfl
  | g :: good, E => by rw [List.foldl_cons, frc_fold_len f good]; simp
theorem frcW_len (f : List Int → Nat) (S : Nat) (good : List (List Int)) : (frcW f S good).length = S := by unfold frcW; rw [frc_fold_len]; simp
theorem frc_fold_get (f : List Int → Nat) (i : Nat) : ∀ (good : List (List Int)) (E : List Bool), i < E.length → ((good.foldl (fun E w => E.set (f w) true) E)[i]? = some true ↔ E[i]? = some true ∨ ∃ w ∈ good, f w = i)
  | [], E, h => by simp
  | g :: good, E, h => by
    rw [List.foldl_cons, frc_fold_get f i good _ (by simpa using h)]
    by_cases e : f g = i
    · subst e
      rw [List.getElem?_set_self h]
      simp
    · rw [List.getElem?_set_ne e]
      constructor
      · rintro (h1 | ⟨w, hw, e2⟩)
        · exact .inl h1
        · exact .inr ⟨w, List.mem_cons_of_mem _ hw, e2⟩
      · rintro (h1 | ⟨w, hw, e2⟩)
        · exact .inl h1
        · rcases List.mem_cons.1 hw with rfl | hw
          · exact absurd e2 e
          · exact .inr ⟨w, hw, e2⟩
theorem frcW_get {f : List Int → Nat} {S i : Nat} {good : List (List Int)} (h : i < S) : (frcW f S good)[i]? = some true ↔ ∃ w ∈ good, f w = i := by
  unfold frcW
  rw [frc_fold_get f i good _ (by simpa using h)]
  simp [h]
/-- Whether ends fit samples. -/
def fitE (f : List Int → Nat) (E : List Bool) (good bad : List (List Int)) : Bool := (good.all fun w => E.getD (f w) false) && bad.all fun w => !E.getD (f w) false
def fitF (f : List Int → Nat) (S : Nat) (good bad : List (List Int)) : Bool := bad.all fun w => !(frcW f S good).getD (f w) false
theorem getD_true {E : List Bool} {i : Nat} : E.getD i false = true ↔ E[i]? = some true := by
  rw [List.getD_eq_getElem?_getD]
  cases E[i]? with
  | none => simp
  | some v => simp
theorem fitE_frc {f : List Int → Nat} {S : Nat} {good bad : List (List Int)} (hf : ∀ w ∈ good, f w < S) (h : fitF f S good bad = true) : fitE f (frcW f S good) good bad = true := by
  unfold fitE
  rw [Bool.and_eq_true]
  refine ⟨?_, h⟩
  rw [List.all_eq_true]
  intro w hw
  rw [getD_true]
  exact (frcW_get (hf w hw)).2 ⟨w, hw, rfl⟩
theorem frc_sub {f : List Int → Nat} {S : Nat} {good bad : List (List Int)} {E : List Bool} (hl : E.length = S) (h : fitE f E good bad = true) : ∀ i : Nat, (frcW f S good)[i]? = some true → E[i]? = some true := by
  intro i hi
  have hi' := (List.getElem?_eq_some_iff.1 hi).1
  rw [frcW_len] at hi'
  obtain ⟨w, hw, rfl⟩ := (frcW_get hi').1 hi
  unfold fitE at h
  rw [Bool.and_eq_true, List.all_eq_true] at h
  exact getD_true.1 (h.1 w hw)
theorem fitF_of {f : List Int → Nat} {S : Nat} {good bad : List (List Int)} {E : List Bool} (hl : E.length = S) (h : fitE f E good bad = true) : fitF f S good bad = true := by
  have hs := frc_sub hl h
  unfold fitE at h
  rw [Bool.and_eq_true, List.all_eq_true, List.all_eq_true] at h
  unfold fitF
  rw [List.all_eq_true]
  intro w hw
  have := h.2 w hw
  cases hq : (frcW f S good).getD (f w) false with
  | false => rfl
  | true =>
    have h1 := getD_true.2 (hs _ (getD_true.1 hq))
    rw [h1] at this
    cases this
/-- Ends as a number. -/
def vlB (E : List Bool) : Nat := E.foldl (fun n b => 2 * n + b.toNat) 0
theorem vlB_snoc (E : List Bool) (b : Bool) : vlB (E ++ [b]) = 2 * vlB E + b.toNat := by unfold vlB; rw [List.foldl_append]; rfl
theorem snoc_ind {α : Type} {p : List α → Prop} (h0 : p []) (hs : ∀ l a, p l → p (l ++ [a])) (l : List α) : p l := by
  have : ∀ l : List α, p l.reverse := by
    intro l
    induction l with
    | nil => exact h0
    | cons a l ih => rw [List.reverse_cons]; exact hs _ _ ih
  have := this l.reverse
  rwa [List.reverse_reverse] at this
/-- The ends with a number. -/
def eb (S e : Nat) : List Bool := (digs 2 S e).map fun x => decide (x = 1)
theorem eb_len (S e : Nat) : (eb S e).length = S := by simp [eb, digs_len]
theorem eb_succ (S e : Nat) : eb (S + 1) e = eb S (e / 2) ++ [decide (e % 2 = 1)] := by simp [eb, digs]
theorem eb_vl (E : List Bool) : eb E.length (vlB E) = E := by
  induction E using snoc_ind with
  | h0 => rfl
  | hs l a ih =>
    rw [List.length_append, vlB_snoc]
    show eb (l.length + 1) _ = _
    rw [eb_succ]
    cases a
    · rw [show (2 * vlB l + Bool.toNat false) / 2 = vlB l from by simp, ih, show (2 * vlB l + Bool.toNat false) % 2 = 0 from by simp]; rfl
    · rw [show (2 * vlB l + Bool.toNat true) / 2 = vlB l from by rw [Bool.toNat_true]; omega, ih, show (2 * vlB l + Bool.toNat true) % 2 = 1 from by rw [Bool.toNat_true]; omega]; rfl
theorem vlB_lt (E : List Bool) : vlB E < 2 ^ E.length := by
  induction E using snoc_ind with
  | h0 => decide
  | hs l a ih => rw [vlB_snoc, List.length_append, List.length_singleton, Nat.pow_succ]; cases a <;> simp <;> omega
theorem vlB_eb : ∀ (S e : Nat), vlB (eb S e) = e % 2 ^ S
  | 0, e => by rw [Nat.pow_zero, Nat.mod_one]; rfl
  | S + 1, e => by
    rw [eb_succ, vlB_snoc, vlB_eb S, Nat.pow_succ, Nat.mul_comm (2 ^ S) 2, Nat.mod_mul]
    have h : e % 2 = 0 ∨ e % 2 = 1 := by omega
    rcases h with h | h <;> simp [h] <;> omega
theorem vlB_mono : ∀ (S : Nat) (E F : List Bool), E.length = S → F.length = S → (∀ i : Nat, E[i]? = some true → F[i]? = some true) → vlB E ≤ vlB F
  | 0, E, F, h1, h2, _ => by rw [List.eq_nil_of_length_eq_zero h1, List.eq_nil_of_length_eq_zero h2]; exact Nat.le_refl _
  | S + 1, E, F, h1, h2, h => by
    obtain ⟨E', a, rfl⟩ : ∃ l x, E = l ++ [x] := ⟨E.dropLast, E.getLast (by intro e; rw [e] at h1; cases h1), (List.dropLast_concat_getLast _).symm⟩
    obtain ⟨F', b, rfl⟩ : ∃ l x, F = l ++ [x] := ⟨F.dropLast, F.getLast (by intro e; rw [e] at h2; cases h2), (List.dropLast_concat_getLast _).symm⟩
    simp at h1 h2
    rw [vlB_snoc, vlB_snoc]
    have hm := vlB_mono S E' F' h1 h2 (fun i hi => by
      have hi' := (List.getElem?_eq_some_iff.1 hi).1
      have := h i (by rw [List.getElem?_append_left hi']; exact hi)
      rwa [List.getElem?_append_left (by omega)] at this)
    have hl : a = true → b = true := by
      intro ha
      have := h S (by rw [List.getElem?_append_right (by omega), h1, Nat.sub_self, ha]; rfl)
      rw [List.getElem?_append_right (by omega), h2, Nat.sub_self] at this
      simpa using this
    cases a <;> cases b <;> simp at hl ⊢ <;> omega
/-- The first table that fits, with a number of states. -/
def lfN (F : Nat → Nat → List Int → Nat) (S n : Nat) (good bad : List (List Int)) : Option Nat := (List.range n).find? fun N => fitF (F S N) S good bad
theorem lfN_some {F : Nat → Nat → List Int → Nat} {S n N : Nat} {good bad : List (List Int)} (h0 : N < n) (h1 : fitF (F S N) S good bad = true) (h2 : ∀ M, M < N → fitF (F S M) S good bad = false) : lfN F S n good bad = some N := by
  unfold lfN
  rw [List.find?_range_eq_some]
  exact ⟨h1, by simpa using h0, fun j hj => by rw [h2 j hj]; rfl⟩
theorem lfN_none {F : Nat → Nat → List Int → Nat} {S n : Nat} {good bad : List (List Int)} (h2 : ∀ M, M < n → fitF (F S M) S good bad = false) : lfN F S n good bad = none := by
  unfold lfN
  rw [List.find?_eq_none]
  intro x hx
  rw [h2 x (by simpa using hx)]; simp
section
variable {f : Nat → List Int → Nat} {S : Nat} {good bad : List (List Int)}
/-- The reference's order: a first fit is the first table with its forced ends. -/
theorem ref_some {n : Nat} (hf : ∀ N, ∀ w ∈ good, f N w < S) (h : fitE (f (n / 2 ^ S)) (eb S n) good bad = true) (hm : ∀ m, m < n → fitE (f (m / 2 ^ S)) (eb S m) good bad = false) :
    fitF (f (n / 2 ^ S)) S good bad = true ∧ frcW (f (n / 2 ^ S)) S good = eb S n ∧ ∀ M, M < n / 2 ^ S → fitF (f M) S good bad = false := by
  have hp : 0 < 2 ^ S := Nat.two_pow_pos S
  have hF := fitF_of (eb_len S n) h
  have hs := frc_sub (eb_len S n) h
  have key : ∀ M, fitF (f M) S good bad = true → n ≤ M * 2 ^ S + vlB (frcW (f M) S good) := by
    intro M hM
    rcases Nat.lt_or_ge (M * 2 ^ S + vlB (frcW (f M) S good)) n with hlt | hge
    · exfalso
      have hv := vlB_lt (frcW (f M) S good)
      rw [frcW_len] at hv
      have h1 := hm _ hlt
      have hd : (M * 2 ^ S + vlB (frcW (f M) S good)) / 2 ^ S = M := by rw [Nat.mul_comm, Nat.mul_add_div hp, Nat.div_eq_of_lt hv, Nat.add_zero]
      have he : eb S (M * 2 ^ S + vlB (frcW (f M) S good)) = frcW (f M) S good := by
        have e1 : vlB (eb S (M * 2 ^ S + vlB (frcW (f M) S good))) = vlB (frcW (f M) S good) := by
          rw [vlB_eb, Nat.mul_comm, Nat.mul_add_mod, Nat.mod_eq_of_lt hv]
        have e2 := eb_vl (eb S (M * 2 ^ S + vlB (frcW (f M) S good)))
        have e3 := eb_vl (frcW (f M) S good)
        rw [eb_len, e1] at e2
        rw [frcW_len] at e3
        exact e2.symm.trans e3
      rw [hd, he, fitE_frc (hf M) hM] at h1
      cases h1
    · exact hge
  have hdm := Nat.div_add_mod n (2 ^ S)
  refine ⟨hF, ?_, ?_⟩
  · have h1 := key _ hF
    have h2 := vlB_mono S _ _ (frcW_len _ _ _) (eb_len S n) hs
    rw [vlB_eb] at h2
    rw [Nat.mul_comm] at h1
    have h3 : vlB (frcW (f (n / 2 ^ S)) S good) = n % 2 ^ S := by omega
    have e3 := eb_vl (frcW (f (n / 2 ^ S)) S good)
    have e2 := eb_vl (eb S n)
    rw [frcW_len, h3] at e3
    rw [eb_len, vlB_eb] at e2
    exact e3.symm.trans e2
  · intro M hM
    cases hq : fitF (f M) S good bad with
    | false => rfl
    | true =>
      exfalso
      have h1 := key M hq
      have hv := vlB_lt (frcW (f M) S good)
      rw [frcW_len] at hv
      have h2 : (M + 1) * 2 ^ S ≤ n / 2 ^ S * 2 ^ S := Nat.mul_le_mul_right _ hM
      rw [Nat.add_mul, Nat.one_mul] at h2
      rw [Nat.mul_comm (2 ^ S)] at hdm
      omega
theorem ref_none {n : Nat} (hf : ∀ N, ∀ w ∈ good, f N w < S) (hm : ∀ m, m < n * 2 ^ S → fitE (f (m / 2 ^ S)) (eb S m) good bad = false) : ∀ M, M < n → fitF (f M) S good bad = false := by
  intro M hM
  have hp : 0 < 2 ^ S := Nat.two_pow_pos S
  cases hq : fitF (f M) S good bad with
  | false => rfl
  | true =>
    exfalso
    have hv := vlB_lt (frcW (f M) S good)
    rw [frcW_len] at hv
    have h2 : (M + 1) * 2 ^ S ≤ n * 2 ^ S := Nat.mul_le_mul_right _ hM
    rw [Nat.add_mul, Nat.one_mul] at h2
    have h1 := hm (M * 2 ^ S + vlB (frcW (f M) S good)) (by omega)
    have hd : (M * 2 ^ S + vlB (frcW (f M) S good)) / 2 ^ S = M := by rw [Nat.mul_comm, Nat.mul_add_div hp, Nat.div_eq_of_lt hv, Nat.add_zero]
    have he : eb S (M * 2 ^ S + vlB (frcW (f M) S good)) = frcW (f M) S good := by
      have e1 : vlB (eb S (M * 2 ^ S + vlB (frcW (f M) S good))) = vlB (frcW (f M) S good) := by
        rw [vlB_eb, Nat.mul_comm, Nat.mul_add_mod, Nat.mod_eq_of_lt hv]
      have e2 := eb_vl (eb S (M * 2 ^ S + vlB (frcW (f M) S good)))
      have e3 := eb_vl (frcW (f M) S good)
      rw [eb_len, e1] at e2
      rw [frcW_len] at e3
      exact e2.symm.trans e3
    rw [hd, he, fitE_frc (hf M) hq] at h1
    cases h1
end
end Go.Proofs.Ytbdfbmohdbigfaa
