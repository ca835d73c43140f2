/- Several texts in one: Least edits, plainly: the table of costs. Steps applied, plainly. Common texts, plainly. slices.Reverse of bytes; a row of bytes of the call's own; string(bytes). -/
import Derived.Test.YtbdfbmohdbigfaaMga
import Derived.Test.YtbdfbmohdbigfaaMge
import Derived.Test.YtbdfbmohdbigfaaMgb
import Derived.Sort.WalkB12
import Derived.Lib.SlicesMore
import Derived.Lib.OwnBridge
import Derived.Laws.IdiomStrings
import Derived.Deep.LoopGhost
import Derived.RegionTactic

namespace Go.Proofs.Ytbdfbmohdbigfaa
open Go.PlainAid
set_option linter.unusedVariables false
section
variable (a b : ByteArray) (p o c : Int)
def edNext (prev : Nat → Int) (i : Nat) : Nat → Int
  | 0 => ((i : Int) + 1) * o
  | k + 1 => min (min (prev k + if bt a i = bt b k then 0 else c) (prev (k + 1) + o)) (edNext prev i k + p)
def ed : Nat → Nat → Int
  | 0, k => (k : Int) * p
  | i + 1, k => edNext a b p o c (ed i) i k
theorem ed_row0 (k : Nat) : ed a b p o c 0 k = (k : Int) * p := rfl
theorem ed_col0 (i : Nat) : ed a b p o c i 0 = (i : Int) * o := by cases i <;> simp [ed, edNext]
theorem ed_step (i k : Nat) : ed a b p o c (i + 1) (k + 1) = min (min (ed a b p o c i k + if bt a i = bt b k then 0 else c) (ed a b p o c i (k + 1) + o)) (ed a b p o c (i + 1) k + p) := rfl
theorem mul_bd {k : Nat} {p : Int} (h0 : 0 ≤ p) (h1 : p ≤ 1000) : 0 ≤ (k : Int) * p ∧ (k : Int) * p ≤ 1000 * k := by
  constructor
  · exact Int.mul_nonneg (by omega) h0
  · have := Int.mul_le_mul_of_nonneg_left h1 (show (0 : Int) ≤ k by omega); omega
variable {p o c}
theorem ed_bd (hp : 0 ≤ p ∧ p ≤ 1000) (ho : 0 ≤ o ∧ o ≤ 1000) (hc : 0 ≤ c) : ∀ i k, 0 ≤ ed a b p o c i k ∧ ed a b p o c i k ≤ 1000 * (i + k : Nat) := by
  intro i
  induction i with
  | zero => intro k; rw [ed_row0]; have := mul_bd (k := k) hp.1 hp.2; omega
  | succ i ih =>
    intro k
    induction k with
    | zero => rw [ed_col0]; have := mul_bd (k := i + 1) ho.1 ho.2; omega
    | succ k ihk =>
      rw [ed_step]
      have h1 := ih k
      have h2 := ih (k + 1)
      split <;> omega
end
def rowOf (f : Nat → Int) (n : Nat) : List Int := (List.range n).map f
def rowsOf (f : Nat → Nat → Int) (i n : Nat) : List (List Int) := (List.range i).map fun j => rowOf (f j) n
theorem rowOf_length (f : Nat → Int) (n : Nat) : (rowOf f n).length = n := by simp [rowOf]
theorem rowsOf_length (f : Nat → Nat → Int) (i n : Nat) : (rowsOf f i n).length = i := by simp [rowsOf]
theorem rowOf_get (f : Nat → Int) {k n : Nat} (h : k < n) : (rowOf f n)[k]? = some (f k) := by simp [rowOf, h]
theorem rowsOf_get (f : Nat → Nat → Int) {j i n : Nat} (h : j < i) : (rowsOf f i n)[j]? = some (rowOf (f j) n) := by simp [rowsOf, h]
theorem rowOf_succ (f : Nat → Int) (n : Nat) : rowOf f (n + 1) = rowOf f n ++ [f n] := by simp [rowOf, List.range_succ]
theorem rowsOf_succ (f : Nat → Nat → Int) (i n : Nat) : rowsOf f (i + 1) n = rowsOf f i n ++ [rowOf (f i) n] := by simp [rowsOf, List.range_succ]
theorem iv_rowOf_succ (f : Nat → Int) (n : Nat) : iv (rowOf f (n + 1)) = iv (rowOf f n) ++ [.int .i64 (f n)] := by rw [rowOf_succ, iv_append]; rfl
theorem row_step {wr : World} {g : Nat} {t : TypeId} {f : Nat → Int} {k n : Nat} {x : Int} (h : Row wr g t (fill (iv (rowOf f k)) n (.int .i64 0))) (hk : k < n) (hx : f k = x) :
    Row (wr.setCell ⟨g, k, none⟩ (.int .i64 x)) g t (fill (iv (rowOf f (k + 1))) n (.int .i64 0)) := by
  have hl : (iv (rowOf f k)).length = k := by rw [iv_length, rowOf_length]
  rw [iv_rowOf_succ, ← fill_set hl hk, hx]
  exact h.set_ _ _
theorem row_zero {wr : World} {g : Nat} {t : TypeId} {f : Nat → Int} {k n : Nat} (h : Row wr g t (fill (iv (rowOf f k)) n (.int .i64 0))) (hk : k < n) : wr.cell? ⟨g, k, none⟩ = some (.int .i64 0) := by
  rw [h.cell, fill_at (by rw [iv_length, rowOf_length]) hk]
theorem row_prev {wr : World} {g : Nat} {t : TypeId} {f : Nat → Int} {j k n : Nat} (h : Row wr g t (fill (iv (rowOf f k)) n (.int .i64 0))) (hj : j < k) : wr.cell? ⟨g, j, none⟩ = some (.int .i64 (f j)) := by
  rw [h.cell, fill_old (by rw [iv_length, rowOf_length]; exact hj)]
  simp [iv, rowOf_get f hj]
theorem fill_last {vs : List Value} {n k : Nat} {z u : Value} (hk : vs.length = k) : (fill (vs ++ [u]) n z)[k]? = some u := by
  subst hk
  rw [fill_old (by simp)]; simp
theorem fill_reset {vs : List Value} {n k : Nat} {z u u' : Value} (hk : vs.length = k) : (fill (vs ++ [u]) n z).set k u' = fill (vs ++ [u']) n z := by
  subst hk
  simp [fill]
/-- A row whose next number stands, but may be stored once more. -/
theorem row_put {wr : World} {g : Nat} {t : TypeId} {f : Nat → Int} {k n : Nat} {x : Int} (h : Row wr g t (fill (iv (rowOf f k)) n (.int .i64 0))) (hk : k < n) :
    Row (wr.setCell ⟨g, k, none⟩ (.int .i64 x)) g t (fill (iv (rowOf f k) ++ [.int .i64 x]) n (.int .i64 0)) := by
  have hl : (iv (rowOf f k)).length = k := by rw [iv_length, rowOf_length]
  rw [← fill_set hl hk]
  exact h.set_ _ _
theorem row_put_again {wr : World} {g : Nat} {t : TypeId} {f : Nat → Int} {k n : Nat} {x y : Int} (h : Row wr g t (fill (iv (rowOf f k) ++ [.int .i64 x]) n (.int .i64 0))) :
    Row (wr.setCell ⟨g, k, none⟩ (.int .i64 y)) g t (fill (iv (rowOf f k) ++ [.int .i64 y]) n (.int .i64 0)) := by
  have hl : (iv (rowOf f k)).length = k := by rw [iv_length, rowOf_length]
  rw [← fill_reset (u := .int .i64 x) hl]
  exact h.set_ _ _
theorem row_done {wr : World} {g : Nat} {t : TypeId} {f : Nat → Int} {k n : Nat} {x : Int} (h : Row wr g t (fill (iv (rowOf f k) ++ [.int .i64 x]) n (.int .i64 0))) (hx : f k = x) :
    Row wr g t (fill (iv (rowOf f (k + 1))) n (.int .i64 0)) := by
  rw [iv_rowOf_succ, hx]; exact h
theorem row_last {wr : World} {g : Nat} {t : TypeId} {f : Nat → Int} {k n : Nat} {x : Int} (h : Row wr g t (fill (iv (rowOf f k) ++ [.int .i64 x]) n (.int .i64 0))) : wr.cell? ⟨g, k, none⟩ = some (.int .i64 x) := by
  rw [h.cell, fill_last (by rw [iv_length, rowOf_length])]
end Go.Proofs.Ytbdfbmohdbigfaa


namespace Go.Proofs.Ytbdfbmohdbigfaa
open Go.PlainAid
set_option linter.unusedVariables false
/-- Byte k of a string; 0 behind its end. -/
def b8 (s : ByteArray) (k : Nat) : UInt8 := if h : k < s.size then s[k]'h else 0
theorem get_b8 (s : ByteArray) : ∀ (n : Nat) (h : n < s.size), s[n]'h = b8 s n := fun n h => by unfold b8; rw [dif_pos h]
def apStep (a b : ByteArray) (c : UInt8) (i k : Nat) : Option (Nat × Nat) :=
  if c = 61 then (if i = a.size ∨ k = b.size ∨ b8 a i ≠ b8 b k then none else some (i + 1, k + 1))
  else if c = 33 then (if i = a.size ∨ k = b.size then none else some (i + 1, k + 1))
  else if c = 45 then (if i = a.size then none else some (i + 1, k))
  else if c = 43 then (if k = b.size then none else some (i, k + 1))
  else none
def apRun (a b s : ByteArray) : Nat → Nat → Nat → Nat → Bool
  | 0, _, i, k => decide (a.size ≤ i ∧ b.size ≤ k)
  | f + 1, t, i, k => match apStep a b (b8 s t) i k with
    | none => false
    | some p => apRun a b s f (t + 1) p.1 p.2
theorem apRun_no {a b s : ByteArray} {n t i k : Nat} (ht : t < n) (h : apStep a b (b8 s t) i k = none) : apRun a b s (n - t) t i k = false := by
  obtain ⟨f, hf⟩ : ∃ f, n - t = f + 1 := ⟨n - t - 1, by omega⟩
  rw [hf, apRun, h]
theorem apRun_yes {a b s : ByteArray} {n t i k i' k' : Nat} (ht : t < n) (h : apStep a b (b8 s t) i k = some (i', k')) : apRun a b s (n - t) t i k = apRun a b s (n - (t + 1)) (t + 1) i' k' := by
  obtain ⟨f, hf⟩ : ∃ f, n - t = f + 1 := ⟨n - t - 1, by omega⟩
  rw [hf, apRun, h, show n - (t + 1) = f from by omega]
end Go.Proofs.Ytbdfbmohdbigfaa


namespace Go.Proofs.Ytbdfbmohdbigfaa
open Go.PlainAid
set_option linter.unusedVariables false
section
variable (a b : ByteArray)
def cmNext (prev : Nat → Int) (i : Nat) : Nat → Int
  | 0 => 0
  | k + 1 => if bt a i = bt b k then prev k + 1 else max (prev (k + 1)) (cmNext prev i k)
def cm : Nat → Nat → Int
  | 0, _ => 0
  | i + 1, k => cmNext a b (cm i) i k
theorem cm_row0 (k : Nat) : cm a b 0 k = 0 := rfl
theorem cm_col0 (i : Nat) : cm a b i 0 = 0 := by cases i <;> simp [cm, cmNext]
theorem cm_eq {i k : Nat} (h : bt a i = bt b k) : cm a b (i + 1) (k + 1) = cm a b i k + 1 := by
  show cmNext a b (cm a b i) i (k + 1) = _
  rw [cmNext, if_pos h]
theorem cm_ne {i k : Nat} (h : ¬ bt a i = bt b k) : cm a b (i + 1) (k + 1) = max (cm a b i (k + 1)) (cm a b (i + 1) k) := by
  show cmNext a b (cm a b i) i (k + 1) = _
  rw [cmNext, if_neg h]
  rfl
theorem cm_bd : ∀ i k, 0 ≤ cm a b i k ∧ cm a b i k ≤ (i + k : Nat) := by
  intro i
  induction i with
  | zero => intro k; rw [cm_row0]; omega
  | succ i ih =>
    intro k
    induction k with
    | zero => rw [cm_col0]; omega
    | succ k ihk =>
      have h1 := ih k
      have h2 := ih (k + 1)
      by_cases h : bt a i = bt b k
      · rw [cm_eq a b h]; omega
      · rw [cm_ne a b h]; omega
/-- The bytes that the way back from (i, k) tells, the last first. -/
def cmW : Nat → Nat → Nat → List UInt8
  | 0, _, _ => []
  | f + 1, i, k => if i = 0 ∨ k = 0 then [] else if bt a (i - 1) = bt b (k - 1) then b8 a (i - 1) :: cmW f (i - 1) (k - 1)
      else if cm a b (i - 1) k = cm a b i k then cmW f (i - 1) k else cmW f i (k - 1)
/-- Where the way back stands: 'done' is told, (i, k) is left. -/
def CmAt (R done : List UInt8) (i k : Nat) : Prop := ∃ f, i + k ≤ f ∧ done ++ cmW a b f i k = R
def cmAll : List UInt8 := cmW a b (a.size + b.size) a.size b.size
theorem CmAt.start : CmAt a b (cmAll a b) [] a.size b.size := ⟨_, Nat.le_refl _, rfl⟩
variable {a b} {R done : List UInt8} {i k : Nat}
theorem CmAt.done_ (h : CmAt a b R done i k) (h0 : i = 0 ∨ k = 0) : done = R := by
  obtain ⟨f, hf, rfl⟩ := h
  cases f with
  | zero => simp [cmW]
  | succ f => rw [cmW, if_pos h0]; simp
theorem CmAt.both (h : CmAt a b R done (i + 1) (k + 1)) (he : bt a i = bt b k) : CmAt a b R (done ++ [b8 a i]) i k := by
  obtain ⟨f, hf, rfl⟩ := h
  obtain ⟨g, rfl⟩ : ∃ g, f = g + 1 := ⟨f - 1, by omega⟩
  refine ⟨g, by omega, ?_⟩
  rw [cmW, if_neg (by omega), if_pos (by simpa using he)]
  simp
theorem CmAt.up (h : CmAt a b R done (i + 1) (k + 1)) (he : ¬ bt a i = bt b k) (hc : cm a b i (k + 1) = cm a b (i + 1) (k + 1)) : CmAt a b R done i (k + 1) := by
  obtain ⟨f, hf, rfl⟩ := h
  obtain ⟨g, rfl⟩ : ∃ g, f = g + 1 := ⟨f - 1, by omega⟩
  refine ⟨g, by omega, ?_⟩
  rw [cmW, if_neg (by omega), if_neg (by simpa using he), if_pos (by simpa using hc)]
  rfl
theorem CmAt.back (h : CmAt a b R done (i + 1) (k + 1)) (he : ¬ bt a i = bt b k) (hc : ¬ cm a b i (k + 1) = cm a b (i + 1) (k + 1)) : CmAt a b R done (i + 1) k := by
  obtain ⟨f, hf, rfl⟩ := h
  obtain ⟨g, rfl⟩ : ∃ g, f = g + 1 := ⟨f - 1, by omega⟩
  refine ⟨g, by omega, ?_⟩
  rw [cmW, if_neg (by omega), if_neg (by simpa using he), if_neg (by simpa using hc)]
  rfl
theorem cmW_len : ∀ (f i k : Nat), (cmW a b f i k).length ≤ i := by
  intro f
  induction f with
  | zero => intro i k; simp [cmW]
  | succ f ih =>
    intro i k
    rw [cmW]
    split
    · simp
    · split
      · have := ih (i - 1) (k - 1); simp; omega
      · split
        · have := ih (i - 1) k; omega
        · have := ih i (k - 1); omega
theorem CmAt.len (h : CmAt a b R done i k) : R.length ≤ done.length + i := by
  obtain ⟨f, hf, rfl⟩ := h
  have := cmW_len (a := a) (b := b) f i k
  simp; omega
end
/-- Lists of bytes as values, and as a string. -/
def bvs (l : List UInt8) : List Value := l.map fun c => .int .u8 (c.toNat : Int)
theorem bvs_length (l : List UInt8) : (bvs l).length = l.length := by simp [bvs]
theorem bvs_snoc (l : List UInt8) (c : UInt8) : bvs (l ++ [c]) = bvs l ++ [.int .u8 (c.toNat : Int)] := by simp [bvs]
theorem bvs_get {l : List UInt8} {i : Nat} {c : UInt8} (h : l[i]? = some c) : (bvs l)[i]? = some (.int .u8 (c.toNat : Int)) := by simp [bvs, h]
end Go.Proofs.Ytbdfbmohdbigfaa


namespace Go.Proofs.Ytbdfbmohdbigfaa
open Go.RowKit Go.Sort
set_option linter.unusedVariables false
abbrev encB (c : UInt8) : Value := .int .u8 (c.toNat : Int)
theorem infoB8 : (Try.prog.info? 5).map (fun i => (i.zero, i.size, i.bytes)) = some (some (.int .u8 0), 1, 1) := by kernel_rfl

/-- A row of bytes of the call's own, at block g. -/
def OwnB (w : World) (base g c : Nat) (l : List UInt8) : Prop := w.ownsRow base 5 1 (.slice (some ⟨g, 0, none⟩) l.length c) l.length (bvs l)
theorem OwnB.made (w : World) (base : Nat) (hb : base ≤ w.heap.size) : OwnB (w.alloc (.cells #[] 5)) base w.heap.size 0 [] :=
  World.ownsRow_made w #[] 0 hb (by unfold maxLen; omega) rfl
section
variable {w w' : World} {base g c : Nat} {l : List UInt8}
theorem OwnB.drewN (h : OwnB w base g c l) (q : Nat) : OwnB (w.drewN q) base g c l := h
theorem OwnB.block (h : OwnB w base g c l) : base ≤ g ∧ g < w.heap.size := World.ownsRow.lt h g rfl
theorem OwnB.holds (h : OwnB w base g c l) : Holds encB w g 0 l.toArray := by
  obtain ⟨g', cap, e, _, _, _, _, _, hH⟩ := Lib.holds_of_ownsRow (enc := encB) (zs := l) h (by simp)
  injection e with e1 _ _
  injection e1 with e1
  injection e1 with e1
  subst e1
  exact hH
/-- The string of the row. -/
theorem holds_string {l : List UInt8} (h : Holds encB w g 0 l.toArray) : (convert 22 9 (.slice (some ⟨g, 0, none⟩) l.length c)).run Try.prog w = .ok (.string ⟨l.toArray⟩) w := by
  refine run_convert_bytes_back (P := Try.prog) w 22 9 5 ⟨g, 0, none⟩ c l (by kernel_rfl) (by kernel_rfl) (by kernel_rfl) ?_
  intro j hj
  have := (h j (by simpa using hj)).1
  rw [Nat.zero_add] at this
  have ea : (⟨g, 0, none⟩ : Addr).add j = ⟨g, j, none⟩ := by unfold Addr.add; by_cases h : j = 0 <;> simp [h]
  rw [ea, this]
  simp [encB, getElem!_pos, hj]
/-- Reversed, then a string. -/
theorem OwnB.rev (h : OwnB w base g c l) (n : Nat) : Holds encB (putRow encB (Sort.ahead w n) g 0 l.toArray.reverse) g 0 l.reverse.toArray := by
  have := holds_putRow encB (Sort.ahead w n) g 0 l.toArray l.toArray.reverse (holds_ahead encB w n g 0 _ h.holds) (by simp)
  rw [List.reverse_toArray] at this ⊢
  exact this
end
theorem wpList_byte_push (w0 : World) {ops : Array Oper} {rest : List Oper} {o : Oper} {a : Act} {Q : Exit → Act → World → Prop} (hgd : o.guard = none) (s x : Operand)
    (ho : o.op = .call { callee := .builtin .append, args := #[s, x], argTypes := #[22, 22] })
    (base g c n : Nat) (l : List UInt8) (hl : l.length = n) (hs : a.eval s = .slice (some ⟨g, 0, none⟩) n c) (hown : OwnB w0 base g c l)
    (y : UInt8) (hx : a.eval x = .slice (some ⟨w0.heap.size, 0, none⟩) 1 1) (hn : n + 1 ≤ 4294967296) (hbase : base ≤ w0.heap.size)
    (h : ∀ g' c' w', OwnB w' base g' c' (l ++ [y]) → Below base w0 w' → (g' = g ∨ w0.heap.size ≤ g') →
      wpList Try.prog ops Q rest (a.put o.dst (.slice (some ⟨g', 0, none⟩) (n + 1) c')) w') :
    wpList Try.prog ops Q (o :: rest) a (w0.alloc (.cells #[.int .u8 (y.toNat : Int)] 5)) := by
  subst hl
  refine wpList_push w0 hgd s x 22 ho base 5 (.int .u8 0) 1 (by kernel_rfl) infoB8 rfl _ l.length (bvs l) hs hown _ hx rfl hn (by omega) hbase ?_
  intro g' cap w' hown' hgr hat hlt hcap
  refine h g' cap w' ?_ (grown_below hown hgr hbase) ?_
  · show w'.ownsRow base 5 1 _ (l ++ [y]).length (bvs (l ++ [y]))
    rw [bvs_snoc, List.length_append]
    exact hown'
  · rcases hat with h | h
    · left; simp [Value.ownBlock] at h; exact h.symm
    · exact .inr h
theorem wpList_byte_push' (w0 : World) {ops : Array Oper} {rest : List Oper} {o : Oper} {a : Act} {Q : Exit → Act → World → Prop} (hgd : o.guard = none) (s x : Operand)
    (ho : o.op = .call { callee := .builtin .append, args := #[s, x], argTypes := #[22, 22] })
    (base g c n : Nat) (l : List UInt8) (hl : l.length = n) (hs : a.eval s = .slice (some ⟨g, 0, none⟩) n c) (hown : OwnB w0 base g c l)
    (y : UInt8) (z : Int) (hz : (y.toNat : Int) = z) (hx : a.eval x = .slice (some ⟨w0.heap.size, 0, none⟩) 1 1) (hn : n + 1 ≤ 4294967296) (hbase : base ≤ w0.heap.size)
    (h : ∀ g' c' w', OwnB w' base g' c' (l ++ [y]) → Below base w0 w' → (g' = g ∨ w0.heap.size ≤ g') →
      wpList Try.prog ops Q rest (a.put o.dst (.slice (some ⟨g', 0, none⟩) (n + 1) c')) w') :
    wpList Try.prog ops Q (o :: rest) a (w0.alloc (.cells #[.int .u8 z] 5)) := by
  subst hz
  exact wpList_byte_push w0 hgd s x ho base g c n l hl hs hown y hx hn hbase h
end Go.Proofs.Ytbdfbmohdbigfaa
