/- slices.Reverse of bytes; a row of bytes of the call's own; string(bytes). -/
import Derived.Test.YtpmklldochpnlaaDoorMgb
import Derived.Test.YtpmklldochpnlaaDoorCmP
import Derived.Test.YtpmklldochpnlaaDoorTab
import Derived.Sort.WalkB12
import Derived.Lib.SlicesMore
import Derived.Lib.OwnBridge
import Derived.Laws.IdiomStrings
import Derived.Deep.LoopGhost
import Derived.RegionTactic

namespace Go.Proofs.YtpmklldochpnlaaDoor
open Go.RowKit Go.Sort
set_option linter.unusedVariables false
abbrev encB (c : UInt8) : Value := .int .u8 (c.toNat : Int)
theorem infoB8 : (Tryd.prog.info? 5).map (fun i => (i.zero, i.size, i.bytes)) = some (some (.int .u8 0), 1, 1) := by kernel_rfl

/-- A row of bytes of the call's own, at block g. -/
def OwnB (w : World) (base g c : Nat) (l : List UInt8) : Prop := w.ownsRow base 5 1 (.slice (some ⟨g, 0, none⟩) l.length c) l.length (bvs l)
theorem OwnB.made (w : World) (base : Nat) (hb : base ≤ w.heap.size) : OwnB (w.alloc (.cells #[] 5)) base w.heap.size 0 [] :=
  World.ownsRow_made w #[] 0 hb (by unfold maxLen; omega) rfl
section
variable {w w' : World} {base g c : Nat} {l : List UInt8}
theorem OwnB.drewN (h : OwnB w base g c l) (q : Nat) : OwnB (w.drewN q) base g c l := h
theorem OwnB.block (h : OwnB w base g c l) : base ≤ g ∧ g < w.heap.size := World.ownsRow.lt h g rfl
theorem OwnB.holds (h : OwnB w base g c l) : Holds encB w g 0 l.toArray := by
  obtain ⟨g', cap, e, _, _, _, _, _, hH⟩ := Lib.holds_of_ownsRow (enc := encB) (zs := l) h (by simp)
  injection e with e1 _ _
  injection e1 with e1
  injection e1 with e1
  subst e1
  exact hH
/-- The string of the row. -/
theorem holds_string {l : List UInt8} (h : Holds encB w g 0 l.toArray) : (convert 25 9 (.slice (some ⟨g, 0, none⟩) l.length c)).run Tryd.prog w = .ok (.string ⟨l.toArray⟩) w := by
  refine run_convert_bytes_back (P := Tryd.prog) w 25 9 5 ⟨g, 0, none⟩ c l (by kernel_rfl) (by kernel_rfl) (by kernel_rfl) ?_
  intro j hj
  have := (h j (by simpa using hj)).1
  rw [Nat.zero_add] at this
  have ea : (⟨g, 0, none⟩ : Addr).add j = ⟨g, j, none⟩ := by unfold Addr.add; by_cases h : j = 0 <;> simp [h]
  rw [ea, this]
  simp [encB, getElem!_pos, hj]
/-- Reversed, then a string. -/
theorem OwnB.rev (h : OwnB w base g c l) (n : Nat) : Holds encB (putRow encB (Sort.ahead w n) g 0 l.toArray.reverse) g 0 l.reverse.toArray := by
  have := holds_putRow encB (Sort.ahead w n) g 0 l.toArray l.toArray.reverse (holds_ahead encB w n g 0 _ h.holds) (by simp)
  rw [List.reverse_toArray] at this ⊢
  exact this
end
theorem wpList_byte_push (w0 : World) {ops : Array Oper} {rest : List Oper} {o : Oper} {a : Act} {Q : Exit → Act → World → Prop} (hgd : o.guard = none) (s x : Operand)
    (ho : o.op = .call { callee := .builtin .append, args := #[s, x], argTypes := #[25, 25] })
    (base g c n : Nat) (l : List UInt8) (hl : l.length = n) (hs : a.eval s = .slice (some ⟨g, 0, none⟩) n c) (hown : OwnB w0 base g c l)
    (y : UInt8) (hx : a.eval x = .slice (some ⟨w0.heap.size, 0, none⟩) 1 1) (hn : n + 1 ≤ 4294967296) (hbase : base ≤ w0.heap.size)
    (h : ∀ g' c' w', OwnB w' base g' c' (l ++ [y]) → Below base w0 w' → (g' = g ∨ w0.heap.size ≤ g') →
      wpList Tryd.prog ops Q rest (a.put o.dst (.slice (some ⟨g', 0, none⟩) (n + 1) c')) w') :
    wpList Tryd.prog ops Q (o :: rest) a (w0.alloc (.cells #[.int .u8 (y.toNat : Int)] 5)) := by
  subst hl
  refine wpList_push w0 hgd s x 25 ho base 5 (.int .u8 0) 1 (by kernel_rfl) infoB8 rfl _ l.length (bvs l) hs hown _ hx rfl hn (by omega) hbase ?_
  intro g' cap w' hown' hgr hat hlt hcap
  refine h g' cap w' ?_ (grown_below hown hgr hbase) ?_
  · show w'.ownsRow base 5 1 _ (l ++ [y]).length (bvs (l ++ [y]))
    rw [bvs_snoc, List.length_append]
    exact hown'
  · rcases hat with h | h
    · left; simp [Value.ownBlock] at h; exact h.symm
    · exact .inr h
theorem wpList_byte_push' (w0 : World) {ops : Array Oper} {rest : List Oper} {o : Oper} {a : Act} {Q : Exit → Act → World → Prop} (hgd : o.guard = none) (s x : Operand)
    (ho : o.op = .call { callee := .builtin .append, args := #[s, x], argTypes := #[25, 25] })
    (base g c n : Nat) (l : List UInt8) (hl : l.length = n) (hs : a.eval s = .slice (some ⟨g, 0, none⟩) n c) (hown : OwnB w0 base g c l)
    (y : UInt8) (z : Int) (hz : (y.toNat : Int) = z) (hx : a.eval x = .slice (some ⟨w0.heap.size, 0, none⟩) 1 1) (hn : n + 1 ≤ 4294967296) (hbase : base ≤ w0.heap.size)
    (h : ∀ g' c' w', OwnB w' base g' c' (l ++ [y]) → Below base w0 w' → (g' = g ∨ w0.heap.size ≤ g') →
      wpList Tryd.prog ops Q rest (a.put o.dst (.slice (some ⟨g', 0, none⟩) (n + 1) c')) w') :
    wpList Tryd.prog ops Q (o :: rest) a (w0.alloc (.cells #[.int .u8 z] 5)) := by
  subst hz
  exact wpList_byte_push w0 hgd s x ho base g c n l hl hs hown y hx hn hbase h
end Go.Proofs.YtpmklldochpnlaaDoor
