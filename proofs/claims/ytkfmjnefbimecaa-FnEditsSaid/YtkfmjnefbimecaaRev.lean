/- slices.Reverse of bytes; a row of bytes of the call's own; string(bytes). -/
import Derived.Test.YtkfmjnefbimecaaMga
import Derived.Test.YtkfmjnefbimecaaMgd
import Derived.Test.YtkfmjnefbimecaaTab
import Derived.Sort.WalkB12
import Derived.Lib.SlicesMore
import Derived.Lib.OwnBridge
import Derived.Laws.IdiomStrings
import Derived.Deep.LoopGhost
import Derived.RegionTactic

namespace Go.Proofs.Ytkfmjnefbimecaa
open Go.RowKit Go.Sort
set_option linter.unusedVariables false
abbrev encB (c : UInt8) : Value := .int .u8 (c.toNat : Int)
theorem infoB8 : (Try.prog.info? 5).map (fun i => (i.zero, i.size, i.bytes)) = some (some (.int .u8 0), 1, 1) := by kernel_rfl

set_option maxHeartbeats 1600000 in
set_option maxRecDepth 1000000 in
theorem bRev (blk cap : Nat) (d : Array UInt8) (w : World) (hH : Holds encB w blk 0 d) (hsz : d.size ≤ 4294967296) :
    Calls Try.prog 82 #[.slice (some ⟨blk, 0, none⟩) d.size cap] w fun e w' => e = .returned (.tuple #[]) ∧ ∃ n, w' = putRow encB (Sort.ahead w n) blk 0 d.reverse := by
  go_enter Try.func82, Try.ntmps82
  go_wp2
  go_loopg [2, 3] d.size (fun k s2 s3 wr => ∃ (i jn : Nat) (jz : Int) (dk : Array UInt8) (n : Nat), s2 = .int .i64 i ∧ s3 = .int .i64 jz ∧ ((i : Int) < jz → jz = jn ∧ jn < d.size) ∧ (¬ (i : Int) < jz → ¬ i < jn) ∧ jn - i ≤ k ∧
    dk.size = d.size ∧ wr = putRow encB (Sort.ahead w n) blk 0 dk ∧ reverseLoop i jn dk = reverseLoop 0 (d.size - 1) d)
  case atStart => exact ⟨0, d.size - 1, (d.size : Int) - 1, d, 0, rfl, rfl, fun h => ⟨by omega, by omega⟩, fun h => by omega, by omega, rfl, (putRow_self encB w blk 0 d hH).symm, rfl⟩
  case round =>
    obtain ⟨i, jn, jz, dk, n, rfl, rfl, h1, h2, hk, hds, hwr, heq⟩ := hrel
    by_cases hlt : (i : Int) < jz
    · obtain ⟨rfl, hjn⟩ := h1 hlt
      have hij : i < jn := by omega
      have hHk : Holds encB wr blk 0 dk := by rw [hwr]; exact holds_putRow encB _ blk 0 d dk (holds_ahead encB w n blk 0 d hH) hds
      obtain ⟨ci, fi⟩ := hHk i (by omega)
      obtain ⟨cj, fj⟩ := hHk jn (by omega)
      rw [Nat.zero_add] at ci fi cj fj
      have A : Aside (wr = putRow encB (Sort.ahead w n) blk 0 dk) := hwr
      clear hwr hHk hH h1 h2
      go_wp2_with fail
      go_region
      go_wp2
      go_roundg (jn - 1 - (i + 1))
      case measure => omega
      case rel =>
        rw [reverseLoop, if_pos hij] at heq
        exact ⟨i + 1, jn - 1, (jn : Int) - 1, swp dk i jn, n + 1, by simp, rfl, fun h => ⟨by omega, by omega⟩, fun h => by omega, Nat.le_refl _, by rw [size_swp]; exact hds,
          (by
            have := swap_world encB (off := 0) (i := i) (j := jn) (x := .int .u8 (dk[jn]'(by omega)).toNat) (y := .int .u8 (dk[i]!).toNat) (by omega) (by omega) A.out (by simp [encB, getElem!_pos, show jn < dk.size by omega]) rfl
            rw [Nat.zero_add, Nat.zero_add] at this
            exact this), heq⟩
    · have hnot := h2 hlt
      go_wp2
      go_end0
      refine ⟨rfl, n, ?_⟩
      rw [reverseLoop, if_neg hnot] at heq
      rw [← Lib.reverseLoop_reverse, ← heq]
/-- A row of bytes of the call's own, at block g. -/
def OwnB (w : World) (base g c : Nat) (l : List UInt8) : Prop := w.ownsRow base 5 1 (.slice (some ⟨g, 0, none⟩) l.length c) l.length (bvs l)
theorem OwnB.made (w : World) (base : Nat) (hb : base ≤ w.heap.size) : OwnB (w.alloc (.cells #[] 5)) base w.heap.size 0 [] :=
  World.ownsRow_made w #[] 0 hb (by unfold maxLen; omega) rfl
section
variable {w w' : World} {base g c : Nat} {l : List UInt8}
theorem OwnB.drewN (h : OwnB w base g c l) (q : Nat) : OwnB (w.drewN q) base g c l := h
theorem OwnB.block (h : OwnB w base g c l) : base ≤ g ∧ g < w.heap.size := World.ownsRow.lt h g rfl
theorem OwnB.holds (h : OwnB w base g c l) : Holds encB w g 0 l.toArray := by
  obtain ⟨g', cap, e, _, _, _, _, _, hH⟩ := Lib.holds_of_ownsRow (enc := encB) (zs := l) h (by simp)
  injection e with e1 _ _
  injection e1 with e1
  injection e1 with e1
  subst e1
  exact hH
/-- The string of the row. -/
theorem holds_string {l : List UInt8} (h : Holds encB w g 0 l.toArray) : (convert 22 9 (.slice (some ⟨g, 0, none⟩) l.length c)).run Try.prog w = .ok (.string ⟨l.toArray⟩) w := by
  refine run_convert_bytes_back (P := Try.prog) w 22 9 5 ⟨g, 0, none⟩ c l (by kernel_rfl) (by kernel_rfl) (by kernel_rfl) ?_
  intro j hj
  have := (h j (by simpa using hj)).1
  rw [Nat.zero_add] at this
  have ea : (⟨g, 0, none⟩ : Addr).add j = ⟨g, j, none⟩ := by unfold Addr.add; by_cases h : j = 0 <;> simp [h]
  rw [ea, this]
  simp [encB, getElem!_pos, hj]
/-- Reversed, then a string. -/
theorem OwnB.rev (h : OwnB w base g c l) (n : Nat) : Holds encB (putRow encB (Sort.ahead w n) g 0 l.toArray.reverse) g 0 l.reverse.toArray := by
  have := holds_putRow encB (Sort.ahead w n) g 0 l.toArray l.toArray.reverse (holds_ahead encB w n g 0 _ h.holds) (by simp)
  rw [List.reverse_toArray] at this ⊢
  exact this
end
/-- slices.Reverse of a row of the call's own: what string(row) is behind it. -/
theorem OwnB.revd {w : World} {base g c n : Nat} {l : List UInt8} (h : OwnB w base g c l) (hn : l.length = n) (h4 : n ≤ 4294967296) :
    Calls Try.prog 82 #[.slice (some ⟨g, 0, none⟩) n c] w fun e w' => e = .returned (.tuple #[]) ∧ (convert 22 9 (.slice (some ⟨g, 0, none⟩) n c)).run Try.prog w' = .ok (.string ⟨l.reverse.toArray⟩) w' ∧ Below base w w' := by
  subst hn
  have hrv := bRev g c l.toArray w h.holds (by simpa using h4)
  rw [List.size_toArray] at hrv
  refine hrv.mono ?_
  rintro e w' ⟨rfl, q, rfl⟩
  have hs := holds_string (c := c) (h.rev q)
  rw [List.length_reverse] at hs
  exact ⟨rfl, hs, Lib.below_putRow (Below.refl _ _) h.block.1⟩
/-- 'row = append(row, c)'. -/
theorem wpList_byte_push (w0 : World) {ops : Array Oper} {rest : List Oper} {o : Oper} {a : Act} {Q : Exit → Act → World → Prop} (hgd : o.guard = none) (s x : Operand)
    (ho : o.op = .call { callee := .builtin .append, args := #[s, x], argTypes := #[22, 22] })
    (base g c n : Nat) (l : List UInt8) (hl : l.length = n) (hs : a.eval s = .slice (some ⟨g, 0, none⟩) n c) (hown : OwnB w0 base g c l)
    (y : UInt8) (hx : a.eval x = .slice (some ⟨w0.heap.size, 0, none⟩) 1 1) (hn : n + 1 ≤ 4294967296) (hbase : base ≤ w0.heap.size)
    (h : ∀ g' c' w', OwnB w' base g' c' (l ++ [y]) → Below base w0 w' → (g' = g ∨ w0.heap.size ≤ g') →
      wpList Try.prog ops Q rest (a.put o.dst (.slice (some ⟨g', 0, none⟩) (n + 1) c')) w') :
    wpList Try.prog ops Q (o :: rest) a (w0.alloc (.cells #[.int .u8 (y.toNat : Int)] 5)) := by
  subst hl
  refine wpList_push w0 hgd s x 22 ho base 5 (.int .u8 0) 1 (by kernel_rfl) infoB8 rfl _ l.length (bvs l) hs hown _ hx rfl hn (by omega) hbase ?_
  intro g' cap w' hown' hgr hat hlt hcap
  refine h g' cap w' ?_ (grown_below hown hgr hbase) ?_
  · show w'.ownsRow base 5 1 _ (l ++ [y]).length (bvs (l ++ [y]))
    rw [bvs_snoc, List.length_append]
    exact hown'
  · rcases hat with h | h
    · left; simp [Value.ownBlock] at h; exact h.symm
    · exact .inr h
theorem wpList_byte_push' (w0 : World) {ops : Array Oper} {rest : List Oper} {o : Oper} {a : Act} {Q : Exit → Act → World → Prop} (hgd : o.guard = none) (s x : Operand)
    (ho : o.op = .call { callee := .builtin .append, args := #[s, x], argTypes := #[22, 22] })
    (base g c n : Nat) (l : List UInt8) (hl : l.length = n) (hs : a.eval s = .slice (some ⟨g, 0, none⟩) n c) (hown : OwnB w0 base g c l)
    (y : UInt8) (z : Int) (hz : (y.toNat : Int) = z) (hx : a.eval x = .slice (some ⟨w0.heap.size, 0, none⟩) 1 1) (hn : n + 1 ≤ 4294967296) (hbase : base ≤ w0.heap.size)
    (h : ∀ g' c' w', OwnB w' base g' c' (l ++ [y]) → Below base w0 w' → (g' = g ∨ w0.heap.size ≤ g') →
      wpList Try.prog ops Q rest (a.put o.dst (.slice (some ⟨g', 0, none⟩) (n + 1) c')) w') :
    wpList Try.prog ops Q (o :: rest) a (w0.alloc (.cells #[.int .u8 z] 5)) := by
  subst hz
  exact wpList_byte_push w0 hgd s x ho base g c n l hl hs hown y hx hn hbase h
end Go.Proofs.Ytkfmjnefbimecaa
