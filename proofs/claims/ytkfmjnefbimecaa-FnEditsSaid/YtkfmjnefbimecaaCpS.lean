/- Lists of strings: their copies, equality and size, as the laws make them. -/
import Derived.Test.YtkfmjnefbimecaaMga
import Derived.Deep.QuietTactic
import Derived.BigQuiet
import Derived.Deep.LoopGhost

namespace Go.Proofs.Ytkfmjnefbimecaa
open Go.RowKit
set_option linter.unusedVariables false
def sv (ss : List ByteArray) : List Value := ss.map .string
def SlS (w : World) (B : Nat) (A : Option Addr) (n : Nat) (ss : List ByteArray) : Prop := SlV w B A n (sv ss) ∧ ∀ s ∈ ss, s.size ≤ maxLen
theorem sv_length (ss : List ByteArray) : (sv ss).length = ss.length := by simp [sv]
theorem sv_get {ss : List ByteArray} {k : Nat} {u : Value} (h : (sv ss)[k]? = some u) : ∃ x, ss[k]? = some x ∧ u = .string x := by
  simp only [sv, List.getElem?_map, Option.map_eq_some_iff] at h
  obtain ⟨x, hx, rfl⟩ := h
  exact ⟨x, hx, rfl⟩
theorem sv_take {ss : List ByteArray} {k : Nat} {x : ByteArray} (hx : ss[k]? = some x) : sv (ss.take (k + 1)) = sv (ss.take k) ++ [.string x] := by
  obtain ⟨hk, rfl⟩ := List.getElem?_eq_some_iff.1 hx
  rw [List.take_succ_eq_append_getElem hk, sv, List.map_append]; rfl
section
variable {w w' : World} {B B' n : Nat} {A : Option Addr} {ss : List ByteArray}
theorem SlS.len (h : SlS w B A n ss) : ss.length = n := by have := h.1.len; simpa [sv] using this
theorem SlS.at_ {k : Nat} (h : SlS w B A n ss) (hk : k < n) :
    ∃ b off x, A = some ⟨b, off, none⟩ ∧ b < B ∧ Hid (ss[k]? = some x) ∧ w.cell? ⟨b, off + k, none⟩ = some (.string x) ∧ x.size ≤ maxLen := by
  obtain ⟨b, off, u, e, hb, hu, hc⟩ := h.1.at_ hk
  obtain ⟨x, hx, rfl⟩ := sv_get hu
  exact ⟨b, off, x, e, hb, hx, hc, h.2 x (List.mem_of_getElem? hx)⟩
theorem SlS.below (h : SlS w B A n ss) (hb : Below B' w w') (hB : B ≤ B') : SlS w' B A n ss := ⟨h.1.below hb hB, h.2⟩
theorem SlS.more (h : SlS w B A n ss) (hB : B ≤ B') : SlS w B' A n ss := ⟨h.1.more hB, h.2⟩
end
/-- What came in as a row of strings (the frame's word). -/
def IsRowS (w : World) (a : Option Addr) (len cap : Nat) (ss : List ByteArray) : Prop :=
  (a = none ∧ len = 0 ∧ cap = 0 ∧ ss = []) ∨
  ∃ x, a = some x ∧ len ≤ cap ∧ cap ≤ maxLen ∧ ss.length = cap ∧ (∀ i, i < ss.length → w.cell? (x.add i) = some (.string (ss.getD i ByteArray.empty))) ∧ ∀ s ∈ ss, s.size ≤ maxLen
theorem IsRowS.sl {w : World} {a : Option Addr} {len cap : Nat} {ss : List ByteArray} (h : IsRowS w a len cap ss) : SlS w w.heap.size a len (ss.take len) := by
  rcases h with ⟨rfl, rfl, rfl, rfl⟩ | ⟨x, rfl, hl, hm, hz, hc, hw⟩
  · exact ⟨SlV.nil _ _ _, fun s hs => by simp at hs⟩
  · refine ⟨⟨by simp [sv]; omega, fun h0 => ?_⟩, fun s hs => hw s (List.mem_of_mem_take hs)⟩
    obtain ⟨b, off, spot⟩ := x
    have h00 := hc 0 (by omega)
    have hspot : spot = none := by simpa [Addr.add] using World.cell?_spot h00
    subst hspot
    refine ⟨b, off, rfl, World.block_lt_of_cell? _ _ (by simpa [Addr.add] using h00), fun j u hu => ?_⟩
    obtain ⟨y, hy, rfl⟩ := sv_get hu
    rw [List.getElem?_take] at hy
    split at hy
    · have hj : j < ss.length := by omega
      have := hc j hj
      rw [List.getD_eq_getElem?_getD, hy] at this
      have e : (⟨b, off, none⟩ : Addr).add j = ⟨b, off + j, none⟩ := by
        unfold Addr.add; by_cases h : j = 0 <;> simp [h]
      rw [e] at this
      simpa using this
    · cases hy
theorem IsRowS.lens {w : World} {a : Option Addr} {len cap : Nat} {ss : List ByteArray} (h : IsRowS w a len cap ss) : len ≤ cap ∧ cap ≤ maxLen ∧ ss.length = cap := by
  rcases h with ⟨rfl, rfl, rfl, rfl⟩ | ⟨x, rfl, hl, hm, hz, hc, hw⟩
  · simp
  · exact ⟨hl, hm, hz⟩
theorem infoStr : (Try.prog.info? 9).map (fun i => (i.zero, i.size, i.bytes)) = some (some (.string ⟨#[]⟩), 1, 16) := by kernel_rfl
/-- A row of strings of the call's own. -/
theorem RowS.sl {w : World} {g n : Nat} {t : TypeId} {ss : List ByteArray} (h : Row w g t (sv ss)) (hn : ss.length = n) (hs : ∀ s ∈ ss, s.size ≤ maxLen) : SlS w w.heap.size (some ⟨g, 0, none⟩) n ss := by
  subst hn
  have := h.sl
  rw [sv_length] at this
  exact ⟨this, hs⟩

end Go.Proofs.Ytkfmjnefbimecaa
