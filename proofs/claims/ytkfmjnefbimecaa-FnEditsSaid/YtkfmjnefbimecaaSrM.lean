/- Reading choices from bytes: what the reader's functions do to its struct, and what numbers they hand out. -/
import Derived.Test.YtkfmjnefbimecaaMga
import Derived.Deep.QuietTactic
import Derived.BigQuiet

namespace Go.Proofs.Ytkfmjnefbimecaa
open Go.RowKit
set_option linter.unusedVariables false
def bz (z : List Int) : List Value := z.map (.int .u8)
theorem bz_get {z : List Int} {k : Nat} {u : Value} (h : (bz z)[k]? = some u) : ∃ x, z[k]? = some x ∧ u = .int .u8 x := by
  simp only [bz, List.getElem?_map, Option.map_eq_some_iff] at h
  obtain ⟨x, hx, rfl⟩ := h
  exact ⟨x, hx, rfl⟩
/-- The bytes 'a[:n]', whose cells lie in blocks below lo. -/
def SlY (w : World) (lo : Nat) (a : Option Addr) (n : Nat) (z : List Int) : Prop := SlV w lo a n (bz z) ∧ ∀ x ∈ z, 0 ≤ x ∧ x ≤ 255
theorem SlY.at_ {w : World} {lo n k : Nat} {a : Option Addr} {z : List Int} (h : SlY w lo a n z) (hk : k < n) : ∃ b off x, a = some ⟨b, off, none⟩ ∧ b < lo ∧ 0 ≤ x ∧ x ≤ 255 ∧ Hid (z[k]? = some x) ∧ w.cell? ⟨b, off + k, none⟩ = some (.int .u8 x) := by
  obtain ⟨b, off, u, e, hb, hu, hc⟩ := h.1.at_ hk
  obtain ⟨x, hx, rfl⟩ := bz_get hu
  have := h.2 x (List.mem_of_getElem? hx)
  exact ⟨b, off, x, e, hb, this.1, this.2, Lib.hid hx, hc⟩
theorem SlY.len {w : World} {lo n : Nat} {a : Option Addr} {z : List Int} (h : SlY w lo a n z) : z.length = n := by have := h.1.1; simpa [bz] using this
theorem SlY.keep {w w' : World} {lo n : Nat} {a : Option Addr} {z : List Int} (h : SlY w lo a n z) (hk : ∀ b o, b < lo → w'.cell? ⟨b, o, none⟩ = w.cell? ⟨b, o, none⟩) : SlY w' lo a n z := ⟨h.1.keep hk, h.2⟩
theorem SlY.below {w w' : World} {lo n B : Nat} {a : Option Addr} {z : List Int} (h : SlY w lo a n z) (hb : Below B w w') (hB : lo ≤ B) : SlY w' lo a n z := ⟨h.1.below hb hB, h.2⟩
theorem SlY.more {w : World} {lo n B : Nat} {a : Option Addr} {z : List Int} (h : SlY w lo a n z) (hB : lo ≤ B) : SlY w B a n z := ⟨h.1.more hB, h.2⟩
theorem IsRow.slY {w : World} {a : Option Addr} {len cap : Nat} {zs : List Int} (h : IsRow .u8 w a len cap zs) : SlY w w.heap.size a len (zs.take len) := by
  rcases h with ⟨rfl, rfl, rfl, rfl⟩ | ⟨x, rfl, hl, hm, hz, hc, hw⟩
  · exact ⟨SlV.nil _ _ _, fun x hx => by simp at hx⟩
  · refine ⟨⟨by simp [bz]; omega, fun h0 => ?_⟩, fun x hx => ?_⟩
    · obtain ⟨b, off, spot⟩ := x
      have h00 := hc 0 (by omega)
      have hspot : spot = none := by simpa [Addr.add] using World.cell?_spot h00
      subst hspot
      refine ⟨b, off, rfl, World.block_lt_of_cell? _ _ (by simpa [Addr.add] using h00), fun j u hu => ?_⟩
      obtain ⟨y, hy, rfl⟩ := bz_get hu
      rw [List.getElem?_take] at hy
      split at hy
      · have hj : j < zs.length := by omega
        have := hc j hj
        rw [List.getD_eq_getElem?_getD, hy] at this
        have e : (⟨b, off, none⟩ : Addr).add j = ⟨b, off + j, none⟩ := by
          unfold Addr.add; by_cases h : j = 0 <;> simp [h]
        rw [e] at this
        simpa using this
      · cases hy
    · have := hw x (List.mem_of_mem_take hx)
      simp [Lit.wf, IntKind.min, IntKind.max, IntKind.signed, IntKind.bits] at this
      omega
/-- The reader in block g, above lo. -/
def Src (w : World) (lo g : Nat) (a : Option Addr) (n c : Nat) (z : List Int) (i : Nat) (sd : Int) : Prop :=
  Row w g 126 [.slice a n c, .int .i64 i, .int .u64 sd] ∧ lo ≤ g ∧ SlY w lo a n z
theorem heap_drewN (w : World) (n : Nat) : (w.drewN n).heap = w.heap := by simp
def SrcOut (w : World) (lo g : Nat) (a : Option Addr) (n c : Nat) (z : List Int) (i m : Nat) (e : Ending) (w' : World) : Prop :=
  ∃ (x : Int) (j : Nat) (sd : Int), 0 ≤ x ∧ x < m ∧ j ≤ i + 2 ∧ e = .returned (.int .i64 x) ∧ Src w' lo g a n c z j sd ∧ Below g w w' ∧ w'.heap.size = w.heap.size ∧ ∀ k, k ≠ g → w'.heap[k]? = w.heap[k]?
theorem Src.keep {w w' : World} {lo g n c i : Nat} {a : Option Addr} {z : List Int} {sd : Int} {B : Nat} (h : Src w lo g a n c z i sd) (hb : Below B w w') (hB : g < B) : Src w' lo g a n c z i sd :=
  ⟨h.1.below hb hB, h.2.1, h.2.2.keep fun b o hlt => hb.cell (p := ⟨b, o, none⟩) (show b < B by have := h.2.1; omega)⟩
theorem and255 (v : Int) : 0 ≤ wrap64 (bits BinOp.and IntKind.u64 v 255) ∧ wrap64 (bits BinOp.and IntKind.u64 v 255) < 256 := by
  have h : (BitVec.ofInt 64 v &&& BitVec.ofInt 64 255).toNat ≤ 255 := by
    rw [BitVec.toNat_and]
    exact Nat.and_le_right
  obtain ⟨m, hm⟩ : ∃ m, (BitVec.ofInt 64 v &&& BitVec.ofInt 64 255).toNat = m := ⟨_, rfl⟩
  have e : bits BinOp.and IntKind.u64 v 255 = IntKind.u64.wrap (m : Int) := by rw [← hm]; rfl
  have e2 : IntKind.u64.wrap (m : Int) = (m : Int) := IntWalk.u64_in _ (by omega)
  rw [e, e2]
  unfold wrap64
  omega
set_option maxHeartbeats 1000000 in
theorem next_any (w : World) (lo g : Nat) (a : Option Addr) (n c : Nat) (z : List Int) (i : Nat) (sd : Int) (h : Src w lo g a n c z i sd) (hi : i ≤ 1000000) (hn : n ≤ maxLen) :
    Calls Try.prog 95 #[.pointer (some ⟨g, 0, none⟩)] w (SrcOut w lo g a n c z i 256) := by
  unfold maxLen at hn
  obtain ⟨hr, hlo, hz⟩ := h
  have c0 := hr.cell 0
  have c1 := hr.cell 1
  have c2 := hr.cell 2
  have f1 := hr.frozen 1
  have f2 := hr.frozen 2
  simp only [List.getElem?_cons_zero, List.getElem?_cons_succ] at c0 c1 c2
  have HR := Lib.hid hr; clear hr
  by_cases hlt : i < n
  · obtain ⟨b, off, x, rfl, hb, x0, x1, hx, hc⟩ := hz.at_ hlt
    have HZ := Lib.hid hz; clear hz hx
    have l1 : (i : Int) + 1 ≤ (n : Int) := by omega
    go_enter Try.func95, Try.ntmps95
    go_wp2
    go_quiet (fail)
    go_wp2
    go_quiet (fail)
    go_wp2
    go_quiet (fail)
    go_wp2
    go_ret
    exact ⟨x, i + 1, _, x0, by omega, by omega, rfl, ⟨(HR.out.set_ 1 _).set_ 2 _, hlo, HZ.out.keep fun b o hlt => by simp [World.cell?_setCell_other]⟩, below_draws (((below_draws (Below.refl g w) _).setCell (p := ⟨g, 1, none⟩) (Nat.le_refl _) _).setCell (p := ⟨g, 2, none⟩) (Nat.le_refl _) _) _, by simp, fun k hk => by rw [heap_drewN, Below.heap_setCell _ ⟨g, 2, none⟩ _ k hk, Below.heap_setCell _ ⟨g, 1, none⟩ _ k hk, heap_drewN]⟩
  · have l1 : (n : Int) ≤ (i : Int) := by omega
    have l2 : (n : Int) < (i : Int) + 1 := by omega
    have HZ := Lib.hid hz; clear hz
    go_enter Try.func95, Try.ntmps95
    go_wp2
    go_quiet (fail)
    go_wp2
    go_quiet (fail)
    go_wp2
    go_ret
    have hv := and255 (IntKind.u64.wrap (IntKind.u64.wrap (IntKind.u64.wrap (sd * 6364136223846793005)) + 1442695040888963407) / 1099511627776)
    exact ⟨_, i + 1, _, hv.1, hv.2, by omega, rfl, ⟨(HR.out.set_ 1 _).set_ 2 _, hlo, HZ.out.keep fun b o hlt => by simp [World.cell?_setCell_other]⟩, below_draws (((below_draws (Below.refl g w) _).setCell (p := ⟨g, 1, none⟩) (Nat.le_refl _) _).setCell (p := ⟨g, 2, none⟩) (Nat.le_refl _) _) _, by simp, fun k hk => by rw [heap_drewN, Below.heap_setCell _ ⟨g, 2, none⟩ _ k hk, Below.heap_setCell _ ⟨g, 1, none⟩ _ k hk, heap_drewN]⟩
set_option maxHeartbeats 1000000 in
theorem pick3_any (w : World) (lo g : Nat) (a : Option Addr) (n c : Nat) (z : List Int) (i : Nat) (sd : Int) (h : Src w lo g a n c z i sd) (hi : i ≤ 1000000) (hn : n ≤ maxLen) (m : Nat) (h1 : 1 < m) (h2 : m ≤ 200) :
    Calls Try.prog 44 #[.pointer (some ⟨g, 0, none⟩), .int .i64 m] w (SrcOut w lo g a n c z i m) := by
  have hN := next_any w lo g a n c z i sd h hi hn
  have q1 : (1 : Int) < (m : Int) := by omega
  have q2 : (m : Int) ≤ 200 := by omega
  clear h
  go_enter Try.func44, Try.ntmps44
  go_wp2_with fail
  refine hN.mono ?_; rintro e w1 ⟨x, j, sd', x0, x1, hj, rfl, hs, hb, hz, hk⟩
  have HZ := Lib.hid hz; have HK := Lib.hid hk; clear hz hN hk
  go_wp2_with fail
  go_ret
  exact ⟨x % m, j, sd', Int.emod_nonneg _ (by omega), Int.emod_lt_of_pos _ (by omega), hj, rfl, hs, hb, HZ.out, HK.out⟩
theorem from_any (w : World) (a : Option Addr) (n c : Nat) (z : List Int) (hz : SlY w w.heap.size a n z) :
    Calls Try.prog 42 #[.slice a n c] w fun e w' => e = .returned (.pointer (some ⟨w.heap.size, 0, none⟩)) ∧ Src w' w.heap.size w.heap.size a n c z 0 0 ∧ Below w.heap.size w w' ∧ w'.heap.size = w.heap.size + 1 := by
  have HZ := Lib.hid hz; clear hz
  go_enter Try.func42, Try.ntmps42
  go_wp2
  go_ret
  exact ⟨rfl, ⟨Row.new w 126 [.slice a n c, .int .i64 0, .int .u64 0], Nat.le_refl _, HZ.out.keep fun b o hlt => World.cell?_alloc_lt w _ ⟨b, o, none⟩ hlt⟩, (Below.refl _ _).alloc (Nat.le_refl _) _, by simp⟩
end Go.Proofs.Ytkfmjnefbimecaa
