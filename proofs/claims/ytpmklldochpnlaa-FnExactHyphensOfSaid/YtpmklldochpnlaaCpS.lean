/- Lists of strings: their copies, equality and size, as the laws make them. -/
import Derived.Test.YtpmklldochpnlaaTxt
import Derived.Deep.QuietTactic
import Derived.BigQuiet
import Derived.Deep.LoopGhost
namespace Go.Proofs.Ytpmklldochpnlaa
open Go.RowKit
set_option linter.unusedVariables false
def sv (ss : List ByteArray) : List Value := ss.map .string
def SlS (w : World) (B : Nat) (A : Option Addr) (n : Nat) (ss : List ByteArray) : Prop := SlV w B A n (sv ss) ∧ ∀ s ∈ ss, s.size ≤ maxLen
theorem sv_length (ss : List ByteArray) : (sv ss).length = ss.length := by simp [sv]
theorem sv_get {ss : List ByteArray} {k : Nat} {u : Value} (h : (sv ss)[k]? = some u) : ∃ x, ss[k]? = some x ∧ u = .string x := by
  simp only [sv, List.getElem?_map, Option.map_eq_some_iff] at h
  obtain ⟨x, hx, rfl⟩ := h
  exact ⟨x, hx, rfl⟩
theorem sv_take {ss : List ByteArray} {k : Nat} {x : ByteArray} (hx : ss[k]? = some x) : sv (ss.take (k + 1)) = sv (ss.take k) ++ [.string x] := by
  obtain ⟨hk, rfl⟩ := List.getElem?_eq_some_iff.1 hx
  rw [List.take_succ_eq_append_getElem hk, sv, List.map_append]; rfl
section
variable {w w' : World} {B B' n : Nat} {A : Option Addr} {ss : List ByteArray}
theorem SlS.len (h : SlS w B A n ss) : ss.length = n := by have := h.1.len; simpa [sv] using this
theorem SlS.at_ {k : Nat} (h : SlS w B A n ss) (hk : k < n) :
    ∃ b off x, A = some ⟨b, off, none⟩ ∧ b < B ∧ Hid (ss[k]? = some x) ∧ w.cell? ⟨b, off + k, none⟩ = some (.string x) ∧ x.size ≤ maxLen := by
  obtain ⟨b, off, u, e, hb, hu, hc⟩ := h.1.at_ hk
  obtain ⟨x, hx, rfl⟩ := sv_get hu
  exact ⟨b, off, x, e, hb, hx, hc, h.2 x (List.mem_of_getElem? hx)⟩
theorem SlS.below (h : SlS w B A n ss) (hb : Below B' w w') (hB : B ≤ B') : SlS w' B A n ss := ⟨h.1.below hb hB, h.2⟩
theorem SlS.more (h : SlS w B A n ss) (hB : B ≤ B') : SlS w B' A n ss := ⟨h.1.more hB, h.2⟩
end
/-- What came in as a row of strings (the frame's word). -/
def IsRowS (w : World) (a : Option Addr) (len cap : Nat) (ss : List ByteArray) : Prop :=
  (a = none ∧ len = 0 ∧ cap = 0 ∧ ss = []) ∨
  ∃ x, a = some x ∧ len ≤ cap ∧ cap ≤ maxLen ∧ ss.length = cap ∧ (∀ i, i < ss.length → w.cell? (x.add i) = some (.string (ss.getD i ByteArray.empty))) ∧ ∀ s ∈ ss, s.size ≤ maxLen
theorem IsRowS.sl {w : World} {a : Option Addr} {len cap : Nat} {ss : List ByteArray} (h : IsRowS w a len cap ss) : SlS w w.heap.size a len (ss.take len) := by
  rcases h with ⟨rfl, rfl, rfl, rfl⟩ | ⟨x, rfl, hl, hm, hz, hc, hw⟩
  · exact ⟨SlV.nil _ _ _, fun s hs => by simp at hs⟩
  · refine ⟨⟨by simp [sv]; omega, fun h0 => ?_⟩, fun s hs => hw s (List.mem_of_mem_take hs)⟩
    obtain ⟨b, off, spot⟩ := x
    have h00 := hc 0 (by omega)
    have hspot : spot = none := by simpa [Addr.add] using World.cell?_spot h00
    subst hspot
    refine ⟨b, off, rfl, World.block_lt_of_cell? _ _ (by simpa [Addr.add] using h00), fun j u hu => ?_⟩
    obtain ⟨y, hy, rfl⟩ := sv_get hu
    rw [List.getElem?_take] at hy
    split at hy
    · have hj : j < ss.length := by omega
      have := hc j hj
      rw [List.getD_eq_getElem?_getD, hy] at this
      have e : (⟨b, off, none⟩ : Addr).add j = ⟨b, off + j, none⟩ := by
        unfold Addr.add; by_cases h : j = 0 <;> simp [h]
      rw [e] at this
      simpa using this
    · cases hy
theorem IsRowS.lens {w : World} {a : Option Addr} {len cap : Nat} {ss : List ByteArray} (h : IsRowS w a len cap ss) : len ≤ cap ∧ cap ≤ maxLen ∧ ss.length = cap := by
  rcases h with ⟨rfl, rfl, rfl, rfl⟩ | ⟨x, rfl, hl, hm, hz, hc, hw⟩
  · simp
  · exact ⟨hl, hm, hz⟩
theorem infoStr : (Try.prog.info? 9).map (fun i => (i.zero, i.size, i.bytes)) = some (some (.string ⟨#[]⟩), 1, 16) := by kernel_rfl
/-- A row of strings of the call's own. -/
theorem RowS.sl {w : World} {g n : Nat} {t : TypeId} {ss : List ByteArray} (h : Row w g t (sv ss)) (hn : ss.length = n) (hs : ∀ s ∈ ss, s.size ≤ maxLen) : SlS w w.heap.size (some ⟨g, 0, none⟩) n ss := by
  subst hn
  have := h.sl
  rw [sv_length] at this
  exact ⟨this, hs⟩

set_option maxHeartbeats 400000 in
theorem toStringS_any (A : Option Addr) (n c : Nat) (ss : List ByteArray) (w : World) (h : SlS w w.heap.size A n ss) (hn : n ≤ 4294967296) :
    Calls Try.prog 18 #[.slice A n c] w fun e w' => ∃ g, e = .returned (.slice (some ⟨g, 0, none⟩) n n) ∧ w.heap.size ≤ g ∧ Row w' g 9 (sv ss) ∧ Below w.heap.size w w' := by
  have hl := Lib.hid h.len
  have H := Lib.hid h; clear h
  have hmk := run_make_row' (P := Try.prog) 28 9 (.string ⟨#[]⟩) 16 Try.underlying28 infoStr rfl .i64 .i64 n (by omega) (by omega)
  go_enter Try.func18, Try.ntmps18
  go_wp2
  clear hmk
  go_loopw [4] (fun i wr => ∃ k : Nat, k ≤ n ∧ i = .int .i64 k ∧ Row wr w.heap.size 9 (fill (sv (ss.take k)) n (.string ⟨#[]⟩)) ∧ Below w.heap.size w wr) (fun i wr => n - (intOf i).toNat)
  case atStart => exact ⟨0, by omega, rfl, by rw [List.take_zero, show sv [] = [] from rfl, fill_nil]; exact Row.made _ _ _ _, (Below.refl _ _).alloc (Nat.le_refl _) _⟩
  case round =>
    obtain ⟨k, hk, rfl, hr, hb⟩ := hrel
    have HR := Lib.hid hr; clear hr
    by_cases hlt : k < n
    · obtain ⟨b, off, x, rfl, hbB, hx, hc, hxs⟩ := (H.out.below hb (Nat.le_refl _)).at_ hlt
      have hlen : Hid ((sv (ss.take k)).length = k) := by show _ = k; rw [sv_length, List.length_take, hl.out]; omega
      have hc2 : wr.cell? ⟨w.heap.size, k, none⟩ = some (.string ⟨#[]⟩) := by rw [HR.out.cell, fill_at hlen.out hlt]
      have hf2 := HR.out.frozen k
      go_wp2
      go_roundw
      case rel => exact ⟨k + 1, by omega, by go_num, by rw [sv_take hx.out, ← fill_set hlen.out hlt]; exact HR.out.set_ _ _, hb.setCell (Nat.le_refl _) _⟩
      case measure => simp [intOf]; omega
    · obtain rfl : n = k := by omega
      go_wp2
      go_ret
      refine ⟨_, rfl, Nat.le_refl _, ?_, hb⟩
      have := HR.out
      rw [take_all hl.out, fill_full (by rw [sv_length, hl.out])] at this
      exact this

set_option maxHeartbeats 400000 in
theorem eqStringS_any (A : Option Addr) (n c : Nat) (ss : List ByteArray) (A' : Option Addr) (n' c' : Nat) (ts : List ByteArray) (w : World) (B B' : Nat) (h : SlS w B A n ss) (h' : SlS w B' A' n' ts) (hn : n ≤ 4294967296) (hn' : n' ≤ 4294967296) :
    Calls Try.prog 20 #[.slice A n c, .slice A' n' c'] w fun e w' => e = .returned (.bool (decide (ss = ts))) ∧ Below w.heap.size w w' := by
  have hl := Lib.hid h.len
  have hl' := Lib.hid h'.len
  have H := Lib.hid h; clear h
  have H' := Lib.hid h'; clear h'
  by_cases hnn : n = n'
  · subst hnn
    go_enter Try.func20, Try.ntmps20
    go_wp2
    go_loopw [5] (fun i wr => ∃ k : Nat, k ≤ n ∧ i = .int .i64 k ∧ ss.take k = ts.take k ∧ ∃ q, wr = w.drewN q) (fun i wr => n - (intOf i).toNat)
    case atStart => exact ⟨0, by omega, rfl, rfl, 0, rfl⟩
    case round =>
      obtain ⟨k, hk, rfl, he, q, rfl⟩ := hrel
      have HE := Lib.hid he; clear he
      by_cases hlt : k < n
      · obtain ⟨b, off, x, rfl, hbB, hx, hc, hxs⟩ := H.out.at_ hlt
        obtain ⟨b', off', y, rfl, hbB', hy, hc', hys⟩ := H'.out.at_ hlt
        have hi0 : (0 : Int) ≤ (k : Int) := by omega
        have hi1 : (k : Int) < (n : Int) := by omega
        by_cases hxy : x = y
        · subst hxy
          have hq := str_eq (rfl : x = x)
          go_wp2
          go_quiet (fail)
          go_wp2
          exact ⟨⟨k + 1, by omega, by go_num, take_eq_succ HE.out hx.out hy.out, _, rfl⟩, by simp [intOf]; omega⟩
        · have h1 := str_ne hxy
          have h2 : (x.toList != y.toList) = true := by rw [bne, h1]; rfl
          have HXY := Lib.hid hxy; clear hxy
          go_wp2
          go_quiet (fail)
          go_wp2
          go_ret
          refine ⟨ret_bool (decide_eq_false (fun e => ?_)).symm, below_draws (below_draws (Below.refl _ _) _) _⟩
          have hx' := hx.out
          rw [e, hy.out] at hx'
          exact HXY.out (Option.some.inj hx').symm
      · obtain rfl : n = k := by omega
        go_wp2
        go_ret
        refine ⟨ret_bool ?_, below_draws (Below.refl _ _) _⟩
        have := HE.out
        rw [take_all hl.out, take_all hl'.out] at this
        exact (decide_eq_true this).symm
  · have h1 : ((n : Int) == n') = false := by simp; omega
    have h2 : ((n : Int) != n') = true := by simp; omega
    have HN := Lib.hid hnn; clear hnn
    go_enter Try.func20, Try.ntmps20
    go_wp2
    go_ret
    exact ⟨ret_bool (decide_eq_false (fun e => HN.out (by rw [← hl.out, ← hl'.out, e]))).symm, Below.refl _ _⟩

set_option maxHeartbeats 400000 in
theorem szStringS_any (A : Option Addr) (n c : Nat) (ss : List ByteArray) (left : Int) (w : World) (B : Nat) (h : SlS w B A n ss) (h0 : 0 ≤ left) (h1 : left ≤ 1048576) (hnm : n ≤ maxLen) :
    Calls Try.prog 16 #[.slice A n c, .int .i64 left] w fun e w' => ∃ z : Int, e = .returned (.int .i64 z) ∧ -1 ≤ z ∧ z ≤ 1048576 ∧ (0 ≤ z → n ≤ 1048576) ∧ w = w' := by
  have H := Lib.hid h; clear h
  unfold maxLen at hnm
  by_cases hb : left - (n : Int) < 0
  · go_enter Try.func16, Try.ntmps16
    go_wp2
    go_ret
    exact ⟨-1, rfl, by omega, by omega, fun h => by omega, rfl⟩
  · have hb' : (0 : Int) ≤ left - (n : Int) := by omega
    clear hb
    go_enter Try.func16, Try.ntmps16
    go_wp2
    go_loopg [1, 5] n (fun m l i wr => ∃ (k : Nat) (z : Int), l = .int .i64 z ∧ i = .int .i64 k ∧ k ≤ n ∧ n ≤ m + k ∧ 0 ≤ z ∧ z ≤ 1048576 ∧ wr = w)
    case atStart => exact ⟨0, _, rfl, rfl, by omega, by omega, by omega, by omega, rfl⟩
    case round =>
      obtain ⟨k, z, rfl, rfl, hk, hm, hz0, hz1, rfl⟩ := hrel
      by_cases hlt : k < n
      · obtain ⟨b, off, x, rfl, hbB, hx, hc, hxs⟩ := H.out.at_ hlt
        have l1 : (0 : Int) ≤ (k : Int) := by omega
        unfold maxLen at hxs
        by_cases hz : z - (x.size : Int) < 0
        · go_wp2
          go_ret
          exact ⟨-1, rfl, by omega, by omega, fun h => by omega, rfl⟩
        · have hz' : (0 : Int) ≤ z - (x.size : Int) := by omega
          clear hz
          go_wp2
          go_roundg (gk - 1)
          case measure => omega
          case rel => exact ⟨k + 1, _, rfl, by go_num, by omega, by omega, by omega, by omega, rfl⟩
      · obtain rfl : n = k := by omega
        go_wp2
        go_ret
        exact ⟨z, rfl, by omega, by omega, fun h => by omega, rfl⟩
end Go.Proofs.Ytpmklldochpnlaa
