/- Several texts in one: Machines built of others, plainly: the sums over the parts of a word, as the law reckons them; what CostOf tells. Reading choices from bytes: what the reader's functions do to its struct, and what numbers they hand out. -/
import Derived.Test.YtedbngnkkfpbeaaMgn
import Derived.Test.YtedbngnkkfpbeaaBwQ
import Derived.Test.YtedbngnkkfpbeaaMga
import Derived.Test.YtedbngnkkfpbeaaMge
import Derived.Deep.QuietTactic
import Derived.BigQuiet

namespace Go.Proofs.Ytedbngnkkfpbeaa
open Go.RowKit
set_option linter.unusedVariables false
/-- The least of f 0, .., f (k - 1). -/
def dpL (f : Nat → Int) : Nat → Int
  | 0 => -1
  | k + 1 => r8L (dpL f k) (f k)
theorem dpL_cv {f : Nat → Int} {Q : Nat → Int → Prop} : ∀ {k : Nat}, (∀ i, i < k → Cv (f i) (Q i)) → Cv (dpL f k) (fun c => ∃ i, i < k ∧ Q i c)
  | 0, _ => Cv.congr Cv.none (fun c => ⟨fun h => h.elim, fun ⟨i, h, _⟩ => by omega⟩)
  | k + 1, h => by
    refine ((dpL_cv (k := k) (fun i hi => h i (by omega))).or (h k (by omega))).congr (fun c => ⟨?_, ?_⟩)
    · rintro (⟨i, hi, hq⟩ | hq)
      · exact ⟨i, by omega, hq⟩
      · exact ⟨k, by omega, hq⟩
    · rintro ⟨i, hi, hq⟩
      by_cases e : i = k
      · subst e; exact .inr hq
      · exact .inl ⟨i, by omega, hq⟩
/-- All ways to part a word in two. -/
theorem cv_joined {W W' : List Int → Int → Prop} {w : List Int} {p q : Nat → Int} (hp : ∀ k, k ≤ w.length → Cv (p k) (W (w.take k))) (hq : ∀ k, k ≤ w.length → Cv (q k) (W' (w.drop k))) :
    Cv (dpL (fun k => r8A (p k) (q k)) (w.length + 1)) (fun c => ∃ u v c1 c2, w = u ++ v ∧ W u c1 ∧ W' v c2 ∧ c = c1 + c2) := by
  refine (dpL_cv (Q := fun k c => ∃ c1 c2, W (w.take k) c1 ∧ W' (w.drop k) c2 ∧ c = c1 + c2) (fun i hi => (hp i (by omega)).add (hq i (by omega)))).congr (fun c => ⟨?_, ?_⟩)
  · rintro ⟨i, hi, c1, c2, h1, h2, e⟩
    exact ⟨w.take i, w.drop i, c1, c2, (List.take_append_drop i w).symm, h1, h2, e⟩
  · rintro ⟨u, v, c1, c2, rfl, h1, h2, e⟩
    exact ⟨u.length, by simp; omega, c1, c2, by simpa using h1, by simpa using h2, e⟩
section
variable {W : List Int → Int → Prop}
theorem Str.nonneg (hW : ∀ u c, W u c → 0 ≤ c) {w : List Int} {c : Int} (h : Str W w c) : 0 ≤ c := by
  induction h with
  | nil => omega
  | cons h1 _ ih => have := hW _ _ h1; omega
theorem Str.snoc {w u : List Int} {c c' : Int} (h : Str W w c) (h' : W u c') : Str W (w ++ u) (c + c') := by
  induction h with
  | nil =>
    have := Str.cons h' (Str.nil (W := W))
    rw [List.append_nil] at this
    rwa [List.nil_append, show (0 : Int) + c' = c' + 0 by omega]
  | @cons u0 v0 c0 c1 h1 _ ih =>
    rw [List.append_assoc, show c0 + c1 + c' = c0 + (c1 + c') by omega]
    exact .cons h1 ih
/-- The last word that is not empty. -/
theorem Str.last (hW : ∀ u c, W u c → 0 ≤ c) {w : List Int} {c : Int} (h : Str W w c) : w ≠ [] → ∃ i c1 c2, i < w.length ∧ Str W (w.take i) c1 ∧ W (w.drop i) c2 ∧ c1 + c2 ≤ c := by
  induction h with
  | nil => exact fun h => absurd rfl h
  | @cons u v c c' h1 h2 ih =>
    intro hne
    cases v with
    | nil =>
      have h0 := h2.nonneg hW
      refine ⟨0, 0, c, ?_, by simpa using Str.nil, by simpa using h1, by omega⟩
      cases u with
      | nil => exact absurd rfl hne
      | cons a u => simp
    | cons a v =>
      obtain ⟨i, c1, c2, hi, g1, g2, e⟩ := ih (by simp)
      refine ⟨u.length + i, c + c1, c2, by simp at hi ⊢; omega, ?_, ?_, by omega⟩
      · rw [List.take_append, List.take_of_length_le (by omega), show u.length + i - u.length = i by omega]; exact .cons h1 g1
      · rw [List.drop_append, List.drop_of_length_le (by omega), show u.length + i - u.length = i by omega, List.nil_append]; exact g2
/-- The table of least costs of the beginnings of a word. -/
theorem cv_star (hW : ∀ u c, W u c → 0 ≤ c) {w : List Int} {least : Nat → Int} {p : Nat → Nat → Int} (h0 : least 0 = 0) (hl : ∀ k, 0 < k → k ≤ w.length → least k = dpL (fun i => r8A (least i) (p i k)) k)
    (hp : ∀ i k, i < k → k ≤ w.length → Cv (p i k) (W ((w.take k).drop i))) : ∀ m k, k ≤ m → k ≤ w.length → Cv (least k) (Str W (w.take k))
  | 0, k, hk, _ => by
    obtain rfl : k = 0 := by omega
    rw [h0, List.take_zero]
    exact .inr ⟨Int.le_refl _, .nil, fun c hc => hc.nonneg hW⟩
  | m + 1, k, hk, hkw => by
    by_cases h : k ≤ m
    · exact cv_star hW h0 hl hp m k h hkw
    · obtain rfl : k = m + 1 := by omega
      rw [hl (m + 1) (by omega) hkw]
      have hd := dpL_cv (f := fun i => r8A (least i) (p i (m + 1))) (Q := fun i c => ∃ c1 c2, Str W (w.take i) c1 ∧ W ((w.take (m + 1)).drop i) c2 ∧ c = c1 + c2) (k := m + 1) (fun i hi => (cv_star hW h0 hl hp m i (by omega) (by omega)).add (hp i (m + 1) hi hkw))
      have ht : ∀ i, i < m + 1 → (w.take (m + 1)).take i = w.take i := fun i hi => by rw [List.take_take, Nat.min_eq_left (by omega)]
      refine hd.sub ?_ ?_
      · rintro c ⟨i, hi, c1, c2, h1, h2, rfl⟩
        have := h1.snoc h2
        rw [← ht i hi, List.take_append_drop] at this
        exact this
      · intro c hc
        obtain ⟨i, c1, c2, hi, h1, h2, e⟩ := hc.last hW (by
          intro e
          have h9 : (w.take (m + 1)).length = m + 1 := by rw [List.length_take]; omega
          rw [e] at h9
          cases h9)
        have hi' : i < m + 1 := by rw [List.length_take] at hi; omega
        rw [ht i hi'] at h1
        exact ⟨c1 + c2, e, i, hi', c1, c2, h1, h2, rfl⟩
end
theorem bwd_rev {xs : List Int} : ∀ {k : Nat}, k ≤ xs.length → bwd xs k = (xs.take k).reverse
  | 0, _ => by simp [bwd]
  | k + 1, h => by
    rw [bwd, bwd_rev (by omega), List.take_succ_eq_append_getElem (by omega), List.reverse_append]
    have : g0 xs k = xs[k] := g0_get (List.getElem?_eq_getElem (by omega))
    rw [this]; rfl
/-- What CostOf tells. -/
theorem cv_co {T : Nat} {L : List A4} {P E : List Int} (ho : Okw T L P E) {xs : List Int} (hx : xs.length ≤ 12) : Cv (coV 1099511627776 L P E xs) (Wc L P E xs) := by
  have h2 := lst_co (F := 1099511627776) (by omega) ho.arcs (fun x hx => by have := ho.st x hx; omega) (fun x hx => by have := ho.en x hx; omega) ho.len.symm xs
  rw [bwd_rev (Nat.le_refl _), List.take_length] at h2
  have h3 := h2.congr (fun c => tw_wc ho.arcs ho.len xs c)
  have h4 := Cv.of_lst h3 (fun c h => h.nonneg ho.arcs) (fun c hc => by
    obtain ⟨c', hle, ht⟩ := ((tw_wc ho.arcs ho.len xs c).2 hc).short ho.arcs ho.st ho.en
    refine ⟨c', (tw_wc ho.arcs ho.len xs c').1 ht, ?_⟩
    rw [List.length_reverse] at hle
    have hn := ho.n
    have : (1000 * (P.length : Int) + 1000) * ((xs.length : Int) + 1) ≤ 17000 * 13 := Int.mul_le_mul (by omega) (by omega) (by omega) (by omega)
    omega)
  unfold coV lsV
  rw [woV_len]
  exact h4
end Go.Proofs.Ytedbngnkkfpbeaa


namespace Go.Proofs.Ytedbngnkkfpbeaa
open Go.RowKit
set_option linter.unusedVariables false
def bz (z : List Int) : List Value := z.map (.int .u8)
theorem bz_get {z : List Int} {k : Nat} {u : Value} (h : (bz z)[k]? = some u) : ∃ x, z[k]? = some x ∧ u = .int .u8 x := by
  simp only [bz, List.getElem?_map, Option.map_eq_some_iff] at h
  obtain ⟨x, hx, rfl⟩ := h
  exact ⟨x, hx, rfl⟩
/-- The bytes 'a[:n]', whose cells lie in blocks below lo. -/
def SlY (w : World) (lo : Nat) (a : Option Addr) (n : Nat) (z : List Int) : Prop := SlV w lo a n (bz z) ∧ ∀ x ∈ z, 0 ≤ x ∧ x ≤ 255
theorem SlY.at_ {w : World} {lo n k : Nat} {a : Option Addr} {z : List Int} (h : SlY w lo a n z) (hk : k < n) : ∃ b off x, a = some ⟨b, off, none⟩ ∧ b < lo ∧ 0 ≤ x ∧ x ≤ 255 ∧ Hid (z[k]? = some x) ∧ w.cell? ⟨b, off + k, none⟩ = some (.int .u8 x) := by
  obtain ⟨b, off, u, e, hb, hu, hc⟩ := h.1.at_ hk
  obtain ⟨x, hx, rfl⟩ := bz_get hu
  have := h.2 x (List.mem_of_getElem? hx)
  exact ⟨b, off, x, e, hb, this.1, this.2, Lib.hid hx, hc⟩
theorem SlY.len {w : World} {lo n : Nat} {a : Option Addr} {z : List Int} (h : SlY w lo a n z) : z.length = n := by have := h.1.1; simpa [bz] using this
theorem SlY.keep {w w' : World} {lo n : Nat} {a : Option Addr} {z : List Int} (h : SlY w lo a n z) (hk : ∀ b o, b < lo → w'.cell? ⟨b, o, none⟩ = w.cell? ⟨b, o, none⟩) : SlY w' lo a n z := ⟨h.1.keep hk, h.2⟩
theorem SlY.below {w w' : World} {lo n B : Nat} {a : Option Addr} {z : List Int} (h : SlY w lo a n z) (hb : Below B w w') (hB : lo ≤ B) : SlY w' lo a n z := ⟨h.1.below hb hB, h.2⟩
theorem SlY.more {w : World} {lo n B : Nat} {a : Option Addr} {z : List Int} (h : SlY w lo a n z) (hB : lo ≤ B) : SlY w B a n z := ⟨h.1.more hB, h.2⟩
theorem IsRow.slY {w : World} {a : Option Addr} {len cap : Nat} {zs : List Int} (h : IsRow .u8 w a len cap zs) : SlY w w.heap.size a len (zs.take len) := by
  rcases h with ⟨rfl, rfl, rfl, rfl⟩ | ⟨x, rfl, hl, hm, hz, hc, hw⟩
  · exact ⟨SlV.nil _ _ _, fun x hx => by simp at hx⟩
  · refine ⟨⟨by simp [bz]; omega, fun h0 => ?_⟩, fun x hx => ?_⟩
    · obtain ⟨b, off, spot⟩ := x
      have h00 := hc 0 (by omega)
      have hspot : spot = none := by simpa [Addr.add] using World.cell?_spot h00
      subst hspot
      refine ⟨b, off, rfl, World.block_lt_of_cell? _ _ (by simpa [Addr.add] using h00), fun j u hu => ?_⟩
      obtain ⟨y, hy, rfl⟩ := bz_get hu
      rw [List.getElem?_take] at hy
      split at hy
      · have hj : j < zs.length := by omega
        have := hc j hj
        rw [List.getD_eq_getElem?_getD, hy] at this
        have e : (⟨b, off, none⟩ : Addr).add j = ⟨b, off + j, none⟩ := by
          unfold Addr.add; by_cases h : j = 0 <;> simp [h]
        rw [e] at this
        simpa using this
      · cases hy
    · have := hw x (List.mem_of_mem_take hx)
      simp [Lit.wf, IntKind.min, IntKind.max, IntKind.signed, IntKind.bits] at this
      omega
/-- The reader in block g, above lo. -/
def Src (w : World) (lo g : Nat) (a : Option Addr) (n c : Nat) (z : List Int) (i : Nat) (sd : Int) : Prop :=
  Row w g 87 [.slice a n c, .int .i64 i, .int .u64 sd] ∧ lo ≤ g ∧ SlY w lo a n z
theorem heap_drewN (w : World) (n : Nat) : (w.drewN n).heap = w.heap := by simp
def SrcOut (w : World) (lo g : Nat) (a : Option Addr) (n c : Nat) (z : List Int) (i m : Nat) (e : Ending) (w' : World) : Prop :=
  ∃ (x : Int) (j : Nat) (sd : Int), 0 ≤ x ∧ x < m ∧ j ≤ i + 2 ∧ e = .returned (.int .i64 x) ∧ Src w' lo g a n c z j sd ∧ Below g w w' ∧ w'.heap.size = w.heap.size ∧ ∀ k, k ≠ g → w'.heap[k]? = w.heap[k]?
theorem Src.keep {w w' : World} {lo g n c i : Nat} {a : Option Addr} {z : List Int} {sd : Int} {B : Nat} (h : Src w lo g a n c z i sd) (hb : Below B w w') (hB : g < B) : Src w' lo g a n c z i sd :=
  ⟨h.1.below hb hB, h.2.1, h.2.2.keep fun b o hlt => hb.cell (p := ⟨b, o, none⟩) (show b < B by have := h.2.1; omega)⟩
theorem and255 (v : Int) : 0 ≤ wrap64 (bits BinOp.and IntKind.u64 v 255) ∧ wrap64 (bits BinOp.and IntKind.u64 v 255) < 256 := by
  have h : (BitVec.ofInt 64 v &&& BitVec.ofInt 64 255).toNat ≤ 255 := by
    rw [BitVec.toNat_and]
    exact Nat.and_le_right
  obtain ⟨m, hm⟩ : ∃ m, (BitVec.ofInt 64 v &&& BitVec.ofInt 64 255).toNat = m := ⟨_, rfl⟩
  have e : bits BinOp.and IntKind.u64 v 255 = IntKind.u64.wrap (m : Int) := by rw [← hm]; rfl
  have e2 : IntKind.u64.wrap (m : Int) = (m : Int) := IntWalk.u64_in _ (by omega)
  rw [e, e2]
  unfold wrap64
  omega
set_option maxHeartbeats 1000000 in
theorem next_any (w : World) (lo g : Nat) (a : Option Addr) (n c : Nat) (z : List Int) (i : Nat) (sd : Int) (h : Src w lo g a n c z i sd) (hi : i ≤ 1000000) (hn : n ≤ maxLen) :
    Calls Try.prog 59 #[.pointer (some ⟨g, 0, none⟩)] w (SrcOut w lo g a n c z i 256) := by
  unfold maxLen at hn
  obtain ⟨hr, hlo, hz⟩ := h
  have c0 := hr.cell 0
  have c1 := hr.cell 1
  have c2 := hr.cell 2
  have f1 := hr.frozen 1
  have f2 := hr.frozen 2
  simp only [List.getElem?_cons_zero, List.getElem?_cons_succ] at c0 c1 c2
  have HR := Lib.hid hr; clear hr
  by_cases hlt : i < n
  · obtain ⟨b, off, x, rfl, hb, x0, x1, hx, hc⟩ := hz.at_ hlt
    have HZ := Lib.hid hz; clear hz hx
    have l1 : (i : Int) + 1 ≤ (n : Int) := by omega
    go_enter Try.func59, Try.ntmps59
    go_wp2
    go_quiet (fail)
    go_wp2
    go_quiet (fail)
    go_wp2
    go_quiet (fail)
    go_wp2
    go_ret
    exact ⟨x, i + 1, _, x0, by omega, by omega, rfl, ⟨(HR.out.set_ 1 _).set_ 2 _, hlo, HZ.out.keep fun b o hlt => by simp [World.cell?_setCell_other]⟩, below_draws (((below_draws (Below.refl g w) _).setCell (p := ⟨g, 1, none⟩) (Nat.le_refl _) _).setCell (p := ⟨g, 2, none⟩) (Nat.le_refl _) _) _, by simp, fun k hk => by rw [heap_drewN, Below.heap_setCell _ ⟨g, 2, none⟩ _ k hk, Below.heap_setCell _ ⟨g, 1, none⟩ _ k hk, heap_drewN]⟩
  · have l1 : (n : Int) ≤ (i : Int) := by omega
    have l2 : (n : Int) < (i : Int) + 1 := by omega
    have HZ := Lib.hid hz; clear hz
    go_enter Try.func59, Try.ntmps59
    go_wp2
    go_quiet (fail)
    go_wp2
    go_quiet (fail)
    go_wp2
    go_ret
    have hv := and255 (IntKind.u64.wrap (IntKind.u64.wrap (IntKind.u64.wrap (sd * 6364136223846793005)) + 1442695040888963407) / 1099511627776)
    exact ⟨_, i + 1, _, hv.1, hv.2, by omega, rfl, ⟨(HR.out.set_ 1 _).set_ 2 _, hlo, HZ.out.keep fun b o hlt => by simp [World.cell?_setCell_other]⟩, below_draws (((below_draws (Below.refl g w) _).setCell (p := ⟨g, 1, none⟩) (Nat.le_refl _) _).setCell (p := ⟨g, 2, none⟩) (Nat.le_refl _) _) _, by simp, fun k hk => by rw [heap_drewN, Below.heap_setCell _ ⟨g, 2, none⟩ _ k hk, Below.heap_setCell _ ⟨g, 1, none⟩ _ k hk, heap_drewN]⟩
set_option maxHeartbeats 1000000 in
theorem pick3_any (w : World) (lo g : Nat) (a : Option Addr) (n c : Nat) (z : List Int) (i : Nat) (sd : Int) (h : Src w lo g a n c z i sd) (hi : i ≤ 1000000) (hn : n ≤ maxLen) (m : Nat) (h1 : 1 < m) (h2 : m ≤ 200) :
    Calls Try.prog 27 #[.pointer (some ⟨g, 0, none⟩), .int .i64 m] w (SrcOut w lo g a n c z i m) := by
  have hN := next_any w lo g a n c z i sd h hi hn
  have q1 : (1 : Int) < (m : Int) := by omega
  have q2 : (m : Int) ≤ 200 := by omega
  clear h
  go_enter Try.func27, Try.ntmps27
  go_wp2_with fail
  refine hN.mono ?_; rintro e w1 ⟨x, j, sd', x0, x1, hj, rfl, hs, hb, hz, hk⟩
  have HZ := Lib.hid hz; have HK := Lib.hid hk; clear hz hN hk
  go_wp2_with fail
  go_ret
  exact ⟨x % m, j, sd', Int.emod_nonneg _ (by omega), Int.emod_lt_of_pos _ (by omega), hj, rfl, hs, hb, HZ.out, HK.out⟩
theorem from_any (w : World) (a : Option Addr) (n c : Nat) (z : List Int) (hz : SlY w w.heap.size a n z) :
    Calls Try.prog 25 #[.slice a n c] w fun e w' => e = .returned (.pointer (some ⟨w.heap.size, 0, none⟩)) ∧ Src w' w.heap.size w.heap.size a n c z 0 0 ∧ Below w.heap.size w w' ∧ w'.heap.size = w.heap.size + 1 := by
  have HZ := Lib.hid hz; clear hz
  go_enter Try.func25, Try.ntmps25
  go_wp2
  go_ret
  exact ⟨rfl, ⟨Row.new w 87 [.slice a n c, .int .i64 0, .int .u64 0], Nat.le_refl _, HZ.out.keep fun b o hlt => World.cell?_alloc_lt w _ ⟨b, o, none⟩ hlt⟩, (Below.refl _ _).alloc (Nat.le_refl _) _, by simp⟩
end Go.Proofs.Ytedbngnkkfpbeaa
