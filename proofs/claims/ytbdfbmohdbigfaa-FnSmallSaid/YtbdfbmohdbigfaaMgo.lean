/- Several texts in one: Machines built of others, plainly: the sums over the parts of a word, as the law reckons them; what CostOf tells. Reading choices from bytes: what the reader's functions do to its struct, and what numbers they hand out. A struct of two numbers and three lists, in a block of its own while it is being built: its lists are rows of the call's own, apart. A struct of two numbers and three lists, while it is being built: a number that is set, a new list in the place of the last one. -/
import Derived.Test.YtbdfbmohdbigfaaMgn
import Derived.Test.YtbdfbmohdbigfaaMga
import Derived.Test.YtbdfbmohdbigfaaMge
import Derived.Deep.QuietTactic
import Derived.BigQuiet
import Derived.Test.YtbdfbmohdbigfaaMgh

namespace Go.Proofs.Ytbdfbmohdbigfaa
open Go.RowKit
set_option linter.unusedVariables false
/-- The least of f 0, .., f (k - 1). -/
def dpL (f : Nat → Int) : Nat → Int
  | 0 => -1
  | k + 1 => r8L (dpL f k) (f k)
theorem dpL_cv {f : Nat → Int} {Q : Nat → Int → Prop} : ∀ {k : Nat}, (∀ i, i < k → Cv (f i) (Q i)) → Cv (dpL f k) (fun c => ∃ i, i < k ∧ Q i c)
  | 0, _ => Cv.congr Cv.none (fun c => ⟨fun h => h.elim, fun ⟨i, h, _⟩ => by omega⟩)
  | k + 1, h => by
    refine ((dpL_cv (k := k) (fun i hi => h i (by omega))).or (h k (by omega))).congr (fun c => ⟨?_, ?_⟩)
    · rintro (⟨i, hi, hq⟩ | hq)
      · exact ⟨i, by omega, hq⟩
      · exact ⟨k, by omega, hq⟩
    · rintro ⟨i, hi, hq⟩
      by_cases e : i = k
      · subst e; exact .inr hq
      · exact .inl ⟨i, by omega, hq⟩
/-- All ways to part a word in two. -/
theorem cv_joined {W W' : List Int → Int → Prop} {w : List Int} {p q : Nat → Int} (hp : ∀ k, k ≤ w.length → Cv (p k) (W (w.take k))) (hq : ∀ k, k ≤ w.length → Cv (q k) (W' (w.drop k))) :
    Cv (dpL (fun k => r8A (p k) (q k)) (w.length + 1)) (fun c => ∃ u v c1 c2, w = u ++ v ∧ W u c1 ∧ W' v c2 ∧ c = c1 + c2) := by
  refine (dpL_cv (Q := fun k c => ∃ c1 c2, W (w.take k) c1 ∧ W' (w.drop k) c2 ∧ c = c1 + c2) (fun i hi => (hp i (by omega)).add (hq i (by omega)))).congr (fun c => ⟨?_, ?_⟩)
  · rintro ⟨i, hi, c1, c2, h1, h2, e⟩
    exact ⟨w.take i, w.drop i, c1, c2, (List.take_append_drop i w).symm, h1, h2, e⟩
  · rintro ⟨u, v, c1, c2, rfl, h1, h2, e⟩
    exact ⟨u.length, by simp; omega, c1, c2, by simpa using h1, by simpa using h2, e⟩
section
variable {W : List Int → Int → Prop}
theorem Str.nonneg (hW : ∀ u c, W u c → 0 ≤ c) {w : List Int} {c : Int} (h : Str W w c) : 0 ≤ c := by
  induction h with
  | nil => omega
  | cons h1 _ ih => have := hW _ _ h1; omega
theorem Str.snoc {w u : List Int} {c c' : Int} (h : Str W w c) (h' : W u c') : Str W (w ++ u) (c + c') := by
  induction h with
  | nil =>
    have := Str.cons h' (Str.nil (W := W))
    rw [List.append_nil] at this
    rwa [List.nil_append, show (0 : Int) + c' = c' + 0 by omega]
  | @cons u0 v0 c0 c1 h1 _ ih =>
    rw [List.append_assoc, show c0 + c1 + c' = c0 + (c1 + c') by omega]
    exact .cons h1 ih
/-- The last word that is not empty. -/
theorem Str.last (hW : ∀ u c, W u c → 0 ≤ c) {w : List Int} {c : Int} (h : Str W w c) : w ≠ [] → ∃ i c1 c2, i < w.length ∧ Str W (w.take i) c1 ∧ W (w.drop i) c2 ∧ c1 + c2 ≤ c := by
  induction h with
  | nil => exact fun h => absurd rfl h
  | @cons u v c c' h1 h2 ih =>
    intro hne
    cases v with
    | nil =>
      have h0 := h2.nonneg hW
      refine ⟨0, 0, c, ?_, by simpa using Str.nil, by simpa using h1, by omega⟩
      cases u with
      | nil => exact absurd rfl hne
      | cons a u => simp
    | cons a v =>
      obtain ⟨i, c1, c2, hi, g1, g2, e⟩ := ih (by simp)
      refine ⟨u.length + i, c + c1, c2, by simp at hi ⊢; omega, ?_, ?_, by omega⟩
      · rw [List.take_append, List.take_of_length_le (by omega), show u.length + i - u.length = i by omega]; exact .cons h1 g1
      · rw [List.drop_append, List.drop_of_length_le (by omega), show u.length + i - u.length = i by omega, List.nil_append]; exact g2
/-- The table of least costs of the beginnings of a word. -/
theorem cv_star (hW : ∀ u c, W u c → 0 ≤ c) {w : List Int} {least : Nat → Int} {p : Nat → Nat → Int} (h0 : least 0 = 0) (hl : ∀ k, 0 < k → k ≤ w.length → least k = dpL (fun i => r8A (least i) (p i k)) k)
    (hp : ∀ i k, i < k → k ≤ w.length → Cv (p i k) (W ((w.take k).drop i))) : ∀ m k, k ≤ m → k ≤ w.length → Cv (least k) (Str W (w.take k))
  | 0, k, hk, _ => by
    obtain rfl : k = 0 := by omega
    rw [h0, List.take_zero]
    exact .inr ⟨Int.le_refl _, .nil, fun c hc => hc.nonneg hW⟩
  | m + 1, k, hk, hkw => by
    by_cases h : k ≤ m
    · exact cv_star hW h0 hl hp m k h hkw
    · obtain rfl : k = m + 1 := by omega
      rw [hl (m + 1) (by omega) hkw]
      have hd := dpL_cv (f := fun i => r8A (least i) (p i (m + 1))) (Q := fun i c => ∃ c1 c2, Str W (w.take i) c1 ∧ W ((w.take (m + 1)).drop i) c2 ∧ c = c1 + c2) (k := m + 1) (fun i hi => (cv_star hW h0 hl hp m i (by omega) (by omega)).add (hp i (m + 1) hi hkw))
      have ht : ∀ i, i < m + 1 → (w.take (m + 1)).take i = w.take i := fun i hi => by rw [List.take_take, Nat.min_eq_left (by omega)]
      refine hd.sub ?_ ?_
      · rintro c ⟨i, hi, c1, c2, h1, h2, rfl⟩
        have := h1.snoc h2
        rw [← ht i hi, List.take_append_drop] at this
        exact this
      · intro c hc
        obtain ⟨i, c1, c2, hi, h1, h2, e⟩ := hc.last hW (by
          intro e
          have h9 : (w.take (m + 1)).length = m + 1 := by rw [List.length_take]; omega
          rw [e] at h9
          cases h9)
        have hi' : i < m + 1 := by rw [List.length_take] at hi; omega
        rw [ht i hi'] at h1
        exact ⟨c1 + c2, e, i, hi', c1, c2, h1, h2, rfl⟩
end
theorem bwd_rev {xs : List Int} : ∀ {k : Nat}, k ≤ xs.length → bwd xs k = (xs.take k).reverse
  | 0, _ => by simp [bwd]
  | k + 1, h => by
    rw [bwd, bwd_rev (by omega), List.take_succ_eq_append_getElem (by omega), List.reverse_append]
    have : g0 xs k = xs[k] := g0_get (List.getElem?_eq_getElem (by omega))
    rw [this]; rfl
/-- What CostOf tells. -/
theorem cv_co {T : Nat} {L : List A4} {P E : List Int} (ho : Okw T L P E) {xs : List Int} (hx : xs.length ≤ 12) : Cv (coV 1099511627776 L P E xs) (Wc L P E xs) := by
  have h2 := lst_co (F := 1099511627776) (by omega) ho.arcs (fun x hx => by have := ho.st x hx; omega) (fun x hx => by have := ho.en x hx; omega) ho.len.symm xs
  rw [bwd_rev (Nat.le_refl _), List.take_length] at h2
  have h3 := h2.congr (fun c => tw_wc ho.arcs ho.len xs c)
  have h4 := Cv.of_lst h3 (fun c h => h.nonneg ho.arcs) (fun c hc => by
    obtain ⟨c', hle, ht⟩ := ((tw_wc ho.arcs ho.len xs c).2 hc).short ho.arcs ho.st ho.en
    refine ⟨c', (tw_wc ho.arcs ho.len xs c').1 ht, ?_⟩
    rw [List.length_reverse] at hle
    have hn := ho.n
    have : (1000 * (P.length : Int) + 1000) * ((xs.length : Int) + 1) ≤ 17000 * 13 := Int.mul_le_mul (by omega) (by omega) (by omega) (by omega)
    omega)
  unfold coV lsV
  rw [woV_len]
  exact h4
end Go.Proofs.Ytbdfbmohdbigfaa


namespace Go.Proofs.Ytbdfbmohdbigfaa
open Go.RowKit
set_option linter.unusedVariables false
def bz (z : List Int) : List Value := z.map (.int .u8)
theorem bz_get {z : List Int} {k : Nat} {u : Value} (h : (bz z)[k]? = some u) : ∃ x, z[k]? = some x ∧ u = .int .u8 x := by
  simp only [bz, List.getElem?_map, Option.map_eq_some_iff] at h
  obtain ⟨x, hx, rfl⟩ := h
  exact ⟨x, hx, rfl⟩
/-- The bytes 'a[:n]', whose cells lie in blocks below lo. -/
def SlY (w : World) (lo : Nat) (a : Option Addr) (n : Nat) (z : List Int) : Prop := SlV w lo a n (bz z) ∧ ∀ x ∈ z, 0 ≤ x ∧ x ≤ 255
theorem SlY.at_ {w : World} {lo n k : Nat} {a : Option Addr} {z : List Int} (h : SlY w lo a n z) (hk : k < n) : ∃ b off x, a = some ⟨b, off, none⟩ ∧ b < lo ∧ 0 ≤ x ∧ x ≤ 255 ∧ Hid (z[k]? = some x) ∧ w.cell? ⟨b, off + k, none⟩ = some (.int .u8 x) := by
  obtain ⟨b, off, u, e, hb, hu, hc⟩ := h.1.at_ hk
  obtain ⟨x, hx, rfl⟩ := bz_get hu
  have := h.2 x (List.mem_of_getElem? hx)
  exact ⟨b, off, x, e, hb, this.1, this.2, Lib.hid hx, hc⟩
theorem SlY.len {w : World} {lo n : Nat} {a : Option Addr} {z : List Int} (h : SlY w lo a n z) : z.length = n := by have := h.1.1; simpa [bz] using this
theorem SlY.keep {w w' : World} {lo n : Nat} {a : Option Addr} {z : List Int} (h : SlY w lo a n z) (hk : ∀ b o, b < lo → w'.cell? ⟨b, o, none⟩ = w.cell? ⟨b, o, none⟩) : SlY w' lo a n z := ⟨h.1.keep hk, h.2⟩
theorem SlY.below {w w' : World} {lo n B : Nat} {a : Option Addr} {z : List Int} (h : SlY w lo a n z) (hb : Below B w w') (hB : lo ≤ B) : SlY w' lo a n z := ⟨h.1.below hb hB, h.2⟩
theorem SlY.more {w : World} {lo n B : Nat} {a : Option Addr} {z : List Int} (h : SlY w lo a n z) (hB : lo ≤ B) : SlY w B a n z := ⟨h.1.more hB, h.2⟩
theorem IsRow.slY {w : World} {a : Option Addr} {len cap : Nat} {zs : List Int} (h : IsRow .u8 w a len cap zs) : SlY w w.heap.size a len (zs.take len) := by
  rcases h with ⟨rfl, rfl, rfl, rfl⟩ | ⟨x, rfl, hl, hm, hz, hc, hw⟩
  · exact ⟨SlV.nil _ _ _, fun x hx => by simp at hx⟩
  · refine ⟨⟨by simp [bz]; omega, fun h0 => ?_⟩, fun x hx => ?_⟩
    · obtain ⟨b, off, spot⟩ := x
      have h00 := hc 0 (by omega)
      have hspot : spot = none := by simpa [Addr.add] using World.cell?_spot h00
      subst hspot
      refine ⟨b, off, rfl, World.block_lt_of_cell? _ _ (by simpa [Addr.add] using h00), fun j u hu => ?_⟩
      obtain ⟨y, hy, rfl⟩ := bz_get hu
      rw [List.getElem?_take] at hy
      split at hy
      · have hj : j < zs.length := by omega
        have := hc j hj
        rw [List.getD_eq_getElem?_getD, hy] at this
        have e : (⟨b, off, none⟩ : Addr).add j = ⟨b, off + j, none⟩ := by
          unfold Addr.add; by_cases h : j = 0 <;> simp [h]
        rw [e] at this
        simpa using this
      · cases hy
    · have := hw x (List.mem_of_mem_take hx)
      simp [Lit.wf, IntKind.min, IntKind.max, IntKind.signed, IntKind.bits] at this
      omega
/-- The reader in block g, above lo. -/
def Src (w : World) (lo g : Nat) (a : Option Addr) (n c : Nat) (z : List Int) (i : Nat) (sd : Int) : Prop :=
  Row w g 128 [.slice a n c, .int .i64 i, .int .u64 sd] ∧ lo ≤ g ∧ SlY w lo a n z
theorem heap_drewN (w : World) (n : Nat) : (w.drewN n).heap = w.heap := by simp
def SrcOut (w : World) (lo g : Nat) (a : Option Addr) (n c : Nat) (z : List Int) (i m : Nat) (e : Ending) (w' : World) : Prop :=
  ∃ (x : Int) (j : Nat) (sd : Int), 0 ≤ x ∧ x < m ∧ j ≤ i + 2 ∧ e = .returned (.int .i64 x) ∧ Src w' lo g a n c z j sd ∧ Below g w w' ∧ w'.heap.size = w.heap.size ∧ ∀ k, k ≠ g → w'.heap[k]? = w.heap[k]?
theorem Src.keep {w w' : World} {lo g n c i : Nat} {a : Option Addr} {z : List Int} {sd : Int} {B : Nat} (h : Src w lo g a n c z i sd) (hb : Below B w w') (hB : g < B) : Src w' lo g a n c z i sd :=
  ⟨h.1.below hb hB, h.2.1, h.2.2.keep fun b o hlt => hb.cell (p := ⟨b, o, none⟩) (show b < B by have := h.2.1; omega)⟩
theorem and255 (v : Int) : 0 ≤ wrap64 (bits BinOp.and IntKind.u64 v 255) ∧ wrap64 (bits BinOp.and IntKind.u64 v 255) < 256 := by
  have h : (BitVec.ofInt 64 v &&& BitVec.ofInt 64 255).toNat ≤ 255 := by
    rw [BitVec.toNat_and]
    exact Nat.and_le_right
  obtain ⟨m, hm⟩ : ∃ m, (BitVec.ofInt 64 v &&& BitVec.ofInt 64 255).toNat = m := ⟨_, rfl⟩
  have e : bits BinOp.and IntKind.u64 v 255 = IntKind.u64.wrap (m : Int) := by rw [← hm]; rfl
  have e2 : IntKind.u64.wrap (m : Int) = (m : Int) := IntWalk.u64_in _ (by omega)
  rw [e, e2]
  unfold wrap64
  omega
set_option maxHeartbeats 1000000 in
theorem next_any (w : World) (lo g : Nat) (a : Option Addr) (n c : Nat) (z : List Int) (i : Nat) (sd : Int) (h : Src w lo g a n c z i sd) (hi : i ≤ 1000000) (hn : n ≤ maxLen) :
    Calls Try.prog 98 #[.pointer (some ⟨g, 0, none⟩)] w (SrcOut w lo g a n c z i 256) := by
  unfold maxLen at hn
  obtain ⟨hr, hlo, hz⟩ := h
  have c0 := hr.cell 0
  have c1 := hr.cell 1
  have c2 := hr.cell 2
  have f1 := hr.frozen 1
  have f2 := hr.frozen 2
  simp only [List.getElem?_cons_zero, List.getElem?_cons_succ] at c0 c1 c2
  have HR := Lib.hid hr; clear hr
  by_cases hlt : i < n
  · obtain ⟨b, off, x, rfl, hb, x0, x1, hx, hc⟩ := hz.at_ hlt
    have HZ := Lib.hid hz; clear hz hx
    have l1 : (i : Int) + 1 ≤ (n : Int) := by omega
    go_enter Try.func98, Try.ntmps98
    go_wp2
    go_quiet (fail)
    go_wp2
    go_quiet (fail)
    go_wp2
    go_quiet (fail)
    go_wp2
    go_ret
    exact ⟨x, i + 1, _, x0, by omega, by omega, rfl, ⟨(HR.out.set_ 1 _).set_ 2 _, hlo, HZ.out.keep fun b o hlt => by simp [World.cell?_setCell_other]⟩, below_draws (((below_draws (Below.refl g w) _).setCell (p := ⟨g, 1, none⟩) (Nat.le_refl _) _).setCell (p := ⟨g, 2, none⟩) (Nat.le_refl _) _) _, by simp, fun k hk => by rw [heap_drewN, Below.heap_setCell _ ⟨g, 2, none⟩ _ k hk, Below.heap_setCell _ ⟨g, 1, none⟩ _ k hk, heap_drewN]⟩
  · have l1 : (n : Int) ≤ (i : Int) := by omega
    have l2 : (n : Int) < (i : Int) + 1 := by omega
    have HZ := Lib.hid hz; clear hz
    go_enter Try.func98, Try.ntmps98
    go_wp2
    go_quiet (fail)
    go_wp2
    go_quiet (fail)
    go_wp2
    go_ret
    have hv := and255 (IntKind.u64.wrap (IntKind.u64.wrap (IntKind.u64.wrap (sd * 6364136223846793005)) + 1442695040888963407) / 1099511627776)
    exact ⟨_, i + 1, _, hv.1, hv.2, by omega, rfl, ⟨(HR.out.set_ 1 _).set_ 2 _, hlo, HZ.out.keep fun b o hlt => by simp [World.cell?_setCell_other]⟩, below_draws (((below_draws (Below.refl g w) _).setCell (p := ⟨g, 1, none⟩) (Nat.le_refl _) _).setCell (p := ⟨g, 2, none⟩) (Nat.le_refl _) _) _, by simp, fun k hk => by rw [heap_drewN, Below.heap_setCell _ ⟨g, 2, none⟩ _ k hk, Below.heap_setCell _ ⟨g, 1, none⟩ _ k hk, heap_drewN]⟩
set_option maxHeartbeats 1000000 in
theorem pick3_any (w : World) (lo g : Nat) (a : Option Addr) (n c : Nat) (z : List Int) (i : Nat) (sd : Int) (h : Src w lo g a n c z i sd) (hi : i ≤ 1000000) (hn : n ≤ maxLen) (m : Nat) (h1 : 1 < m) (h2 : m ≤ 200) :
    Calls Try.prog 37 #[.pointer (some ⟨g, 0, none⟩), .int .i64 m] w (SrcOut w lo g a n c z i m) := by
  have hN := next_any w lo g a n c z i sd h hi hn
  have q1 : (1 : Int) < (m : Int) := by omega
  have q2 : (m : Int) ≤ 200 := by omega
  clear h
  go_enter Try.func37, Try.ntmps37
  go_wp2_with fail
  refine hN.mono ?_; rintro e w1 ⟨x, j, sd', x0, x1, hj, rfl, hs, hb, hz, hk⟩
  have HZ := Lib.hid hz; have HK := Lib.hid hk; clear hz hN hk
  go_wp2_with fail
  go_ret
  exact ⟨x % m, j, sd', Int.emod_nonneg _ (by omega), Int.emod_lt_of_pos _ (by omega), hj, rfl, hs, hb, HZ.out, HK.out⟩
theorem from_any (w : World) (a : Option Addr) (n c : Nat) (z : List Int) (hz : SlY w w.heap.size a n z) :
    Calls Try.prog 35 #[.slice a n c] w fun e w' => e = .returned (.pointer (some ⟨w.heap.size, 0, none⟩)) ∧ Src w' w.heap.size w.heap.size a n c z 0 0 ∧ Below w.heap.size w w' ∧ w'.heap.size = w.heap.size + 1 := by
  have HZ := Lib.hid hz; clear hz
  go_enter Try.func35, Try.ntmps35
  go_wp2
  go_ret
  exact ⟨rfl, ⟨Row.new w 128 [.slice a n c, .int .i64 0, .int .u64 0], Nat.le_refl _, HZ.out.keep fun b o hlt => World.cell?_alloc_lt w _ ⟨b, o, none⟩ hlt⟩, (Below.refl _ _).alloc (Nat.le_refl _) _, by simp⟩
end Go.Proofs.Ytbdfbmohdbigfaa


namespace Go.Proofs.Ytbdfbmohdbigfaa
open Go.RowKit
set_option linter.unusedVariables false
structure M3 (x0 w : World) (lo g : Nat) (T t2 t3 t4 : TypeId) (z2 z3 z4 : Nat) (a b v2 v3 v4 : Value) (n2 n3 n4 : Nat) (X2 X3 X4 : List Value) : Prop where
  row : Row w g T [a, b, v2, v3, v4]
  bel : Below lo x0 w
  gb : lo ≤ g
  hl : lo ≤ x0.heap.size
  o2 : w.ownsRow lo t2 z2 v2 n2 X2
  o3 : w.ownsRow lo t3 z3 v3 n3 X3
  o4 : w.ownsRow lo t4 z4 v4 n4 X4
  d2 : ∀ k, v2.ownBlock = some k → k ≠ g ∧ v3.ownBlock ≠ some k ∧ v4.ownBlock ≠ some k
  d3 : ∀ k, v3.ownBlock = some k → k ≠ g ∧ v4.ownBlock ≠ some k
  d4 : ∀ k, v4.ownBlock = some k → k ≠ g
section
variable {x0 w w' : World} {lo g : Nat} {T t2 t3 t4 : TypeId} {z2 z3 z4 : Nat} {a b v2 v3 v4 : Value} {n2 n3 n4 : Nat} {X2 X3 X4 : List Value}
theorem M3.size (h : M3 x0 w lo g T t2 t3 t4 z2 z3 z4 a b v2 v3 v4 n2 n3 n4 X2 X3 X4) : lo ≤ w.heap.size := Nat.le_trans h.hl h.bel.size
/-- Behind a call that makes memory. -/
theorem M3.call {B : Nat} (h : M3 x0 w lo g T t2 t3 t4 z2 z3 z4 a b v2 v3 v4 n2 n3 n4 X2 X3 X4) (hb : Below B w w') (hB : w.heap.size ≤ B) : M3 x0 w' lo g T t2 t3 t4 z2 z3 z4 a b v2 v3 v4 n2 n3 n4 X2 X3 X4 :=
  ⟨h.row.below hb (Nat.lt_of_lt_of_le h.row.lt hB), h.bel.trans (hb.mono (Nat.le_trans h.size hB)), h.gb, h.hl,
    own_move h.o2 (fun k hk => hb.block k (Nat.lt_of_lt_of_le (h.o2.lt k hk).2 hB)), own_move h.o3 (fun k hk => hb.block k (Nat.lt_of_lt_of_le (h.o3.lt k hk).2 hB)), own_move h.o4 (fun k hk => hb.block k (Nat.lt_of_lt_of_le (h.o4.lt k hk).2 hB)), h.d2, h.d3, h.d4⟩
theorem M3.alloc (h : M3 x0 w lo g T t2 t3 t4 z2 z3 z4 a b v2 v3 v4 n2 n3 n4 X2 X3 X4) (o : Obj) : M3 x0 (w.alloc o) lo g T t2 t3 t4 z2 z3 z4 a b v2 v3 v4 n2 n3 n4 X2 X3 X4 := h.call ((Below.refl _ _).alloc (Nat.le_refl _) o) (Nat.le_refl _)
theorem M3.drew (h : M3 x0 w lo g T t2 t3 t4 z2 z3 z4 a b v2 v3 v4 n2 n3 n4 X2 X3 X4) : M3 x0 w.drew lo g T t2 t3 t4 z2 z3 z4 a b v2 v3 v4 n2 n3 n4 X2 X3 X4 := h.call (B := w.heap.size) (Below.drew (Below.refl _ _)) (Nat.le_refl _)
/-- A store into a block below lo, or above (not one of ours). -/
theorem M3.far (h : M3 x0 w lo g T t2 t3 t4 z2 z3 z4 a b v2 v3 v4 n2 n3 n4 X2 X3 X4) {p : Addr} (hp : lo ≤ p.block) (h1 : g ≠ p.block) (h2 : v2.ownBlock ≠ some p.block) (h3 : v3.ownBlock ≠ some p.block) (h4 : v4.ownBlock ≠ some p.block) (u : Value) : M3 x0 (w.setCell p u) lo g T t2 t3 t4 z2 z3 z4 a b v2 v3 v4 n2 n3 n4 X2 X3 X4 :=
  ⟨h.row.far h1 u, h.bel.setCell hp u, h.gb, h.hl,
    own_move h.o2 (fun k hk => Below.heap_setCell _ _ _ _ (fun e => h2 (by rw [hk, e]))), own_move h.o3 (fun k hk => Below.heap_setCell _ _ _ _ (fun e => h3 (by rw [hk, e]))), own_move h.o4 (fun k hk => Below.heap_setCell _ _ _ _ (fun e => h4 (by rw [hk, e]))), h.d2, h.d3, h.d4⟩

/-- List 2 has been appended to (its row may lie elsewhere now), and stored. -/
theorem M3.push2 (h : M3 x0 w lo g T t2 t3 t4 z2 z3 z4 a b v2 v3 v4 n2 n3 n4 X2 X3 X4) {u : Value} {m : Nat} {Y : List Value} (ho : w'.ownsRow lo t2 z2 u m Y) (hg : w.grownBy w' v2.ownBlock) (hat : u.ownBlock = v2.ownBlock ∨ u.ownBlock = some w.heap.size) :
    M3 x0 (w'.setCell ⟨g, 2, none⟩ u) lo g T t2 t3 t4 z2 z3 z4 a b u v3 v4 m n3 n4 Y X3 X4 := by
  have hgl := h.row.lt
  have hq : ∀ k, u.ownBlock = some k → v2.ownBlock = some k ∨ k = w.heap.size := fun k hk => by
    rcases hat with e | e
    · exact .inl (by rw [← e]; exact hk)
    · exact .inr (by rw [hk] at e; exact Option.some.inj e)
  have hng : ∀ k, u.ownBlock = some k → k ≠ g := fun k hk => by
    rcases hq k hk with e | e
    · exact (h.d2 k e).1
    · omega
  have e3 : ∀ k, v3.ownBlock = some k → v2.ownBlock ≠ some k := fun k hk e => (h.d2 k e).2.1 hk
  have m3 : ∀ k, v3.ownBlock = some k → (w'.setCell ⟨g, 2, none⟩ u).heap[k]? = w.heap[k]? := fun k hk => (Below.heap_setCell _ _ _ _ (show k ≠ g from (h.d3 k hk).1)).trans (hg.block k (h.o3.lt k hk).2 (fun e => e3 k hk e.symm))
  have s3 : ∀ k, v3.ownBlock = some k → u.ownBlock ≠ some k := fun k hk e => by
    rcases hq k e with q1 | q1
    · exact e3 k hk q1
    · have := (h.o3.lt k hk).2; omega
  have e4 : ∀ k, v4.ownBlock = some k → v2.ownBlock ≠ some k := fun k hk e => (h.d2 k e).2.2 hk
  have m4 : ∀ k, v4.ownBlock = some k → (w'.setCell ⟨g, 2, none⟩ u).heap[k]? = w.heap[k]? := fun k hk => (Below.heap_setCell _ _ _ _ (show k ≠ g from h.d4 k hk)).trans (hg.block k (h.o4.lt k hk).2 (fun e => e4 k hk e.symm))
  have s4 : ∀ k, v4.ownBlock = some k → u.ownBlock ≠ some k := fun k hk e => by
    rcases hq k e with q1 | q1
    · exact e4 k hk q1
    · have := (h.o4.lt k hk).2; omega
  have hrow : Row w' g T [a, b, v2, v3, v4] := h.row.grown hg (fun e => (h.d2 g e.symm).1 rfl)
  have hbel : Below lo x0 w' := h.bel.grown hg h.size (fun k hk => (h.o2.lt k hk).1)
  exact ⟨hrow.set_ 2 u, hbel.setCell (p := ⟨g, 2, none⟩) h.gb u, h.gb, h.hl, own_move ho (fun k hk => Below.heap_setCell _ _ _ _ (hng k hk)), own_move h.o3 m3, own_move h.o4 m4, fun k hk => ⟨hng k hk, fun e => s3 k e hk, fun e => s4 k e hk⟩, h.d3, h.d4⟩
/-- List 3 has been appended to (its row may lie elsewhere now), and stored. -/
theorem M3.push3 (h : M3 x0 w lo g T t2 t3 t4 z2 z3 z4 a b v2 v3 v4 n2 n3 n4 X2 X3 X4) {u : Value} {m : Nat} {Y : List Value} (ho : w'.ownsRow lo t3 z3 u m Y) (hg : w.grownBy w' v3.ownBlock) (hat : u.ownBlock = v3.ownBlock ∨ u.ownBlock = some w.heap.size) :
    M3 x0 (w'.setCell ⟨g, 3, none⟩ u) lo g T t2 t3 t4 z2 z3 z4 a b v2 u v4 n2 m n4 X2 Y X4 := by
  have hgl := h.row.lt
  have hq : ∀ k, u.ownBlock = some k → v3.ownBlock = some k ∨ k = w.heap.size := fun k hk => by
    rcases hat with e | e
    · exact .inl (by rw [← e]; exact hk)
    · exact .inr (by rw [hk] at e; exact Option.some.inj e)
  have hng : ∀ k, u.ownBlock = some k → k ≠ g := fun k hk => by
    rcases hq k hk with e | e
    · exact (h.d3 k e).1
    · omega
  have e2 : ∀ k, v2.ownBlock = some k → v3.ownBlock ≠ some k := fun k hk => (h.d2 k hk).2.1
  have m2 : ∀ k, v2.ownBlock = some k → (w'.setCell ⟨g, 3, none⟩ u).heap[k]? = w.heap[k]? := fun k hk => (Below.heap_setCell _ _ _ _ (show k ≠ g from (h.d2 k hk).1)).trans (hg.block k (h.o2.lt k hk).2 (fun e => e2 k hk e.symm))
  have s2 : ∀ k, v2.ownBlock = some k → u.ownBlock ≠ some k := fun k hk e => by
    rcases hq k e with q1 | q1
    · exact e2 k hk q1
    · have := (h.o2.lt k hk).2; omega
  have e4 : ∀ k, v4.ownBlock = some k → v3.ownBlock ≠ some k := fun k hk e => (h.d3 k e).2 hk
  have m4 : ∀ k, v4.ownBlock = some k → (w'.setCell ⟨g, 3, none⟩ u).heap[k]? = w.heap[k]? := fun k hk => (Below.heap_setCell _ _ _ _ (show k ≠ g from h.d4 k hk)).trans (hg.block k (h.o4.lt k hk).2 (fun e => e4 k hk e.symm))
  have s4 : ∀ k, v4.ownBlock = some k → u.ownBlock ≠ some k := fun k hk e => by
    rcases hq k e with q1 | q1
    · exact e4 k hk q1
    · have := (h.o4.lt k hk).2; omega
  have hrow : Row w' g T [a, b, v2, v3, v4] := h.row.grown hg (fun e => (h.d3 g e.symm).1 rfl)
  have hbel : Below lo x0 w' := h.bel.grown hg h.size (fun k hk => (h.o3.lt k hk).1)
  exact ⟨hrow.set_ 3 u, hbel.setCell (p := ⟨g, 3, none⟩) h.gb u, h.gb, h.hl, own_move h.o2 m2, own_move ho (fun k hk => Below.heap_setCell _ _ _ _ (hng k hk)), own_move h.o4 m4, fun k hk => ⟨(h.d2 k hk).1, s2 k hk, (h.d2 k hk).2.2⟩, fun k hk => ⟨hng k hk, fun e => s4 k e hk⟩, h.d4⟩
/-- List 4 has been appended to (its row may lie elsewhere now), and stored. -/
theorem M3.push4 (h : M3 x0 w lo g T t2 t3 t4 z2 z3 z4 a b v2 v3 v4 n2 n3 n4 X2 X3 X4) {u : Value} {m : Nat} {Y : List Value} (ho : w'.ownsRow lo t4 z4 u m Y) (hg : w.grownBy w' v4.ownBlock) (hat : u.ownBlock = v4.ownBlock ∨ u.ownBlock = some w.heap.size) :
    M3 x0 (w'.setCell ⟨g, 4, none⟩ u) lo g T t2 t3 t4 z2 z3 z4 a b v2 v3 u n2 n3 m X2 X3 Y := by
  have hgl := h.row.lt
  have hq : ∀ k, u.ownBlock = some k → v4.ownBlock = some k ∨ k = w.heap.size := fun k hk => by
    rcases hat with e | e
    · exact .inl (by rw [← e]; exact hk)
    · exact .inr (by rw [hk] at e; exact Option.some.inj e)
  have hng : ∀ k, u.ownBlock = some k → k ≠ g := fun k hk => by
    rcases hq k hk with e | e
    · exact h.d4 k e
    · omega
  have e2 : ∀ k, v2.ownBlock = some k → v4.ownBlock ≠ some k := fun k hk => (h.d2 k hk).2.2
  have m2 : ∀ k, v2.ownBlock = some k → (w'.setCell ⟨g, 4, none⟩ u).heap[k]? = w.heap[k]? := fun k hk => (Below.heap_setCell _ _ _ _ (show k ≠ g from (h.d2 k hk).1)).trans (hg.block k (h.o2.lt k hk).2 (fun e => e2 k hk e.symm))
  have s2 : ∀ k, v2.ownBlock = some k → u.ownBlock ≠ some k := fun k hk e => by
    rcases hq k e with q1 | q1
    · exact e2 k hk q1
    · have := (h.o2.lt k hk).2; omega
  have e3 : ∀ k, v3.ownBlock = some k → v4.ownBlock ≠ some k := fun k hk => (h.d3 k hk).2
  have m3 : ∀ k, v3.ownBlock = some k → (w'.setCell ⟨g, 4, none⟩ u).heap[k]? = w.heap[k]? := fun k hk => (Below.heap_setCell _ _ _ _ (show k ≠ g from (h.d3 k hk).1)).trans (hg.block k (h.o3.lt k hk).2 (fun e => e3 k hk e.symm))
  have s3 : ∀ k, v3.ownBlock = some k → u.ownBlock ≠ some k := fun k hk e => by
    rcases hq k e with q1 | q1
    · exact e3 k hk q1
    · have := (h.o3.lt k hk).2; omega
  have hrow : Row w' g T [a, b, v2, v3, v4] := h.row.grown hg (fun e => h.d4 g e.symm rfl)
  have hbel : Below lo x0 w' := h.bel.grown hg h.size (fun k hk => (h.o4.lt k hk).1)
  exact ⟨hrow.set_ 4 u, hbel.setCell (p := ⟨g, 4, none⟩) h.gb u, h.gb, h.hl, own_move h.o2 m2, own_move h.o3 m3, own_move ho (fun k hk => Below.heap_setCell _ _ _ _ (hng k hk)), fun k hk => ⟨(h.d2 k hk).1, (h.d2 k hk).2.1, s2 k hk⟩, fun k hk => ⟨(h.d3 k hk).1, s3 k hk⟩, hng⟩
end
end Go.Proofs.Ytbdfbmohdbigfaa


namespace Go.Proofs.Ytbdfbmohdbigfaa
open Go.RowKit
set_option linter.unusedVariables false
section
variable {x0 w w' : World} {lo g : Nat} {T t2 t3 t4 : TypeId} {z2 z3 z4 : Nat} {a b v2 v3 v4 : Value} {n2 n3 n4 : Nat} {X2 X3 X4 : List Value}
/-- The first number has been stored. -/
theorem M3.set0 (h : M3 x0 w lo g T t2 t3 t4 z2 z3 z4 a b v2 v3 v4 n2 n3 n4 X2 X3 X4) (u : Value) : M3 x0 (w.setCell ⟨g, 0, none⟩ u) lo g T t2 t3 t4 z2 z3 z4 u b v2 v3 v4 n2 n3 n4 X2 X3 X4 :=
  ⟨h.row.set_ 0 u, h.bel.setCell (p := ⟨g, 0, none⟩) h.gb u, h.gb, h.hl, own_move h.o2 (fun k hk => Below.heap_setCell _ _ _ _ (show k ≠ g from (h.d2 k hk).1)), own_move h.o3 (fun k hk => Below.heap_setCell _ _ _ _ (show k ≠ g from (h.d3 k hk).1)), own_move h.o4 (fun k hk => Below.heap_setCell _ _ _ _ (show k ≠ g from h.d4 k hk)), h.d2, h.d3, h.d4⟩
/-- Another list has been appended to, and stored in the place of list 4. -/
theorem M3.new4 (h : M3 x0 w lo g T t2 t3 t4 z2 z3 z4 a b v2 v3 v4 n2 n3 n4 X2 X3 X4) {vr u : Value} {m : Nat} {Y : List Value} (hvr : ∀ k, vr.ownBlock = some k → lo ≤ k ∧ k ≠ g ∧ v2.ownBlock ≠ some k ∧ v3.ownBlock ≠ some k) (ho : w'.ownsRow lo t4 z4 u m Y) (hg : w.grownBy w' vr.ownBlock) (hat : u.ownBlock = vr.ownBlock ∨ u.ownBlock = some w.heap.size) :
    M3 x0 (w'.setCell ⟨g, 4, none⟩ u) lo g T t2 t3 t4 z2 z3 z4 a b v2 v3 u n2 n3 m X2 X3 Y := by
  have hgl := h.row.lt
  have hq : ∀ k, u.ownBlock = some k → vr.ownBlock = some k ∨ k = w.heap.size := fun k hk => by
    rcases hat with e | e
    · exact .inl (by rw [← e]; exact hk)
    · exact .inr (by rw [hk] at e; exact Option.some.inj e)
  have hng : ∀ k, u.ownBlock = some k → k ≠ g := fun k hk => by
    rcases hq k hk with e | e
    · exact (hvr k e).2.1
    · omega
  have e2 : ∀ k, v2.ownBlock = some k → vr.ownBlock ≠ some k := fun k hk e => (hvr k e).2.2.1 hk
  have m2 : ∀ k, v2.ownBlock = some k → (w'.setCell ⟨g, 4, none⟩ u).heap[k]? = w.heap[k]? := fun k hk => (Below.heap_setCell _ _ _ _ (show k ≠ g from (h.d2 k hk).1)).trans (hg.block k (h.o2.lt k hk).2 (fun e => e2 k hk e.symm))
  have s2 : ∀ k, v2.ownBlock = some k → u.ownBlock ≠ some k := fun k hk e => by
    rcases hq k e with q1 | q1
    · exact e2 k hk q1
    · have := (h.o2.lt k hk).2; omega
  have e3 : ∀ k, v3.ownBlock = some k → vr.ownBlock ≠ some k := fun k hk e => (hvr k e).2.2.2 hk
  have m3 : ∀ k, v3.ownBlock = some k → (w'.setCell ⟨g, 4, none⟩ u).heap[k]? = w.heap[k]? := fun k hk => (Below.heap_setCell _ _ _ _ (show k ≠ g from (h.d3 k hk).1)).trans (hg.block k (h.o3.lt k hk).2 (fun e => e3 k hk e.symm))
  have s3 : ∀ k, v3.ownBlock = some k → u.ownBlock ≠ some k := fun k hk e => by
    rcases hq k e with q1 | q1
    · exact e3 k hk q1
    · have := (h.o3.lt k hk).2; omega
  have hrow : Row w' g T [a, b, v2, v3, v4] := h.row.grown hg (fun e => (hvr g e.symm).2.1 rfl)
  have hbel : Below lo x0 w' := h.bel.grown hg h.size (fun k hk => (hvr k hk).1)
  exact ⟨hrow.set_ 4 u, hbel.setCell (p := ⟨g, 4, none⟩) h.gb u, h.gb, h.hl, own_move h.o2 m2, own_move h.o3 m3, own_move ho (fun k hk => Below.heap_setCell _ _ _ _ (hng k hk)), fun k hk => ⟨(h.d2 k hk).1, (h.d2 k hk).2.1, s2 k hk⟩, fun k hk => ⟨(h.d3 k hk).1, s3 k hk⟩, hng⟩
theorem fresh4 (h : M3 x0 w lo g T t2 t3 t4 z2 z3 z4 a b v2 v3 v4 n2 n3 n4 X2 X3 X4) {k : Nat} (hk : w.heap.size ≤ k) : lo ≤ k ∧ k ≠ g ∧ v2.ownBlock ≠ some k ∧ v3.ownBlock ≠ some k :=
  ⟨by have := h.size; omega, by have := h.row.lt; omega, fun e => by have := (h.o2.lt k e).2; omega, fun e => by have := (h.o3.lt k e).2; omega⟩
end
theorem own_some {w : World} {base n : Nat} {t : TypeId} {A : Option Addr} {c : Nat} {xs : List Value} (h : w.ownsRow base t 1 (.slice A n c) n xs) (h0 : 0 < n) : ∃ g, A = some ⟨g, 0, none⟩ := by
  obtain ⟨_, h⟩ := h
  rcases h with ⟨e, _⟩ | ⟨q, cap, cur, e, _⟩
  · injection e with e1 e2 e3; omega
  · injection e with e1 e2 e3; exact ⟨q, e1⟩
end Go.Proofs.Ytbdfbmohdbigfaa
