/- FitLetters of the program. -/
import Derived.Test.YtkfmjnefbimecaaFiT
import Derived.StillTailTactics
import Derived.Deep.CutRange
namespace Go.Proofs.Ytkfmjnefbimecaa
open Go.RowKit
set_option linter.unusedVariables false
theorem MdW.mono {w : World} {b b' : Nat} {v : Value} {S T : Int} {P Q R : List F32} (h : MdW w b v S T P Q R) (hb : b' ≤ b) : MdW w b' v S T P Q R := by
  obtain ⟨v2, v3, v4, e, h2, h3, h4, d23, d24, d34⟩ := h
  exact ⟨v2, v3, v4, e, ⟨World.ownsRow.mono h2.1 hb, h2.2⟩, ⟨World.ownsRow.mono h3.1 hb, h3.2⟩, ⟨World.ownsRow.mono h4.1 hb, h4.2⟩, d23, d24, d34⟩
/-- What FitLetters hands out, and whether it does. -/
def fitP (S T : Int) (P : List F32) (ws hs : List (List Int)) : List F32 := dvN (fiA S.toNat T.toNat ws hs (List.replicate P.length f0) ws.length) P S.toNat 1
def fitQ (S T : Int) (Q : List F32) (ws hs : List (List Int)) : List F32 := dvN (fiB S.toNat T.toNat ws hs (List.replicate Q.length f0) ws.length) Q S.toNat S.toNat
def fitR (S T : Int) (R : List F32) (ws hs : List (List Int)) : List F32 := dvN (fiC S.toNat T.toNat ws hs (List.replicate R.length f0) ws.length) R T.toNat S.toNat
def prB (S : Int) (ws hs : List (List Int)) (k : Nat) : Bool := (List.range k).all fun i => hidA S (ws.getD i []) (hs.getD i [])
def fitOk (S T : Int) (P Q R : List F32) (ws hs : List (List Int)) : Bool := hwB S T P Q R ws && decide (hs.length = ws.length) && prB S ws hs ws.length && vdM S T (fitP S T P ws hs) (fitQ S T Q ws hs) (fitR S T R ws hs)
theorem prB_succ {S : Int} {ws hs : List (List Int)} {k : Nat} : prB S ws hs (k + 1) = (prB S ws hs k && hidA S (ws.getD k []) (hs.getD k [])) := range_all_succ _ _
theorem prB_no {S : Int} {ws hs : List (List Int)} {k n : Nat} (h : k < n) (hf : hidA S (ws.getD k []) (hs.getD k []) = false) : prB S ws hs n = false := range_all_no h hf
theorem hwB_true {S T : Int} {P Q R : List F32} {ws : List (List Int)} (h : hwB S T P Q R ws = true) : (1 ≤ S ∧ S ≤ 5) ∧ (1 ≤ T ∧ T ≤ 4) ∧ P.length = S.toNat ∧ Q.length = S.toNat * S.toNat ∧ R.length = S.toNat * T.toNat ∧ 1 ≤ ws.length ∧ ws.length ≤ 16 ∧ ∀ x ∈ ws, x.length ≤ 12 ∧ ∀ y ∈ x, 0 ≤ y ∧ y < T := by
  simp only [hwB, vdM, arB, Bool.and_eq_true, decide_eq_true_eq, List.all_eq_true] at h
  obtain ⟨⟨⟨⟨h1, h2, ⟨h3, _⟩, ⟨h4, _⟩, h5, _⟩, h6⟩, h7⟩, h8⟩ := h
  refine ⟨inB_true h1, inB_true h2, by omega, h4, h5, h6, h7, fun x hx => ?_⟩
  have h9 := h8 x hx
  refine ⟨wordB_len h9, fun y hy => ?_⟩
  simp only [wordB, Bool.and_eq_true, allIn, List.all_eq_true] at h9
  have := inB_true (h9.2.2 y hy)
  omega
theorem hidA_true {S : Int} {word way : List Int} (h : hidA S word way = true) : way.length = word.length + 1 ∧ ∀ y ∈ way, 0 ≤ y ∧ y < S := by
  simp only [hidA, Bool.and_eq_true, decide_eq_true_eq, allIn, List.all_eq_true] at h
  exact ⟨h.1, fun y hy => by have := inB_true (h.2 y hy); omega⟩
theorem fiA_len {S T : Nat} {ws hs : List (List Int)} {a : List F32} : ∀ k, (fiA S T ws hs a k).length = a.length
  | 0 => rfl
  | k + 1 => by rw [fiA, incF_len, fiA_len]
theorem fiB_len {S T : Nat} {ws hs : List (List Int)} {a : List F32} : ∀ k, (fiB S T ws hs a k).length = a.length
  | 0 => rfl
  | k + 1 => by rw [fiB, csF_len, fiB_len]
theorem fiC_len {S T : Nat} {ws hs : List (List Int)} {a : List F32} : ∀ k, (fiC S T ws hs a k).length = a.length
  | 0 => rfl
  | k + 1 => by rw [fiC, cgF_len, fiC_len]
theorem fiA_cnt {S T : Nat} {ws hs : List (List Int)} {n : Nat} : ∀ k, Cnt k (fiA S T ws hs (List.replicate n f0) k)
  | 0 => Cnt.zero n
  | k + 1 => (fiA_cnt k).inc _
theorem getD_le {ws : List (List Int)} (h : ∀ x ∈ ws, x.length ≤ 12) (k : Nat) : (ws.getD k []).length ≤ 12 := by
  rcases Nat.lt_or_ge k ws.length with hk | hk
  · rw [List.getD_eq_getElem?_getD, List.getElem?_eq_getElem hk]; exact h _ (List.getElem_mem hk)
  · rw [List.getD_eq_getElem?_getD, List.getElem?_eq_none hk]; exact Nat.zero_le _
theorem fiB_cnt {S T : Nat} {ws hs : List (List Int)} {n : Nat} (h : ∀ x ∈ ws, x.length ≤ 12) : ∀ k, Cnt (12 * k) (fiB S T ws hs (List.replicate n f0) k)
  | 0 => Cnt.zero n
  | k + 1 => (csF_cnt (fiB_cnt h k) _).more (by have := getD_le h k; omega)
theorem fiC_cnt {S T : Nat} {ws hs : List (List Int)} {n : Nat} (h : ∀ x ∈ ws, x.length ≤ 12) : ∀ k, Cnt (12 * k) (fiC S T ws hs (List.replicate n f0) k)
  | 0 => Cnt.zero n
  | k + 1 => (cgF_cnt (fiC_cnt h k) _).more (by have := getD_le h k; omega)
theorem idx_lt {v p l r : Nat} (hv : v < r) (hl : p < l) : v * l + p < r * l := by
  have h1 : (v + 1) * l ≤ r * l := Nat.mul_le_mul_right l hv
  rw [Nat.succ_mul] at h1
  omega
theorem rowF_at {w : World} {g : Nat} {xs : List F32} (h : Row w g 94 (fv xs)) {i : Nat} (hi : i < xs.length) : w.cell? ⟨g, i, none⟩ = some (.float .f32 (gF xs i).b) ∧ w.frozen? ⟨g, i, none⟩ = false := by
  refine ⟨?_, h.frozen i⟩
  rw [h.cell, fv_at (gF_some hi)]
theorem rowF_inc {w : World} {g : Nat} {xs : List F32} (h : Row w g 94 (fv xs)) (i : Nat) {z : F32} (hz : z = fop .add (gF xs i) f1) : Row (w.setCell ⟨g, i, none⟩ (.float .f32 z.b)) g 94 (fv (incF xs i)) := by
  unfold incF
  rw [← hz, fv_set]
  exact h.set_ i _
/-- The counts in their blocks. -/
structure Ct (w1 w : World) (g1 g2 g3 g8 : Nat) (P Q R : List F32) (a b c : List F32) : Prop where
  ra : Row w g1 94 (fv a)
  rb : Row w g2 94 (fv b)
  rc : Row w g3 94 (fv c)
  r8 : Row w g8 99 [.slice (some ⟨g1, 0, none⟩) P.length P.length, .slice (some ⟨g2, 0, none⟩) Q.length Q.length, .slice (some ⟨g3, 0, none⟩) R.length R.length]
  fr : Below w1.heap.size w1 w
  ge : w1.heap.size ≤ g1 ∧ w1.heap.size ≤ g2 ∧ w1.heap.size ≤ g3
  ne : g1 ≠ g2 ∧ g1 ≠ g3 ∧ g2 ≠ g3 ∧ g8 ≠ g1 ∧ g8 ≠ g2 ∧ g8 ≠ g3
section
variable {w1 w w' : World} {g1 g2 g3 g8 : Nat} {P Q R a b c : List F32}
theorem Ct.call {B : Nat} (h : Ct w1 w g1 g2 g3 g8 P Q R a b c) (hb : Below B w w') (hB : w.heap.size ≤ B) : Ct w1 w' g1 g2 g3 g8 P Q R a b c :=
  ⟨h.ra.below hb (Nat.lt_of_lt_of_le h.ra.lt hB), h.rb.below hb (Nat.lt_of_lt_of_le h.rb.lt hB), h.rc.below hb (Nat.lt_of_lt_of_le h.rc.lt hB), h.r8.below hb (Nat.lt_of_lt_of_le h.r8.lt hB), h.fr.trans (hb.mono (Nat.le_trans h.fr.size hB)), h.ge, h.ne⟩
theorem Ct.inA (h : Ct w1 w g1 g2 g3 g8 P Q R a b c) (i : Nat) {z : F32} (hz : z = fop .add (gF a i) f1) : Ct w1 (w.setCell ⟨g1, i, none⟩ (.float .f32 z.b)) g1 g2 g3 g8 P Q R (incF a i) b c :=
  ⟨rowF_inc h.ra i hz, h.rb.far (Ne.symm h.ne.1) _, h.rc.far (Ne.symm h.ne.2.1) _, h.r8.far h.ne.2.2.2.1 _, h.fr.setCell (p := ⟨g1, i, none⟩) h.ge.1 _, h.ge, h.ne⟩
theorem Ct.inB (h : Ct w1 w g1 g2 g3 g8 P Q R a b c) (i : Nat) {z : F32} (hz : z = fop .add (gF b i) f1) : Ct w1 (w.setCell ⟨g2, i, none⟩ (.float .f32 z.b)) g1 g2 g3 g8 P Q R a (incF b i) c :=
  ⟨h.ra.far h.ne.1 _, rowF_inc h.rb i hz, h.rc.far (Ne.symm h.ne.2.2.1) _, h.r8.far h.ne.2.2.2.2.1 _, h.fr.setCell (p := ⟨g2, i, none⟩) h.ge.2.1 _, h.ge, h.ne⟩
theorem Ct.inC (h : Ct w1 w g1 g2 g3 g8 P Q R a b c) (i : Nat) {z : F32} (hz : z = fop .add (gF c i) f1) : Ct w1 (w.setCell ⟨g3, i, none⟩ (.float .f32 z.b)) g1 g2 g3 g8 P Q R a b (incF c i) :=
  ⟨h.ra.far h.ne.2.1 _, h.rb.far h.ne.2.2.1 _, rowF_inc h.rc i hz, h.r8.far h.ne.2.2.2.2.2 _, h.fr.setCell (p := ⟨g3, i, none⟩) h.ge.2.2 _, h.ge, h.ne⟩
end
set_option maxRecDepth 100000 in
set_option maxHeartbeats 16000000 in
theorem iFit_any (S T : Int) (P Q R : List F32) (p2 p3 p4 c2 c3 c4 : Nat) (A : Option Addr) (n c : Nat) (ws : List (List Int)) (A' : Option Addr) (n' c' : Nat) (hs : List (List Int)) (w : World)
    (h2 : SlF w w.heap.size (some ⟨p2, 0, none⟩) P.length P) (h3 : SlF w w.heap.size (some ⟨p3, 0, none⟩) Q.length Q) (h4 : SlF w w.heap.size (some ⟨p4, 0, none⟩) R.length R)
    (hcap : capOk (.agg #[.int .i64 S, .int .i64 T, .slice (some ⟨p2, 0, none⟩) P.length c2, .slice (some ⟨p3, 0, none⟩) Q.length c3, .slice (some ⟨p4, 0, none⟩) R.length c4])) (hw : SlL w w.heap.size A n ws) (hh : SlL w w.heap.size A' n' hs) (hn : n ≤ 1048576) (hn' : n' ≤ 1048576) (hm : ∀ r ∈ ws, r.length ≤ 1048576) (hm' : ∀ r ∈ hs, r.length ≤ 1048576) :
    Calls Try.prog 23 #[.agg #[.int .i64 S, .int .i64 T, .slice (some ⟨p2, 0, none⟩) P.length c2, .slice (some ⟨p3, 0, none⟩) Q.length c3, .slice (some ⟨p4, 0, none⟩) R.length c4], .slice A n c, .slice A' n' c'] w fun e w' => ∃ v', e = .returned (.tuple #[v', .bool (fitOk S T P Q R ws hs)]) ∧ MdW w' w.heap.size v' (ckI (fitOk S T P Q R ws hs) S) (ckI (fitOk S T P Q R ws hs) T) (ckL (fitOk S T P Q R ws hs) (fitP S T P ws hs)) (ckL (fitOk S T P Q R ws hs) (fitQ S T Q ws hs)) (ckL (fitOk S T P Q R ws hs) (fitR S T R ws hs)) ∧ Below w.heap.size w w' := by
  have hlw := hw.len; have hlh := hh.len
  have H2 := Lib.hid h2; have H3 := Lib.hid h3; have H4 := Lib.hid h4; have HW := Lib.hid hw; have HH := Lib.hid hh; have HCAP := Lib.hid hcap
  have HM := Lib.hid hm; have HM' := Lib.hid hm'; have HLW := Lib.hid hlw; have HLH := Lib.hid hlh
  clear h2 h3 h4 hw hh hcap hm hm' hlw hlh
  have rb := (Row.new w 48 [.int .i64 S, .int .i64 T, .slice (some ⟨p2, 0, none⟩) P.length c2, .slice (some ⟨p3, 0, none⟩) Q.length c3, .slice (some ⟨p4, 0, none⟩) R.length c4]).alloc (.cells ([.int .i64 0, .int .i64 0, .slice none 0 0, .slice none 0 0, .slice none 0 0] : List Value).toArray 48)
  have rr := Row.new (w.alloc (.cells ([.int .i64 S, .int .i64 T, .slice (some ⟨p2, 0, none⟩) P.length c2, .slice (some ⟨p3, 0, none⟩) Q.length c3, .slice (some ⟨p4, 0, none⟩) R.length c4] : List Value).toArray 48)) 48 [.int .i64 0, .int .i64 0, .slice none 0 0, .slice none 0 0, .slice none 0 0]
  rw [show (w.alloc (.cells ([.int .i64 S, .int .i64 T, .slice (some ⟨p2, 0, none⟩) P.length c2, .slice (some ⟨p3, 0, none⟩) Q.length c3, .slice (some ⟨p4, 0, none⟩) R.length c4] : List Value).toArray 48)).heap.size = w.heap.size + 1 by simp] at rr
  have bx : Below w.heap.size w ((w.alloc (.cells ([.int .i64 S, .int .i64 T, .slice (some ⟨p2, 0, none⟩) P.length c2, .slice (some ⟨p3, 0, none⟩) Q.length c3, .slice (some ⟨p4, 0, none⟩) R.length c4] : List Value).toArray 48)).alloc (.cells ([.int .i64 0, .int .i64 0, .slice none 0 0, .slice none 0 0, .slice none 0 0] : List Value).toArray 48)) := ((Below.refl _ _).alloc (Nat.le_refl _) _).alloc (by simp) _
  have RB := Lib.hid rb; have RR := Lib.hid rr; have BX := Lib.hid bx; clear rb rr bx
  have a0 := RB.out.cell 0; have a1 := RB.out.cell 1; have a2 := RB.out.cell 2; have a3 := RB.out.cell 3; have a4 := RB.out.cell 4
  go_enter Try.func23, Try.ntmps23
  go_wp2_with fail
  clear a0 a1 a2 a3 a4
  obtain ⟨x0, hx0⟩ : ∃ x, x = ((w.alloc (.cells ([.int .i64 S, .int .i64 T, .slice (some ⟨p2, 0, none⟩) P.length c2, .slice (some ⟨p3, 0, none⟩) Q.length c3, .slice (some ⟨p4, 0, none⟩) R.length c4] : List Value).toArray 48)).alloc (.cells ([.int .i64 0, .int .i64 0, .slice none 0 0, .slice none 0 0, .slice none 0 0] : List Value).toArray 48)) := ⟨_, rfl⟩
  rw [← hx0] at RB RR BX
  change Calls _ _ _ ((w.alloc (.cells ([.int .i64 S, .int .i64 T, .slice (some ⟨p2, 0, none⟩) P.length c2, .slice (some ⟨p3, 0, none⟩) Q.length c3, .slice (some ⟨p4, 0, none⟩) R.length c4] : List Value).toArray 48)).alloc (.cells ([.int .i64 0, .int .i64 0, .slice none 0 0, .slice none 0 0, .slice none 0 0] : List Value).toArray 48)) _
  rw [← hx0]
  clear hx0
  refine (iHave_any S T P Q R _ _ c2 _ _ c3 _ _ c4 A n c ws x0 ((H2.out.below BX.out (Nat.le_refl _)).more BX.out.size) ((H3.out.below BX.out (Nat.le_refl _)).more BX.out.size) ((H4.out.below BX.out (Nat.le_refl _)).more BX.out.size) HCAP.out ((HW.out.below BX.out (Nat.le_refl _)).more BX.out.size) (by omega) (fun r hr => by have := HM.out r hr; omega)).mono ?_
  rintro e w0 ⟨rfl, hb⟩
  have BX1 := Lib.hid (BX.out.trans (hb.mono BX.out.size))
  have RB1 := Lib.hid (RB.out.below hb RB.out.lt)
  have RR1 := Lib.hid (RR.out.below hb RR.out.lt)
  clear hb RB RR BX
  obtain ⟨ok, hok⟩ : ∃ b, b = hwB S T P Q R ws := ⟨_, rfl⟩
  rw [← hok]
  have HOK := Lib.hid hok; clear hok
  cases ok with
  | false =>
    have r0 := RR1.out.cell 0; have r1 := RR1.out.cell 1; have r2 := RR1.out.cell 2; have r3 := RR1.out.cell 3; have r4 := RR1.out.cell 4
    have f0' := RR1.out.frozen 0; have f1' := RR1.out.frozen 1; have f2 := RR1.out.frozen 2; have f3 := RR1.out.frozen 3; have f4 := RR1.out.frozen 4
    go_wp2_with fail
    clear r0 f0' r1 f1' r2 f2 r3 f3 r4 f4
    have hF := (((((RR1.out.set_ 0 (.int .i64 0)).set_ 1 (.int .i64 0)).set_ 2 (.slice none 0 0)).set_ 3 (.slice none 0 0)).set_ 4 (.slice none 0 0))
    refine bodyPost_ret (results_cell2 rfl _ _ (w.heap.size + 1) 48 #[.int .i64 0, .int .i64 0, .slice none 0 0, .slice none 0 0, .slice none 0 0] (0, 0) _ (.bool false) rfl rfl hF Try.underlying48 rfl (by kernel_rfl)) rfl ?_
    have hf : fitOk S T P Q R ws hs = false := by unfold fitOk; rw [← HOK.out]; rfl
    rw [hf]
    have hle : w.heap.size ≤ w.heap.size + 1 := by omega
    exact ⟨_, rfl, ⟨_, _, _, rfl, OwnV.nil _ _ _ _ _, OwnV.nil _ _ _ _ _, OwnV.nil _ _ _ _ _, fun k hk => by simp [Value.ownBlock] at hk, fun k hk => by simp [Value.ownBlock] at hk, fun k hk => by simp [Value.ownBlock] at hk⟩, (((((BX1.out.setCell (p := ⟨w.heap.size + 1, 0, none⟩) hle _).setCell (p := ⟨w.heap.size + 1, 1, none⟩) hle _).setCell (p := ⟨w.heap.size + 1, 2, none⟩) hle _).setCell (p := ⟨w.heap.size + 1, 3, none⟩) hle _).setCell (p := ⟨w.heap.size + 1, 4, none⟩) hle _)⟩

  | true =>
  by_cases hnn : n' = n
  case neg =>
    have hne : ((n' : Int) == (n : Int)) = false := beq_false_of_ne (by omega)
    have hne2 : ((n' : Int) != (n : Int)) = true := by rw [bne, hne]; rfl
    have HNN := Lib.hid hnn
    clear hnn
    have r0 := RR1.out.cell 0; have r1 := RR1.out.cell 1; have r2 := RR1.out.cell 2; have r3 := RR1.out.cell 3; have r4 := RR1.out.cell 4
    have f0' := RR1.out.frozen 0; have f1' := RR1.out.frozen 1; have f2 := RR1.out.frozen 2; have f3 := RR1.out.frozen 3; have f4 := RR1.out.frozen 4
    go_wp2_with fail
    clear r0 f0' r1 f1' r2 f2 r3 f3 r4 f4
    have hF := (((((RR1.out.set_ 0 (.int .i64 0)).set_ 1 (.int .i64 0)).set_ 2 (.slice none 0 0)).set_ 3 (.slice none 0 0)).set_ 4 (.slice none 0 0))
    refine bodyPost_ret (results_cell2 rfl _ _ (w.heap.size + 1) 48 #[.int .i64 0, .int .i64 0, .slice none 0 0, .slice none 0 0, .slice none 0 0] (0, 0) _ (.bool false) rfl rfl hF Try.underlying48 rfl (by kernel_rfl)) rfl ?_
    have hf : fitOk S T P Q R ws hs = false := by unfold fitOk; rw [decide_eq_false (by have := HNN.out; have := HLW.out; have := HLH.out; omega)]; simp
    rw [hf]
    have hle : w.heap.size ≤ w.heap.size + 1 := by omega
    exact ⟨_, rfl, ⟨_, _, _, rfl, OwnV.nil _ _ _ _ _, OwnV.nil _ _ _ _ _, OwnV.nil _ _ _ _ _, fun k hk => by simp [Value.ownBlock] at hk, fun k hk => by simp [Value.ownBlock] at hk, fun k hk => by simp [Value.ownBlock] at hk⟩, (((((BX1.out.setCell (p := ⟨w.heap.size + 1, 0, none⟩) hle _).setCell (p := ⟨w.heap.size + 1, 1, none⟩) hle _).setCell (p := ⟨w.heap.size + 1, 2, none⟩) hle _).setCell (p := ⟨w.heap.size + 1, 3, none⟩) hle _).setCell (p := ⟨w.heap.size + 1, 4, none⟩) hle _)⟩

  subst hnn
  obtain ⟨bS, bT, lP, lQ, lR, lw1, lw16, hwd⟩ := hwB_true HOK.out.symm
  obtain ⟨s, rfl⟩ : ∃ s : Nat, S = (s : Int) := ⟨S.toNat, by omega⟩
  obtain ⟨t, rfl⟩ : ∃ t : Nat, T = (t : Int) := ⟨T.toNat, by omega⟩
  rw [Int.toNat_natCast] at lP lQ lR
  rw [Int.toNat_natCast] at lR
  have BS : Hid (1 ≤ s ∧ s ≤ 5) := by show _ ∧ _; omega
  have BT : Hid (1 ≤ t ∧ t ≤ 4) := by show _ ∧ _; omega
  have LP := Lib.hid lP; have LQ := Lib.hid lQ; have LR := Lib.hid lR; have HWD := Lib.hid hwd
  have hm1 : s * s ≤ 5 * 5 := Nat.mul_le_mul BS.out.2 BS.out.2
  have hm2 : s * t ≤ 5 * 4 := Nat.mul_le_mul BS.out.2 BT.out.2
  have BL : Hid (P.length ≤ 25 ∧ Q.length ≤ 25 ∧ R.length ≤ 25) := by show _ ∧ _ ∧ _; omega
  have BN : Hid (1 ≤ n' ∧ n' ≤ 16) := by have := HLW.out; show _ ∧ _; omega
  clear bS bT lP lQ lR lw1 lw16 hwd hm1 hm2
  have hnc := iNoCounts_any (s : Int) (t : Int) (some ⟨p2, 0, none⟩) P.length c2 (some ⟨p3, 0, none⟩) Q.length c3 (some ⟨p4, 0, none⟩) R.length c4 w0 (by have := BL.out; omega) (by have := BL.out; omega) (by have := BL.out; omega)
  have a0 := RB1.out.cell 0; have a1 := RB1.out.cell 1; have a2 := RB1.out.cell 2; have a3 := RB1.out.cell 3; have a4 := RB1.out.cell 4
  go_wp2_with fail
  clear a0 a1 a2 a3 a4
  refine hnc.mono ?_
  rintro e w2 ⟨g1, g2, g3, rfl, hge, hne, hr1, hr2, hr3, hb2⟩
  have r8 := Row.new w2 99 [.slice (some ⟨g1, 0, none⟩) P.length P.length, .slice (some ⟨g2, 0, none⟩) Q.length Q.length, .slice (some ⟨g3, 0, none⟩) R.length R.length]
  obtain ⟨w1, hw1⟩ : ∃ x, x = w0 := ⟨_, rfl⟩
  rw [← hw1] at hge hb2
  have hO : Ct w1 (w2.alloc (.cells ([.slice (some ⟨g1, 0, none⟩) P.length P.length, .slice (some ⟨g2, 0, none⟩) Q.length Q.length, .slice (some ⟨g3, 0, none⟩) R.length R.length] : List Value).toArray 99)) g1 g2 g3 w2.heap.size P Q R (fiA s t ws hs (List.replicate P.length f0) 0) (fiB s t ws hs (List.replicate Q.length f0) 0) (fiC s t ws hs (List.replicate R.length f0) 0) :=
    ⟨hr1.alloc _, hr2.alloc _, hr3.alloc _, r8, hb2.alloc hb2.size _, hge, hne.1, hne.2.1, hne.2.2, Ne.symm (Nat.ne_of_lt hr1.lt), Ne.symm (Nat.ne_of_lt hr2.lt), Ne.symm (Nat.ne_of_lt hr3.lt)⟩
  have c0 := r8.cell 0
  clear hnc
  rw [← hw1] at BX1 RB1 RR1
  clear hw1
  go_wp2_with fail
  obtain ⟨w3, hw3⟩ : ∃ x, x = (w2.alloc (.cells ([.slice (some ⟨g1, 0, none⟩) P.length P.length, .slice (some ⟨g2, 0, none⟩) Q.length Q.length, .slice (some ⟨g3, 0, none⟩) R.length R.length] : List Value).toArray 99)) := ⟨_, rfl⟩
  obtain ⟨g8, hg8⟩ : ∃ x, x = w2.heap.size := ⟨_, rfl⟩
  change Code.wp _ _ _ _ (w2.alloc (.cells ([.slice (some ⟨g1, 0, none⟩) P.length P.length, .slice (some ⟨g2, 0, none⟩) Q.length Q.length, .slice (some ⟨g3, 0, none⟩) R.length R.length] : List Value).toArray 99))
  rw [← hw3, ← hg8] at hO
  rw [← hw3, ← hg8]
  have HO := Lib.hid hO
  clear hO hw3 hg8 r8 c0 hr1 hr2 hr3 hge hne hb2
  have LT1 : Hid (w.heap.size + 1 < w1.heap.size) := RR1.out.lt
  have NB : Hid (w.heap.size < w1.heap.size) := RB1.out.lt
  go_loopg [9, 10, 11, 12, 13, 30] n' (fun q u9 u10 u11 u12 u13 i wr => ∃ k : Nat, i = .int .i64 (k : Int) ∧ k ≤ n' ∧ n' ≤ q + k ∧ Hid (prB (s : Int) ws hs k = true) ∧ Hid (Ct w1 wr g1 g2 g3 g8 P Q R (fiA s t ws hs (List.replicate P.length f0) k) (fiB s t ws hs (List.replicate Q.length f0) k) (fiC s t ws hs (List.replicate R.length f0) k)))
  case atStart => exact ⟨0, by go_num, by omega, by omega, rfl, HO.out⟩
  case round =>
    clear HO
    obtain ⟨k, rfl, hk, hq, HPR, HO⟩ := hrel
    obtain ⟨wo, rfl⟩ : ∃ x : World, x = wr := ⟨_, rfl⟩
    obtain ⟨go, hgo⟩ : ∃ x : Nat, x = gk := ⟨_, rfl⟩
    by_cases hlt : k < n'
    · have hbo : Below w.heap.size w wo := BX1.out.trans (HO.out.fr.mono BX1.out.size)
      have HBO := Lib.hid hbo
      obtain ⟨b, off, Aw, cw, word, rfl, _, hx, kc, hxs, hxm⟩ := (HW.out.below hbo (Nat.le_refl _)).at_ hlt
      obtain ⟨b', off', Ah, ch, way, rfl, _, hy, kc', hys, hym⟩ := (HH.out.below hbo (Nat.le_refl _)).at_ hlt
      have hB1 := RB1.out.below HO.out.fr NB.out
      have hH := iHidden_any (s : Int) (t : Int) (some ⟨p2, 0, none⟩) P.length c2 (some ⟨p3, 0, none⟩) Q.length c3 (some ⟨p4, 0, none⟩) R.length c4 Aw word.length cw word Ah way.length ch way
      have HS1 := Lib.hid hxs.out; have HS2 := Lib.hid hys.out
      have HGW : Hid (ws.getD k [] = word) := by show _ = _; rw [List.getD_eq_getElem?_getD, hx.out]; rfl
      have HGH : Hid (hs.getD k [] = way) := by show _ = _; rw [List.getD_eq_getElem?_getD, hy.out]; rfl
      have hwl := (HWD.out word (List.mem_of_getElem? hx.out)).1
      have HWL := Lib.hid hwl
      have HWR := Lib.hid (HWD.out word (List.mem_of_getElem? hx.out)).2
      have HWM := Lib.hid (HM'.out way (List.mem_of_getElem? hy.out))
      have l0 : (0 : Int) ≤ (k : Int) := by omega
      have l1 : (k : Int) < (n' : Int) := by omega
      have lw : IntKind.i64.wrap ((k : Int) + 1) = (k : Int) + 1 := IntWalk.i64_in _ (by have := BN.out; omega)
      have hcel : Hid (∀ x : World, Below wo.heap.size wo x → (Below wo.heap.size wo x ∧ x.cell? ⟨w.heap.size, 0, none⟩ = some (.int .i64 (s : Int)) ∧ x.cell? ⟨w.heap.size, 1, none⟩ = some (.int .i64 (t : Int)) ∧ x.cell? ⟨w.heap.size, 2, none⟩ = some (.slice (some ⟨p2, 0, none⟩) P.length c2) ∧ x.cell? ⟨w.heap.size, 3, none⟩ = some (.slice (some ⟨p3, 0, none⟩) Q.length c3) ∧ x.cell? ⟨w.heap.size, 4, none⟩ = some (.slice (some ⟨p4, 0, none⟩) R.length c4) ∧ x.cell? ⟨b', off' + k, none⟩ = some (.slice Ah way.length ch))) := fun x hx => by
        have r := hB1.below hx hB1.lt
        exact ⟨hx, r.cell 0, r.cell 1, r.cell 2, r.cell 3, r.cell 4, (hx.cell (p := ⟨b', off' + k, none⟩) (World.block_lt_of_cell? _ _ kc')).trans kc'⟩
      have hkeep : Hid (∀ x y : World, Below wo.heap.size wo x → Below x.heap.size x y → (Below wo.heap.size wo y ∧ y.cell? ⟨w.heap.size, 0, none⟩ = some (.int .i64 (s : Int)) ∧ y.cell? ⟨w.heap.size, 1, none⟩ = some (.int .i64 (t : Int)) ∧ y.cell? ⟨w.heap.size, 2, none⟩ = some (.slice (some ⟨p2, 0, none⟩) P.length c2) ∧ y.cell? ⟨w.heap.size, 3, none⟩ = some (.slice (some ⟨p3, 0, none⟩) Q.length c3) ∧ y.cell? ⟨w.heap.size, 4, none⟩ = some (.slice (some ⟨p4, 0, none⟩) R.length c4) ∧ y.cell? ⟨b', off' + k, none⟩ = some (.slice Ah way.length ch))) := fun x y h1 h2 => hcel.out y (h1.trans (h2.mono h1.size))
      have hHC : Hid (∀ x : World, Below wo.heap.size wo x → Calls Try.prog 71 #[.agg #[.int .i64 (s : Int), .int .i64 (t : Int), .slice (some ⟨p2, 0, none⟩) P.length c2, .slice (some ⟨p3, 0, none⟩) Q.length c3, .slice (some ⟨p4, 0, none⟩) R.length c4], .slice Aw word.length cw, .slice Ah way.length ch] x fun e y => e = .returned (.bool (hidA (s : Int) word way)) ∧ Below x.heap.size x y) := fun x hx => hH x (by have := BS.out; omega) ((HS1.out.below hx HBO.out.size).more (Nat.le_trans HBO.out.size hx.size)) ((HS2.out.below hx HBO.out.size).more (Nat.le_trans HBO.out.size hx.size)) (by have := HWL.out; omega) (by have := HWM.out; omega)
      have hfrom := hcel.out wo.drew (Below.drew (Below.refl _ _))
      clear hH hx hy hxs hys hxm hym hwl hbo
      go_wp2_with fail
      clear kc kc'
      go_region_held3 (fun x => Below wo.heap.size wo x ∧ x.cell? ⟨w.heap.size, 0, none⟩ = some (.int .i64 (s : Int)) ∧ x.cell? ⟨w.heap.size, 1, none⟩ = some (.int .i64 (t : Int)) ∧ x.cell? ⟨w.heap.size, 2, none⟩ = some (.slice (some ⟨p2, 0, none⟩) P.length c2) ∧ x.cell? ⟨w.heap.size, 3, none⟩ = some (.slice (some ⟨p3, 0, none⟩) Q.length c3) ∧ x.cell? ⟨w.heap.size, 4, none⟩ = some (.slice (some ⟨p4, 0, none⟩) R.length c4) ∧ x.cell? ⟨b', off' + k, none⟩ = some (.slice Ah way.length ch)) (first | (with_reducible assumption) | go_keep)
        (first | (go_at_call 71; refine (hHC.out _ (by first | (with_reducible assumption) | (with_reducible (apply And.left; assumption)))).mono ?_; rintro e y1 ⟨rfl, hb1⟩; have s1 := (fun h => hkeep.out _ _ h hb1) (by first | (with_reducible assumption) | (with_reducible (apply And.left; assumption)))))
      obtain ⟨hb2, m0, m1, -, -, -, m5⟩ := s1
      have HB2 := Lib.hid hb2
      have O1 := HO.out.call hb2 (Nat.le_refl _)
      have HO1 := Lib.hid O1
      clear hcel hkeep hHC hfrom hb1 hb2 O1 hB1
      obtain ⟨hv, hhv⟩ : ∃ b, b = hidA (s : Int) word way := ⟨_, rfl⟩
      rw [← hhv]
      have HHV := Lib.hid hhv; clear hhv
      cases hv with
      | false =>
        clear m0 m1 m5
        have RRy := Lib.hid (RR1.out.below HO1.out.fr LT1.out)
        have BXy := Lib.hid (BX1.out.trans (HO1.out.fr.mono BX1.out.size))
        have r0 := RRy.out.cell 0; have r1 := RRy.out.cell 1; have r2 := RRy.out.cell 2; have r3 := RRy.out.cell 3; have r4 := RRy.out.cell 4
        have f0' := RRy.out.frozen 0; have f1' := RRy.out.frozen 1; have f2 := RRy.out.frozen 2; have f3 := RRy.out.frozen 3; have f4 := RRy.out.frozen 4
        go_wp2_with fail
        clear r0 f0' r1 f1' r2 f2 r3 f3 r4 f4
        have hF := (((((RRy.out.set_ 0 (.int .i64 0)).set_ 1 (.int .i64 0)).set_ 2 (.slice none 0 0)).set_ 3 (.slice none 0 0)).set_ 4 (.slice none 0 0))
        refine bodyPost_ret (results_cell2 rfl _ _ (w.heap.size + 1) 48 #[.int .i64 0, .int .i64 0, .slice none 0 0, .slice none 0 0, .slice none 0 0] (0, 0) _ (.bool false) rfl rfl hF Try.underlying48 rfl (by kernel_rfl)) rfl ?_
        have hf : fitOk (s : Int) (t : Int) P Q R ws hs = false := by unfold fitOk; rw [prB_no (k := k) (by rw [HLW.out]; exact hlt) (by rw [HGW.out, HGH.out]; exact HHV.out.symm)]; simp
        rw [hf]
        have hle : w.heap.size ≤ w.heap.size + 1 := by omega
        exact ⟨_, rfl, ⟨_, _, _, rfl, OwnV.nil _ _ _ _ _, OwnV.nil _ _ _ _ _, OwnV.nil _ _ _ _ _, fun k hk => by simp [Value.ownBlock] at hk, fun k hk => by simp [Value.ownBlock] at hk, fun k hk => by simp [Value.ownBlock] at hk⟩, (((((BXy.out.setCell (p := ⟨w.heap.size + 1, 0, none⟩) hle _).setCell (p := ⟨w.heap.size + 1, 1, none⟩) hle _).setCell (p := ⟨w.heap.size + 1, 2, none⟩) hle _).setCell (p := ⟨w.heap.size + 1, 3, none⟩) hle _).setCell (p := ⟨w.heap.size + 1, 4, none⟩) hle _)⟩

      | true =>
      have HPR1 : Hid (prB (s : Int) ws hs (k + 1) = true) := by show _ = _; rw [prB_succ, HPR.out, HGW.out, HGH.out, ← HHV.out]; rfl
      obtain ⟨hvl, hvr⟩ := hidA_true HHV.out.symm
      have HVL := Lib.hid hvl; have HVR := Lib.hid hvr
      have hS2 := HS2.out.below HB2.out HBO.out.size
      obtain ⟨bh, oh, v0, hAh, hbhw, hv0, kv0⟩ := hS2.at_ (k := 0) (by omega)
      have hv0r := hvr v0 (List.mem_of_getElem? hv0.out)
      obtain ⟨v, hv⟩ : ∃ v : Nat, v0 = (v : Int) := ⟨v0.toNat, by omega⟩
      subst hv
      cases hAh
      have HBH : Hid (bh ≠ g3) := by show _ ≠ _; have h1 := HO1.out.ge.2.2; have h2 := NB.out; omega
      have hvs : v < s := by omega
      have HNA : Hid ((fiA s t ws hs (List.replicate P.length f0) (k + 1)) = incF (fiA s t ws hs (List.replicate P.length f0) k) v) := by
        show _ = _
        rw [fiA, HGH.out, List.getD_eq_getElem?_getD, hv0.out]; rfl
      have lA : (fiA s t ws hs (List.replicate P.length f0) k).length = P.length := by rw [fiA_len, List.length_replicate]
      obtain ⟨z, hz⟩ : ∃ z, z = fop .add (gF (fiA s t ws hs (List.replicate P.length f0) k) v) f1 := ⟨_, rfl⟩
      have hop := inc_law ((fiA_cnt k).gNN v) hz Try.prog
      obtain ⟨ka, kf⟩ := rowF_at HO1.out.ra (i := v) (by rw [lA, LP.out]; exact hvs)
      have k8 := HO1.out.r8.cell 0
      have HZ := Lib.hid hz
      have i0 : (0 : Int) ≤ (v : Int) := by omega
      have i1 : (v : Int) < (P.length : Int) := by have := LP.out; omega
      have i2 : (0 : Int) < (way.length : Int) := by omega
      have i3 : 0 < way.length := by omega
      obtain ⟨xa, hxa⟩ : ∃ x, x = gF (fiA s t ws hs (List.replicate P.length f0) k) v := ⟨_, rfl⟩
      rw [← hxa] at hop ka
      rw [Nat.add_zero] at kv0
      clear hz hxa hvl hvr hv0 hv0r hS2 lA
      go_wp2_with fail
      refine wp_tail 9 (by kernel_rfl) (by kernel_rfl) (fun y hy => ?_)
      have t8 : y.cell? ⟨g8, 0, none⟩ = some (.slice (some ⟨g1, 0, none⟩) P.length P.length) := by rw [hy]; exact k8
      have tv : y.cell? ⟨bh, oh, none⟩ = some (.int .i64 (v : Int)) := by rw [hy]; exact kv0
      have ta : y.cell? ⟨g1, v, none⟩ = some (.float .f32 xa.b) := by rw [hy]; exact ka
      have tf : y.frozen? ⟨g1, v, none⟩ = false := by rw [hy]; exact kf
      have HOy : Hid (Ct w1 y g1 g2 g3 g8 P Q R (fiA s t ws hs (List.replicate P.length f0) k) (fiB s t ws hs (List.replicate Q.length f0) k) (fiC s t ws hs (List.replicate R.length f0) k)) := by rw [hy]; exact HO1.out.call (B := y1.heap.size) (below_draws (Below.refl _ _) 1) (Nat.le_refl _)
      have HBy : Hid (Below wo.heap.size wo y) := by rw [hy]; exact below_draws HB2.out 1
      clear k8 kv0 ka kf m0 m1 m5
      clear hy
      simp only [List.take_succ_cons, List.take_zero, List.drop_succ_cons, List.drop_zero]
      repeat still_step
      refine wpStill_nil ?_
      have O2 := Lib.hid (HOy.out.inA v HZ.out)
      have HBz : Hid (Below w.heap.size wo (y.setCell ⟨g1, v, none⟩ (.float .f32 z.b))) := (HBy.out.mono HBO.out.size).setCell (p := ⟨g1, v, none⟩) (show w.heap.size ≤ g1 by have := HO.out.ge.1; have := NB.out; omega) _
      go_wp2_with fail
      clear t8 tv ta tf
      go_loopg [12, 13, 59] word.length (fun q u12 u13 i wr => ∃ j : Nat, i = .int .i64 (j : Int) ∧ j ≤ word.length ∧ word.length ≤ q + j ∧ Hid (Ct w1 wr g1 g2 g3 g8 P Q R (fiA s t ws hs (List.replicate P.length f0) (k + 1)) (csF way s (fiB s t ws hs (List.replicate Q.length f0) k) j) (cgF way t word (fiC s t ws hs (List.replicate R.length f0) k) j)) ∧ Hid (Below w.heap.size wo wr))
      case atStart => exact ⟨0, by go_num, by omega, by omega, by show Ct _ _ _ _ _ _ _ _ _ _ _ _; rw [HNA.out]; exact O2.out, HBz.out⟩
      case round =>
        clear O2 HBz HOy HBy HO1 HB2
        obtain ⟨j, rfl, hj, hq2, HI, HBI⟩ := hrel
        obtain ⟨wi, rfl⟩ : ∃ x : World, x = wr := ⟨_, rfl⟩
        by_cases hlt2 : j < word.length
        · obtain ⟨bw, ow, lv, hAw, _, hl, kl⟩ := (HS1.out.below HBI.out (Nat.le_refl _)).at_ hlt2
          cases hAw
          have hjw : j < way.length := by have := HVL.out; omega
          have hjw1 : j + 1 < way.length := by have := HVL.out; omega
          obtain ⟨bh2, oh2, vv, hAh, _, hv1, kv⟩ := (HS2.out.below HBI.out (Nat.le_refl _)).at_ hjw
          injection hAh with hAh
          injection hAh with e1 e2 _
          subst e1 e2
          obtain ⟨bh2, oh2, uu, hAh, _, hu1, ku⟩ := (HS2.out.below HBI.out (Nat.le_refl _)).at_ hjw1
          injection hAh with hAh
          injection hAh with e1 e2 _
          subst e1 e2
          have rl := HWR.out lv (List.mem_of_getElem? hl.out)
          have rv := HVR.out vv (List.mem_of_getElem? hv1.out)
          have ru := HVR.out uu (List.mem_of_getElem? hu1.out)
          obtain ⟨l, hl0⟩ : ∃ x : Nat, lv = (x : Int) := ⟨lv.toNat, by omega⟩
          obtain ⟨v1, hv0⟩ : ∃ x : Nat, vv = (x : Int) := ⟨vv.toNat, by omega⟩
          obtain ⟨u1, hu0⟩ : ∃ x : Nat, uu = (x : Int) := ⟨uu.toNat, by omega⟩
          subst hl0 hv0 hu0
          have lt1 : l < t := by omega
          have lt2 : v1 < s := by omega
          have lt3 : u1 < s := by omega
          have HNB : Hid (csF way s (fiB s t ws hs (List.replicate Q.length f0) k) (j + 1) = incF (csF way s (fiB s t ws hs (List.replicate Q.length f0) k) j) (v1 * s + u1)) := by
            show _ = _
            rw [csF, List.getD_eq_getElem?_getD, hv1.out, List.getD_eq_getElem?_getD, hu1.out]; rfl
          have HNC : Hid (cgF way t word (fiC s t ws hs (List.replicate R.length f0) k) (j + 1) = incF (cgF way t word (fiC s t ws hs (List.replicate R.length f0) k) j) (v1 * t + l)) := by
            show _ = _
            rw [cgF, List.getD_eq_getElem?_getD, hv1.out, List.getD_eq_getElem?_getD, hl.out]; rfl
          obtain ⟨pt, hpt⟩ : ∃ p, p = v1 * t := ⟨_, rfl⟩
          obtain ⟨ps, hps⟩ : ∃ p, p = v1 * s := ⟨_, rfl⟩
          have bt1 : pt + l < R.length := by rw [hpt, LR.out]; exact idx_lt lt2 lt1
          have bs1 : ps + u1 < Q.length := by rw [hps, LQ.out]; exact idx_lt lt2 lt3
          have W1 : IntKind.i64.wrap ((v1 : Int) * (t : Int)) = (pt : Int) := by
            rw [← Int.natCast_mul, ← hpt]; exact IntWalk.i64_in _ (by have := BL.out; omega)
          have W3 : IntKind.i64.wrap ((v1 : Int) * (s : Int)) = (ps : Int) := by
            rw [← Int.natCast_mul, ← hps]; exact IntWalk.i64_in _ (by have := BL.out; omega)
          have W2 : IntKind.i64.wrap ((pt : Int) + (l : Int)) = (pt : Int) + (l : Int) := IntWalk.i64_in _ (by have := BL.out; omega)
          have W4 : IntKind.i64.wrap ((ps : Int) + (u1 : Int)) = (ps : Int) + (u1 : Int) := IntWalk.i64_in _ (by have := BL.out; omega)
          have W5 : IntKind.i64.wrap ((j : Int) + 1) = (j : Int) + 1 := IntWalk.i64_in _ (by have := HWL.out; omega)
          rw [← hpt] at HNC
          rw [← hps] at HNB
          obtain ⟨b0, hb0⟩ : ∃ x, x = csF way s (fiB s t ws hs (List.replicate Q.length f0) k) j := ⟨_, rfl⟩
          obtain ⟨c0, hc0⟩ : ∃ x, x = cgF way t word (fiC s t ws hs (List.replicate R.length f0) k) j := ⟨_, rfl⟩
          have lb : b0.length = Q.length := by rw [hb0, csF_len, fiB_len, List.length_replicate]
          have lc : c0.length = R.length := by rw [hc0, cgF_len, fiC_len, List.length_replicate]
          have nb : NN (gF b0 (ps + u1)).b := by rw [hb0]; exact (csF_cnt (fiB_cnt (fun x hx => (HWD.out x hx).1) k) j).gNN _
          have nc : NN (gF c0 (pt + l)).b := by rw [hc0]; exact (cgF_cnt (fiC_cnt (fun x hx => (HWD.out x hx).1) k) j).gNN _
          rw [← hb0, ← hc0] at HI
          rw [← hb0] at HNB
          rw [← hc0] at HNC
          obtain ⟨z3, hz3⟩ : ∃ z, z = fop .add (gF c0 (pt + l)) f1 := ⟨_, rfl⟩
          obtain ⟨z2, hz2⟩ : ∃ z, z = fop .add (gF b0 (ps + u1)) f1 := ⟨_, rfl⟩
          have hop3 := inc_law nc hz3 Try.prog
          have hop2 := inc_law nb hz2 Try.prog
          obtain ⟨kc, kf⟩ := rowF_at HI.out.rc (i := pt + l) (by rw [lc]; exact bt1)
          have k8 := HI.out.r8.cell 2
          have hbm := RB1.out.below HI.out.fr NB.out
          have m1 := hbm.cell 1
          have HZ3 := Lib.hid hz3; have HZ2 := Lib.hid hz2
          obtain ⟨xc, hxc⟩ : ∃ x, x = gF c0 (pt + l) := ⟨_, rfl⟩
          obtain ⟨xb, hxb⟩ : ∃ x, x = gF b0 (ps + u1) := ⟨_, rfl⟩
          rw [← hxc] at hop3 kc
          rw [← hxb] at hop2
          have HXB := Lib.hid hxb; have LB := Lib.hid lb
          have n0 : (0 : Int) ≤ (j : Int) := by omega
          have n1 : (j : Int) < (word.length : Int) := by omega
          have n2 : (j : Int) < (way.length : Int) := by omega
          have n3 : (j : Int) + 1 < (way.length : Int) := by omega
          have n4 : (0 : Int) ≤ (j : Int) + 1 := by omega
          have n5 : (0 : Int) ≤ (pt : Int) + (l : Int) := by omega
          have n6 : (pt : Int) + (l : Int) < (R.length : Int) := by omega
          have n7 : (0 : Int) ≤ (ps : Int) + (u1 : Int) := by omega
          have n8 : (ps : Int) + (u1 : Int) < (Q.length : Int) := by omega
          have BS1 := Lib.hid bs1
          have nt1 : ((pt : Int) + (l : Int)).toNat = pt + l := by omega
          have nt2 : ((ps : Int) + (u1 : Int)).toNat = ps + u1 := by omega
          have nt3 : ((j : Int) + 1).toNat = j + 1 := by omega
          clear hl hv1 hu1 rl rv ru lt1 lt2 lt3 hpt hps bt1 bs1 hb0 hc0 lb lc nb nc hz3 hz2 hxc hxb hbm hjw hjw1
          go_wp2_with fail
          clear kl
          refine wp_tail 15 (by kernel_rfl) (by kernel_rfl) (fun y hy => ?_)
          have q8 : y.cell? ⟨g8, 2, none⟩ = some (.slice (some ⟨g3, 0, none⟩) R.length R.length) := by rw [hy]; exact k8
          have qv : y.cell? ⟨bh, oh + j, none⟩ = some (.int .i64 (v1 : Int)) := by rw [hy]; exact kv
          have qu : y.cell? ⟨bh, oh + (j + 1), none⟩ = some (.int .i64 (u1 : Int)) := by rw [hy]; exact ku
          have qm : y.cell? ⟨w.heap.size, 1, none⟩ = some (.int .i64 (t : Int)) := by rw [hy]; exact m1
          have qc : y.cell? ⟨g3, pt + l, none⟩ = some (.float .f32 xc.b) := by rw [hy]; exact kc
          have qf : y.frozen? ⟨g3, pt + l, none⟩ = false := by rw [hy]; exact kf
          have HIy : Hid (Ct w1 y g1 g2 g3 g8 P Q R (fiA s t ws hs (List.replicate P.length f0) (k + 1)) (b0) (c0)) := by rw [hy]; exact HI.out.call (B := wi.heap.size) (below_draws (Below.refl _ _) 1) (Nat.le_refl _)
          have HBy : Hid (Below w.heap.size wo y) := by rw [hy]; exact below_draws HBI.out 1
          clear k8 kv ku m1 kc kf
          clear hy
          simp only [List.take_succ_cons, List.take_zero, List.drop_succ_cons, List.drop_zero]
          repeat still_step
          refine wpStill_nil ?_
          have O3 := HIy.out.inC (pt + l) HZ3.out
          have hbz := HBy.out.setCell (p := ⟨g3, pt + l, none⟩) (show w.heap.size ≤ g3 by have := HIy.out.ge.2.2; have := NB.out; omega) (.float .f32 z3.b)
          go_wp2_with fail
          obtain ⟨w6, hw6⟩ : ∃ x, x = y.setCell ⟨g3, pt + l, none⟩ (.float .f32 z3.b) := ⟨_, rfl⟩
          change Code.wp _ _ _ _ (y.setCell ⟨g3, pt + l, none⟩ (.float .f32 z3.b))
          rw [← hw6] at O3 hbz
          rw [← hw6]
          have qv2 : w6.cell? ⟨bh, oh + j, none⟩ = some (.int .i64 (v1 : Int)) := by rw [hw6]; exact (World.cell?_of_block (Below.heap_setCell y ⟨g3, pt + l, none⟩ _ bh HBH.out)).trans qv
          have qu2 : w6.cell? ⟨bh, oh + (j + 1), none⟩ = some (.int .i64 (u1 : Int)) := by rw [hw6]; exact (World.cell?_of_block (Below.heap_setCell y ⟨g3, pt + l, none⟩ _ bh HBH.out)).trans qu
          have k8 := O3.r8.cell 1
          have m0 := (RB1.out.below O3.fr NB.out).cell 0
          obtain ⟨kb, kf⟩ := rowF_at O3.rb (i := ps + u1) (by rw [LB.out]; exact BS1.out)
          rw [← HXB.out] at kb
          have HO3 := Lib.hid O3; have HB6 := Lib.hid hbz
          clear q8 qv qu qm qc qf O3 hbz hw6 hop3
          refine wp_tail 19 (by kernel_rfl) (by kernel_rfl) (fun y hy => ?_)
          have q8 : y.cell? ⟨g8, 1, none⟩ = some (.slice (some ⟨g2, 0, none⟩) Q.length Q.length) := by rw [hy]; exact k8
          have qv : y.cell? ⟨bh, oh + j, none⟩ = some (.int .i64 (v1 : Int)) := by rw [hy]; exact qv2
          have qu : y.cell? ⟨bh, oh + (j + 1), none⟩ = some (.int .i64 (u1 : Int)) := by rw [hy]; exact qu2
          have qm : y.cell? ⟨w.heap.size, 0, none⟩ = some (.int .i64 (s : Int)) := by rw [hy]; exact m0
          have qc : y.cell? ⟨g2, ps + u1, none⟩ = some (.float .f32 xb.b) := by rw [hy]; exact kb
          have qf : y.frozen? ⟨g2, ps + u1, none⟩ = false := by rw [hy]; exact kf
          have HIy : Hid (Ct w1 y g1 g2 g3 g8 P Q R (fiA s t ws hs (List.replicate P.length f0) (k + 1)) (b0) (incF c0 (pt + l))) := by rw [hy]; exact HO3.out.call (B := w6.heap.size) (below_draws (Below.refl _ _) 1) (Nat.le_refl _)
          have HBy : Hid (Below w.heap.size wo y) := by rw [hy]; exact below_draws HB6.out 1
          clear k8 qv2 qu2 m0 kb kf
          clear hy
          simp only [List.take_succ_cons, List.take_zero, List.drop_succ_cons, List.drop_zero]
          repeat still_step
          refine wpStill_nil ?_
          go_wp2_with fail
          go_roundg (gk - 1)
          case measure => omega
          case rel =>
            refine ⟨j + 1, by go_num, by omega, by omega, ?_, HBy.out.setCell (p := ⟨g2, ps + u1, none⟩) (show w.heap.size ≤ g2 by have := HIy.out.ge.2.1; have := NB.out; omega) _⟩
            show Ct _ _ _ _ _ _ _ _ _ _ _ _
            rw [HNB.out, HNC.out]
            exact HIy.out.inB (ps + u1) HZ2.out
        · have hjl : j = word.length := by omega
          have n1 : ¬ (j : Int) < (word.length : Int) := by omega
          have e1 : csF way s (fiB s t ws hs (List.replicate Q.length f0) k) j = fiB s t ws hs (List.replicate Q.length f0) (k + 1) := by rw [fiB, HGH.out, HGW.out, hjl]
          have e2 : cgF way t word (fiC s t ws hs (List.replicate R.length f0) k) j = fiC s t ws hs (List.replicate R.length f0) (k + 1) := by rw [fiC, HGH.out, HGW.out, hjl]
          rw [e1, e2] at HI
          clear hjl hlt2 e1 e2
          go_wp2_with fail
          go_roundg (go - 1)
          case measure => omega
          case rel => exact ⟨k + 1, by go_num, by omega, by omega, HPR1.out, HI.out⟩
    · have hkn : k = n' := by omega
      have hq1 : ¬ (k : Int) < (n' : Int) := by omega
      subst hkn
      obtain ⟨w5, rfl⟩ : ∃ x : World, x = wo := ⟨_, rfl⟩
      have hb5 : Below w.heap.size w w5 := BX1.out.trans (HO.out.fr.mono BX1.out.size)
      obtain ⟨a, ha⟩ : ∃ x, x = fiA s t ws hs (List.replicate P.length f0) k := ⟨_, rfl⟩
      obtain ⟨b, hb⟩ : ∃ x, x = fiB s t ws hs (List.replicate Q.length f0) k := ⟨_, rfl⟩
      obtain ⟨cc, hc⟩ : ∃ x, x = fiC s t ws hs (List.replicate R.length f0) k := ⟨_, rfl⟩
      have la : a.length = P.length := by rw [ha, fiA_len, List.length_replicate]
      have lb : b.length = Q.length := by rw [hb, fiB_len, List.length_replicate]
      have lc : cc.length = R.length := by rw [hc, fiC_len, List.length_replicate]
      have na : Cnt 300 a := by rw [ha]; exact (fiA_cnt k).more (by have := BN.out; omega)
      have nb : Cnt 300 b := by rw [hb]; exact (fiB_cnt (fun x hx => (HWD.out x hx).1) k).more (by have := BN.out; omega)
      have nc : Cnt 300 cc := by rw [hc]; exact (fiC_cnt (fun x hx => (HWD.out x hx).1) k).more (by have := BN.out; omega)
      have eP : fitP (s : Int) (t : Int) P ws hs = dvN a P s 1 := by unfold fitP; rw [Int.toNat_natCast, Int.toNat_natCast, HLW.out, ha]
      have eQ : fitQ (s : Int) (t : Int) Q ws hs = dvN b Q s s := by unfold fitQ; rw [Int.toNat_natCast, Int.toNat_natCast, HLW.out, hb]
      have eR : fitR (s : Int) (t : Int) R ws hs = dvN cc R t s := by unfold fitR; rw [Int.toNat_natCast, Int.toNat_natCast, HLW.out, hc]
      rw [← ha, ← hb, ← hc] at HO
      have k1 := HO.out.ra.slF; have k2 := HO.out.rb.slF; have k3 := HO.out.rc.slF
      rw [la] at k1
      rw [lb] at k2
      rw [lc] at k3
      have hT := iTold_any s t P Q R p2 p3 p4 c2 c3 c4 a b cc g1 g2 g3 w5 ((H2.out.below hb5 (Nat.le_refl _)).more hb5.size) ((H3.out.below hb5 (Nat.le_refl _)).more hb5.size) ((H4.out.below hb5 (Nat.le_refl _)).more hb5.size) k1 k2 k3 BS.out (by have := BT.out; omega) LP.out LQ.out LR.out na nb nc
      rw [← eP, ← eQ, ← eR] at hT
      have hfo : fitOk (s : Int) (t : Int) P Q R ws hs = vdM s t (fitP s t P ws hs) (fitQ s t Q ws hs) (fitR s t R ws hs) := by
        unfold fitOk
        rw [← HOK.out, decide_eq_true (by rw [HLW.out, HLH.out]), show prB (s : Int) ws hs ws.length = true by rw [HLW.out]; exact HPR.out]; rfl
      rw [← hfo] at hT
      obtain ⟨ok, hok⟩ : ∃ x, x = fitOk (s : Int) (t : Int) P Q R ws hs := ⟨_, rfl⟩
      rw [← hok] at hT
      have HOKF := Lib.hid hok
      have RES5 := Lib.hid (RR1.out.below HO.out.fr LT1.out)
      have LT5 : Hid (w.heap.size + 2 ≤ w5.heap.size) := by have := LT1.out; have := HO.out.fr.size; show _ ≤ _; omega
      have hbm := RB1.out.below HO.out.fr NB.out
      have q0 := hbm.cell 0; have q1 := hbm.cell 1; have q2 := hbm.cell 2; have q3 := hbm.cell 3; have q4 := hbm.cell 4
      have q5 := HO.out.r8.cell 0; have q6 := HO.out.r8.cell 1; have q7 := HO.out.r8.cell 2
      have HB5 := Lib.hid hb5; have HT := Lib.hid hT
      clear ha hb hc la lb lc na nb nc eP eQ eR k1 k2 k3 hfo hok hT hb5 hbm
      go_wp2_with fail
      clear q0 q1 q2 q3 q4 q5 q6 q7
      refine HT.out.mono ?_
      rintro e w6 ⟨v', rfl, hv, hb6⟩
      obtain ⟨F2, f2, F3, f3, F4, f4, hsh⟩ := MdO.shape hv
      subst hsh
      have RES6 := RES5.out.below hb6 RES5.out.lt
      have r0 := RES6.cell 0; have r1 := RES6.cell 1; have r2 := RES6.cell 2; have r3 := RES6.cell 3; have r4 := RES6.cell 4
      have f0' := RES6.frozen 0; have f1' := RES6.frozen 1; have f2_ := RES6.frozen 2; have f3_ := RES6.frozen 3; have f4_ := RES6.frozen 4
      have HV := Lib.hid hv; have HB6 := Lib.hid (HB5.out.trans (hb6.mono HB5.out.size)); have RES6 := Lib.hid RES6
      clear hv hb6
      obtain ⟨u0, hu0⟩ : ∃ u, u = ckI ok (s : Int) := ⟨_, rfl⟩
      obtain ⟨u1, hu1⟩ : ∃ u, u = ckI ok (t : Int) := ⟨_, rfl⟩
      obtain ⟨l2, hl2⟩ : ∃ u, u = (ckL ok (fitP s t P ws hs)).length := ⟨_, rfl⟩
      obtain ⟨l3, hl3⟩ : ∃ u, u = (ckL ok (fitQ s t Q ws hs)).length := ⟨_, rfl⟩
      obtain ⟨l4, hl4⟩ : ∃ u, u = (ckL ok (fitR s t R ws hs)).length := ⟨_, rfl⟩
      rw [← hu0, ← hu1, ← hl2, ← hl3, ← hl4]
      have hv := HV.out
      rw [← hu0, ← hu1, ← hl2, ← hl3, ← hl4] at hv
      have HV := Lib.hid hv
      have U0 := Lib.hid hu0; have U1 := Lib.hid hu1
      clear hv hu0 hu1 hl2 hl3 hl4
      go_wp2_with fail
      clear r0 r1 r2 r3 r4 f0' f1' f2_ f3_ f4_
      have hF := (((((RES6.out.set_ 0 (.int .i64 u0)).set_ 1 (.int .i64 u1)).set_ 2 (.slice F2 l2 f2)).set_ 3 (.slice F3 l3 f3)).set_ 4 (.slice F4 l4 f4))
      refine bodyPost_ret (results_cell2 rfl _ _ (w.heap.size + 1) 48 #[.int .i64 u0, .int .i64 u1, .slice F2 l2 f2, .slice F3 l3 f3, .slice F4 l4 f4] (0, 0) _ (.bool ok) rfl rfl hF Try.underlying48 rfl (by kernel_rfl)) rfl ?_
      have hkp : Kp (w.heap.size + 1) (w.heap.size + 2) w6 (((((w6.setCell ⟨w.heap.size + 1, 0, none⟩ (.int .i64 u0)).setCell ⟨w.heap.size + 1, 1, none⟩ (.int .i64 u1)).setCell ⟨w.heap.size + 1, 2, none⟩ (.slice F2 l2 f2)).setCell ⟨w.heap.size + 1, 3, none⟩ (.slice F3 l3 f3)).setCell ⟨w.heap.size + 1, 4, none⟩ (.slice F4 l4 f4)) := ⟨rfl, rfl, rfl, by simp [World.setCell], fun q hq hn => heap_setF _ _ _ _ _ (by omega)⟩
      have hle : w.heap.size ≤ w.heap.size + 1 := by omega
      have hBF := (((((HB6.out.setCell (p := ⟨w.heap.size + 1, 0, none⟩) hle (.int .i64 u0)).setCell (p := ⟨w.heap.size + 1, 1, none⟩) hle (.int .i64 u1)).setCell (p := ⟨w.heap.size + 1, 2, none⟩) hle (.slice F2 l2 f2)).setCell (p := ⟨w.heap.size + 1, 3, none⟩) hle (.slice F3 l3 f3)).setCell (p := ⟨w.heap.size + 1, 4, none⟩) hle (.slice F4 l4 f4))
      have hfin := MdW.mono (MdW.kp HV.out hkp LT5.out) (show w.heap.size ≤ w5.heap.size by have := LT5.out; omega)
      refine ⟨_, by rw [← HOKF.out], ?_, hBF⟩
      rw [← HOKF.out, ← U0.out, ← U1.out]
      exact hfin
end Go.Proofs.Ytkfmjnefbimecaa
