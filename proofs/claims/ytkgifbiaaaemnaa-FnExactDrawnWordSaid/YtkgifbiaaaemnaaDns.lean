/- DrawnWord of the reference. -/
import Derived.Test.YtkgifbiaaaemnaaDn
namespace Go.Proofs.Ytkgifbiaaaemnaa
open Go.RowKit
set_option linter.unusedVariables false
attribute [local go_sem ↓] Go.wp_at_zero Go.wp_at_succ
theorem own_row1 {w : World} {g base n sz : Nat} {t : TypeId} {vs : List Value} (h : Row w g t vs) (hb : base ≤ g) (hn : vs.length = n * sz) (hm : n ≤ maxLen) : w.ownsRow base t sz (.slice (some ⟨g, 0, none⟩) n n) n vs :=
  ⟨by omega, .inr ⟨g, n, vs.toArray, rfl, hb, h, Nat.le_refl _, hm, by simp [hn], by rw [List.toList_toArray]; exact List.take_of_length_le (by omega)⟩⟩
theorem drew_belowD {w w' : World} (h : ∃ q, w' = w.drewN q) : Below w.heap.size w w' := by obtain ⟨q, rfl⟩ := h; exact below_draws (Below.refl _ _) q
set_option maxRecDepth 100000 in
set_option maxHeartbeats 4000000 in
theorem sDrawn_no1 (v : Value) (S T : Int) (P Q R : List F32) (z n : Int) (w : World) (h : Md w w.heap.size v S T P Q R) (hcap : capOk v) (q1 : vdM S T P Q R = false) :
    Calls Try.prog 27 #[v, .int .i64 z, .int .i64 n] w fun e w' => ∃ v1 v2, e = .returned (.tuple #[v1, v2, .int .i64 (ckZ (dwOk S T P Q R z n) ((dwSt P Q S.toNat z.toNat n.toNat).2 : Int)), .bool (dwOk S T P Q R z n)]) ∧ DwO w' w.heap.size v1 v2 (ckL (dwOk S T P Q R z n) (dwW P Q R S.toNat T.toNat z.toNat n.toNat)) (ckL (dwOk S T P Q R z n) (dwH P Q S.toNat z.toNat (n.toNat + 1))) ∧ Below w.heap.size w w' := by
  obtain ⟨A2, n2, c2, A3, n3, c3, A4, n4, c4, rfl, h2, h3, h4⟩ := h
  obtain ⟨S_, T_, A2_, n2_, c2_, A3_, n3_, c3_, A4_, n4_, c4_, e, k2, k2', k3, k3', k4, k4'⟩ := hcap
  simp only [Value.agg.injEq, Array.mk.injEq, List.cons.injEq, Value.slice.injEq, and_true] at e
  obtain ⟨-, -, ⟨-, e2, e3⟩, ⟨-, e4, e5⟩, ⟨-, e6, e7⟩⟩ := e
  subst e2 e3 e4 e5 e6 e7
  have rb := Row.new w 27 [.int .i64 S, .int .i64 T, .slice A2 n2 c2, .slice A3 n3 c3, .slice A4 n4 c4]
  have bx : Below w.heap.size w (w.alloc (.cells ([.int .i64 S, .int .i64 T, .slice A2 n2 c2, .slice A3 n3 c3, .slice A4 n4 c4] : List Value).toArray 27)) := (Below.refl _ _).alloc (Nat.le_refl _) _
  have rz := Row.new (w.alloc (.cells ([.int .i64 S, .int .i64 T, .slice A2 n2 c2, .slice A3 n3 c3, .slice A4 n4 c4] : List Value).toArray 27)) 2 [.int .i64 z]
  rw [show (w.alloc (.cells ([.int .i64 S, .int .i64 T, .slice A2 n2 c2, .slice A3 n3 c3, .slice A4 n4 c4] : List Value).toArray 27)).heap.size = w.heap.size + 1 by simp] at rz
  have rb := rb.alloc (.cells ([.int .i64 z] : List Value).toArray 2)
  have bx : Below w.heap.size w ((w.alloc (.cells ([.int .i64 S, .int .i64 T, .slice A2 n2 c2, .slice A3 n3 c3, .slice A4 n4 c4] : List Value).toArray 27)).alloc (.cells ([.int .i64 z] : List Value).toArray 2)) := bx.alloc bx.size _
  have V := Lib.hid (sIsM_any w.heap.size S T P Q R A2 n2 c2 A3 n3 c3 A4 n4 c4 w.heap.size ((w.alloc (.cells ([.int .i64 S, .int .i64 T, .slice A2 n2 c2, .slice A3 n3 c3, .slice A4 n4 c4] : List Value).toArray 27)).alloc (.cells ([.int .i64 z] : List Value).toArray 2)) rb (h2.below bx (Nat.le_refl _)) (h3.below bx (Nat.le_refl _)) (h4.below bx (Nat.le_refl _)) k2 k2' k3 k3' k4 k4')
  have RZ := Lib.hid rz; clear rz
  have W1 := Lib.hid (sIn_any z 0 4294967295); have W2 := Lib.hid (sIn_any n 0 12)
  have RB := Lib.hid rb; have BX := Lib.hid bx; clear rb bx
  rw [q1] at V
  have HN : Hid (dwOk S T P Q R z n = false) := by show _ = _; rw [dwOk, q1]; simp
  have sc : ∀ w1, Below w.heap.size w w1 → True := fun _ _ => trivial
  clear h2 h3 h4 k2 k2' k3 k3' k4 k4'
  go_enter Try.func27, Try.ntmps27
  have z0 := RZ.out.cell 0
  go_wp2_with (first | (go_at_call 64; refine V.out.mono ?_; rintro e w1 ⟨rfl, hb1⟩; have hb1 := drew_belowD hb1; have hb1 := Lib.hid hb1; clear V; have z1 := (RZ.out.below hb1.out (by simp)).cell 0))
  refine bodyPost_ret (v := .tuple #[.slice none 0 0, .slice none 0 0, .int .i64 0, .bool false]) (by simp [results, Try.results27, go_sem]) rfl ?_
  rw [HN.out]
  exact ⟨_, _, rfl, DwO.nil _ _, BX.out.trans (hb1.out.mono BX.out.size)⟩
set_option maxRecDepth 100000 in
set_option maxHeartbeats 4000000 in
theorem sDrawn_no2 (v : Value) (S T : Int) (P Q R : List F32) (z n : Int) (w : World) (h : Md w w.heap.size v S T P Q R) (hcap : capOk v) (q1 : vdM S T P Q R = true) (q2 : inB z 0 4294967295 = false) :
    Calls Try.prog 27 #[v, .int .i64 z, .int .i64 n] w fun e w' => ∃ v1 v2, e = .returned (.tuple #[v1, v2, .int .i64 (ckZ (dwOk S T P Q R z n) ((dwSt P Q S.toNat z.toNat n.toNat).2 : Int)), .bool (dwOk S T P Q R z n)]) ∧ DwO w' w.heap.size v1 v2 (ckL (dwOk S T P Q R z n) (dwW P Q R S.toNat T.toNat z.toNat n.toNat)) (ckL (dwOk S T P Q R z n) (dwH P Q S.toNat z.toNat (n.toNat + 1))) ∧ Below w.heap.size w w' := by
  obtain ⟨A2, n2, c2, A3, n3, c3, A4, n4, c4, rfl, h2, h3, h4⟩ := h
  obtain ⟨S_, T_, A2_, n2_, c2_, A3_, n3_, c3_, A4_, n4_, c4_, e, k2, k2', k3, k3', k4, k4'⟩ := hcap
  simp only [Value.agg.injEq, Array.mk.injEq, List.cons.injEq, Value.slice.injEq, and_true] at e
  obtain ⟨-, -, ⟨-, e2, e3⟩, ⟨-, e4, e5⟩, ⟨-, e6, e7⟩⟩ := e
  subst e2 e3 e4 e5 e6 e7
  have rb := Row.new w 27 [.int .i64 S, .int .i64 T, .slice A2 n2 c2, .slice A3 n3 c3, .slice A4 n4 c4]
  have bx : Below w.heap.size w (w.alloc (.cells ([.int .i64 S, .int .i64 T, .slice A2 n2 c2, .slice A3 n3 c3, .slice A4 n4 c4] : List Value).toArray 27)) := (Below.refl _ _).alloc (Nat.le_refl _) _
  have rz := Row.new (w.alloc (.cells ([.int .i64 S, .int .i64 T, .slice A2 n2 c2, .slice A3 n3 c3, .slice A4 n4 c4] : List Value).toArray 27)) 2 [.int .i64 z]
  rw [show (w.alloc (.cells ([.int .i64 S, .int .i64 T, .slice A2 n2 c2, .slice A3 n3 c3, .slice A4 n4 c4] : List Value).toArray 27)).heap.size = w.heap.size + 1 by simp] at rz
  have rb := rb.alloc (.cells ([.int .i64 z] : List Value).toArray 2)
  have bx : Below w.heap.size w ((w.alloc (.cells ([.int .i64 S, .int .i64 T, .slice A2 n2 c2, .slice A3 n3 c3, .slice A4 n4 c4] : List Value).toArray 27)).alloc (.cells ([.int .i64 z] : List Value).toArray 2)) := bx.alloc bx.size _
  have V := Lib.hid (sIsM_any w.heap.size S T P Q R A2 n2 c2 A3 n3 c3 A4 n4 c4 w.heap.size ((w.alloc (.cells ([.int .i64 S, .int .i64 T, .slice A2 n2 c2, .slice A3 n3 c3, .slice A4 n4 c4] : List Value).toArray 27)).alloc (.cells ([.int .i64 z] : List Value).toArray 2)) rb (h2.below bx (Nat.le_refl _)) (h3.below bx (Nat.le_refl _)) (h4.below bx (Nat.le_refl _)) k2 k2' k3 k3' k4 k4')
  have RZ := Lib.hid rz; clear rz
  have W1 := Lib.hid (sIn_any z 0 4294967295); have W2 := Lib.hid (sIn_any n 0 12)
  have RB := Lib.hid rb; have BX := Lib.hid bx; clear rb bx
  rw [q1] at V; rw [q2] at W1
  have HN : Hid (dwOk S T P Q R z n = false) := by show _ = _; rw [dwOk, q1, q2]; simp
  have sc : ∀ w1, Below w.heap.size w w1 → True := fun _ _ => trivial
  clear h2 h3 h4 k2 k2' k3 k3' k4 k4'
  go_enter Try.func27, Try.ntmps27
  have z0 := RZ.out.cell 0
  go_wp2_with (first | (go_at_call 64; refine V.out.mono ?_; rintro e w1 ⟨rfl, hb1⟩; have hb1 := drew_belowD hb1; have hb1 := Lib.hid hb1; clear V; have z1 := (RZ.out.below hb1.out (by simp)).cell 0) | (go_at_call 67; refine (W1.out _).mono ?_; rintro e w' ⟨rfl, hw⟩; subst hw; clear W1))
  refine bodyPost_ret (v := .tuple #[.slice none 0 0, .slice none 0 0, .int .i64 0, .bool false]) (by simp [results, Try.results27, go_sem]) rfl ?_
  rw [HN.out]
  exact ⟨_, _, rfl, DwO.nil _ _, BX.out.trans (hb1.out.mono BX.out.size)⟩
set_option maxRecDepth 100000 in
set_option maxHeartbeats 4000000 in
theorem sDrawn_no3 (v : Value) (S T : Int) (P Q R : List F32) (z n : Int) (w : World) (h : Md w w.heap.size v S T P Q R) (hcap : capOk v) (q1 : vdM S T P Q R = true) (q2 : inB z 0 4294967295 = true) (q3 : inB n 0 12 = false) :
    Calls Try.prog 27 #[v, .int .i64 z, .int .i64 n] w fun e w' => ∃ v1 v2, e = .returned (.tuple #[v1, v2, .int .i64 (ckZ (dwOk S T P Q R z n) ((dwSt P Q S.toNat z.toNat n.toNat).2 : Int)), .bool (dwOk S T P Q R z n)]) ∧ DwO w' w.heap.size v1 v2 (ckL (dwOk S T P Q R z n) (dwW P Q R S.toNat T.toNat z.toNat n.toNat)) (ckL (dwOk S T P Q R z n) (dwH P Q S.toNat z.toNat (n.toNat + 1))) ∧ Below w.heap.size w w' := by
  obtain ⟨A2, n2, c2, A3, n3, c3, A4, n4, c4, rfl, h2, h3, h4⟩ := h
  obtain ⟨S_, T_, A2_, n2_, c2_, A3_, n3_, c3_, A4_, n4_, c4_, e, k2, k2', k3, k3', k4, k4'⟩ := hcap
  simp only [Value.agg.injEq, Array.mk.injEq, List.cons.injEq, Value.slice.injEq, and_true] at e
  obtain ⟨-, -, ⟨-, e2, e3⟩, ⟨-, e4, e5⟩, ⟨-, e6, e7⟩⟩ := e
  subst e2 e3 e4 e5 e6 e7
  have rb := Row.new w 27 [.int .i64 S, .int .i64 T, .slice A2 n2 c2, .slice A3 n3 c3, .slice A4 n4 c4]
  have bx : Below w.heap.size w (w.alloc (.cells ([.int .i64 S, .int .i64 T, .slice A2 n2 c2, .slice A3 n3 c3, .slice A4 n4 c4] : List Value).toArray 27)) := (Below.refl _ _).alloc (Nat.le_refl _) _
  have rz := Row.new (w.alloc (.cells ([.int .i64 S, .int .i64 T, .slice A2 n2 c2, .slice A3 n3 c3, .slice A4 n4 c4] : List Value).toArray 27)) 2 [.int .i64 z]
  rw [show (w.alloc (.cells ([.int .i64 S, .int .i64 T, .slice A2 n2 c2, .slice A3 n3 c3, .slice A4 n4 c4] : List Value).toArray 27)).heap.size = w.heap.size + 1 by simp] at rz
  have rb := rb.alloc (.cells ([.int .i64 z] : List Value).toArray 2)
  have bx : Below w.heap.size w ((w.alloc (.cells ([.int .i64 S, .int .i64 T, .slice A2 n2 c2, .slice A3 n3 c3, .slice A4 n4 c4] : List Value).toArray 27)).alloc (.cells ([.int .i64 z] : List Value).toArray 2)) := bx.alloc bx.size _
  have V := Lib.hid (sIsM_any w.heap.size S T P Q R A2 n2 c2 A3 n3 c3 A4 n4 c4 w.heap.size ((w.alloc (.cells ([.int .i64 S, .int .i64 T, .slice A2 n2 c2, .slice A3 n3 c3, .slice A4 n4 c4] : List Value).toArray 27)).alloc (.cells ([.int .i64 z] : List Value).toArray 2)) rb (h2.below bx (Nat.le_refl _)) (h3.below bx (Nat.le_refl _)) (h4.below bx (Nat.le_refl _)) k2 k2' k3 k3' k4 k4')
  have RZ := Lib.hid rz; clear rz
  have W1 := Lib.hid (sIn_any z 0 4294967295); have W2 := Lib.hid (sIn_any n 0 12)
  have RB := Lib.hid rb; have BX := Lib.hid bx; clear rb bx
  rw [q1] at V; rw [q2] at W1; rw [q3] at W2
  have HN : Hid (dwOk S T P Q R z n = false) := by show _ = _; rw [dwOk, q1, q2, q3]; simp
  have sc : ∀ w1, Below w.heap.size w w1 → True := fun _ _ => trivial
  clear h2 h3 h4 k2 k2' k3 k3' k4 k4'
  go_enter Try.func27, Try.ntmps27
  have z0 := RZ.out.cell 0
  go_wp2_with (first | (go_at_call 64; refine V.out.mono ?_; rintro e w1 ⟨rfl, hb1⟩; have hb1 := drew_belowD hb1; have hb1 := Lib.hid hb1; clear V; have z1 := (RZ.out.below hb1.out (by simp)).cell 0) | (go_at_call 67; refine (W1.out _).mono ?_; rintro e w' ⟨rfl, hw⟩; subst hw; clear W1) | (go_at_call 67; refine (W2.out _).mono ?_; rintro e w' ⟨rfl, hw⟩; subst hw; clear W2))
  refine bodyPost_ret (v := .tuple #[.slice none 0 0, .slice none 0 0, .int .i64 0, .bool false]) (by simp [results, Try.results27, go_sem]) rfl ?_
  rw [HN.out]
  exact ⟨_, _, rfl, DwO.nil _ _, BX.out.trans (hb1.out.mono BX.out.size)⟩
set_option maxRecDepth 100000 in
set_option maxHeartbeats 4000000 in
theorem sDrawn_yes (v : Value) (S T : Int) (P Q R : List F32) (z n : Int) (w : World) (h : Md w w.heap.size v S T P Q R) (hcap : capOk v) (q1 : vdM S T P Q R = true) (q2 : inB z 0 4294967295 = true) (q3 : inB n 0 12 = true) :
    Calls Try.prog 27 #[v, .int .i64 z, .int .i64 n] w fun e w' => ∃ v1 v2, e = .returned (.tuple #[v1, v2, .int .i64 (ckZ (dwOk S T P Q R z n) ((dwSt P Q S.toNat z.toNat n.toNat).2 : Int)), .bool (dwOk S T P Q R z n)]) ∧ DwO w' w.heap.size v1 v2 (ckL (dwOk S T P Q R z n) (dwW P Q R S.toNat T.toNat z.toNat n.toNat)) (ckL (dwOk S T P Q R z n) (dwH P Q S.toNat z.toNat (n.toNat + 1))) ∧ Below w.heap.size w w' := by
  obtain ⟨A2, n2, c2, A3, n3, c3, A4, n4, c4, rfl, h2, h3, h4⟩ := h
  obtain ⟨S_, T_, A2_, n2_, c2_, A3_, n3_, c3_, A4_, n4_, c4_, e, k2, k2', k3, k3', k4, k4'⟩ := hcap
  simp only [Value.agg.injEq, Array.mk.injEq, List.cons.injEq, Value.slice.injEq, and_true] at e
  obtain ⟨-, -, ⟨-, e2, e3⟩, ⟨-, e4, e5⟩, ⟨-, e6, e7⟩⟩ := e
  subst e2 e3 e4 e5 e6 e7
  have rb := Row.new w 27 [.int .i64 S, .int .i64 T, .slice A2 n2 c2, .slice A3 n3 c3, .slice A4 n4 c4]
  have bx : Below w.heap.size w (w.alloc (.cells ([.int .i64 S, .int .i64 T, .slice A2 n2 c2, .slice A3 n3 c3, .slice A4 n4 c4] : List Value).toArray 27)) := (Below.refl _ _).alloc (Nat.le_refl _) _
  have rz := Row.new (w.alloc (.cells ([.int .i64 S, .int .i64 T, .slice A2 n2 c2, .slice A3 n3 c3, .slice A4 n4 c4] : List Value).toArray 27)) 2 [.int .i64 z]
  rw [show (w.alloc (.cells ([.int .i64 S, .int .i64 T, .slice A2 n2 c2, .slice A3 n3 c3, .slice A4 n4 c4] : List Value).toArray 27)).heap.size = w.heap.size + 1 by simp] at rz
  have rb := rb.alloc (.cells ([.int .i64 z] : List Value).toArray 2)
  have bx : Below w.heap.size w ((w.alloc (.cells ([.int .i64 S, .int .i64 T, .slice A2 n2 c2, .slice A3 n3 c3, .slice A4 n4 c4] : List Value).toArray 27)).alloc (.cells ([.int .i64 z] : List Value).toArray 2)) := bx.alloc bx.size _
  have V := Lib.hid (sIsM_any w.heap.size S T P Q R A2 n2 c2 A3 n3 c3 A4 n4 c4 w.heap.size ((w.alloc (.cells ([.int .i64 S, .int .i64 T, .slice A2 n2 c2, .slice A3 n3 c3, .slice A4 n4 c4] : List Value).toArray 27)).alloc (.cells ([.int .i64 z] : List Value).toArray 2)) rb (h2.below bx (Nat.le_refl _)) (h3.below bx (Nat.le_refl _)) (h4.below bx (Nat.le_refl _)) k2 k2' k3 k3' k4 k4')
  have RZ := Lib.hid rz; clear rz
  have W1 := Lib.hid (sIn_any z 0 4294967295); have W2 := Lib.hid (sIn_any n 0 12)
  have RB := Lib.hid rb; have BX := Lib.hid bx; clear rb bx
  have HD : Hid (dwOk S T P Q R z n = true) := by show _ = _; rw [dwOk, q1, q2, q3]; rfl
  obtain ⟨s, t, eS, eT, s1, s5, t1, t4, lP, rP, lQ, rQ, lR, rR⟩ := vdM_true q1
  rw [q1] at V; rw [q2] at W1; rw [q3] at W2
  have z1 := inB_true q2; have m1 := inB_true q3
  clear q1 q2 q3
  subst eS eT
  obtain ⟨z, rfl⟩ : ∃ y : Nat, z = (y : Int) := ⟨z.toNat, by omega⟩
  obtain ⟨m, rfl⟩ : ∃ y : Nat, n = (y : Int) := ⟨n.toNat, by omega⟩
  have z2 : z < 4294967296 := by omega
  have m2 : m ≤ 12 := by omega
  clear z1 m1
  have e2 := h2.len; have e3 := h3.len; have e4 := h4.len
  rw [lP] at e2; subst e2
  obtain ⟨g2, o2, hA2, -, -⟩ := h2.2 s1
  obtain ⟨g3, o3, hA3, -, -⟩ := h3.2 (by rw [← e3, lQ]; exact Nat.mul_pos s1 s1)
  obtain ⟨g4, o4, hA4, -, -⟩ := h4.2 (by rw [← e4, lR]; exact Nat.mul_pos s1 t1)
  subst hA2 hA3 hA4
  have N3 : Hid (n3 = s * s) := by show _ = _; rw [← e3, lQ]
  have N4 : Hid (n4 = s * t) := by show _ = _; rw [← e4, lR]
  have b3 : n3 ≤ 25 := by rw [N3.out]; exact Nat.mul_le_mul s5 s5
  have b4 : n4 ≤ 25 := by rw [N4.out]; exact Nat.mul_le_mul s5 (show t ≤ 5 by omega)
  clear e3 e4
  have H2 := Lib.hid h2; have H3 := Lib.hid h3; have H4 := Lib.hid h4
  have LP := Lib.hid lP; have RP := Lib.hid rP; have LQ := Lib.hid lQ; have RQ := Lib.hid rQ; have LR := Lib.hid lR; have RR := Lib.hid rR
  have ST := Lib.hid (fun k => dwSt_lt lP lQ s1 z k)
  clear h2 h3 h4 lP rP lQ rQ lR rR
  obtain ⟨a0, ha0⟩ : ∃ a, a = dwSt P Q s z 0 := ⟨_, rfl⟩
  obtain ⟨σ0, y0⟩ := a0
  have HA0 := Lib.hid ha0; clear ha0
  have hσ0 : σ0 = pick P (shF (seedN z)).b := congrArg Prod.fst HA0.out
  have hy0 : y0 = seedN z := congrArg Prod.snd HA0.out
  have C0 := Lib.hid (fun (x : World) (hx : Below w.heap.size w x) => sPick_any (some ⟨g2, o2, none⟩) s c2 P (shF (seedN z)).b x w.heap.size (H2.out.below hx (Nat.le_refl _)) (rowB_NN RP.out) (by omega))
  rw [← hσ0] at C0
  have CS0 := Lib.hid (fun (x : World) (hx : Row x (w.heap.size + 1) 2 [.int .i64 z]) => sShareD_any (w.heap.size + 1) z x hx z2)
  rw [← hy0] at C0 CS0
  clear hσ0 hy0
  have z0 := RZ.out.cell 0
  go_enter Try.func27, Try.ntmps27
  go_wp2_with (first
    | (go_at_call 64; refine V.out.mono ?_; rintro e w1 ⟨rfl, hb1⟩; have hb1 := drew_belowD hb1; have HB1 := Lib.hid (BX.out.trans (hb1.mono BX.out.size)); have RB1 := Lib.hid (RB.out.below hb1 RB.out.lt); have RZ1 := Lib.hid (RZ.out.below hb1 RZ.out.lt); have z1 := RZ1.out.cell 0; clear V hb1)
    | (go_at_call 67; refine (W1.out _).mono ?_; rintro e w' ⟨rfl, hw⟩; subst hw; clear W1)
    | (go_at_call 67; refine (W2.out _).mono ?_; rintro e w' ⟨rfl, hw⟩; subst hw; clear W2))
  clear z0 z1
  have hz1 := RZ1.out.lt
  have HD0 : Hid (DS w1 (w1.alloc (.cells #[] 2)).drew (w.heap.size + 1) (w.heap.size + 1) w1.heap.size 2 (.int .i64 z) (.slice (some ⟨w1.heap.size, 0, none⟩) 0 0) (.slice none 0 0) 0 0 [] []) := DS.drew ⟨(Below.refl _ _).alloc (by omega) _, Nat.le_refl _, hz1, Nat.le_refl _, RZ1.out.alloc _, own_made w1 w1.heap.size 2 1 (Nat.le_refl _), World.ownsRow_nil _ _ _ _, fun k hk hk2 => by simp [Value.ownBlock] at hk2⟩
  have hfrom : (w1.alloc (.cells #[] 2)).drew.cell? ⟨w.heap.size, 2, none⟩ = some (.slice (some ⟨g2, o2, none⟩) s c2) := (RB1.out.below HD0.out.bel (by omega)).cell 2
  go_region_held3 (fun x => x.cell? ⟨w.heap.size, 2, none⟩ = some (.slice (some ⟨g2, o2, none⟩) s c2)) (first | assumption | go_keep)
    (first | (go_at_call 76; refine (CS0.out _ HD0.out.rz).mono ?_; rintro e wy ⟨rfl, hwy⟩; have HMy := Lib.hid (DS.seed HD0.out hwy); have HBy := Lib.hid (HB1.out.trans (HMy.out.bel.mono (by omega))); have hky := (RB1.out.below HMy.out.bel (by omega)).cell 2; clear hwy) | (go_at_call 75; refine (C0.out _ HBy.out).mono ?_; rintro e wq ⟨rfl, hq⟩; subst hq))
  clear hfrom hky C0 CS0
  go_wp2_with fail
  have D0 : Hid (DS w1 (wy.alloc (.cells ([.int .i64 (σ0 : Int)] : List Value).toArray 2)) (w.heap.size + 1) (w.heap.size + 1) w1.heap.size 2 (.int .i64 (y0 : Int)) (.slice (some ⟨w1.heap.size, 0, none⟩) 0 0) (.slice (some ⟨wy.heap.size, 0, none⟩) 1 1) 0 1 [] [.int .i64 (σ0 : Int)]) := by
    have h := HMy.out
    have hs := h.size
    have h2 := h.call ((Below.refl wy.heap.size wy).alloc (Nat.le_refl _) (.cells ([.int .i64 (σ0 : Int)] : List Value).toArray 2)) (Nat.le_refl _)
    refine ⟨h2.bel, h2.hz, h2.hg, h2.hl, h2.rz, h2.o1, own_row1 (Row.new wy 2 [.int .i64 (σ0 : Int)]) hs rfl (by unfold maxLen; omega), fun k hk hk2 => ?_⟩
    have h3 := (h.o1.lt k hk).2
    simp [Value.ownBlock] at hk2; omega
  clear HMy HBy HD0
  go_loopg [2, 10, 11, 12, 13] m (fun q lg v1 st v2 le wr => ∃ (k r : Nat) (A1 : Option Addr) (c1 : Nat) (Ah : Option Addr) (ch : Nat), lg = .int .i64 r ∧ r + k = m ∧ r ≤ q ∧ st = .int .i64 ((dwSt P Q s z k).1 : Nat) ∧ v1 = .slice A1 k c1 ∧ v2 = .slice Ah (k + 1) ch ∧ Hid (DS w1 wr (w.heap.size + 1) (w.heap.size + 1) w1.heap.size 2 (.int .i64 ((dwSt P Q s z k).2 : Nat)) (.slice A1 k c1) (.slice Ah (k + 1) ch) k (k + 1) (iv (dwW P Q R s t z k)) (iv (dwH P Q s z (k + 1)))))
  case atStart => exact ⟨0, m, _, _, _, _, rfl, rfl, by omega, by rw [← HA0.out], rfl, rfl, by rw [dwH_succ, ← HA0.out]; exact D0.out⟩
  case round =>
    obtain ⟨k, r, A1, c1, Ah, ch, rfl, hkr, hm, rfl, rfl, rfl, HM⟩ := hrel
    have hst := ST.out k
    by_cases hlt : 0 < r
    · obtain ⟨r, rfl⟩ : ∃ x, r = x + 1 := ⟨r - 1, by omega⟩
      obtain ⟨a, ha⟩ : ∃ a, a = dwSt P Q s z k := ⟨_, rfl⟩
      rw [← ha] at hst HM ⊢
      obtain ⟨σ, y⟩ := a
      obtain ⟨hs1, hs2⟩ := hst
      simp only at hs1 hs2 HM
      have HA := Lib.hid ha; clear ha
      obtain ⟨p3, hp3⟩ : ∃ p, p = σ * s := ⟨_, rfl⟩
      obtain ⟨p4, hp4⟩ : ∃ p, p = σ * t := ⟨_, rfl⟩
      have b3' : p3 + s ≤ n3 := by
        rw [N3.out, hp3]
        have : (σ + 1) * s ≤ s * s := Nat.mul_le_mul_right _ hs1
        rw [Nat.add_mul, Nat.one_mul] at this; exact this
      have b4' : p4 + t ≤ n4 := by
        rw [N4.out, hp4]
        have : (σ + 1) * t ≤ s * t := Nat.mul_le_mul_right _ hs1
        rw [Nat.add_mul, Nat.one_mul] at this; exact this
      have u3 : IntKind.i64.wrap ((σ : Int) * (s : Int)) = (p3 : Int) := by rw [hp3, IntWalk.i64_in _ (by rw [← Int.natCast_mul, ← hp3]; omega)]; simp
      have u4 : IntKind.i64.wrap ((σ : Int) * (t : Int)) = (p4 : Int) := by rw [hp4, IntWalk.i64_in _ (by rw [← Int.natCast_mul, ← hp4]; omega)]; simp
      have v3 : IntKind.i64.wrap (((σ : Int) + 1) * (s : Int)) = (p3 : Int) + (s : Int) := by
        have e : ((σ : Int) + 1) * (s : Int) = (p3 : Int) + (s : Int) := by rw [hp3, Int.add_mul, Int.one_mul]; simp
        rw [e, IntWalk.i64_in _ (by omega)]
      have v4 : IntKind.i64.wrap (((σ : Int) + 1) * (t : Int)) = (p4 : Int) + (t : Int) := by
        have e : ((σ : Int) + 1) * (t : Int) = (p4 : Int) + (t : Int) := by rw [hp4, Int.add_mul, Int.one_mul]; simp
        rw [e, IntWalk.i64_in _ (by omega)]
      have v1 : IntKind.i64.wrap ((σ : Int) + 1) = (σ : Int) + 1 := IntWalk.i64_in _ (by omega)
      have C2 := Lib.hid (fun (x : World) (hx : Below w.heap.size w x) => sPick_any (some ⟨g4, o4 + p4, none⟩) t (c4 - p4) (chk R t σ) (shF (seedN y)).b x w.heap.size (by rw [hp4]; rw [hp4] at b4'; exact SlF.sub (H4.out.below hx (Nat.le_refl _)) b4') (rowB_NN (RR.out σ hs1)) (by omega))
      have C4 := Lib.hid (fun (x : World) (hx : Below w.heap.size w x) => sPick_any (some ⟨g3, o3 + p3, none⟩) s (c3 - p3) (chk Q s σ) (shF (seedN (seedN y))).b x w.heap.size (by rw [hp3]; rw [hp3] at b3'; exact SlF.sub (H3.out.below hx (Nat.le_refl _)) b3') (rowB_NN (RQ.out σ hs1)) (by omega))
      have C1 := Lib.hid (fun (x : World) (hx : Row x (w.heap.size + 1) 2 [.int .i64 y]) => sShareD_any (w.heap.size + 1) y x hx hs2)
      have C3 := Lib.hid (fun (x : World) (hx : Row x (w.heap.size + 1) 2 [.int .i64 (seedN y)]) => sShareD_any (w.heap.size + 1) (seedN y) x hx (seedN_lt y))
      clear hp3 hp4
      obtain ⟨le, hle⟩ : ∃ x, x = pick (chk R t σ) (shF (seedN y)).b := ⟨_, rfl⟩
      obtain ⟨y1, hy1⟩ : ∃ x, x = seedN y := ⟨_, rfl⟩
      obtain ⟨y2, hy2⟩ : ∃ x, x = seedN y1 := ⟨_, rfl⟩
      obtain ⟨σ', hσ'⟩ : ∃ x, x = pick (chk Q s σ) (shF y2).b := ⟨_, rfl⟩
      rw [← hle] at C2
      rw [← hy1] at C2 C4 C1 C3
      rw [← hy2] at C4 C3
      rw [← hσ'] at C4
      have E1 : Hid (dwLe P Q R s t z k = le) := by show _ = _; rw [hle, dwLe, ← HA.out]
      have E2 : Hid (dwSt P Q s z (k + 1) = (σ', y2)) := by show _ = _; rw [dwSt, ← HA.out, hσ', hy2, hy1]
      clear hle hy1 hy2 hσ'
      have HMd := Lib.hid HM.out.drew
      have l1 : (0 : Int) ≤ (p3 : Int) := by omega
      have l2 : (p3 : Int) ≤ (p3 : Int) + (s : Int) := by omega
      have l3 : (p3 : Int) + (s : Int) ≤ (c3 : Int) := by omega
      have l4 : (p3 : Int) < (c3 : Int) := by omega
      have l5 : ¬ c3 = p3 := by omega
      have l6 : (0 : Int) ≤ (p3 : Int) + (s : Int) := by omega
      have m1 : (0 : Int) ≤ (p4 : Int) := by omega
      have m2' : (p4 : Int) ≤ (p4 : Int) + (t : Int) := by omega
      have m3 : (p4 : Int) + (t : Int) ≤ (c4 : Int) := by omega
      have m4 : (p4 : Int) < (c4 : Int) := by omega
      have m5 : ¬ c4 = p4 := by omega
      have m6 : (0 : Int) ≤ (p4 : Int) + (t : Int) := by omega
      have t3a : ((p3 : Int) + (s : Int)).toNat - p3 = s := by omega
      have t4a : ((p4 : Int) + (t : Int)).toNat - p4 = t := by omega
      have hfrom : wr.drew.cell? ⟨w.heap.size, 4, none⟩ = some (.slice (some ⟨g4, o4, none⟩) n4 c4) ∧ wr.drew.cell? ⟨w.heap.size, 1, none⟩ = some (.int .i64 t) := ⟨(RB1.out.below HMd.out.bel (by omega)).cell 4, (RB1.out.below HMd.out.bel (by omega)).cell 1⟩
      go_wp2_with fail
      go_region_held3 (fun x => x.cell? ⟨w.heap.size, 4, none⟩ = some (.slice (some ⟨g4, o4, none⟩) n4 c4) ∧ x.cell? ⟨w.heap.size, 1, none⟩ = some (.int .i64 t)) (first | assumption | go_keep)
        (first | (go_at_call 76; refine (C1.out _ HMd.out.rz).mono ?_; rintro e wy ⟨rfl, hwy⟩; have HMy := Lib.hid (DS.seed HMd.out hwy); have HBy := Lib.hid (HB1.out.trans (HMy.out.bel.mono (by omega))); have hky : wy.cell? ⟨w.heap.size, 4, none⟩ = some (.slice (some ⟨g4, o4, none⟩) n4 c4) ∧ wy.cell? ⟨w.heap.size, 1, none⟩ = some (.int .i64 t) := ⟨(RB1.out.below HMy.out.bel (by omega)).cell 4, (RB1.out.below HMy.out.bel (by omega)).cell 1⟩; clear hwy) | (go_at_call 75; (try rw [t4a]); refine (C2.out _ HBy.out).mono ?_; rintro e wq ⟨rfl, hq⟩; subst hq))
      clear hfrom hky C1 C2 HBy HMd
      have HS1 := Lib.hid HMy.out.size
      go_wp2_with (first | (at_builtin; refine wpList_push wy rfl (.tmp 51) (.tmp 53) _ rfl w1.heap.size 2 (.int .i64 0) 8 Try.underlying39 infoI7 rfl (.slice A1 k c1) k (iv (dwW P Q R s t z k)) rfl HMy.out.o1 (.int .i64 (le : Int)) rfl rfl (by omega) (by omega) HS1.out ?_; intro ga ca wa hown hgr hat hlt' hcap; have HMa := Lib.hid (DS.push1 HMy.out hown hgr hat); clear hown hgr hat hlt' hcap))
      clear HMy HS1
      have HMd := Lib.hid HMa.out.drew
      have hfrom : wa.drew.cell? ⟨w.heap.size, 3, none⟩ = some (.slice (some ⟨g3, o3, none⟩) n3 c3) ∧ wa.drew.cell? ⟨w.heap.size, 0, none⟩ = some (.int .i64 s) := ⟨(RB1.out.below HMd.out.bel (by omega)).cell 3, (RB1.out.below HMd.out.bel (by omega)).cell 0⟩
      go_region_held3 (fun x => x.cell? ⟨w.heap.size, 3, none⟩ = some (.slice (some ⟨g3, o3, none⟩) n3 c3) ∧ x.cell? ⟨w.heap.size, 0, none⟩ = some (.int .i64 s)) (first | assumption | go_keep)
        (first | (go_at_call 76; refine (C3.out _ HMd.out.rz).mono ?_; rintro e wy ⟨rfl, hwy⟩; have HMy := Lib.hid (DS.seed HMd.out hwy); have HBy := Lib.hid (HB1.out.trans (HMy.out.bel.mono (by omega))); have hky : wy.cell? ⟨w.heap.size, 3, none⟩ = some (.slice (some ⟨g3, o3, none⟩) n3 c3) ∧ wy.cell? ⟨w.heap.size, 0, none⟩ = some (.int .i64 s) := ⟨(RB1.out.below HMy.out.bel (by omega)).cell 3, (RB1.out.below HMy.out.bel (by omega)).cell 0⟩; clear hwy) | (go_at_call 75; (try rw [t3a]); refine (C4.out _ HBy.out).mono ?_; rintro e wq ⟨rfl, hq⟩; subst hq))
      clear hfrom hky C3 C4 HBy HMd
      have HS1 := Lib.hid HMy.out.size
      go_wp2_with (first | (at_builtin; refine wpList_push wy rfl (.tmp 69) (.tmp 71) _ rfl w1.heap.size 2 (.int .i64 0) 8 Try.underlying39 infoI7 rfl (.slice Ah (k + 1) ch) (k + 1) (iv (dwH P Q s z (k + 1))) rfl HMy.out.o2 (.int .i64 (σ' : Int)) rfl rfl (by omega) (by omega) HS1.out ?_; intro gb cb wb hown hgr hat hlt' hcap; have HMb := Lib.hid (DS.push2 HMy.out hown hgr hat); clear hown hgr hat hlt' hcap))
      go_roundg (gk - 1)
      case measure => omega
      case rel =>
        refine ⟨k + 1, r, _, _, _, _, by go_num, by omega, by omega, by rw [E2.out], rfl, rfl, ?_⟩
        have := HMb.out
        rw [dwW_succ, E1.out, dwH_succ P Q s z (k + 1), E2.out, iv_append, iv_append]
        exact this
    · obtain rfl : r = 0 := by omega
      obtain rfl : m = k := by omega
      have HBw := Lib.hid (HB1.out.trans (HM.out.bel.mono (by omega)))
      have HSZ : Hid (w.heap.size ≤ w1.heap.size) := HB1.out.size
      have c0 := HM.out.rz.cell 0
      go_wp2_with fail
      go_region
      go_wp2_with fail
      refine bodyPost_ret (v := .tuple #[.slice A1 m c1, .slice Ah (m + 1) ch, .int .i64 ((dwSt P Q s z m).2 : Nat), .bool true]) (by simp [results, Try.results27, go_sem]) rfl ?_
      rw [HD.out]
      simp only [Int.toNat_natCast]
      have hd := HM.out.drew
      refine ⟨_, _, rfl, ⟨?_, ?_, hd.d⟩, HBw.out.drew⟩
      · show World.ownsRow wr.drew w.heap.size 2 1 _ (dwW P Q R s t z m).length (iv (dwW P Q R s t z m))
        rw [dwW_len]; exact World.ownsRow.mono hd.o1 HSZ.out
      · show World.ownsRow wr.drew w.heap.size 2 1 _ (dwH P Q s z (m + 1)).length (iv (dwH P Q s z (m + 1)))
        rw [dwH_len]; exact World.ownsRow.mono hd.o2 HSZ.out
set_option maxRecDepth 100000 in
set_option maxHeartbeats 4000000 in
theorem sDrawn_any (v : Value) (S T : Int) (P Q R : List F32) (z n : Int) (w : World) (h : Md w w.heap.size v S T P Q R) (hcap : capOk v)  :
    Calls Try.prog 27 #[v, .int .i64 z, .int .i64 n] w fun e w' => ∃ v1 v2, e = .returned (.tuple #[v1, v2, .int .i64 (ckZ (dwOk S T P Q R z n) ((dwSt P Q S.toNat z.toNat n.toNat).2 : Int)), .bool (dwOk S T P Q R z n)]) ∧ DwO w' w.heap.size v1 v2 (ckL (dwOk S T P Q R z n) (dwW P Q R S.toNat T.toNat z.toNat n.toNat)) (ckL (dwOk S T P Q R z n) (dwH P Q S.toNat z.toNat (n.toNat + 1))) ∧ Below w.heap.size w w' := by
  cases q1 : vdM S T P Q R with
  | false => exact sDrawn_no1 v S T P Q R z n w h hcap q1
  | true =>
    cases q2 : inB z 0 4294967295 with
    | false => exact sDrawn_no2 v S T P Q R z n w h hcap q1 q2
    | true =>
      cases q3 : inB n 0 12 with
      | false => exact sDrawn_no3 v S T P Q R z n w h hcap q1 q2 q3
      | true => exact sDrawn_yes v S T P Q R z n w h hcap q1 q2 q3
end Go.Proofs.Ytkgifbiaaaemnaa
