/- SameChange of both programs. -/
import Derived.Test.YtcmnhnapnnpbdaaChg
namespace Go.Proofs.Ytcmnhnapnnpbdaa
open Go.RowKit
set_option linter.unusedVariables false
set_option maxHeartbeats 400000 in
theorem sSame0_any (A : Option Addr) (n c : Nat) (xs : List Int) (A' : Option Addr) (n' c' : Nat) (ys : List Int) (w : World) (B B' : Nat) (h : SlI w B A n xs) (h' : SlI w B' A' n' ys) (hn : n ≤ 4294967296) (hn' : n' ≤ 4294967296) :
    Calls Try.prog 50 #[.slice A n c, .slice A' n' c'] w fun e w' => e = .returned (.bool (decide (xs = ys))) ∧ Below w.heap.size w w' := by
  have hl := Lib.hid h.len
  have hl' := Lib.hid h'.len
  have H := Lib.hid h; clear h
  have H' := Lib.hid h'; clear h'
  by_cases hnn : n = n'
  · subst hnn
    go_enter Try.func50, Try.ntmps50
    go_wp2
    go_loopw [5] (fun i wr => ∃ k : Nat, k ≤ n ∧ i = .int .i64 k ∧ xs.take k = ys.take k ∧ ∃ q, wr = w.drewN q) (fun i wr => n - (intOf i).toNat)
    case atStart => exact ⟨0, by omega, rfl, rfl, 0, rfl⟩
    case round =>
      obtain ⟨k, hk, rfl, he, q, rfl⟩ := hrel
      have HE := Lib.hid he; clear he
      by_cases hlt : k < n
      · obtain ⟨b, off, x, rfl, hbB, hx, hc⟩ := H.out.at_ hlt
        obtain ⟨b', off', y, rfl, hbB', hy, hc'⟩ := H'.out.at_ hlt
        have hi0 : (0 : Int) ≤ (k : Int) := by omega
        have hi1 : (k : Int) < (n : Int) := by omega
        by_cases hxy : x = y
        · subst hxy
          go_wp2
          go_quiet (fail)
          go_wp2
          exact ⟨⟨k + 1, by omega, by go_num, take_eq_succ HE.out hx.out hy.out, _, rfl⟩, by simp [intOf]; omega⟩
        · have h1 : (x == y) = false := by simp [hxy]
          have h2 : (x != y) = true := by simp [hxy]
          have HXY := Lib.hid hxy; clear hxy
          go_wp2
          go_quiet (fail)
          go_wp2
          go_ret
          refine ⟨ret_bool (decide_eq_false (fun e => ?_)).symm, below_draws (below_draws (Below.refl _ _) _) _⟩
          have hx' := hx.out
          rw [e, hy.out] at hx'
          exact HXY.out (Option.some.inj hx').symm
      · obtain rfl : n = k := by omega
        go_wp2
        go_ret
        refine ⟨ret_bool ?_, below_draws (Below.refl _ _) _⟩
        have := HE.out
        rw [take_all hl.out, take_all hl'.out] at this
        exact (decide_eq_true this).symm
  · have h1 : ((n : Int) == n') = false := by simp; omega
    have h2 : ((n : Int) != n') = true := by simp; omega
    have HN := Lib.hid hnn; clear hnn
    go_enter Try.func50, Try.ntmps50
    go_wp2
    go_ret
    exact ⟨ret_bool (decide_eq_false (fun e => HN.out (by rw [← hl.out, ← hl'.out, e]))).symm, Below.refl _ _⟩
set_option maxHeartbeats 400000 in
theorem iEqual_any (A : Option Addr) (n c : Nat) (xs : List Int) (A' : Option Addr) (n' c' : Nat) (ys : List Int) (w : World) (B B' : Nat) (h : SlI w B A n xs) (h' : SlI w B' A' n' ys) (hn : n ≤ 4294967296) (hn' : n' ≤ 4294967296) :
    Calls Try.prog 51 #[.slice A n c, .slice A' n' c'] w fun e w' => e = .returned (.bool (decide (xs = ys))) ∧ Below w.heap.size w w' := by
  have hl := Lib.hid h.len
  have hl' := Lib.hid h'.len
  have H := Lib.hid h; clear h
  have H' := Lib.hid h'; clear h'
  by_cases hnn : n = n'
  · subst hnn
    go_enter Try.func51, Try.ntmps51
    go_wp2
    go_loopw [13] (fun i wr => ∃ k : Nat, k ≤ n ∧ i = .int .i64 k ∧ xs.take k = ys.take k ∧ ∃ q, wr = w.drewN q) (fun i wr => n - (intOf i).toNat)
    case atStart => exact ⟨0, by omega, rfl, rfl, 0, rfl⟩
    case round =>
      obtain ⟨k, hk, rfl, he, q, rfl⟩ := hrel
      have HE := Lib.hid he; clear he
      by_cases hlt : k < n
      · obtain ⟨b, off, x, rfl, hbB, hx, hc⟩ := H.out.at_ hlt
        obtain ⟨b', off', y, rfl, hbB', hy, hc'⟩ := H'.out.at_ hlt
        have hi0 : (0 : Int) ≤ (k : Int) := by omega
        have hi1 : (k : Int) < (n : Int) := by omega
        by_cases hxy : x = y
        · subst hxy
          go_wp2
          go_quiet (fail)
          go_wp2
          exact ⟨⟨k + 1, by omega, by go_num, take_eq_succ HE.out hx.out hy.out, _, rfl⟩, by simp [intOf]; omega⟩
        · have h1 : (x == y) = false := by simp [hxy]
          have h2 : (x != y) = true := by simp [hxy]
          have HXY := Lib.hid hxy; clear hxy
          go_wp2
          go_quiet (fail)
          go_wp2
          go_ret
          refine ⟨ret_bool (decide_eq_false (fun e => ?_)).symm, below_draws (below_draws (Below.refl _ _) _) _⟩
          have hx' := hx.out
          rw [e, hy.out] at hx'
          exact HXY.out (Option.some.inj hx').symm
      · obtain rfl : n = k := by omega
        go_wp2
        go_ret
        refine ⟨ret_bool ?_, below_draws (Below.refl _ _) _⟩
        have := HE.out
        rw [take_all hl.out, take_all hl'.out] at this
        exact (decide_eq_true this).symm
  · have h1 : ((n : Int) == n') = false := by simp; omega
    have h2 : ((n : Int) != n') = true := by simp; omega
    have HN := Lib.hid hnn; clear hnn
    go_enter Try.func51, Try.ntmps51
    go_wp2
    go_ret
    exact ⟨ret_bool (decide_eq_false (fun e => HN.out (by rw [← hl.out, ← hl'.out, e]))).symm, Below.refl _ _⟩
def scB (L F G R L' F' G' R' : List Int) : Bool := decide (L = L') && (decide (F = F') && (decide (G = G') && decide (R = R')))
set_option maxHeartbeats 2000000 in
theorem sSameChange_any (v v' : Value) (L F G R L' F' G' R' : List Int) (w : World) (h : Cg w w.heap.size v L F G R) (h' : Cg w w.heap.size v' L' F' G' R') (hL : B32 L.length) (hF : B32 F.length) (hG : B32 G.length) (hR : B32 R.length) (hL' : B32 L'.length) (hF' : B32 F'.length) (hG' : B32 G'.length) (hR' : B32 R'.length) :
    Calls Try.prog 15 #[v, v'] w fun e w' => e = .returned (.bool (scB L F G R L' F' G' R')) ∧ Below w.heap.size w w' := by
  obtain ⟨A0, n0, c0, A1, n1, c1, A2, n2, c2, A3, n3, c3, rfl, h0, h1, h2, h3⟩ := h
  obtain ⟨A0', n0', c0', A1', n1', c1', A2', n2', c2', A3', n3', c3', rfl, h0', h1', h2', h3'⟩ := h'
  have hdef : scB L F G R L' F' G' R' = (decide (L = L') && (decide (F = F') && (decide (G = G') && decide (R = R')))) := rfl
  have m0 : n0 ≤ 4294967296 := by have := h0.len; rw [← this]; exact hL
  have m0' : n0' ≤ 4294967296 := by have := h0'.len; rw [← this]; exact hL'
  have H0 := Lib.hid h0; have H0' := Lib.hid h0'
  have C0 := fun (x : World) (hx : Below w.heap.size w x) => sSame0_any A0 n0 c0 L A0' n0' c0' L' x _ _ (H0.out.below hx (Nat.le_refl _)) (H0'.out.below hx (Nat.le_refl _)) m0 m0'
  obtain ⟨e0, he0⟩ : ∃ e, e = decide (L = L') := ⟨_, rfl⟩
  rw [← he0] at C0 hdef
  have m1 : n1 ≤ 4294967296 := by have := h1.len; rw [← this]; exact hF
  have m1' : n1' ≤ 4294967296 := by have := h1'.len; rw [← this]; exact hF'
  have H1 := Lib.hid h1; have H1' := Lib.hid h1'
  have C1 := fun (x : World) (hx : Below w.heap.size w x) => sSame0_any A1 n1 c1 F A1' n1' c1' F' x _ _ (H1.out.below hx (Nat.le_refl _)) (H1'.out.below hx (Nat.le_refl _)) m1 m1'
  obtain ⟨e1, he1⟩ : ∃ e, e = decide (F = F') := ⟨_, rfl⟩
  rw [← he1] at C1 hdef
  have m2 : n2 ≤ 4294967296 := by have := h2.len; rw [← this]; exact hG
  have m2' : n2' ≤ 4294967296 := by have := h2'.len; rw [← this]; exact hG'
  have H2 := Lib.hid h2; have H2' := Lib.hid h2'
  have C2 := fun (x : World) (hx : Below w.heap.size w x) => sSame0_any A2 n2 c2 G A2' n2' c2' G' x _ _ (H2.out.below hx (Nat.le_refl _)) (H2'.out.below hx (Nat.le_refl _)) m2 m2'
  obtain ⟨e2, he2⟩ : ∃ e, e = decide (G = G') := ⟨_, rfl⟩
  rw [← he2] at C2 hdef
  have m3 : n3 ≤ 4294967296 := by have := h3.len; rw [← this]; exact hR
  have m3' : n3' ≤ 4294967296 := by have := h3'.len; rw [← this]; exact hR'
  have H3 := Lib.hid h3; have H3' := Lib.hid h3'
  have C3 := fun (x : World) (hx : Below w.heap.size w x) => sSame0_any A3 n3 c3 R A3' n3' c3' R' x _ _ (H3.out.below hx (Nat.le_refl _)) (H3'.out.below hx (Nat.le_refl _)) m3 m3'
  obtain ⟨e3, he3⟩ : ∃ e, e = decide (R = R') := ⟨_, rfl⟩
  rw [← he3] at C3 hdef
  have HD := Lib.hid hdef
  clear h0 h1 h2 h3 h0' h1' h2' h3' hL hF hG hR hL' hF' hG' hR' hdef he0 he1 he2 he3
  have ra := Lib.hid ((Row.new w 27 [.slice A0 n0 c0, .slice A1 n1 c1, .slice A2 n2 c2, .slice A3 n3 c3]).alloc (.cells ([.slice A0' n0' c0', .slice A1' n1' c1', .slice A2' n2' c2', .slice A3' n3' c3'] : List Value).toArray 27))
  have rb := Row.new (w.alloc (.cells ([.slice A0 n0 c0, .slice A1 n1 c1, .slice A2 n2 c2, .slice A3 n3 c3] : List Value).toArray 27)) 27 [.slice A0' n0' c0', .slice A1' n1' c1', .slice A2' n2' c2', .slice A3' n3' c3']
  rw [show (w.alloc (.cells ([.slice A0 n0 c0, .slice A1 n1 c1, .slice A2 n2 c2, .slice A3 n3 c3] : List Value).toArray 27)).heap.size = w.heap.size + 1 by simp] at rb
  have rb := Lib.hid rb
  have bx : Below w.heap.size w ((w.alloc (.cells ([.slice A0 n0 c0, .slice A1 n1 c1, .slice A2 n2 c2, .slice A3 n3 c3] : List Value).toArray 27)).alloc (.cells ([.slice A0' n0' c0', .slice A1' n1' c1', .slice A2' n2' c2', .slice A3' n3' c3'] : List Value).toArray 27)) := ((Below.refl _ _).alloc (Nat.le_refl _) _).alloc (by simp) _
  have BX := Lib.hid bx; clear bx
  go_enter Try.func15, Try.ntmps15
  go_wp2_with fail
  obtain ⟨x0, hx0⟩ : ∃ x, x = (w.alloc (.cells ([.slice A0 n0 c0, .slice A1 n1 c1, .slice A2 n2 c2, .slice A3 n3 c3] : List Value).toArray 27)).alloc (.cells ([.slice A0' n0' c0', .slice A1' n1' c1', .slice A2' n2' c2', .slice A3' n3' c3'] : List Value).toArray 27) := ⟨_, rfl⟩
  have ra : Hid (Row x0 w.heap.size 27 [.slice A0 n0 c0, .slice A1 n1 c1, .slice A2 n2 c2, .slice A3 n3 c3]) := by rw [hx0]; exact ra
  have rb : Hid (Row x0 (w.heap.size + 1) 27 [.slice A0' n0' c0', .slice A1' n1' c1', .slice A2' n2' c2', .slice A3' n3' c3']) := by rw [hx0]; exact rb
  have bx : Hid (Below w.heap.size w x0) := by rw [hx0]; exact BX
  change Calls _ _ _ ((w.alloc (.cells ([.slice A0 n0 c0, .slice A1 n1 c1, .slice A2 n2 c2, .slice A3 n3 c3] : List Value).toArray 27)).alloc (.cells ([.slice A0' n0' c0', .slice A1' n1' c1', .slice A2' n2' c2', .slice A3' n3' c3'] : List Value).toArray 27)) _
  rw [← hx0]
  clear hx0 BX
  refine (C0 _ bx.out).mono ?_
  rintro e w1 ⟨rfl, hb1⟩
  have ra : Hid (Row w1 w.heap.size 27 [.slice A0 n0 c0, .slice A1 n1 c1, .slice A2 n2 c2, .slice A3 n3 c3]) := ra.out.below hb1 ra.out.lt
  have rb : Hid (Row w1 (w.heap.size + 1) 27 [.slice A0' n0' c0', .slice A1' n1' c1', .slice A2' n2' c2', .slice A3' n3' c3']) := rb.out.below hb1 rb.out.lt
  have bx : Hid (Below w.heap.size w w1) := bx.out.trans (hb1.mono bx.out.size)
  clear hb1
  cases e0 with
  | false =>
    go_wp2_with fail
    go_ret
    exact ⟨ret_bool (by rw [HD.out]; rfl), bx.out⟩
  | true =>
    have ca1 := ra.out.cell 1
    have cb1 := rb.out.cell 1
    go_wp2_with fail
    clear ca1 cb1
    refine (C1 _ bx.out).mono ?_
    rintro e w2 ⟨rfl, hb2⟩
    have ra : Hid (Row w2 w.heap.size 27 [.slice A0 n0 c0, .slice A1 n1 c1, .slice A2 n2 c2, .slice A3 n3 c3]) := ra.out.below hb2 ra.out.lt
    have rb : Hid (Row w2 (w.heap.size + 1) 27 [.slice A0' n0' c0', .slice A1' n1' c1', .slice A2' n2' c2', .slice A3' n3' c3']) := rb.out.below hb2 rb.out.lt
    have bx : Hid (Below w.heap.size w w2) := bx.out.trans (hb2.mono bx.out.size)
    clear hb2
    cases e1 with
    | false =>
      go_wp2_with fail
      go_ret
      exact ⟨ret_bool (by rw [HD.out]; rfl), bx.out⟩
    | true =>
      have ca2 := ra.out.cell 2
      have cb2 := rb.out.cell 2
      go_wp2_with fail
      clear ca2 cb2
      refine (C2 _ bx.out).mono ?_
      rintro e w3 ⟨rfl, hb3⟩
      have ra : Hid (Row w3 w.heap.size 27 [.slice A0 n0 c0, .slice A1 n1 c1, .slice A2 n2 c2, .slice A3 n3 c3]) := ra.out.below hb3 ra.out.lt
      have rb : Hid (Row w3 (w.heap.size + 1) 27 [.slice A0' n0' c0', .slice A1' n1' c1', .slice A2' n2' c2', .slice A3' n3' c3']) := rb.out.below hb3 rb.out.lt
      have bx : Hid (Below w.heap.size w w3) := bx.out.trans (hb3.mono bx.out.size)
      clear hb3
      cases e2 with
      | false =>
        go_wp2_with fail
        go_ret
        exact ⟨ret_bool (by rw [HD.out]; rfl), bx.out⟩
      | true =>
        have ca3 := ra.out.cell 3
        have cb3 := rb.out.cell 3
        go_wp2_with fail
        clear ca3 cb3
        refine (C3 _ bx.out).mono ?_
        rintro e w4 ⟨rfl, hb4⟩
        have ra : Hid (Row w4 w.heap.size 27 [.slice A0 n0 c0, .slice A1 n1 c1, .slice A2 n2 c2, .slice A3 n3 c3]) := ra.out.below hb4 ra.out.lt
        have rb : Hid (Row w4 (w.heap.size + 1) 27 [.slice A0' n0' c0', .slice A1' n1' c1', .slice A2' n2' c2', .slice A3' n3' c3']) := rb.out.below hb4 rb.out.lt
        have bx : Hid (Below w.heap.size w w4) := bx.out.trans (hb4.mono bx.out.size)
        clear hb4
        go_wp2_with fail
        go_ret
        exact ⟨ret_bool (by rw [HD.out]; rfl), bx.out⟩
set_option maxHeartbeats 2000000 in
theorem iSameChange_any (v v' : Value) (L F G R L' F' G' R' : List Int) (w : World) (h : Cg w w.heap.size v L F G R) (h' : Cg w w.heap.size v' L' F' G' R') (hL : B32 L.length) (hF : B32 F.length) (hG : B32 G.length) (hR : B32 R.length) (hL' : B32 L'.length) (hF' : B32 F'.length) (hG' : B32 G'.length) (hR' : B32 R'.length) :
    Calls Try.prog 17 #[v, v'] w fun e w' => e = .returned (.bool (scB L F G R L' F' G' R')) ∧ Below w.heap.size w w' := by
  obtain ⟨A0, n0, c0, A1, n1, c1, A2, n2, c2, A3, n3, c3, rfl, h0, h1, h2, h3⟩ := h
  obtain ⟨A0', n0', c0', A1', n1', c1', A2', n2', c2', A3', n3', c3', rfl, h0', h1', h2', h3'⟩ := h'
  have hdef : scB L F G R L' F' G' R' = (decide (L = L') && (decide (F = F') && (decide (G = G') && decide (R = R')))) := rfl
  have m0 : n0 ≤ 4294967296 := by have := h0.len; rw [← this]; exact hL
  have m0' : n0' ≤ 4294967296 := by have := h0'.len; rw [← this]; exact hL'
  have H0 := Lib.hid h0; have H0' := Lib.hid h0'
  have C0 := fun (x : World) (hx : Below w.heap.size w x) => iEqual_any A0 n0 c0 L A0' n0' c0' L' x _ _ (H0.out.below hx (Nat.le_refl _)) (H0'.out.below hx (Nat.le_refl _)) m0 m0'
  obtain ⟨e0, he0⟩ : ∃ e, e = decide (L = L') := ⟨_, rfl⟩
  rw [← he0] at C0 hdef
  have m1 : n1 ≤ 4294967296 := by have := h1.len; rw [← this]; exact hF
  have m1' : n1' ≤ 4294967296 := by have := h1'.len; rw [← this]; exact hF'
  have H1 := Lib.hid h1; have H1' := Lib.hid h1'
  have C1 := fun (x : World) (hx : Below w.heap.size w x) => iEqual_any A1 n1 c1 F A1' n1' c1' F' x _ _ (H1.out.below hx (Nat.le_refl _)) (H1'.out.below hx (Nat.le_refl _)) m1 m1'
  obtain ⟨e1, he1⟩ : ∃ e, e = decide (F = F') := ⟨_, rfl⟩
  rw [← he1] at C1 hdef
  have m2 : n2 ≤ 4294967296 := by have := h2.len; rw [← this]; exact hG
  have m2' : n2' ≤ 4294967296 := by have := h2'.len; rw [← this]; exact hG'
  have H2 := Lib.hid h2; have H2' := Lib.hid h2'
  have C2 := fun (x : World) (hx : Below w.heap.size w x) => iEqual_any A2 n2 c2 G A2' n2' c2' G' x _ _ (H2.out.below hx (Nat.le_refl _)) (H2'.out.below hx (Nat.le_refl _)) m2 m2'
  obtain ⟨e2, he2⟩ : ∃ e, e = decide (G = G') := ⟨_, rfl⟩
  rw [← he2] at C2 hdef
  have m3 : n3 ≤ 4294967296 := by have := h3.len; rw [← this]; exact hR
  have m3' : n3' ≤ 4294967296 := by have := h3'.len; rw [← this]; exact hR'
  have H3 := Lib.hid h3; have H3' := Lib.hid h3'
  have C3 := fun (x : World) (hx : Below w.heap.size w x) => iEqual_any A3 n3 c3 R A3' n3' c3' R' x _ _ (H3.out.below hx (Nat.le_refl _)) (H3'.out.below hx (Nat.le_refl _)) m3 m3'
  obtain ⟨e3, he3⟩ : ∃ e, e = decide (R = R') := ⟨_, rfl⟩
  rw [← he3] at C3 hdef
  have HD := Lib.hid hdef
  clear h0 h1 h2 h3 h0' h1' h2' h3' hL hF hG hR hL' hF' hG' hR' hdef he0 he1 he2 he3
  have ra := Lib.hid ((Row.new w 27 [.slice A0 n0 c0, .slice A1 n1 c1, .slice A2 n2 c2, .slice A3 n3 c3]).alloc (.cells ([.slice A0' n0' c0', .slice A1' n1' c1', .slice A2' n2' c2', .slice A3' n3' c3'] : List Value).toArray 27))
  have rb := Row.new (w.alloc (.cells ([.slice A0 n0 c0, .slice A1 n1 c1, .slice A2 n2 c2, .slice A3 n3 c3] : List Value).toArray 27)) 27 [.slice A0' n0' c0', .slice A1' n1' c1', .slice A2' n2' c2', .slice A3' n3' c3']
  rw [show (w.alloc (.cells ([.slice A0 n0 c0, .slice A1 n1 c1, .slice A2 n2 c2, .slice A3 n3 c3] : List Value).toArray 27)).heap.size = w.heap.size + 1 by simp] at rb
  have rb := Lib.hid rb
  have bx : Below w.heap.size w ((w.alloc (.cells ([.slice A0 n0 c0, .slice A1 n1 c1, .slice A2 n2 c2, .slice A3 n3 c3] : List Value).toArray 27)).alloc (.cells ([.slice A0' n0' c0', .slice A1' n1' c1', .slice A2' n2' c2', .slice A3' n3' c3'] : List Value).toArray 27)) := ((Below.refl _ _).alloc (Nat.le_refl _) _).alloc (by simp) _
  have BX := Lib.hid bx; clear bx
  go_enter Try.func17, Try.ntmps17
  go_wp2_with fail
  obtain ⟨x0, hx0⟩ : ∃ x, x = (w.alloc (.cells ([.slice A0 n0 c0, .slice A1 n1 c1, .slice A2 n2 c2, .slice A3 n3 c3] : List Value).toArray 27)).alloc (.cells ([.slice A0' n0' c0', .slice A1' n1' c1', .slice A2' n2' c2', .slice A3' n3' c3'] : List Value).toArray 27) := ⟨_, rfl⟩
  have ra : Hid (Row x0 w.heap.size 27 [.slice A0 n0 c0, .slice A1 n1 c1, .slice A2 n2 c2, .slice A3 n3 c3]) := by rw [hx0]; exact ra
  have rb : Hid (Row x0 (w.heap.size + 1) 27 [.slice A0' n0' c0', .slice A1' n1' c1', .slice A2' n2' c2', .slice A3' n3' c3']) := by rw [hx0]; exact rb
  have bx : Hid (Below w.heap.size w x0) := by rw [hx0]; exact BX
  change Calls _ _ _ ((w.alloc (.cells ([.slice A0 n0 c0, .slice A1 n1 c1, .slice A2 n2 c2, .slice A3 n3 c3] : List Value).toArray 27)).alloc (.cells ([.slice A0' n0' c0', .slice A1' n1' c1', .slice A2' n2' c2', .slice A3' n3' c3'] : List Value).toArray 27)) _
  rw [← hx0]
  clear hx0 BX
  refine (C0 _ bx.out).mono ?_
  rintro e w1 ⟨rfl, hb1⟩
  have ra : Hid (Row w1 w.heap.size 27 [.slice A0 n0 c0, .slice A1 n1 c1, .slice A2 n2 c2, .slice A3 n3 c3]) := ra.out.below hb1 ra.out.lt
  have rb : Hid (Row w1 (w.heap.size + 1) 27 [.slice A0' n0' c0', .slice A1' n1' c1', .slice A2' n2' c2', .slice A3' n3' c3']) := rb.out.below hb1 rb.out.lt
  have bx : Hid (Below w.heap.size w w1) := bx.out.trans (hb1.mono bx.out.size)
  clear hb1
  cases e0 with
  | false =>
    go_wp2_with fail
    go_ret
    exact ⟨ret_bool (by rw [HD.out]; rfl), bx.out⟩
  | true =>
    have ca1 := ra.out.cell 1
    have cb1 := rb.out.cell 1
    go_wp2_with fail
    clear ca1 cb1
    refine (C1 _ bx.out).mono ?_
    rintro e w2 ⟨rfl, hb2⟩
    have ra : Hid (Row w2 w.heap.size 27 [.slice A0 n0 c0, .slice A1 n1 c1, .slice A2 n2 c2, .slice A3 n3 c3]) := ra.out.below hb2 ra.out.lt
    have rb : Hid (Row w2 (w.heap.size + 1) 27 [.slice A0' n0' c0', .slice A1' n1' c1', .slice A2' n2' c2', .slice A3' n3' c3']) := rb.out.below hb2 rb.out.lt
    have bx : Hid (Below w.heap.size w w2) := bx.out.trans (hb2.mono bx.out.size)
    clear hb2
    cases e1 with
    | false =>
      go_wp2_with fail
      go_ret
      exact ⟨ret_bool (by rw [HD.out]; rfl), bx.out⟩
    | true =>
      have ca2 := ra.out.cell 2
      have cb2 := rb.out.cell 2
      go_wp2_with fail
      clear ca2 cb2
      refine (C2 _ bx.out).mono ?_
      rintro e w3 ⟨rfl, hb3⟩
      have ra : Hid (Row w3 w.heap.size 27 [.slice A0 n0 c0, .slice A1 n1 c1, .slice A2 n2 c2, .slice A3 n3 c3]) := ra.out.below hb3 ra.out.lt
      have rb : Hid (Row w3 (w.heap.size + 1) 27 [.slice A0' n0' c0', .slice A1' n1' c1', .slice A2' n2' c2', .slice A3' n3' c3']) := rb.out.below hb3 rb.out.lt
      have bx : Hid (Below w.heap.size w w3) := bx.out.trans (hb3.mono bx.out.size)
      clear hb3
      cases e2 with
      | false =>
        go_wp2_with fail
        go_ret
        exact ⟨ret_bool (by rw [HD.out]; rfl), bx.out⟩
      | true =>
        have ca3 := ra.out.cell 3
        have cb3 := rb.out.cell 3
        go_wp2_with fail
        clear ca3 cb3
        refine (C3 _ bx.out).mono ?_
        rintro e w4 ⟨rfl, hb4⟩
        have ra : Hid (Row w4 w.heap.size 27 [.slice A0 n0 c0, .slice A1 n1 c1, .slice A2 n2 c2, .slice A3 n3 c3]) := ra.out.below hb4 ra.out.lt
        have rb : Hid (Row w4 (w.heap.size + 1) 27 [.slice A0' n0' c0', .slice A1' n1' c1', .slice A2' n2' c2', .slice A3' n3' c3']) := rb.out.below hb4 rb.out.lt
        have bx : Hid (Below w.heap.size w w4) := bx.out.trans (hb4.mono bx.out.size)
        clear hb4
        go_wp2_with fail
        go_ret
        exact ⟨ret_bool (by rw [HD.out]; rfl), bx.out⟩
end Go.Proofs.Ytcmnhnapnnpbdaa
