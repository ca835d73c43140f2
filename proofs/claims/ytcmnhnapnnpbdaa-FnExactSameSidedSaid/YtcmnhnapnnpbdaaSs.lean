/- SameSided of both programs. -/
import Derived.Test.YtcmnhnapnnpbdaaSidedSt
import Derived.Test.YtcmnhnapnnpbdaaOwn
import Derived.Deep.LoopGhost
namespace Go.Proofs.Ytcmnhnapnnpbdaa
open Go.RowKit
set_option linter.unusedVariables false
set_option maxHeartbeats 2000000 in
theorem iEqualA_any (A : Option Addr) (n c : Nat) (xs : List A4) (A' : Option Addr) (n' c' : Nat) (ys : List A4) (w : World) (B B' : Nat) (h : SlA w B A n xs) (h' : SlA w B' A' n' ys) (hn : n ≤ 4294967296) (hn' : n' ≤ 4294967296) :
    Calls Try.prog 75 #[.slice A n c, .slice A' n' c'] w fun e w' => e = .returned (.bool (decide (xs = ys))) ∧ Below w.heap.size w w' := by
  have hl := Lib.hid h.len
  have hl' := Lib.hid h'.len
  have H := Lib.hid h; clear h
  have H' := Lib.hid h'; clear h'
  by_cases hnn : n = n'
  · subst hnn
    go_enter Try.func75, Try.ntmps75
    go_wp2_with fail
    go_loopg [13] n (fun m i wr => ∃ k : Nat, i = .int .i64 k ∧ k ≤ n ∧ n ≤ m + k ∧ Hid (xs.take k = ys.take k) ∧ ∃ q, wr = w.drewN q)
    case atStart => exact ⟨0, rfl, by omega, by omega, rfl, 0, rfl⟩
    case round =>
      obtain ⟨k, rfl, hk, hm, HE, q, rfl⟩ := hrel
      by_cases hlt : k < n
      · obtain ⟨b, off, x0, x1, x2, x3, rfl, hbB, hx, c0, c1, c2, c3⟩ := H.out.at_ hlt
        obtain ⟨b', off', y0, y1, y2, y3, rfl, hbB', hy, c0', c1', c2', c3'⟩ := H'.out.at_ hlt
        have hi0 : (0 : Int) ≤ (k : Int) := by omega
        have hi1 : (k : Int) < (n : Int) := by omega
        by_cases p0 : x0 = y0
        case neg =>
          have h1 : (x0 == y0) = false := by simp [p0]
          have h2 : (x0 != y0) = true := by simp [p0]
          have HN : Hid (decide (xs = ys) = false) := decide_eq_false (fun e => by have hx' := hx.out; rw [e, hy.out] at hx'; simp at hx'; omega)
          clear p0
          go_wp2_with fail
          go_quiet (fail)
          go_wp2_with fail
          go_ret
          exact ⟨ret_bool HN.out.symm, below_draws (below_draws (Below.refl _ _) _) _⟩
        subst p0
        have e0 : (x0 != x0) = false := by simp
        have f0 : (x0 == x0) = true := by simp
        by_cases p1 : x1 = y1
        case neg =>
          have h1 : (x1 == y1) = false := by simp [p1]
          have h2 : (x1 != y1) = true := by simp [p1]
          have HN : Hid (decide (xs = ys) = false) := decide_eq_false (fun e => by have hx' := hx.out; rw [e, hy.out] at hx'; simp at hx'; omega)
          clear p1
          go_wp2_with fail
          go_quiet (fail)
          go_wp2_with fail
          go_ret
          exact ⟨ret_bool HN.out.symm, below_draws (below_draws (Below.refl _ _) _) _⟩
        subst p1
        have e1 : (x1 != x1) = false := by simp
        have f1 : (x1 == x1) = true := by simp
        by_cases p2 : x2 = y2
        case neg =>
          have h1 : (x2 == y2) = false := by simp [p2]
          have h2 : (x2 != y2) = true := by simp [p2]
          have HN : Hid (decide (xs = ys) = false) := decide_eq_false (fun e => by have hx' := hx.out; rw [e, hy.out] at hx'; simp at hx'; omega)
          clear p2
          go_wp2_with fail
          go_quiet (fail)
          go_wp2_with fail
          go_ret
          exact ⟨ret_bool HN.out.symm, below_draws (below_draws (Below.refl _ _) _) _⟩
        subst p2
        have e2 : (x2 != x2) = false := by simp
        have f2 : (x2 == x2) = true := by simp
        by_cases p3 : x3 = y3
        case neg =>
          have h1 : (x3 == y3) = false := by simp [p3]
          have h2 : (x3 != y3) = true := by simp [p3]
          have HN : Hid (decide (xs = ys) = false) := decide_eq_false (fun e => by have hx' := hx.out; rw [e, hy.out] at hx'; simp at hx'; omega)
          clear p3
          go_wp2_with fail
          go_quiet (fail)
          go_wp2_with fail
          go_ret
          exact ⟨ret_bool HN.out.symm, below_draws (below_draws (Below.refl _ _) _) _⟩
        subst p3
        have e3 : (x3 != x3) = false := by simp
        have f3 : (x3 == x3) = true := by simp
        have HN := Lib.hid (take_eq_succ HE.out hx.out hy.out)
        go_wp2_with fail
        go_quiet (fail)
        go_wp2_with fail
        go_roundg (gk - 1)
        case measure => omega
        case rel => exact ⟨k + 1, by go_num, by omega, by omega, HN, _, rfl⟩
      · obtain rfl : n = k := by omega
        go_wp2_with fail
        go_ret
        refine ⟨ret_bool ?_, below_draws (Below.refl _ _) _⟩
        have := HE.out
        rw [take_all hl.out, take_all hl'.out] at this
        exact (decide_eq_true this).symm
  · have h1 : ((n : Int) == n') = false := by simp; omega
    have h2 : ((n : Int) != n') = true := by simp; omega
    have HN := Lib.hid hnn; clear hnn
    go_enter Try.func75, Try.ntmps75
    go_wp2_with fail
    go_ret
    exact ⟨ret_bool (decide_eq_false (fun e => HN.out (by rw [← hl.out, ← hl'.out, e]))).symm, Below.refl _ _⟩
set_option maxHeartbeats 2000000 in
theorem iEqualB_any (A : Option Addr) (n c : Nat) (xs : List Bool) (A' : Option Addr) (n' c' : Nat) (ys : List Bool) (w : World) (B B' : Nat) (h : SlB w B A n xs) (h' : SlB w B' A' n' ys) (hn : n ≤ 4294967296) (hn' : n' ≤ 4294967296) :
    Calls Try.prog 76 #[.slice A n c, .slice A' n' c'] w fun e w' => e = .returned (.bool (decide (xs = ys))) ∧ Below w.heap.size w w' := by
  have hl := Lib.hid h.len
  have hl' := Lib.hid h'.len
  have H := Lib.hid h; clear h
  have H' := Lib.hid h'; clear h'
  by_cases hnn : n = n'
  · subst hnn
    go_enter Try.func76, Try.ntmps76
    go_wp2_with fail
    go_loopg [13] n (fun m i wr => ∃ k : Nat, i = .int .i64 k ∧ k ≤ n ∧ n ≤ m + k ∧ Hid (xs.take k = ys.take k) ∧ ∃ q, wr = w.drewN q)
    case atStart => exact ⟨0, rfl, by omega, by omega, rfl, 0, rfl⟩
    case round =>
      obtain ⟨k, rfl, hk, hm, HE, q, rfl⟩ := hrel
      by_cases hlt : k < n
      · obtain ⟨b, off, x, rfl, hbB, hx, hc⟩ := H.out.at_ hlt
        obtain ⟨b', off', y, rfl, hbB', hy, hc'⟩ := H'.out.at_ hlt
        have hi0 : (0 : Int) ≤ (k : Int) := by omega
        have hi1 : (k : Int) < (n : Int) := by omega
        by_cases hxy : x = y
        · subst hxy
          have q1 : (x != x) = false := by simp
          have q2 : (x == x) = true := by simp
          have HN := Lib.hid (take_eq_succ HE.out hx.out hy.out)
          go_wp2_with fail
          go_quiet (fail)
          go_wp2_with fail
          go_roundg (gk - 1)
          case measure => omega
          case rel => exact ⟨k + 1, by go_num, by omega, by omega, HN, _, rfl⟩
        · have h1 : (x == y) = false := by simp [hxy]
          have h2 : (x != y) = true := by simp [hxy]
          have HN : Hid (decide (xs = ys) = false) := decide_eq_false (fun e => by have hx' := hx.out; rw [e, hy.out] at hx'; exact hxy (Option.some.inj hx').symm)
          clear hxy
          go_wp2_with fail
          go_quiet (fail)
          go_wp2_with fail
          go_ret
          exact ⟨ret_bool HN.out.symm, below_draws (below_draws (Below.refl _ _) _) _⟩
      · obtain rfl : n = k := by omega
        go_wp2_with fail
        go_ret
        refine ⟨ret_bool ?_, below_draws (Below.refl _ _) _⟩
        have := HE.out
        rw [take_all hl.out, take_all hl'.out] at this
        exact (decide_eq_true this).symm
  · have h1 : ((n : Int) == n') = false := by simp; omega
    have h2 : ((n : Int) != n') = true := by simp; omega
    have HN := Lib.hid hnn; clear hnn
    go_enter Try.func76, Try.ntmps76
    go_wp2_with fail
    go_ret
    exact ⟨ret_bool (decide_eq_false (fun e => HN.out (by rw [← hl.out, ← hl'.out, e]))).symm, Below.refl _ _⟩
def ssB (S T : Int) (L : List A4) (E : List Bool) (S' T' : Int) (L' : List A4) (E' : List Bool) : Bool := decide (S = S') && (decide (T = T') && (decide (L = L') && decide (E = E')))
set_option maxHeartbeats 4000000 in
theorem iSameSided_any (v v' : Value) (S T : Int) (L : List A4) (E : List Bool) (S' T' : Int) (L' : List A4) (E' : List Bool) (w : World) (h : Sd w w.heap.size v S T L E) (h' : Sd w w.heap.size v' S' T' L' E') (hL : L.length ≤ 4294967296) (hE : E.length ≤ 4294967296) (hL' : L'.length ≤ 4294967296) (hE' : E'.length ≤ 4294967296) :
    Calls Try.prog 40 #[v, v'] w fun e w' => e = .returned (.bool (ssB S T L E S' T' L' E')) ∧ Below w.heap.size w w' := by
  obtain ⟨A2, n2, c2, A3, n3, c3, rfl, h2, h3⟩ := h
  obtain ⟨A2', n2', c2', A3', n3', c3', rfl, h2', h3'⟩ := h'
  have m2 : n2 ≤ 4294967296 := by have := h2.len; rw [← this]; exact hL
  have m2' : n2' ≤ 4294967296 := by have := h2'.len; rw [← this]; exact hL'
  have m3 : n3 ≤ 4294967296 := by have := h3.len; rw [← this]; exact hE
  have m3' : n3' ≤ 4294967296 := by have := h3'.len; rw [← this]; exact hE'
  have HD : Hid (ssB S T L E S' T' L' E' = (decide (S = S') && (decide (T = T') && (decide (L = L') && decide (E = E'))))) := rfl
  have H2 := Lib.hid h2; have H2' := Lib.hid h2'; have H3 := Lib.hid h3; have H3' := Lib.hid h3'
  clear h2 h2' h3 h3' hL hL' hE hE'

  have ra := Lib.hid ((Row.new w 51 [.int .i64 S, .int .i64 T, .slice A2 n2 c2, .slice A3 n3 c3]).alloc (.cells ([.int .i64 S', .int .i64 T', .slice A2' n2' c2', .slice A3' n3' c3'] : List Value).toArray 51))
  have rb := Row.new (w.alloc (.cells ([.int .i64 S, .int .i64 T, .slice A2 n2 c2, .slice A3 n3 c3] : List Value).toArray 51)) 51 [.int .i64 S', .int .i64 T', .slice A2' n2' c2', .slice A3' n3' c3']
  rw [show (w.alloc (.cells ([.int .i64 S, .int .i64 T, .slice A2 n2 c2, .slice A3 n3 c3] : List Value).toArray 51)).heap.size = w.heap.size + 1 by simp] at rb
  have rb := Lib.hid rb
  have bx : Below w.heap.size w ((w.alloc (.cells ([.int .i64 S, .int .i64 T, .slice A2 n2 c2, .slice A3 n3 c3] : List Value).toArray 51)).alloc (.cells ([.int .i64 S', .int .i64 T', .slice A2' n2' c2', .slice A3' n3' c3'] : List Value).toArray 51)) := ((Below.refl _ _).alloc (Nat.le_refl _) _).alloc (by simp) _
  have BX := Lib.hid bx; clear bx
  have C2 := fun (x : World) (hx : Below w.heap.size w x) => iEqualA_any A2 n2 c2 L A2' n2' c2' L' x _ _ (H2.out.below hx (Nat.le_refl _)) (H2'.out.below hx (Nat.le_refl _)) m2 m2'
  have C3 := fun (x : World) (hx : Below w.heap.size w x) => iEqualB_any A3 n3 c3 E A3' n3' c3' E' x _ _ (H3.out.below hx (Nat.le_refl _)) (H3'.out.below hx (Nat.le_refl _)) m3 m3'
  by_cases p0 : S = S'
  case neg =>
    have h1 : (S == S') = false := by simp [p0]
    have HN : Hid (ssB S T L E S' T' L' E' = false) := by show _ = _; rw [HD.out, decide_eq_false p0]; rfl
    clear p0
    go_enter Try.func40, Try.ntmps40
    go_wp2_with fail
    go_ret
    exact ⟨ret_bool HN.out.symm, BX.out⟩
  subst p0
  have e0 : (S == S) = true := by simp
  by_cases p1 : T = T'
  case neg =>
    have h1 : (T == T') = false := by simp [p1]
    have HN : Hid (ssB S T L E S T' L' E' = false) := by show _ = _; rw [HD.out, decide_eq_false p1, Bool.false_and, Bool.and_false]
    clear p1
    go_enter Try.func40, Try.ntmps40
    go_wp2_with fail
    go_ret
    exact ⟨ret_bool HN.out.symm, BX.out⟩
  subst p1
  have e1 : (T == T) = true := by simp
  have HD2 : Hid (ssB S T L E S T L' E' = (decide (L = L') && decide (E = E'))) := by show _ = _; rw [HD.out]; simp
  obtain ⟨d2, hd2⟩ : ∃ d, d = decide (L = L') := ⟨_, rfl⟩
  obtain ⟨d3, hd3⟩ : ∃ d, d = decide (E = E') := ⟨_, rfl⟩
  have HD3 : Hid (ssB S T L E S T L' E' = (d2 && d3)) := by show _ = _; rw [HD2.out, hd2, hd3]
  rw [← hd2] at C2; rw [← hd3] at C3
  clear HD HD2 hd2 hd3
  go_enter Try.func40, Try.ntmps40
  go_wp2_with fail
  obtain ⟨x0, hx0⟩ : ∃ x, x = (w.alloc (.cells ([.int .i64 S, .int .i64 T, .slice A2 n2 c2, .slice A3 n3 c3] : List Value).toArray 51)).alloc (.cells ([.int .i64 S, .int .i64 T, .slice A2' n2' c2', .slice A3' n3' c3'] : List Value).toArray 51) := ⟨_, rfl⟩
  have ra : Hid (Row x0 w.heap.size 51 [.int .i64 S, .int .i64 T, .slice A2 n2 c2, .slice A3 n3 c3]) := by rw [hx0]; exact ra
  have rb : Hid (Row x0 (w.heap.size + 1) 51 [.int .i64 S, .int .i64 T, .slice A2' n2' c2', .slice A3' n3' c3']) := by rw [hx0]; exact rb
  have bx : Hid (Below w.heap.size w x0) := by rw [hx0]; exact BX
  change Calls _ _ _ ((w.alloc (.cells ([.int .i64 S, .int .i64 T, .slice A2 n2 c2, .slice A3 n3 c3] : List Value).toArray 51)).alloc (.cells ([.int .i64 S, .int .i64 T, .slice A2' n2' c2', .slice A3' n3' c3'] : List Value).toArray 51)) _
  rw [← hx0]
  clear hx0 BX
  refine (C2 _ bx.out).mono ?_
  rintro e w1 ⟨rfl, hb1⟩
  have ra : Hid (Row w1 w.heap.size 51 [.int .i64 S, .int .i64 T, .slice A2 n2 c2, .slice A3 n3 c3]) := ra.out.below hb1 ra.out.lt
  have rb : Hid (Row w1 (w.heap.size + 1) 51 [.int .i64 S, .int .i64 T, .slice A2' n2' c2', .slice A3' n3' c3']) := rb.out.below hb1 rb.out.lt
  have bx : Hid (Below w.heap.size w w1) := bx.out.trans (hb1.mono bx.out.size)
  clear hb1
  cases d2 with
  | false =>
    go_wp2_with fail
    go_ret
    exact ⟨ret_bool (by rw [HD3.out]; rfl), bx.out⟩
  | true =>
    have ca := ra.out.cell 3
    have cb := rb.out.cell 3
    go_wp2_with fail
    clear ca cb
    refine (C3 _ bx.out).mono ?_
    rintro e w2 ⟨rfl, hb2⟩
    have bx : Hid (Below w.heap.size w w2) := bx.out.trans (hb2.mono bx.out.size)
    clear hb2
    go_wp2_with fail
    go_ret
    exact ⟨ret_bool (by rw [HD3.out]; rfl), bx.out⟩
set_option maxHeartbeats 4000000 in
theorem sSameSided_any (v v' : Value) (S T : Int) (L : List A4) (E : List Bool) (S' T' : Int) (L' : List A4) (E' : List Bool) (w : World) (h : Sd w w.heap.size v S T L E) (h' : Sd w w.heap.size v' S' T' L' E') (hL : L.length ≤ 4294967296) (hE : E.length ≤ 4294967296) (hL' : L'.length ≤ 4294967296) (hE' : E'.length ≤ 4294967296) :
    Calls Try.prog 39 #[v, v'] w fun e w' => e = .returned (.bool (ssB S T L E S' T' L' E')) ∧ Below w.heap.size w w' := by
  obtain ⟨A2, n2, c2, A3, n3, c3, rfl, h2, h3⟩ := h
  obtain ⟨A2', n2', c2', A3', n3', c3', rfl, h2', h3'⟩ := h'
  have m2 : n2 ≤ 4294967296 := by have := h2.len; rw [← this]; exact hL
  have m2' : n2' ≤ 4294967296 := by have := h2'.len; rw [← this]; exact hL'
  have m3 : n3 ≤ 4294967296 := by have := h3.len; rw [← this]; exact hE
  have m3' : n3' ≤ 4294967296 := by have := h3'.len; rw [← this]; exact hE'
  have HD : Hid (ssB S T L E S' T' L' E' = (decide (S = S') && (decide (T = T') && (decide (L = L') && decide (E = E'))))) := rfl
  have H2 := Lib.hid h2; have H2' := Lib.hid h2'; have H3 := Lib.hid h3; have H3' := Lib.hid h3'
  clear h2 h2' h3 h3' hL hL' hE hE'

  have ra := Lib.hid ((Row.new w 51 [.int .i64 S, .int .i64 T, .slice A2 n2 c2, .slice A3 n3 c3]).alloc (.cells ([.int .i64 S', .int .i64 T', .slice A2' n2' c2', .slice A3' n3' c3'] : List Value).toArray 51))
  have rb := Row.new (w.alloc (.cells ([.int .i64 S, .int .i64 T, .slice A2 n2 c2, .slice A3 n3 c3] : List Value).toArray 51)) 51 [.int .i64 S', .int .i64 T', .slice A2' n2' c2', .slice A3' n3' c3']
  rw [show (w.alloc (.cells ([.int .i64 S, .int .i64 T, .slice A2 n2 c2, .slice A3 n3 c3] : List Value).toArray 51)).heap.size = w.heap.size + 1 by simp] at rb
  have rb := Lib.hid rb
  have bx : Below w.heap.size w ((w.alloc (.cells ([.int .i64 S, .int .i64 T, .slice A2 n2 c2, .slice A3 n3 c3] : List Value).toArray 51)).alloc (.cells ([.int .i64 S', .int .i64 T', .slice A2' n2' c2', .slice A3' n3' c3'] : List Value).toArray 51)) := ((Below.refl _ _).alloc (Nat.le_refl _) _).alloc (by simp) _
  have BX := Lib.hid bx; clear bx
  by_cases p0 : S = S'
  case neg =>
    have h1 : (S == S') = false := by simp [p0]
    have h2 : (S != S') = true := by simp [p0]
    have HN : Hid (ssB S T L E S' T' L' E' = false) := by show _ = _; rw [HD.out, decide_eq_false p0]; rfl
    clear p0
    go_enter Try.func39, Try.ntmps39
    go_wp2_with fail
    go_ret
    exact ⟨ret_bool HN.out.symm, BX.out⟩
  subst p0
  have e0 : (S == S) = true := by simp
  have f0 : (S != S) = false := by simp
  by_cases p1 : T = T'
  case neg =>
    have h1 : (T == T') = false := by simp [p1]
    have h2 : (T != T') = true := by simp [p1]
    have HN : Hid (ssB S T L E S T' L' E' = false) := by show _ = _; rw [HD.out, decide_eq_false p1, Bool.false_and, Bool.and_false]
    clear p1
    go_enter Try.func39, Try.ntmps39
    go_wp2_with fail
    go_ret
    exact ⟨ret_bool HN.out.symm, BX.out⟩
  subst p1
  have e1 : (T == T) = true := by simp
  have f1 : (T != T) = false := by simp
  have HD2 : Hid (ssB S T L E S T L' E' = (decide (L = L') && decide (E = E'))) := by show _ = _; rw [HD.out]; simp
  clear HD
  by_cases p2 : n2 = n2'
  case neg =>
    have h1 : ((n2 : Int) == n2') = false := by simp; omega
    have h2 : ((n2 : Int) != n2') = true := by simp; omega
    have HN : Hid (ssB S T L E S T L' E' = false) := by show _ = _; rw [HD2.out, decide_eq_false (fun e => p2 (by rw [← H2.out.len, ← H2'.out.len, e]))]; rfl
    clear p2
    go_enter Try.func39, Try.ntmps39
    go_wp2_with fail
    go_ret
    exact ⟨ret_bool HN.out.symm, BX.out⟩
  subst p2
  have e2 : ((n2 : Int) == n2) = true := by simp
  have f2 : ((n2 : Int) != n2) = false := by simp
  by_cases p3 : n3 = n3'
  case neg =>
    have h1 : ((n3 : Int) == n3') = false := by simp; omega
    have h2 : ((n3 : Int) != n3') = true := by simp; omega
    have HN : Hid (ssB S T L E S T L' E' = false) := by show _ = _; rw [HD2.out, decide_eq_false (p := E = E') (fun e => p3 (by rw [← H3.out.len, ← H3'.out.len, e])), Bool.and_false]
    clear p3
    go_enter Try.func39, Try.ntmps39
    go_wp2_with fail
    go_ret
    exact ⟨ret_bool HN.out.symm, BX.out⟩
  subst p3
  have e3 : ((n3 : Int) == n3) = true := by simp
  have f3 : ((n3 : Int) != n3) = false := by simp
  go_enter Try.func39, Try.ntmps39
  go_wp2_with fail
  obtain ⟨x0, hx0⟩ : ∃ x, x = (w.alloc (.cells ([.int .i64 S, .int .i64 T, .slice A2 n2 c2, .slice A3 n3 c3] : List Value).toArray 51)).alloc (.cells ([.int .i64 S, .int .i64 T, .slice A2' n2 c2', .slice A3' n3 c3'] : List Value).toArray 51) := ⟨_, rfl⟩
  have ra : Hid (Row x0 w.heap.size 51 [.int .i64 S, .int .i64 T, .slice A2 n2 c2, .slice A3 n3 c3]) := by rw [hx0]; exact ra
  have rb : Hid (Row x0 (w.heap.size + 1) 51 [.int .i64 S, .int .i64 T, .slice A2' n2 c2', .slice A3' n3 c3']) := by rw [hx0]; exact rb
  have bx : Hid (Below w.heap.size w x0) := by rw [hx0]; exact BX
  change Code.wp _ _ _ _ ((w.alloc (.cells ([.int .i64 S, .int .i64 T, .slice A2 n2 c2, .slice A3 n3 c3] : List Value).toArray 51)).alloc (.cells ([.int .i64 S, .int .i64 T, .slice A2' n2 c2', .slice A3' n3 c3'] : List Value).toArray 51))
  rw [← hx0]
  clear hx0 BX
  go_loopg [4, 5, 40] n2 (fun m u0 u1 i wr => ∃ k : Nat, i = .int .i64 k ∧ k ≤ n2 ∧ n2 ≤ m + k ∧ Hid (L.take k = L'.take k) ∧ Hid (∃ q, wr = x0.drewN q))
  case atStart => exact ⟨0, rfl, by omega, by omega, rfl, 0, rfl⟩
  case round =>
    obtain ⟨k, rfl, hk, hm, HE, hq⟩ := hrel
    by_cases hlt : k < n2
    · have HW : Hid (SlA wr w.heap.size A2 n2 L ∧ SlA wr w.heap.size A2' n2 L' ∧ Row wr w.heap.size 51 [.int .i64 S, .int .i64 T, .slice A2 n2 c2, .slice A3 n3 c3] ∧ Row wr (w.heap.size + 1) 51 [.int .i64 S, .int .i64 T, .slice A2' n2 c2', .slice A3' n3 c3']) := by
        obtain ⟨q, rfl⟩ := hq.out
        exact ⟨H2.out.below (below_draws bx.out q) (Nat.le_refl _), H2'.out.below (below_draws bx.out q) (Nat.le_refl _), ra.out, rb.out⟩
      obtain ⟨b, off, x0_, x1, x2, x3, rfl, hbB, hx, c0, c1, c2_, c3_⟩ := HW.out.1.at_ hlt
      obtain ⟨b', off', y0, y1, y2, y3, rfl, hbB', hy, c0', c1', c2_', c3_'⟩ := HW.out.2.1.at_ hlt
      have s2 : wr.cell? ⟨w.heap.size, 2, none⟩ = some (.slice (some ⟨b, off, none⟩) n2 c2) := HW.out.2.2.1.cell 2
      have s2' : wr.cell? ⟨w.heap.size + 1, 2, none⟩ = some (.slice (some ⟨b', off', none⟩) n2 c2') := HW.out.2.2.2.cell 2
      have hi0 : (0 : Int) ≤ (k : Int) := by omega
      have hi1 : (k : Int) < (n2 : Int) := by omega
      by_cases p0 : x0_ = y0
      case neg =>
        have h1 : (x0_ == y0) = false := by simp [p0]
        have h2 : (x0_ != y0) = true := by simp [p0]
        have HN : Hid (decide (L = L') = false) := decide_eq_false (fun e => by have hx' := hx.out; rw [e, hy.out] at hx'; simp at hx'; omega)
        clear p0
        go_wp2_with fail
        go_quiet (fail)
        go_wp2_with fail
        go_ret
        refine ⟨ret_bool (by rw [HD2.out, HN.out]; simp), ?_⟩
        obtain ⟨q, hq'⟩ := hq.out
        rw [hq']
        exact below_draws (below_draws bx.out _) _
      subst p0
      have g0 : (x0_ != x0_) = false := by simp
      have k0 : (x0_ == x0_) = true := by simp
      by_cases p1 : x1 = y1
      case neg =>
        have h1 : (x1 == y1) = false := by simp [p1]
        have h2 : (x1 != y1) = true := by simp [p1]
        have HN : Hid (decide (L = L') = false) := decide_eq_false (fun e => by have hx' := hx.out; rw [e, hy.out] at hx'; simp at hx'; omega)
        clear p1
        go_wp2_with fail
        go_quiet (fail)
        go_wp2_with fail
        go_ret
        refine ⟨ret_bool (by rw [HD2.out, HN.out]; simp), ?_⟩
        obtain ⟨q, hq'⟩ := hq.out
        rw [hq']
        exact below_draws (below_draws bx.out _) _
      subst p1
      have g1 : (x1 != x1) = false := by simp
      have k1 : (x1 == x1) = true := by simp
      by_cases p2 : x2 = y2
      case neg =>
        have h1 : (x2 == y2) = false := by simp [p2]
        have h2 : (x2 != y2) = true := by simp [p2]
        have HN : Hid (decide (L = L') = false) := decide_eq_false (fun e => by have hx' := hx.out; rw [e, hy.out] at hx'; simp at hx'; omega)
        clear p2
        go_wp2_with fail
        go_quiet (fail)
        go_wp2_with fail
        go_ret
        refine ⟨ret_bool (by rw [HD2.out, HN.out]; simp), ?_⟩
        obtain ⟨q, hq'⟩ := hq.out
        rw [hq']
        exact below_draws (below_draws bx.out _) _
      subst p2
      have g2 : (x2 != x2) = false := by simp
      have k2 : (x2 == x2) = true := by simp
      by_cases p3 : x3 = y3
      case neg =>
        have h1 : (x3 == y3) = false := by simp [p3]
        have h2 : (x3 != y3) = true := by simp [p3]
        have HN : Hid (decide (L = L') = false) := decide_eq_false (fun e => by have hx' := hx.out; rw [e, hy.out] at hx'; simp at hx'; omega)
        clear p3
        go_wp2_with fail
        go_quiet (fail)
        go_wp2_with fail
        go_ret
        refine ⟨ret_bool (by rw [HD2.out, HN.out]; simp), ?_⟩
        obtain ⟨q, hq'⟩ := hq.out
        rw [hq']
        exact below_draws (below_draws bx.out _) _
      subst p3
      have g3 : (x3 != x3) = false := by simp
      have k3 : (x3 == x3) = true := by simp
      have HN := Lib.hid (take_eq_succ HE.out hx.out hy.out)
      have HQ : Hid (∀ a, ∃ q, wr.drewN a = x0.drewN q) := by
        intro a
        obtain ⟨q, hq'⟩ := hq.out
        exact ⟨q + a, by rw [hq', World.drewN_drewN]⟩
      go_wp2_with fail
      go_quiet (fail)
      go_wp2_with fail
      go_roundg (gk - 1)
      case measure => omega
      case rel => exact ⟨k + 1, by go_num, by omega, by omega, HN, HQ.out _⟩
    · obtain rfl : n2 = k := by omega
      have HT : Hid (L = L') := by
        have := HE.out
        rw [take_all H2.out.len, take_all H2'.out.len] at this
        exact this
      have s3 : wr.cell? ⟨w.heap.size, 3, none⟩ = some (.slice A3 n3 c3) := by
        obtain ⟨q, hq'⟩ := hq.out
        rw [hq']; exact ra.out.cell 3
      go_wp2_with fail
      clear s3
      have HL : Hid (L = L') := HT.out
      clear HT HE
      go_loopg [6, 58] n3 (fun m u0 i wr => ∃ k : Nat, i = .int .i64 k ∧ k ≤ n3 ∧ n3 ≤ m + k ∧ Hid (E.take k = E'.take k) ∧ Hid (∃ q, wr = x0.drewN q))
      case atStart => exact ⟨0, rfl, by omega, by omega, rfl, hq.out⟩
      case round =>
        obtain ⟨k, rfl, hk, hm, HE, hq2⟩ := hrel
        by_cases hlt : k < n3
        · have HW : Hid (SlB wr w.heap.size A3 n3 E ∧ SlB wr w.heap.size A3' n3 E' ∧ Row wr w.heap.size 51 [.int .i64 S, .int .i64 T, .slice A2 n2 c2, .slice A3 n3 c3] ∧ Row wr (w.heap.size + 1) 51 [.int .i64 S, .int .i64 T, .slice A2' n2 c2', .slice A3' n3 c3']) := by
            obtain ⟨q, rfl⟩ := hq2.out
            exact ⟨H3.out.below (below_draws bx.out q) (Nat.le_refl _), H3'.out.below (below_draws bx.out q) (Nat.le_refl _), ra.out, rb.out⟩
          obtain ⟨b, off, x, rfl, hbB, hx, c0⟩ := HW.out.1.at_ hlt
          obtain ⟨b', off', y, rfl, hbB', hy, c0'⟩ := HW.out.2.1.at_ hlt
          have s2 : wr.cell? ⟨w.heap.size, 3, none⟩ = some (.slice (some ⟨b, off, none⟩) n3 c3) := HW.out.2.2.1.cell 3
          have s2' : wr.cell? ⟨w.heap.size + 1, 3, none⟩ = some (.slice (some ⟨b', off', none⟩) n3 c3') := HW.out.2.2.2.cell 3
          have hi0 : (0 : Int) ≤ (k : Int) := by omega
          have hi1 : (k : Int) < (n3 : Int) := by omega
          by_cases p0 : x = y
          case neg =>
            have h1 : (x == y) = false := by simp [p0]
            have h2 : (x != y) = true := by simp [p0]
            have HN : Hid (decide (E = E') = false) := decide_eq_false (fun e => by have hx' := hx.out; rw [e, hy.out] at hx'; simp at hx'; exact p0 hx'.symm)
            clear p0
            go_wp2_with fail
            go_quiet (fail)
            go_wp2_with fail
            go_ret
            refine ⟨ret_bool (by rw [HD2.out, HN.out]; simp), ?_⟩
            obtain ⟨q, hq'⟩ := hq2.out
            rw [hq']
            exact below_draws (below_draws bx.out _) _
          subst p0
          have g0 : (x != x) = false := by simp
          have k0 : (x == x) = true := by simp
          have HN := Lib.hid (take_eq_succ HE.out hx.out hy.out)
          have HQ : Hid (∀ a, ∃ q, wr.drewN a = x0.drewN q) := by
            intro a
            obtain ⟨q, hq'⟩ := hq2.out
            exact ⟨q + a, by rw [hq', World.drewN_drewN]⟩
          go_wp2_with fail
          go_quiet (fail)
          go_wp2_with fail
          go_roundg (gk - 1)
          case measure => omega
          case rel => exact ⟨k + 1, by go_num, by omega, by omega, HN, HQ.out _⟩
        · obtain rfl : n3 = k := by omega
          have HT : Hid (E = E') := by
            have := HE.out
            rw [take_all H3.out.len, take_all H3'.out.len] at this
            exact this
          go_wp2_with fail
          go_ret
          refine ⟨ret_bool (by rw [HD2.out, HL.out, HT.out]; simp), ?_⟩
          obtain ⟨q, hq'⟩ := hq2.out
          rw [hq']
          exact below_draws bx.out _
end Go.Proofs.Ytcmnhnapnnpbdaa
