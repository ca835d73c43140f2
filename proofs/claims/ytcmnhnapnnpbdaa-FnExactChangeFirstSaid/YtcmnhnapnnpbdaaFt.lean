/- Letters in a word at a place: both programs. -/
import Derived.Test.YtcmnhnapnnpbdaaVcP
import Derived.Test.YtcmnhnapnnpbdaaFeP
namespace Go.Proofs.Ytcmnhnapnnpbdaa
open Go.RowKit
set_option linter.unusedVariables false
set_option maxHeartbeats 400000 in
theorem sSameD_any (A : Option Addr) (n c : Nat) (xs : List Int) (A' : Option Addr) (n' c' : Nat) (ys : List Int) (w : World) (B B' : Nat) (h : SlI w B A n xs) (h' : SlI w B' A' n' ys) (hn : n ≤ 4294967296) (hn' : n' ≤ 4294967296) :
    Calls Try.prog 50 #[.slice A n c, .slice A' n' c'] w fun e w' => e = .returned (.bool (decide (xs = ys))) ∧ ∃ q, w' = w.drewN q := by
  have hl := Lib.hid h.len
  have hl' := Lib.hid h'.len
  have H := Lib.hid h; clear h
  have H' := Lib.hid h'; clear h'
  by_cases hnn : n = n'
  · subst hnn
    go_enter Try.func50, Try.ntmps50
    go_wp2
    go_loopw [5] (fun i wr => ∃ k : Nat, k ≤ n ∧ i = .int .i64 k ∧ xs.take k = ys.take k ∧ ∃ q, wr = w.drewN q) (fun i wr => n - (intOf i).toNat)
    case atStart => exact ⟨0, by omega, rfl, rfl, 0, rfl⟩
    case round =>
      obtain ⟨k, hk, rfl, he, q, rfl⟩ := hrel
      have HE := Lib.hid he; clear he
      by_cases hlt : k < n
      · obtain ⟨b, off, x, rfl, hbB, hx, hc⟩ := H.out.at_ hlt
        obtain ⟨b', off', y, rfl, hbB', hy, hc'⟩ := H'.out.at_ hlt
        have hi0 : (0 : Int) ≤ (k : Int) := by omega
        have hi1 : (k : Int) < (n : Int) := by omega
        by_cases hxy : x = y
        · subst hxy
          go_wp2
          go_quiet (fail)
          go_wp2
          exact ⟨⟨k + 1, by omega, by go_num, take_eq_succ HE.out hx.out hy.out, _, rfl⟩, by simp [intOf]; omega⟩
        · have h1 : (x == y) = false := by simp [hxy]
          have h2 : (x != y) = true := by simp [hxy]
          have HXY := Lib.hid hxy; clear hxy
          go_wp2
          go_quiet (fail)
          go_wp2
          go_ret
          refine ⟨ret_bool (decide_eq_false (fun e => ?_)).symm, _, World.drewN_drewN _ _ _⟩
          have hx' := hx.out
          rw [e, hy.out] at hx'
          exact HXY.out (Option.some.inj hx').symm
      · obtain rfl : n = k := by omega
        go_wp2
        go_ret
        refine ⟨ret_bool ?_, _, rfl⟩
        have := HE.out
        rw [take_all hl.out, take_all hl'.out] at this
        exact (decide_eq_true this).symm
  · have h1 : ((n : Int) == n') = false := by simp; omega
    have h2 : ((n : Int) != n') = true := by simp; omega
    have HN := Lib.hid hnn; clear hnn
    go_enter Try.func50, Try.ntmps50
    go_wp2
    go_ret
    exact ⟨ret_bool (decide_eq_false (fun e => HN.out (by rw [← hl.out, ← hl'.out, e]))).symm, 0, rfl⟩
set_option maxHeartbeats 400000 in
theorem iEqualD_any (A : Option Addr) (n c : Nat) (xs : List Int) (A' : Option Addr) (n' c' : Nat) (ys : List Int) (w : World) (B B' : Nat) (h : SlI w B A n xs) (h' : SlI w B' A' n' ys) (hn : n ≤ 4294967296) (hn' : n' ≤ 4294967296) :
    Calls Try.prog 51 #[.slice A n c, .slice A' n' c'] w fun e w' => e = .returned (.bool (decide (xs = ys))) ∧ ∃ q, w' = w.drewN q := by
  have hl := Lib.hid h.len
  have hl' := Lib.hid h'.len
  have H := Lib.hid h; clear h
  have H' := Lib.hid h'; clear h'
  by_cases hnn : n = n'
  · subst hnn
    go_enter Try.func51, Try.ntmps51
    go_wp2
    go_loopw [13] (fun i wr => ∃ k : Nat, k ≤ n ∧ i = .int .i64 k ∧ xs.take k = ys.take k ∧ ∃ q, wr = w.drewN q) (fun i wr => n - (intOf i).toNat)
    case atStart => exact ⟨0, by omega, rfl, rfl, 0, rfl⟩
    case round =>
      obtain ⟨k, hk, rfl, he, q, rfl⟩ := hrel
      have HE := Lib.hid he; clear he
      by_cases hlt : k < n
      · obtain ⟨b, off, x, rfl, hbB, hx, hc⟩ := H.out.at_ hlt
        obtain ⟨b', off', y, rfl, hbB', hy, hc'⟩ := H'.out.at_ hlt
        have hi0 : (0 : Int) ≤ (k : Int) := by omega
        have hi1 : (k : Int) < (n : Int) := by omega
        by_cases hxy : x = y
        · subst hxy
          go_wp2
          go_quiet (fail)
          go_wp2
          exact ⟨⟨k + 1, by omega, by go_num, take_eq_succ HE.out hx.out hy.out, _, rfl⟩, by simp [intOf]; omega⟩
        · have h1 : (x == y) = false := by simp [hxy]
          have h2 : (x != y) = true := by simp [hxy]
          have HXY := Lib.hid hxy; clear hxy
          go_wp2
          go_quiet (fail)
          go_wp2
          go_ret
          refine ⟨ret_bool (decide_eq_false (fun e => ?_)).symm, _, World.drewN_drewN _ _ _⟩
          have hx' := hx.out
          rw [e, hy.out] at hx'
          exact HXY.out (Option.some.inj hx').symm
      · obtain rfl : n = k := by omega
        go_wp2
        go_ret
        refine ⟨ret_bool ?_, _, rfl⟩
        have := HE.out
        rw [take_all hl.out, take_all hl'.out] at this
        exact (decide_eq_true this).symm
  · have h1 : ((n : Int) == n') = false := by simp; omega
    have h2 : ((n : Int) != n') = true := by simp; omega
    have HN := Lib.hid hnn; clear hnn
    go_enter Try.func51, Try.ntmps51
    go_wp2
    go_ret
    exact ⟨ret_bool (decide_eq_false (fun e => HN.out (by rw [← hl.out, ← hl'.out, e]))).symm, 0, rfl⟩
def thB (ws X : List Int) (p : Int) : Bool := decide (0 ≤ p) && (decide (p + (X.length : Int) ≤ (ws.length : Int)) && decide ((ws.drop p.toNat).take X.length = X))
def fitB (L F R ws : List Int) (p : Int) : Bool := thB ws L (p - (L.length : Int)) && (thB ws F p && thB ws R (p + (F.length : Int)))
theorem SlI.sub {w : World} {B b off n : Nat} {ws : List Int} (h : SlI w B (some ⟨b, off, none⟩) n ws) {p k : Nat} (hp : p + k ≤ n) : SlI w B (some ⟨b, off + p, none⟩) k ((ws.drop p).take k) := by
  have hl := h.len
  refine ⟨by rw [iv_length, List.length_take, List.length_drop]; omega, fun hk => ?_⟩
  obtain ⟨b', off', he, hb, hc⟩ := h.2 (by omega)
  have e2 := Option.some.inj he
  injection e2 with e3 e4 _
  subst e3 e4
  refine ⟨b, off + p, rfl, hb, fun j u hu => ?_⟩
  obtain ⟨x, hx, rfl⟩ := iv_get hu
  have hj : j < k := by have := (List.getElem?_eq_some_iff.1 hx).1; rw [List.length_take] at this; omega
  rw [List.getElem?_take_of_lt hj, List.getElem?_drop] at hx
  rw [Nat.add_assoc]
  exact hc (p + j) _ (by simp [iv, hx])
set_option maxHeartbeats 1000000 in
theorem sThere_any (b off n c : Nat) (A : Option Addr) (k d : Nat) (ws X : List Int) (p : Int) (B B' : Nat) (w : World) (h : SlI w B (some ⟨b, off, none⟩) n ws) (h' : SlI w B' A k X) (hn : n ≤ 1048576) (hk : k ≤ 1048576) (hnc : n ≤ c) (hp0 : -1048576 ≤ p) (hp1 : p ≤ 1048576) :
    Calls Try.prog 100 #[.slice (some ⟨b, off, none⟩) n c, .slice A k d, .int .i64 p] w fun e w' => e = .returned (.bool (thB ws X p)) ∧ ∃ q, w' = w.drewN q := by
  have hl := h.len
  have hl' := h'.len
  have hdef : thB ws X p = (decide (0 ≤ p) && (decide (p + (k : Int) ≤ (n : Int)) && decide ((ws.drop p.toNat).take k = X))) := by rw [thB, hl, hl']
  have w1 : IntKind.i64.wrap (p + (k : Int)) = p + (k : Int) := IntWalk.i64_in _ (by omega)
  by_cases h0 : 0 ≤ p
  · by_cases h1 : p + (k : Int) ≤ (n : Int)
    · obtain ⟨P, rfl⟩ : ∃ P : Nat, p = (P : Int) := ⟨p.toNat, by omega⟩
      rw [decide_eq_true h0, decide_eq_true h1, Bool.true_and, Bool.true_and, Int.toNat_natCast] at hdef
      have l1 : (P : Int) ≤ (P : Int) + (k : Int) := by omega
      have l2 : (P : Int) + (k : Int) ≤ (c : Int) := by omega
      have l3 : (P : Int) ≤ (c : Int) := by omega
      have l4 : (0 : Int) ≤ (P : Int) + (k : Int) := by omega
      rcases Nat.eq_zero_or_pos k with rfl | hk0
      · have hX : X = [] := List.eq_nil_of_length_eq_zero hl'
        subst hX
        have HD := Lib.hid hdef
        have C := fun (A2 : Option Addr) (c2 : Nat) (x : World) (hx : SlI x B' A 0 []) => sSameD_any A2 0 c2 [] A 0 d [] x B B' ⟨rfl, fun h => absurd h (by omega)⟩ hx (by omega) (by omega)
        have H' := Lib.hid h'
        clear hdef h h'
        by_cases hPc : P = c
        · subst hPc
          go_enter Try.func100, Try.ntmps100
          go_wp2_with (first | (go_at_call 50; refine (C _ _ _ H'.out).mono ?_; rintro e w' ⟨rfl, q, rfl⟩))
          go_ret
          exact ⟨ret_bool (by rw [HD.out]; simp), q, rfl⟩
        · have hPc2 : P < c := by omega
          go_enter Try.func100, Try.ntmps100
          go_wp2_with (first | (go_at_call 50; refine (C _ _ _ H'.out).mono ?_; rintro e w' ⟨rfl, q, rfl⟩))
          go_ret
          exact ⟨ret_bool (by rw [HD.out]; simp), q, rfl⟩
      · have hPc2 : P < c := by omega
        have HS := Lib.hid (h.sub (p := P) (k := k) (by omega))
        have C := fun (c2 : Nat) => sSameD_any (some ⟨b, off + P, none⟩) k c2 ((ws.drop P).take k) A k d X w B B' HS.out h' (by omega) (by omega)
        have HD := Lib.hid hdef
        clear hdef h h'
        go_enter Try.func100, Try.ntmps100
        go_wp2_with (first | (go_at_call 50; refine (C _).mono ?_; rintro e w' ⟨rfl, q, rfl⟩))
        go_ret
        exact ⟨ret_bool HD.out.symm, q, rfl⟩
    · have HD := Lib.hid (show thB ws X p = false by rw [hdef, decide_eq_false h1]; simp)
      have h1' : (n : Int) < p + (k : Int) := by omega
      clear hdef h1 h h'
      go_enter Try.func100, Try.ntmps100
      go_wp2_with fail
      go_ret
      exact ⟨ret_bool HD.out.symm, 0, rfl⟩
  · have HD := Lib.hid (show thB ws X p = false by rw [hdef, decide_eq_false h0]; simp)
    have h0' : p < 0 := by omega
    clear hdef h0 h h'
    go_enter Try.func100, Try.ntmps100
    go_wp2_with fail
    go_ret
    exact ⟨ret_bool HD.out.symm, 0, rfl⟩
set_option maxHeartbeats 1000000 in
theorem iHasAt_any (b off n c : Nat) (A : Option Addr) (k d : Nat) (ws X : List Int) (p : Int) (B B' : Nat) (w : World) (h : SlI w B (some ⟨b, off, none⟩) n ws) (h' : SlI w B' A k X) (hn : n ≤ 1048576) (hk : k ≤ 1048576) (hnc : n ≤ c) (hp0 : -1048576 ≤ p) (hp1 : p ≤ 1048576) :
    Calls Try.prog 99 #[.slice (some ⟨b, off, none⟩) n c, .int .i64 p, .slice A k d] w fun e w' => e = .returned (.bool (thB ws X p)) ∧ ∃ q, w' = w.drewN q := by
  have hl := h.len
  have hl' := h'.len
  have hdef : thB ws X p = (decide (0 ≤ p) && (decide (p + (k : Int) ≤ (n : Int)) && decide ((ws.drop p.toNat).take k = X))) := by rw [thB, hl, hl']
  have w1 : IntKind.i64.wrap (p + (k : Int)) = p + (k : Int) := IntWalk.i64_in _ (by omega)
  by_cases h0 : 0 ≤ p
  · by_cases h1 : p + (k : Int) ≤ (n : Int)
    · obtain ⟨P, rfl⟩ : ∃ P : Nat, p = (P : Int) := ⟨p.toNat, by omega⟩
      rw [decide_eq_true h0, decide_eq_true h1, Bool.true_and, Bool.true_and, Int.toNat_natCast] at hdef
      have l1 : (P : Int) ≤ (P : Int) + (k : Int) := by omega
      have l2 : (P : Int) + (k : Int) ≤ (c : Int) := by omega
      have l3 : (P : Int) ≤ (c : Int) := by omega
      have l4 : (0 : Int) ≤ (P : Int) + (k : Int) := by omega
      rcases Nat.eq_zero_or_pos k with rfl | hk0
      · have hX : X = [] := List.eq_nil_of_length_eq_zero hl'
        subst hX
        have HD := Lib.hid hdef
        have C := fun (A2 : Option Addr) (c2 : Nat) (x : World) (hx : SlI x B' A 0 []) => iEqualD_any A2 0 c2 [] A 0 d [] x B B' ⟨rfl, fun h => absurd h (by omega)⟩ hx (by omega) (by omega)
        have H' := Lib.hid h'
        clear hdef h h'
        by_cases hPc : P = c
        · subst hPc
          go_enter Try.func99, Try.ntmps99
          go_wp2_with (first | (go_at_call 51; refine (C _ _ _ H'.out).mono ?_; rintro e w' ⟨rfl, q, rfl⟩))
          go_ret
          exact ⟨ret_bool (by rw [HD.out]; simp), q, rfl⟩
        · have hPc2 : P < c := by omega
          go_enter Try.func99, Try.ntmps99
          go_wp2_with (first | (go_at_call 51; refine (C _ _ _ H'.out).mono ?_; rintro e w' ⟨rfl, q, rfl⟩))
          go_ret
          exact ⟨ret_bool (by rw [HD.out]; simp), q, rfl⟩
      · have hPc2 : P < c := by omega
        have HS := Lib.hid (h.sub (p := P) (k := k) (by omega))
        have C := fun (c2 : Nat) => iEqualD_any (some ⟨b, off + P, none⟩) k c2 ((ws.drop P).take k) A k d X w B B' HS.out h' (by omega) (by omega)
        have HD := Lib.hid hdef
        clear hdef h h'
        go_enter Try.func99, Try.ntmps99
        go_wp2_with (first | (go_at_call 51; refine (C _).mono ?_; rintro e w' ⟨rfl, q, rfl⟩))
        go_ret
        exact ⟨ret_bool HD.out.symm, q, rfl⟩
    · have HD := Lib.hid (show thB ws X p = false by rw [hdef, decide_eq_false h1]; simp)
      have h1' : (n : Int) < p + (k : Int) := by omega
      clear hdef h1 h h'
      go_enter Try.func99, Try.ntmps99
      go_wp2_with fail
      go_ret
      exact ⟨ret_bool HD.out.symm, 0, rfl⟩
  · have HD := Lib.hid (show thB ws X p = false by rw [hdef, decide_eq_false h0]; simp)
    have h0' : p < 0 := by omega
    clear hdef h0 h h'
    go_enter Try.func99, Try.ntmps99
    go_wp2_with fail
    go_ret
    exact ⟨ret_bool HD.out.symm, 0, rfl⟩
end Go.Proofs.Ytcmnhnapnnpbdaa
