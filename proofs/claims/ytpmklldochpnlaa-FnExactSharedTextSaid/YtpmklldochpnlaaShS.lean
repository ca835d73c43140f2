/- SharedText of the reference. -/
import Derived.Test.YtpmklldochpnlaaShP
import Derived.Test.YtpmklldochpnlaaCs
namespace Go.Proofs.Ytpmklldochpnlaa
open Go.RowKit Go.PlainAid
set_option linter.unusedVariables false
theorem results_tmp4 {fn : Func} {t u v x : Tmp} (h : fn.results = #[.tmp t, .tmp u, .tmp v, .tmp x]) (tmps : Array Value) (P : Program) (w : World) :
    (results fn tmps).run P w = .ok (.tuple #[tmps.getD t undef, tmps.getD u undef, tmps.getD v undef, tmps.getD x undef]) w := by
  simp [results, h]
set_option maxHeartbeats 1000000 in
theorem sExt_any (a b : ByteArray) (ha : a.size ≤ 48) (hb : b.size ≤ 48) (i0 k0 : Nat) (hi0 : i0 ≤ a.size) (hk0 : k0 ≤ b.size) (w : World) :
    Calls Try.prog 46 #[.string a, .string b, .int .i64 i0, .int .i64 k0] w fun e w' => e = .returned (.int .i64 (ext a b i0 k0 : Nat)) ∧ Below w.heap.size w w' := by
  obtain ⟨N, hN⟩ : ∃ N, N = ext a b i0 k0 := ⟨_, rfl⟩
  rw [← hN]
  have HN := Lib.hid hN; clear hN
  go_enter Try.func46, Try.ntmps46
  go_wp2
  go_loopg [2, 3, 9] a.size (fun m x y s wr => ∃ i k d : Nat, x = .int .i64 i ∧ y = .int .i64 k ∧ s = .int .i64 d ∧ i ≤ a.size ∧ k ≤ b.size ∧ d ≤ i ∧ a.size ≤ m + i ∧ Hid (d + ext a b i k = N) ∧ Below w.heap.size w wr)
  case atStart => exact ⟨i0, k0, 0, rfl, rfl, rfl, by omega, by omega, by omega, by omega, by show _ = _; rw [HN.out]; omega, Below.refl _ _⟩
  case round =>
    obtain ⟨i, k, d, rfl, rfl, rfl, hia, hkb, hdi, hm, HR, hbl⟩ := hrel
    have l0 : (0 : Int) ≤ (i : Int) := by omega
    have l00 : (0 : Int) ≤ (k : Int) := by omega
    by_cases h1 : i < a.size
    · have l1 : (i : Int) < (a.size : Int) := by omega
      by_cases h2 : k < b.size
      · have hg := get_b8 a
        have hg' := get_b8 b
        have l2 : (k : Int) < (b.size : Int) := by omega
        by_cases hq : b8 a i = b8 b k
        · have q1 : (((b8 a i).toNat : Int) == ((b8 b k).toNat : Int)) = true := by simp [hq]
          have HQ : Hid (d + 1 + ext a b (i + 1) (k + 1) = N) := by show _ = _; rw [← HR.out, ext_yes ⟨h1, h2, hq⟩]; omega
          clear hq
          go_wp2
          go_quiet (fail)
          go_wp2
          go_roundg (gk - 1)
          case measure => omega
          case rel => exact ⟨i + 1, k + 1, d + 1, by go_num, by go_num, by go_num, by omega, by omega, by omega, by omega, HQ, below_draws hbl _⟩
        · have q1 : (((b8 a i).toNat : Int) == ((b8 b k).toNat : Int)) = false := by
            rw [beq_eq_false_iff_ne]; exact fun e => hq (UInt8.toNat_inj.1 (by omega))
          have HQ := Lib.hid (show (d : Int) = (N : Nat) by rw [← HR.out, ext_no (fun h => hq h.2.2)]; omega)
          clear hq
          go_wp2
          go_quiet (fail)
          go_wp2
          go_ret
          exact ⟨ret_int HQ.out, below_draws hbl _⟩
      · have l2 : (b.size : Int) ≤ (k : Int) := by omega
        have HQ := Lib.hid (show (d : Int) = (N : Nat) by rw [← HR.out, ext_no (fun h => h2 h.2.1)]; omega)
        have hd1 : decide (k < b.size) = false := decide_eq_false h2
        have hd2 : decide ((k : Int) < (b.size : Int)) = false := decide_eq_false (by omega)
        go_wp2
        go_quiet (fail)
        go_wp2
        go_ret
        exact ⟨ret_int HQ.out, below_draws hbl _⟩
    · have l1 : (a.size : Int) ≤ (i : Int) := by omega
      have HQ := Lib.hid (show (d : Int) = (N : Nat) by rw [← HR.out, ext_no (fun h => h1 h.1)]; omega)
      have hd1 : decide (i < a.size) = false := decide_eq_false h1
      have hd2 : decide ((i : Int) < (a.size : Int)) = false := decide_eq_false (by omega)
      go_wp2
      go_quiet (fail)
      go_wp2
      go_ret
      exact ⟨ret_int HQ.out, below_draws hbl _⟩
def shB (a b : ByteArray) : Bool := txtB a && txtB b
/-- What both answer. -/
def ShOut (a b : ByteArray) (X Y L : Nat) : Prop := if shB a b then ShTo a b a.size 0 X Y L else X = 0 ∧ Y = 0 ∧ L = 0
theorem ShOut.uniq {a b : ByteArray} {x y l x' y' l' : Nat} (h : ShOut a b x y l) (h' : ShOut a b x' y' l') : x = x' ∧ y = y' ∧ l = l' := by
  unfold ShOut at h h'
  split at h
  · rename_i hc
    rw [if_pos hc] at h'
    exact h.uniq h'
  · rename_i hc
    rw [if_neg hc] at h'
    omega
set_option maxHeartbeats 2000000 in
theorem sSharedText_any (a b : ByteArray) (wa : a.size ≤ maxLen) (wb : b.size ≤ maxLen) (w : World) :
    Calls Try.prog 12 #[.string a, .string b] w fun e w' => ∃ X Y L : Nat, e = .returned (.tuple #[.int .i64 X, .int .i64 Y, .int .i64 L, .bool (shB a b)]) ∧ ShOut a b X Y L ∧ Below w.heap.size w w' := by
  have hT := sTwo_any a b wa wb w
  by_cases h : shB a b = true
  · have h' : (txtB a && txtB b) = true := h
    have hp := h'
    rw [Bool.and_eq_true] at hp
    have ha := txtB_true hp.1
    have hb := txtB_true hp.2
    rw [h'] at hT
    have HB := Lib.hid h
    clear h h' hp
    go_enter Try.func12, Try.ntmps12
    go_wp2_with (first | (go_at_call 45; refine hT.mono ?_; rintro e w' ⟨rfl, hw⟩; subst hw; clear hT))
    go_loopg [8, 9, 10, 11] a.size (fun m x y l i wr => ∃ X Y L I : Nat, x = .int .i64 X ∧ y = .int .i64 Y ∧ l = .int .i64 L ∧ i = .int .i64 I ∧ I ≤ a.size ∧ a.size ≤ m + I ∧ Hid (ShTo a b I 0 X Y L) ∧ Below w.heap.size w wr)
    case atStart => exact ⟨0, 0, 0, 0, rfl, rfl, rfl, rfl, by omega, by omega, ShTo.zero a b, Below.refl _ _⟩
    case round =>
      obtain ⟨X, Y, L, I, rfl, rfl, rfl, rfl, hI, hm, HS, hbl⟩ := hrel
      have hs1 := hbl.size
      by_cases hlt : I < a.size
      · obtain ⟨go, hgo⟩ : ∃ g : Nat, g = gk := ⟨_, rfl⟩
        have l0 : (I : Int) < (a.size : Int) := by omega
        go_wp2_with fail
        go_loopg [8, 9, 10, 12] b.size (fun m' x y l k wr' => ∃ X Y L K : Nat, x = .int .i64 X ∧ y = .int .i64 Y ∧ l = .int .i64 L ∧ k = .int .i64 K ∧ K ≤ b.size ∧ b.size ≤ m' + K ∧ Hid (ShTo a b I K X Y L) ∧ Below w.heap.size w wr')
        case atStart => exact ⟨X, Y, L, 0, rfl, rfl, rfl, rfl, by omega, by omega, HS, hbl⟩
        case round =>
          obtain ⟨X', Y', L', K, rfl, rfl, rfl, rfl, hK, hm', HS', hbl'⟩ := hrel
          have hs2 := hbl'.size
          by_cases hlt' : K < b.size
          · have l1 : (K : Int) < (b.size : Int) := by omega
            have hE := sExt_any a b ha hb I K hI hK
            obtain ⟨N, hN⟩ : ∃ N, N = ext a b I K := ⟨_, rfl⟩
            rw [← hN] at hE
            have HN := Lib.hid hN; clear hN
            by_cases hc : L' < N
            · have HQ := Lib.hid (HS'.out.more hlt hlt' HN.out.symm hc)
              have l2 : (L' : Int) < (N : Int) := by omega
              go_wp2_with (first | (go_at_call 46; refine (hE _).mono ?_; rintro e w2 ⟨rfl, hb2⟩; clear hE))
              go_roundg (gk - 1)
              case measure => omega
              case rel => exact ⟨I, K, N, K + 1, rfl, rfl, rfl, by go_num, by omega, by omega, HQ, hbl'.trans (hb2.mono hs2)⟩
            · have HQ := Lib.hid (HS'.out.same HN.out.symm (by omega))
              have l2 : (N : Int) ≤ (L' : Int) := by omega
              clear hc
              go_wp2_with (first | (go_at_call 46; refine (hE _).mono ?_; rintro e w2 ⟨rfl, hb2⟩; clear hE))
              go_roundg (gk - 1)
              case measure => omega
              case rel => exact ⟨X', Y', L', K + 1, rfl, rfl, rfl, by go_num, by omega, by omega, HQ, hbl'.trans (hb2.mono hs2)⟩
          · obtain rfl : K = b.size := by omega
            have HQ := Lib.hid HS'.out.row
            go_wp2_with fail
            go_roundg (go - 1)
            case measure => omega
            case rel => exact ⟨X', Y', L', I + 1, rfl, rfl, rfl, by go_num, by omega, by omega, HQ, hbl'⟩
      · obtain rfl : I = a.size := by omega
        go_wp2_with fail
        (try simp only [Exit.inBlock, Exit.then])
        refine bodyPost_ret (results_tmp4 rfl _ _ _) rfl ?_
        exact ⟨X, Y, L, by rw [HB.out]; rfl, by rw [ShOut, if_pos HB.out]; exact HS.out, hbl⟩
  · have h' : (txtB a && txtB b) = false := by simpa [shB] using h
    rw [h'] at hT
    have HB := Lib.hid (show shB a b = false from h')
    clear h h'
    go_enter Try.func12, Try.ntmps12
    go_wp2_with (first | (go_at_call 45; refine hT.mono ?_; rintro e w' ⟨rfl, hw⟩; subst hw; clear hT))
    (try simp only [Exit.inBlock, Exit.then])
    refine bodyPost_ret (results_tmp4 rfl _ _ _) rfl ?_
    exact ⟨0, 0, 0, by rw [HB.out]; rfl, by rw [ShOut, HB.out]; exact ⟨rfl, rfl, rfl⟩, Below.refl _ _⟩
end Go.Proofs.Ytpmklldochpnlaa
