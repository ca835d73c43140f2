/- Sorting with equals in their order: two sorted rows side by side merged (symMergeCmpFunc). -/
import Derived.Test.YtedbngnkkfpbeaaMgt

namespace Go.Proofs.Ytedbngnkkfpbeaa
open Go.RowKit
set_option linter.unusedVariables false
/-- What a call of the merging tells. -/
def SymOk (w : World) (P X Y S : List Ce) (base g cap a m b N : Nat) : Prop :=
  Calls Try.prog 79 #[.slice (some ⟨g, 0, none⟩) N cap, .int .i64 (a : Int), .int .i64 (m : Int), .int .i64 (b : Int), cmpV] w fun e w' => e = .returned (.tuple #[]) ∧ ∃ M, Dw w' base g cap (P ++ (M ++ S)) ∧ Lo w.heap.size g w w' ∧ Srt M ∧ Stb (X ++ Y) M
/-- The middle of both rows, found: where the search starts. -/
theorem sym_start {X Y : List Ce} {a m b mid n : Nat} (hX : a + X.length = m) (hY : m + Y.length = b) (hmid : mid = (a + b) / 2) (hn : n = mid + m) (hx2 : 1 ≤ X.length) (hy2 : 1 ≤ Y.length) (t : Bool) (ht : t = decide (mid < m)) :
    ∃ s r : Nat, s = (if t then n - b else a) ∧ r = (if t then mid else m) ∧ (a ≤ s ∧ s ≤ r ∧ r ≤ m ∧ m + r ≤ n ∧ n ≤ b + s) ∧ (∀ x ∈ X.take (s - a), ∀ y ∈ Y.drop (n - s - m), x.c ≤ y.c) ∧ (∀ y ∈ Y.take (n - r - m), ∀ x ∈ X.drop (r - a), y.c < x.c) := by
  by_cases h : mid < m
  · have h1 : t = true := by rw [ht]; exact decide_eq_true h
    refine ⟨n - b, mid, by rw [h1]; rfl, by rw [h1]; rfl, by omega, ?_, ?_⟩
    · rw [List.drop_of_length_le (by omega)]; intro x _ y hy; cases hy
    · rw [show n - mid - m = 0 by omega]; intro y hy; simp at hy
  · have h1 : t = false := by rw [ht]; exact decide_eq_false h
    refine ⟨a, m, by rw [h1]; rfl, by rw [h1]; rfl, by omega, ?_, ?_⟩
    · rw [Nat.sub_self]; intro x hx; simp at hx
    · rw [List.drop_of_length_le (show X.length ≤ m - a by omega)]; intro y _ x hx; cases hx
theorem sym_steps {X Y : List Ce} {a m n h : Nat} {x y : Ce} (hs : Srt X) (hs' : Srt Y) (hx : X[h - a]? = some x) (hy : Y[n - 1 - h - m]? = some y) (h1 : a ≤ h) (h2 : m + h + 1 ≤ n) :
    (x.c ≤ y.c → ∀ u ∈ X.take (h + 1 - a), ∀ v ∈ Y.drop (n - (h + 1) - m), u.c ≤ v.c) ∧ (y.c < x.c → ∀ v ∈ Y.take (n - h - m), ∀ u ∈ X.drop (h - a), v.c < u.c) := by
  constructor
  · intro hle u hu v hv
    rw [show h + 1 - a = h - a + 1 by omega] at hu
    rw [show n - (h + 1) - m = n - 1 - h - m by omega] at hv
    have q1 := srt_take hs hx u hu
    have q2 := srt_drop hs' hy v hv
    omega
  · intro hlt v hv u hu
    rw [show n - h - m = n - 1 - h - m + 1 by omega] at hv
    have q1 := srt_take hs' hy v hv
    have q2 := srt_drop hs hx u hu
    omega
/-- Both rows, cut where the search ended. -/
theorem sym_cut {X Y : List Ce} {a m b mid n s : Nat} (hX : a + X.length = m) (hY : m + Y.length = b) (hmid : mid = (a + b) / 2) (hn : n = mid + m) (h1 : a ≤ s) (h2 : s ≤ m) (h3 : m + s ≤ n) (h4 : n ≤ b + s)
    (L : ∀ x ∈ X.take (s - a), ∀ y ∈ Y.drop (n - s - m), x.c ≤ y.c) (R : ∀ y ∈ Y.take (n - s - m), ∀ x ∈ X.drop (s - a), y.c < x.c) :
    ∃ (X1 X2 Y1 Y2 : List Ce) (e : Nat), X = X1 ++ X2 ∧ Y = Y1 ++ Y2 ∧ n = e + s ∧ a + X1.length = s ∧ s + X2.length = m ∧ m + Y1.length = e ∧ e + Y2.length = b ∧ s + Y1.length = mid ∧ mid + X2.length = e ∧ (∀ x ∈ X1, ∀ y ∈ Y2, x.c ≤ y.c) ∧ (∀ y ∈ Y1, ∀ x ∈ X2, y.c < x.c) := by
  refine ⟨X.take (s - a), X.drop (s - a), Y.take (n - s - m), Y.drop (n - s - m), n - s, (List.take_append_drop _ _).symm, (List.take_append_drop _ _).symm, by omega, ?_, ?_, ?_, ?_, ?_, ?_, L, R⟩ <;> simp only [List.length_take, List.length_drop] <;> omega
theorem and_off {p q : Prop} [Decidable p] [Decidable q] (h : decide (p ∧ q) = false) : ¬ p ∨ ¬ q := by
  have := of_decide_eq_false h
  exact Decidable.not_and_iff_or_not.1 this
set_option maxRecDepth 100000 in
set_option maxHeartbeats 8000000 in
/-- Two sorted rows side by side, each of two entries or more. -/
theorem sym_step (P X Y S D : List Ce) (base g cap a m b N : Nat) (w : World) (hD : D = P ++ (X ++ (Y ++ S))) (hN : D.length = N) (hw : Dw w base g cap D) (hcap : N ≤ 100000) (hP : P.length = a) (hX : a + X.length = m) (hY : m + Y.length = b) (hx2 : 2 ≤ X.length) (hy2 : 2 ≤ Y.length) (hs : Srt X) (hs' : Srt Y)
    (IH : ∀ (P X Y S D : List Ce) (a' m' b' : Nat) (w : World), b' - a' < b - a → D = P ++ (X ++ (Y ++ S)) → D.length = N → Dw w base g cap D → P.length = a' → a' + X.length = m' → m' + Y.length = b' → 1 ≤ X.length → 1 ≤ Y.length → Srt X → Srt Y → SymOk w P X Y S base g cap a' m' b' N) :
    SymOk w P X Y S base g cap a m b N := by
  unfold SymOk
  have hb : b ≤ N := by rw [← hN, hD]; simp; omega
  obtain ⟨mid, hmid⟩ : ∃ mid, mid = (a + b) / 2 := ⟨_, rfl⟩
  obtain ⟨n, hn⟩ : ∃ n, n = mid + m := ⟨_, rfl⟩
  have w0 : IntKind.i64.wrap ((m : Int) - (a : Int)) = ((m - a : Nat) : Int) := by rw [IntWalk.i64_in _ (by omega)]; omega
  have w00 : (((m - a : Nat) : Int) == 1) = false := by rw [beq_eq_false_iff_ne]; omega
  have w01 : IntKind.i64.wrap ((b : Int) - (m : Int)) = ((b - m : Nat) : Int) := by rw [IntWalk.i64_in _ (by omega)]; omega
  have w02 : (((b - m : Nat) : Int) == 1) = false := by rw [beq_eq_false_iff_ne]; omega
  have w03 : IntKind.i64.wrap ((a : Int) + (b : Int)) = ((a + b : Nat) : Int) := by rw [IntWalk.i64_in _ (by omega)]; omega
  have w04 : IntKind.u64.wrap ((a + b : Nat) : Int) = ((a + b : Nat) : Int) := IntWalk.u64_in _ (by omega)
  have w041 : IntKind.u64.wrap ((a : Int) + (b : Int)) = (a : Int) + (b : Int) := IntWalk.u64_in _ (by omega)
  have w05 : ((a : Int) + (b : Int)) / 2 = (mid : Int) := by omega
  have w06 : IntKind.i64.wrap (mid : Int) = (mid : Int) := IntWalk.i64_in _ (by omega)
  have w07 : IntKind.i64.wrap ((mid : Int) + (m : Int)) = (n : Int) := by rw [IntWalk.i64_in _ (by omega)]; omega
  have w08 : IntKind.i64.wrap ((n : Int) - (b : Int)) = (n : Int) - (b : Int) := IntWalk.i64_in _ (by omega)
  have w09 : IntKind.i64.wrap ((n : Int) - 1) = ((n - 1 : Nat) : Int) := by rw [IntWalk.i64_in _ (by omega)]; omega
  obtain ⟨t, ht⟩ : ∃ t, t = decide (mid < m) := ⟨_, rfl⟩
  obtain ⟨s0, r0, hs0, hr0, B0, L0, R0⟩ := sym_start hX hY hmid hn (by omega) (by omega) t ht
  have HW := Lib.hid hw
  have HD := Lib.hid hD; have HN := Lib.hid hN; have HP := Lib.hid hP; have HX := Lib.hid hX; have HY := Lib.hid hY; have HB := Lib.hid hb; have HS := Lib.hid hs; have HS' := Lib.hid hs'; have HC9 := Lib.hid hcap
  have HMID := Lib.hid hmid; have HNN := Lib.hid hn; have HX2 := Lib.hid hx2; have HY2 := Lib.hid hy2; have HIH := Lib.hid IH
  have HS0 := Lib.hid hs0; have HR0 := Lib.hid hr0; have HB0 := Lib.hid B0; have HL0 := Lib.hid L0; have HR1 := Lib.hid R0; have HT := Lib.hid ht
  have qt : decide (mid < m) = t := ht.symm
  have HCMP := Lib.hid (fun x y w => cmpB_any x y w)
  clear hD hN hP hw hs hs' hb hX hY hmid hn IH hs0 hr0 B0 L0 R0 ht
  unfold cmpV
  go_enter Try.func79, Try.ntmps79
  go_upto_if 140 with fail
  clear qt w0 w00 w01 w02 w03 w04 w041 w05 w06 w07
  go_cut [20, 21] from 141 to 146 (fun v20 v21 wx => v20 = .int .i64 (s0 : Int) ∧ v21 = .int .i64 (r0 : Int) ∧ wx = w)
  case first =>
    cases t with
    | true =>
      have q1 : (m : Int) > (mid : Int) := by have := of_decide_eq_true HT.out.symm; omega
      have q2 : (mid : Int) < (m : Int) := q1
      have q3 : (n : Int) - (b : Int) = (s0 : Int) := by have := HS0.out; simp at this; have := HNN.out; have := HB0.out; have := HMID.out; have := HX.out; have := HY.out; omega
      have q4 : r0 = mid := HR0.out
      have q5 : IntKind.i64.wrap (s0 : Int) = (s0 : Int) := IntWalk.i64_in _ (by have := HC9.out; have := HB.out; have := HX.out; have := HY.out; have := HB0.out; omega)
      go_wp2_with fail
      all_goals
        go_meet
        exact ⟨rfl, by rw [q4], rfl⟩
    | false =>
      have q1 : ¬ (m : Int) > (mid : Int) := by have := of_decide_eq_false HT.out.symm; omega
      have q2 : ¬ (mid : Int) < (m : Int) := q1
      have q3 : s0 = a := HS0.out
      have q4 : r0 = m := HR0.out
      go_wp2_with fail
      all_goals
        go_meet
        exact ⟨by rw [q3], by rw [q4], rfl⟩
  case rest =>
    clear w08
    obtain ⟨rfl, rfl, hwc⟩ := hcut
    obtain rfl := hwc.symm
    go_wp2_with fail
    go_loopg [20, 21, 23] (r0 - s0) (fun q ti tj th wr => ∃ (i j : Nat), ti = .int .i64 (i : Int) ∧ tj = .int .i64 (j : Int) ∧ Hid (a ≤ i ∧ i ≤ j ∧ j ≤ m ∧ m + j ≤ n ∧ n ≤ b + i ∧ j - i ≤ q) ∧ Hid (∀ x ∈ X.take (i - a), ∀ y ∈ Y.drop (n - i - m), x.c ≤ y.c) ∧ Hid (∀ y ∈ Y.take (n - j - m), ∀ x ∈ X.drop (j - a), y.c < x.c) ∧ Hid (Dw wr base g cap D) ∧ Hid (Lo w.heap.size g w wr))
    case atStart =>
      refine ⟨s0, r0, rfl, rfl, ?_, HL0.out, HR1.out, HW.out, Lo.refl _ _ _⟩
      show _ ∧ _; have := HB0.out; omega
    case round =>
      clear HL0 HR1 HB0 HS0 HR0 HT
      obtain ⟨wo, rfl⟩ : ∃ z : World, z = wr := ⟨_, rfl⟩
      obtain ⟨i, j, rfl, rfl, EI, E1, E2, HDW, HL⟩ := hrel
      obtain ⟨go, hgo⟩ : ∃ z : Nat, z = gk := ⟨_, rfl⟩
      by_cases hlt : i < j
      · have bnd : i + j ≤ 200000 := by have := EI.out; have := HB.out; have := HC9.out; have := HY.out; omega
        obtain ⟨h, hh⟩ : ∃ h, h = (i + j) / 2 := ⟨_, rfl⟩
        have hh1 : i ≤ h ∧ h < j := by omega
        have v1 : IntKind.i64.wrap ((i : Int) + (j : Int)) = ((i + j : Nat) : Int) := by rw [IntWalk.i64_in _ (by omega)]; omega
        have v2 : IntKind.u64.wrap ((i + j : Nat) : Int) = ((i + j : Nat) : Int) := IntWalk.u64_in _ (by omega)
        have v21 : IntKind.u64.wrap ((i : Int) + (j : Int)) = (i : Int) + (j : Int) := IntWalk.u64_in _ (by omega)
        have v3 : IntKind.i64.wrap (h : Int) = (h : Int) := IntWalk.i64_in _ (by omega)
        have v4 : ((i : Int) + (j : Int)) / 2 = (h : Int) := by omega
        have v5 : IntKind.i64.wrap ((h : Int) + 1) = ((h + 1 : Nat) : Int) := by rw [IntWalk.i64_in _ (by omega)]; omega
        have hX := HX.out; have hei := EI.out; have hbb := HB.out; have hY := HY.out
        obtain ⟨k, hk⟩ : ∃ k, k = n - 1 - h := ⟨_, rfl⟩
        have hk1 : m ≤ k ∧ k < b ∧ n = k + h + 1 := by omega
        have v6 : IntKind.i64.wrap (((n - 1 : Nat) : Int) - (h : Int)) = (k : Int) := by rw [IntWalk.i64_in _ (by omega)]; omega
        obtain ⟨x, hx⟩ : ∃ x, X[h - a]? = some x := ⟨_, List.getElem?_eq_getElem (by omega)⟩
        obtain ⟨y, hy⟩ : ∃ y, Y[k - m]? = some y := ⟨_, List.getElem?_eq_getElem (by omega)⟩
        have gk' : D[k]? = some y := by
          rw [HD.out, ← List.append_assoc, List.getElem?_append_right (by rw [List.length_append, HP.out]; omega), List.length_append, HP.out, hX, List.getElem?_append_left (by omega)]; exact hy
        have gh : D[h]? = some x := by
          rw [HD.out, List.getElem?_append_right (by rw [HP.out]; omega), List.getElem?_append_left (by rw [HP.out]; omega), HP.out]; exact hx
        have ST := Lib.hid (sym_steps HS.out HS'.out hx (by rw [← hk]; exact hy) (by omega) (by omega))
        obtain ⟨ca1, ca2⟩ := ce_grown HDW.out gh
        obtain ⟨cb1, cb2⟩ := ce_grown HDW.out gk'
        obtain ⟨r, hr⟩ : ∃ r, r = cmpI y x := ⟨_, rfl⟩
        have HC : Hid (∀ w, Calls Try.prog 42 #[.agg #[.slice y.A y.n y.k, .int .i64 y.c], .agg #[.slice x.A x.n x.k, .int .i64 x.c]] w fun e w' => e = .returned (.int .i64 r) ∧ ∃ q os', w' = Go.Sort.grow (w.drewN q) os') := fun w => by rw [hr]; exact HCMP.out y x w
        have hrl := cmpI_lt y x
        rw [← hr] at hrl
        have l1 : (0 : Int) ≤ (h : Int) := by omega
        have l2 : (h : Int) < (N : Int) := by omega
        have l3 : (0 : Int) ≤ (k : Int) := by omega
        have l4 : (k : Int) < (N : Int) := by omega
        have mixed : Try.prog.follows .mixedOrders = true := by kernel_rfl
        have HH := Lib.hid hh1
        clear hx hy gk' gh hr hX hei hbb hY hh bnd hh1 hk hk1
        go_wp2_with fail
        go_quiet_grown ((go_at_call 42; exact Calls.grown_of (HC.out _)))
        have hbq := below_grown' wo nq osq
        obtain ⟨wq, hwq⟩ : ∃ x, x = Go.Sort.grow (wo.drewN nq) osq := ⟨_, rfl⟩
        rw [← hwq] at hbq
        change Exit.then _ _ _ _ (Go.Sort.grow (wo.drewN nq) osq)
        rw [← hwq]
        have HDq := Lib.hid (HDW.out.keep hbq (Nat.le_refl _))
        have HLq : Hid (Lo w.heap.size g w wq) := HL.out.trans (Lo.below hbq HL.out.sz)
        clear hwq hbq ca1 ca2 cb1 cb2 mixed HDW HL l1 l2 l3 l4 v1 v2 v21 v3 v6
        by_cases hzx : y.c < x.c
        · have b1 : (!decide (y.c < x.c)) = false := by rw [decide_eq_true hzx]; rfl
          rw [b1]
          go_wp2_with fail
          go_roundg (go - 1)
          case measure => have := EI.out; have := HH.out; omega
          case rel =>
            refine ⟨i, h, rfl, rfl, ?_, E1.out, ST.out.2 hzx, HDq.out, HLq.out⟩
            show _ ∧ _; have := EI.out; have := HH.out; omega
        · have b1 : (!decide (y.c < x.c)) = true := by rw [decide_eq_false hzx]; rfl
          rw [b1]
          go_wp2_with fail
          go_roundg (go - 1)
          case measure => have := EI.out; have := HH.out; omega
          case rel =>
            refine ⟨h + 1, j, by go_num, rfl, ?_, ST.out.1 (by omega), E2.out, HDq.out, HLq.out⟩
            show _ ∧ _; have := EI.out; have := HH.out; omega
      · have hij : i = j := by have := EI.out; omega
        subst hij
        have l0 : ¬ (i : Int) < (i : Int) := by omega
        obtain ⟨s, rfl⟩ : ∃ s, s = i := ⟨_, rfl⟩
        obtain ⟨X1, X2, Y1, Y2, e, rfl, rfl, p1, p2, p3, p4, p5, p6, p7, p8, p9⟩ := sym_cut (s := s) HX.out HY.out HMID.out HNN.out EI.out.1 EI.out.2.2.1 EI.out.2.2.2.1 EI.out.2.2.2.2.1 E1.out E2.out
        have z1 : IntKind.i64.wrap ((n : Int) - (s : Int)) = (e : Int) := by rw [IntWalk.i64_in _ (by have := HC9.out; have := HB.out; omega)]; omega
        have HE : Hid (a + X1.length = s ∧ s + X2.length = m ∧ m + Y1.length = e ∧ e + Y2.length = b ∧ s + Y1.length = mid ∧ mid + X2.length = e) := ⟨p2, p3, p4, p5, p6, p7⟩
        have HLL := Lib.hid p8; have HRR := Lib.hid p9
        have HMB : Hid (a < mid ∧ mid < b) := by show _ ∧ _; have := HMID.out; have := HX2.out; have := HY2.out; have := HX.out; have := HY.out; omega
        clear p1 p2 p3 p4 p5 p6 p7 p8 p9 E1 E2 EI w09 hgo HMID HNN
        go_upto_region 39 with fail
        go_cut [185] from 178 to 184 (fun v wx => v = .bool (decide (s < m ∧ m < e)) ∧ wx = wo)
        case first =>
          by_cases c1 : s < m
          · by_cases c2 : m < e
            · have d1 : decide (s < m) = true := decide_eq_true c1
              have d2 : decide (m < e) = true := decide_eq_true c2
              have d3 : decide (s < m ∧ m < e) = true := decide_eq_true ⟨c1, c2⟩
              go_wp2_with fail
              all_goals
                go_meet
                exact ⟨by rw [d3], rfl⟩
            · have d1 : decide (s < m) = true := decide_eq_true c1
              have d2 : decide (m < e) = false := decide_eq_false c2
              have d3 : decide (s < m ∧ m < e) = false := decide_eq_false (fun h => c2 h.2)
              go_wp2_with fail
              all_goals
                go_meet
                exact ⟨by rw [d3], rfl⟩
          · have d1 : decide (s < m) = false := decide_eq_false c1
            have d3 : decide (s < m ∧ m < e) = false := decide_eq_false (fun h => c1 h.1)
            go_wp2_with fail
            all_goals
              go_meet
              exact ⟨by rw [d3], rfl⟩
        obtain ⟨rfl, hwc⟩ := hcut
        obtain rfl := hwc.symm
        obtain ⟨t, ht⟩ : ∃ t, t = decide (s < m ∧ m < e) := ⟨_, rfl⟩
        rw [← ht]
        have HTT := Lib.hid ht
        clear ht
        go_upto_if 185 with fail
        go_cut [] from 186 to 191 (fun wx => Hid (Dw wx base g cap (P ++ (X1 ++ (Y1 ++ (X2 ++ (Y2 ++ S)))))) ∧ Hid (Lo w.heap.size g w wx))
        case first =>
          cases t with
          | true =>
            have hc := of_decide_eq_true HTT.out.symm
            have he := HE.out
            have SR := Lib.hid (rot_any (P ++ X1) X2 Y1 (Y2 ++ S) D base g cap s m e N cmpV wo (by rw [HD.out]; simp only [List.append_assoc]) HN.out HDW.out HC9.out (by rw [List.length_append, HP.out]; exact he.1) he.2.1 he.2.2.1 (by omega) (by omega))
            clear hc he
            unfold cmpV at SR
            go_wp2_with (go_at_call 82; refine SR.out.mono ?_; rintro e w3 ⟨rfl, hd3, hl3⟩; have HD3 := Lib.hid hd3; have HL3 := Lib.hid hl3; clear hd3 hl3)
            all_goals
              go_meet
              refine ⟨?_, lo_more HL.out HL3.out HL.out.sz⟩
              have h := HD3.out
              simp only [List.append_assoc] at h
              exact h
          | false =>
            go_wp2_with fail
            all_goals
              go_meet
              refine ⟨?_, HL.out⟩
              have h := HDW.out
              rw [HD.out] at h
              have he := HE.out
              rcases and_off HTT.out.symm with hc | hc
              · have : X2 = [] := List.length_eq_zero_iff.1 (by omega)
                subst this
                simp only [List.append_assoc, List.nil_append] at h ⊢
                exact h
              · have : Y1 = [] := List.length_eq_zero_iff.1 (by omega)
                subst this
                simp only [List.append_assoc, List.nil_append] at h ⊢
                exact h
        clear HTT HDW HL
        obtain ⟨HDW, HL⟩ := hcut
        obtain ⟨wo, rfl⟩ : ∃ z : World, z = wc := ⟨_, rfl⟩
        obtain ⟨D1, hD1⟩ : ∃ D1, D1 = P ++ (X1 ++ (Y1 ++ (X2 ++ (Y2 ++ S)))) := ⟨_, rfl⟩
        have HN1 : Hid (D1.length = N) := by
          show _ = _; rw [hD1, ← HN.out, HD.out]; simp only [List.length_append]; omega
        rw [← hD1] at HDW
        have HD1 := Lib.hid hD1
        clear hD1 HD
        go_upto_region 41 with fail
        go_cut [199] from 192 to 198 (fun v wx => v = .bool (decide (a < s ∧ s < mid)) ∧ wx = wo)
        case first =>
          by_cases c1 : a < s
          · by_cases c2 : s < mid
            · have d1 : decide (a < s) = true := decide_eq_true c1
              have d2 : decide (s < mid) = true := decide_eq_true c2
              have d3 : decide (a < s ∧ s < mid) = true := decide_eq_true ⟨c1, c2⟩
              go_wp2_with fail
              all_goals
                go_meet
                exact ⟨by rw [d3], rfl⟩
            · have d1 : decide (a < s) = true := decide_eq_true c1
              have d2 : decide (s < mid) = false := decide_eq_false c2
              have d3 : decide (a < s ∧ s < mid) = false := decide_eq_false (fun h => c2 h.2)
              go_wp2_with fail
              all_goals
                go_meet
                exact ⟨by rw [d3], rfl⟩
          · have d1 : decide (a < s) = false := decide_eq_false c1
            have d3 : decide (a < s ∧ s < mid) = false := decide_eq_false (fun h => c1 h.1)
            go_wp2_with fail
            all_goals
              go_meet
              exact ⟨by rw [d3], rfl⟩
        obtain ⟨rfl, hwc⟩ := hcut
        obtain rfl := hwc.symm
        obtain ⟨t, ht⟩ : ∃ t, t = decide (a < s ∧ s < mid) := ⟨_, rfl⟩
        rw [← ht]
        have HTT := Lib.hid ht
        clear ht
        go_upto_if 199 with fail
        go_cut [] from 200 to 205 (fun wx => ∃ M1, Hid (Dw wx base g cap (P ++ (M1 ++ (X2 ++ (Y2 ++ S))))) ∧ Hid (Lo w.heap.size g w wx) ∧ Hid (Srt M1 ∧ Stb (X1 ++ Y1) M1))
        case first =>
          cases t with
          | true =>
            have hc := of_decide_eq_true HTT.out.symm
            have he := HE.out
            have hmb := HMB.out
            have SR := HIH.out P X1 Y1 (X2 ++ (Y2 ++ S)) D1 a s mid wo (by omega) HD1.out HN1.out HDW.out HP.out he.1 he.2.2.2.2.1 (by omega) (by omega) HS.out.left HS'.out.left
            unfold SymOk cmpV at SR
            have SR := Lib.hid SR
            clear hc he hmb
            go_wp2_with (go_at_call 79; refine SR.out.mono ?_; rintro e w3 ⟨rfl, M1, hd3, hl3, hs3, hb3⟩; have HD3 := Lib.hid hd3; have HL3 := Lib.hid hl3; have HS3 := Lib.hid hs3; have HB3 := Lib.hid hb3; clear hd3 hl3 hs3 hb3)
            all_goals
              go_meet
              exact ⟨M1, HD3.out, lo_more HL.out HL3.out HL.out.sz, HS3.out, HB3.out⟩
          | false =>
            go_wp2_with fail
            all_goals
              go_meet
              have h := HDW.out
              rw [HD1.out] at h
              have he := HE.out
              refine ⟨X1 ++ Y1, (by show Dw _ _ _ _ _; simpa only [List.append_assoc] using h), HL.out, ?_, Stb.refl _⟩
              refine srt_empty HS.out.left HS'.out.left ?_
              rcases and_off HTT.out.symm with hc | hc
              · exact Or.inl (List.length_eq_zero_iff.1 (by omega))
              · exact Or.inr (List.length_eq_zero_iff.1 (by omega))
        have HNX : Hid ((P ++ (X1 ++ (Y1 ++ (X2 ++ (Y2 ++ S))))).length = N) := by show _ = _; rw [← HD1.out]; exact HN1.out
        clear HTT HDW HL HN1 HD1
        obtain ⟨M1, HDW, HL, HM1⟩ := hcut
        obtain ⟨wo, rfl⟩ : ∃ z : World, z = wc := ⟨_, rfl⟩
        obtain ⟨D2, hD2⟩ : ∃ D2, D2 = P ++ (M1 ++ (X2 ++ (Y2 ++ S))) := ⟨_, rfl⟩
        have HM1L : Hid ((P ++ M1).length = mid) := by
          have he := HE.out
          show _ = _; rw [List.length_append, HM1.out.2.len, HP.out, List.length_append]; omega
        have HN2 : Hid (D2.length = N) := by
          have h1 := HNX.out
          have h2 := HM1.out.2.len
          show _ = _; rw [hD2, ← h1]; simp only [List.length_append] at h2 ⊢; omega
        rw [← hD2] at HDW
        have HD2 := Lib.hid hD2
        clear hD2
        go_upto_region 43 with fail
        go_cut [213] from 206 to 212 (fun v wx => v = .bool (decide (mid < e ∧ e < b)) ∧ wx = wo)
        case first =>
          by_cases c1 : mid < e
          · by_cases c2 : e < b
            · have d1 : decide (mid < e) = true := decide_eq_true c1
              have d2 : decide (e < b) = true := decide_eq_true c2
              have d3 : decide (mid < e ∧ e < b) = true := decide_eq_true ⟨c1, c2⟩
              go_wp2_with fail
              all_goals
                go_meet
                exact ⟨by rw [d3], rfl⟩
            · have d1 : decide (mid < e) = true := decide_eq_true c1
              have d2 : decide (e < b) = false := decide_eq_false c2
              have d3 : decide (mid < e ∧ e < b) = false := decide_eq_false (fun h => c2 h.2)
              go_wp2_with fail
              all_goals
                go_meet
                exact ⟨by rw [d3], rfl⟩
          · have d1 : decide (mid < e) = false := decide_eq_false c1
            have d3 : decide (mid < e ∧ e < b) = false := decide_eq_false (fun h => c1 h.1)
            go_wp2_with fail
            all_goals
              go_meet
              exact ⟨by rw [d3], rfl⟩
        obtain ⟨rfl, hwc⟩ := hcut
        obtain rfl := hwc.symm
        obtain ⟨t, ht⟩ : ∃ t, t = decide (mid < e ∧ e < b) := ⟨_, rfl⟩
        rw [← ht]
        have HTT := Lib.hid ht
        clear ht
        cases t with
        | true =>
          have hc := of_decide_eq_true HTT.out.symm
          have he := HE.out
          have hmb := HMB.out
          have SR := HIH.out (P ++ M1) X2 Y2 S D2 mid e b wo (by omega) (by rw [HD2.out]; simp only [List.append_assoc]) HN2.out HDW.out HM1L.out he.2.2.2.2.2 he.2.2.2.1 (by omega) (by omega) HS.out.right HS'.out.right
          unfold SymOk cmpV at SR
          have SR := Lib.hid SR
          clear hc he hmb
          go_wp2_with (go_at_call 79; refine SR.out.mono ?_; rintro e w3 ⟨rfl, M2, hd3, hl3, hs3, hb3⟩; have HD3 := Lib.hid hd3; have HL3 := Lib.hid hl3; have HS3 := Lib.hid hs3; have HB3 := Lib.hid hb3; clear hd3 hl3 hs3 hb3)
          go_end0
          obtain ⟨g1, g2⟩ := srt_merge HS.out HS'.out HLL.out HRR.out HM1.out.1 HS3.out HM1.out.2 HB3.out
          refine ⟨rfl, M1 ++ M2, by have h := HD3.out; simp only [List.append_assoc] at h ⊢; exact h, lo_more HL.out HL3.out HL.out.sz, g1, g2⟩
        | false =>
          have he := HE.out
          have h2 : Srt (X2 ++ Y2) := by
            refine srt_empty HS.out.right HS'.out.right ?_
            rcases and_off HTT.out.symm with hc | hc
            · exact Or.inl (List.length_eq_zero_iff.1 (by omega))
            · exact Or.inr (List.length_eq_zero_iff.1 (by omega))
          have HS2 := Lib.hid h2
          clear h2 he
          go_wp2_with fail
          go_end0
          obtain ⟨g1, g2⟩ := srt_merge HS.out HS'.out HLL.out HRR.out HM1.out.1 HS2.out HM1.out.2 (Stb.refl _)
          have h := HDW.out
          rw [HD2.out] at h
          refine ⟨rfl, M1 ++ (X2 ++ Y2), by simp only [List.append_assoc] at h ⊢; exact h, HL.out, g1, by simpa only [List.append_assoc] using g2⟩
end Go.Proofs.Ytedbngnkkfpbeaa
