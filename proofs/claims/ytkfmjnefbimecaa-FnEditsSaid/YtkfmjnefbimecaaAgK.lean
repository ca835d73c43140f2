/- Alignments: AlignGain of the program. -/
import Derived.Test.YtkfmjnefbimecaaAgJ

namespace Go.Proofs.Ytkfmjnefbimecaa
open Go.RowKit Go.PlainAid
set_option linter.unusedVariables false
def agOk (a b : ByteArray) (s d o m : Int) : Bool := txtB a && txtB b && allIn [s, d, o, m] 0 1000
def agR1 (a b : ByteArray) (s d o m : Int) : Int := if agOk a b s d o m then agB (ag a b s d o m 1099511627776 a.size b.size) else 0
theorem agc4 {p o c q : Int} (h : allIn [p, o, c, q] 0 1000 = true) : (0 ≤ p ∧ p ≤ 1000) ∧ (0 ≤ o ∧ o ≤ 1000) ∧ (0 ≤ c ∧ c ≤ 1000) ∧ (0 ≤ q ∧ q ≤ 1000) := by
  simp only [allIn, List.all_cons, List.all_nil, Bool.and_true, Bool.and_eq_true] at h
  exact ⟨inB_true h.1, inB_true h.2.1, inB_true h.2.2.1, inB_true h.2.2.2⟩
theorem infoTS : (Try.prog.info? 115).map (fun i => (i.zero, i.size, i.bytes)) = some (some (.slice none 0 0), 1, 24) := by kernel_rfl
def agRows (f : Nat → Nat → Tri) (i n : Nat) : List (List Value) := (List.range i).map fun j => ft ((List.range n).map (f j))
theorem agRows_len (f : Nat → Nat → Tri) (i n : Nat) : (agRows f i n).length = i := by simp [agRows]
theorem agRows_get (f : Nat → Nat → Tri) {j i n : Nat} (h : j < i) : (agRows f i n)[j]? = some (ft ((List.range n).map (f j))) := by simp [agRows, h]
theorem agRows_succ (f : Nat → Nat → Tri) (i n : Nat) : agRows f (i + 1) n = agRows f i n ++ [ft ((List.range n).map (f i))] := by simp [agRows, List.range_succ]
theorem agCell {f : Nat → Tri} {k n : Nat} (h : k < n) : (ft ((List.range n).map f))[k * 3]? = some (.int .i64 (f k).1) ∧ (ft ((List.range n).map f))[k * 3 + 1]? = some (.int .i64 (f k).2.1) ∧ (ft ((List.range n).map f))[k * 3 + 2]? = some (.int .i64 (f k).2.2) := ft_get (by simp [h])
theorem tri_eta (v : Tri) : (v.1, v.2.1, v.2.2) = v := rfl
set_option maxRecDepth 100000 in
set_option maxHeartbeats 8000000 in
theorem iAlign_yes (a b : ByteArray) (s d o m : Int) (wa : a.size ≤ maxLen) (wb : b.size ≤ maxLen) (h1 : txtB a = true) (h2 : txtB b = true) (h3 : allIn [s, d, o, m] 0 1000 = true) (w : World) :
    Calls Try.prog 37 #[.string a, .string b, .int .i64 s, .int .i64 d, .int .i64 o, .int .i64 m] w fun e w' => e = .returned (.tuple #[.int .i64 (agB (ag a b s d o m 1099511627776 a.size b.size)), .bool true]) ∧ Below w.heap.size w w' := by
  have ha := txtB_true h1
  have hb := txtB_true h2
  obtain ⟨hs, hd, ho, hm⟩ := agc4 h3
  obtain ⟨f, hf⟩ : ∃ f, f = ag a b s d o m 1099511627776 := ⟨_, rfl⟩
  rw [← hf]
  obtain ⟨z, hz⟩ : ∃ z : Tri, z = (-1099511627776, -1099511627776, -1099511627776) := ⟨_, rfl⟩
  have HBD : Hid (∀ i k, i ≤ a.size → k ≤ b.size → (-3000000000000 ≤ (f i k).1 ∧ (f i k).1 ≤ 1000000) ∧ (-3000000000000 ≤ (f i k).2.1 ∧ (f i k).2.1 ≤ 1000000) ∧ (-3000000000000 ≤ (f i k).2.2 ∧ (f i k).2.2 ≤ 1000000)) := fun i k hi hk => by rw [hf]; exact ag_bd a b (by omega) hs hd ho hm (by omega)
  have F00 : Hid (f 0 0 = (0, z.2.1, z.2.2)) := by show _ = _; rw [hf, hz]; rfl
  have F0s : Hid (∀ k, f 0 (k + 1) = (z.1, z.2.1, agR o m (f 0 k))) := fun k => by rw [hf, hz]; rfl
  have Fs0 : Hid (∀ i, f (i + 1) 0 = (z.1, agL o m (f i 0), z.2.2)) := fun i => by rw [hf, ag_s0, hz]
  have Fss : Hid (∀ i k, f (i + 1) (k + 1) = (agB (f i k) + agG a b s d i k, agL o m (f i (k + 1)), agR o m (f (i + 1) k))) := fun i k => by rw [hf, ag_ss]
  have HZ := Lib.hid hz
  have hz1 : z.1 = -1099511627776 := by rw [hz]
  have hz2 : z.2.1 = -1099511627776 := by rw [hz]
  have hz3 : z.2.2 = -1099511627776 := by rw [hz]
  clear hf hz
  have hrep : ∀ y : World, Calls Try.prog 87 #[.slice (some ⟨y.heap.size, 0, none⟩) 1 1, .int .i64 ((b.size : Int) + 1)] (y.alloc (.cells #[.int .i64 (-1099511627776), .int .i64 (-1099511627776), .int .i64 (-1099511627776)] 118)) fun e w' => e = .returned (.slice (some ⟨y.heap.size + 1, 0, none⟩) (b.size + 1) (b.size + 1)) ∧ Row w' (y.heap.size + 1) 118 (ft (List.replicate (b.size + 1) z)) ∧ Below y.heap.size y w' := by
    intro y
    have h := iRepeatT_any y.heap.size 1 z (b.size + 1) (y.alloc (.cells (ft [z]).toArray 118)) (Row.new _ _ _) (by omega) (by omega)
    have hb0 : Below y.heap.size y (y.alloc (.cells (ft [z]).toArray 118)) := (Below.refl _ _).alloc (Nat.le_refl _) _
    have hy : (y.alloc (.cells (ft [z]).toArray 118)).heap.size = y.heap.size + 1 := by simp
    rw [hy, show ((b.size + 1 : Nat) : Int) = (b.size : Int) + 1 from by omega] at h
    have e0 : (ft [z]).toArray = #[.int .i64 (-1099511627776), .int .i64 (-1099511627776), .int .i64 (-1099511627776)] := by rw [HZ.out]; rfl
    rw [e0] at h hb0
    exact h.mono fun e w' ⟨h1, h2, h3⟩ => ⟨h1, h2, hb0.trans (h3.mono (by omega))⟩
  have HREP := Lib.hid hrep; clear hrep
  go_enter Try.func37, Try.ntmps37
  go_wp2_with (first | (go_at_call 79; refine (iIsText_any _ (by assumption) _).mono ?_; rintro e w' ⟨rfl, rfl⟩) | (go_at_call 80; refine (iCosts_any (some ⟨w.heap.size, 0, none⟩) 4 4 [s, d, o, m] (w.heap.size + 1) _ (by have := (Row.new w 2 (iv [s, d, o, m])).sl; simp at this; exact this) (by omega)).mono ?_; rintro e w' ⟨rfl, rfl⟩))
  clear h1 h2 h3
  have hbel0 : Below w.heap.size w (w.alloc (.cells #[.int .i64 s, .int .i64 d, .int .i64 o, .int .i64 m] 2)) := (Below.refl w.heap.size w).alloc (Nat.le_refl _) _
  obtain ⟨w0, hw0⟩ : ∃ x, x = w.alloc (.cells #[.int .i64 s, .int .i64 d, .int .i64 o, .int .i64 m] 2) := ⟨_, rfl⟩
  have hz0 : w0.heap.size = w.heap.size + 1 := by rw [hw0]; simp
  rw [← hw0] at hbel0
  go_loopg [14, 41] (a.size + 1) (fun q t i wr => ∃ k : Nat, k ≤ a.size + 1 ∧ a.size + 1 ≤ q + k ∧ i = .int .i64 k ∧ Hid (TabV wr (w.heap.size + 1) 115 (b.size + 1) t (agRows f k (b.size + 1))) ∧ Hid (Below w.heap.size w wr))
  case atStart =>
    have h4 := TabV.made w0 (w.heap.size + 1) 115 (b.size + 1) (by omega)
    rw [hz0, hw0] at h4
    rw [hw0] at hbel0
    exact ⟨0, by omega, by omega, rfl, h4, hbel0.alloc (by simp) _⟩
  case round =>
    clear hbel0 hw0 hz0
    obtain ⟨i, hi, hq, rfl, HT, HB⟩ := hrel
    obtain ⟨wo, rfl⟩ : ∃ x : World, x = wr := ⟨_, rfl⟩
    have hsz := HB.out.size
    have hTB : Hid (∀ b', u14.ownBlock = some b' → w.heap.size + 1 ≤ b' ∧ b' < wo.heap.size) := fun b' h => HT.out.block b' h
    by_cases hlt : i < a.size + 1
    · have e1 : (i : Int) < (a.size : Int) + 1 := by omega
      go_wp2_with (go_at_call 87; refine (HREP.out wo).mono ?_; rintro e w1 ⟨rfl, hr1, hb1⟩; have HR1 := Lib.hid hr1; have HB1 := Lib.hid hb1; clear hr1 hb1)
      obtain ⟨N, hN⟩ : ∃ N, N = b.size + 1 := ⟨_, rfl⟩
      rw [← hN] at HR1
      have hN' := Lib.hid hN
      obtain ⟨go, hgo⟩ : ∃ g : Nat, g = gk := ⟨_, rfl⟩
      go_loopg [52] (b.size + 1) (fun q kk wr => ∃ k : Nat, k ≤ b.size + 1 ∧ b.size + 1 ≤ q + k ∧ kk = .int .i64 k ∧ Hid (Row wr (wo.heap.size + 1) 118 (ft (agS (f i) z k N))) ∧ Hid (Below wo.heap.size wo wr))
      case atStart => exact ⟨0, by omega, by omega, rfl, by rw [agS_zero]; exact HR1.out, HB1.out⟩
      case round =>
        clear HR1 HB1
        obtain ⟨k, hk, hqk, rfl, HR, HB2⟩ := hrel
        obtain ⟨wi, rfl⟩ : ∃ x : World, x = wr := ⟨_, rfl⟩
        by_cases hkl : k < b.size + 1
        · have e2 : (k : Int) < (b.size : Int) + 1 := by omega
          have e3 : (0 : Int) ≤ (k : Int) := by omega
          have e4 : (0 : Int) ≤ (i : Int) := by omega
          have HV : Hid (Row wi (wo.heap.size + 1) 118 (ft (agV (f i) z k N z))) := by
            have := HR.out
            rw [agS_open (by rw [hN]; exact hkl)] at this
            exact this
          clear HR
          have HS0 : Hid (∀ (wz : World) (v : Tri) (x : Int), Row wz (wo.heap.size + 1) 118 (ft (agV (f i) z k N v)) → Row (wz.setCell ⟨wo.heap.size + 1, k * 3, none⟩ (.int .i64 x)) (wo.heap.size + 1) 118 (ft (agV (f i) z k N (x, v.2.1, v.2.2)))) := fun wz v x h => agRow_put0 h x
          have HS1 : Hid (∀ (wz : World) (v : Tri) (x : Int), Row wz (wo.heap.size + 1) 118 (ft (agV (f i) z k N v)) → Row (wz.setCell ⟨wo.heap.size + 1, k * 3 + 1, none⟩ (.int .i64 x)) (wo.heap.size + 1) 118 (ft (agV (f i) z k N (v.1, x, v.2.2)))) := fun wz v x h => agRow_put1 h x
          have HS2 : Hid (∀ (wz : World) (v : Tri) (x : Int), Row wz (wo.heap.size + 1) 118 (ft (agV (f i) z k N v)) → Row (wz.setCell ⟨wo.heap.size + 1, k * 3 + 2, none⟩ (.int .i64 x)) (wo.heap.size + 1) 118 (ft (agV (f i) z k N (v.1, v.2.1, x)))) := fun wz v x h => agRow_put2 h x
          have HGL : Hid (wo.heap.size ≤ wo.heap.size + 1) := Nat.le_succ _
          have HCL : Hid (∀ (wz : World) (v : Tri), Row wz (wo.heap.size + 1) 118 (ft (agV (f i) z k N v)) → v = f i k → Row wz (wo.heap.size + 1) 118 (ft (agS (f i) z (k + 1) N))) := fun wz v h hv => by rw [← agV_close (by rw [hN]; exact hkl) hv]; exact h
          have fr0 := HV.out.frozen (k * 3)
          have fr1 := HV.out.frozen (k * 3 + 1)
          have fr2 := HV.out.frozen (k * 3 + 2)
          obtain ⟨c0, c1, c2⟩ := agRow_at HV.out
          rcases Nat.eq_zero_or_pos i with h0 | h0
          · have z1 : ((i : Int) == 0) = true := by rw [h0]; rfl
            have z4 : decide ((0 : Int) < (i : Int)) = false := decide_eq_false (by omega)
            have z5 : (i : Int) ≤ 0 := by omega
            rcases Nat.eq_zero_or_pos k with h1 | h1
            · have z2 : ((k : Int) == 0) = true := by rw [h1]; rfl
              have z6 : decide ((0 : Int) < (k : Int)) = false := decide_eq_false (by omega)
              have z7 : (k : Int) ≤ 0 := by omega
              have HE : Hid ((0, z.2.1, z.2.2) = f i k) := by show _ = _; rw [h0, h1]; exact F00.out.symm
              clear h0 h1
              go_wp2_with fail
              go_roundg (gk - 1)
              case measure => omega
              case rel => exact ⟨k + 1, by omega, by omega, by go_num, HCL.out _ _ (HS0.out _ _ 0 HV.out) HE.out, HB2.out.setCell HGL.out _⟩
            · have z2 : ((k : Int) == 0) = false := by rw [beq_eq_false_iff_ne]; omega
              have z6 : decide ((0 : Int) < (k : Int)) = true := decide_eq_true (by omega)
              have z7 : (0 : Int) < (k : Int) := by omega
              obtain ⟨kp, hkp⟩ : ∃ j, k = j + 1 := ⟨k - 1, by omega⟩
              have e7 : IntKind.i64.wrap ((k : Int) - 1) = (kp : Int) := by rw [show (k : Int) - 1 = (kp : Int) from by omega]; exact IntWalk.i64_in _ (by omega)
              have e8 : (0 : Int) ≤ (kp : Int) := by omega
              have e9 : (kp : Int) < (b.size : Int) + 1 := by omega
              obtain ⟨p1, p2, p3⟩ := agRow_prev HV.out (show kp < k by omega)
              have bl := HBD.out i kp (by omega) (by omega)
              have hE : f i k = (z.1, z.2.1, agR o m (f i kp)) := by rw [h0, hkp]; exact F0s.out kp
              obtain ⟨⟨l1, l2, l3⟩, hl⟩ : ∃ v, v = f i kp := ⟨_, rfl⟩
              rw [← hl] at p1 p2 p3 bl hE
              simp only at p1 p2 p3 bl
              have HE : Hid (∀ x, x = max l3 (max l1 l2 - o) - m → (z.1, z.2.1, x) = f i k) := fun x hx => by rw [hE, hx]; rfl
              clear hE hl
              have HVa := HV.out.alloc (.cells #[.int .i64 l1, .int .i64 l2, .int .i64 l3] 118)
              have a2 := (agRow_at HVa).2.2
              have af2 := HVa.frozen (k * 3 + 2)
              have HVA := Lib.hid HVa; clear HVa
              have u1 : IntKind.i64.wrap (l1 - o) = l1 - o := IntWalk.i64_in _ (by omega)
              have u2 : IntKind.i64.wrap (l2 - o) = l2 - o := IntWalk.i64_in _ (by omega)
              have u3 : IntKind.i64.wrap (l3 - m) = l3 - m := IntWalk.i64_in _ (by omega)
              have u4 : IntKind.i64.wrap (l1 - o - m) = l1 - o - m := IntWalk.i64_in _ (by omega)
              have u5 : IntKind.i64.wrap (l2 - o - m) = l2 - o - m := IntWalk.i64_in _ (by omega)
              have HAB : Hid (Below wo.heap.size wo (wi.alloc (.cells #[.int .i64 l1, .int .i64 l2, .int .i64 l3] 118))) := HB2.out.alloc HB2.out.size _
              clear h0 h1 hkp
              go_wp2_with fail
              all_goals
                go_roundg (gk - 1)
                case measure => omega
                case rel => exact ⟨k + 1, by omega, by omega, by go_num, HCL.out _ _ (HS2.out _ _ _ HVA.out) (HE.out _ (by omega)), HAB.out.setCell HGL.out _⟩
          · have z1 : ((i : Int) == 0) = false := by rw [beq_eq_false_iff_ne]; omega
            have z4 : decide ((0 : Int) < (i : Int)) = true := decide_eq_true (by omega)
            have z5 : (0 : Int) < (i : Int) := by omega
            obtain ⟨ip, hip⟩ : ∃ j, i = j + 1 := ⟨i - 1, by omega⟩
            have d1 : IntKind.i64.wrap ((i : Int) - 1) = (ip : Int) := by rw [show (i : Int) - 1 = (ip : Int) from by omega]; exact IntWalk.i64_in _ (by omega)
            have d2 : (0 : Int) ≤ (ip : Int) := by omega
            have d3 : (ip : Int) < (i : Int) := by omega
            obtain ⟨gt, ct, g, cc, hv, hct, hgt, hgtl, hch, hcc, hg, hgl, hne, hcs⟩ := HT.out.at_ (agRows_get f (j := ip) (i := i) (n := b.size + 1) (by omega))
            rw [agRows_len] at hct hv
            subst hv
            have HCS : Hid (∀ (x : World), Below wo.heap.size wo x → x.cell? ⟨gt, ip, none⟩ = some (.slice (some ⟨g, 0, none⟩) (b.size + 1) cc) ∧ ∀ j, j < b.size + 1 → x.cell? ⟨g, j * 3, none⟩ = some (.int .i64 (f ip j).1) ∧ x.cell? ⟨g, j * 3 + 1, none⟩ = some (.int .i64 (f ip j).2.1) ∧ x.cell? ⟨g, j * 3 + 2, none⟩ = some (.int .i64 (f ip j).2.2)) := fun x hx => by
              refine ⟨(hx.cell (p := ⟨gt, ip, none⟩) hgtl).trans hch, fun j hj => ?_⟩
              obtain ⟨q1, q2, q3⟩ := agCell (f := f ip) hj
              exact ⟨(hx.cell (p := ⟨g, j * 3, none⟩) hgl).trans (hcs _ _ q1), (hx.cell (p := ⟨g, j * 3 + 1, none⟩) hgl).trans (hcs _ _ q2), (hx.cell (p := ⟨g, j * 3 + 2, none⟩) hgl).trans (hcs _ _ q3)⟩
            clear hcs hch hne
            rcases Nat.eq_zero_or_pos k with h1 | h1
            · have z2 : ((k : Int) == 0) = true := by rw [h1]; rfl
              have z6 : decide ((0 : Int) < (k : Int)) = false := decide_eq_false (by omega)
              have z7 : (k : Int) ≤ 0 := by omega
              obtain ⟨x0, hx0⟩ := HCS.out wi HB2.out
              obtain ⟨p1, p2, p3⟩ := hx0 k hkl
              clear hx0
              have bl := HBD.out ip k (by omega) (by omega)
              have hE : f i k = (z.1, agL o m (f ip k), z.2.2) := by rw [h1, hip]; exact Fs0.out ip
              obtain ⟨⟨l1, l2, l3⟩, hl⟩ : ∃ v, v = f ip k := ⟨_, rfl⟩
              rw [← hl] at p1 p2 p3 bl hE
              simp only at p1 p2 p3 bl
              have HE : Hid (∀ x, x = max l2 (max l1 l3 - o) - m → (z.1, x, z.2.2) = f i k) := fun x hx => by rw [hE, hx]; rfl
              clear hE hl
              have HVa := HV.out.alloc (.cells #[.int .i64 l1, .int .i64 l2, .int .i64 l3] 118)
              have a1 := (agRow_at HVa).2.1
              have af1 := HVa.frozen (k * 3 + 1)
              have HVA := Lib.hid HVa; clear HVa
              have u1 : IntKind.i64.wrap (l1 - o) = l1 - o := IntWalk.i64_in _ (by omega)
              have u2 : IntKind.i64.wrap (l3 - o) = l3 - o := IntWalk.i64_in _ (by omega)
              have u3 : IntKind.i64.wrap (l2 - m) = l2 - m := IntWalk.i64_in _ (by omega)
              have u4 : IntKind.i64.wrap (l1 - o - m) = l1 - o - m := IntWalk.i64_in _ (by omega)
              have u5 : IntKind.i64.wrap (l3 - o - m) = l3 - o - m := IntWalk.i64_in _ (by omega)
              have HAB : Hid (Below wo.heap.size wo (wi.alloc (.cells #[.int .i64 l1, .int .i64 l2, .int .i64 l3] 118))) := HB2.out.alloc HB2.out.size _
              clear h0 h1 hip
              go_wp2_with fail
              all_goals
                go_roundg (gk - 1)
                case measure => omega
                case rel => exact ⟨k + 1, by omega, by omega, by go_num, HCL.out _ _ (HS1.out _ _ _ HVA.out) (HE.out _ (by omega)), HAB.out.setCell HGL.out _⟩
            · have z2 : ((k : Int) == 0) = false := by rw [beq_eq_false_iff_ne]; omega
              have z6 : decide ((0 : Int) < (k : Int)) = true := decide_eq_true (by omega)
              have z7 : (0 : Int) < (k : Int) := by omega
              obtain ⟨kp, hkp⟩ : ∃ j, k = j + 1 := ⟨k - 1, by omega⟩
              have e7 : IntKind.i64.wrap ((k : Int) - 1) = (kp : Int) := by rw [show (k : Int) - 1 = (kp : Int) from by omega]; exact IntWalk.i64_in _ (by omega)
              have e8 : (0 : Int) ≤ (kp : Int) := by omega
              have e9 : (kp : Int) < (b.size : Int) + 1 := by omega
              have hE : f i k = (agB (f ip kp) + agG a b s d ip kp, agL o m (f ip k), agR o m (f i kp)) := by rw [hip, hkp]; exact Fss.out ip kp
              have HKP : Hid (kp < k ∧ kp < b.size + 1) := ⟨by omega, by omega⟩
              -- the pair
              have bl := HBD.out ip kp (by omega) (by omega)
              have hba := get_bt a
              have hbb := get_bt b
              have y1 : (ip : Int) < (a.size : Int) := by omega
              have y2 : (kp : Int) < (b.size : Int) := by omega
              have HIP : Hid (ip < a.size ∧ kp < b.size) := ⟨by omega, by omega⟩
              have HIB : Hid (ip ≤ a.size ∧ i ≤ a.size ∧ k ≤ b.size ∧ kp ≤ b.size) := ⟨by omega, by omega, by omega, by omega⟩
              obtain ⟨x0, hx0⟩ := HCS.out wi.drew (Below.drew HB2.out)
              obtain ⟨p1, p2, p3⟩ := hx0 kp HKP.out.2
              clear hx0
              obtain ⟨⟨l1, l2, l3⟩, hl⟩ : ∃ v, v = f ip kp := ⟨_, rfl⟩
              rw [← hl] at p1 p2 p3 bl hE
              simp only at p1 p2 p3 bl
              have hpg : agG a b s d ip kp = pg (bt a ip) (bt b kp) s d := rfl
              have bpg := pg_bd (x := bt a ip) (y := bt b kp) hs hd
              obtain ⟨G, hG⟩ : ∃ G, G = pg (bt a ip) (bt b kp) s d := ⟨_, rfl⟩
              obtain ⟨M, hM⟩ : ∃ M, M = agB (l1, l2, l3) := ⟨_, rfl⟩
              have bM : -3000000000000 ≤ M ∧ M ≤ 1000000 := by rw [hM]; unfold agB; simp only; omega
              rw [hpg, ← hG, ← hM] at hE
              rw [← hG] at bpg
              have v1 : IntKind.i64.wrap (M + G) = M + G := IntWalk.i64_in _ (by omega)
              have CB := fun (wz : World) => iBest_any (l1, l2, l3) wz
              have CP := fun (wz : World) => (iPair_any (bt a ip) (bt b kp) s d hd wz).mono fun e w' (h : _ ∧ _) => (⟨h.1, h.2.symm⟩ : _ ∧ wz = w')
              rw [← hM] at CB
              rw [← hG] at CP
              have HE := Lib.hid hE
              have HL : Hid (f ip kp = (l1, l2, l3)) := hl.symm
              clear hE hl hG hM h0 h1 hip hkp hpg
              go_upto_region 14 with fail
              have hfrom : wi.drew.cell? ⟨gt, ip, none⟩ = some (.slice (some ⟨g, 0, none⟩) (b.size + 1) cc) ∧ wi.drew.cell? ⟨g, kp * 3, none⟩ = some (.int .i64 l1) ∧ wi.drew.cell? ⟨g, kp * 3 + 1, none⟩ = some (.int .i64 l2) ∧ wi.drew.cell? ⟨g, kp * 3 + 2, none⟩ = some (.int .i64 l3) := ⟨x0, p1, p2, p3⟩
              clear x0 p1 p2 p3
              have HCS0 : Hid (∀ x : World, Below wo.heap.size wo x → (x.cell? ⟨gt, ip, none⟩ = some (.slice (some ⟨g, 0, none⟩) (b.size + 1) cc) ∧ x.cell? ⟨g, kp * 3, none⟩ = some (.int .i64 l1) ∧ x.cell? ⟨g, kp * 3 + 1, none⟩ = some (.int .i64 l2) ∧ x.cell? ⟨g, kp * 3 + 2, none⟩ = some (.int .i64 l3))) := fun x hx => by
                obtain ⟨q0, q1⟩ := HCS.out x hx
                obtain ⟨q2, q3, q4⟩ := q1 kp HKP.out.2
                rw [HL.out] at q2 q3 q4
                exact ⟨q0, q2, q3, q4⟩
              go_cut [52] from 52 to 146 (fun kk wx => kk = .int .i64 k ∧ Hid (Row wx (wo.heap.size + 1) 118 (ft (agV (f i) z k N (M + G, z.2.1, z.2.2)))) ∧ Hid (Below wo.heap.size wo wx))
              case first =>
                go_region_held3 (fun x => x.cell? ⟨gt, ip, none⟩ = some (.slice (some ⟨g, 0, none⟩) (b.size + 1) cc) ∧ x.cell? ⟨g, kp * 3, none⟩ = some (.int .i64 l1) ∧ x.cell? ⟨g, kp * 3 + 1, none⟩ = some (.int .i64 l2) ∧ x.cell? ⟨g, kp * 3 + 2, none⟩ = some (.int .i64 l3)) (first | assumption | exact HKS.out _ | go_keep)
                  (first
                    | (go_at_call 88; refine (CB _).mono ?_; rintro e wy ⟨rfl, hby⟩; have HBy : Hid (Below wi.heap.size wi wy) := ((Below.drew (Below.refl wi.heap.size wi)).trans hby); have HBo := Lib.hid (HB2.out.trans (HBy.out.mono HB2.out.size)); have hky := HCS0.out wy HBo.out; have HKS := Lib.hid (fun (u : Value) => HCS0.out (wy.setCell ⟨wo.heap.size + 1, k * 3, none⟩ u) (HBo.out.setCell HGL.out u)); have HRy := Lib.hid (HV.out.below HBy.out HV.out.lt); have c0y := (agRow_at HRy.out).1; have fr0y := HRy.out.frozen (k * 3); clear hby)
                    | (go_at_call 89; refine (CP _).mono ?_; rintro e wq ⟨rfl, hq⟩; subst hq))
                all_goals
                  go_wp2_with fail
                  go_meet
                  exact ⟨rfl, HS0.out wy _ (M + G) HRy.out, HBo.out.setCell HGL.out _⟩
              case rest =>
              obtain ⟨rfl, HW1, HB4⟩ := hcut
              obtain ⟨wp, rfl⟩ : ∃ x : World, x = wc := ⟨_, rfl⟩
              clear hfrom CB CP c0 c1 c2 fr0 fr1 fr2 HCS0 HL bl bpg bM v1
              -- the one above
              have bl := HBD.out ip k HIB.out.1 HIB.out.2.2.1
              obtain ⟨x0, hx0⟩ := HCS.out wp HB4.out
              obtain ⟨p1, p2, p3⟩ := hx0 k hkl
              clear hx0
              obtain ⟨A, hA⟩ : ∃ A, A = agL o m (f ip k) := ⟨_, rfl⟩
              obtain ⟨⟨l1, l2, l3⟩, hl⟩ : ∃ v, v = f ip k := ⟨_, rfl⟩
              rw [← hl] at p1 p2 p3 bl hA
              simp only at p1 p2 p3 bl
              have HAA : Hid (∀ (wz : World) (x : Int), x = max l2 (max l1 l3 - o) - m → Row wz (wo.heap.size + 1) 118 (ft (agV (f i) z k N (M + G, x, z.2.2))) → Row wz (wo.heap.size + 1) 118 (ft (agV (f i) z k N (M + G, A, z.2.2)))) := fun wz x hx h => by rw [show A = x from by rw [hA, hx]; rfl]; exact h
              have HE2 : Hid (f i k = (M + G, A, agR o m (f i kp))) := by show _ = _; rw [HE.out, hA, hl]
              clear hA hl
              have HVa := HW1.out.alloc (.cells #[.int .i64 l1, .int .i64 l2, .int .i64 l3] 118)
              have a1 := (agRow_at HVa).2.1
              have af1 := HVa.frozen (k * 3 + 1)
              have HVA := Lib.hid HVa; clear HVa
              have u1 : IntKind.i64.wrap (l1 - o) = l1 - o := IntWalk.i64_in _ (by omega)
              have u2 : IntKind.i64.wrap (l3 - o) = l3 - o := IntWalk.i64_in _ (by omega)
              have u3 : IntKind.i64.wrap (l2 - m) = l2 - m := IntWalk.i64_in _ (by omega)
              have u4 : IntKind.i64.wrap (l1 - o - m) = l1 - o - m := IntWalk.i64_in _ (by omega)
              have u5 : IntKind.i64.wrap (l3 - o - m) = l3 - o - m := IntWalk.i64_in _ (by omega)
              have HAB : Hid (Below wo.heap.size wo (wp.alloc (.cells #[.int .i64 l1, .int .i64 l2, .int .i64 l3] 118))) := HB4.out.alloc HB4.out.size _
              go_upto_region 17 with fail
              go_cut [52] from 52 to 146 (fun kk wx => kk = .int .i64 k ∧ Hid (Row wx (wo.heap.size + 1) 118 (ft (agV (f i) z k N (M + G, A, z.2.2)))) ∧ Hid (Below wo.heap.size wo wx))
              case first =>
                go_wp2_with fail
                all_goals
                  go_meet
                  exact ⟨rfl, by refine HAA.out _ _ ?_ (HS1.out _ _ _ HVA.out); omega, HAB.out.setCell HGL.out _⟩
              case rest =>
              obtain ⟨rfl, HV3, HB5⟩ := hcut
              clear x0 p1 p2 p3 a1 af1 HVA HAB u1 u2 u3 u4 u5 bl HAA
              obtain ⟨wk, rfl⟩ : ∃ x : World, x = wc := ⟨_, rfl⟩
              obtain ⟨p1, p2, p3⟩ := agRow_prev HV3.out HKP.out.1
              have bl := HBD.out i kp HIB.out.2.1 HIB.out.2.2.2
              obtain ⟨⟨l1, l2, l3⟩, hl⟩ : ∃ v, v = f i kp := ⟨_, rfl⟩
              have hE := HE2.out
              rw [← hl] at p1 p2 p3 bl hE
              simp only at p1 p2 p3 bl
              have HE3 : Hid (∀ x, x = max l3 (max l1 l2 - o) - m → (M + G, A, x) = f i k) := fun x hx => by rw [hE, hx]; rfl
              clear hE hl
              have HVa := HV3.out.alloc (.cells #[.int .i64 l1, .int .i64 l2, .int .i64 l3] 118)
              have a2 := (agRow_at HVa).2.2
              have af2 := HVa.frozen (k * 3 + 2)
              have HVA := Lib.hid HVa; clear HVa
              have u1 : IntKind.i64.wrap (l1 - o) = l1 - o := IntWalk.i64_in _ (by omega)
              have u2 : IntKind.i64.wrap (l2 - o) = l2 - o := IntWalk.i64_in _ (by omega)
              have u3 : IntKind.i64.wrap (l3 - m) = l3 - m := IntWalk.i64_in _ (by omega)
              have u4 : IntKind.i64.wrap (l1 - o - m) = l1 - o - m := IntWalk.i64_in _ (by omega)
              have u5 : IntKind.i64.wrap (l2 - o - m) = l2 - o - m := IntWalk.i64_in _ (by omega)
              have HAB : Hid (Below wo.heap.size wo (wk.alloc (.cells #[.int .i64 l1, .int .i64 l2, .int .i64 l3] 118))) := HB5.out.alloc HB5.out.size _
              go_wp2_with fail
              all_goals
                go_roundg (gk - 1)
                case measure => omega
                case rel => exact ⟨k + 1, by omega, by omega, by go_num, HCL.out _ _ (HS2.out _ _ _ HVA.out) (HE3.out _ (by omega)), HAB.out.setCell HGL.out _⟩
        · have hkk : k = b.size + 1 := by omega
          have e2 : (b.size : Int) + 1 ≤ (k : Int) := by omega
          have HROW : Hid (Row wi (wo.heap.size + 1) 118 (ft ((List.range (b.size + 1)).map (f i)))) := by
            have := HR.out
            rw [hkk, hN, agS_full] at this
            exact this
          have HCELL : Hid (∀ (k : Nat) (x : Value), (ft ((List.range (b.size + 1)).map (f i)))[k]? = some x → wi.cell? ⟨wo.heap.size + 1, k, none⟩ = some x) := fun k x hx => (HROW.out.cell k).trans hx
          have HNE : Hid (u14.ownBlock ≠ some (wo.heap.size + 1)) := fun e => by have := (hTB.out _ e).2; omega
          have hll : wo.heap.size + 1 < wi.heap.size := HROW.out.lt
          clear hkk HR
          have HTW := Lib.hid (HT.out.keep HB2.out (Nat.le_refl _))
          go_wp2_with (at_builtin; go_loud (refine wpList_tabV_push wi rfl (.tmp 147) (.tmp 149) _ rfl (w.heap.size + 1) 115 Try.underlying114 infoTS u14 (agRows f i (b.size + 1)) (b.size + 1) rfl HTW.out (wo.heap.size + 1) (b.size + 1) (ft ((List.range (b.size + 1)).map (f i))) rfl (by omega) hll HNE.out (Nat.le_refl _) HCELL.out (by rw [agRows_len]; omega) (by omega) ?_); intro g' cap w' htab' hgr hbl hat; clear hgr hat)
          rw [agRows_len] at htab' ⊢
          rw [← agRows_succ] at htab'
          have HT2 := Lib.hid htab'
          have HB6 : Hid (Below w.heap.size w w') := (HB.out.trans (HB2.out.mono HB.out.size)).trans (hbl.mono (by omega))
          clear htab' hbl
          go_roundg (go - 1)
          case measure => omega
          case rel => exact ⟨i + 1, by omega, by omega, by go_num, HT2.out, HB6.out⟩
    · have hii : i = a.size + 1 := by omega
      have e1 : (a.size : Int) + 1 ≤ (i : Int) := by omega
      obtain ⟨gt, ct, g, cc, hv, hct, hgt, hgtl, hch, hcc, hg, hgl, hne, hcs⟩ := HT.out.at_ (agRows_get f (j := a.size) (i := i) (n := b.size + 1) (by omega))
      rw [agRows_len] at hct hv
      rw [hii] at hv
      subst hv
      obtain ⟨q1, q2, q3⟩ := agCell (f := f a.size) (Nat.lt_succ_self b.size)
      have p1 := hcs _ _ q1; have p2 := hcs _ _ q2; have p3 := hcs _ _ q3
      obtain ⟨⟨l1, l2, l3⟩, hl⟩ : ∃ v, v = f a.size b.size := ⟨_, rfl⟩
      have HLF := Lib.hid hl
      rw [← hl] at p1 p2 p3
      simp only at p1 p2 p3
      clear hcs hl q1 q2 q3 hii
      go_wp2_with (go_at_call 88; refine (iBest_any (l1, l2, l3) _).mono ?_; rintro e w1 ⟨rfl, hb1⟩; have HB1 := Lib.hid hb1; clear hb1)
      go_ret2
      exact ⟨by rw [← HLF.out]; rfl, HB.out.trans (HB1.out.mono HB.out.size)⟩
end Go.Proofs.Ytkfmjnefbimecaa
