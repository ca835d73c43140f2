/- FitLetters of the reference: its tests, sums of counts, a row divided by its sum. -/
import Derived.Test.YtkfmjnefbimecaaFiD
import Derived.Deep.RegionHeld3
namespace Go.Proofs.Ytkfmjnefbimecaa
open Go.RowKit
set_option linter.unusedVariables false
set_option maxRecDepth 100000 in
set_option maxHeartbeats 4000000 in
theorem sWords_any (g : Nat) (S T : Int) (P Q R : List F32) (A2 : Option Addr) (n2 c2 : Nat) (A3 : Option Addr) (n3 c3 : Nat) (A4 : Option Addr) (n4 c4 : Nat) (A : Option Addr) (n c : Nat) (ws : List (List Int)) (w : World) (hr : Row w g 48 [.int .i64 S, .int .i64 T, .slice A2 n2 c2, .slice A3 n3 c3, .slice A4 n4 c4]) (h2 : SlF w w.heap.size A2 n2 P) (h3 : SlF w w.heap.size A3 n3 Q) (h4 : SlF w w.heap.size A4 n4 R) (hcap : capOk (.agg #[.int .i64 S, .int .i64 T, .slice A2 n2 c2, .slice A3 n3 c3, .slice A4 n4 c4])) (hw : SlL w w.heap.size A n ws) (hn : n ≤ 1048576) (hm : ∀ r ∈ ws, r.length ≤ 1048576) :
    Calls Try.prog 64 #[.pointer (some ⟨g, 0, none⟩), .slice A n c] w fun e w' => e = .returned (.bool (hwB S T P Q R ws)) ∧ Below w.heap.size w w' := by
  have hl := hw.len
  obtain ⟨S_, T_, A2_, n2_, c2_, A3_, n3_, c3_, A4_, n4_, c4_, e, k2, k2', k3, k3', k4, k4'⟩ := hcap
  simp only [Value.agg.injEq, Array.mk.injEq, List.cons.injEq, Value.slice.injEq, and_true] at e
  obtain ⟨-, -, ⟨-, e2, e3⟩, ⟨-, e4, e5⟩, ⟨-, e6, e7⟩⟩ := e
  subst e2 e3 e4 e5 e6 e7
  have hI := sIsM_any g S T P Q R A2 n2 c2 A3 n3 c3 A4 n4 c4 w.heap.size w hr h2 h3 h4 k2 k2' k3 k3' k4 k4'
  have HR := Lib.hid hr; have HW := Lib.hid hw; have HM := Lib.hid hm; have HI := Lib.hid hI
  have HD : Hid (hwB S T P Q R ws = (vdM S T P Q R && decide (1 ≤ n) && decide (n ≤ 16) && ws.all (fun xs => wordB xs T))) := by show _ = _; rw [← hl]; rfl
  have HL := Lib.hid hl
  clear hr h2 h3 h4 k2 k2' k3 k3' k4 k4' hw hm hI hl
  go_enter Try.func64, Try.ntmps64
  go_wp2_with fail
  refine HI.out.mono ?_
  rintro e w1 ⟨rfl, q, hw1⟩
  have HB1 : Hid (Below w.heap.size w w1) := by show Below _ _ _; rw [hw1]; exact below_draws (Below.refl _ _) q
  clear hw1 HI
  obtain ⟨ok, hok⟩ : ∃ b, b = vdM S T P Q R := ⟨_, rfl⟩
  rw [← hok] at HD ⊢
  have HOK := Lib.hid hok; clear hok
  cases ok with
  | false =>
    go_wp2_with fail
    go_ret
    exact ⟨by rw [HD.out]; rfl, HB1.out⟩
  | true =>
    have hT : 1 ≤ T ∧ T ≤ 4 := by
      have := HOK.out.symm
      simp only [vdM, Bool.and_eq_true] at this
      exact inB_true this.2.1
    have HT := Lib.hid hT
    clear hT
    by_cases h1 : 1 ≤ n
    · by_cases h16 : n ≤ 16
      · have g1 : ¬ (n : Int) < 1 := by omega
        have g2 : ¬ (16 : Int) < (n : Int) := by omega
        have g3 : (1 : Int) ≤ (n : Int) := by omega
        have g4 : (n : Int) ≤ 16 := by omega
        rw [decide_eq_true h1, decide_eq_true h16, Bool.true_and, Bool.true_and, Bool.true_and] at HD
        have HN16 : Hid (n ≤ 16) := h16
        clear h1 h16
        go_wp2_with fail
        clear g1 g2 g3 g4
        go_loopg [5, 21] n (fun q u5 i wr => ∃ k : Nat, i = .int .i64 (k : Int) ∧ k ≤ n ∧ n ≤ q + k ∧ Hid ((ws.take k).all (fun xs => wordB xs T) = true) ∧ Hid (Below w.heap.size w wr))
        case atStart => exact ⟨0, by go_num, by omega, by omega, by show _ = _; simp, HB1.out⟩
        case round =>
          obtain ⟨k, rfl, hk, hq, HA, HB⟩ := hrel
          obtain ⟨wo, rfl⟩ : ∃ x : World, x = wr := ⟨_, rfl⟩
          by_cases hlt : k < n
          · obtain ⟨b, off, A', c', x, rfl, hbB, hx, hc, hxs, hxm⟩ := (HW.out.below HB.out (Nat.le_refl _)).at_ hlt
            have l0 : (0 : Int) ≤ (k : Int) := by omega
            have l1 : (k : Int) < (n : Int) := by omega
            have lw : IntKind.i64.wrap ((k : Int) + 1) = (k : Int) + 1 := IntWalk.i64_in _ (by omega)
            have HXS := Lib.hid hxs.out; have HX := Lib.hid hx.out
            have hb1 := HR.out.below HB.out HR.out.lt
            have hcel : Hid (∀ x' : World, Below wo.heap.size wo x' → (Below wo.heap.size wo x' ∧ x'.cell? ⟨g, 1, none⟩ = some (.int .i64 T) ∧ x'.cell? ⟨b, off + k, none⟩ = some (.slice A' x.length c'))) := fun x' h => ⟨h, (hb1.below h hb1.lt).cell 1, (h.cell (p := ⟨b, off + k, none⟩) (World.block_lt_of_cell? _ _ hc)).trans hc⟩
            have hkeep : Hid (∀ x' y : World, Below wo.heap.size wo x' → Below x'.heap.size x' y → (Below wo.heap.size wo y ∧ y.cell? ⟨g, 1, none⟩ = some (.int .i64 T) ∧ y.cell? ⟨b, off + k, none⟩ = some (.slice A' x.length c'))) := fun x' y h1 h2 => hcel.out y (h1.trans (h2.mono h1.size))
            have hWC : Hid (∀ x' : World, Below wo.heap.size wo x' → Calls Try.prog 110 #[.slice A' x.length c', .int .i64 T] x' fun e y => e = .returned (.bool (wordB x T)) ∧ Below x'.heap.size x' y) := fun x' h => sWord_any A' x.length c' x T x' ((HXS.out.below h HB.out.size).more (Nat.le_trans HB.out.size h.size)) (by have := HM.out x (List.mem_of_getElem? HX.out); omega) HT.out
            have hfrom := hcel.out wo.drew (Below.drew (Below.refl _ _))
            clear hx hxs hxm hb1 hc
            go_wp2_with fail
            go_region_held3 (fun x' => Below wo.heap.size wo x' ∧ x'.cell? ⟨g, 1, none⟩ = some (.int .i64 T) ∧ x'.cell? ⟨b, off + k, none⟩ = some (.slice A' x.length c')) (first | (with_reducible assumption) | go_keep)
              (first | (go_at_call 110; refine (hWC.out _ (by first | (with_reducible assumption) | (with_reducible (apply And.left; assumption)))).mono ?_; rintro e y1 ⟨rfl, hb1⟩; have s1 := (fun h => hkeep.out _ _ h hb1) (by first | (with_reducible assumption) | (with_reducible (apply And.left; assumption)))))
            have HB2 := Lib.hid (HB.out.trans (s1.1.mono HB.out.size))
            clear s1 hb1 hfrom hcel hkeep hWC
            obtain ⟨v, hv⟩ : ∃ b, b = wordB x T := ⟨_, rfl⟩
            rw [← hv]
            have HV := Lib.hid hv; clear hv
            cases v with
            | false =>
              go_wp2_with fail
              go_ret
              exact ⟨by rw [HD.out, allW_no (f := fun xs => wordB xs T) HX.out HV.out.symm]; rfl, HB2.out⟩
            | true =>
              go_wp2_with fail
              go_roundg (gk - 1)
              case measure => omega
              case rel => exact ⟨k + 1, by go_num, by omega, by omega, allW_take HX.out HA.out HV.out.symm, HB2.out⟩
          · have hkn : k = n := by omega
            have l1 : ¬ (k : Int) < (n : Int) := by omega
            have HAL : Hid (ws.all (fun xs => wordB xs T) = true) := by
              have := HA.out
              rw [hkn, ← HL.out, List.take_length] at this
              exact this
            clear hkn hlt
            go_wp2_with fail
            go_ret
            exact ⟨by rw [HD.out, HAL.out]; rfl, HB.out⟩
      · have g1 : ¬ (n : Int) < 1 := by omega
        have g2 : (16 : Int) < (n : Int) := by omega
        have g3 : (1 : Int) ≤ (n : Int) := by omega
        rw [decide_eq_true h1, decide_eq_false h16] at HD
        clear h1 h16
        go_wp2_with fail
        go_ret
        exact ⟨by rw [HD.out]; rfl, HB1.out⟩
    · have g1 : (n : Int) < 1 := by omega
      rw [decide_eq_false h1] at HD
      clear h1
      go_wp2_with fail
      go_ret
      exact ⟨by rw [HD.out]; rfl, HB1.out⟩
set_option maxRecDepth 100000 in
set_option maxHeartbeats 4000000 in
theorem sStates_any (g : Nat) (S T : Int) (A2 : Option Addr) (n2 c2 : Nat) (A3 : Option Addr) (n3 c3 : Nat) (A4 : Option Addr) (n4 c4 : Nat) (A : Option Addr) (n c : Nat) (word : List Int) (A' : Option Addr) (n' c' : Nat) (way : List Int) (w : World) (hr : Row w g 48 [.int .i64 S, .int .i64 T, .slice A2 n2 c2, .slice A3 n3 c3, .slice A4 n4 c4]) (hS : 1 ≤ S ∧ S ≤ 5) (h : SlI w w.heap.size A n word) (h' : SlI w w.heap.size A' n' way) (hn : n ≤ 1048576) (hn' : n' ≤ 1048576) :
    Calls Try.prog 65 #[.pointer (some ⟨g, 0, none⟩), .slice A n c, .slice A' n' c'] w fun e w' => e = .returned (.bool (hidA S word way)) ∧ Below w.heap.size w w' := by
  have hl := h.len; have hl' := h'.len
  have HR := Lib.hid hr; have H' := Lib.hid h'
  have HD : Hid (hidA S word way = (decide (n' = n + 1) && allIn way 0 (S - 1))) := by show _ = _; rw [← hl, ← hl']; rfl
  have HL := Lib.hid hl'
  have ew : IntKind.i64.wrap (S - 1) = S - 1 := IntWalk.i64_in _ (by omega)
  have ew2 : IntKind.i64.wrap ((n : Int) + 1) = (n : Int) + 1 := IntWalk.i64_in _ (by omega)
  have HIN : Hid (∀ (v : Int) (x : World), Calls Try.prog 111 #[.int .i64 v, .int .i64 0, .int .i64 (S - 1)] x fun e y => e = .returned (.bool (inB v 0 (S - 1))) ∧ x = y) := fun v x => sIn_any v 0 (S - 1) x
  have HWR : Hid (Value.int .i64 (IntKind.i64.wrap (S - 1)) = .int .i64 (S - 1)) := by show _ = _; rw [ew]
  clear hr h h' hl hl' hS
  go_enter Try.func65, Try.ntmps65
  go_wp2_with fail
  go_loopg [7, 10] n' (fun q u7 i wr => ∃ k : Nat, i = .int .i64 (k : Int) ∧ k ≤ n' ∧ n' ≤ q + k ∧ Hid (allIn (way.take k) 0 (S - 1) = true) ∧ Hid (Below w.heap.size w wr))
  case atStart => exact ⟨0, by go_num, by omega, by omega, by show _ = _; simp [allIn], Below.refl _ _⟩
  case round =>
    obtain ⟨k, rfl, hk, hq, HA, HB⟩ := hrel
    obtain ⟨wo, rfl⟩ : ∃ x : World, x = wr := ⟨_, rfl⟩
    by_cases hlt : k < n'
    · obtain ⟨b, off, v, rfl, _, hv, kc⟩ := (H'.out.below HB.out (Nat.le_refl _)).at_ hlt
      have l0 : (0 : Int) ≤ (k : Int) := by omega
      have l1 : (k : Int) < (n' : Int) := by omega
      have lw : IntKind.i64.wrap ((k : Int) + 1) = (k : Int) + 1 := IntWalk.i64_in _ (by omega)
      have k0 := (HR.out.below HB.out HR.out.lt).cell 0
      have hfrom : wo.drew.cell? ⟨g, 0, none⟩ = some (.int .i64 S) ∧ wo.drew.cell? ⟨b, off + k, none⟩ = some (.int .i64 v) := ⟨k0, kc⟩
      have HV := Lib.hid hv.out
      clear hv k0 kc
      go_wp2_with fail
      go_region_held3 (fun x => x.cell? ⟨g, 0, none⟩ = some (.int .i64 S) ∧ x.cell? ⟨b, off + k, none⟩ = some (.int .i64 v)) (first | (with_reducible assumption) | go_keep)
        (first | (go_at_call 111; (try rw [HWR.out]); refine (HIN.out v _).mono ?_; rintro e y ⟨rfl, hy⟩; obtain rfl := hy))
      have HB2 : Hid (Below w.heap.size w wo.drew) := Below.drew HB.out
      obtain ⟨t, ht⟩ : ∃ b, b = inB v 0 (S - 1) := ⟨_, rfl⟩
      rw [← ht]
      have HT := Lib.hid ht; clear ht
      cases t with
      | false =>
        go_wp2_with fail
        go_ret
        refine ⟨?_, HB2.out⟩
        rw [HD.out, show allIn way 0 (S - 1) = false from allW_no (f := fun x => inB x 0 (S - 1)) HV.out HT.out.symm, Bool.and_false]; rfl
      | true =>
        go_wp2_with fail
        go_roundg (gk - 1)
        case measure => omega
        case rel => exact ⟨k + 1, by go_num, by omega, by omega, allW_take (f := fun x => inB x 0 (S - 1)) HV.out HA.out HT.out.symm, HB2.out⟩
    · have hkn : k = n' := by omega
      have l1 : ¬ (k : Int) < (n' : Int) := by omega
      have HAL : Hid (allIn way 0 (S - 1) = true) := by
        have := HA.out
        rw [hkn, ← HL.out, List.take_length] at this
        exact this
      clear hkn hlt
      by_cases hnn : n' = n + 1
      · subst hnn
        go_wp2_with fail
        go_ret
        exact ⟨by rw [HD.out, HAL.out]; first | rfl | (simp; done) | (simp; rfl), HB.out⟩
      · have hne : ((n' : Int) == (n : Int) + 1) = false := beq_false_of_ne (by omega)
        have HNN := Lib.hid hnn
        clear hnn
        go_wp2_with fail
        go_ret
        exact ⟨by rw [HD.out, decide_eq_false HNN.out]; rfl, HB.out⟩
set_option maxHeartbeats 1000000 in
theorem sSum3_any (A : Option Addr) (n c : Nat) (xs : List F32) (w : World) (B : Nat) (h : SlF w B A n xs) (hx : ∀ x ∈ xs, NN x.b) (hn : n ≤ 4294967296) :
    Calls Try.prog 131 #[.slice A n c] w fun e w' => e = .returned (.float .f32 (fsum xs).b) ∧ w = w' := by
  have hl := Lib.hid h.len
  have H := Lib.hid h; clear h
  have HX := Lib.hid hx; clear hx
  go_enter Try.func131, Try.ntmps131
  go_wp2_with fail
  go_loopg [3, 4, 7] n (fun m s u i wr => ∃ k : Nat, i = .int .i64 k ∧ k ≤ n ∧ n ≤ m + k ∧ s = .float .f32 (fsum (xs.take k)).b ∧ wr = w)
  case atStart => exact ⟨0, rfl, by omega, by omega, rfl, rfl⟩
  case round =>
    obtain ⟨k, rfl, hk, hm, rfl, rfl⟩ := hrel
    by_cases hlt : k < n
    · obtain ⟨b, off, x, rfl, hbB, hx, hc⟩ := H.out.at_ hlt
      obtain ⟨z, hz⟩ : ∃ z, z = fop .add (fsum (xs.take k)) x := ⟨_, rfl⟩
      have hop := add_law (NN_take HX.out k) (HX.out x (List.mem_of_getElem? hx.out)) hz Try.prog
      have HZ : Hid (fsum (xs.take (k + 1)) = z) := by show _ = _; rw [fsum_take hx.out, hz]
      clear hz
      have l0 : (0 : Int) ≤ (k : Int) := by omega
      have l1 : (k : Int) < (n : Int) := by omega
      go_wp2_with fail
      go_roundg (gk - 1)
      case measure => omega
      case rel => exact ⟨k + 1, by go_num, by omega, by omega, by rw [HZ.out], rfl⟩
    · obtain rfl : n = k := by omega
      go_wp2_with fail
      go_ret
      rw [take_all hl.out]
      exact ⟨rfl, rfl⟩
set_option maxRecDepth 100000 in
set_option maxHeartbeats 4000000 in
theorem sFill_any (A : Option Addr) (n c : Nat) (cs : List F32) (A' : Option Addr) (c' : Nat) (old : List F32) (w : World) (h : SlF w w.heap.size A n cs) (h' : SlF w w.heap.size A' n old) (hc : Cnt 300 cs) (hn : n ≤ 1000) :
    Calls Try.prog 112 #[.slice A n c, .slice A' n c'] w fun e w' => ∃ B d, e = .returned (.slice B n d) ∧ SlF w' w'.heap.size B n (dvR cs old) ∧ Below w.heap.size w w' := by
  have hl := h.len
  have H := Lib.hid h; have H' := Lib.hid h'; have HC := Lib.hid hc; have HL := Lib.hid hl
  obtain ⟨s, hs⟩ : ∃ s, s = fsum cs := ⟨_, rfl⟩
  have hsum := sSum3_any A n c cs w w.heap.size h hc.NN (by omega)
  rw [← hs] at hsum
  have HS := Lib.hid hs
  clear h h' hc hl hs
  go_enter Try.func112, Try.ntmps112
  go_wp2_with fail
  refine hsum.mono ?_
  rintro e w1 ⟨rfl, hw1⟩
  obtain rfl := hw1
  clear hsum
  obtain ⟨gq, hg⟩ : ∃ g, ((FloatKind.format .f32).order s.b 0 == some .gt) = g := ⟨_, rfl⟩
  have HGQ : Hid (gtF0 s = gq) := hg
  cases gq with
  | false =>
    go_wp2_with fail
    go_ret
    refine ⟨A', c', rfl, ?_, Below.refl _ _⟩
    unfold dvR
    rw [← HS.out, if_neg (by rw [HGQ.out]; decide)]
    exact H'.out
  | true =>
    have HM : Hid ((w.alloc (.cells #[] 94)).ownsRow w.heap.size 94 1 (.slice (some ⟨w.heap.size, 0, none⟩) 0 0) 0 []) := World.ownsRow_made w #[] 0 (Nat.le_refl _) (by unfold maxLen; omega) rfl
    have HB0 : Hid (Below w.heap.size w (w.alloc (.cells #[] 94))) := (Below.refl _ _).alloc (Nat.le_refl _) _
    go_wp2_with fail
    clear hg
    go_loopg [6, 7, 17] n (fun q o u7 i wr => ∃ (k : Nat) (B : Option Addr) (d : Nat), i = .int .i64 (k : Int) ∧ k ≤ n ∧ n ≤ q + k ∧ o = .slice B k d ∧ Hid (wr.ownsRow w.heap.size 94 1 (.slice B k d) k (fv ((cs.take k).map fun x => fop .quo x s))) ∧ Hid (Below w.heap.size w wr))
    case atStart => exact ⟨0, _, _, by go_num, by omega, by omega, rfl, HM.out, HB0.out⟩
    case round =>
      obtain ⟨k, B, d, rfl, hk, hq, rfl, HO, HB⟩ := hrel
      obtain ⟨wo, rfl⟩ : ∃ x : World, x = wr := ⟨_, rfl⟩
      by_cases hlt : k < n
      · obtain ⟨b, off, x, rfl, hbB, hx, kc⟩ := (H.out.below HB.out (Nat.le_refl _)).at_ hlt
        obtain ⟨z, hz⟩ : ∃ z, z = fop .quo x s := ⟨_, rfl⟩
        have hop := quo_law (HC.out.num x (List.mem_of_getElem? hx.out)) HGQ.out hz Try.prog
        have HST : Hid ((cs.take (k + 1)).map (fun x => fop .quo x s) = (cs.take k).map (fun x => fop .quo x s) ++ [z]) := by
          show _ = _
          obtain ⟨h3, e3⟩ := List.getElem?_eq_some_iff.1 hx.out
          rw [List.take_succ_eq_append_getElem h3, e3, List.map_append, hz]; rfl
        have l0 : (0 : Int) ≤ (k : Int) := by omega
        have l1 : (k : Int) < (n : Int) := by omega
        have lw : IntKind.i64.wrap ((k : Int) + 1) = (k : Int) + 1 := IntWalk.i64_in _ (by omega)
        have HNA : Hid (∀ j' u, (fv [z])[j']? = some u → (wo.alloc (.cells (fv [z]).toArray 94)).cell? ⟨wo.heap.size, 0 + j', none⟩ = some u) := fun j' u hu => by rw [Nat.zero_add]; exact ((Row.new wo 94 (fv [z])).cell j').trans hu
        have HOA := Lib.hid (World.ownsRow.alloc HO.out (.cells (fv [z]).toArray 94))
        have HBA : Hid (Below w.heap.size w (wo.alloc (.cells (fv [z]).toArray 94))) := HB.out.alloc HB.out.size _
        clear hz hx
        go_wp2_with (first | (at_builtin; refine wpList_cells_push (w0 := wo.alloc (.cells (fv [z]).toArray 94)) rfl (.tmp 20) (.tmp 27) _ rfl w.heap.size 94 (.float .f32 0) 1 4 Try.underlying42 infoF32 rfl (by omega) (by omega) (.slice B k d) k (fv ((cs.take k).map fun x => fop .quo x s)) rfl HOA.out wo.heap.size 0 1 1 (fv [z]) rfl rfl HNA.out (fv_oneF [z]) (by omega) HBA.out.size ?_; intro v' w' hown hgr hat; obtain ⟨D, f, hv', _, _⟩ := own_form hown; subst hv'; have HG := Lib.hid (HBA.out.trans (grown_below' HOA.out hgr HBA.out.size)); have HOW := Lib.hid hown; clear hgr hown hat))
        go_roundg (gk - 1)
        case measure => omega
        case rel =>
          refine ⟨k + 1, D, f, by go_num, by omega, by omega, rfl, ?_, HG.out⟩
          show World.ownsRow _ _ _ _ _ _ _
          rw [HST.out, fv_append]
          exact HOW.out
      · have hkn : k = n := by omega
        have l1 : ¬ (k : Int) < (n : Int) := by omega
        subst hkn
        clear hlt
        go_wp2_with fail
        go_ret
        first | refine ⟨B, ⟨d, rfl⟩, ?_, HB.out⟩ | refine ⟨B, d, rfl, ?_, HB.out⟩
        have hd : dvR cs old = (cs.take k).map fun x => fop .quo x s := by
          unfold dvR
          rw [← HS.out, if_pos HGQ.out, ← HL.out, List.take_length]
        rw [hd]
        exact own_sl HO.out
end Go.Proofs.Ytkfmjnefbimecaa
