/- ChangeAll of both programs: the whole. -/
import Derived.Test.YtcmnhnapnnpbdaaCa
namespace Go.Proofs.Ytcmnhnapnnpbdaa
open Go.RowKit
set_option linter.unusedVariables false
theorem caB_def (L F G R ws : List Int) (l : Int) : caB L F G R ws l = ((vcB L F G R l && longB ws l) && decide ((caL L F G R ws).length ≤ 24)) := rfl
set_option maxHeartbeats 2000000 in
theorem iAll_any (v : Value) (b off n c : Nat) (L F G R ws : List Int) (l : Int) (w : World) (h : CgS w w.heap.size v L F G R) (hw : SlI w w.heap.size (some ⟨b, off, none⟩) n ws) (hL : L.length ≤ 4294967296) (hF : F.length ≤ 4294967296) (hG : G.length ≤ 4294967296) (hR : R.length ≤ 4294967296) (hn : n ≤ 4294967296) (hnc : n ≤ c) :
    Calls Try.prog 30 #[v, .slice (some ⟨b, off, none⟩) n c, .int .i64 l] w fun e w' => ∃ v, e = .returned (.tuple #[v, .bool (caB L F G R ws l)]) ∧ FOut w' w.heap.size v (caB L F G R ws l) (caL L F G R ws) ∧ Below w.heap.size w w' := by
  have HC := Lib.hid h
  obtain ⟨b0, o0, n0, c0, b1, o1, n1, c1, b2, o2, n2, c2, b3, o3, n3, c3, rfl, h0, h1, h2, h3⟩ := h
  clear h0 h1 h2 h3
  have hdef := caB_def L F G R ws l
  have hl := Lib.hid hw.len
  have hbx : Below w.heap.size w (w.alloc (.cells ([.slice (some ⟨b0, o0, none⟩) n0 c0, .slice (some ⟨b1, o1, none⟩) n1 c1, .slice (some ⟨b2, o2, none⟩) n2 c2, .slice (some ⟨b3, o3, none⟩) n3 c3] : List Value).toArray 27)) := (Below.refl _ _).alloc (Nat.le_refl _) _
  have rb := Row.new w 27 [.slice (some ⟨b0, o0, none⟩) n0 c0, .slice (some ⟨b1, o1, none⟩) n1 c1, .slice (some ⟨b2, o2, none⟩) n2 c2, .slice (some ⟨b3, o3, none⟩) n3 c3]
  have hC := iValid_any _ L F G R l _ ((HC.out.cg.below hbx (Nat.le_refl _)).more hbx.size) hL hF hG hR
  have hG2 := fun (x : World) (hx : Below w.heap.size w x) => iIsLong_any (some ⟨b, off, none⟩) n c ws l w.heap.size x (hw.below hx (Nat.le_refl _)) hn
  have HW := Lib.hid hw; have HBX := Lib.hid hbx; have RB := Lib.hid rb
  clear hw hbx rb hL hF hG hR hn
  cases h1 : vcB L F G R l with
  | false =>
    rw [h1, Bool.false_and, Bool.false_and] at hdef
    rw [h1] at hC
    have HD := Lib.hid hdef
    clear hdef
    go_enter Try.func30, Try.ntmps30
    go_wp2_with fail
    refine hC.mono ?_; rintro e w1 ⟨rfl, hb1⟩; clear hC
    go_wp2_with fail
    go_ret2
    exact ⟨_, by rw [HD.out]; rfl, by rw [FOut, HD.out]; rfl, HBX.out.trans (hb1.mono HBX.out.size)⟩
  | true =>
    have h4 := vc_lens h1
    rw [h1] at hC
    cases h2 : longB ws l with
    | false =>
      rw [h2] at hG2
      rw [h1, h2, Bool.and_false, Bool.false_and] at hdef
      have HD := Lib.hid hdef
      clear hdef
      go_enter Try.func30, Try.ntmps30
      go_wp2_with fail
      refine hC.mono ?_; rintro e w1 ⟨rfl, hb1⟩; clear hC
      have hx1 := HBX.out.trans (hb1.mono HBX.out.size)
      go_wp2_with fail
      refine (hG2 _ hx1).mono ?_; rintro e w' ⟨rfl, hw⟩; subst hw; clear hG2
      go_wp2_with fail
      go_ret2
      exact ⟨_, by rw [HD.out]; rfl, by rw [FOut, HD.out]; rfl, hx1⟩
    | true =>
      have h24 := long24 h2
      rw [hl.out] at h24
      rw [h2] at hG2
      rw [h1, h2, Bool.true_and, Bool.true_and] at hdef
      have HD := Lib.hid hdef
      obtain ⟨g1, g2, g3, g4, g5⟩ := h4
      clear hdef
      go_enter Try.func30, Try.ntmps30
      go_wp2_with fail
      refine hC.mono ?_; rintro e w1 ⟨rfl, hb1⟩; clear hC
      have hx1 := HBX.out.trans (hb1.mono HBX.out.size)
      have RB1 := RB.out.below hb1 RB.out.lt
      have k0 := RB1.cell 0
      have k1 := RB1.cell 1
      have k2 := RB1.cell 2
      have k3 := RB1.cell 3
      go_wp2_with fail
      refine (hG2 _ hx1).mono ?_; rintro e w' ⟨rfl, hw⟩; subst hw; clear hG2
      have hM := iAllM_any _ b off n c L F G R ws w1 ((HC.out.below hx1 (Nat.le_refl _)).more hx1.size) ((HW.out.below hx1 (Nat.le_refl _)).more hx1.size) g1 g2 g3 g4 g5 h24 hnc
      obtain ⟨ok, hok⟩ : ∃ ok, ok = decide ((caL L F G R ws).length ≤ 24) := ⟨_, rfl⟩
      rw [← hok] at hM HD
      have HX := Lib.hid hx1
      clear hok hx1 hb1 RB1
      go_wp2_with fail
      refine hM.mono ?_; rintro e w2 ⟨v, rfl, hv, hb2⟩; clear hM
      have HV := Lib.hid hv; clear hv
      go_wp2_with fail
      go_ret2
      refine ⟨v, by rw [HD.out]; rfl, ?_, HX.out.trans (hb2.mono HX.out.size)⟩
      rw [HD.out]
      have := HV.out
      unfold FOut at this ⊢
      cases ok
      · exact this
      · exact World.ownsRow.mono this HX.out.size
set_option maxHeartbeats 2000000 in
theorem sAll_any (v : Value) (b off n c : Nat) (L F G R ws : List Int) (l : Int) (w : World) (h : CgS w w.heap.size v L F G R) (hw : SlI w w.heap.size (some ⟨b, off, none⟩) n ws) (hL : L.length ≤ 4294967296) (hF : F.length ≤ 4294967296) (hG : G.length ≤ 4294967296) (hR : R.length ≤ 4294967296) (hn : n ≤ 4294967296) (hnc : n ≤ c) :
    Calls Try.prog 29 #[v, .slice (some ⟨b, off, none⟩) n c, .int .i64 l] w fun e w' => ∃ v, e = .returned (.tuple #[v, .bool (caB L F G R ws l)]) ∧ FOut w' w.heap.size v (caB L F G R ws l) (caL L F G R ws) ∧ Below w.heap.size w w' := by
  have hP := h.cg.boxed
  obtain ⟨b0, o0, n0, c0, b1, o1, n1, c1, b2, o2, n2, c2, b3, o3, n3, c3, rfl, h0, h1, h2, h3⟩ := h
  obtain ⟨vs, hv, hP⟩ := hP
  injection hv with hv
  rw [← hv] at hP
  have hdef := caB_def L F G R ws l
  have hl := Lib.hid hw.len
  have hbx : Below w.heap.size w (w.alloc (.cells ([.slice (some ⟨b0, o0, none⟩) n0 c0, .slice (some ⟨b1, o1, none⟩) n1 c1, .slice (some ⟨b2, o2, none⟩) n2 c2, .slice (some ⟨b3, o3, none⟩) n3 c3] : List Value).toArray 27)) := (Below.refl _ _).alloc (Nat.le_refl _) _
  have rb := Row.new w 27 [.slice (some ⟨b0, o0, none⟩) n0 c0, .slice (some ⟨b1, o1, none⟩) n1 c1, .slice (some ⟨b2, o2, none⟩) n2 c2, .slice (some ⟨b3, o3, none⟩) n3 c3]
  have hC := sIs_any w.heap.size L F G R l _ hP hL hF hG hR
  have hwx := (hw.below hbx (Nat.le_refl _)).more hbx.size
  have hG2 := sLong_any (some ⟨b, off, none⟩) n c ws l _ _ hwx hn
  have hg2 := (h2.below hbx (Nat.le_refl _)).more hbx.size
  have HP := Lib.hid hP; have HWX := Lib.hid hwx; have HBX := Lib.hid hbx; have RB := Lib.hid rb; have HG2 := Lib.hid hg2
  clear hP hv hw hwx hbx rb hg2 h0 h1 h2 h3 hL hF hG hR hn
  cases h1 : vcB L F G R l with
  | false =>
    rw [h1, Bool.false_and, Bool.false_and] at hdef
    rw [h1] at hC
    have HD := Lib.hid hdef
    clear hdef
    go_enter Try.func29, Try.ntmps29
    go_wp2_with fail
    refine hC.mono ?_; rintro e w' ⟨rfl, hw⟩; subst hw
    go_wp2_with fail
    go_ret2
    exact ⟨_, by rw [HD.out]; rfl, by rw [FOut, HD.out]; rfl, HBX.out⟩
  | true =>
    have h4 := vc_lens h1
    rw [h1] at hC
    cases h2 : longB ws l with
    | false =>
      rw [h2] at hG2
      rw [h1, h2, Bool.and_false, Bool.false_and] at hdef
      have HD := Lib.hid hdef
      clear hdef
      go_enter Try.func29, Try.ntmps29
      go_wp2_with fail
      refine hC.mono ?_; rintro e w' ⟨rfl, hw⟩; subst hw
      go_wp2_with fail
      refine hG2.mono ?_; rintro e w' ⟨rfl, hw⟩; subst hw
      go_wp2_with fail
      go_ret2
      exact ⟨_, by rw [HD.out]; rfl, by rw [FOut, HD.out]; rfl, HBX.out⟩
    | true =>
      have h24 := long24 h2
      rw [hl.out] at h24
      rw [h2] at hG2
      rw [h1, h2, Bool.true_and, Bool.true_and] at hdef
      have hS := sAllL_any w.heap.size b off n c .nilIface L F G R ws _ HP.out ⟨b2, o2, n2, c2, RB.out.cell 2, HG2.out⟩ HWX.out h4.1 h4.2.1 h4.2.2.1 h4.2.2.2.1 h4.2.2.2.2 h24 hnc
      obtain ⟨ok, hok⟩ : ∃ ok, ok = decide ((caL L F G R ws).length ≤ 24) := ⟨_, rfl⟩
      rw [← hok] at hS hdef
      have HD := Lib.hid hdef
      clear hdef h4 hok
      go_enter Try.func29, Try.ntmps29
      go_wp2_with fail
      refine hC.mono ?_; rintro e w' ⟨rfl, hw⟩; subst hw
      go_wp2_with fail
      refine hG2.mono ?_; rintro e w' ⟨rfl, hw⟩; subst hw
      go_wp2_with fail
      refine hS.mono ?_; rintro e w2 ⟨v, rfl, hv, hb2⟩; clear hS
      have HV := Lib.hid hv; clear hv
      cases ok with
      | false =>
        go_wp2_with fail
        go_ret2
        exact ⟨_, by rw [HD.out]; rfl, by rw [FOut, HD.out]; rfl, HBX.out.trans (hb2.mono HBX.out.size)⟩
      | true =>
        go_wp2_with fail
        go_ret2
        exact ⟨v, by rw [HD.out]; rfl, by rw [FOut, HD.out]; exact World.ownsRow.mono HV.out HBX.out.size, HBX.out.trans (hb2.mono HBX.out.size)⟩
end Go.Proofs.Ytcmnhnapnnpbdaa
