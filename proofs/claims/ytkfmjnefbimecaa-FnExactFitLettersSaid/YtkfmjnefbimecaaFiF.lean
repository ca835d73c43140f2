/- l03Filled of the reference: the model of counts. -/
import Derived.Test.YtkfmjnefbimecaaFiS
import Derived.Test.YtkfmjnefbimecaaFiT
import Derived.Test.YtkfmjnefbimecaaM3
import Derived.Deep.RegionHeld3
import Derived.Deep.RegionLaw
import Derived.Deep.DrawnRows
namespace Go.Proofs.Ytkfmjnefbimecaa
open Go.RowKit
set_option linter.unusedVariables false
attribute [local go_sem ↓] Go.wp_at_zero Go.wp_at_succ
theorem rowsF_one {cs : List F32} {l : Nat} (h : cs.length = l) : rowsF cs l 0 = cs := by unfold rowsF; rw [Nat.zero_mul, List.drop_zero]; exact List.take_of_length_le (by omega)
theorem dvN_one {cs old : List F32} {l : Nat} (h : cs.length = l) (h' : old.length = l) : dvN cs old l 1 = dvR cs old := by
  rw [dvN, dvN, rowsF_one h, rowsF_one h', List.nil_append]
theorem slF_cells {w : World} {B n : Nat} {A : Option Addr} {xs : List F32} (h : SlF w B A n xs) (h0 : 0 < n) : ∃ b off, A = some ⟨b, off, none⟩ ∧ ∀ j u, (fv xs)[j]? = some u → w.cell? ⟨b, off + j, none⟩ = some u := by
  obtain ⟨_, h2⟩ := h
  obtain ⟨b, off, e, _, hc⟩ := h2 h0
  exact ⟨b, off, e, hc⟩
theorem own_formF {w : World} {base n : Nat} {t : TypeId} {A : Option Addr} {c : Nat} {xs : List Value} (h : w.ownsRow base t 1 (.slice A n c) n xs) : n ≤ c ∧ c ≤ maxLen := by
  obtain ⟨A', c'', hv', hc, hm⟩ := own_form h
  injection hv' with _ _ e3
  subst e3
  exact ⟨hc, hm⟩
theorem Cnt.rows {N l i : Nat} {cs : List F32} (h : Cnt N cs) : Cnt N (rowsF cs l i) := fun x hx => h x (List.mem_of_mem_drop (List.mem_of_mem_take hx))
theorem sub_capF {p s c : Nat} (h : p + s ≤ c) (h0 : 0 < s) : ¬ c = p := by omega
theorem sGiveF9 (S T : Int) (P Q R : List F32) (A2 : Option Addr) (n2 c2 : Nat) (A3 : Option Addr) (n3 c3 : Nat) (A4 : Option Addr) (n4 c4 : Nat) (w : World) (lo : Nat) (h2 : w.ownsRow lo 94 1 (.slice A2 n2 c2) n2 (fv P)) (h3 : w.ownsRow lo 94 1 (.slice A3 n3 c3) n3 (fv Q)) (h4 : w.ownsRow lo 94 1 (.slice A4 n4 c4) n4 (fv R)) :
    Calls Try.prog 113 #[.agg #[.int .i64 S, .int .i64 T, .slice A2 n2 c2, .slice A3 n3 c3, .slice A4 n4 c4]] w fun e w' => ∃ ok, ok = vdM S T P Q R ∧ e = .returned (.tuple #[.agg #[.int .i64 (ckI ok S), .int .i64 (ckI ok T), .slice (ckA ok A2) (ckN ok n2) (ckN ok c2), .slice (ckA ok A3) (ckN ok n3) (ckN ok c3), .slice (ckA ok A4) (ckN ok n4) (ckN ok c4)], .bool ok]) ∧ Below w.heap.size w w' := by
  obtain ⟨q2, r2⟩ := own_formF h2
  obtain ⟨q3, r3⟩ := own_formF h3
  obtain ⟨q4, r4⟩ := own_formF h4
  unfold maxLen at r2 r3 r4
  refine (sGiveM_any S T P Q R A2 n2 c2 A3 n3 c3 A4 n4 c4 w (own_sl h2) (own_sl h3) (own_sl h4) q2 (by omega) q3 (by omega) q4 (by omega)).mono ?_
  rintro e w' ⟨rfl, hb⟩
  exact ⟨_, rfl, by rw [ckV_agg], hb⟩
theorem sFillRow_any (g2 p3 n k2 c3 s k n3 : Nat) (b Q : List F32) (x : World) (hb : SlF x x.heap.size (some ⟨g2, 0, none⟩) n b) (hQ : SlF x x.heap.size (some ⟨p3, 0, none⟩) n Q) (hn : n3 = k * s) (h1 : n3 + s ≤ n) (hc : Cnt 300 b) (hs : 1 ≤ s) (hs5 : s ≤ 5) (A B : Option Addr) (hA : A = some ⟨g2, n3, none⟩) (hB : B = some ⟨p3, n3, none⟩) (m : Nat) (hm : m = s) (c c' : Nat) :
    Calls Try.prog 112 #[.slice A m c, .slice B m c'] x fun e w' => ∃ bb off d, e = .returned (.slice (some ⟨bb, off, none⟩) s d) ∧ (∀ j u, (fv (dvR (rowsF b s k) (rowsF Q s k)))[j]? = some u → w'.cell? ⟨bb, off + j, none⟩ = some u) ∧ Below x.heap.size x w' := by
  subst hA hB hm hn
  have q1 : SlF x x.heap.size (some ⟨g2, k * m, none⟩) m (rowsF b m k) := by have := SlF.sub hb h1; rw [Nat.zero_add] at this; exact this
  have q2 : SlF x x.heap.size (some ⟨p3, k * m, none⟩) m (rowsF Q m k) := by have := SlF.sub hQ h1; rw [Nat.zero_add] at this; exact this
  refine (sFill_any _ m c (rowsF b m k) _ c' (rowsF Q m k) x q1 q2 hc.rows (by omega)).mono ?_
  rintro e w' ⟨B1, d, rfl, hs1, hb1⟩
  obtain ⟨bb, off, rfl, hce⟩ := slF_cells hs1 (by omega)
  exact ⟨bb, off, d, rfl, hce, hb1⟩
set_option maxRecDepth 100000 in
set_option maxHeartbeats 16000000 in
theorem sFilled_any (g : Nat) (s t : Nat) (P Q R : List F32) (p2 p3 p4 c2 c3 c4 : Nat) (a b cc : List F32) (g1 g2 g3 k1 k2 k3 : Nat) (w : World)
    (hr : Row w g 48 [.int .i64 (s : Int), .int .i64 (t : Int), .slice (some ⟨p2, 0, none⟩) P.length c2, .slice (some ⟨p3, 0, none⟩) Q.length c3, .slice (some ⟨p4, 0, none⟩) R.length c4]) (h2 : SlF w w.heap.size (some ⟨p2, 0, none⟩) P.length P) (h3 : SlF w w.heap.size (some ⟨p3, 0, none⟩) Q.length Q) (h4 : SlF w w.heap.size (some ⟨p4, 0, none⟩) R.length R)
    (hc3 : Q.length ≤ c3 ∧ c3 ≤ 9223372036854775807) (hc4 : R.length ≤ c4 ∧ c4 ≤ 9223372036854775807)
    (ha : SlF w w.heap.size (some ⟨g1, 0, none⟩) P.length a) (hb : SlF w w.heap.size (some ⟨g2, 0, none⟩) Q.length b) (hc : SlF w w.heap.size (some ⟨g3, 0, none⟩) R.length cc) (hk2 : Q.length ≤ k2 ∧ k2 ≤ 9223372036854775807) (hk3 : R.length ≤ k3 ∧ k3 ≤ 9223372036854775807)
    (hS : 1 ≤ s ∧ s ≤ 5) (hT : 1 ≤ t ∧ t ≤ 5) (lP : P.length = s) (lQ : Q.length = s * s) (lR : R.length = s * t) (n1 : Cnt 300 a) (n2 : Cnt 300 b) (n3 : Cnt 300 cc) :
    Calls Try.prog 66 #[.pointer (some ⟨g, 0, none⟩), .slice (some ⟨g1, 0, none⟩) P.length k1, .slice (some ⟨g2, 0, none⟩) Q.length k2, .slice (some ⟨g3, 0, none⟩) R.length k3] w fun e w' => ∃ v', e = .returned (.tuple #[v', .bool (vdM s t (dvN a P s 1) (dvN b Q s s) (dvN cc R t s))]) ∧ MdW w' w.heap.size v' (ckI (vdM s t (dvN a P s 1) (dvN b Q s s) (dvN cc R t s)) s) (ckI (vdM s t (dvN a P s 1) (dvN b Q s s) (dvN cc R t s)) t) (ckL (vdM s t (dvN a P s 1) (dvN b Q s s) (dvN cc R t s)) (dvN a P s 1)) (ckL (vdM s t (dvN a P s 1) (dvN b Q s s) (dvN cc R t s)) (dvN b Q s s)) (ckL (vdM s t (dvN a P s 1) (dvN b Q s s) (dvN cc R t s)) (dvN cc R t s)) ∧ Below w.heap.size w w' := by
  have m1 : s * s ≤ 5 * 5 := Nat.mul_le_mul hS.2 hS.2
  have m2 : s * t ≤ 5 * 5 := Nat.mul_le_mul hS.2 hT.2
  have la := ha.len; have lb := hb.len; have lc := hc.len
  have BN : Hid (P.length ≤ 25 ∧ Q.length ≤ 25 ∧ R.length ≤ 25 ∧ 1 ≤ P.length) := by show _ ∧ _ ∧ _ ∧ _; omega
  have LP := Lib.hid lP; have LQ := Lib.hid lQ; have LR := Lib.hid lR; have LA := Lib.hid la; have LB := Lib.hid lb; have LC := Lib.hid lc
  have N1 := Lib.hid n1; have N2 := Lib.hid n2; have N3 := Lib.hid n3; have HS := Lib.hid hS; have HT := Lib.hid hT
  have HC3 := Lib.hid hc3; have HC4 := Lib.hid hc4; have HK2 := Lib.hid hk2; have HK3 := Lib.hid hk3
  have DV1 : Hid ((dvN a P s 1) = dvR a P) := dvN_one (by rw [la, lP]) lP
  have DL1 : Hid ((dvR a P).length = P.length) := dvR_len (by rw [la])
  have HR := Lib.hid (hr.alloc (.cells ([.int .i64 0, .int .i64 0, .slice none 0 0, .slice none 0 0, .slice none 0 0] : List Value).toArray 48))
  have bx : Below w.heap.size w (w.alloc (.cells ([.int .i64 0, .int .i64 0, .slice none 0 0, .slice none 0 0, .slice none 0 0] : List Value).toArray 48)) := (Below.refl _ _).alloc (Nat.le_refl _) _
  have rr := Row.new w 48 [.int .i64 0, .int .i64 0, .slice none 0 0, .slice none 0 0, .slice none 0 0]
  have H2 := Lib.hid h2; have H3 := Lib.hid h3; have H4 := Lib.hid h4; have HA := Lib.hid ha; have HB := Lib.hid hb; have HC := Lib.hid hc
  have BX := Lib.hid bx; have RR := Lib.hid rr
  clear m1 m2 la lb lc lP lQ lR n1 n2 n3 hS hT hc3 hc4 hk2 hk3 hr bx rr h2 h3 h4 ha hb hc
  have q0 := HR.out.cell 0; have q1 := HR.out.cell 1
  go_enter Try.func66, Try.ntmps66
  go_upto_region 3 with fail
  clear q0 q1
  obtain ⟨x0, hx0⟩ : ∃ x, x = (w.alloc (.cells ([.int .i64 0, .int .i64 0, .slice none 0 0, .slice none 0 0, .slice none 0 0] : List Value).toArray 48)) := ⟨_, rfl⟩
  rw [← hx0] at HR BX RR
  change Code.wp _ _ _ _ (w.alloc (.cells ([.int .i64 0, .int .i64 0, .slice none 0 0, .slice none 0 0, .slice none 0 0] : List Value).toArray 48))
  rw [← hx0]
  clear hx0
  have be : Below x0.heap.size x0 (x0.alloc (.cells #[] 94)) := (Below.refl _ _).alloc (Nat.le_refl _) _
  have bw : Below w.heap.size w (x0.alloc (.cells #[] 94)) := BX.out.trans (be.mono BX.out.size)
  have hF := sFill_any (some ⟨g1, 0, none⟩) P.length k1 a (some ⟨p2, 0, none⟩) c2 P (x0.alloc (.cells #[] 94)) ((HA.out.below bw (Nat.le_refl _)).more bw.size) ((H2.out.below bw (Nat.le_refl _)).more bw.size) N1.out (by have := BN.out; omega)
  have HM : Hid ((x0.alloc (.cells #[] 94)).ownsRow x0.heap.size 94 1 (.slice (some ⟨x0.heap.size, 0, none⟩) 0 0) 0 []) := World.ownsRow_made x0 #[] 0 (Nat.le_refl _) (by unfold maxLen; omega) rfl
  have q2 := (HR.out.alloc (.cells #[] 94)).cell 2
  have BE := Lib.hid be; have HF := Lib.hid hF
  clear be bw hF
  go_wp2_with fail
  clear q2
  refine HF.out.mono ?_
  rintro e w1 ⟨B1, d1, rfl, hs1, hb1⟩
  obtain ⟨bb, off, rfl, hce⟩ := slF_cells hs1 (by have := BN.out; omega)
  have HCE := Lib.hid hce
  have HMo : Hid (w1.ownsRow x0.heap.size 94 1 (.slice (some ⟨x0.heap.size, 0, none⟩) 0 0) 0 []) := of_keep HM.out hb1 (Nat.le_refl _)
  have HB1 : Hid (Below x0.heap.size x0 w1) := BE.out.trans (hb1.mono BE.out.size)
  have HLN : Hid ((fv (dvR a P)).length = P.length * 1) := by show _ = _; rw [fv_length, DL1.out]; omega
  have HRM : Hid (0 + P.length ≤ 4294967296) := by have := BN.out; show _ ≤ _; omega
  clear hs1 hb1 hce HF
  go_wp2_with (first | (at_builtin; refine wpList_cells_push (w0 := w1) rfl (.tmp 24) (.tmp 30) _ rfl x0.heap.size 94 (.float .f32 0) 1 4 Try.underlying42 infoF32 rfl (by omega) (by omega) (.slice (some ⟨x0.heap.size, 0, none⟩) 0 0) 0 [] rfl HMo.out bb off P.length d1 (fv (dvR a P)) rfl HLN.out HCE.out (fv_oneF _) HRM.out HB1.out.size ?_; intro v' wv hown hgr hat; obtain ⟨A', c', hv', _, _⟩ := own_form hown; subst hv'; have HG := Lib.hid (HB1.out.trans (grown_below' HMo.out hgr HB1.out.size)); have HOW := Lib.hid hown; clear hgr hown hat))
  have HM0 : Hid (M3 x0 (wv.alloc (.cells ([.int .i64 (s : Int), .int .i64 (t : Int), .slice A' P.length c', .slice none 0 0, .slice none 0 0] : List Value).toArray 48)) x0.heap.size wv.heap.size 48 94 94 94 1 1 1 (.int .i64 (s : Int)) (.int .i64 (t : Int)) (.slice A' P.length c') (.slice none 0 0) (.slice none 0 0) P.length 0 0 (fv (dvN a P s 1)) (fv (dvN b Q s 0)) (fv (dvN cc R t 0))) := by
    have e2 : wv.ownsRow x0.heap.size 94 1 (.slice A' P.length c') P.length (fv (dvN a P s 1)) := by have := HOW.out; rw [Nat.zero_add, List.nil_append, ← DV1.out] at this; exact this
    have e3 := e2.alloc (.cells ([.int .i64 (s : Int), .int .i64 (t : Int), .slice A' P.length c', .slice none 0 0, .slice none 0 0] : List Value).toArray 48)
    exact ⟨Row.new _ _ _, HG.out.alloc HG.out.size _, HG.out.size, Nat.le_refl _, e3, World.ownsRow_nil _ _ _ _, World.ownsRow_nil _ _ _ _, fun k hk => ⟨by have := (e2.lt k hk).2; omega, by simp [Value.ownBlock], by simp [Value.ownBlock]⟩, fun k hk => by simp [Value.ownBlock] at hk, fun k hk => by simp [Value.ownBlock] at hk⟩
  obtain ⟨gx, hgx⟩ : ∃ q, q = wv.heap.size := ⟨_, rfl⟩
  rw [← hgx] at HM0
  rw [← hgx]
  obtain ⟨w5, hw5⟩ : ∃ x, x = wv.alloc (.cells ([.int .i64 (s : Int), .int .i64 (t : Int), .slice A' P.length c', .slice none 0 0, .slice none 0 0] : List Value).toArray 48) := ⟨_, rfl⟩
  rw [← hw5] at HM0
  rw [show wv.alloc (.cells #[.int .i64 (s : Int), .int .i64 (t : Int), .slice A' P.length c', .slice none 0 0, .slice none 0 0] 48) = w5 from hw5.symm]
  clear hw5 hgx HOW HG HCE HMo HB1 HLN HRM BE
  go_loopg [13] s (fun q i wr => ∃ (k n3 n4 : Nat) (A3 : Option Addr) (c3' : Nat) (A4 : Option Addr) (c4' : Nat), i = .int .i64 k ∧ k ≤ s ∧ s ≤ q + k ∧ Hid (n3 = k * s) ∧ Hid (n4 = k * t) ∧ Hid (M3 x0 wr x0.heap.size gx 48 94 94 94 1 1 1 (.int .i64 (s : Int)) (.int .i64 (t : Int)) (.slice A' P.length c') (.slice A3 n3 c3') (.slice A4 n4 c4') P.length n3 n4 (fv (dvN a P s 1)) (fv (dvN b Q s k)) (fv (dvN cc R t k))))
  case atStart => exact ⟨0, 0, 0, none, 0, none, 0, rfl, by omega, by omega, by show _ = _; omega, by show _ = _; omega, HM0.out⟩
  case round =>
    clear HM0
    obtain ⟨k, n3, n4, A3, c3', A4, c4', rfl, hk, hm, HN3, HN4, HM⟩ := hrel
    obtain ⟨wo, rfl⟩ : ∃ x : World, x = wr := ⟨_, rfl⟩
    have hS := HS.out; have hT := HT.out
    by_cases hlt : k < s
    · have hI3 : n3 + s ≤ Q.length := by rw [HN3.out, LQ.out, ← Nat.succ_mul]; exact Nat.mul_le_mul_right s hlt
      have hI4 : n4 + t ≤ R.length := by rw [HN4.out, LR.out, ← Nat.succ_mul]; exact Nat.mul_le_mul_right t hlt
      have HI3 := Lib.hid hI3; have HI4 := Lib.hid hI4
      have hbn := BN.out
      have hq3 := HC3.out; have hq4 := HC4.out; have hk2' := HK2.out; have hk3' := HK3.out
      skip
      have W3 : IntKind.i64.wrap ((k : Int) * (s : Int)) = (n3 : Int) := by rw [HN3.out, IntWalk.i64_in _ (by rw [← Int.natCast_mul, ← HN3.out]; omega)]; simp
      have W4 : IntKind.i64.wrap ((k : Int) * (t : Int)) = (n4 : Int) := by rw [HN4.out, IntWalk.i64_in _ (by rw [← Int.natCast_mul, ← HN4.out]; omega)]; simp
      have LEN3 : Hid ((fv (dvR (rowsF b s k) (rowsF Q s k))).length = s * 1) := by
        show _ = _
        rw [fv_length, dvR_len (by rw [rowsF_len (r := s) (by rw [LB.out, LQ.out]) hlt, rowsF_len (r := s) LQ.out hlt]), rowsF_len (r := s) LQ.out hlt]; omega
      have LEN4 : Hid ((fv (dvR (rowsF cc t k) (rowsF R t k))).length = t * 1) := by
        show _ = _
        rw [fv_length, dvR_len (by rw [rowsF_len (r := s) (by rw [LC.out, LR.out]) hlt, rowsF_len (r := s) LR.out hlt]), rowsF_len (r := s) LR.out hlt]; omega
      have ROOM3 : Hid (n3 + s ≤ 4294967296) := by show _ ≤ _; omega
      have ROOM4 : Hid (n4 + t ≤ 4294967296) := by show _ ≤ _; omega
      have ES3 : Hid (dvN b Q s (k + 1) = dvN b Q s k ++ dvR (rowsF b s k) (rowsF Q s k)) := rfl
      have ES4 : Hid (dvN cc R t (k + 1) = dvN cc R t k ++ dvR (rowsF cc t k) (rowsF R t k)) := rfl
      have w1' : IntKind.i64.wrap ((k : Int) + 1) = (k : Int) + 1 := IntWalk.i64_in _ (by omega)
      have dk : decide ((k : Int) < (s : Int)) = true := decide_eq_true (by omega)
      have f1 : (0 : Int) ≤ (n3 : Int) := by omega
      have f2 : (n3 : Int) ≤ (n3 : Int) + (s : Int) := by omega
      have f3 : (n3 : Int) + (s : Int) ≤ (c3 : Int) := by omega
      have f4 : (n3 : Int) + (s : Int) ≤ (k2 : Int) := by omega
      have f5 : ¬ c3 = n3 := by omega
      have f6 : ¬ k2 = n3 := by omega
      have f7 : (n3 : Int) < (c3 : Int) := by omega
      have f8 : (n3 : Int) < (k2 : Int) := by omega
      have f9 : IntKind.i64.wrap ((n3 : Int) + (s : Int)) = (n3 : Int) + (s : Int) := IntWalk.i64_in _ (by omega)
      have h1 : (0 : Int) ≤ (n4 : Int) := by omega
      have h2 : (n4 : Int) ≤ (n4 : Int) + (t : Int) := by omega
      have h3 : (n4 : Int) + (t : Int) ≤ (c4 : Int) := by omega
      have h4 : (n4 : Int) + (t : Int) ≤ (k3 : Int) := by omega
      have h5 : ¬ c4 = n4 := by omega
      have h6 : ¬ k3 = n4 := by omega
      have h7 : (n4 : Int) < (c4 : Int) := by omega
      have h8 : (n4 : Int) < (k3 : Int) := by omega
      have h9 : IntKind.i64.wrap ((n4 : Int) + (t : Int)) = (n4 : Int) + (t : Int) := IntWalk.i64_in _ (by omega)
      have HLT := Lib.hid hlt
      have HH := Lib.hid (And.intro hS (And.intro hT (And.intro hI3 (And.intro hI4 (And.intro hbn (And.intro hq3 (And.intro hq4 (And.intro hk2' hk3'))))))))
      clear hlt hS hT hI3 hI4 hbn hq3 hq4 hk2' hk3'
      go_wp2_with fail
      have HMd : Hid (M3 x0 wo.drew x0.heap.size gx 48 94 94 94 1 1 1 (.int .i64 (s : Int)) (.int .i64 (t : Int)) (.slice A' P.length c') (.slice A3 n3 c3') (.slice A4 n4 c4') P.length n3 n4 (fv (dvN a P s 1)) (fv (dvN b Q s k)) (fv (dvN cc R t k))) := M3.drew HM.out
      have CF : Hid (∀ x : World, Below x0.heap.size x0 x → ∀ (A B : Option Addr), A = some ⟨g2, n3, none⟩ → B = some ⟨p3, n3, none⟩ → ∀ m, m = s → ∀ c c' : Nat, Calls Try.prog 112 #[.slice A m c, .slice B m c'] x fun e w' => ∃ bb off d, e = .returned (.slice (some ⟨bb, off, none⟩) s d) ∧ (∀ j u, (fv (dvR (rowsF b s k) (rowsF Q s k)))[j]? = some u → w'.cell? ⟨bb, off + j, none⟩ = some u) ∧ Below x.heap.size x w') := fun x hx A B hA hB m hm c c' =>
        sFillRow_any g2 p3 Q.length k2 c3 s k n3 b Q x ((HB.out.below (BX.out.trans (hx.mono BX.out.size)) (Nat.le_refl _)).more (BX.out.trans (hx.mono BX.out.size)).size) ((H3.out.below (BX.out.trans (hx.mono BX.out.size)) (Nat.le_refl _)).more (BX.out.trans (hx.mono BX.out.size)).size) HN3.out HI3.out N2.out HS.out.1 HS.out.2 A B hA hB m hm c c'
      have HSx : Hid (∀ x9 : World, Below x0.heap.size x0 x9 → (x9.cell? ⟨g, 3, none⟩ = some (.slice (some ⟨p3, 0, none⟩) Q.length c3))) := fun x9 h9 => (HR.out.below h9 HR.out.lt).cell 3
      have e5 := HM.out.row.cell 3
      have hS0 := HSx.out wo.drew HMd.out.bel
      refine wp_region_held_drew (S := fun x9 => x9.cell? ⟨g, 3, none⟩ = some (.slice (some ⟨p3, 0, none⟩) Q.length c3)) (by kernel_rfl) hS0 (fun hHeld => ?_)
      clear hS0
      refine wpAnyH_take (i := 0) (v := ?_) rfl (by kernel_rfl) (by kernel_rfl) (by kernel_rfl) (fun _ _ _ h => h) (Or.inl ⟨by rfl, ?_⟩) (by assumption) ?_
      rotate_left
      · intro w9 hSw; (try dsimp only at hSw); go_simp; first | done | (with_reducible rfl)
      try simp only [Act.put, List.setIfInBounds_toArray]
      refine wpAnyH_take (i := 2) (v := ?_) rfl (by kernel_rfl) (by kernel_rfl) (by kernel_rfl) (fun _ _ _ h => h) (Or.inl ⟨by rfl, ?_⟩) (by assumption) ?_
      rotate_left
      · intro w9 hSw; (try dsimp only at hSw); go_simp; first | done | (with_reducible rfl)
      try simp only [Act.put]
      refine wpAnyH_take (i := 3) (v := ?_) rfl (by kernel_rfl) (by kernel_rfl) (by kernel_rfl) (fun _ _ _ h => h) (Or.inl ⟨by rfl, ?_⟩) (by assumption) ?_
      rotate_left
      · intro w9 hSw; (try dsimp only at hSw); go_simp; first | done | (with_reducible rfl)
      try simp only [Act.put]
      refine wpAnyH_take (i := 4) (v := ?_) rfl (by kernel_rfl) (by kernel_rfl) (by kernel_rfl) (fun _ _ _ h => h) (Or.inl ⟨by rfl, ?_⟩) (by assumption) ?_
      rotate_left
      · intro w9 hSw; (try dsimp only at hSw); go_simp; first | done | (with_reducible rfl)
      try simp only [Act.put]
      refine wpAnyH_take (i := 5) (v := ?_) rfl (by kernel_rfl) (by kernel_rfl) (by kernel_rfl) (fun _ _ _ h => h) (Or.inl ⟨by rfl, ?_⟩) (by assumption) ?_
      rotate_left
      · intro w9 hSw; (try dsimp only at hSw); go_simp; first | done | (with_reducible rfl)
      try simp only [Act.put]
      refine wpAnyH_take (i := 6) (v := ?_) rfl (by kernel_rfl) (by kernel_rfl) (by kernel_rfl) (fun _ _ _ h => h) (Or.inl ⟨by rfl, ?_⟩) (by assumption) ?_
      rotate_left
      · intro w9 hSw; (try dsimp only at hSw); go_simp; first | done | (with_reducible rfl)
      try simp only [Act.put]
      refine wpAnyH_take (i := 7) (v := ?_) rfl (by kernel_rfl) (by kernel_rfl) (by kernel_rfl) (fun _ _ _ h => h) (Or.inl ⟨by rfl, ?_⟩) (by assumption) ?_
      rotate_left
      · intro w9 hSw; (try dsimp only at hSw); go_simp; first | done | (with_reducible rfl)
      try simp only [Act.put]
      refine wpAnyH_take (i := 8) (v := ?_) rfl (by kernel_rfl) (by kernel_rfl) (by kernel_rfl) (fun _ _ _ h => h) (Or.inl ⟨by rfl, ?_⟩) (by assumption) ?_
      rotate_left
      · intro w9 hSw; (try dsimp only at hSw); go_simp; first | done | (with_reducible rfl)
      try simp only [Act.put]
      refine wpAnyH_take (i := 9) (v := ?_) rfl (by kernel_rfl) (by kernel_rfl) (by kernel_rfl) (fun _ _ _ h => h) (Or.inl ⟨by rfl, ?_⟩) (by assumption) ?_
      rotate_left
      · intro w9 hSw; (try dsimp only at hSw); go_simp; first | done | (with_reducible rfl)
      try simp only [Act.put]
      refine wpAnyH_take (i := 10) (v := ?_) rfl (by kernel_rfl) (by kernel_rfl) (by kernel_rfl) (fun _ _ _ h => h) (Or.inl ⟨by rfl, ?_⟩) (by assumption) ?_
      rotate_left
      · intro w9 hSw; (try dsimp only at hSw); go_simp; first | done | (with_reducible rfl)
      try simp only [Act.put]
      refine wpAnyH_take (i := 11) (v := ?_) rfl (by kernel_rfl) (by kernel_rfl) (by kernel_rfl) (fun _ _ _ h => h) (Or.inl ⟨by rfl, ?_⟩) (by assumption) ?_
      rotate_left
      · intro w9 hSw; (try dsimp only at hSw); go_simp; first | done | (with_reducible rfl)
      try simp only [Act.put]
      refine wpAnyH_take (i := 12) (v := ?_) rfl (by kernel_rfl) (by kernel_rfl) (by kernel_rfl) (fun _ _ _ h => h) (Or.inl ⟨by rfl, ?_⟩) (by assumption) ?_
      rotate_left
      · intro w9 hSw; (try dsimp only at hSw); go_simp; first | done | (with_reducible rfl)
      try simp only [Act.put]
      refine wpAnyH_take (i := 13) (v := ?_) rfl (by kernel_rfl) (by kernel_rfl) (by kernel_rfl) (fun _ _ _ h => h) (Or.inl ⟨by rfl, ?_⟩) (by assumption) ?_
      rotate_left
      · intro w9 hSw; (try dsimp only at hSw); go_simp; first | done | (with_reducible rfl)
      try simp only [Act.put]
      refine wpAnyH_take (i := 14) (v := ?_) rfl (by kernel_rfl) (by kernel_rfl) (by kernel_rfl) (fun _ _ _ h => h) (Or.inl ⟨by rfl, ?_⟩) (by assumption) ?_
      rotate_left
      · intro w9 hSw; (try dsimp only at hSw); go_simp; first | done | (with_reducible rfl)
      try simp only [Act.put]
      refine wpAnyH_take (i := 15) (v := ?_) rfl (by kernel_rfl) (by kernel_rfl) (by kernel_rfl) (fun _ _ _ h => h) (Or.inl ⟨by rfl, ?_⟩) (by assumption) ?_
      rotate_left
      · intro w9 hSw; (try dsimp only at hSw); go_simp; first | done | (with_reducible rfl)
      try simp only [Act.put]
      refine wpAnyH_take (i := 16) (v := ?_) rfl (by kernel_rfl) (by kernel_rfl) (by kernel_rfl) (fun _ _ _ h => h) (Or.inl ⟨by rfl, ?_⟩) (by assumption) ?_
      rotate_left
      · intro w9 hSw; (try dsimp only at hSw); go_simp; first | done | (with_reducible rfl)
      try simp only [Act.put]
      refine wpAnyH_take (i := 17) (v := ?_) rfl (by kernel_rfl) (by kernel_rfl) (by kernel_rfl) (fun _ _ _ h => h) (Or.inl ⟨by rfl, ?_⟩) (by assumption) ?_
      rotate_left
      · intro w9 hSw; (try dsimp only at hSw); go_simp; first | done | (with_reducible rfl)
      try simp only [Act.put]
      refine wpAnyH_take (i := 18) (v := ?_) rfl (by kernel_rfl) (by kernel_rfl) (by kernel_rfl) (fun _ _ _ h => h) (Or.inl ⟨by rfl, ?_⟩) (by assumption) ?_
      rotate_left
      · intro w9 hSw; (try dsimp only at hSw); go_simp; first | done | (with_reducible rfl)
      try simp only [Act.put]
      refine wpAnyH_take (i := 19) (v := ?_) rfl (by kernel_rfl) (by kernel_rfl) (by kernel_rfl) (fun _ _ _ h => h) (Or.inl ⟨by rfl, ?_⟩) (by assumption) ?_
      rotate_left
      · intro w9 hSw; (try dsimp only at hSw); go_simp; first | done | (with_reducible rfl)
      try simp only [Act.put]
      refine wpAnyH_take (i := 20) (v := ?_) rfl (by kernel_rfl) (by kernel_rfl) (by kernel_rfl) (fun _ _ _ h => h) (Or.inl ⟨by rfl, ?_⟩) (by assumption) ?_
      rotate_left
      · intro w9 hSw; (try dsimp only at hSw); go_simp; first | done | (with_reducible rfl)
      try simp only [Act.put]
      refine wpAnyH_take (i := 21) (v := ?_) rfl (by kernel_rfl) (by kernel_rfl) (by kernel_rfl) (fun _ _ _ h => h) (Or.inl ⟨by rfl, ?_⟩) (by assumption) ?_
      rotate_left
      · intro w9 hSw; (try dsimp only at hSw); go_simp; first | done | (with_reducible rfl)
      try simp only [Act.put]
      refine wpAnyH_take (i := 22) (v := ?_) rfl (by kernel_rfl) (by kernel_rfl) (by kernel_rfl) (fun _ _ _ h => h) (Or.inl ⟨by rfl, ?_⟩) (by assumption) ?_
      rotate_left
      · intro w9 hSw; (try dsimp only at hSw); go_simp; first | done | (with_reducible rfl)
      try simp only [Act.put]
      refine wpAnyH_take (i := 23) (v := ?_) rfl (by kernel_rfl) (by kernel_rfl) (by kernel_rfl) (fun _ _ _ h => h) (Or.inl ⟨by rfl, ?_⟩) (by assumption) ?_
      rotate_left
      · intro w9 hSw; (try dsimp only at hSw); go_simp; first | done | (with_reducible rfl)
      try simp only [Act.put]
      refine wpAnyH_take (i := 24) (v := ?_) rfl (by kernel_rfl) (by kernel_rfl) (by kernel_rfl) (fun _ _ _ h => h) (Or.inl ⟨by rfl, ?_⟩) (by assumption) ?_
      rotate_left
      · intro w9 hSw; (try dsimp only at hSw); go_simp; first | done | (with_reducible rfl)
      try simp only [Act.put]
      refine wpAnyH_ready (rs := [1, 25]) (by kernel_rfl) (by simp) ?_
      refine AllReadyH.cons rfl (fun K hK => ?_) ?_
      · go_simp
        refine hK.out _ _ (HSx.out _ HMd.out.bel) (fun hHeld => ?_)
        clear hK K
        try simp only [Act.put, List.setIfInBounds_toArray, List.set_cons_zero, List.set_cons_succ]
        refine wpAnyH_ready (rs := [25]) (by kernel_rfl) (by simp) ?_
        refine AllReadyH.cons rfl (fun K hK => ?_) AllReadyH.nil
        (try rw [if_pos (by rfl)])
        go_simp
        go_at_call 112
        refine (CF.out _ HMd.out.bel _ _ (by first | rfl | simp) (by first | rfl | simp) _ (by omega) _ _).mono ?_
        rintro e wz ⟨bb, off, d, rfl, hce, hbz⟩
        have HZ := Lib.hid (M3.call HMd.out hbz (Nat.le_refl _))
        have CE := Lib.hid hce
        have z1 := HZ.out.row.cell 3
        clear hce hbz
        refine hK.out _ _ (HSx.out _ HZ.out.bel) (fun hHeld => ?_)
        clear hK K
        try simp only [Act.put, List.setIfInBounds_toArray, List.set_cons_zero, List.set_cons_succ]
        refine wpAnyH_ready (rs := [26]) (by kernel_rfl) (by simp) ?_
        refine AllReadyH.cons rfl (fun K hK => ?_) AllReadyH.nil
        refine step_cells_push rfl (.tmp 39) (.tmp 63) _ rfl x0.heap.size 94 (.float .f32 0) 1 4 Try.underlying42 infoF32 rfl (by omega) (by omega) (.slice A3 n3 c3') n3 (fv (dvN b Q s k)) ?_ HZ.out.o3 bb off s d (fv (dvR (rowsF b s k) (rowsF Q s k))) ?_ LEN3.out CE.out (fv_oneF _) ROOM3.out HZ.out.size ?_
        rfl
        rfl
        intro Av cv wv hown hgr hbl hat
        have HV : Hid (M3 x0 (wv.setCell ⟨gx, 3, none⟩ (.slice Av (n3 + s) cv)) x0.heap.size gx 48 94 94 94 1 1 1 (.int .i64 (s : Int)) (.int .i64 (t : Int)) (.slice A' P.length c') (.slice Av (n3 + s) cv) (.slice A4 n4 c4') P.length (n3 + s) n4 (fv (dvN a P s 1)) (fv (dvN b Q s (k + 1))) (fv (dvN cc R t k))) := by
          have hq := M3.push3 HZ.out hown hgr hat
          rw [← fv_append, ← ES3.out] at hq
          exact hq
        have hrw := HZ.out.row.grown hgr (fun e => (HZ.out.d3 _ e.symm).1 rfl)
        have y0 := hrw.cell 3
        have y1 := hrw.frozen 3
        have HBv : Hid (Below x0.heap.size x0 wv) := HZ.out.bel.trans hbl
        clear hown hgr hbl hat hrw
        refine hK.out _ _ (HSx.out _ HBv.out) (fun hHeld => ?_)
        clear hK K
        try simp only [Act.put, List.setIfInBounds_toArray]
        refine wpAnyH_take (i := 27) (v := ?_) rfl (by kernel_rfl) (by kernel_rfl) (by kernel_rfl) (fun _ _ _ h => h) (Or.inl ⟨by rfl, ?_⟩) (by assumption) ?_
        rotate_left
        · intro w9 hSw; (try dsimp only at hSw); go_simp; first | done | (with_reducible rfl)
        try simp only [Act.put]
        refine wpAnyH_ready (rs := [28]) (by kernel_rfl) (by simp) ?_
        refine AllReadyH.cons rfl (fun K hK => ?_) AllReadyH.nil
        go_simp
        refine hK.out _ _ (HSx.out _ HV.out.bel) (fun hHeld => ?_)
        clear hK K
        try simp only [Act.put, List.setIfInBounds_toArray, List.set_cons_zero, List.set_cons_succ]
        refine wpAnyH_done (by kernel_rfl) ?_ _
        clear y0 y1 z1 e5
        clear CF HSx HMd HM hHeld HBv CE HZ
        obtain ⟨A3, rfl⟩ : ∃ q, q = Av := ⟨_, rfl⟩
        obtain ⟨c3', rfl⟩ : ∃ q, q = cv := ⟨_, rfl⟩
        obtain ⟨wo, hwo⟩ : ∃ x, x = wv.setCell ⟨gx, 3, none⟩ (.slice A3 (n3 + s) c3') := ⟨_, rfl⟩
        rw [← hwo] at HV ⊢
        have HM := HV
        clear hwo HV
        go_wp2_with fail
        have HMd : Hid (M3 x0 wo.drew x0.heap.size gx 48 94 94 94 1 1 1 (.int .i64 (s : Int)) (.int .i64 (t : Int)) (.slice A' P.length c') (.slice A3 (n3 + s) c3') (.slice A4 n4 c4') P.length (n3 + s) n4 (fv (dvN a P s 1)) (fv (dvN b Q s (k + 1))) (fv (dvN cc R t k))) := M3.drew HM.out
        have CF : Hid (∀ x : World, Below x0.heap.size x0 x → ∀ (A B : Option Addr), A = some ⟨g3, n4, none⟩ → B = some ⟨p4, n4, none⟩ → ∀ m, m = t → ∀ c c' : Nat, Calls Try.prog 112 #[.slice A m c, .slice B m c'] x fun e w' => ∃ bb off d, e = .returned (.slice (some ⟨bb, off, none⟩) t d) ∧ (∀ j u, (fv (dvR (rowsF cc t k) (rowsF R t k)))[j]? = some u → w'.cell? ⟨bb, off + j, none⟩ = some u) ∧ Below x.heap.size x w') := fun x hx A B hA hB m hm c c' =>
          sFillRow_any g3 p4 R.length k3 c4 t k n4 cc R x ((HC.out.below (BX.out.trans (hx.mono BX.out.size)) (Nat.le_refl _)).more (BX.out.trans (hx.mono BX.out.size)).size) ((H4.out.below (BX.out.trans (hx.mono BX.out.size)) (Nat.le_refl _)).more (BX.out.trans (hx.mono BX.out.size)).size) HN4.out HI4.out N3.out HT.out.1 HT.out.2 A B hA hB m hm c c'
        have HSx : Hid (∀ x9 : World, Below x0.heap.size x0 x9 → (x9.cell? ⟨g, 4, none⟩ = some (.slice (some ⟨p4, 0, none⟩) R.length c4))) := fun x9 h9 => (HR.out.below h9 HR.out.lt).cell 4
        have e5 := HM.out.row.cell 4
        have hS0 := HSx.out wo.drew HMd.out.bel
        refine wp_region_held_drew (S := fun x9 => x9.cell? ⟨g, 4, none⟩ = some (.slice (some ⟨p4, 0, none⟩) R.length c4)) (by kernel_rfl) hS0 (fun hHeld => ?_)
        clear hS0
        refine wpAnyH_take (i := 0) (v := ?_) rfl (by kernel_rfl) (by kernel_rfl) (by kernel_rfl) (fun _ _ _ h => h) (Or.inl ⟨by rfl, ?_⟩) (by assumption) ?_
        rotate_left
        · intro w9 hSw; (try dsimp only at hSw); go_simp; first | done | (with_reducible rfl)
        try simp only [Act.put, List.setIfInBounds_toArray]
        refine wpAnyH_take (i := 2) (v := ?_) rfl (by kernel_rfl) (by kernel_rfl) (by kernel_rfl) (fun _ _ _ h => h) (Or.inl ⟨by rfl, ?_⟩) (by assumption) ?_
        rotate_left
        · intro w9 hSw; (try dsimp only at hSw); go_simp; first | done | (with_reducible rfl)
        try simp only [Act.put]
        refine wpAnyH_take (i := 3) (v := ?_) rfl (by kernel_rfl) (by kernel_rfl) (by kernel_rfl) (fun _ _ _ h => h) (Or.inl ⟨by rfl, ?_⟩) (by assumption) ?_
        rotate_left
        · intro w9 hSw; (try dsimp only at hSw); go_simp; first | done | (with_reducible rfl)
        try simp only [Act.put]
        refine wpAnyH_take (i := 4) (v := ?_) rfl (by kernel_rfl) (by kernel_rfl) (by kernel_rfl) (fun _ _ _ h => h) (Or.inl ⟨by rfl, ?_⟩) (by assumption) ?_
        rotate_left
        · intro w9 hSw; (try dsimp only at hSw); go_simp; first | done | (with_reducible rfl)
        try simp only [Act.put]
        refine wpAnyH_take (i := 5) (v := ?_) rfl (by kernel_rfl) (by kernel_rfl) (by kernel_rfl) (fun _ _ _ h => h) (Or.inl ⟨by rfl, ?_⟩) (by assumption) ?_
        rotate_left
        · intro w9 hSw; (try dsimp only at hSw); go_simp; first | done | (with_reducible rfl)
        try simp only [Act.put]
        refine wpAnyH_take (i := 6) (v := ?_) rfl (by kernel_rfl) (by kernel_rfl) (by kernel_rfl) (fun _ _ _ h => h) (Or.inl ⟨by rfl, ?_⟩) (by assumption) ?_
        rotate_left
        · intro w9 hSw; (try dsimp only at hSw); go_simp; first | done | (with_reducible rfl)
        try simp only [Act.put]
        refine wpAnyH_take (i := 7) (v := ?_) rfl (by kernel_rfl) (by kernel_rfl) (by kernel_rfl) (fun _ _ _ h => h) (Or.inl ⟨by rfl, ?_⟩) (by assumption) ?_
        rotate_left
        · intro w9 hSw; (try dsimp only at hSw); go_simp; first | done | (with_reducible rfl)
        try simp only [Act.put]
        refine wpAnyH_take (i := 8) (v := ?_) rfl (by kernel_rfl) (by kernel_rfl) (by kernel_rfl) (fun _ _ _ h => h) (Or.inl ⟨by rfl, ?_⟩) (by assumption) ?_
        rotate_left
        · intro w9 hSw; (try dsimp only at hSw); go_simp; first | done | (with_reducible rfl)
        try simp only [Act.put]
        refine wpAnyH_take (i := 9) (v := ?_) rfl (by kernel_rfl) (by kernel_rfl) (by kernel_rfl) (fun _ _ _ h => h) (Or.inl ⟨by rfl, ?_⟩) (by assumption) ?_
        rotate_left
        · intro w9 hSw; (try dsimp only at hSw); go_simp; first | done | (with_reducible rfl)
        try simp only [Act.put]
        refine wpAnyH_take (i := 10) (v := ?_) rfl (by kernel_rfl) (by kernel_rfl) (by kernel_rfl) (fun _ _ _ h => h) (Or.inl ⟨by rfl, ?_⟩) (by assumption) ?_
        rotate_left
        · intro w9 hSw; (try dsimp only at hSw); go_simp; first | done | (with_reducible rfl)
        try simp only [Act.put]
        refine wpAnyH_take (i := 11) (v := ?_) rfl (by kernel_rfl) (by kernel_rfl) (by kernel_rfl) (fun _ _ _ h => h) (Or.inl ⟨by rfl, ?_⟩) (by assumption) ?_
        rotate_left
        · intro w9 hSw; (try dsimp only at hSw); go_simp; first | done | (with_reducible rfl)
        try simp only [Act.put]
        refine wpAnyH_take (i := 12) (v := ?_) rfl (by kernel_rfl) (by kernel_rfl) (by kernel_rfl) (fun _ _ _ h => h) (Or.inl ⟨by rfl, ?_⟩) (by assumption) ?_
        rotate_left
        · intro w9 hSw; (try dsimp only at hSw); go_simp; first | done | (with_reducible rfl)
        try simp only [Act.put]
        refine wpAnyH_take (i := 13) (v := ?_) rfl (by kernel_rfl) (by kernel_rfl) (by kernel_rfl) (fun _ _ _ h => h) (Or.inl ⟨by rfl, ?_⟩) (by assumption) ?_
        rotate_left
        · intro w9 hSw; (try dsimp only at hSw); go_simp; first | done | (with_reducible rfl)
        try simp only [Act.put]
        refine wpAnyH_take (i := 14) (v := ?_) rfl (by kernel_rfl) (by kernel_rfl) (by kernel_rfl) (fun _ _ _ h => h) (Or.inl ⟨by rfl, ?_⟩) (by assumption) ?_
        rotate_left
        · intro w9 hSw; (try dsimp only at hSw); go_simp; first | done | (with_reducible rfl)
        try simp only [Act.put]
        refine wpAnyH_take (i := 15) (v := ?_) rfl (by kernel_rfl) (by kernel_rfl) (by kernel_rfl) (fun _ _ _ h => h) (Or.inl ⟨by rfl, ?_⟩) (by assumption) ?_
        rotate_left
        · intro w9 hSw; (try dsimp only at hSw); go_simp; first | done | (with_reducible rfl)
        try simp only [Act.put]
        refine wpAnyH_take (i := 16) (v := ?_) rfl (by kernel_rfl) (by kernel_rfl) (by kernel_rfl) (fun _ _ _ h => h) (Or.inl ⟨by rfl, ?_⟩) (by assumption) ?_
        rotate_left
        · intro w9 hSw; (try dsimp only at hSw); go_simp; first | done | (with_reducible rfl)
        try simp only [Act.put]
        refine wpAnyH_take (i := 17) (v := ?_) rfl (by kernel_rfl) (by kernel_rfl) (by kernel_rfl) (fun _ _ _ h => h) (Or.inl ⟨by rfl, ?_⟩) (by assumption) ?_
        rotate_left
        · intro w9 hSw; (try dsimp only at hSw); go_simp; first | done | (with_reducible rfl)
        try simp only [Act.put]
        refine wpAnyH_take (i := 18) (v := ?_) rfl (by kernel_rfl) (by kernel_rfl) (by kernel_rfl) (fun _ _ _ h => h) (Or.inl ⟨by rfl, ?_⟩) (by assumption) ?_
        rotate_left
        · intro w9 hSw; (try dsimp only at hSw); go_simp; first | done | (with_reducible rfl)
        try simp only [Act.put]
        refine wpAnyH_take (i := 19) (v := ?_) rfl (by kernel_rfl) (by kernel_rfl) (by kernel_rfl) (fun _ _ _ h => h) (Or.inl ⟨by rfl, ?_⟩) (by assumption) ?_
        rotate_left
        · intro w9 hSw; (try dsimp only at hSw); go_simp; first | done | (with_reducible rfl)
        try simp only [Act.put]
        refine wpAnyH_take (i := 20) (v := ?_) rfl (by kernel_rfl) (by kernel_rfl) (by kernel_rfl) (fun _ _ _ h => h) (Or.inl ⟨by rfl, ?_⟩) (by assumption) ?_
        rotate_left
        · intro w9 hSw; (try dsimp only at hSw); go_simp; first | done | (with_reducible rfl)
        try simp only [Act.put]
        refine wpAnyH_take (i := 21) (v := ?_) rfl (by kernel_rfl) (by kernel_rfl) (by kernel_rfl) (fun _ _ _ h => h) (Or.inl ⟨by rfl, ?_⟩) (by assumption) ?_
        rotate_left
        · intro w9 hSw; (try dsimp only at hSw); go_simp; first | done | (with_reducible rfl)
        try simp only [Act.put]
        refine wpAnyH_take (i := 22) (v := ?_) rfl (by kernel_rfl) (by kernel_rfl) (by kernel_rfl) (fun _ _ _ h => h) (Or.inl ⟨by rfl, ?_⟩) (by assumption) ?_
        rotate_left
        · intro w9 hSw; (try dsimp only at hSw); go_simp; first | done | (with_reducible rfl)
        try simp only [Act.put]
        refine wpAnyH_take (i := 23) (v := ?_) rfl (by kernel_rfl) (by kernel_rfl) (by kernel_rfl) (fun _ _ _ h => h) (Or.inl ⟨by rfl, ?_⟩) (by assumption) ?_
        rotate_left
        · intro w9 hSw; (try dsimp only at hSw); go_simp; first | done | (with_reducible rfl)
        try simp only [Act.put]
        refine wpAnyH_take (i := 24) (v := ?_) rfl (by kernel_rfl) (by kernel_rfl) (by kernel_rfl) (fun _ _ _ h => h) (Or.inl ⟨by rfl, ?_⟩) (by assumption) ?_
        rotate_left
        · intro w9 hSw; (try dsimp only at hSw); go_simp; first | done | (with_reducible rfl)
        try simp only [Act.put]
        refine wpAnyH_ready (rs := [1, 25]) (by kernel_rfl) (by simp) ?_
        refine AllReadyH.cons rfl (fun K hK => ?_) ?_
        · go_simp
          refine hK.out _ _ (HSx.out _ HMd.out.bel) (fun hHeld => ?_)
          clear hK K
          try simp only [Act.put, List.setIfInBounds_toArray, List.set_cons_zero, List.set_cons_succ]
          refine wpAnyH_ready (rs := [25]) (by kernel_rfl) (by simp) ?_
          refine AllReadyH.cons rfl (fun K hK => ?_) AllReadyH.nil
          (try rw [if_pos (by rfl)])
          go_simp
          go_at_call 112
          refine (CF.out _ HMd.out.bel _ _ (by first | rfl | simp) (by first | rfl | simp) _ (by omega) _ _).mono ?_
          rintro e wz ⟨bb, off, d, rfl, hce, hbz⟩
          have HZ := Lib.hid (M3.call HMd.out hbz (Nat.le_refl _))
          have CE := Lib.hid hce
          have z1 := HZ.out.row.cell 4
          clear hce hbz
          refine hK.out _ _ (HSx.out _ HZ.out.bel) (fun hHeld => ?_)
          clear hK K
          try simp only [Act.put, List.setIfInBounds_toArray, List.set_cons_zero, List.set_cons_succ]
          refine wpAnyH_ready (rs := [26]) (by kernel_rfl) (by simp) ?_
          refine AllReadyH.cons rfl (fun K hK => ?_) AllReadyH.nil
          refine step_cells_push rfl (.tmp 67) (.tmp 91) _ rfl x0.heap.size 94 (.float .f32 0) 1 4 Try.underlying42 infoF32 rfl (by omega) (by omega) (.slice A4 n4 c4') n4 (fv (dvN cc R t k)) ?_ HZ.out.o4 bb off t d (fv (dvR (rowsF cc t k) (rowsF R t k))) ?_ LEN4.out CE.out (fv_oneF _) ROOM4.out HZ.out.size ?_
          rfl
          rfl
          intro Av cv wv hown hgr hbl hat
          have HV : Hid (M3 x0 (wv.setCell ⟨gx, 4, none⟩ (.slice Av (n4 + t) cv)) x0.heap.size gx 48 94 94 94 1 1 1 (.int .i64 (s : Int)) (.int .i64 (t : Int)) (.slice A' P.length c') (.slice A3 (n3 + s) c3') (.slice Av (n4 + t) cv) P.length (n3 + s) (n4 + t) (fv (dvN a P s 1)) (fv (dvN b Q s (k + 1))) (fv (dvN cc R t (k + 1)))) := by
            have hq := M3.push4 HZ.out hown hgr hat
            rw [← fv_append, ← ES4.out] at hq
            exact hq
          have hrw := HZ.out.row.grown hgr (fun e => (HZ.out.d4 _ e.symm) rfl)
          have y0 := hrw.cell 4
          have y1 := hrw.frozen 4
          have HBv : Hid (Below x0.heap.size x0 wv) := HZ.out.bel.trans hbl
          clear hown hgr hbl hat hrw
          refine hK.out _ _ (HSx.out _ HBv.out) (fun hHeld => ?_)
          clear hK K
          try simp only [Act.put, List.setIfInBounds_toArray]
          refine wpAnyH_take (i := 27) (v := ?_) rfl (by kernel_rfl) (by kernel_rfl) (by kernel_rfl) (fun _ _ _ h => h) (Or.inl ⟨by rfl, ?_⟩) (by assumption) ?_
          rotate_left
          · intro w9 hSw; (try dsimp only at hSw); go_simp; first | done | (with_reducible rfl)
          try simp only [Act.put]
          refine wpAnyH_ready (rs := [28]) (by kernel_rfl) (by simp) ?_
          refine AllReadyH.cons rfl (fun K hK => ?_) AllReadyH.nil
          go_simp
          refine hK.out _ _ (HSx.out _ HV.out.bel) (fun hHeld => ?_)
          clear hK K
          try simp only [Act.put, List.setIfInBounds_toArray, List.set_cons_zero, List.set_cons_succ]
          refine wpAnyH_done (by kernel_rfl) ?_ _
          clear y0 y1 z1 e5
          go_wp2_with fail
          go_roundg (gk - 1)
          case measure => have := HLT.out; omega
          case rel => exact ⟨k + 1, n3 + s, n4 + t, A3, c3', Av, cv, by go_num, by have := HLT.out; omega, by have := HLT.out; omega, by show _ = _; rw [HN3.out, Nat.succ_mul], by show _ = _; rw [HN4.out, Nat.succ_mul], HV.out⟩
        refine AllReadyH.cons rfl (fun K hK => ?_) AllReadyH.nil
        · skip
          (try rw [if_pos (by rfl)])
          go_simp
          go_at_call 112
          refine (CF.out _ HMd.out.bel _ _ (by first | rfl | simp) (by first | rfl | simp) _ (by omega) _ _).mono ?_
          rintro e wz ⟨bb, off, d, rfl, hce, hbz⟩
          have HZ := Lib.hid (M3.call HMd.out hbz (Nat.le_refl _))
          have CE := Lib.hid hce
          have z1 := HZ.out.row.cell 4
          clear hce hbz
          refine hK.out _ _ (HSx.out _ HZ.out.bel) (fun hHeld => ?_)
          clear hK K
          try simp only [Act.put, List.setIfInBounds_toArray, List.set_cons_zero, List.set_cons_succ]
          refine wpAnyH_ready (rs := [1]) (by kernel_rfl) (by simp) ?_
          refine AllReadyH.cons rfl (fun K hK => ?_) AllReadyH.nil
          go_simp
          refine hK.out _ _ (HSx.out _ HZ.out.bel) (fun hHeld => ?_)
          clear hK K
          try simp only [Act.put, List.setIfInBounds_toArray, List.set_cons_zero, List.set_cons_succ]
          refine wpAnyH_ready (rs := [26]) (by kernel_rfl) (by simp) ?_
          refine AllReadyH.cons rfl (fun K hK => ?_) AllReadyH.nil
          refine step_cells_push rfl (.tmp 67) (.tmp 91) _ rfl x0.heap.size 94 (.float .f32 0) 1 4 Try.underlying42 infoF32 rfl (by omega) (by omega) (.slice A4 n4 c4') n4 (fv (dvN cc R t k)) ?_ HZ.out.o4 bb off t d (fv (dvR (rowsF cc t k) (rowsF R t k))) ?_ LEN4.out CE.out (fv_oneF _) ROOM4.out HZ.out.size ?_
          rfl
          rfl
          intro Av cv wv hown hgr hbl hat
          have HV : Hid (M3 x0 (wv.setCell ⟨gx, 4, none⟩ (.slice Av (n4 + t) cv)) x0.heap.size gx 48 94 94 94 1 1 1 (.int .i64 (s : Int)) (.int .i64 (t : Int)) (.slice A' P.length c') (.slice A3 (n3 + s) c3') (.slice Av (n4 + t) cv) P.length (n3 + s) (n4 + t) (fv (dvN a P s 1)) (fv (dvN b Q s (k + 1))) (fv (dvN cc R t (k + 1)))) := by
            have hq := M3.push4 HZ.out hown hgr hat
            rw [← fv_append, ← ES4.out] at hq
            exact hq
          have hrw := HZ.out.row.grown hgr (fun e => (HZ.out.d4 _ e.symm) rfl)
          have y0 := hrw.cell 4
          have y1 := hrw.frozen 4
          have HBv : Hid (Below x0.heap.size x0 wv) := HZ.out.bel.trans hbl
          clear hown hgr hbl hat hrw
          refine hK.out _ _ (HSx.out _ HBv.out) (fun hHeld => ?_)
          clear hK K
          try simp only [Act.put, List.setIfInBounds_toArray]
          refine wpAnyH_take (i := 27) (v := ?_) rfl (by kernel_rfl) (by kernel_rfl) (by kernel_rfl) (fun _ _ _ h => h) (Or.inl ⟨by rfl, ?_⟩) (by assumption) ?_
          rotate_left
          · intro w9 hSw; (try dsimp only at hSw); go_simp; first | done | (with_reducible rfl)
          try simp only [Act.put]
          refine wpAnyH_ready (rs := [28]) (by kernel_rfl) (by simp) ?_
          refine AllReadyH.cons rfl (fun K hK => ?_) AllReadyH.nil
          go_simp
          refine hK.out _ _ (HSx.out _ HV.out.bel) (fun hHeld => ?_)
          clear hK K
          try simp only [Act.put, List.setIfInBounds_toArray, List.set_cons_zero, List.set_cons_succ]
          refine wpAnyH_done (by kernel_rfl) ?_ _
          clear y0 y1 z1 e5
          go_wp2_with fail
          go_roundg (gk - 1)
          case measure => have := HLT.out; omega
          case rel => exact ⟨k + 1, n3 + s, n4 + t, A3, c3', Av, cv, by go_num, by have := HLT.out; omega, by have := HLT.out; omega, by show _ = _; rw [HN3.out, Nat.succ_mul], by show _ = _; rw [HN4.out, Nat.succ_mul], HV.out⟩
      refine AllReadyH.cons rfl (fun K hK => ?_) AllReadyH.nil
      · skip
        (try rw [if_pos (by rfl)])
        go_simp
        go_at_call 112
        refine (CF.out _ HMd.out.bel _ _ (by first | rfl | simp) (by first | rfl | simp) _ (by omega) _ _).mono ?_
        rintro e wz ⟨bb, off, d, rfl, hce, hbz⟩
        have HZ := Lib.hid (M3.call HMd.out hbz (Nat.le_refl _))
        have CE := Lib.hid hce
        have z1 := HZ.out.row.cell 3
        clear hce hbz
        refine hK.out _ _ (HSx.out _ HZ.out.bel) (fun hHeld => ?_)
        clear hK K
        try simp only [Act.put, List.setIfInBounds_toArray, List.set_cons_zero, List.set_cons_succ]
        refine wpAnyH_ready (rs := [1]) (by kernel_rfl) (by simp) ?_
        refine AllReadyH.cons rfl (fun K hK => ?_) AllReadyH.nil
        go_simp
        refine hK.out _ _ (HSx.out _ HZ.out.bel) (fun hHeld => ?_)
        clear hK K
        try simp only [Act.put, List.setIfInBounds_toArray, List.set_cons_zero, List.set_cons_succ]
        refine wpAnyH_ready (rs := [26]) (by kernel_rfl) (by simp) ?_
        refine AllReadyH.cons rfl (fun K hK => ?_) AllReadyH.nil
        refine step_cells_push rfl (.tmp 39) (.tmp 63) _ rfl x0.heap.size 94 (.float .f32 0) 1 4 Try.underlying42 infoF32 rfl (by omega) (by omega) (.slice A3 n3 c3') n3 (fv (dvN b Q s k)) ?_ HZ.out.o3 bb off s d (fv (dvR (rowsF b s k) (rowsF Q s k))) ?_ LEN3.out CE.out (fv_oneF _) ROOM3.out HZ.out.size ?_
        rfl
        rfl
        intro Av cv wv hown hgr hbl hat
        have HV : Hid (M3 x0 (wv.setCell ⟨gx, 3, none⟩ (.slice Av (n3 + s) cv)) x0.heap.size gx 48 94 94 94 1 1 1 (.int .i64 (s : Int)) (.int .i64 (t : Int)) (.slice A' P.length c') (.slice Av (n3 + s) cv) (.slice A4 n4 c4') P.length (n3 + s) n4 (fv (dvN a P s 1)) (fv (dvN b Q s (k + 1))) (fv (dvN cc R t k))) := by
          have hq := M3.push3 HZ.out hown hgr hat
          rw [← fv_append, ← ES3.out] at hq
          exact hq
        have hrw := HZ.out.row.grown hgr (fun e => (HZ.out.d3 _ e.symm).1 rfl)
        have y0 := hrw.cell 3
        have y1 := hrw.frozen 3
        have HBv : Hid (Below x0.heap.size x0 wv) := HZ.out.bel.trans hbl
        clear hown hgr hbl hat hrw
        refine hK.out _ _ (HSx.out _ HBv.out) (fun hHeld => ?_)
        clear hK K
        try simp only [Act.put, List.setIfInBounds_toArray]
        refine wpAnyH_take (i := 27) (v := ?_) rfl (by kernel_rfl) (by kernel_rfl) (by kernel_rfl) (fun _ _ _ h => h) (Or.inl ⟨by rfl, ?_⟩) (by assumption) ?_
        rotate_left
        · intro w9 hSw; (try dsimp only at hSw); go_simp; first | done | (with_reducible rfl)
        try simp only [Act.put]
        refine wpAnyH_ready (rs := [28]) (by kernel_rfl) (by simp) ?_
        refine AllReadyH.cons rfl (fun K hK => ?_) AllReadyH.nil
        go_simp
        refine hK.out _ _ (HSx.out _ HV.out.bel) (fun hHeld => ?_)
        clear hK K
        try simp only [Act.put, List.setIfInBounds_toArray, List.set_cons_zero, List.set_cons_succ]
        refine wpAnyH_done (by kernel_rfl) ?_ _
        clear y0 y1 z1 e5
        clear CF HSx HMd HM hHeld HBv CE HZ
        obtain ⟨A3, rfl⟩ : ∃ q, q = Av := ⟨_, rfl⟩
        obtain ⟨c3', rfl⟩ : ∃ q, q = cv := ⟨_, rfl⟩
        obtain ⟨wo, hwo⟩ : ∃ x, x = wv.setCell ⟨gx, 3, none⟩ (.slice A3 (n3 + s) c3') := ⟨_, rfl⟩
        rw [← hwo] at HV ⊢
        have HM := HV
        clear hwo HV
        go_wp2_with fail
        have HMd : Hid (M3 x0 wo.drew x0.heap.size gx 48 94 94 94 1 1 1 (.int .i64 (s : Int)) (.int .i64 (t : Int)) (.slice A' P.length c') (.slice A3 (n3 + s) c3') (.slice A4 n4 c4') P.length (n3 + s) n4 (fv (dvN a P s 1)) (fv (dvN b Q s (k + 1))) (fv (dvN cc R t k))) := M3.drew HM.out
        have CF : Hid (∀ x : World, Below x0.heap.size x0 x → ∀ (A B : Option Addr), A = some ⟨g3, n4, none⟩ → B = some ⟨p4, n4, none⟩ → ∀ m, m = t → ∀ c c' : Nat, Calls Try.prog 112 #[.slice A m c, .slice B m c'] x fun e w' => ∃ bb off d, e = .returned (.slice (some ⟨bb, off, none⟩) t d) ∧ (∀ j u, (fv (dvR (rowsF cc t k) (rowsF R t k)))[j]? = some u → w'.cell? ⟨bb, off + j, none⟩ = some u) ∧ Below x.heap.size x w') := fun x hx A B hA hB m hm c c' =>
          sFillRow_any g3 p4 R.length k3 c4 t k n4 cc R x ((HC.out.below (BX.out.trans (hx.mono BX.out.size)) (Nat.le_refl _)).more (BX.out.trans (hx.mono BX.out.size)).size) ((H4.out.below (BX.out.trans (hx.mono BX.out.size)) (Nat.le_refl _)).more (BX.out.trans (hx.mono BX.out.size)).size) HN4.out HI4.out N3.out HT.out.1 HT.out.2 A B hA hB m hm c c'
        have HSx : Hid (∀ x9 : World, Below x0.heap.size x0 x9 → (x9.cell? ⟨g, 4, none⟩ = some (.slice (some ⟨p4, 0, none⟩) R.length c4))) := fun x9 h9 => (HR.out.below h9 HR.out.lt).cell 4
        have e5 := HM.out.row.cell 4
        have hS0 := HSx.out wo.drew HMd.out.bel
        refine wp_region_held_drew (S := fun x9 => x9.cell? ⟨g, 4, none⟩ = some (.slice (some ⟨p4, 0, none⟩) R.length c4)) (by kernel_rfl) hS0 (fun hHeld => ?_)
        clear hS0
        refine wpAnyH_take (i := 0) (v := ?_) rfl (by kernel_rfl) (by kernel_rfl) (by kernel_rfl) (fun _ _ _ h => h) (Or.inl ⟨by rfl, ?_⟩) (by assumption) ?_
        rotate_left
        · intro w9 hSw; (try dsimp only at hSw); go_simp; first | done | (with_reducible rfl)
        try simp only [Act.put, List.setIfInBounds_toArray]
        refine wpAnyH_take (i := 2) (v := ?_) rfl (by kernel_rfl) (by kernel_rfl) (by kernel_rfl) (fun _ _ _ h => h) (Or.inl ⟨by rfl, ?_⟩) (by assumption) ?_
        rotate_left
        · intro w9 hSw; (try dsimp only at hSw); go_simp; first | done | (with_reducible rfl)
        try simp only [Act.put]
        refine wpAnyH_take (i := 3) (v := ?_) rfl (by kernel_rfl) (by kernel_rfl) (by kernel_rfl) (fun _ _ _ h => h) (Or.inl ⟨by rfl, ?_⟩) (by assumption) ?_
        rotate_left
        · intro w9 hSw; (try dsimp only at hSw); go_simp; first | done | (with_reducible rfl)
        try simp only [Act.put]
        refine wpAnyH_take (i := 4) (v := ?_) rfl (by kernel_rfl) (by kernel_rfl) (by kernel_rfl) (fun _ _ _ h => h) (Or.inl ⟨by rfl, ?_⟩) (by assumption) ?_
        rotate_left
        · intro w9 hSw; (try dsimp only at hSw); go_simp; first | done | (with_reducible rfl)
        try simp only [Act.put]
        refine wpAnyH_take (i := 5) (v := ?_) rfl (by kernel_rfl) (by kernel_rfl) (by kernel_rfl) (fun _ _ _ h => h) (Or.inl ⟨by rfl, ?_⟩) (by assumption) ?_
        rotate_left
        · intro w9 hSw; (try dsimp only at hSw); go_simp; first | done | (with_reducible rfl)
        try simp only [Act.put]
        refine wpAnyH_take (i := 6) (v := ?_) rfl (by kernel_rfl) (by kernel_rfl) (by kernel_rfl) (fun _ _ _ h => h) (Or.inl ⟨by rfl, ?_⟩) (by assumption) ?_
        rotate_left
        · intro w9 hSw; (try dsimp only at hSw); go_simp; first | done | (with_reducible rfl)
        try simp only [Act.put]
        refine wpAnyH_take (i := 7) (v := ?_) rfl (by kernel_rfl) (by kernel_rfl) (by kernel_rfl) (fun _ _ _ h => h) (Or.inl ⟨by rfl, ?_⟩) (by assumption) ?_
        rotate_left
        · intro w9 hSw; (try dsimp only at hSw); go_simp; first | done | (with_reducible rfl)
        try simp only [Act.put]
        refine wpAnyH_take (i := 8) (v := ?_) rfl (by kernel_rfl) (by kernel_rfl) (by kernel_rfl) (fun _ _ _ h => h) (Or.inl ⟨by rfl, ?_⟩) (by assumption) ?_
        rotate_left
        · intro w9 hSw; (try dsimp only at hSw); go_simp; first | done | (with_reducible rfl)
        try simp only [Act.put]
        refine wpAnyH_take (i := 9) (v := ?_) rfl (by kernel_rfl) (by kernel_rfl) (by kernel_rfl) (fun _ _ _ h => h) (Or.inl ⟨by rfl, ?_⟩) (by assumption) ?_
        rotate_left
        · intro w9 hSw; (try dsimp only at hSw); go_simp; first | done | (with_reducible rfl)
        try simp only [Act.put]
        refine wpAnyH_take (i := 10) (v := ?_) rfl (by kernel_rfl) (by kernel_rfl) (by kernel_rfl) (fun _ _ _ h => h) (Or.inl ⟨by rfl, ?_⟩) (by assumption) ?_
        rotate_left
        · intro w9 hSw; (try dsimp only at hSw); go_simp; first | done | (with_reducible rfl)
        try simp only [Act.put]
        refine wpAnyH_take (i := 11) (v := ?_) rfl (by kernel_rfl) (by kernel_rfl) (by kernel_rfl) (fun _ _ _ h => h) (Or.inl ⟨by rfl, ?_⟩) (by assumption) ?_
        rotate_left
        · intro w9 hSw; (try dsimp only at hSw); go_simp; first | done | (with_reducible rfl)
        try simp only [Act.put]
        refine wpAnyH_take (i := 12) (v := ?_) rfl (by kernel_rfl) (by kernel_rfl) (by kernel_rfl) (fun _ _ _ h => h) (Or.inl ⟨by rfl, ?_⟩) (by assumption) ?_
        rotate_left
        · intro w9 hSw; (try dsimp only at hSw); go_simp; first | done | (with_reducible rfl)
        try simp only [Act.put]
        refine wpAnyH_take (i := 13) (v := ?_) rfl (by kernel_rfl) (by kernel_rfl) (by kernel_rfl) (fun _ _ _ h => h) (Or.inl ⟨by rfl, ?_⟩) (by assumption) ?_
        rotate_left
        · intro w9 hSw; (try dsimp only at hSw); go_simp; first | done | (with_reducible rfl)
        try simp only [Act.put]
        refine wpAnyH_take (i := 14) (v := ?_) rfl (by kernel_rfl) (by kernel_rfl) (by kernel_rfl) (fun _ _ _ h => h) (Or.inl ⟨by rfl, ?_⟩) (by assumption) ?_
        rotate_left
        · intro w9 hSw; (try dsimp only at hSw); go_simp; first | done | (with_reducible rfl)
        try simp only [Act.put]
        refine wpAnyH_take (i := 15) (v := ?_) rfl (by kernel_rfl) (by kernel_rfl) (by kernel_rfl) (fun _ _ _ h => h) (Or.inl ⟨by rfl, ?_⟩) (by assumption) ?_
        rotate_left
        · intro w9 hSw; (try dsimp only at hSw); go_simp; first | done | (with_reducible rfl)
        try simp only [Act.put]
        refine wpAnyH_take (i := 16) (v := ?_) rfl (by kernel_rfl) (by kernel_rfl) (by kernel_rfl) (fun _ _ _ h => h) (Or.inl ⟨by rfl, ?_⟩) (by assumption) ?_
        rotate_left
        · intro w9 hSw; (try dsimp only at hSw); go_simp; first | done | (with_reducible rfl)
        try simp only [Act.put]
        refine wpAnyH_take (i := 17) (v := ?_) rfl (by kernel_rfl) (by kernel_rfl) (by kernel_rfl) (fun _ _ _ h => h) (Or.inl ⟨by rfl, ?_⟩) (by assumption) ?_
        rotate_left
        · intro w9 hSw; (try dsimp only at hSw); go_simp; first | done | (with_reducible rfl)
        try simp only [Act.put]
        refine wpAnyH_take (i := 18) (v := ?_) rfl (by kernel_rfl) (by kernel_rfl) (by kernel_rfl) (fun _ _ _ h => h) (Or.inl ⟨by rfl, ?_⟩) (by assumption) ?_
        rotate_left
        · intro w9 hSw; (try dsimp only at hSw); go_simp; first | done | (with_reducible rfl)
        try simp only [Act.put]
        refine wpAnyH_take (i := 19) (v := ?_) rfl (by kernel_rfl) (by kernel_rfl) (by kernel_rfl) (fun _ _ _ h => h) (Or.inl ⟨by rfl, ?_⟩) (by assumption) ?_
        rotate_left
        · intro w9 hSw; (try dsimp only at hSw); go_simp; first | done | (with_reducible rfl)
        try simp only [Act.put]
        refine wpAnyH_take (i := 20) (v := ?_) rfl (by kernel_rfl) (by kernel_rfl) (by kernel_rfl) (fun _ _ _ h => h) (Or.inl ⟨by rfl, ?_⟩) (by assumption) ?_
        rotate_left
        · intro w9 hSw; (try dsimp only at hSw); go_simp; first | done | (with_reducible rfl)
        try simp only [Act.put]
        refine wpAnyH_take (i := 21) (v := ?_) rfl (by kernel_rfl) (by kernel_rfl) (by kernel_rfl) (fun _ _ _ h => h) (Or.inl ⟨by rfl, ?_⟩) (by assumption) ?_
        rotate_left
        · intro w9 hSw; (try dsimp only at hSw); go_simp; first | done | (with_reducible rfl)
        try simp only [Act.put]
        refine wpAnyH_take (i := 22) (v := ?_) rfl (by kernel_rfl) (by kernel_rfl) (by kernel_rfl) (fun _ _ _ h => h) (Or.inl ⟨by rfl, ?_⟩) (by assumption) ?_
        rotate_left
        · intro w9 hSw; (try dsimp only at hSw); go_simp; first | done | (with_reducible rfl)
        try simp only [Act.put]
        refine wpAnyH_take (i := 23) (v := ?_) rfl (by kernel_rfl) (by kernel_rfl) (by kernel_rfl) (fun _ _ _ h => h) (Or.inl ⟨by rfl, ?_⟩) (by assumption) ?_
        rotate_left
        · intro w9 hSw; (try dsimp only at hSw); go_simp; first | done | (with_reducible rfl)
        try simp only [Act.put]
        refine wpAnyH_take (i := 24) (v := ?_) rfl (by kernel_rfl) (by kernel_rfl) (by kernel_rfl) (fun _ _ _ h => h) (Or.inl ⟨by rfl, ?_⟩) (by assumption) ?_
        rotate_left
        · intro w9 hSw; (try dsimp only at hSw); go_simp; first | done | (with_reducible rfl)
        try simp only [Act.put]
        refine wpAnyH_ready (rs := [1, 25]) (by kernel_rfl) (by simp) ?_
        refine AllReadyH.cons rfl (fun K hK => ?_) ?_
        · go_simp
          refine hK.out _ _ (HSx.out _ HMd.out.bel) (fun hHeld => ?_)
          clear hK K
          try simp only [Act.put, List.setIfInBounds_toArray, List.set_cons_zero, List.set_cons_succ]
          refine wpAnyH_ready (rs := [25]) (by kernel_rfl) (by simp) ?_
          refine AllReadyH.cons rfl (fun K hK => ?_) AllReadyH.nil
          (try rw [if_pos (by rfl)])
          go_simp
          go_at_call 112
          refine (CF.out _ HMd.out.bel _ _ (by first | rfl | simp) (by first | rfl | simp) _ (by omega) _ _).mono ?_
          rintro e wz ⟨bb, off, d, rfl, hce, hbz⟩
          have HZ := Lib.hid (M3.call HMd.out hbz (Nat.le_refl _))
          have CE := Lib.hid hce
          have z1 := HZ.out.row.cell 4
          clear hce hbz
          refine hK.out _ _ (HSx.out _ HZ.out.bel) (fun hHeld => ?_)
          clear hK K
          try simp only [Act.put, List.setIfInBounds_toArray, List.set_cons_zero, List.set_cons_succ]
          refine wpAnyH_ready (rs := [26]) (by kernel_rfl) (by simp) ?_
          refine AllReadyH.cons rfl (fun K hK => ?_) AllReadyH.nil
          refine step_cells_push rfl (.tmp 67) (.tmp 91) _ rfl x0.heap.size 94 (.float .f32 0) 1 4 Try.underlying42 infoF32 rfl (by omega) (by omega) (.slice A4 n4 c4') n4 (fv (dvN cc R t k)) ?_ HZ.out.o4 bb off t d (fv (dvR (rowsF cc t k) (rowsF R t k))) ?_ LEN4.out CE.out (fv_oneF _) ROOM4.out HZ.out.size ?_
          rfl
          rfl
          intro Av cv wv hown hgr hbl hat
          have HV : Hid (M3 x0 (wv.setCell ⟨gx, 4, none⟩ (.slice Av (n4 + t) cv)) x0.heap.size gx 48 94 94 94 1 1 1 (.int .i64 (s : Int)) (.int .i64 (t : Int)) (.slice A' P.length c') (.slice A3 (n3 + s) c3') (.slice Av (n4 + t) cv) P.length (n3 + s) (n4 + t) (fv (dvN a P s 1)) (fv (dvN b Q s (k + 1))) (fv (dvN cc R t (k + 1)))) := by
            have hq := M3.push4 HZ.out hown hgr hat
            rw [← fv_append, ← ES4.out] at hq
            exact hq
          have hrw := HZ.out.row.grown hgr (fun e => (HZ.out.d4 _ e.symm) rfl)
          have y0 := hrw.cell 4
          have y1 := hrw.frozen 4
          have HBv : Hid (Below x0.heap.size x0 wv) := HZ.out.bel.trans hbl
          clear hown hgr hbl hat hrw
          refine hK.out _ _ (HSx.out _ HBv.out) (fun hHeld => ?_)
          clear hK K
          try simp only [Act.put, List.setIfInBounds_toArray]
          refine wpAnyH_take (i := 27) (v := ?_) rfl (by kernel_rfl) (by kernel_rfl) (by kernel_rfl) (fun _ _ _ h => h) (Or.inl ⟨by rfl, ?_⟩) (by assumption) ?_
          rotate_left
          · intro w9 hSw; (try dsimp only at hSw); go_simp; first | done | (with_reducible rfl)
          try simp only [Act.put]
          refine wpAnyH_ready (rs := [28]) (by kernel_rfl) (by simp) ?_
          refine AllReadyH.cons rfl (fun K hK => ?_) AllReadyH.nil
          go_simp
          refine hK.out _ _ (HSx.out _ HV.out.bel) (fun hHeld => ?_)
          clear hK K
          try simp only [Act.put, List.setIfInBounds_toArray, List.set_cons_zero, List.set_cons_succ]
          refine wpAnyH_done (by kernel_rfl) ?_ _
          clear y0 y1 z1 e5
          go_wp2_with fail
          go_roundg (gk - 1)
          case measure => have := HLT.out; omega
          case rel => exact ⟨k + 1, n3 + s, n4 + t, A3, c3', Av, cv, by go_num, by have := HLT.out; omega, by have := HLT.out; omega, by show _ = _; rw [HN3.out, Nat.succ_mul], by show _ = _; rw [HN4.out, Nat.succ_mul], HV.out⟩
        refine AllReadyH.cons rfl (fun K hK => ?_) AllReadyH.nil
        · skip
          (try rw [if_pos (by rfl)])
          go_simp
          go_at_call 112
          refine (CF.out _ HMd.out.bel _ _ (by first | rfl | simp) (by first | rfl | simp) _ (by omega) _ _).mono ?_
          rintro e wz ⟨bb, off, d, rfl, hce, hbz⟩
          have HZ := Lib.hid (M3.call HMd.out hbz (Nat.le_refl _))
          have CE := Lib.hid hce
          have z1 := HZ.out.row.cell 4
          clear hce hbz
          refine hK.out _ _ (HSx.out _ HZ.out.bel) (fun hHeld => ?_)
          clear hK K
          try simp only [Act.put, List.setIfInBounds_toArray, List.set_cons_zero, List.set_cons_succ]
          refine wpAnyH_ready (rs := [1]) (by kernel_rfl) (by simp) ?_
          refine AllReadyH.cons rfl (fun K hK => ?_) AllReadyH.nil
          go_simp
          refine hK.out _ _ (HSx.out _ HZ.out.bel) (fun hHeld => ?_)
          clear hK K
          try simp only [Act.put, List.setIfInBounds_toArray, List.set_cons_zero, List.set_cons_succ]
          refine wpAnyH_ready (rs := [26]) (by kernel_rfl) (by simp) ?_
          refine AllReadyH.cons rfl (fun K hK => ?_) AllReadyH.nil
          refine step_cells_push rfl (.tmp 67) (.tmp 91) _ rfl x0.heap.size 94 (.float .f32 0) 1 4 Try.underlying42 infoF32 rfl (by omega) (by omega) (.slice A4 n4 c4') n4 (fv (dvN cc R t k)) ?_ HZ.out.o4 bb off t d (fv (dvR (rowsF cc t k) (rowsF R t k))) ?_ LEN4.out CE.out (fv_oneF _) ROOM4.out HZ.out.size ?_
          rfl
          rfl
          intro Av cv wv hown hgr hbl hat
          have HV : Hid (M3 x0 (wv.setCell ⟨gx, 4, none⟩ (.slice Av (n4 + t) cv)) x0.heap.size gx 48 94 94 94 1 1 1 (.int .i64 (s : Int)) (.int .i64 (t : Int)) (.slice A' P.length c') (.slice A3 (n3 + s) c3') (.slice Av (n4 + t) cv) P.length (n3 + s) (n4 + t) (fv (dvN a P s 1)) (fv (dvN b Q s (k + 1))) (fv (dvN cc R t (k + 1)))) := by
            have hq := M3.push4 HZ.out hown hgr hat
            rw [← fv_append, ← ES4.out] at hq
            exact hq
          have hrw := HZ.out.row.grown hgr (fun e => (HZ.out.d4 _ e.symm) rfl)
          have y0 := hrw.cell 4
          have y1 := hrw.frozen 4
          have HBv : Hid (Below x0.heap.size x0 wv) := HZ.out.bel.trans hbl
          clear hown hgr hbl hat hrw
          refine hK.out _ _ (HSx.out _ HBv.out) (fun hHeld => ?_)
          clear hK K
          try simp only [Act.put, List.setIfInBounds_toArray]
          refine wpAnyH_take (i := 27) (v := ?_) rfl (by kernel_rfl) (by kernel_rfl) (by kernel_rfl) (fun _ _ _ h => h) (Or.inl ⟨by rfl, ?_⟩) (by assumption) ?_
          rotate_left
          · intro w9 hSw; (try dsimp only at hSw); go_simp; first | done | (with_reducible rfl)
          try simp only [Act.put]
          refine wpAnyH_ready (rs := [28]) (by kernel_rfl) (by simp) ?_
          refine AllReadyH.cons rfl (fun K hK => ?_) AllReadyH.nil
          go_simp
          refine hK.out _ _ (HSx.out _ HV.out.bel) (fun hHeld => ?_)
          clear hK K
          try simp only [Act.put, List.setIfInBounds_toArray, List.set_cons_zero, List.set_cons_succ]
          refine wpAnyH_done (by kernel_rfl) ?_ _
          clear y0 y1 z1 e5
          go_wp2_with fail
          go_roundg (gk - 1)
          case measure => have := HLT.out; omega
          case rel => exact ⟨k + 1, n3 + s, n4 + t, A3, c3', Av, cv, by go_num, by have := HLT.out; omega, by have := HLT.out; omega, by show _ = _; rw [HN3.out, Nat.succ_mul], by show _ = _; rw [HN4.out, Nat.succ_mul], HV.out⟩
    · have hks : k = s := by omega
      have dk : decide ((k : Int) < (s : Int)) = false := decide_eq_false (by omega)
      have HME : Hid (M3 x0 wo x0.heap.size gx 48 94 94 94 1 1 1 (.int .i64 (s : Int)) (.int .i64 (t : Int)) (.slice A' P.length c') (.slice A3 n3 c3') (.slice A4 n4 c4') P.length n3 n4 (fv (dvN a P s 1)) (fv (dvN b Q s s)) (fv (dvN cc R t s))) := by have h := HM.out; rw [hks] at h; exact h
      have dk2 : ¬ (k : Int) < (s : Int) := by omega
      clear hks HM hS hT
      have HK := Lib.hid (sGiveF9 (s : Int) (t : Int) (dvN a P s 1) (dvN b Q s s) (dvN cc R t s) A' P.length c' A3 n3 c3' A4 n4 c4' wo x0.heap.size HME.out.o2 HME.out.o3 HME.out.o4)
      have HR5 := Lib.hid (RR.out.below HME.out.bel RR.out.lt)
      have BX5 := Lib.hid (BX.out.trans (HME.out.bel.mono BX.out.size))
      have k0 := HME.out.row.cell 0; have k1' := HME.out.row.cell 1; have k2' := HME.out.row.cell 2; have k3' := HME.out.row.cell 3; have k4 := HME.out.row.cell 4
      go_wp2_with (go_at_call 113; refine HK.out.mono ?_; rintro e y5 ⟨ok2, hok2, rfl, hb5⟩; have HOK2 := Lib.hid hok2; have RRz := Lib.hid (HR5.out.below hb5 HR5.out.lt); have BXz := Lib.hid (BX5.out.trans (hb5.mono BX5.out.size)); have HB5 := Lib.hid hb5; have s0 := RRz.out.cell 0; have s1 := RRz.out.cell 1; have s2 := RRz.out.cell 2; have s3 := RRz.out.cell 3; have s4 := RRz.out.cell 4; have f0 := RRz.out.frozen 0; have f1 := RRz.out.frozen 1; have f2 := RRz.out.frozen 2; have f3 := RRz.out.frozen 3; have f4 := RRz.out.frozen 4; clear hok2 hb5 k0 k1' k2' k3' k4)
      clear s0 s1 s2 s3 s4 f0 f1 f2 f3 f4
      have hlr := RR.out.lt
      have hF := (((((RRz.out.set_ 0 (.int .i64 (ckI ok2 (s : Int)))).set_ 1 (.int .i64 (ckI ok2 (t : Int)))).set_ 2 (.slice (ckA ok2 A') (ckN ok2 P.length) (ckN ok2 c'))).set_ 3 (.slice (ckA ok2 A3) (ckN ok2 n3) (ckN ok2 c3'))).set_ 4 (.slice (ckA ok2 A4) (ckN ok2 n4) (ckN ok2 c4')))
      have hBF : Below w.heap.size w (((((y5.setCell ⟨w.heap.size, 0, none⟩ (.int .i64 (ckI ok2 (s : Int)))).setCell ⟨w.heap.size, 1, none⟩ (.int .i64 (ckI ok2 (t : Int)))).setCell ⟨w.heap.size, 2, none⟩ (.slice (ckA ok2 A') (ckN ok2 P.length) (ckN ok2 c'))).setCell ⟨w.heap.size, 3, none⟩ (.slice (ckA ok2 A3) (ckN ok2 n3) (ckN ok2 c3'))).setCell ⟨w.heap.size, 4, none⟩ (.slice (ckA ok2 A4) (ckN ok2 n4) (ckN ok2 c4'))) := (((((BXz.out.setCell (p := ⟨w.heap.size, 0, none⟩) (Nat.le_refl _) (.int .i64 (ckI ok2 (s : Int)))).setCell (p := ⟨w.heap.size, 1, none⟩) (Nat.le_refl _) (.int .i64 (ckI ok2 (t : Int)))).setCell (p := ⟨w.heap.size, 2, none⟩) (Nat.le_refl _) (.slice (ckA ok2 A') (ckN ok2 P.length) (ckN ok2 c'))).setCell (p := ⟨w.heap.size, 3, none⟩) (Nat.le_refl _) (.slice (ckA ok2 A3) (ckN ok2 n3) (ckN ok2 c3'))).setCell (p := ⟨w.heap.size, 4, none⟩) (Nat.le_refl _) (.slice (ckA ok2 A4) (ckN ok2 n4) (ckN ok2 c4')))
      have keepF : ∀ g, x0.heap.size ≤ g → g < wo.heap.size → (((((y5.setCell ⟨w.heap.size, 0, none⟩ (.int .i64 (ckI ok2 (s : Int)))).setCell ⟨w.heap.size, 1, none⟩ (.int .i64 (ckI ok2 (t : Int)))).setCell ⟨w.heap.size, 2, none⟩ (.slice (ckA ok2 A') (ckN ok2 P.length) (ckN ok2 c'))).setCell ⟨w.heap.size, 3, none⟩ (.slice (ckA ok2 A3) (ckN ok2 n3) (ckN ok2 c3'))).setCell ⟨w.heap.size, 4, none⟩ (.slice (ckA ok2 A4) (ckN ok2 n4) (ckN ok2 c4'))).heap[g]? = wo.heap[g]? := fun g h1 h2 => (heap_setF _ _ _ _ _ (by omega)).trans (HB5.out.block g h2)
      refine bodyPost_ret (results_cell2 rfl _ _ w.heap.size 48 #[.int .i64 (ckI ok2 (s : Int)), .int .i64 (ckI ok2 (t : Int)), .slice (ckA ok2 A') (ckN ok2 P.length) (ckN ok2 c'), .slice (ckA ok2 A3) (ckN ok2 n3) (ckN ok2 c3'), .slice (ckA ok2 A4) (ckN ok2 n4) (ckN ok2 c4')] (0, 0) _ (.bool ok2) rfl rfl hF Try.underlying48 rfl (by kernel_rfl)) rfl ?_
      obtain ⟨F, hFF⟩ : ∃ F, F = (((((y5.setCell ⟨w.heap.size, 0, none⟩ (.int .i64 (ckI ok2 (s : Int)))).setCell ⟨w.heap.size, 1, none⟩ (.int .i64 (ckI ok2 (t : Int)))).setCell ⟨w.heap.size, 2, none⟩ (.slice (ckA ok2 A') (ckN ok2 P.length) (ckN ok2 c'))).setCell ⟨w.heap.size, 3, none⟩ (.slice (ckA ok2 A3) (ckN ok2 n3) (ckN ok2 c3'))).setCell ⟨w.heap.size, 4, none⟩ (.slice (ckA ok2 A4) (ckN ok2 n4) (ckN ok2 c4'))) := ⟨_, rfl⟩
      rw [← hFF] at hBF keepF ⊢
      clear hF hFF
      have l1 : (dvN a P s 1).length = P.length := SlF.len (own_sl HME.out.o2)
      have l2 : (dvN b Q s s).length = n3 := SlF.len (own_sl HME.out.o3)
      have l3 : (dvN cc R t s).length = n4 := SlF.len (own_sl HME.out.o4)
      have oa : F.ownsRow x0.heap.size 94 1 (.slice A' P.length c') (dvN a P s 1).length (fv (dvN a P s 1)) := by rw [l1]; exact own_move HME.out.o2 (fun g hg => keepF g (HME.out.o2.lt g hg).1 (HME.out.o2.lt g hg).2)
      have os : F.ownsRow x0.heap.size 94 1 (.slice A3 n3 c3') (dvN b Q s s).length (fv (dvN b Q s s)) := by rw [l2]; exact own_move HME.out.o3 (fun g hg => keepF g (HME.out.o3.lt g hg).1 (HME.out.o3.lt g hg).2)
      have oe : F.ownsRow x0.heap.size 94 1 (.slice A4 n4 c4') (dvN cc R t s).length (fv (dvN cc R t s)) := by rw [l3]; exact own_move HME.out.o4 (fun g hg => keepF g (HME.out.o4.lt g hg).1 (HME.out.o4.lt g hg).2)
      rw [← HOK2.out, ← ckV_agg]
      exact ⟨_, rfl, ckO ok2 ⟨_, _, _, rfl, ⟨World.ownsRow.mono oa (by omega), fun k hk => (oa.lt k hk).2⟩, ⟨World.ownsRow.mono os (by omega), fun k hk => (os.lt k hk).2⟩, ⟨World.ownsRow.mono oe (by omega), fun k hk => (oe.lt k hk).2⟩, fun k hk => (HME.out.d2 k hk).2.1, fun k hk => (HME.out.d2 k hk).2.2, fun k hk => (HME.out.d3 k hk).2⟩, hBF⟩
end Go.Proofs.Ytkfmjnefbimecaa
