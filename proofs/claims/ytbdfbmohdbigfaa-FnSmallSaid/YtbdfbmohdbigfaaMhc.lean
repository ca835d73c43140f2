/- Several texts in one: Whether a word is among the tests: both programs. The machine that a guess builds, and its words, in memory. -/
import Derived.Test.YtbdfbmohdbigfaaMhb

namespace Go.Proofs.Ytbdfbmohdbigfaa
open Go.RowKit
set_option linter.unusedVariables false
theorem natW_inj {a b : List Nat} (h : natW a = natW b) : a = b := by
  unfold natW at h
  exact List.map_inj_right (fun x y e => by omega) |>.1 h
theorem natW_eq (a b : List Nat) : decide (natW a = natW b) = decide (a = b) := by
  by_cases h : a = b
  · rw [h]; simp
  · rw [decide_eq_false h, decide_eq_false (fun e => h (natW_inj e))]
theorem natW_len (a : List Nat) : (natW a).length = a.length := by unfold natW; simp
theorem TsO.drewN {w : World} {A : Option Addr} {n : Nat} {Q : List (List Nat)} (h : TsO w A n Q) (d : Nat) : TsO (w.drewN d) A n Q := h.below (below_draws (Below.refl w.heap.size w) d) (Nat.le_refl _)
set_option maxHeartbeats 1000000 in
theorem iSameW_any (gt : Nat) (A : Option Addr) (c : Nat) (wd : List Nat) (A' : Option Addr) (c' : Nat) (q : List Nat) (w : World) (k : w.cell? ⟨gt, 0, none⟩ = some (.slice A wd.length c)) (h : SlI w w.heap.size A wd.length (natW wd)) (h' : SlI w w.heap.size A' q.length (natW q)) (hn : wd.length ≤ 1000) (hn' : q.length ≤ 1000) :
    Calls Try.prog 85 #[.slice A' q.length c', .pointer (some ⟨gt, 0, none⟩)] w fun e w' => e = .returned (.bool (decide (q = wd))) ∧ ∃ d, w' = w.drewN d := by
  have C := iEqL_any A' q.length c' (natW q) A wd.length c (natW wd) w w.heap.size w.heap.size h' h (by omega) (by omega)
  rw [natW_eq] at C
  clear h h'
  go_enter Try.func85, Try.ntmps85
  go_wp2_with (first | (go_at_call 86; refine C.mono ?_; rintro e w' ⟨rfl, d, rfl⟩; clear C))
  go_ret
  exact ⟨rfl, d, rfl⟩
set_option maxRecDepth 100000 in
set_option maxHeartbeats 4000000 in
theorem iIxW_any (gt : Nat) (A : Option Addr) (c : Nat) (wd : List Nat) (AQ : Option Addr) (nQ cQ : Nat) (Q : List (List Nat)) (w : World) (k : w.cell? ⟨gt, 0, none⟩ = some (.slice A wd.length c)) (h : SlI w w.heap.size A wd.length (natW wd)) (hQ : TsO w AQ nQ Q) (hn : wd.length ≤ 1000) (hq : ∀ q ∈ Q, q.length ≤ 1000) (hb : nQ ≤ 100000) :
    Calls Try.prog 116 #[.slice AQ nQ cQ, .func (.func 85) #[] #[.pointer (some ⟨gt, 0, none⟩)]] w fun e w' => ∃ z : Int, e = .returned (.int .i64 z) ∧ (0 ≤ z ↔ wd ∈ Q) ∧ ∃ d, w' = w.drewN d := by
  have K := Lib.hid k; have H := Lib.hid h; have HQ := Lib.hid hQ; have HQL := Lib.hid hq
  clear k h hQ hq
  go_enter Try.func116, Try.ntmps116
  go_wp2_with fail
  go_loopg [5, 8] nQ (fun m u5 i wr => ∃ j : Nat, i = .int .i64 j ∧ j ≤ nQ ∧ nQ ≤ m + j ∧ Hid (wd ∉ Q.take j) ∧ Hid (∃ d, wr = w.drewN d))
  case atStart => exact ⟨0, rfl, by omega, by omega, (show wd ∉ Q.take 0 by simp), ⟨0, rfl⟩⟩
  case round =>
    obtain ⟨j, rfl, hj, hm, HN, HD⟩ := hrel
    obtain ⟨wo, rfl⟩ : ∃ x : World, x = wr := ⟨_, rfl⟩
    have HK : Hid (wo.cell? ⟨gt, 0, none⟩ = some (.slice A wd.length c)) := by show _ = _; obtain ⟨d, hd⟩ := HD.out; rw [hd]; exact K.out
    have HH : Hid (SlI wo wo.heap.size A wd.length (natW wd)) := by show SlI _ _ _ _ _; obtain ⟨d, hd⟩ := HD.out; rw [hd]; exact H.out
    have HT : Hid (TsO wo AQ nQ Q) := by show TsO _ _ _ _; obtain ⟨d, hd⟩ := HD.out; rw [hd]; exact HQ.out.drewN d
    have HDD : Hid (∀ n, ∃ d, wo.drewN n = w.drewN d) := fun n => by obtain ⟨d, hd⟩ := HD.out; rw [hd]; exact ⟨d + n, World.drewN_drewN ..⟩
    by_cases hlt : j < nQ
    · have hl := HT.out.1
      obtain ⟨q, hq⟩ : ∃ q, Q[j]? = some q := ⟨_, List.getElem?_eq_getElem (by omega)⟩
      obtain ⟨b, off, Ai, ci, rfl, kx, hsl, _⟩ := HT.out.2 j q hq
      have l0 : (0 : Int) ≤ (j : Int) := by omega
      have l1 : (j : Int) < (nQ : Int) := by omega
      have CC := iSameW_any gt A c wd Ai ci q wo HK.out HH.out hsl hn (HQL.out q (List.mem_of_getElem? hq))
      have HTK : Hid (Q.take (j + 1) = Q.take j ++ [q]) := by
        show _ = _
        obtain ⟨h1, h2⟩ := List.getElem?_eq_some_iff.1 hq
        rw [List.take_succ_eq_append_getElem h1, h2]
      have HQM : Hid (q ∈ Q) := List.mem_of_getElem? hq
      by_cases he : q = wd
      · rw [decide_eq_true he] at CC
        have HIN : Hid (wd ∈ Q) := he ▸ HQM.out
        clear he hq hsl hl
        go_wp2_with fail
        refine CC.mono ?_
        rintro e w' ⟨rfl, d2, rfl⟩
        go_wp2_with fail
        go_ret
        exact ⟨j, rfl, ⟨fun _ => HIN.out, fun _ => by omega⟩, HDD.out d2⟩
      · rw [decide_eq_false he] at CC
        have HN2 : Hid (wd ∉ Q.take (j + 1)) := by
          show ¬ _
          rw [HTK.out]
          intro hin
          rcases List.mem_append.1 hin with h | h
          · exact HN.out h
          · exact he (List.mem_singleton.1 h).symm
        clear he hq hsl hl
        go_wp2_with fail
        refine CC.mono ?_
        rintro e w' ⟨rfl, d2, rfl⟩
        go_wp2_with fail
        go_roundg (gk - 1)
        case measure => omega
        case rel => exact ⟨j + 1, by go_num, by omega, by omega, HN2.out, HDD.out d2⟩
    · obtain rfl : nQ = j := by omega
      have l1 : (nQ : Int) ≤ (nQ : Int) := by omega
      have HNO : Hid (wd ∉ Q) := by
        show ¬ _
        have h := HN.out
        rw [List.take_of_length_le (by have := HT.out.1; omega)] at h
        exact h
      go_wp2_with fail
      go_ret
      exact ⟨-1, rfl, ⟨fun h => by omega, fun h => absurd h HNO.out⟩, HD.out⟩
set_option maxHeartbeats 1000000 in
theorem iHasW_any (gt : Nat) (A : Option Addr) (c : Nat) (wd : List Nat) (AQ : Option Addr) (nQ cQ : Nat) (Q : List (List Nat)) (w : World) (k : w.cell? ⟨gt, 0, none⟩ = some (.slice A wd.length c)) (h : SlI w w.heap.size A wd.length (natW wd)) (hQ : TsO w AQ nQ Q) (hn : wd.length ≤ 1000) (hq : ∀ q ∈ Q, q.length ≤ 1000) (hb : nQ ≤ 100000) :
    Calls Try.prog 84 #[.slice AQ nQ cQ, .func (.func 85) #[] #[.pointer (some ⟨gt, 0, none⟩)]] w fun e w' => e = .returned (.bool (decide (wd ∈ Q))) ∧ ∃ d, w' = w.drewN d := by
  have C := iIxW_any gt A c wd AQ nQ cQ Q w k h hQ hn hq hb
  clear k h hQ hq
  go_enter Try.func84, Try.ntmps84
  go_wp2_with (first | (go_at_call 116; refine C.mono ?_; rintro e w' ⟨z, rfl, hz, d, rfl⟩; clear C; have HZ := Lib.hid hz; clear hz))
  go_ret
  refine ⟨ret_bool ?_, d, rfl⟩
  by_cases h : wd ∈ Q
  · rw [decide_eq_true h]
    have := HZ.out.2 h
    simp [this]
  · rw [decide_eq_false h]
    have : ¬ 0 ≤ z := fun q => h (HZ.out.1 q)
    simp; omega
set_option maxRecDepth 100000 in
set_option maxHeartbeats 4000000 in
theorem sKnown_any (AQ : Option Addr) (nQ cQ : Nat) (Q : List (List Nat)) (A : Option Addr) (c : Nat) (wd : List Nat) (w : World) (h : SlI w w.heap.size A wd.length (natW wd)) (hQ : TsO w AQ nQ Q) (hn : wd.length ≤ 1000) (hq : ∀ q ∈ Q, q.length ≤ 1000) (hb : nQ ≤ 100000) :
    Calls Try.prog 81 #[.slice AQ nQ cQ, .slice A wd.length c] w fun e w' => e = .returned (.bool (decide (wd ∈ Q))) ∧ ∃ d, w' = w.drewN d := by
  have H := Lib.hid h; have HQ := Lib.hid hQ; have HQL := Lib.hid hq
  clear h hQ hq
  go_enter Try.func81, Try.ntmps81
  go_wp2_with fail
  go_loopg [5] nQ (fun m i wr => ∃ j : Nat, i = .int .i64 j ∧ j ≤ nQ ∧ nQ ≤ m + j ∧ Hid (wd ∉ Q.take j) ∧ Hid (∃ d, wr = w.drewN d))
  case atStart => exact ⟨0, rfl, by omega, by omega, (show wd ∉ Q.take 0 by simp), ⟨0, rfl⟩⟩
  case round =>
    obtain ⟨j, rfl, hj, hm, HN, HD⟩ := hrel
    obtain ⟨wo, rfl⟩ : ∃ x : World, x = wr := ⟨_, rfl⟩
    have HH : Hid (SlI wo wo.heap.size A wd.length (natW wd)) := by show SlI _ _ _ _ _; obtain ⟨d, hd⟩ := HD.out; rw [hd]; exact H.out
    have HT : Hid (TsO wo AQ nQ Q) := by show TsO _ _ _ _; obtain ⟨d, hd⟩ := HD.out; rw [hd]; exact HQ.out.drewN d
    have HDD : Hid (∀ n, ∃ d, wo.drewN n = w.drewN d) := fun n => by obtain ⟨d, hd⟩ := HD.out; rw [hd]; exact ⟨d + n, World.drewN_drewN ..⟩
    by_cases hlt : j < nQ
    · have hl := HT.out.1
      obtain ⟨q, hq⟩ : ∃ q, Q[j]? = some q := ⟨_, List.getElem?_eq_getElem (by omega)⟩
      obtain ⟨b, off, Ai, ci, rfl, kx, hsl, _⟩ := HT.out.2 j q hq
      have l0 : (0 : Int) ≤ (j : Int) := by omega
      have l1 : (j : Int) < (nQ : Int) := by omega
      have CC := sEqL_any Ai q.length ci (natW q) A wd.length c (natW wd) wo wo.heap.size wo.heap.size hsl HH.out (by have := HQL.out q (List.mem_of_getElem? hq); omega) (by omega)
      rw [natW_eq] at CC
      have HTK : Hid (Q.take (j + 1) = Q.take j ++ [q]) := by
        show _ = _
        obtain ⟨h1, h2⟩ := List.getElem?_eq_some_iff.1 hq
        rw [List.take_succ_eq_append_getElem h1, h2]
      have HQM : Hid (q ∈ Q) := List.mem_of_getElem? hq
      by_cases he : q = wd
      · rw [decide_eq_true he] at CC
        have HIN : Hid (wd ∈ Q) := he ▸ HQM.out
        clear he hq hsl hl
        go_wp2_with fail
        refine CC.mono ?_
        rintro e w' ⟨rfl, d2, rfl⟩
        go_wp2_with fail
        go_ret
        exact ⟨ret_bool (decide_eq_true HIN.out).symm, HDD.out d2⟩
      · rw [decide_eq_false he] at CC
        have HN2 : Hid (wd ∉ Q.take (j + 1)) := by
          show ¬ _
          rw [HTK.out]
          intro hin
          rcases List.mem_append.1 hin with h | h
          · exact HN.out h
          · exact he (List.mem_singleton.1 h).symm
        clear he hq hsl hl
        go_wp2_with fail
        refine CC.mono ?_
        rintro e w' ⟨rfl, d2, rfl⟩
        go_wp2_with fail
        go_roundg (gk - 1)
        case measure => omega
        case rel => exact ⟨j + 1, by go_num, by omega, by omega, HN2.out, HDD.out d2⟩
    · obtain rfl : nQ = j := by omega
      have l1 : (nQ : Int) ≤ (nQ : Int) := by omega
      have HNO : Hid (wd ∉ Q) := by
        show ¬ _
        have h := HN.out
        rw [List.take_of_length_le (by have := HT.out.1; omega)] at h
        exact h
      go_wp2_with fail
      go_ret
      exact ⟨ret_bool (decide_eq_false HNO.out).symm, HD.out⟩
end Go.Proofs.Ytbdfbmohdbigfaa


namespace Go.Proofs.Ytbdfbmohdbigfaa
open Go.RowKit Go.Maps
set_option linter.unusedVariables false
/-- The words of a list, none of them in a bad block. -/
def El (w : World) (W : List (List Nat)) (ws : List Value) (bad : Nat → Prop) : Prop := ∀ (i : Nat) (wd : List Nat) (u : Value), W[i]? = some wd → ws[i]? = some u → ∃ A c, u = .slice A wd.length c ∧ NilA A ∧ SlI w w.heap.size A wd.length (natW wd) ∧ ∀ b o, A = some ⟨b, o, none⟩ → 0 < wd.length → ¬ bad b
theorem slI_keep {w w' : World} {A : Option Addr} {n : Nat} {xs : List Int} (h : SlI w w.heap.size A n xs) (hs : w.heap.size ≤ w'.heap.size) (hk : ∀ b o, A = some ⟨b, o, none⟩ → 0 < n → w'.heap[b]? = w.heap[b]?) : SlI w' w'.heap.size A n xs := by
  refine ⟨h.1, fun h0 => ?_⟩
  obtain ⟨b, off, e, hb, hc⟩ := h.2 h0
  exact ⟨b, off, e, by omega, fun j u hu => (World.cell?_of_block (a := ⟨b, off + j, none⟩) (hk b off e h0)).trans (hc j u hu)⟩
theorem El.step {w w' : World} {W : List (List Nat)} {ws : List Value} {bad bad' : Nat → Prop} (h : El w W ws bad) (hs : w.heap.size ≤ w'.heap.size) (hk : ∀ b, b < w.heap.size → ¬ bad b → w'.heap[b]? = w.heap[b]?) (hb : ∀ b, b < w.heap.size → bad' b → bad b) : El w' W ws bad' := by
  intro i wd u h1 h2
  obtain ⟨A, c, e1, e2, e3, e4⟩ := h i wd u h1 h2
  have hlt : ∀ b o, A = some ⟨b, o, none⟩ → 0 < wd.length → b < w.heap.size := fun b o e h0 => by
    obtain ⟨b', off, e', hb', -⟩ := e3.2 h0
    rw [e] at e'
    injection e' with e'
    injection e' with e' _ _
    omega
  exact ⟨A, c, e1, e2, slI_keep e3 hs (fun b o e h0 => hk b (hlt b o e h0) (e4 b o e h0)), fun b o e h0 q => e4 b o e h0 (hb b (hlt b o e h0) q)⟩
theorem El.snoc {w : World} {W : List (List Nat)} {ws : List Value} {bad : Nat → Prop} (h : El w W ws bad) (hl : ws.length = W.length) {wd : List Nat} {A : Option Addr} {c : Nat} (h1 : NilA A) (h2 : SlI w w.heap.size A wd.length (natW wd)) (h3 : ∀ b o, A = some ⟨b, o, none⟩ → 0 < wd.length → ¬ bad b) : El w (W ++ [wd]) (ws ++ [.slice A wd.length c]) bad := by
  intro i x u hx hu
  rcases get_snoc hx with hx | ⟨hi, rfl⟩
  · have hil := (List.getElem?_eq_some_iff.1 hx).1
    rw [List.getElem?_append_left (by omega)] at hu
    exact h i x u hx hu
  · rw [hi, List.getElem?_append_right (by omega), hl, Nat.sub_self] at hu
    obtain rfl : Value.slice A x.length c = u := by simpa using hu
    exact ⟨A, c, rfl, h1, h2, h3⟩
def badG (bd : Nat → Prop) (g gm gr : Nat) (v2 v3 v4 : Value) (b : Nat) : Prop := b = g ∨ b = gm ∨ b = gr ∨ v2.ownBlock = some b ∨ v3.ownBlock = some b ∨ v4.ownBlock = some b ∨ bd b
structure Gs (bd : Nat → Prop) (x1 w : World) (lo lim g1 g gm gr T : Nat) (v2 v3 v4 : Value) (N : List Int) (D : List Bool) (W : List (List Nat)) (ws : List Value) (om : Obj) : Prop where
  xb : Xb x1 w lo g 33 2 4 26 1 (.int .i64 0) (.int .i64 (T : Int)) v2 v3 v4 N.length D.length W.length (iv N) (bv D) ws gm gr om (.cells #[.int .i64 0, .int .i64 0, .slice none 0 0, .slice none 0 0] 33 (0, 0))
  el : El w W ws (badG bd g gm gr v2 v3 v4)
  kp : Lo lim g1 x1 w
  l2 : ∀ k, v2.ownBlock = some k → lim ≤ k
  l3 : ∀ k, v3.ownBlock = some k → lim ≤ k
  l4 : ∀ k, v4.ownBlock = some k → k = g1 ∨ lim ≤ k
  lg : lim ≤ g ∧ lim ≤ gm ∧ lim ≤ gr
  li : lim ≤ x1.heap.size
section
variable {bd : Nat → Prop} {x1 w w' : World} {lo lim g1 g gm gr T : Nat} {v2 v3 v4 : Value} {N : List Int} {D : List Bool} {W : List (List Nat)} {ws : List Value} {om : Obj}
theorem Gs.size (h : Gs bd x1 w lo lim g1 g gm gr T v2 v3 v4 N D W ws om) : lim ≤ w.heap.size := Nat.le_trans h.li h.kp.2.2.2.1
theorem Gs.wl (h : Gs bd x1 w lo lim g1 g gm gr T v2 v3 v4 N D W ws om) : ws.length = W.length := by have := h.xb.o4.1; omega
theorem Gs.call {B : Nat} (h : Gs bd x1 w lo lim g1 g gm gr T v2 v3 v4 N D W ws om) (hb : Below B w w') (hB : w.heap.size ≤ B) : Gs bd x1 w' lo lim g1 g gm gr T v2 v3 v4 N D W ws om :=
  ⟨h.xb.call hb hB, h.el.step hb.size (fun b hlt _ => hb.block b (by omega)) (fun _ _ q => q), h.kp.trans (Lo.below hb (Nat.le_trans h.size hB)), h.l2, h.l3, h.l4, h.lg, h.li⟩
theorem Gs.alloc (h : Gs bd x1 w lo lim g1 g gm gr T v2 v3 v4 N D W ws om) (o : Obj) : Gs bd x1 (w.alloc o) lo lim g1 g gm gr T v2 v3 v4 N D W ws om := h.call ((Below.refl _ _).alloc (Nat.le_refl _) o) (Nat.le_refl _)
theorem Gs.drew (h : Gs bd x1 w lo lim g1 g gm gr T v2 v3 v4 N D W ws om) : Gs bd x1 w.drew lo lim g1 g gm gr T v2 v3 v4 N D W ws om := h.call (B := w.heap.size) (Below.drew (Below.refl _ _)) (Nat.le_refl _)
theorem Gs.map {om' : Obj} (h : Gs bd x1 w lo lim g1 g gm gr T v2 v3 v4 N D W ws om) (hb : But gm w w') (ho : w'.heap[gm]? = some om') : Gs bd x1 w' lo lim g1 g gm gr T v2 v3 v4 N D W ws om' :=
  ⟨h.xb.map hb ho, h.el.step hb.2.2.2.1 (fun b hlt hn => hb.2.2.2.2 b hlt (fun e => hn (.inr (.inl e)))) (fun _ _ q => q), h.kp.trans ⟨hb.1, hb.2.1, hb.2.2.1, hb.2.2.2.1, fun k hk hg => hb.2.2.2.2 k (by have := h.size; omega) (by have := h.lg; omega)⟩, h.l2, h.l3, h.l4, h.lg, h.li⟩
theorem Gs.push2 (h : Gs bd x1 w lo lim g1 g gm gr T v2 v3 v4 N D W ws om) {u : Value} {N' : List Int} (ho : w'.ownsRow lo 2 1 u N'.length (iv N')) (hg : w.grownBy w' v2.ownBlock) (hq : ∀ k, u.ownBlock = some k → v2.ownBlock = some k ∨ w.heap.size ≤ k) :
    Gs bd x1 (w'.setCell ⟨g, 2, none⟩ u) lo lim g1 g gm gr T u v3 v4 N' D W ws om := by
  have hsz : (w'.setCell ⟨g, 2, none⟩ u).heap.size = w'.heap.size := by simp [World.setCell]
  refine ⟨h.xb.push2 ho hg hq, h.el.step (by rw [hsz]; exact hg.size) (fun b hlt hn => (Below.heap_setCell _ _ _ _ (show b ≠ g from fun e => hn (.inl e))).trans (hg.block b hlt (fun e => hn (.inr (.inr (.inr (.inl e.symm))))))) (fun b hlt q => ?_), ?_, fun k hk => ?_, h.l3, h.l4, h.lg, h.li⟩
  · rcases q with q | q | q | q | q | q | q
    · exact .inl q
    · exact .inr (.inl q)
    · exact .inr (.inr (.inl q))
    · rcases hq b q with e | e
      · exact .inr (.inr (.inr (.inl e)))
      · omega
    · exact .inr (.inr (.inr (.inr (.inl q))))
    · exact .inr (.inr (.inr (.inr (.inr (.inl q)))))
    · exact .inr (.inr (.inr (.inr (.inr (.inr q)))))
  · exact h.kp.trans ⟨hg.os, hg.tape, hg.output, by rw [hsz]; exact hg.size, fun k hk hg' => (Below.heap_setCell _ _ _ _ (show k ≠ g by have := h.lg; omega)).trans (hg.block k (by have := h.size; omega) (fun e => by have := h.l2 k e.symm; omega))⟩
  · rcases hq k hk with e | e
    · exact h.l2 k e
    · have := h.size; omega
theorem Gs.push3 (h : Gs bd x1 w lo lim g1 g gm gr T v2 v3 v4 N D W ws om) {u : Value} {D' : List Bool} (ho : w'.ownsRow lo 4 1 u D'.length (bv D')) (hg : w.grownBy w' v3.ownBlock) (hq : ∀ k, u.ownBlock = some k → v3.ownBlock = some k ∨ w.heap.size ≤ k) :
    Gs bd x1 (w'.setCell ⟨g, 3, none⟩ u) lo lim g1 g gm gr T v2 u v4 N D' W ws om := by
  have hsz : (w'.setCell ⟨g, 3, none⟩ u).heap.size = w'.heap.size := by simp [World.setCell]
  refine ⟨h.xb.push3 ho hg hq, h.el.step (by rw [hsz]; exact hg.size) (fun b hlt hn => (Below.heap_setCell _ _ _ _ (show b ≠ g from fun e => hn (.inl e))).trans (hg.block b hlt (fun e => hn (.inr (.inr (.inr (.inr (.inl e.symm)))))))) (fun b hlt q => ?_), ?_, h.l2, fun k hk => ?_, h.l4, h.lg, h.li⟩
  · rcases q with q | q | q | q | q | q | q
    · exact .inl q
    · exact .inr (.inl q)
    · exact .inr (.inr (.inl q))
    · exact .inr (.inr (.inr (.inl q)))
    · rcases hq b q with e | e
      · exact .inr (.inr (.inr (.inr (.inl e))))
      · omega
    · exact .inr (.inr (.inr (.inr (.inr (.inl q)))))
    · exact .inr (.inr (.inr (.inr (.inr (.inr q)))))
  · exact h.kp.trans ⟨hg.os, hg.tape, hg.output, by rw [hsz]; exact hg.size, fun k hk hg' => (Below.heap_setCell _ _ _ _ (show k ≠ g by have := h.lg; omega)).trans (hg.block k (by have := h.size; omega) (fun e => by have := h.l3 k e.symm; omega))⟩
  · rcases hq k hk with e | e
    · exact h.l3 k e
    · have := h.size; omega
theorem Gs.push4 (h : Gs bd x1 w lo lim g1 g gm gr T v2 v3 v4 N D W ws om) {u : Value} {wd : List Nat} {A : Option Addr} {c : Nat} (ho : w'.ownsRow lo 26 1 u (W.length + 1) (ws ++ [.slice A wd.length c])) (hg : w.grownBy w' v4.ownBlock) (hq : ∀ k, u.ownBlock = some k → v4.ownBlock = some k ∨ w.heap.size ≤ k)
    (h1 : NilA A) (h2 : SlI w w.heap.size A wd.length (natW wd)) (h3 : ∀ b o, A = some ⟨b, o, none⟩ → 0 < wd.length → ¬ badG bd g gm gr v2 v3 v4 b) :
    Gs bd x1 w' lo lim g1 g gm gr T v2 v3 u N D (W ++ [wd]) (ws ++ [.slice A wd.length c]) om := by
  have hx := h.xb.push4 ho hg hq
  refine ⟨by rw [List.length_append]; exact hx, (h.el.snoc h.wl h1 h2 h3).step hg.size (fun b hlt hn => hg.block b hlt (fun e => hn (.inr (.inr (.inr (.inr (.inr (.inl e.symm)))))))) (fun b hlt q => ?_), ?_, h.l2, h.l3, fun k hk => ?_, h.lg, h.li⟩
  · rcases q with q | q | q | q | q | q | q
    · exact .inl q
    · exact .inr (.inl q)
    · exact .inr (.inr (.inl q))
    · exact .inr (.inr (.inr (.inl q)))
    · exact .inr (.inr (.inr (.inr (.inl q))))
    · rcases hq b q with e | e
      · exact .inr (.inr (.inr (.inr (.inr (.inl e)))))
      · omega
    · exact .inr (.inr (.inr (.inr (.inr (.inr q)))))
  · exact h.kp.trans ⟨hg.os, hg.tape, hg.output, hg.size, fun k hk hg' => hg.block k (by have := h.size; omega) (fun e => by rcases h.l4 k e.symm with q | q <;> omega)⟩
  · rcases hq k hk with e | e
    · exact h.l4 k e
    · have := h.size; exact .inr (by omega)
end
end Go.Proofs.Ytbdfbmohdbigfaa
