/- Arcs of the call's own: cloned; and moved, nothing else being written. -/
import Derived.Test.YtegponioggpkcaaMh
import Derived.Test.YtegponioggpkcaaCat
namespace Go.Proofs.Ytegponioggpkcaa
open Go.RowKit
set_option linter.unusedVariables false
set_option maxHeartbeats 2000000 in
theorem iCloneA_any (b off n c : Nat) (L : List A4) (w : World) (h : SlA w w.heap.size (some ⟨b, off, none⟩) n L) (hn : n ≤ 4294967296) :
    Calls Try.prog 40 #[.slice (some ⟨b, off, none⟩) n c] w fun e w' => ∃ A' c', e = .returned (.slice A' n c') ∧ w'.ownsRow w.heap.size 62 4 (.slice A' n c') n (fa L) ∧ Below w.heap.size w w' := by
  have hl := h.len
  have ha : SlA (w.alloc (.cells #[] 62)) w.heap.size (some ⟨b, off, none⟩) n L := h.below ((Below.refl _ _).alloc (Nat.le_refl _) _) (Nat.le_refl _)
  have hcell := ha.cells
  have HC : Hid (∀ j u, (fa L)[j]? = some u → (w.alloc (.cells #[] 62)).cell? ⟨b, off + j, none⟩ = some u) := hcell
  have HLN : Hid ((fa L).length = n * 4) := by show _ = _; rw [fa_length, hl]; omega
  have HO : Hid ((w.alloc (.cells #[] 62)).ownsRow w.heap.size 62 4 (.slice (some ⟨w.heap.size, 0, none⟩) 0 0) 0 []) := World.ownsRow_made w #[] 0 (Nat.le_refl _) (by unfold maxLen; omega) rfl
  have hb0 : Below w.heap.size w (w.alloc (.cells #[] 62)) := (Below.refl _ _).alloc (Nat.le_refl _) _
  have HB0 := Lib.hid hb0; clear hb0 ha hcell h hl
  have hnil := fun w => Lib.run_eql_slice_nil (P := Try.prog) w 25 62 (some ⟨b, off, none⟩) n c 0 0 Try.underlying25
  go_enter Try.func40, Try.ntmps40
  go_wp2_with (first | (at_builtin; refine wpList_cells_push rfl (.tmp 5) (.tmp 6) _ rfl w.heap.size 62 (.agg #[.int .i64 0, .int .i64 0, .int .i64 0, .int .i64 0]) 4 32 Try.underlying25 infoAr rfl (by omega) (by omega) (.slice (some ⟨w.heap.size, 0, none⟩) 0 0) 0 [] rfl HO.out b off n c (fa L) rfl HLN.out HC.out (fa_one L) (by omega) HB0.out.size ?_; intro v' w' hown hgr hat; obtain ⟨A', c', hv', _, _⟩ := own_form hown; subst hv'; have HG := Lib.hid (grown_below' HO.out hgr HB0.out.size); have HOW := Lib.hid hown; clear hgr hown hat))
  go_ret
  have := HOW.out
  rw [Nat.zero_add, List.nil_append] at this
  exact ⟨A', c', rfl, this, HB0.out.trans HG.out⟩
/-- What a call that appends to one own row does: no other block is written. -/
def Only (A : Option Addr) (n c : Nat) (w w' : World) : Prop := ∀ k, k < w.heap.size → (Value.slice A n c).ownBlock ≠ some k → w'.heap[k]? = w.heap[k]?
def From0 (A : Option Addr) (n c : Nat) (w : World) (A' : Option Addr) (n' c' : Nat) : Prop := ∀ k, (Value.slice A' n' c').ownBlock = some k → (Value.slice A n c).ownBlock = some k ∨ w.heap.size ≤ k
set_option maxHeartbeats 4000000 in
theorem iMovedG_any (lo : Nat) (A : Option Addr) (m cA : Nat) (M : List A4) (B : Option Addr) (n c : Nat) (L : List A4) (d : Int) (w : World) (hO : w.ownsRow lo 62 4 (.slice A m cA) m (fa M)) (hlo : lo ≤ w.heap.size) (h : SlA w lo B n L) (hn : m + n ≤ 1048576) (hd : 0 ≤ d ∧ d ≤ 1000) (hok : ∀ a ∈ L, -1000 ≤ a.1 ∧ a.1 ≤ 1000 ∧ -1000 ≤ a.2.1 ∧ a.2.1 ≤ 1000) :
    Calls Try.prog 39 #[.slice A m cA, .slice B n c, .int .i64 d] w fun e w' => ∃ A' c', e = .returned (.slice A' (m + n) c') ∧ w'.ownsRow lo 62 4 (.slice A' (m + n) c') (m + n) (fa (M ++ L.map (mvA d))) ∧ Below lo w w' ∧ Only A m cA w w' ∧ From0 A m cA w A' (m + n) c' := by
  have hl := Lib.hid h.len
  have H := Lib.hid h; have HO := Lib.hid hO; have HK := Lib.hid hok; clear h hO hok
  go_enter Try.func39, Try.ntmps39
  go_wp2_with fail
  go_loopg [0, 8, 11] n (fun q o u i wr => ∃ (k : Nat) (A' : Option Addr) (c' : Nat), i = .int .i64 k ∧ k ≤ n ∧ n ≤ q + k ∧ o = .slice A' (m + k) c' ∧ Hid (wr.ownsRow lo 62 4 (.slice A' (m + k) c') (m + k) (fa (M ++ (L.take k).map (mvA d)))) ∧ Hid (Below lo w wr) ∧ Hid (Only A m cA w wr) ∧ Hid (From0 A m cA w A' (m + k) c'))
  case atStart => exact ⟨0, A, cA, rfl, by omega, by omega, rfl, by show World.ownsRow _ _ _ _ _ _ _; simpa using HO.out, Below.refl _ _, fun _ _ _ => rfl, fun _ h => .inl h⟩
  case round =>
    obtain ⟨k, A', c', rfl, hk, hm, rfl, HR, HB, HOn, HFr⟩ := hrel
    by_cases hlt : k < n
    · obtain ⟨b, off, a0, a1, a2, a3, rfl, hbB, hx, k0, k1, k2, k3⟩ := (H.out.below HB.out (Nat.le_refl _)).at_ hlt
      have hrange := HK.out _ (List.mem_of_getElem? hx.out)
      simp only at hrange
      have l0 : (0 : Int) ≤ (k : Int) := by omega
      have l1 : (k : Int) < (n : Int) := by omega
      have hls : lo ≤ wr.heap.size := Nat.le_trans hlo HB.out.size
      have HWS : Hid (w.heap.size ≤ wr.heap.size) := HB.out.size
      have HBS : Hid (lo ≤ (wr.alloc (.cells ([.int .i64 (a0 + d), .int .i64 (a1 + d), .int .i64 a2, .int .i64 a3] : List Value).toArray 62)).heap.size) := by show _ ≤ _; simp; omega
      have HX := Lib.hid (mv_succ (d := d) hx.out)
      obtain ⟨p1, p2, p3, p4⟩ := hrange
      go_wp2_with (first | (at_builtin; refine wpList_one_push (wr.alloc (.cells ([.int .i64 (a0 + d), .int .i64 (a1 + d), .int .i64 a2, .int .i64 a3] : List Value).toArray 62)) rfl (.tmp 25) (.tmp 27) _ rfl lo 62 (.agg #[.int .i64 0, .int .i64 0, .int .i64 0, .int .i64 0]) 4 32 Try.underlying25 infoAr rfl (by omega) (by omega) _ (m + k) _ rfl (HR.out.alloc _) [.int .i64 (a0 + d), .int .i64 (a1 + d), .int .i64 a2, .int .i64 a3] rfl (fa_one [(a0 + d, a1 + d, a2, a3)]) (wr.heap.size + 1) (by simp) rfl (by omega) HBS.out ?_; intro v' w' hown hgr hat; obtain ⟨A2, c2, hv', _, _⟩ := own_form hown; subst hv'; have HG := Lib.hid (grown_below' (HR.out.alloc _) hgr HBS.out); have HGR := Lib.hid hgr; have HAT := Lib.hid hat; have HOW := Lib.hid hown; clear hgr hown hat))
      go_roundg (gk - 1)
      case measure => omega
      case rel =>
        refine ⟨k + 1, A2, c2, by go_num, by omega, by omega, rfl, ?_, (HB.out.alloc hls _).trans HG.out, ?_, ?_⟩
        · show World.ownsRow _ _ _ _ _ _ _
          have := HOW.out
          rw [fa_append, List.append_assoc, ← HX.out, ← fa_append] at this
          exact this
        · intro q hq hne
          have hq2 : q < wr.heap.size := by have := HWS.out; omega
          have h1 : (Value.slice A' (m + k) c').ownBlock ≠ some q := fun e => by
            rcases HFr.out q e with e2 | e2
            · exact hne e2
            · omega
          have h2 := HGR.out.block q (by simp; omega) (fun e => h1 e.symm)
          exact h2.trans ((Below.heap_alloc wr _ q hq2).trans (HOn.out q hq hne))
        · intro q hq
          rcases HAT.out q hq with e | e
          · exact HFr.out q e
          · have := HWS.out
            simp at e
            exact .inr (by omega)
    · obtain rfl : n = k := by omega
      go_wp2_with fail
      go_ret
      refine ⟨A', c', rfl, ?_, HB.out, HOn.out, HFr.out⟩
      have := HR.out
      rw [take_all hl.out] at this
      exact this
end Go.Proofs.Ytegponioggpkcaa
