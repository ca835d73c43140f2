/- l02Behind of the reference: its list is never nil. -/
import Derived.Test.YtkkjhakniolooaaMh
import Derived.Test.YtkkjhakniolooaaStO
import Derived.Deep.LoopGhost
namespace Go.Proofs.Ytkkjhakniolooaa
open Go.RowKit
set_option linter.unusedVariables false
set_option maxHeartbeats 4000000 in
theorem sBehindS_any (lo : Nat) (B : Option Addr) (n c : Nat) (L : List A4) (d : Int) (w : World) (hlo : lo ≤ w.heap.size) (h : SlA w lo B n L) (hn : n ≤ 1048576) (hd : 0 ≤ d ∧ d ≤ 1000) (hok : ∀ a ∈ L, -1000 ≤ a.1 ∧ a.1 ≤ 1000 ∧ -1000 ≤ a.2.1 ∧ a.2.1 ≤ 1000) :
    Calls Try.prog 18 #[.slice B n c, .int .i64 d] w fun e w' => ∃ g c', e = .returned (.slice (some ⟨g, 0, none⟩) n c') ∧ w'.ownsRow lo 49 4 (.slice (some ⟨g, 0, none⟩) n c') n (fa (L.map (mvA d))) ∧ Below lo w w' := by
  rcases Nat.eq_zero_or_pos n with h0 | h0
  · subst h0
    have hL : L = [] := List.eq_nil_of_length_eq_zero h.len
    subst hL
    have OM : Hid ((w.alloc (.cells #[] 49)).ownsRow lo 49 4 (.slice (some ⟨w.heap.size, 0, none⟩) 0 0) 0 []) := own_made w lo 49 4 hlo
    have HB : Hid (Below lo w (w.alloc (.cells #[] 49))) := (Below.refl _ _).alloc hlo _
    clear h hok
    go_enter Try.func18, Try.ntmps18
    go_wp2_with fail
    go_loopg [5, 6] 1 (fun m v i wr => v = .slice (some ⟨w.heap.size, 0, none⟩) 0 0 ∧ i = .int .i64 0 ∧ (w.alloc (.cells #[] 49)) = wr)
    case atStart => exact ⟨rfl, rfl, rfl⟩
    case round =>
      obtain ⟨rfl, rfl, hw⟩ := hrel
      obtain rfl := hw
      go_wp2_with fail
      go_ret
      exact ⟨_, _, rfl, OM.out, HB.out⟩
  · refine (sBehind_any lo B n c L d w hlo h hn hd hok).mono ?_
    rintro e w' ⟨A', c', rfl, ho, hb⟩
    obtain ⟨g, cc, hv, _, _⟩ := World.ownsRow.form ho h0
    injection hv with e1 e2 e3
    subst e1
    exact ⟨g, c', rfl, ho, hb⟩
end Go.Proofs.Ytkkjhakniolooaa
