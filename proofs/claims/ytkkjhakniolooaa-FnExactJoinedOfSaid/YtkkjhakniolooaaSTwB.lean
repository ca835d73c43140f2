/- l02Two of the reference: two machines and their letters. -/
import Derived.Test.YtkkjhakniolooaaVm
import Derived.Test.YtkkjhakniolooaaMh
import Derived.Test.YtkkjhakniolooaaSTwD
import Derived.Test.YtkkjhakniolooaaStO
import Derived.Deep.RegionWith
import Derived.BigGuard
import Derived.Deep.DrawnRows
import Derived.BigQuiet
import Derived.Deep.RegionLaw
import Derived.Deep.RegionHeld3
import Derived.Deep.CutRange
namespace Go.Proofs.Ytkkjhakniolooaa
open Go.RowKit
set_option linter.unusedVariables false
set_option maxRecDepth 100000 in
set_option maxHeartbeats 4000000 in
theorem sTwoM_no2 (ga gb : Nat) (S T : Int) (L : List A4) (P E : List Int) (A2 : Option Addr) (n2 c2 : Nat) (A3 : Option Addr) (n3 c3 : Nat) (A4x : Option Addr) (n4 c4 : Nat) (S' T' : Int) (L' : List A4) (P' E' : List Int) (B2 : Option Addr) (m2 d2 : Nat) (B3 : Option Addr) (m3 d3 : Nat) (B4 : Option Addr) (m4 d4 : Nat) (w : World)
    (ra : Row w ga 29 [.int .i64 S, .int .i64 T, .slice A2 n2 c2, .slice A3 n3 c3, .slice A4x n4 c4]) (rb : Row w gb 29 [.int .i64 S', .int .i64 T', .slice B2 m2 d2, .slice B3 m3 d3, .slice B4 m4 d4])
    (h2 : SlA w w.heap.size A2 n2 L) (h3 : SlI w w.heap.size A3 n3 P) (h4 : SlI w w.heap.size A4x n4 E) (k2 : SlA w w.heap.size B2 m2 L') (k3 : SlI w w.heap.size B3 m3 P') (k4 : SlI w w.heap.size B4 m4 E')
    (hL : n2 ≤ 4294967296) (hP : n3 ≤ 4294967296) (hE : n4 ≤ 4294967296) (kL : m2 ≤ 4294967296) (kP : m3 ≤ 4294967296) (kE : m4 ≤ 4294967296) (hne : ga ≠ gb) (hok : vmB S T L P E = true) (hok' : vmB S' T' L' P' E' = false) :
    Calls Try.prog 16 #[.pointer (some ⟨ga, 0, none⟩), .pointer (some ⟨gb, 0, none⟩)] w fun e w' => e = .returned (.bool (twB S T L P E S' T' L' P' E')) ∧ Below w.heap.size w w' := by
  have HD : Hid (twB S T L P E S' T' L' P' E' = (true && false && decide (T = T'))) := by show _ = _; unfold twB; rw [hok, hok']
  have hga := ra.lt; have hgb := rb.lt
  have C1 : Hid (∀ x : World, Below w.heap.size w x → Calls Try.prog 35 #[.pointer (some ⟨ga, 0, none⟩)] x fun e w' => e = .returned (.bool true) ∧ Below x.heap.size x w') := fun x hx => by
    rw [← hok]
    exact sIs_any ga S T L P E A2 n2 c2 A3 n3 c3 A4x n4 c4 x.heap.size x (ra.below hx hga) (Nat.le_refl _) ((h2.below hx (Nat.le_refl _)).more hx.size) ((h3.below hx (Nat.le_refl _)).more hx.size) ((h4.below hx (Nat.le_refl _)).more hx.size) hL hP hE
  have C2 : Hid (∀ x : World, Below w.heap.size w x → Calls Try.prog 35 #[.pointer (some ⟨gb, 0, none⟩)] x fun e w' => e = .returned (.bool false) ∧ Below x.heap.size x w') := fun x hx => by
    rw [← hok']
    exact sIs_any gb S' T' L' P' E' B2 m2 d2 B3 m3 d3 B4 m4 d4 x.heap.size x (rb.below hx hgb) (Nat.le_refl _) ((k2.below hx (Nat.le_refl _)).more hx.size) ((k3.below hx (Nat.le_refl _)).more hx.size) ((k4.below hx (Nat.le_refl _)).more hx.size) kL kP kE
  have HC : Hid (∀ x : World, Below w.heap.size w x → x.cell? ⟨ga, 1, none⟩ = some (.int .i64 T) ∧ x.cell? ⟨gb, 1, none⟩ = some (.int .i64 T')) := fun x hx => ⟨(ra.below hx hga).cell 1, (rb.below hx hgb).cell 1⟩
  have HB0 : Hid (Below w.heap.size w w.drew) := Below.drew (Below.refl _ _)
  clear hok hok' ra rb h2 h3 h4 k2 k3 k4 hga hgb
  go_enter Try.func16, Try.ntmps16
  go_upto_region 1 with fail
  refine wp_region_any (by kernel_rfl) ?_
  try (change wpAny _ _ _ _ _ _ _ (World.drew _))
  refine wpAny_take (i := 0) (v := ?_) rfl (by kernel_rfl) (by kernel_rfl) (by kernel_rfl) (fun _ _ _ h => h) (Or.inl ⟨by kernel_rfl, ?_⟩) ?_
  rotate_left
  · intro w; go_simp; first | done | (with_reducible rfl)
  refine wpAny_ready (rs := [1]) (by kernel_rfl) (by simp) (AllReady.cons rfl (fun K hK => ?_) AllReady.nil)
  go_simp
  go_wp2_with (go_at_call 35; refine (C1.out _ HB0.out).mono ?_; rintro e y1 ⟨rfl, hb1⟩; have HB1 : Hid (Below w.heap.size w y1) := HB0.out.trans (hb1.mono HB0.out.size); clear hb1)
  (try (refine hK _ _ ?_; clear hK K))
  refine wpAny_take (i := 2) (v := ?_) rfl (by kernel_rfl) (by kernel_rfl) (by kernel_rfl) (fun _ _ _ h => h) (Or.inl ⟨by kernel_rfl, ?_⟩) ?_
  rotate_left
  · intro w; go_simp; first | done | (with_reducible rfl)
  refine wpAny_take (i := 3) (v := ?_) rfl (by kernel_rfl) (by kernel_rfl) (by kernel_rfl) (fun _ _ _ h => h) (Or.inl ⟨by kernel_rfl, ?_⟩) ?_
  rotate_left
  · intro w; go_simp; first | done | (with_reducible rfl)
  refine wpAny_ready (rs := [4]) (by kernel_rfl) (by simp) (AllReady.cons rfl (fun K hK => ?_) AllReady.nil)
  go_simp
  go_wp2_with (go_at_call 35; refine (C2.out _ HB1.out).mono ?_; rintro e y2 ⟨rfl, hb1⟩; have HB2 : Hid (Below w.heap.size w y2) := HB1.out.trans (hb1.mono HB1.out.size); clear hb1)
  (try (refine hK _ _ ?_; clear hK K))
  refine wpAny_take (i := 5) (v := ?_) rfl (by kernel_rfl) (by kernel_rfl) (by kernel_rfl) (fun _ _ _ h => h) (Or.inl ⟨by kernel_rfl, ?_⟩) ?_
  rotate_left
  · intro w; go_simp; first | done | (with_reducible rfl)
  refine wpAny_take (i := 6) (v := ?_) rfl (by kernel_rfl) (by kernel_rfl) (by kernel_rfl) (fun _ _ _ h => h) (Or.inl ⟨by kernel_rfl, ?_⟩) ?_
  rotate_left
  · intro w; go_simp; first | done | (with_reducible rfl)
  change wpAny _ _ _ _ _ _ { tmps := #[(.pointer (some ⟨ga, 0, none⟩) : Value), (.pointer (some ⟨gb, 0, none⟩) : Value), (undef : Value), (undef : Value), (.bool false : Value), (.pointer (some ⟨ga, 0, none⟩) : Value), (.bool true : Value), (.bool true : Value), (.pointer (some ⟨gb, 0, none⟩) : Value), (.bool false : Value), (.bool false : Value), (.bool false : Value), (undef : Value), (undef : Value), (undef : Value), (undef : Value), (undef : Value), (undef : Value), (undef : Value), (undef : Value), (undef : Value), (undef : Value)], defers := [] } _
  refine wpAny_take (i := 7) (v := undef) rfl (by kernel_rfl) (by kernel_rfl) (by kernel_rfl) (fun _ _ _ h => h) (Or.inr ⟨by kernel_rfl, rfl⟩) ?_
  change wpAny _ _ _ _ _ _ { tmps := #[(.pointer (some ⟨ga, 0, none⟩) : Value), (.pointer (some ⟨gb, 0, none⟩) : Value), (undef : Value), (undef : Value), (.bool false : Value), (.pointer (some ⟨ga, 0, none⟩) : Value), (.bool true : Value), (.bool true : Value), (.pointer (some ⟨gb, 0, none⟩) : Value), (.bool false : Value), (.bool false : Value), (.bool false : Value), (undef : Value), (undef : Value), (undef : Value), (undef : Value), (undef : Value), (undef : Value), (undef : Value), (undef : Value), (undef : Value), (undef : Value)], defers := [] } _
  refine wpAny_take (i := 8) (v := undef) rfl (by kernel_rfl) (by kernel_rfl) (by kernel_rfl) (fun _ _ _ h => h) (Or.inr ⟨by kernel_rfl, rfl⟩) ?_
  change wpAny _ _ _ _ _ _ { tmps := #[(.pointer (some ⟨ga, 0, none⟩) : Value), (.pointer (some ⟨gb, 0, none⟩) : Value), (undef : Value), (undef : Value), (.bool false : Value), (.pointer (some ⟨ga, 0, none⟩) : Value), (.bool true : Value), (.bool true : Value), (.pointer (some ⟨gb, 0, none⟩) : Value), (.bool false : Value), (.bool false : Value), (.bool false : Value), (undef : Value), (undef : Value), (undef : Value), (undef : Value), (undef : Value), (undef : Value), (undef : Value), (undef : Value), (undef : Value), (undef : Value)], defers := [] } _
  refine wpAny_take (i := 9) (v := undef) rfl (by kernel_rfl) (by kernel_rfl) (by kernel_rfl) (fun _ _ _ h => h) (Or.inr ⟨by kernel_rfl, rfl⟩) ?_
  change wpAny _ _ _ _ _ _ { tmps := #[(.pointer (some ⟨ga, 0, none⟩) : Value), (.pointer (some ⟨gb, 0, none⟩) : Value), (undef : Value), (undef : Value), (.bool false : Value), (.pointer (some ⟨ga, 0, none⟩) : Value), (.bool true : Value), (.bool true : Value), (.pointer (some ⟨gb, 0, none⟩) : Value), (.bool false : Value), (.bool false : Value), (.bool false : Value), (undef : Value), (undef : Value), (undef : Value), (undef : Value), (undef : Value), (undef : Value), (undef : Value), (undef : Value), (undef : Value), (undef : Value)], defers := [] } _
  refine wpAny_take (i := 10) (v := undef) rfl (by kernel_rfl) (by kernel_rfl) (by kernel_rfl) (fun _ _ _ h => h) (Or.inr ⟨by kernel_rfl, rfl⟩) ?_
  change wpAny _ _ _ _ _ _ { tmps := #[(.pointer (some ⟨ga, 0, none⟩) : Value), (.pointer (some ⟨gb, 0, none⟩) : Value), (undef : Value), (undef : Value), (.bool false : Value), (.pointer (some ⟨ga, 0, none⟩) : Value), (.bool true : Value), (.bool true : Value), (.pointer (some ⟨gb, 0, none⟩) : Value), (.bool false : Value), (.bool false : Value), (.bool false : Value), (undef : Value), (undef : Value), (undef : Value), (undef : Value), (undef : Value), (undef : Value), (undef : Value), (undef : Value), (undef : Value), (undef : Value)], defers := [] } _
  refine wpAny_take (i := 11) (v := undef) rfl (by kernel_rfl) (by kernel_rfl) (by kernel_rfl) (fun _ _ _ h => h) (Or.inr ⟨by kernel_rfl, rfl⟩) ?_
  change wpAny _ _ _ _ _ _ { tmps := #[(.pointer (some ⟨ga, 0, none⟩) : Value), (.pointer (some ⟨gb, 0, none⟩) : Value), (undef : Value), (undef : Value), (.bool false : Value), (.pointer (some ⟨ga, 0, none⟩) : Value), (.bool true : Value), (.bool true : Value), (.pointer (some ⟨gb, 0, none⟩) : Value), (.bool false : Value), (.bool false : Value), (.bool false : Value), (undef : Value), (undef : Value), (undef : Value), (undef : Value), (undef : Value), (undef : Value), (undef : Value), (undef : Value), (undef : Value), (undef : Value)], defers := [] } _
  refine wpAny_take (i := 12) (v := undef) rfl (by kernel_rfl) (by kernel_rfl) (by kernel_rfl) (fun _ _ _ h => h) (Or.inr ⟨by kernel_rfl, rfl⟩) ?_
  change wpAny _ _ _ _ _ _ { tmps := #[(.pointer (some ⟨ga, 0, none⟩) : Value), (.pointer (some ⟨gb, 0, none⟩) : Value), (undef : Value), (undef : Value), (.bool false : Value), (.pointer (some ⟨ga, 0, none⟩) : Value), (.bool true : Value), (.bool true : Value), (.pointer (some ⟨gb, 0, none⟩) : Value), (.bool false : Value), (.bool false : Value), (.bool false : Value), (undef : Value), (undef : Value), (undef : Value), (undef : Value), (undef : Value), (undef : Value), (undef : Value), (undef : Value), (undef : Value), (undef : Value)], defers := [] } _
  refine wpAny_take (i := 13) (v := undef) rfl (by kernel_rfl) (by kernel_rfl) (by kernel_rfl) (fun _ _ _ h => h) (Or.inr ⟨by kernel_rfl, rfl⟩) ?_
  change wpAny _ _ _ _ _ _ { tmps := #[(.pointer (some ⟨ga, 0, none⟩) : Value), (.pointer (some ⟨gb, 0, none⟩) : Value), (undef : Value), (undef : Value), (.bool false : Value), (.pointer (some ⟨ga, 0, none⟩) : Value), (.bool true : Value), (.bool true : Value), (.pointer (some ⟨gb, 0, none⟩) : Value), (.bool false : Value), (.bool false : Value), (.bool false : Value), (undef : Value), (undef : Value), (undef : Value), (undef : Value), (undef : Value), (undef : Value), (undef : Value), (undef : Value), (undef : Value), (undef : Value)], defers := [] } _
  refine wpAny_take (i := 14) (v := undef) rfl (by kernel_rfl) (by kernel_rfl) (by kernel_rfl) (fun _ _ _ h => h) (Or.inr ⟨by kernel_rfl, rfl⟩) ?_
  change wpAny _ _ _ _ _ _ { tmps := #[(.pointer (some ⟨ga, 0, none⟩) : Value), (.pointer (some ⟨gb, 0, none⟩) : Value), (undef : Value), (undef : Value), (.bool false : Value), (.pointer (some ⟨ga, 0, none⟩) : Value), (.bool true : Value), (.bool true : Value), (.pointer (some ⟨gb, 0, none⟩) : Value), (.bool false : Value), (.bool false : Value), (.bool false : Value), (undef : Value), (undef : Value), (undef : Value), (undef : Value), (undef : Value), (undef : Value), (undef : Value), (undef : Value), (undef : Value), (undef : Value)], defers := [] } _
  refine wpAny_take (i := 15) (v := undef) rfl (by kernel_rfl) (by kernel_rfl) (by kernel_rfl) (fun _ _ _ h => h) (Or.inr ⟨by kernel_rfl, rfl⟩) ?_
  change wpAny _ _ _ _ _ _ { tmps := #[(.pointer (some ⟨ga, 0, none⟩) : Value), (.pointer (some ⟨gb, 0, none⟩) : Value), (undef : Value), (undef : Value), (.bool false : Value), (.pointer (some ⟨ga, 0, none⟩) : Value), (.bool true : Value), (.bool true : Value), (.pointer (some ⟨gb, 0, none⟩) : Value), (.bool false : Value), (.bool false : Value), (.bool false : Value), (undef : Value), (undef : Value), (undef : Value), (undef : Value), (undef : Value), (undef : Value), (undef : Value), (undef : Value), (undef : Value), (undef : Value)], defers := [] } _
  refine wpAny_take (i := 16) (v := ?_) rfl (by kernel_rfl) (by kernel_rfl) (by kernel_rfl) (fun _ _ _ h => h) (Or.inl ⟨by kernel_rfl, ?_⟩) ?_
  rotate_left
  · intro w; go_simp; first | done | (with_reducible rfl)
  refine wpAny_take (i := 17) (v := ?_) rfl (by kernel_rfl) (by kernel_rfl) (by kernel_rfl) (fun _ _ _ h => h) (Or.inl ⟨by kernel_rfl, ?_⟩) ?_
  rotate_left
  · intro w; go_simp; first | done | (with_reducible rfl)
  refine wpAny_done (by kernel_rfl) ?_ _
  go_wp2_with fail
  go_ret
  exact ⟨ret_bool (by rw [HD.out]; rfl), HB2.out⟩
end Go.Proofs.Ytkkjhakniolooaa
