/- LeastFit of the reference: l04Machine. -/
import Derived.Test.YtchacfienafhlaaLfS2
namespace Go.Proofs.Ytchacfienafhlaa
open Go.RowKit
set_option linter.unusedVariables false
theorem results_cell1 {P : Program} {fn : Func} {p : Tmp} {ty : TypeId} (h : fn.results = #[.cell p ty]) (tmps : Array Value) (w : World) (g : Nat) (t : TypeId) (cs : Array Value) (fr : Nat × Nat) (d : TypeDesc)
    (hp : tmps.getD p undef = .pointer (some ⟨g, 0, none⟩)) (hg : w.heap[g]? = some (.cells cs t fr))
    (hu : P.underlying ty = some d) (hd : (match d with | .struct _ | .array _ _ => true | _ => false) = true) (hi : (P.info? ty).map (·.size) = some cs.size) :
    (results fn tmps).run P w = .ok (.agg cs) w := by
  have hp' : tmps[p]?.getD undef = .pointer (some ⟨g, 0, none⟩) := by simpa using hp
  simp [results, h, hp', asAddr, run_loadVar_row w g t ty cs fr d hg hu hd hi]
theorem Row.madeAt (w : World) (z : Value) (n : Nat) (t : TypeId) {g : Nat} (hg : w.heap.size = g) : Row (w.alloc (.cells (madeCells #[z] n) t)) g t (List.replicate n z) := by subst hg; exact Row.made w z n t
theorem chain0 (w : World) (o0 o1 o2 o3 : Obj) : ((((w.alloc o0).alloc o1).alloc o2).alloc o3).heap[w.heap.size]? = some o0 := by
  rw [Below.heap_alloc _ _ _ (by simp; omega), Below.heap_alloc _ _ _ (by simp; omega), Below.heap_alloc _ _ _ (by simp)]; exact heap_alloc_new w o0
theorem chain1 (w : World) (o0 o1 o2 o3 : Obj) : ((((w.alloc o0).alloc o1).alloc o2).alloc o3).heap[w.heap.size + 1]? = some o1 := by
  rw [Below.heap_alloc _ _ _ (by simp), Below.heap_alloc _ _ _ (by simp)]
  have := heap_alloc_new (w.alloc o0) o1
  rwa [show (w.alloc o0).heap.size = w.heap.size + 1 by simp] at this
theorem chain2 (w : World) (o0 o1 o2 o3 : Obj) : ((((w.alloc o0).alloc o1).alloc o2).alloc o3).heap[w.heap.size + 1 + 1]? = some o2 := by
  rw [Below.heap_alloc _ _ _ (by simp)]
  have := heap_alloc_new ((w.alloc o0).alloc o1) o2
  rwa [show ((w.alloc o0).alloc o1).heap.size = w.heap.size + 1 + 1 by simp] at this
theorem chain3 (w : World) (o0 o1 o2 o3 : Obj) : ((((w.alloc o0).alloc o1).alloc o2).alloc o3).heap[w.heap.size + 1 + 1 + 1]? = some o3 := by
  have := heap_alloc_new (((w.alloc o0).alloc o1).alloc o2) o3
  rwa [show (((w.alloc o0).alloc o1).alloc o2).heap.size = w.heap.size + 1 + 1 + 1 by simp] at this
theorem made_rep (z : Value) (n : Nat) : madeCells #[z] n = (List.replicate n z).toArray := by
  apply Array.ext
  · simp [size_madeCells]
  · intro i h1 h2
    simp [madeCells, Nat.mod_one]
theorem chain0d (w : World) (o0 o1 o2 o3 : Obj) : ((((w.alloc o0).alloc o1).alloc o2).alloc o3).drew.heap[w.heap.size]? = some o0 := chain0 w o0 o1 o2 o3
theorem chain1d (w : World) (o0 o1 o2 o3 : Obj) : ((((w.alloc o0).alloc o1).alloc o2).alloc o3).drew.heap[w.heap.size + 1]? = some o1 := chain1 w o0 o1 o2 o3
theorem chain2d (w : World) (o0 o1 o2 o3 : Obj) : ((((w.alloc o0).alloc o1).alloc o2).alloc o3).drew.heap[w.heap.size + 1 + 1]? = some o2 := chain2 w o0 o1 o2 o3
theorem chain3d (w : World) (o0 o1 o2 o3 : Obj) : ((((w.alloc o0).alloc o1).alloc o2).alloc o3).drew.heap[w.heap.size + 1 + 1 + 1]? = some o3 := chain3 w o0 o1 o2 o3
theorem below4 (w : World) (o1 o2 o3 o4 : Obj) : Below w.heap.size w ((((w.alloc o1).alloc o2).alloc o3).alloc o4) := by
  have h1 : Below w.heap.size w (w.alloc o1) := (Below.refl _ _).alloc (Nat.le_refl _) _
  have h2 := h1.alloc h1.size o2
  have h3 := h2.alloc h2.size o3
  exact h3.alloc h3.size o4
/-- A machine that is being filled. -/
def MW (w0 : World) (gb g2 g3 : Nat) (bx zz : List Value) (P : List Int) (E : List Bool) (w : World) : Prop :=
  Row w gb 30 bx ∧ Row w g2 2 (iv P) ∧ Row w g3 4 (bv E) ∧ Row w w0.heap.size 30 zz ∧ Below w0.heap.size w0 w
section
variable {w0 w : World} {gb g2 g3 : Nat} {bx zz : List Value} {P : List Int} {E : List Bool}
theorem MW.putE (h : MW w0 gb g2 g3 bx zz P E w) (h1 : gb ≠ g3) (h2 : g2 ≠ g3) (h3 : w0.heap.size < g3) (i : Nat) (b : Bool) : MW w0 gb g2 g3 bx zz P (E.set i b) (w.setCell ⟨g3, i, none⟩ (.bool b)) :=
  ⟨h.1.far h1 _, h.2.1.far h2 _, by rw [← bv_set]; exact h.2.2.1.set_ _ _, h.2.2.2.1.far (by show w0.heap.size ≠ g3; omega) _, h.2.2.2.2.setCell (Nat.le_of_lt h3) _⟩
theorem MW.putP (h : MW w0 gb g2 g3 bx zz P E w) (h1 : gb ≠ g2) (h2 : g2 ≠ g3) (h3 : w0.heap.size < g2) (i : Nat) (x : Int) : MW w0 gb g2 g3 bx zz (P.set i x) E (w.setCell ⟨g2, i, none⟩ (.int .i64 x)) :=
  ⟨h.1.far h1 _, by have := h.2.1.set_ i (.int .i64 x); show Row _ _ _ _; rw [show iv (P.set i x) = (iv P).set i (.int .i64 x) by simp [iv, List.map_set]]; exact this, h.2.2.1.far (fun e => h2 e.symm) _, h.2.2.2.1.far (by show w0.heap.size ≠ g2; omega) _, h.2.2.2.2.setCell (Nat.le_of_lt h3) _⟩
end
theorem tdivL {a b c : Nat} (h : a / b = c) : (a : Int).tdiv (b : Int) = (c : Int) := by subst h; rfl
theorem tmodL {a b c : Nat} (h : a % b = c) : (a : Int).tmod (b : Int) = (c : Int) := by subst h; rfl
theorem MW.drew {w0 w : World} {gb g2 g3 : Nat} {bx zz : List Value} {P : List Int} {E : List Bool} (h : MW w0 gb g2 g3 bx zz P E w) : MW w0 gb g2 g3 bx zz P E w.drew := ⟨h.1, h.2.1, h.2.2.1, h.2.2.2.1, Below.drew h.2.2.2.2⟩
theorem set_rep {α : Type} (z b : α) (j : Nat) (D : List α) : (List.replicate (j + 1) z ++ D).set j b = List.replicate j z ++ b :: D := by
  rw [List.replicate_succ', List.append_assoc, List.set_append_right _ _ (by simp)]; simp
theorem get_rep {α : Type} (z : α) (j : Nat) (D : List α) : (List.replicate (j + 1) z ++ D)[j]? = some z := by
  rw [List.replicate_succ', List.append_assoc, List.getElem?_append_right (by simp)]; simp
set_option maxRecDepth 100000 in
set_option maxHeartbeats 4000000 in
theorem sMachine_any (S T m num : Nat) (hm : m = S * T) (hS : 1 ≤ S ∧ S ≤ 3) (hm6 : m ≤ 6) (hT : T ≤ 2) (hnum : num < 5832) (w : World) :
    Calls Try.prog 45 #[.int .i64 (num : Int), .int .i64 (S : Int), .int .i64 (T : Int)] w fun e w' => ∃ g2 g3, e = .returned (.agg #[.int .i64 (S : Int), .int .i64 (T : Int), .slice (some ⟨g2, 0, none⟩) m m, .slice (some ⟨g3, 0, none⟩) S S]) ∧ Row w' g2 2 (iv (tb S m (num / 2 ^ S))) ∧ Row w' g3 4 (bv (eb S num)) ∧ g2 ≠ g3 ∧ w.heap.size ≤ g2 ∧ w.heap.size ≤ g3 ∧ Below w.heap.size w w' := by
  have hmi : (S : Int) * (T : Int) = (m : Int) := by rw [hm]; simp
  have wm : IntKind.i64.wrap (m : Int) = (m : Int) := IntWalk.i64_in _ (by omega)
  clear hm
  have hmk := run_make_row' (P := Try.prog) 27 2 (.int .i64 0) 8 Try.underlying27 infoLf rfl .i64 .i64 m (by omega) (by omega)
  have hmb := run_make_row' (P := Try.prog) 28 4 (.bool false) 1 Try.underlying28 infoLb rfl .i64 .i64 S (by omega) (by omega)
  go_enter Try.func45, Try.ntmps45
  go_upto_region 1 with fail
  have HMI : Hid (some (Obj.cells (madeCells #[.int .i64 0] m) 2) = some (Obj.cells (iv (List.replicate m 0)).toArray 2 (0, 0))) := by show _ = _; rw [made_rep]; simp [iv]
  have HMB : Hid (some (Obj.cells (madeCells #[.bool false] S) 4) = some (Obj.cells (bv (List.replicate S false)).toArray 4 (0, 0))) := by show _ = _; rw [made_rep]; simp [bv]
  go_cut [7] from 10 to 52 (fun p wx => ∃ gb g2 g3 : Nat, p = .pointer (some ⟨gb, 0, none⟩) ∧ gb ≠ g2 ∧ gb ≠ g3 ∧ g2 ≠ g3 ∧ w.heap.size < g2 ∧ w.heap.size < g3 ∧ w.heap.size < gb ∧ Hid (MW w gb g2 g3 (BxP (S : Int) (T : Int) (some ⟨g2, 0, none⟩) m m (some ⟨g3, 0, none⟩) S S) [.int .i64 0, .int .i64 0, .slice none 0 0, .slice none 0 0] (List.replicate m 0) (List.replicate S false) wx))
  case first =>
    go_region
    all_goals
      go_wp2_with fail
      go_meet
      first
        | (exact ⟨(w.heap.size + 1 + 1 + 1), (w.heap.size + 1), (w.heap.size + 1 + 1), rfl, by omega, by omega, by omega, by omega, by omega, by omega, ⟨chain3d _ _ _ _ _, (chain1d _ _ _ _ _).trans HMI.out, (chain2d _ _ _ _ _).trans HMB.out, chain0d _ _ _ _ _, Below.drew (below4 w _ _ _ _)⟩⟩)
        | (exact ⟨(w.heap.size + 1 + 1), (w.heap.size + 1), (w.heap.size + 1 + 1 + 1), rfl, by omega, by omega, by omega, by omega, by omega, by omega, ⟨chain2d _ _ _ _ _, (chain1d _ _ _ _ _).trans HMI.out, (chain3d _ _ _ _ _).trans HMB.out, chain0d _ _ _ _ _, Below.drew (below4 w _ _ _ _)⟩⟩)
        | (exact ⟨(w.heap.size + 1 + 1 + 1), (w.heap.size + 1 + 1), (w.heap.size + 1), rfl, by omega, by omega, by omega, by omega, by omega, by omega, ⟨chain3d _ _ _ _ _, (chain2d _ _ _ _ _).trans HMI.out, (chain1d _ _ _ _ _).trans HMB.out, chain0d _ _ _ _ _, Below.drew (below4 w _ _ _ _)⟩⟩)
        | (exact ⟨(w.heap.size + 1), (w.heap.size + 1 + 1), (w.heap.size + 1 + 1 + 1), rfl, by omega, by omega, by omega, by omega, by omega, by omega, ⟨chain1d _ _ _ _ _, (chain2d _ _ _ _ _).trans HMI.out, (chain3d _ _ _ _ _).trans HMB.out, chain0d _ _ _ _ _, Below.drew (below4 w _ _ _ _)⟩⟩)
        | (exact ⟨(w.heap.size + 1 + 1), (w.heap.size + 1 + 1 + 1), (w.heap.size + 1), rfl, by omega, by omega, by omega, by omega, by omega, by omega, ⟨chain2d _ _ _ _ _, (chain3d _ _ _ _ _).trans HMI.out, (chain1d _ _ _ _ _).trans HMB.out, chain0d _ _ _ _ _, Below.drew (below4 w _ _ _ _)⟩⟩)
        | (exact ⟨(w.heap.size + 1), (w.heap.size + 1 + 1 + 1), (w.heap.size + 1 + 1), rfl, by omega, by omega, by omega, by omega, by omega, by omega, ⟨chain1d _ _ _ _ _, (chain3d _ _ _ _ _).trans HMI.out, (chain2d _ _ _ _ _).trans HMB.out, chain0d _ _ _ _ _, Below.drew (below4 w _ _ _ _)⟩⟩)
  case rest =>
  obtain ⟨gb, g2, g3, rfl, nb2, nb3, n23, l2, l3, lb, HM⟩ := hcut
  clear hmk hmb
  have W1 : IntKind.i64.wrap ((S : Int) - 1) = (S : Int) - 1 := IntWalk.i64_in _ (by omega)
  have W2 : IntKind.i64.wrap ((m : Int) - 1) = (m : Int) - 1 := IntWalk.i64_in _ (by omega)
  go_wp2_with fail
  go_loopg [0, 8] S (fun q nn i wr => ∃ (j M : Nat) (D : List Bool), i = .int .i64 ((j : Int) - 1) ∧ j ≤ S ∧ j ≤ q ∧ nn = .int .i64 (M : Int) ∧ M < 5832 ∧ Hid (eb S num = eb j M ++ D) ∧ Hid (num / 2 ^ S = M / 2 ^ j) ∧ Hid (MW w gb g2 g3 (BxP (S : Int) (T : Int) (some ⟨g2, 0, none⟩) m m (some ⟨g3, 0, none⟩) S S) [.int .i64 0, .int .i64 0, .slice none 0 0, .slice none 0 0] (List.replicate m 0) (List.replicate j false ++ D) wr))
  case atStart => exact ⟨S, num, [], rfl, by omega, by omega, rfl, hnum, by show _ = _; rw [List.append_nil], rfl, by rw [List.append_nil]; exact HM.out⟩
  case round =>
    clear HM W1
    obtain ⟨j, M, D, rfl, hj, hq, rfl, hM, HE, HDV, HM⟩ := hrel
    obtain ⟨wo, rfl⟩ : ∃ x : World, x = wr := ⟨_, rfl⟩
    rcases Nat.eq_zero_or_pos j with h0 | h0
    · have q1 : (j : Int) - 1 < 0 := by omega
      have HEB : Hid (D = eb S num) := by show _ = _; rw [HE.out, h0]; rfl
      have HN0 : Hid (num / 2 ^ S = M) := by show _ = _; rw [HDV.out, h0, Nat.pow_zero, Nat.div_one]
      have HM1 : Hid (MW w gb g2 g3 (BxP (S : Int) (T : Int) (some ⟨g2, 0, none⟩) m m (some ⟨g3, 0, none⟩) S S) [.int .i64 0, .int .i64 0, .slice none 0 0, .slice none 0 0] (List.replicate m 0) (eb S num) wo) := by
        have := HM.out
        rw [h0, List.replicate_zero, List.nil_append, HEB.out] at this
        exact this
      have q9 : decide (0 ≤ (j : Int) - 1) = false := decide_eq_false (by omega)
      clear h0 HM HE HDV
      go_wp2_with fail
      go_loopg [0, 9] m (fun q nn i wr => ∃ (j M : Nat) (D : List Int), i = .int .i64 ((j : Int) - 1) ∧ j ≤ m ∧ j ≤ q ∧ nn = .int .i64 (M : Int) ∧ M < 5832 ∧ Hid (tb S m (num / 2 ^ S) = tb S j M ++ D) ∧ Hid (MW w gb g2 g3 (BxP (S : Int) (T : Int) (some ⟨g2, 0, none⟩) m m (some ⟨g3, 0, none⟩) S S) [.int .i64 0, .int .i64 0, .slice none 0 0, .slice none 0 0] (List.replicate j 0 ++ D) (eb S num) wr))
      case atStart => exact ⟨m, M, [], rfl, by omega, by omega, rfl, hM, by show _ = _; rw [HN0.out, List.append_nil], by rw [List.append_nil]; exact HM1.out⟩
      case round =>
        clear HM1 W2
        obtain ⟨j, M, D, rfl, hj, hq, rfl, hM, HE, HM⟩ := hrel
        obtain ⟨wi, rfl⟩ : ∃ x : World, x = wr := ⟨_, rfl⟩
        rcases Nat.eq_zero_or_pos j with h0 | h0
        · have q1 : (j : Int) - 1 < 0 := by omega
          have HTB : Hid (D = tb S m (num / 2 ^ S)) := by show _ = _; rw [HE.out, h0]; rfl
          have HM2 : Hid (MW w gb g2 g3 (BxP (S : Int) (T : Int) (some ⟨g2, 0, none⟩) m m (some ⟨g3, 0, none⟩) S S) [.int .i64 0, .int .i64 0, .slice none 0 0, .slice none 0 0] (tb S m (num / 2 ^ S)) (eb S num) wi) := by
            have := HM.out
            rw [h0, List.replicate_zero, List.nil_append, HTB.out] at this
            exact this
          clear h0 HM HE
          have k0 := HM2.out.1.cell 0; have k1 := HM2.out.1.cell 1; have k2 := HM2.out.1.cell 2; have k3 := HM2.out.1.cell 3
          have s0 := HM2.out.2.2.2.1.cell 0; have s1 := HM2.out.2.2.2.1.cell 1; have s2 := HM2.out.2.2.2.1.cell 2; have s3 := HM2.out.2.2.2.1.cell 3
          have f0 := HM2.out.2.2.2.1.frozen 0; have f1 := HM2.out.2.2.2.1.frozen 1; have f2 := HM2.out.2.2.2.1.frozen 2; have f3 := HM2.out.2.2.2.1.frozen 3
          go_wp2_with fail
          clear k0 k1 k2 k3 s0 s1 s2 s3 f0 f1 f2 f3
          have hF := ((((HM2.out.2.2.2.1.set_ 0 (.int .i64 (S : Int))).set_ 1 (.int .i64 (T : Int))).set_ 2 (.slice (some ⟨g2, 0, none⟩) m m)).set_ 3 (.slice (some ⟨g3, 0, none⟩) S S))
          refine bodyPost_ret (results_cell1 rfl _ _ w.heap.size 30 #[.int .i64 (S : Int), .int .i64 (T : Int), .slice (some ⟨g2, 0, none⟩) m m, .slice (some ⟨g3, 0, none⟩) S S] (0, 0) _ rfl hF Try.underlying30 rfl (by kernel_rfl)) rfl ?_
          refine ⟨g2, g3, rfl, (heap_set4L _ _ _ _ _ _ _ (by omega)).trans HM2.out.2.1, (heap_set4L _ _ _ _ _ _ _ (by omega)).trans HM2.out.2.2.1, n23, by omega, by omega, ?_⟩
          exact (((HM2.out.2.2.2.2.setCell (p := ⟨w.heap.size, 0, none⟩) (Nat.le_refl _) _).setCell (p := ⟨w.heap.size, 1, none⟩) (Nat.le_refl _) _).setCell (p := ⟨w.heap.size, 2, none⟩) (Nat.le_refl _) _).setCell (p := ⟨w.heap.size, 3, none⟩) (Nat.le_refl _) _
        · obtain ⟨j, rfl⟩ : ∃ x, j = x + 1 := ⟨j - 1, by omega⟩
          have q1 : ((j + 1 : Nat) : Int) - 1 = (j : Int) := by omega
          rw [q1]
          clear q1
          have q2 : (0 : Int) ≤ (j : Int) := by omega
          have q3 : (j : Int) < (m : Int) := by omega
          have t1 : (M : Int).tmod (S : Int) = ((M % S : Nat) : Int) := tmodL rfl
          have t2 : (M : Int).tdiv (S : Int) = ((M / S : Nat) : Int) := tdivL rfl
          have hSz : ((S : Int) == 0) = false := by rw [beq_eq_false_iff_ne]; omega
          have hSn : (S : Int) ≠ 0 := by omega
          have hdl : M % S < S := Nat.mod_lt _ (by omega)
          have hql : M / S ≤ M := Nat.div_le_self _ _
          have HE2 : Hid (tb S m (num / 2 ^ S) = tb S j (M / S) ++ (((M % S : Nat) : Int) :: D)) := by show _ = _; rw [HE.out, tb_last, List.append_assoc]; rfl
          have HM3 : Hid (∀ x : Int, MW w gb g2 g3 (BxP (S : Int) (T : Int) (some ⟨g2, 0, none⟩) m m (some ⟨g3, 0, none⟩) S S) [.int .i64 0, .int .i64 0, .slice none 0 0, .slice none 0 0] (List.replicate j 0 ++ x :: D) (eb S num) (wi.setCell ⟨g2, j, none⟩ (.int .i64 x))) := fun x => by
            have := HM.out.putP nb2 n23 l2 j x
            rw [set_rep] at this
            exact this
          have c0 : wi.cell? ⟨g2, j, none⟩ = some (.int .i64 0) := by rw [HM.out.2.1.cell]; simp only [iv, List.getElem?_map]; rw [get_rep]; rfl
          have f0 := HM.out.2.1.frozen j
          have k2 := HM.out.1.cell 2
          have HM4 : Hid (∀ x : Int, MW w gb g2 g3 (BxP (S : Int) (T : Int) (some ⟨g2, 0, none⟩) m m (some ⟨g3, 0, none⟩) S S) [.int .i64 0, .int .i64 0, .slice none 0 0, .slice none 0 0] (List.replicate j 0 ++ x :: D) (eb S num) (wi.drew.setCell ⟨g2, j, none⟩ (.int .i64 x))) := fun x => by
            have := HM.out.drew.putP nb2 n23 l2 j x
            rw [set_rep] at this
            exact this
          obtain ⟨d, hd⟩ : ∃ d, d = M % S := ⟨_, rfl⟩
          obtain ⟨v, hv⟩ : ∃ d, d = M / S := ⟨_, rfl⟩
          rw [← hd] at t1 hdl; rw [← hv] at t2 hql
          rw [← hd, ← hv] at HE2
          clear hd hv HE HM
          have w8 : IntKind.i64.wrap (d : Int) = (d : Int) := IntWalk.i64_in _ (by omega)
          have w9 : IntKind.i64.wrap (v : Int) = (v : Int) := IntWalk.i64_in _ (by omega)
          go_upto_region 10 with fail
          go_region
          all_goals
            go_wp2_with fail
            go_roundg (gk - 1)
            case measure => omega
            case rel => exact ⟨j, v, _, by first | rfl | go_num, by omega, by omega, by first | rfl | go_num, by omega, HE2.out, by first | exact HM3.out _ | exact (HM3.out _).drew | exact HM4.out _⟩
    · obtain ⟨j, rfl⟩ : ∃ x, j = x + 1 := ⟨j - 1, by omega⟩
      have q1 : ((j + 1 : Nat) : Int) - 1 = (j : Int) := by omega
      rw [q1]
      clear q1
      have q2 : (0 : Int) ≤ (j : Int) := by omega
      have q3 : (j : Int) < (S : Int) := by omega
      have t1 : (M : Int).tmod 2 = ((M % 2 : Nat) : Int) := tmodL (b := 2) rfl
      have t2 : (M : Int).tdiv 2 = ((M / 2 : Nat) : Int) := tdivL (b := 2) rfl
      have hdl : M % 2 < 2 := Nat.mod_lt _ (by omega)
      have hql : M / 2 ≤ M := Nat.div_le_self _ _
      have HE2 : Hid (eb S num = eb j (M / 2) ++ (decide (M % 2 = 1) :: D)) := by show _ = _; rw [HE.out, eb_succ, List.append_assoc]; rfl
      have HDV2 : Hid (num / 2 ^ S = (M / 2) / 2 ^ j) := by show _ = _; rw [HDV.out, Nat.pow_succ, Nat.mul_comm, Nat.div_div_eq_div_mul]
      have HM3 : Hid (∀ x : Bool, MW w gb g2 g3 (BxP (S : Int) (T : Int) (some ⟨g2, 0, none⟩) m m (some ⟨g3, 0, none⟩) S S) [.int .i64 0, .int .i64 0, .slice none 0 0, .slice none 0 0] (List.replicate m 0) (List.replicate j false ++ x :: D) (wo.setCell ⟨g3, j, none⟩ (.bool x))) := fun x => by
        have := HM.out.putE nb3 n23 l3 j x
        rw [set_rep] at this
        exact this
      have c0 : wo.cell? ⟨g3, j, none⟩ = some (.bool false) := by rw [HM.out.2.2.1.cell]; simp only [bv, List.getElem?_map]; rw [get_rep]; rfl
      have f0 := HM.out.2.2.1.frozen j
      have k3 := HM.out.1.cell 3
      obtain ⟨d, hd⟩ : ∃ d, d = M % 2 := ⟨_, rfl⟩
      obtain ⟨v, hv⟩ : ∃ d, d = M / 2 := ⟨_, rfl⟩
      obtain ⟨β, hβ⟩ : ∃ β, β = decide (d = 1) := ⟨_, rfl⟩
      have hβ2 : ((d : Int) == 1) = β := by rw [hβ]; by_cases h : d = 1 <;> simp [h]; omega
      rw [← hd] at t1 hdl; rw [← hv] at t2 hql
      rw [← hd, ← hv, ← hβ] at HE2
      rw [← hv] at HDV2
      clear hd hv hβ HE HM HDV
      have w8 : IntKind.i64.wrap (d : Int) = (d : Int) := IntWalk.i64_in _ (by omega)
      have w9 : IntKind.i64.wrap (v : Int) = (v : Int) := IntWalk.i64_in _ (by omega)
      go_wp2_with fail
      go_roundg (gk - 1)
      case measure => omega
      case rel => exact ⟨j, v, _, by first | rfl | go_num, by omega, by omega, by first | rfl | go_num, by omega, HE2.out, HDV2.out, HM3.out _⟩
end Go.Proofs.Ytchacfienafhlaa
