/- Drawing an index by chances, of both programs. -/
import Derived.Test.YtkgifbiaaaemnaaDwP
import Derived.Deep.LoopGhost
namespace Go.Proofs.Ytkgifbiaaaemnaa
open Go.RowKit
set_option linter.unusedVariables false
def gtF (x y : Nat) : Bool := ordF x y == some .gt
/-- The index that a share picks: i the next one, s the sum so far, l the last one with a chance. -/
def pk (sh : Nat) : List F32 → Nat → F32 → Nat → Nat
  | [], _, _, l => l
  | x :: xs, i, s, l => if gtF (fop .add s x).b sh then i else pk sh xs (i + 1) (fop .add s x) (if gtF x.b 0 then i else l)
def pick (xs : List F32) (sh : Nat) : Nat := pk sh xs 0 f0 0
theorem pk_drop {sh : Nat} {xs : List F32} {k l : Nat} {x : F32} {s : F32} (h : xs[k]? = some x) : pk sh (xs.drop k) k s l = if gtF (fop .add s x).b sh then k else pk sh (xs.drop (k + 1)) (k + 1) (fop .add s x) (if gtF x.b 0 then k else l) := by
  obtain ⟨hk, rfl⟩ := List.getElem?_eq_some_iff.1 h
  rw [List.drop_eq_getElem_cons hk]; rfl
theorem pk_lt (sh : Nat) : ∀ (xs : List F32) (i : Nat) (s : F32) (l : Nat), pk sh xs i s l < i + xs.length ∨ pk sh xs i s l = l
  | [], i, s, l => .inr rfl
  | x :: xs, i, s, l => by
    unfold pk
    split
    · left; simp
    · rcases pk_lt sh xs (i + 1) (fop .add s x) (if gtF x.b 0 then i else l) with h | h
      · left; simp; omega
      · rw [h]; split
        · left; simp
        · right; rfl
theorem pick_lt {xs : List F32} (sh : Nat) (h : 0 < xs.length) : pick xs sh < xs.length := by
  rcases pk_lt sh xs 0 f0 0 with h1 | h1
  · simpa [pick] using h1
  · rw [pick, h1]; exact h
def seedN (z : Nat) : Nat := (1664525 * z + 1013904223) % 4294967296
theorem seedN_lt (z : Nat) : seedN z < 4294967296 := Nat.mod_lt _ (by decide)
def fN (n : Nat) : F32 := ⟨floatOfInt .f32 (n : Int), by have := floatOfInt_wf .f32 (n : Int); simpa [Lit.wf] using this⟩
def c24 : F32 := ⟨1266679808, by omega⟩
def shF (z : Nat) : F32 := fop .quo (fN (z / 256)) c24
theorem fN_num (n : Nat) : isN .f32 (floatOfInt .f32 (n : Int)) = false := write_notNaN Ieee.single (d := .number (decide ((n : Int) < 0)) (n : Int).natAbs 0) rfl
theorem shF_quo (z : Nat) (P : Program) : ∀ (t : TypeId) (w : World), (binOp .quo t (.float .f32 (floatOfInt .f32 ((z / 256 : Nat) : Int))) (.float .f32 1266679808)).run P w = .ok (.float .f32 (shF z).b) w :=
  fun t w => run_float_arith w .quo t .f32 _ _ _ (fop_run (x := fN (z / 256)) (y := c24) (by have h := mul_quo (fN_num (z / 256)); rw [h.1] at h; exact h.2))
theorem shF_mul (z : Nat) (P : Program) : ∀ (t : TypeId) (w : World), (binOp .mul t (.float .f32 (floatOfInt .f32 ((z / 256 : Nat) : Int))) (.float .f32 864026624)).run P w = .ok (.float .f32 (shF z).b) w :=
  fun t w => run_float_arith w .mul t .f32 _ _ _ (by
    have h := mul_quo (fN_num (z / 256))
    rw [h.1]
    exact fop_run (x := fN (z / 256)) (y := c24) (by rw [h.1] at h; exact h.2))
theorem seed1 {z : Nat} (h : z < 4294967296) : IntKind.i64.wrap (1664525 * (z : Int)) = 1664525 * (z : Int) := IntWalk.i64_in _ (by omega)
theorem seed2 {z : Nat} (h : z < 4294967296) : IntKind.i64.wrap (1664525 * (z : Int) + 1013904223) = 1664525 * (z : Int) + 1013904223 := IntWalk.i64_in _ (by omega)
theorem seed3 (z : Nat) : (1664525 * (z : Int) + 1013904223).tmod 4294967296 = (seedN z : Int) := by
  rw [Int.tmod_eq_emod_of_nonneg (by omega)]; unfold seedN; omega
theorem seed4 (z : Nat) : (1664525 * (z : Int) + 1013904223) % 4294967296 = (seedN z : Int) := by unfold seedN; omega
theorem seed5 (y : Nat) : (y : Int).tdiv 256 = ((y / 256 : Nat) : Int) := by rw [Int.tdiv_eq_ediv_of_nonneg (by omega)]; rfl
theorem seed6 (y : Nat) : (y : Int) / 256 = ((y / 256 : Nat) : Int) := rfl
set_option maxHeartbeats 1000000 in
theorem iDraw_any (A : Option Addr) (n c : Nat) (xs : List F32) (z : Nat) (w : World) (B : Nat) (h : SlF w B A n xs) (hx : ∀ x ∈ xs, NN x.b) (hn : n ≤ 4294967296) (hz : z < 4294967296) :
    Calls Try.prog 77 #[.slice A n c, .int .i64 z] w fun e w' => e = .returned (.tuple #[.int .i64 (pick xs (shF (seedN z)).b), .int .i64 (seedN z)]) ∧ w = w' := by
  have hl := Lib.hid h.len
  have H := Lib.hid h; clear h
  have HX := Lib.hid hx; clear hx
  have s1 := seed1 hz; have s2 := seed2 hz; have s3 := seed3 z; have s4 := seed4 z
  obtain ⟨y, hy⟩ : ∃ y, y = seedN z := ⟨_, rfl⟩
  rw [← hy] at s3 s4 ⊢
  have hy2 : y < 4294967296 := by rw [hy]; exact seedN_lt z
  have s5 := seed5 y; have s6 := seed6 y
  have hop := shF_mul y Try.prog
  clear hy
  obtain ⟨q, hq⟩ : ∃ q, q = y / 256 := ⟨_, rfl⟩
  rw [← hq] at s5 s6 hop
  clear hq
  obtain ⟨sh, hsh⟩ : ∃ s, s = (shF y).b := ⟨_, rfl⟩
  rw [← hsh] at hop ⊢
  clear hsh
  go_enter Try.func77, Try.ntmps77
  go_wp2_with fail
  go_loopg [7, 8, 9, 10, 21] n (fun m s la u v i wr => ∃ (k l : Nat), i = .int .i64 k ∧ k ≤ n ∧ n ≤ m + k ∧ s = .float .f32 (fsum (xs.take k)).b ∧ la = .int .i64 l ∧ Hid (pick xs sh = pk sh (xs.drop k) k (fsum (xs.take k)) l) ∧ wr = w)
  case atStart => exact ⟨0, 0, rfl, by omega, by omega, rfl, rfl, rfl, rfl⟩
  case round =>
    obtain ⟨k, l, rfl, hk, hm, rfl, rfl, HP, rfl⟩ := hrel
    by_cases hlt : k < n
    · obtain ⟨b, off, x, rfl, hbB, hx, hc⟩ := H.out.at_ hlt
      obtain ⟨z', hz'⟩ : ∃ z, z = fop .add (fsum (xs.take k)) x := ⟨_, rfl⟩
      have hop2 := add_law (NN_take HX.out k) (HX.out x (List.mem_of_getElem? hx.out)) hz' Try.prog
      have HZ : Hid (fsum (xs.take (k + 1)) = z') := by show _ = _; rw [fsum_take hx.out, hz']
      obtain ⟨g, hg⟩ : ∃ g, ((FloatKind.format .f32).order z'.b sh == some .gt) = g := ⟨_, rfl⟩
      obtain ⟨d, hd⟩ : ∃ g, ((FloatKind.format .f32).order x.b 0 == some .gt) = g := ⟨_, rfl⟩
      have HK : Hid (pick xs sh = if g then k else pk sh (xs.drop (k + 1)) (k + 1) (fsum (xs.take (k + 1))) (if d then k else l)) := by
        show _ = _
        rw [HP.out, pk_drop hx.out, ← hz', HZ.out, ← hg, ← hd]; rfl
      clear hz'
      have l0 : (0 : Int) ≤ (k : Int) := by omega
      have l1 : (k : Int) < (n : Int) := by omega
      cases g with
      | true =>
        go_wp2_with fail
        go_ret2
        exact ⟨by rw [HK.out]; rfl, rfl⟩
      | false =>
        cases d <;> (
          go_wp2_with fail
          go_roundg (gk - 1)
          case measure => omega
          case rel => exact ⟨k + 1, _, by go_num, by omega, by omega, by rw [HZ.out], rfl, by show _ = _; rw [HK.out]; rfl, rfl⟩)
    · obtain rfl : n = k := by omega
      go_wp2_with fail
      go_ret2
      refine ⟨?_, rfl⟩
      have := HP.out
      rw [List.drop_eq_nil_of_le (by rw [hl.out]; omega)] at this
      rw [this]; rfl
set_option maxHeartbeats 1000000 in
theorem sPick_any (A : Option Addr) (n c : Nat) (xs : List F32) (sh : Nat) (w : World) (B : Nat) (h : SlF w B A n xs) (hx : ∀ x ∈ xs, NN x.b) (hn : n ≤ 4294967296) :
    Calls Try.prog 75 #[.slice A n c, .float .f32 sh] w fun e w' => e = .returned (.int .i64 (pick xs sh)) ∧ w = w' := by
  have hl := Lib.hid h.len
  have H := Lib.hid h; clear h
  have HX := Lib.hid hx; clear hx
  go_enter Try.func75, Try.ntmps75
  go_wp2_with fail
  go_loopg [5, 6, 7, 10] n (fun m s la u i wr => ∃ (k l : Nat), i = .int .i64 k ∧ k ≤ n ∧ n ≤ m + k ∧ s = .float .f32 (fsum (xs.take k)).b ∧ la = .int .i64 l ∧ Hid (pick xs sh = pk sh (xs.drop k) k (fsum (xs.take k)) l) ∧ wr = w)
  case atStart => exact ⟨0, 0, rfl, by omega, by omega, rfl, rfl, rfl, rfl⟩
  case round =>
    obtain ⟨k, l, rfl, hk, hm, rfl, rfl, HP, rfl⟩ := hrel
    by_cases hlt : k < n
    · obtain ⟨b, off, x, rfl, hbB, hx, hc⟩ := H.out.at_ hlt
      obtain ⟨z', hz'⟩ : ∃ z, z = fop .add (fsum (xs.take k)) x := ⟨_, rfl⟩
      have hop2 := add_law (NN_take HX.out k) (HX.out x (List.mem_of_getElem? hx.out)) hz' Try.prog
      have HZ : Hid (fsum (xs.take (k + 1)) = z') := by show _ = _; rw [fsum_take hx.out, hz']
      obtain ⟨g, hg⟩ : ∃ g, ((FloatKind.format .f32).order z'.b sh == some .gt) = g := ⟨_, rfl⟩
      obtain ⟨d, hd⟩ : ∃ g, ((FloatKind.format .f32).order x.b 0 == some .gt) = g := ⟨_, rfl⟩
      have HK : Hid (pick xs sh = if g then k else pk sh (xs.drop (k + 1)) (k + 1) (fsum (xs.take (k + 1))) (if d then k else l)) := by
        show _ = _
        rw [HP.out, pk_drop hx.out, ← hz', HZ.out, ← hg, ← hd]; rfl
      clear hz'
      have l0 : (0 : Int) ≤ (k : Int) := by omega
      have l1 : (k : Int) < (n : Int) := by omega
      cases g with
      | true =>
        go_wp2_with fail
        go_ret
        exact ⟨by rw [HK.out]; rfl, rfl⟩
      | false =>
        cases d <;> (
          go_wp2_with fail
          go_roundg (gk - 1)
          case measure => omega
          case rel => exact ⟨k + 1, _, by go_num, by omega, by omega, by rw [HZ.out], rfl, by show _ = _; rw [HK.out]; rfl, rfl⟩)
    · obtain rfl : n = k := by omega
      go_wp2_with fail
      go_ret
      refine ⟨?_, rfl⟩
      have := HP.out
      rw [List.drop_eq_nil_of_le (by rw [hl.out]; omega)] at this
      rw [this]; rfl
theorem sShareD_any (g z : Nat) (w : World) (hr : Row w g 2 [.int .i64 z]) (hz : z < 4294967296) :
    Calls Try.prog 76 #[.pointer (some ⟨g, 0, none⟩)] w fun e w' => e = .returned (.float .f32 (shF (seedN z)).b) ∧ w' = w.setCell ⟨g, 0, none⟩ (.int .i64 (seedN z)) := by
  have s1 := seed1 hz; have s2 := seed2 hz; have s3 := seed3 z; have s4 := seed4 z
  obtain ⟨y, hy⟩ : ∃ y, y = seedN z := ⟨_, rfl⟩
  rw [← hy] at s3 s4 ⊢
  have hy2 : y < 4294967296 := by rw [hy]; exact seedN_lt z
  have s5 := seed5 y; have s6 := seed6 y
  have hop := shF_quo y Try.prog
  clear hy
  obtain ⟨q, hq⟩ : ∃ q, q = y / 256 := ⟨_, rfl⟩
  rw [← hq] at s5 s6 hop
  clear hq
  obtain ⟨sh, hsh⟩ : ∃ s, s = (shF y).b := ⟨_, rfl⟩
  rw [← hsh] at hop ⊢
  clear hsh
  have hc := hr.cell 0; have hf := hr.frozen 0
  have hc2 : (w.setCell ⟨g, 0, none⟩ (.int .i64 (y : Int))).cell? ⟨g, 0, none⟩ = some (.int .i64 (y : Int)) := (hr.set_ 0 _).cell 0
  clear hr
  go_enter Try.func76, Try.ntmps76
  go_wp2_with fail
  go_ret
  exact ⟨rfl, rfl⟩
end Go.Proofs.Ytkgifbiaaaemnaa
