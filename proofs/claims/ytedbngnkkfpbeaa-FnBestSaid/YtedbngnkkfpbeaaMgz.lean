/- Several texts in one: BestWords of the reference: what is no input. Tables that a call handed out: equality, marks, and what holds the marks. -/
import Derived.Test.YtedbngnkkfpbeaaBeS
import Derived.Test.YtedbngnkkfpbeaaMgy
import Derived.Test.YtedbngnkkfpbeaaMgu
import Derived.Test.YtedbngnkkfpbeaaSsl

namespace Go.Proofs.Ytedbngnkkfpbeaa
open Go.RowKit
set_option linter.unusedVariables false
set_option maxRecDepth 100000 in
set_option maxHeartbeats 8000000 in
theorem sBws_no (S T m cnt : Int) (L : List A4) (P E : List Int) (A2 : Option Addr) (n2 c2 : Nat) (A3 : Option Addr) (n3 c3 : Nat) (A4 : Option Addr) (n4 c4 : Nat) (w : World) (h2 : SlA w w.heap.size A2 n2 L) (h3 : SlI w w.heap.size A3 n3 P) (h4 : SlI w w.heap.size A4 n4 E) (hL : L.length ≤ 1048576) (hP : P.length ≤ 1048576) (hE : E.length ≤ 1048576) (hb : bwsB S T m cnt L P E = false) :
    Calls Try.prog 15 #[.agg #[.int .i64 S, .int .i64 T, .slice A2 n2 c2, .slice A3 n3 c3, .slice A4 n4 c4], .int .i64 m, .int .i64 cnt] w fun e w' => e = .returned (.tuple #[.slice none 0 0, .slice none 0 0, .bool false]) ∧ Below w.heap.size w w' := by
  have e2 := h2.len; have e3 := h3.len; have e4 := h4.len
  subst e2 e3 e4
  have rb := Row.new w 28 [.int .i64 S, .int .i64 T, .slice A2 L.length c2, .slice A3 P.length c3, .slice A4 E.length c4]
  have bx : Below w.heap.size w (w.alloc (.cells ([.int .i64 S, .int .i64 T, .slice A2 L.length c2, .slice A3 P.length c3, .slice A4 E.length c4] : List Value).toArray 28)) := (Below.refl _ _).alloc (Nat.le_refl _) _
  obtain ⟨x0, hx0⟩ : ∃ x, x = w.alloc (.cells ([.int .i64 S, .int .i64 T, .slice A2 L.length c2, .slice A3 P.length c3, .slice A4 E.length c4] : List Value).toArray 28) := ⟨_, rfl⟩
  rw [← hx0] at rb bx
  have V := Lib.hid (sIs_any w.heap.size S T L P E A2 L.length c2 A3 P.length c3 A4 E.length c4 x0.heap.size x0 rb (Nat.le_refl _) ((h2.below bx (Nat.le_refl _)).more bx.size) ((h3.below bx (Nat.le_refl _)).more bx.size) ((h4.below bx (Nat.le_refl _)).more bx.size) (by omega) (by omega) (by omega))
  have W1 := Lib.hid (fun w => sIn_any m 0 5 w)
  have W2 := Lib.hid (fun w => sIn_any cnt 1 64 w)
  obtain ⟨t1, ht1⟩ : ∃ t, t = vmB S T L P E := ⟨_, rfl⟩
  obtain ⟨t2, ht2⟩ : ∃ t, t = inB m 0 5 := ⟨_, rfl⟩
  obtain ⟨t3, ht3⟩ : ∃ t, t = inB cnt 1 64 := ⟨_, rfl⟩
  unfold bwsB at hb
  rw [← ht1, ← ht2, ← ht3] at hb
  rw [← ht1] at V; rw [← ht2] at W1; rw [← ht3] at W2
  have RB := Lib.hid rb; have BX := Lib.hid bx; have HX0 := Lib.hid hx0; have HBB := Lib.hid hb
  clear rb bx h2 h3 h4 hx0 ht1 ht2 ht3 hb
  go_enter Try.func15, Try.ntmps15
  go_upto_region 1 with fail
  change Code.wp _ _ _ _ (w.alloc (.cells ([.int .i64 S, .int .i64 T, .slice A2 L.length c2, .slice A3 P.length c3, .slice A4 E.length c4] : List Value).toArray 28))
  rw [← HX0.out]
  cases t1 with
  | false =>
    go_wp2_with (first
      | (go_at_call 46; refine V.out.mono ?_; rintro e w1 ⟨rfl, hb1⟩; have BX1 := Lib.hid (BX.out.trans (hb1.mono BX.out.size)); clear hb1))
    go_ret3
    exact ⟨rfl, BX1.out⟩
  | true =>
    cases t2 with
    | false =>
      go_wp2_with (first
        | (go_at_call 46; refine V.out.mono ?_; rintro e w1 ⟨rfl, hb1⟩; have BX1 := Lib.hid (BX.out.trans (hb1.mono BX.out.size)); clear hb1)
        | (go_at_call 47; refine (W1.out _).mono ?_; rintro e w' ⟨rfl, hw⟩; obtain rfl := hw; clear W1))
      go_ret3
      exact ⟨rfl, BX1.out⟩
    | true =>
      cases t3 with
      | false =>
        go_wp2_with (first
          | (go_at_call 46; refine V.out.mono ?_; rintro e w1 ⟨rfl, hb1⟩; have BX1 := Lib.hid (BX.out.trans (hb1.mono BX.out.size)); clear hb1)
          | (go_at_call 47; refine (W1.out _).mono ?_; rintro e w' ⟨rfl, hw⟩; obtain rfl := hw; clear W1)
          | (go_at_call 47; refine (W2.out _).mono ?_; rintro e w' ⟨rfl, hw⟩; obtain rfl := hw; clear W2))
        go_ret3
        exact ⟨rfl, BX1.out⟩
      | true => exact absurd HBB.out (by decide)
end Go.Proofs.Ytedbngnkkfpbeaa


namespace Go.Proofs.Ytedbngnkkfpbeaa
open Go.RowKit
set_option linter.unusedVariables false
/-- A table as the laws' equality reads it. -/
theorem TabI.slL {w : World} {base : Nat} {v : Value} {rows : List (List Int)} (h : TabI w base 26 v rows) (hs : sumL rows ≤ 1048576) : ∃ A c, v = .slice A rows.length c ∧ SlL w w.heap.size A rows.length rows := by
  obtain ⟨vs, hown, hr⟩ := h
  obtain ⟨A, c, rfl, -, -⟩ := own_form hown
  have hl : vs.length = rows.length := by have := hown.1; omega
  refine ⟨A, c, rfl, vs, own_sl hown, hl, fun j r hj => ?_⟩
  obtain ⟨g, c', e1, e2, e3, e4, e5, e6⟩ := hr j r hj
  refine ⟨some ⟨g, 0, none⟩, c', e1, ⟨iv_length r, fun _ => ⟨g, 0, rfl, e3, fun k u hu => ?_⟩⟩, ?_⟩
  · obtain ⟨x, hx, rfl⟩ := iv_get hu
    rw [Nat.zero_add]; exact e6 k x hx
  · have := sumL_mem (List.mem_of_getElem? hj); unfold maxLen; omega
/-- Two tables that read the same. -/
theorem eqTab (v v' : Value) (rows : List (List Int)) (b b' : Nat) (w : World) (h : TabI w b 26 v rows) (h' : TabI w b' 26 v' rows) (hn : rows.length ≤ 4294967296) (hs : sumL rows ≤ 1048576) :
    Calls Try.prog 17 #[v, v'] w fun e w' => e = .returned (.bool true) ∧ Below w.heap.size w w' := by
  obtain ⟨A, c, rfl, s1⟩ := h.slL hs
  obtain ⟨A', c', rfl, s2⟩ := h'.slL hs
  have hm : ∀ r ∈ rows, r.length ≤ 4294967296 := fun r hr => by have := sumL_mem hr; omega
  refine (eqInt64SS_any A rows.length c rows A' rows.length c' rows w s1 s2 hn hn hm hm).mono ?_
  rintro e w' ⟨rfl, hb⟩
  exact ⟨ret_bool (decide_eq_true rfl), hb⟩
/-- Row j of the table v lies in block B[j] and bears the marks from k and all lengths ahead of it on. -/
def MkT (w : World) (v : Value) (rows : List (List Int)) (B : List Nat) (k : Int) : Prop :=
  B.length = rows.length ∧ ((v = .slice none 0 0 ∧ rows = []) ∨ ∃ g c, v = .slice (some ⟨g, 0, none⟩) rows.length c ∧ g < w.heap.size ∧ ∀ (j : Nat) (r : List Int) (b : Nat), rows[j]? = some r → B[j]? = some b → ∃ cj, w.cell? ⟨g, j, none⟩ = some (.slice (some ⟨b, 0, none⟩) r.length cj) ∧ b < w.heap.size ∧ ∀ q : Nat, q < r.length → w.cell? ⟨b, q, none⟩ = some (.int .i64 (k + sumL (rows.take j) + q)))
theorem MkT.move {w w' : World} {v : Value} {rows : List (List Int)} {B : List Nat} {k : Int} (h : MkT w v rows B k) (hs : w.heap.size ≤ w'.heap.size) (h1 : ∀ q, q < w.heap.size → v.ownBlock = some q → w'.heap[q]? = w.heap[q]?) (h2 : ∀ b, b < w.heap.size → b ∈ B → w'.heap[b]? = w.heap[b]?) : MkT w' v rows B k := by
  obtain ⟨hl, h | ⟨g, c, rfl, hg, hr⟩⟩ := h
  · exact ⟨hl, .inl h⟩
  · refine ⟨hl, .inr ⟨g, c, rfl, Nat.lt_of_lt_of_le hg hs, fun j r b hj hb => ?_⟩⟩
    obtain ⟨cj, e1, e2, e3⟩ := hr j r b hj hb
    exact ⟨cj, (World.cell?_of_block (a := ⟨g, j, none⟩) (h1 g hg rfl)).trans e1, Nat.lt_of_lt_of_le e2 hs, fun q hq => (World.cell?_of_block (a := ⟨b, q, none⟩) (h2 b e2 (List.mem_of_getElem? hb))).trans (e3 q hq)⟩
theorem MkT.below {w w' : World} {v : Value} {rows : List (List Int)} {B : List Nat} {k : Int} {lim : Nat} (h : MkT w v rows B k) (hb : Below lim w w') (hB : w.heap.size ≤ lim) : MkT w' v rows B k :=
  h.move hb.size (fun q hq _ => hb.block q (by omega)) (fun b hq _ => hb.block b (by omega))
theorem RowI.moveT {w w' : World} {base : Nat} {t : TypeId} {v : Value} {r : List Int} {B : List Nat} (h : RowI w base t v r) (ho : ∀ b, b < w.heap.size → b ∉ B → w'.heap[b]? = w.heap[b]?) (hd : ∀ b, v.ownBlock = some b → b ∉ B) : RowI w' base t v r := own_move h (fun j hj => ho j (World.ownsRow.lt h j hj).2 (hd j hj))
theorem markT_nil (k : Int) (w : World) :
    Calls Try.prog 21 #[.slice none 0 0, .int .i64 k] w fun e w' => e = .returned (.int .i64 k) ∧ w = w' := by
  go_enter Try.func21, Try.ntmps21
  go_wp2
  go_loopg [1, 5] 0 (fun p z i wr => z = .int .i64 k ∧ i = .int .i64 0 ∧ wr = w)
  case atStart => exact ⟨rfl, rfl, rfl⟩
  case round =>
    obtain ⟨rfl, rfl, rfl⟩ := hrel
    go_wp2
    go_ret
    exact ⟨rfl, rfl⟩
set_option maxHeartbeats 1000000 in
theorem markT_any (lo g n c : Nat) (rows : List (List Int)) (B : List Nat) (k0 : Int) (w : World) (h : TabO w lo 26 2 (.slice (some ⟨g, 0, none⟩) n c) rows B) (hrn : rows.length = n) (hn : n ≤ 4294967296) (hs : sumL rows ≤ 1048576) (hk0 : 0 ≤ k0) (hk1 : k0 ≤ 2147483648) :
    Calls Try.prog 21 #[.slice (some ⟨g, 0, none⟩) n c, .int .i64 k0] w fun e w' => e = .returned (.int .i64 (k0 + sumL rows)) ∧ MkT w' (.slice (some ⟨g, 0, none⟩) n c) rows B k0 ∧ Below lo w w' ∧ ∀ b, b < w.heap.size → b ∉ B → w'.heap[b]? = w.heap[b]? := by
  have hgB : g ∉ B := fun e => (h.mem e).2.2 rfl
  have hmem : ∀ b ∈ B, lo ≤ b ∧ b < w.heap.size := fun b hb => ⟨(h.mem hb).1, (h.mem hb).2.1⟩
  have hgl := h.block g rfl
  have hget := fun j r hj => h.get (j := j) (r := r) hj
  obtain ⟨hl, hnd, vs, hown, hr⟩ := h
  have hcell : ∀ (j : Nat) (r : List Int) (b : Nat), rows[j]? = some r → B[j]? = some b → ∃ cj m, w.cell? ⟨g, j, none⟩ = some (.slice (some ⟨b, 0, none⟩) r.length cj) ∧ r.length ≤ m ∧ RowN w b 2 m := fun j r b hj hb => by
    obtain ⟨c1, m1, e1, -, -, -, -, e6, e7, -⟩ := hr j r b hj hb
    have hc := hown.cells (g := g) rfl j _ e1
    have ea : (⟨g, 0, none⟩ : Addr).add j = ⟨g, j, none⟩ := by unfold Addr.add; by_cases h : j = 0 <;> simp [h]
    rw [ea] at hc
    exact ⟨c1, m1, hc, e6, e7⟩
  have HC := Lib.hid hcell; have HG := Lib.hid hgB; have HM := Lib.hid hmem; have HND := Lib.hid hnd; have HGL := Lib.hid hgl; have HL := Lib.hid hl; have HGET := Lib.hid hget; have HRN := Lib.hid hrn
  clear hcell hgB hmem hnd hgl hl hget hown hr hrn
  go_enter Try.func21, Try.ntmps21
  go_wp2
  go_loopg [1, 5] n (fun m z i wr => ∃ j : Nat, z = .int .i64 (k0 + sumL (rows.take j)) ∧ i = .int .i64 j ∧ j ≤ n ∧ n ≤ m + j ∧ Hid (wr.os = w.os ∧ wr.tape = w.tape ∧ wr.output = w.output ∧ w.heap.size ≤ wr.heap.size ∧ ∀ b, b < w.heap.size → b ∉ B → wr.heap[b]? = w.heap[b]?) ∧ Hid (∀ i' b, j ≤ i' → B[i']? = some b → wr.heap[b]? = w.heap[b]?) ∧ Hid (∀ i' r b, i' < j → rows[i']? = some r → B[i']? = some b → ∀ q : Nat, q < r.length → wr.cell? ⟨b, q, none⟩ = some (.int .i64 (k0 + sumL (rows.take i') + q))))
  case atStart => exact ⟨0, by simp [sumL_nil], rfl, by omega, by omega, ⟨rfl, rfl, rfl, Nat.le_refl _, fun _ _ _ => rfl⟩, fun _ _ _ _ => rfl, fun i' r b h => by omega⟩
  case round =>
    obtain ⟨j, rfl, rfl, hj, hm, HW, HQ1, HQ2⟩ := hrel
    obtain ⟨wo, rfl⟩ : ∃ x : World, x = wr := ⟨_, rfl⟩
    by_cases hlt : j < n
    · obtain ⟨r, hrj⟩ : ∃ r, rows[j]? = some r := ⟨_, List.getElem?_eq_getElem (by have := HRN.out; omega)⟩
      obtain ⟨b, hb⟩ := HGET.out j r hrj
      obtain ⟨cj, m1, e1, e2, e3⟩ := HC.out j r b hrj hb
      have hc : wo.cell? ⟨g, j, none⟩ = some (.slice (some ⟨b, 0, none⟩) r.length cj) := (World.cell?_of_block (a := ⟨g, j, none⟩) (HW.out.2.2.2.2 g HGL.out.2 HG.out)).trans e1
      have l1 : (0 : Int) ≤ (j : Int) := by omega
      have hs1 := sumL_take hrj
      have hs2 : sumL (rows.take (j + 1)) ≤ sumL rows := by
        have h := sumL_append (rows.take (j + 1)) (rows.drop (j + 1))
        rw [List.take_append_drop] at h
        omega
      have hT := markInt64S_any b r.length m1 cj (k0 + sumL (rows.take j)) wo (e3.move (HQ1.out j b (Nat.le_refl _) hb)) e2 (by omega) (by omega) (by omega)
      have HT := Lib.hid hT; have HRJ := Lib.hid hrj; have HBJ := Lib.hid hb; have HS1 := Lib.hid hs1
      clear hT hrj hb e1 e2 e3 hs1 hs2
      go_wp2_with (first | (go_at_call 22; refine HT.out.mono ?_; rintro e w2 ⟨rfl, hq2, hbut⟩; have HQ3 := Lib.hid hq2; have HBUT := Lib.hid hbut; clear HT hc hq2 hbut))
      go_roundg (gk - 1)
      case measure => omega
      case rel =>
        obtain ⟨b1, b2, b3, b4, b5⟩ := HBUT.out
        obtain ⟨o1, o2, o3, o4, o5⟩ := HW.out
        have hbB : b ∈ B := List.mem_of_getElem? HBJ.out
        refine ⟨j + 1, by rw [HS1.out]; simp; omega, by go_num, by omega, by omega, ⟨b1.trans o1, b2.trans o2, b3.trans o3, Nat.le_trans o4 b4, fun q hq hqB => (b5 q (by omega) (fun e => hqB (e ▸ hbB))).trans (o5 q hq hqB)⟩, fun i' b' hi' hb' => ?_, fun i' r' b' hi' hr' hb' q hq => ?_⟩
        · have hne : b' ≠ b := fun e => by
            have := nodup_at HND.out (hb') (e ▸ HBJ.out); omega
          have hlt' := (HM.out b' (List.mem_of_getElem? hb')).2
          exact (b5 b' (by omega) hne).trans (HQ1.out i' b' (by omega) hb')
        · rcases Nat.lt_or_ge i' j with h' | h'
          · have hne : b' ≠ b := fun e => by
              have := nodup_at HND.out (hb') (e ▸ HBJ.out); omega
            have hlt' := (HM.out b' (List.mem_of_getElem? hb')).2
            exact (World.cell?_of_block (a := ⟨b', q, none⟩) (b5 b' (by omega) hne)).trans (HQ2.out i' r' b' h' hr' hb' q hq)
          · obtain rfl : i' = j := by omega
            have er := hr'.symm.trans HRJ.out
            have eb := hb'.symm.trans HBJ.out
            injection er with er
            injection eb with eb
            subst er eb
            exact HQ3.out q hq
    · obtain rfl : n = j := by omega
      go_wp2
      go_ret
      obtain ⟨o1, o2, o3, o4, o5⟩ := HW.out
      refine ⟨ret_int (by rw [take_all HRN.out]), ⟨HL.out, .inr ⟨g, c, by rw [HRN.out], Nat.lt_of_lt_of_le HGL.out.2 o4, fun j r b hj hb => ?_⟩⟩, ⟨o1, o2, o3, o4, fun q hq => o5 q ?_ ?_⟩, o5⟩
      · obtain ⟨cj, m1, e1, -, -⟩ := HC.out j r b hj hb
        exact ⟨cj, (World.cell?_of_block (a := ⟨g, j, none⟩) (o5 g HGL.out.2 HG.out)).trans e1, Nat.lt_of_lt_of_le (HM.out b (List.mem_of_getElem? hb)).2 o4, HQ2.out j r b (by have := (List.getElem?_eq_some_iff.1 hj).1; have := HRN.out; omega) hj hb⟩
      · have := HGL.out; omega
      · intro e; have := HM.out q e; omega
/-- The marks of a table that was handed out. -/
theorem markTab (lo : Nat) (v : Value) (rows : List (List Int)) (B : List Nat) (k : Int) (w : World) (h : TabO w lo 26 2 v rows B) (hn : rows.length ≤ 4294967296) (hs : sumL rows ≤ 1048576) (hk0 : 0 ≤ k) (hk1 : k ≤ 2147483648) :
    Calls Try.prog 21 #[v, .int .i64 k] w fun e w' => e = .returned (.int .i64 (k + sumL rows)) ∧ MkT w' v rows B k ∧ Below lo w w' ∧ ∀ b, b < w.heap.size → b ∉ B → w'.heap[b]? = w.heap[b]? := by
  have hf : (v = .slice none 0 0 ∧ rows.length = 0) ∨ ∃ g c, v = .slice (some ⟨g, 0, none⟩) rows.length c := by
    obtain ⟨-, -, vs, hown, -⟩ := h
    rcases hown.2 with e | ⟨g, cap, cur, e, -⟩
    · exact .inl e
    · exact .inr ⟨g, cap, e⟩
  rcases hf with ⟨rfl, h0⟩ | ⟨g, c, rfl⟩
  · have h00 := List.length_eq_zero_iff.1 h0
    refine (markT_nil k w).mono ?_
    rintro e w' ⟨rfl, rfl⟩
    exact ⟨ret_int (by rw [h00, sumL_nil]; simp), ⟨h.1, .inl ⟨rfl, h00⟩⟩, Below.refl _ _, fun _ _ _ => rfl⟩
  · exact markT_any lo g rows.length c rows B k w h rfl hn hs hk0 hk1
theorem heldT_nil (k : Int) (w : World) :
    Calls Try.prog 23 #[.slice none 0 0, .int .i64 k] w fun e w' => e = .returned (.int .i64 k) ∧ w = w' := by
  go_enter Try.func23, Try.ntmps23
  go_wp2
  go_loopg [1, 5] 0 (fun p z i wr => z = .int .i64 k ∧ i = .int .i64 0 ∧ wr = w)
  case atStart => exact ⟨rfl, rfl, rfl⟩
  case round =>
    obtain ⟨rfl, rfl, rfl⟩ := hrel
    go_wp2
    go_ret
    exact ⟨rfl, rfl⟩
set_option maxHeartbeats 1000000 in
/-- What holds the marks of a table. -/
theorem heldTab (v : Value) (rows : List (List Int)) (B : List Nat) (k : Int) (w : World) (h : MkT w v rows B k) (hn : rows.length ≤ 4294967296) (hs : sumL rows ≤ 1048576) (hk0 : 0 ≤ k) (hk1 : k ≤ 2147483648) :
    Calls Try.prog 23 #[v, .int .i64 k] w fun e w' => e = .returned (.int .i64 (k + sumL rows)) ∧ w = w' := by
  obtain ⟨hl, ⟨rfl, rfl⟩ | ⟨g, c, rfl, hg, hr⟩⟩ := h
  · refine (heldT_nil k w).mono ?_
    rintro e w' ⟨rfl, rfl⟩
    exact ⟨ret_int (by simp [sumL_nil]), rfl⟩
  · obtain ⟨n, hrn⟩ : ∃ n, n = rows.length := ⟨_, rfl⟩
    rw [← hrn] at hn ⊢
    have HR := Lib.hid hr; have HL := Lib.hid hl; have HRN := Lib.hid hrn
    clear hr hl hrn
    go_enter Try.func23, Try.ntmps23
    go_wp2
    go_loopg [1, 5] n (fun m z i wr => ∃ j : Nat, z = .int .i64 (k + sumL (rows.take j)) ∧ i = .int .i64 j ∧ j ≤ n ∧ n ≤ m + j ∧ wr = w)
    case atStart => exact ⟨0, by simp [sumL_nil], rfl, by omega, by omega, rfl⟩
    case round =>
      obtain ⟨j, rfl, rfl, hj, hm, rfl⟩ := hrel
      by_cases hlt : j < n
      · obtain ⟨r, hrj⟩ : ∃ r, rows[j]? = some r := ⟨_, List.getElem?_eq_getElem (by have := HRN.out; omega)⟩
        have hbl : j < B.length := by have := HL.out; have := HRN.out; omega
        obtain ⟨cj, e1, e2, e3⟩ := HR.out j r B[j] hrj (List.getElem?_eq_getElem hbl)
        have l1 : (0 : Int) ≤ (j : Int) := by omega
        have hs1 := sumL_take hrj
        have hs2 : sumL (rows.take (j + 1)) ≤ sumL rows := by
          have h := sumL_append (rows.take (j + 1)) (rows.drop (j + 1))
          rw [List.take_append_drop] at h
          omega
        have hT := heldInt64S_any B[j] r.length cj (k + sumL (rows.take j)) wr e3 (by omega) (by omega) (by omega)
        have HT := Lib.hid hT; have HS1 := Lib.hid hs1
        have hge : ¬ k + (sumL (rows.take j) : Int) + (r.length : Int) < 0 := by omega
        clear hT e3 hs1 hs2 hrj
        go_wp2_with (first | (go_at_call 24; refine HT.out.mono ?_; rintro e w2 ⟨rfl, hw⟩; obtain rfl := hw.symm; clear HT e1))
        go_roundg (gk - 1)
        case measure => omega
        case rel => exact ⟨j + 1, by rw [HS1.out]; simp; omega, by go_num, by omega, by omega, rfl⟩
      · obtain rfl : n = j := by omega
        go_wp2
        go_ret
        exact ⟨ret_int (by rw [take_all HRN.out.symm]), rfl⟩
end Go.Proofs.Ytedbngnkkfpbeaa
