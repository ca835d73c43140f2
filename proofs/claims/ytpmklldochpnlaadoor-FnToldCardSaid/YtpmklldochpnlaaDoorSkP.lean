/- Keys of sounds, plainly. -/
import Derived.Test.YtpmklldochpnlaaDoorLet
import Derived.Laws.Runes
import Derived.Lib.Bytealg

namespace Go.Proofs.YtpmklldochpnlaaDoor
open Go.PlainAid
set_option linter.unusedVariables false
def sdTbl : ByteArray := ⟨#[48, 49, 50, 51, 48, 49, 50, 48, 48, 50, 50, 52, 53, 53, 48, 49, 50, 54, 50, 51, 48, 49, 48, 50, 48, 50]⟩
def sdL (n : Nat) : UInt8 := [48, 49, 50, 51, 48, 49, 50, 48, 48, 50, 50, 52, 53, 53, 48, 49, 50, 54, 50, 51, 48, 49, 48, 50, 48, 50].getD n 48
/-- The digit of a letter. -/
def snd (c : UInt8) : UInt8 := sdL (c.toNat - 97)
def sdStrs : List ByteArray := [⟨#[98, 102, 112, 118]⟩, ⟨#[99, 103, 106, 107, 113, 115, 120, 122]⟩, ⟨#[100, 116]⟩, ⟨#[108]⟩, ⟨#[109, 110]⟩, ⟨#[114]⟩]
def sdAt (i : Nat) : ByteArray := sdStrs.getD i ⟨#[]⟩
def sdFrom (c : UInt8) : Nat → Nat → Int
  | 0, _ => 48
  | f + 1, i => if 0 ≤ Lib.indexByte (sdAt i).data.toList c then 49 + (i : Int) else sdFrom c f (i + 1)
set_option maxRecDepth 100000 in
theorem sd_all : ∀ n : Fin 26, sdFrom (UInt8.ofNat (97 + n.val)) 6 0 = ((snd (UInt8.ofNat (97 + n.val))).toNat : Int) := by decide
theorem let_form {c : UInt8} (h : isLet c = true) : ∃ n : Fin 26, c = UInt8.ofNat (97 + n.val) := by
  have hb := isLet_bd h
  refine ⟨⟨c.toNat - 97, by omega⟩, ?_⟩
  show c = UInt8.ofNat (97 + (c.toNat - 97))
  rw [show 97 + (c.toNat - 97) = c.toNat from by omega]
  simp
theorem sdFrom_snd {c : UInt8} (h : isLet c = true) : sdFrom c 6 0 = ((snd c).toNat : Int) := by
  obtain ⟨n, rfl⟩ := let_form h
  exact sd_all n
set_option maxRecDepth 100000 in
theorem snd_all : ∀ n : Fin 26, 48 ≤ (snd (UInt8.ofNat (97 + n.val))).toNat ∧ (snd (UInt8.ofNat (97 + n.val))).toNat ≤ 54 := by decide
theorem snd_bd {c : UInt8} (h : isLet c = true) : 48 ≤ (snd c).toNat ∧ (snd c).toNat ≤ 54 := by
  obtain ⟨n, rfl⟩ := let_form h
  exact snd_all n
set_option maxRecDepth 100000 in
theorem tbl_all : ∀ n : Fin 26, sdTbl[n.val]'(by have := n.isLt; show n.val < 26; omega) = sdL n.val := by decide
theorem tbl_snd {c : UInt8} (h : isLet c = true) (hn : c.toNat - 97 < sdTbl.size) : sdTbl[c.toNat - 97]'hn = snd c := by
  have hb := isLet_bd h
  exact tbl_all ⟨c.toNat - 97, by omega⟩
theorem snd_h : snd 104 = 48 := by decide
theorem snd_w : snd 119 = 48 := by decide
theorem enc_digit {d : UInt8} (h : d.toNat < 128) : Utf8.encode (d.toNat : Int) = ⟨#[d]⟩ := by
  unfold Utf8.encode
  have hv : Utf8.valid (d.toNat : Int) = true := by simp [Utf8.valid]; omega
  simp [hv, h]
/-- The key, from byte i on. -/
def skRun (t : ByteArray) : Nat → Nat → List UInt8 → UInt8 → List UInt8
  | 0, _, key, _ => key
  | f + 1, i, key, last => if b8 t i = 104 ∨ b8 t i = 119 then skRun t f (i + 1) key last
      else skRun t f (i + 1) (if snd (b8 t i) ≠ 48 ∧ snd (b8 t i) ≠ last ∧ key.length < 4 then key ++ [snd (b8 t i)] else key) (snd (b8 t i))
theorem skRun_full (t : ByteArray) : ∀ (f i : Nat) (key : List UInt8) (last : UInt8), 4 ≤ key.length → skRun t f i key last = key := by
  intro f
  induction f with
  | zero => intro i key last h; rfl
  | succ f ih =>
    intro i key last h
    rw [skRun]
    split
    · exact ih _ _ _ h
    · rw [if_neg (by omega)]
      exact ih _ _ _ h
def skAll (t : ByteArray) : List UInt8 := skRun t (t.size - 1) 1 [b8 t 0] (snd (b8 t 0))
theorem skRun_len (t : ByteArray) : ∀ (f i : Nat) (key : List UInt8) (last : UInt8), key.length ≤ 4 → key.length ≤ (skRun t f i key last).length ∧ (skRun t f i key last).length ≤ 4 := by
  intro f
  induction f with
  | zero => intro i key last h; exact ⟨Nat.le_refl _, h⟩
  | succ f ih =>
    intro i key last h
    rw [skRun]
    split
    · exact ih _ _ _ h
    · split
      · rename_i hh
        have := ih (i + 1) (key ++ [snd (b8 t i)]) (snd (b8 t i)) (by simp; omega)
        simp at this
        omega
      · exact ih _ _ _ h
def skPad (K : List UInt8) (m : Nat) : ByteArray := ⟨(K ++ List.replicate m 48).toArray⟩
def skB (t : ByteArray) : Bool := letB t && decide (0 < t.size)
def skV (t : ByteArray) : ByteArray := if skB t then skPad (skAll t) (4 - (skAll t).length) else ⟨#[]⟩
theorem skAll_len (t : ByteArray) : 1 ≤ (skAll t).length ∧ (skAll t).length ≤ 4 := skRun_len t _ _ [b8 t 0] _ (by simp)
section
variable {t : ByteArray} {f i : Nat} {key : List UInt8} {last : UInt8}
theorem skRun_skip (h : b8 t i = 104 ∨ b8 t i = 119) : skRun t (f + 1) i key last = skRun t f (i + 1) key last := by rw [skRun, if_pos h]
theorem skRun_put (h : ¬ (b8 t i = 104 ∨ b8 t i = 119)) (h1 : snd (b8 t i) ≠ 48) (h2 : snd (b8 t i) ≠ last) (h3 : key.length < 4) :
    skRun t (f + 1) i key last = skRun t f (i + 1) (key ++ [snd (b8 t i)]) (snd (b8 t i)) := by rw [skRun, if_neg h, if_pos ⟨h1, h2, h3⟩]
theorem skRun_keep (h : ¬ (b8 t i = 104 ∨ b8 t i = 119)) (h1 : snd (b8 t i) = 48 ∨ snd (b8 t i) = last ∨ 4 ≤ key.length) :
    skRun t (f + 1) i key last = skRun t f (i + 1) key (snd (b8 t i)) := by
  rw [skRun, if_neg h, if_neg (fun hh => by rcases h1 with h | h | h; exact hh.1 h; exact hh.2.1 h; omega)]
end
theorem skPad_succ (K : List UInt8) (m : Nat) : skPad K m ++ ⟨#[48]⟩ = skPad K (m + 1) := by
  apply str_inj
  rw [ByteArray.toList_eq, ByteArray.toList_eq]
  simp [skPad, ByteArray.data_append, List.replicate_succ']
theorem skPad_zero (K : List UInt8) : skPad K 0 = ⟨K.toArray⟩ := by simp [skPad]
theorem zeros_cut : ∀ m, m ≤ 3 → (⟨#[48, 48, 48]⟩ : ByteArray).extract 0 m = ⟨(List.replicate m 48).toArray⟩ := by
  intro m hm
  rcases m with _ | _ | _ | _ | m <;> first | rfl | omega
theorem skPad_cut (K : List UInt8) {m : Nat} (hm : m ≤ 3) : (⟨K.toArray⟩ : ByteArray) ++ (⟨#[48, 48, 48]⟩ : ByteArray).extract 0 m = skPad K m := by
  rw [zeros_cut m hm]
  apply str_inj
  rw [ByteArray.toList_eq, ByteArray.toList_eq]
  simp [skPad, ByteArray.data_append]
theorem skPad_size (K : List UInt8) (m : Nat) : (skPad K m).size = K.length + m := by simp [skPad, ByteArray.size]
/-- Where the program's round i stands. -/
def SkAt (t : ByteArray) (i : Nat) (key : List UInt8) (last : UInt8) : Prop := (i = 0 ∧ key = [b8 t 0] ∧ last = 48) ∨ (1 ≤ i ∧ skRun t (t.size - i) i key last = skAll t)
section
variable {t : ByteArray} {i : Nat} {key : List UInt8} {last : UInt8}
theorem SkAt.skip (h : SkAt t i key last) (hi : i < t.size) (hc : b8 t i = 104 ∨ b8 t i = 119) : SkAt t (i + 1) key last := by
  rcases h with ⟨rfl, rfl, rfl⟩ | ⟨h1, h2⟩
  · refine .inr ⟨by omega, ?_⟩
    have : snd (b8 t 0) = 48 := by rcases hc with h | h <;> rw [h] <;> decide
    rw [skAll, this]
  · refine .inr ⟨by omega, ?_⟩
    rw [← h2, show t.size - i = (t.size - (i + 1)) + 1 from by omega, skRun_skip hc]
theorem SkAt.keep (h : SkAt t i key last) (hi : i < t.size) (hc : ¬ (b8 t i = 104 ∨ b8 t i = 119)) (hk : i = 0 ∨ snd (b8 t i) = 48 ∨ snd (b8 t i) = last ∨ 4 ≤ key.length) : SkAt t (i + 1) key (snd (b8 t i)) := by
  rcases h with ⟨rfl, rfl, rfl⟩ | ⟨h1, h2⟩
  · exact .inr ⟨by omega, rfl⟩
  · refine .inr ⟨by omega, ?_⟩
    rw [← h2, show t.size - i = (t.size - (i + 1)) + 1 from by omega, skRun_keep hc (by rcases hk with h | h; omega; exact h)]
theorem SkAt.put (h : SkAt t i key last) (h0 : 0 < i) (hi : i < t.size) (hc : ¬ (b8 t i = 104 ∨ b8 t i = 119)) (k1 : snd (b8 t i) ≠ 48) (k2 : snd (b8 t i) ≠ last) (k3 : key.length < 4) :
    SkAt t (i + 1) (key ++ [snd (b8 t i)]) (snd (b8 t i)) := by
  rcases h with ⟨rfl, rfl, rfl⟩ | ⟨h1, h2⟩
  · omega
  · refine .inr ⟨by omega, ?_⟩
    rw [← h2, show t.size - i = (t.size - (i + 1)) + 1 from by omega, skRun_put hc k1 k2 k3]
theorem SkAt.fin (h : SkAt t i key last) (hi : i = t.size) (h0 : 0 < t.size) : key = skAll t := by
  rcases h with ⟨rfl, rfl, rfl⟩ | ⟨h1, h2⟩
  · omega
  · subst hi; rw [Nat.sub_self] at h2; exact h2
theorem SkAt.full (h : SkAt t i key last) (hi : 0 < i) (h4 : 4 ≤ key.length) : key = skAll t := by
  rcases h with ⟨rfl, rfl, rfl⟩ | ⟨h1, h2⟩
  · omega
  · rw [skRun_full _ _ _ _ _ h4] at h2; exact h2
theorem SkAt.first (t : ByteArray) : SkAt t 1 [b8 t 0] (snd (b8 t 0)) := .inr ⟨by omega, rfl⟩
end
theorem key_snoc (key : List UInt8) (d : UInt8) : (⟨key.toArray⟩ : ByteArray) ++ ⟨#[d]⟩ = ⟨(key ++ [d]).toArray⟩ := by
  apply str_inj
  rw [ByteArray.toList_eq, ByteArray.toList_eq]
  simp [ByteArray.data_append]
theorem key_size (key : List UInt8) : (⟨key.toArray⟩ : ByteArray).size = key.length := by simp [ByteArray.size]
theorem key_first {t : ByteArray} (h : 0 < t.size) : t.extract 0 1 = ⟨#[b8 t 0]⟩ := by
  apply str_inj
  rw [ByteArray.toList_eq, ByteArray.toList_eq]
  have h' : 0 < t.data.size := h
  have hd : (t.extract 0 1).data.toList = [b8 t 0] := by
    rw [ByteArray.data_extract]
    apply List.ext_getElem
    · simp; omega
    · intro n h1 h2
      simp at h2
      subst h2
      simp [b8, h]
      rfl
  rw [hd]
end Go.Proofs.YtpmklldochpnlaaDoor
