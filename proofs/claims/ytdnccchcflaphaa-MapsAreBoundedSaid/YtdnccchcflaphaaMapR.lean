/- MapR: contracts of functions of the program: called in any world that meets a contract's premises, the function returns what the contract says and changes no more than it says. -/
import Derived.Test.YtdnccchcflaphaaMapQ
import Derived.Test.YtdnccchcflaphaaSrt2
open Go Go.Eng Go.Proofs
namespace Go.Proofs.Ytdnccchcflaphaa
theorem u8rng (c : UInt8) : -9223372036854775808 ≤ ((c.toNat : Nat) : Int) ∧ ((c.toNat : Nat) : Int) ≤ 9223372036854775807 := by
  have := c.toNat_lt
  omega
theorem bit_end (k : List UInt8) (lv : Nat) : (shr8 (k.getD (lv / 8) 0) ((7 : Int) - (lv : Int) % 8).toNat).toNat % 2 = bitK k lv := by
  have e : ((7 : Int) - (lv : Int) % 8).toNat = 7 - lv % 8 := by omega
  have hlt := (k.getD (lv / 8) 0).toNat_lt
  have hle : (k.getD (lv / 8) 0).toNat / 2 ^ (7 - lv % 8) ≤ (k.getD (lv / 8) 0).toNat := Nat.div_le_self _ _
  rw [e, shr8, UInt8.toNat_ofNat', Nat.min_eq_left (by omega), Nat.mod_eq_of_lt (a := _ / _) (by omega)]
  rfl
def getS (kv : Kv) (k : List UInt8) : List UInt8 := (lookS kv k).getD (List.replicate 32 0)
theorem lookS_mem {kv : Kv} {k v : List UInt8} (h : lookS kv k = some v) : (k, v) ∈ kv := by
  induction kv with
  | nil => cases h
  | cons x kv ih =>
    obtain ⟨k', v'⟩ := x
    rw [lookS] at h
    split at h
    · rename_i hk; cases h; subst hk; exact List.mem_cons_self
    · exact List.mem_cons_of_mem _ (ih h)
theorem getS_len {kv : Kv} (hv : ∀ x ∈ kv, x.2.length = 32) (k : List UInt8) : (getS kv k).length = 32 := by
  unfold getS
  cases h : lookS kv k with
  | none => simp
  | some v => exact hv _ (lookS_mem h)
theorem partF_nil {F : List UInt8 → List UInt8} {f : Nat} {L : List (List UInt8)} {lv : Nat} (h : L.length = 0) : partF F f L lv = List.replicate 32 0 := by
  have : L = [] := List.eq_nil_of_length_eq_zero h
  subst this
  cases f <;> simp [partF, tipF]
theorem partF_one1 {F : List UInt8 → List UInt8} {f : Nat} {L : List (List UInt8)} {lv : Nat} (h : L.length = 1) : partF F f L lv = hashB 4 (L.getD 0 [] ++ F (L.getD 0 [])) := by
  cases L with
  | nil => cases h
  | cons k L =>
    have : L = [] := List.eq_nil_of_length_eq_zero (by simpa using h)
    subst this
    cases f <;> simp [partF, tipF]
theorem partF_two {F : List UInt8 → List UInt8} {f : Nat} {L : List (List UInt8)} {lv : Nat} (h : 2 ≤ L.length) : partF F (f + 1) L lv = hashB 2 (partF F f (L.take (cntZ L lv)) (lv + 1) ++ partF F f (L.drop (cntZ L lv)) (lv + 1)) := by
  rw [partF, if_neg (by omega)]
theorem sp_pos {f : Nat} {L : List (List UInt8)} {lv : Nat} (h : Sp f L lv) (h2 : 2 ≤ L.length) : ∃ g, f = g + 1 := by
  cases f with
  | zero => have : L.length ≤ 1 := h; omega
  | succ g => exact ⟨g, rfl⟩
theorem sp_two {f : Nat} {L : List (List UInt8)} {lv : Nat} (h : Sp (f + 1) L lv) (h2 : 2 ≤ L.length) : lv < 256 ∧ Sp f (L.take (cntZ L lv)) (lv + 1) ∧ Sp f (L.drop (cntZ L lv)) (lv + 1) := by
  rcases h with h | h
  · omega
  · exact h
theorem own_some {w : World} {B : Nat} {E : TypeId} {sz n c : Nat} {a : Option Addr} {cs : List Value} (h : Owns w B E sz (.slice a n c) n cs) (hn : 0 < n) : ∃ bk, a = some ⟨bk, 0, none⟩ ∧ B ≤ bk ∧ bk < w.heap.size := by
  rcases h.2 with ⟨_, h2⟩ | ⟨g', cap, cur, he, hb, hg, _⟩
  · omega
  · cases he
    exact ⟨g', rfl, hb, (Array.getElem?_eq_some_iff.1 hg).1⟩
def hexT (k : Nat) : List UInt8 := if k = 0 then [] else [48, 49]
def plcI (ot i : Int) : List UInt8 := ((((List.replicate 32 0).set 0 (b8 i)).set 1 (b8 (i / 2 ^ (8 : Int).toNat))).set 31 (b8 ot)).set 2 1
@[simp] theorem plcI_len (ot i : Int) : (plcI ot i).length = 32 := by simp [plcI]
end Go.Proofs.Ytdnccchcflaphaa
