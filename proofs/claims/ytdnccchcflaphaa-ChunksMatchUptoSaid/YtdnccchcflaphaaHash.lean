/- Hash: contracts of functions of the program: called in any world that meets a contract's premises, the function returns what the contract says and changes no more than it says. -/
import Derived.Test.YtdnccchcflaphaaM20
open Go Go.Eng Go.Proofs
namespace Go.Proofs.Ytdnccchcflaphaa
theorem shl32_bv (p : UInt32) (n : Nat) : (shl32 p n).toBitVec = p.toBitVec <<< n := by
  apply BitVec.eq_of_toNat_eq
  rw [BitVec.toNat_shiftLeft, Nat.shiftLeft_eq]
  show (UInt32.ofNat (p.toNat * 2 ^ (min n 32))).toNat = p.toNat * 2 ^ n % 2 ^ 32
  rw [UInt32.toNat_ofNat']
  rcases Nat.le_total n 32 with h | h
  · rw [Nat.min_eq_left h]
  · rw [Nat.min_eq_right h, Nat.mul_mod_left]
    obtain ⟨k, rfl⟩ := Nat.exists_eq_add_of_le h
    rw [Nat.pow_add, show p.toNat * (2 ^ 32 * 2 ^ k) = p.toNat * 2 ^ k * 2 ^ 32 by rw [Nat.mul_comm (2 ^ 32), Nat.mul_assoc], Nat.mul_mod_left]
theorem shr32_zero (p : UInt32) : shr32 p 0 = p := by
  apply UInt32.toNat_inj.1
  rw [shr32, UInt32.toNat_ofNat']
  have := p.toNat_lt
  simp
theorem shl32_or (p q : UInt32) (n : Nat) : shl32 (p ||| q) n = shl32 p n ||| shl32 q n := by
  apply UInt32.toBitVec_inj.1
  rw [shl32_bv, UInt32.toBitVec_or, UInt32.toBitVec_or, shl32_bv, shl32_bv, BitVec.shiftLeft_or_distrib]
theorem shl32_shl (p : UInt32) (m n : Nat) : shl32 (shl32 p m) n = shl32 p (m + n) := by
  apply UInt32.toBitVec_inj.1
  rw [shl32_bv, shl32_bv, shl32_bv, BitVec.shiftLeft_add]
theorem shl32_0 (n : Nat) : shl32 0 n = 0 := by
  apply UInt32.toNat_inj.1
  rw [shl32, UInt32.toNat_ofNat']
  simp
theorem four_words (a b c d : UInt32) : shl32 (shl32 (shl32 (shl32 0 8 ||| a) 8 ||| b) 8 ||| c) 8 ||| d = shl32 a 24 ||| shl32 b 16 ||| shl32 c 8 ||| d := by
  simp only [shl32_or, shl32_shl, shl32_0, UInt32.zero_or]
theorem wordsBTo_zero (s : List UInt8) : ∀ (j i : Nat), j ≤ i → (wordsBTo s j).getD i 0 = 0 := by
  intro j
  induction j with
  | zero =>
    intro i _
    simp only [wordsBTo, List.getD_eq_getElem?_getD, List.getElem?_replicate]
    split <;> rfl
  | succ j ih =>
    intro i hi
    have := ih i (by omega)
    rw [wordsBTo, List.getD_eq_getElem?_getD, List.getElem?_set_ne (by omega), ← List.getD_eq_getElem?_getD, this]
theorem getD_set_eq {α : Type} {l : List α} {i : Nat} {v d : α} (h : i < l.length) : (l.set i v).getD i d = v := by
  rw [List.getD_eq_getElem?_getD, List.getElem?_set_self h]; rfl
theorem dropTake_getD (s : List UInt8) (a n k : Nat) (h : k < n) : ((s.drop a).take n).getD k 0 = s.getD (a + k) 0 := by
  rw [List.getD_eq_getElem?_getD, List.getElem?_take_of_lt h, List.getElem?_drop, ← List.getD_eq_getElem?_getD]
theorem words_eq (s : List UInt8) : ∀ j, j ≤ 16 → wordsTo s (4 * j) = wordsBTo s j := by
  intro j
  induction j with
  | zero => intro _; rfl
  | succ j ih =>
    intro hj
    have ih := ih (by omega)
    have hl := wordsBTo_length s j
    have hz := wordsBTo_zero s j j (Nat.le_refl _)
    have e0 : 4 * (j + 1) = 4 * j + 3 + 1 := by omega
    have d0 : (4 * j) / 4 = j := by omega
    have d1 : (4 * j + 1) / 4 = j := by omega
    have d2 : (4 * j + 2) / 4 = j := by omega
    have d3 : (4 * j + 3) / 4 = j := by omega
    rw [e0]
    simp only [wordsTo, d0, d1, d2, d3, ih]
    rw [getD_set_eq (by simp [hl]; omega), getD_set_eq (by simp [hl]; omega), getD_set_eq (by simp [hl]; omega), hz]
    simp only [List.set_set]
    rw [four_words]
    simp only [wordsBTo, wordL, dropTake_getD s (4 * j) 4 _ (by decide : 0 < 4), dropTake_getD s (4 * j) 4 _ (by decide : 1 < 4), dropTake_getD s (4 * j) 4 _ (by decide : 2 < 4), dropTake_getD s (4 * j) 4 _ (by decide : 3 < 4), Nat.add_zero]
theorem putAt_four (l : List UInt8) (k : Nat) (a b c d : UInt8) (h : k + 4 ≤ l.length) : putAt l k [a, b, c, d] = (((l.set k a).set (k + 1) b).set (k + 2) c).set (k + 3) d := by
  apply List.ext_getElem?
  intro i
  simp only [putAt, List.append_assoc, List.getElem?_append, List.length_take, List.getElem?_take, List.getElem?_set, List.length_set, List.length_cons, List.length_nil, List.getElem?_drop]
  rcases Nat.lt_or_ge i k with h1 | h1
  · rw [if_pos (by omega), if_pos (by omega), if_neg (by omega), if_neg (by omega), if_neg (by omega), if_neg (by omega)]
  · rw [if_neg (by omega)]
    have hm : min k l.length = k := by omega
    rw [hm]
    obtain ⟨j, rfl⟩ := Nat.exists_eq_add_of_le h1
    rw [show k + j - k = j by omega]
    rcases j with _ | _ | _ | _ | j
    · simp; omega
    · simp; omega
    · simp; omega
    · simp; omega
    · rw [if_neg (by omega), if_neg (by omega), if_neg (by omega), if_neg (by omega), if_neg (by omega)]
      congr 1; omega
theorem octs_eq (W : List UInt32) : ∀ j, j ≤ 16 → octsTo W (4 * j) = stateBTo W j := by
  intro j
  induction j with
  | zero => intro _; rfl
  | succ j ih =>
    intro hj
    have ih := ih (by omega)
    have hl := stateBTo_length W j (by omega)
    have e0 : 4 * (j + 1) = 4 * j + 3 + 1 := by omega
    have d0 : (4 * j) / 4 = j := by omega
    have d1 : (4 * j + 1) / 4 = j := by omega
    have d2 : (4 * j + 2) / 4 = j := by omega
    have d3 : (4 * j + 3) / 4 = j := by omega
    have m0 : 24 - 8 * ((4 * j) % 4) = 24 := by omega
    have m1 : 24 - 8 * ((4 * j + 1) % 4) = 16 := by omega
    have m2 : 24 - 8 * ((4 * j + 2) % 4) = 8 := by omega
    have m3 : 24 - 8 * ((4 * j + 3) % 4) = 0 := by omega
    rw [e0]
    simp only [octsTo, d0, d1, d2, d3, m0, m1, m2, m3, ih, shr32_zero]
    rw [stateBTo, List.take_of_length_le (by rw [oct4_length]; omega), oct4, putAt_four _ _ _ _ _ _ (by omega)]
theorem rotB_eq (x : UInt32) (i : Nat) (hi : i < 16) : rotB x (5 + (i : Int)) = rotl x (5 + (i : Int)) := by
  have h : ∀ i : Fin 16, ((w64 (5 + (i.val : Int)) &&& 31).toNat : Int).toNat = (5 + (i.val : Int)).toNat ∧ ((32 - (w64 (5 + (i.val : Int)) &&& 31)).toNat : Int).toNat = (32 - (5 + (i.val : Int))).toNat := by decide +kernel
  have := h ⟨i, hi⟩
  rw [rotB, rotl, this.1, this.2]
theorem rotB_eq11 (x : UInt32) : rotB x 11 = rotl x 11 := rotB_eq x 6 (by decide)
theorem golden_eq (q : Nat) (hq : q < 200) : w32 ((2654435769 * w64 (q : Int)).toNat : Int) = 2654435769 * w32 (q : Int) := by
  have h : ∀ q : Fin 200, w32 ((2654435769 * w64 (q.val : Int)).toNat : Int) = 2654435769 * w32 (q.val : Int) := by decide +kernel
  exact h ⟨q, hq⟩
theorem step_eq (r i : Nat) (W : List UInt32) (hr : r < 8) (hi : i < 16) : stepB r i W = stepW r i W := by
  have hg := golden_eq (16 * r + i + 1) (by omega)
  have e : ((16 * r + i + 1 : Nat) : Int) = 16 * (r : Int) + (i : Int) + 1 := by omega
  rw [e] at hg
  simp only [stepB, stepW, turnB, rotB_eq _ _ hi, rotB_eq11, hg]
theorem round_eq (r : Nat) (W : List UInt32) (hr : r < 8) : ∀ i, i ≤ 16 → roundBTo r W i = roundTo r W i := by
  intro i
  induction i with
  | zero => intro _; rfl
  | succ i ih => intro h; rw [roundBTo, roundTo, ih (by omega), step_eq r i _ hr (by omega)]
theorem stirTo_eq (W : List UInt32) : ∀ r, r ≤ 8 → stirBTo W r = stirTo W r := by
  intro r
  induction r with
  | zero => intro _; rfl
  | succ r ih => intro h; rw [stirBTo, stirTo, ih (by omega), round_eq r _ (by omega) 16 (Nat.le_refl _)]
theorem stir_eq (s : List UInt8) : stirB s = stir s := by
  rw [stirB, stir, stirTo_eq _ 8 (Nat.le_refl _), ← octs_eq _ 16 (Nat.le_refl _), ← words_eq s 16 (Nat.le_refl _)]
theorem xorTo_congr (st l m : List UInt8) : ∀ k, (∀ j, j < k → l.getD j 0 = m.getD j 0) → xorTo st l k = xorTo st m k := by
  intro k
  induction k with
  | zero => intro _; rfl
  | succ k ih =>
    intro h
    rw [xorTo, xorTo, ih (fun j hj => h j (by omega)), h k (by omega)]
theorem absorbR_app (st m x : List UInt8) : ∀ k, 32 * k ≤ m.length → absorbR st (m ++ x) k = absorb st m k := by
  intro k
  induction k with
  | zero => intro _; rfl
  | succ k ih =>
    intro h
    rw [absorbR, absorb, blockB, stir_eq, ih (by omega)]
    refine congrArg stir (xorTo_congr _ _ _ _ fun j hj => ?_)
    rw [dropTake_getD _ _ _ _ hj, List.getD_eq_getElem?_getD, List.getElem?_drop, List.getElem?_append_left (by omega), ← List.getD_eq_getElem?_getD]
theorem long_eq (n : Nat) : oct8 (w64 (n : Int)) = longTo n 8 := by
  have hw : (w64 (n : Int)).toNat = n % 18446744073709551616 := by rw [w64, UInt64.toNat_ofNat']; omega
  have b8_eq : ∀ (a b : Int), a % 256 = b % 256 → b8 a = b8 b := fun a b h => by rw [b8, b8, h]
  have hs : ∀ (p : UInt32) (k : Nat), k ≤ 32 → (shr32 p k).toNat = p.toNat / 2 ^ k := fun p k hk => by
    rw [shr32, UInt32.toNat_ofNat', Nat.min_eq_left hk]
    have := p.toNat_lt
    exact Nat.mod_eq_of_lt (Nat.lt_of_le_of_lt (Nat.div_le_self _ _) this)
  have h32 : ∀ q : Nat, (w32 (q : Int)).toNat = q % 4294967296 := fun q => by rw [w32, UInt32.toNat_ofNat']; omega
  have hh : (shr64 (w64 (n : Int)) 32).toNat = n % 18446744073709551616 / 4294967296 := by rw [shr64_toNat _ _ (by decide), hw]
  simp only [oct8, oct4, hh, hw, longTo, List.getD_cons_zero, List.getD_cons_succ]
  simp only [List.replicate, List.set_cons_zero, List.set_cons_succ]
  simp only [hs _ _ (by decide : 24 ≤ 32), hs _ _ (by decide : 16 ≤ 32), hs _ _ (by decide : 8 ≤ 32), h32]
  congr 1
  · apply b8_eq
    show _ = (n : Int) / 72057594037927936 % 256
    simp only [show (2 : Nat) ^ 24 = 16777216 from rfl]
    omega
  congr 1
  · apply b8_eq
    show _ = (n : Int) / 281474976710656 % 256
    simp only [show (2 : Nat) ^ 16 = 65536 from rfl]
    omega
  congr 1
  · apply b8_eq
    show _ = (n : Int) / 1099511627776 % 256
    simp only [show (2 : Nat) ^ 8 = 256 from rfl]
    omega
  congr 1
  · apply b8_eq
    show _ = (n : Int) / 4294967296 % 256
    omega
  congr 1
  · apply b8_eq
    show _ = (n : Int) / 16777216 % 256
    simp only [show (2 : Nat) ^ 24 = 16777216 from rfl]
    omega
  congr 1
  · apply b8_eq
    show _ = (n : Int) / 65536 % 256
    simp only [show (2 : Nat) ^ 16 = 65536 from rfl]
    omega
  congr 1
  · apply b8_eq
    show _ = (n : Int) / 256 % 256
    simp only [show (2 : Nat) ^ 8 = 256 from rfl]
    omega
  congr 1
  · apply b8_eq
    show _ = (n : Int) / 1 % 256
    omega
theorem padM_eq (l : List UInt8) : padM l = (l ++ [128]) ++ List.replicate ((32 - (l.length + 1) % 32) % 32) 0 := by
  have hl : (l ++ [128]).length = l.length + 1 := by simp
  unfold padM
  rw [hl]
  split
  · rename_i h
    have : (32 - (l.length + 1) % 32) % 32 = 32 - (l.length + 1) % 32 := by omega
    rw [this]
  · rename_i h
    have : (32 - (l.length + 1) % 32) % 32 = 0 := by omega
    rw [this]; simp
theorem lastB_eq (n : Nat) : lastB n = List.replicate 24 0 ++ longTo n 8 := by
  rw [lastB, long_eq n, putAt, List.take_of_length_le (l := longTo n 8) (by rw [longTo_length]; decide), longTo_length, List.take_replicate, List.drop_replicate]
  exact List.append_nil _
theorem hash_eq (d : Int) (l : List UInt8) : hashB d l = hashR d l := by
  have hp : (padM l).length = 32 * ((padM l).length / 32) := by
    rw [padM_eq]; simp; omega
  have ht : textRn l l.length = padM l ++ lastB l.length := by
    rw [textRn, padM_eq, lastB_eq _]; simp
  have hb : (textRn l l.length).length / 32 = (padM l).length / 32 + 1 := by
    rw [ht, List.length_append, lastB_length]; omega
  rw [hashB, hashR, endF, stateR, hb, absorbR, blockB, stir_eq, ht, absorbR_app _ _ _ _ (by omega)]
  refine congrArg (List.take 32) (congrArg stir (xorTo_congr _ _ _ _ fun j hj => ?_))
  rw [List.getD_eq_getElem?_getD, List.getD_eq_getElem?_getD, List.getElem?_drop, List.getElem?_append_right (by omega), show 32 * ((padM l).length / 32) + j - (padM l).length = j by omega]
theorem hash_fn : hashB = hashR := funext fun d => funext fun l => hash_eq d l
end Go.Proofs.Ytdnccchcflaphaa
