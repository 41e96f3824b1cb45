/- YtippcmedgfmgbaaGreatP05: a calculus of walks, plain facts of the numbers that are shared, and contracts of functions of the program: called in any world that meets a contract's premises, a function returns what the contract says and changes no more than it says. -/
import Derived.Test.YtippcmedgfmgbaaGreatP02
import Derived.Test.YtippcmedgfmgbaaGreatP03
import Derived.Test.YtippcmedgfmgbaaGreatP04
import Derived.Test.YtippcmedgfmgbaaGreatChecked
section
open Go Go.Eng
namespace Go.Proofs.YtippcmedgfmgbaaGreat
/- The stirring can be undone. -/
def unB (r i : Nat) (V : List UInt32) : List UInt32 :=
  let W1 := V.set ((i + 9) % 16) (V.getD ((i + 9) % 16) 0 ^^^ rotB (V.getD i 0) 11)
  W1.set i (W1.getD i 0 - turnB W1 r i)
theorem getD_set_eq {α : Type} {l : List α} {i : Nat} (h : i < l.length) (v d : α) : (l.set i v).getD i d = v := by
  rw [List.getD_eq_getElem?_getD, List.getElem?_set_self h]; rfl
theorem getD_set_off {α : Type} {l : List α} {i j : Nat} (h : i ≠ j) (v d : α) : (l.set i v).getD j d = l.getD j d := by
  rw [List.getD_eq_getElem?_getD, List.getD_eq_getElem?_getD, List.getElem?_set_ne h]
theorem set_back {α : Type} {l : List α} {i : Nat} (h : i < l.length) (v d : α) : (l.set i v).set i (l.getD i d) = l := by
  rw [List.set_set]
  apply List.ext_getElem?
  intro k
  by_cases hk : i = k
  · subst hk
    rw [List.getElem?_set_self h, List.getD_eq_getElem?_getD, List.getElem?_eq_getElem h]; rfl
  · rw [List.getElem?_set_ne hk]
theorem un_step {r i : Nat} {W : List UInt32} (hl : W.length = 16) (hi : i < 16) (hr : r < 8) : unB r i (stepB r i W) = W := by
  have hj : (i + 9) % 16 < 16 := Nat.mod_lt _ (by decide)
  have hij : (i + 9) % 16 ≠ i := by omega
  have ht : (i + 1 + r) % 16 ≠ i := by omega
  unfold unB stepB
  simp only
  generalize hW1 : W.set i (W.getD i 0 + turnB W r i) = W1
  have hl1 : W1.length = 16 := by rw [← hW1, List.length_set, hl]
  have e1 : (W1.set ((i + 9) % 16) (W1.getD ((i + 9) % 16) 0 ^^^ rotB (W1.getD i 0) 11)).getD ((i + 9) % 16) 0 = W1.getD ((i + 9) % 16) 0 ^^^ rotB (W1.getD i 0) 11 := getD_set_eq (by omega) _ _
  have e2 : (W1.set ((i + 9) % 16) (W1.getD ((i + 9) % 16) 0 ^^^ rotB (W1.getD i 0) 11)).getD i 0 = W1.getD i 0 := getD_set_off hij _ _
  rw [e1, e2]
  have e3 : (W1.getD ((i + 9) % 16) 0 ^^^ rotB (W1.getD i 0) 11) ^^^ rotB (W1.getD i 0) 11 = W1.getD ((i + 9) % 16) 0 := by
    rw [UInt32.xor_assoc, UInt32.xor_self, UInt32.xor_zero]
  rw [e3, set_back (by omega)]
  have e4 : turnB W1 r i = turnB W r i := by
    unfold turnB
    rw [← hW1, getD_set_off (fun h => ht h.symm)]
  have e5 : W1.getD i 0 = W.getD i 0 + turnB W r i := by rw [← hW1]; exact getD_set_eq (by omega) _ _
  rw [e4, e5, UInt32.add_sub_cancel, ← hW1]
  exact set_back (by omega) _ _
theorem step_inj {r i : Nat} {W V : List UInt32} (hl : W.length = 16) (hl2 : V.length = 16) (hi : i < 16) (hr : r < 8) (h : stepB r i W = stepB r i V) : W = V := by
  rw [← un_step hl hi hr, h, un_step hl2 hi hr]
theorem round_inj {r : Nat} (hr : r < 8) : ∀ (i : Nat) {W V : List UInt32}, i ≤ 16 → W.length = 16 → V.length = 16 → roundBTo r W i = roundBTo r V i → W = V
  | 0, _, _, _, _, _, h => h
  | i + 1, W, V, hi, h1, h2, h => round_inj hr i (by omega) h1 h2 (step_inj (by simp [h1]) (by simp [h2]) (by omega) hr h)
theorem stirs_inj {W V : List UInt32} (h1 : W.length = 16) (h2 : V.length = 16) (r : Nat) : r ≤ 8 → stirBTo W r = stirBTo V r → W = V := by
  induction r with
  | zero => exact fun _ h => h
  | succ r ih =>
    intro hr h
    rw [stirBTo, stirBTo] at h
    have a : (stirBTo W r).length = 16 := by rw [stirBTo_length, h1]
    have b : (stirBTo V r).length = 16 := by rw [stirBTo_length, h2]
    generalize stirBTo W r = W' at *
    generalize stirBTo V r = V' at *
    exact ih (by omega) (round_inj (by omega) 16 (Nat.le_refl _) a b h)
theorem b8_nat (n : Nat) : (b8 (n : Int)).toNat = n % 256 := by rw [b8, UInt8.toNat_ofNat']; omega
theorem shr32_nat (p : UInt32) (k : Nat) (hk : k ≤ 32) : (shr32 p k).toNat = p.toNat / 2 ^ k := by
  rw [shr32, UInt32.toNat_ofNat', Nat.min_eq_left hk]
  have := p.toNat_lt
  exact Nat.mod_eq_of_lt (Nat.lt_of_le_of_lt (Nat.div_le_self _ _) this)
theorem oct4_inj {n m : UInt32} (h : oct4 n = oct4 m) : n = m := by
  simp only [oct4, List.cons.injEq, and_true] at h
  obtain ⟨h0, h1, h2, h3⟩ := h
  have e0 := congrArg UInt8.toNat h0
  have e1 := congrArg UInt8.toNat h1
  have e2 := congrArg UInt8.toNat h2
  have e3 := congrArg UInt8.toNat h3
  rw [b8_nat, b8_nat, shr32_nat _ _ (by decide), shr32_nat _ _ (by decide)] at e0 e1 e2
  rw [b8_nat, b8_nat] at e3
  have hn := n.toNat_lt
  have hm := m.toNat_lt
  apply UInt32.toNat_inj.1
  omega
theorem w32_nat8 (b : UInt8) : (w32 ((b.toNat : Nat) : Int)).toNat = b.toNat := by
  have := b.toNat_lt
  rw [w32, UInt32.toNat_ofNat']; omega
theorem shl32_nat (p : UInt32) (k n : Nat) (hk : k ≤ 32) (h : p.toNat < 2 ^ n) (hn : n + k ≤ 32) : (shl32 p k).toNat = p.toNat * 2 ^ k := by
  rw [shl32, UInt32.toNat_ofNat', Nat.min_eq_left hk]
  apply Nat.mod_eq_of_lt
  calc p.toNat * 2 ^ k < 2 ^ n * 2 ^ k := Nat.mul_lt_mul_of_pos_right h (Nat.pow_pos (by decide))
    _ = 2 ^ (n + k) := (Nat.pow_add ..).symm
    _ ≤ 2 ^ 32 := Nat.pow_le_pow_right (by decide) hn
theorem or_nat (p q : UInt32) (i : Nat) (a : Nat) (hp : p.toNat = a * 2 ^ i) (hq : q.toNat < 2 ^ i) : (p ||| q).toNat = p.toNat + q.toNat := by
  rw [UInt32.toNat_or, hp, Nat.mul_comm]
  exact (Nat.two_pow_add_eq_or_of_lt hq a).symm
theorem wordL_nat (o : List UInt8) : (wordL o).toNat = (((o.getD 0 0).toNat * 256 + (o.getD 1 0).toNat) * 256 + (o.getD 2 0).toNat) * 256 + (o.getD 3 0).toNat := by
  unfold wordL
  have h0 := (o.getD 0 0).toNat_lt
  have h1 := (o.getD 1 0).toNat_lt
  have h2 := (o.getD 2 0).toNat_lt
  have h3 := (o.getD 3 0).toNat_lt
  have a0 := shl32_nat (w32 (((o.getD 0 0).toNat : Nat) : Int)) 24 8 (by decide) (by rw [w32_nat8]; exact h0) (by decide)
  have a1 := shl32_nat (w32 (((o.getD 1 0).toNat : Nat) : Int)) 16 8 (by decide) (by rw [w32_nat8]; exact h1) (by decide)
  have a2 := shl32_nat (w32 (((o.getD 2 0).toNat : Nat) : Int)) 8 8 (by decide) (by rw [w32_nat8]; exact h2) (by decide)
  have a3 := w32_nat8 (o.getD 3 0)
  rw [w32_nat8] at a0 a1 a2
  generalize shl32 (w32 (((o.getD 0 0).toNat : Nat) : Int)) 24 = A at *
  generalize shl32 (w32 (((o.getD 1 0).toNat : Nat) : Int)) 16 = B at *
  generalize shl32 (w32 (((o.getD 2 0).toNat : Nat) : Int)) 8 = C at *
  generalize w32 (((o.getD 3 0).toNat : Nat) : Int) = D at *
  have e1 := or_nat A B 24 (o.getD 0 0).toNat a0 (by rw [a1]; omega)
  have e2 := or_nat (A ||| B) C 16 ((o.getD 0 0).toNat * 256 + (o.getD 1 0).toNat) (by rw [e1, a0, a1]; omega) (by rw [a2]; omega)
  have e3 := or_nat (A ||| B ||| C) D 8 (((o.getD 0 0).toNat * 256 + (o.getD 1 0).toNat) * 256 + (o.getD 2 0).toNat) (by rw [e2, e1, a0, a1, a2]; omega) (by rw [a3]; omega)
  rw [e3, e2, e1, a0, a1, a2, a3]
  omega
theorem wordsB_get (s : List UInt8) : ∀ (k i : Nat), i < k → k ≤ 16 → (wordsBTo s k).getD i 0 = wordL ((s.drop (4 * i)).take 4)
  | 0, i, h, _ => absurd h (Nat.not_lt_zero _)
  | k + 1, i, h, hk => by
    rw [wordsBTo]
    rcases Nat.lt_or_ge i k with h1 | h1
    · rw [getD_set_off (by omega)]
      exact wordsB_get s k i h1 (by omega)
    · obtain rfl : i = k := by omega
      exact getD_set_eq (by rw [wordsBTo_length]; omega) _ _
theorem dt_get (s : List UInt8) (a n k : Nat) (h : k < n) : ((s.drop a).take n).getD k 0 = s.getD (a + k) 0 := by
  rw [List.getD_eq_getElem?_getD, List.getElem?_take_of_lt h, List.getElem?_drop, ← List.getD_eq_getElem?_getD]
theorem wordsB_inj {s t : List UInt8} (hs : s.length = 64) (ht : t.length = 64) (h : wordsBTo s 16 = wordsBTo t 16) : s = t := by
  have key : ∀ i, i < 16 → ∀ j, j < 4 → s.getD (4 * i + j) 0 = t.getD (4 * i + j) 0 := fun i hi => by
    have e : ((wordsBTo s 16).getD i 0).toNat = ((wordsBTo t 16).getD i 0).toNat := by rw [h]
    rw [wordsB_get s 16 i hi (Nat.le_refl _), wordsB_get t 16 i hi (Nat.le_refl _), wordL_nat, wordL_nat] at e
    simp only [dt_get _ _ 4 _ (by decide : 0 < 4), dt_get _ _ 4 _ (by decide : 1 < 4), dt_get _ _ 4 _ (by decide : 2 < 4), dt_get _ _ 4 _ (by decide : 3 < 4)] at e
    have a0 := (s.getD (4 * i + 0) 0).toNat_lt
    have a1 := (s.getD (4 * i + 1) 0).toNat_lt
    have a2 := (s.getD (4 * i + 2) 0).toNat_lt
    have a3 := (s.getD (4 * i + 3) 0).toNat_lt
    have b0 := (t.getD (4 * i + 0) 0).toNat_lt
    have b1 := (t.getD (4 * i + 1) 0).toNat_lt
    have b2 := (t.getD (4 * i + 2) 0).toNat_lt
    have b3 := (t.getD (4 * i + 3) 0).toNat_lt
    intro j hj
    apply UInt8.toNat_inj.1
    have hj4 : j = 0 ∨ j = 1 ∨ j = 2 ∨ j = 3 := by omega
    rcases hj4 with rfl | rfl | rfl | rfl <;> omega
  apply List.ext_getElem (by omega)
  intro k h1 h2
  have := key (k / 4) (by omega) (k % 4) (by omega)
  rw [show 4 * (k / 4) + k % 4 = k by omega, List.getD_eq_getElem?_getD, List.getD_eq_getElem?_getD, List.getElem?_eq_getElem h1, List.getElem?_eq_getElem h2] at this
  exact this
theorem putAt_off (l m : List UInt8) (k a n : Nat) (h : a + n ≤ k) (hk : k + m.length ≤ l.length) : ((putAt l k m).drop a).take n = (l.drop a).take n := by
  unfold putAt
  rw [List.append_assoc, List.drop_append_of_le_length (by rw [List.length_take]; omega), List.take_append_of_le_length (by rw [List.length_drop, List.length_take]; omega), List.drop_take, List.take_take, Nat.min_eq_left (by omega)]
theorem putAt_at (l m : List UInt8) (k n : Nat) (hn : m.length = n) (hk : k + m.length ≤ l.length) : ((putAt l k m).drop k).take n = m := by
  unfold putAt
  rw [List.append_assoc, List.drop_append, List.drop_eq_nil_of_le (by rw [List.length_take]; omega), List.nil_append, List.length_take, Nat.min_eq_left (by omega), Nat.sub_self, List.drop_zero, List.take_append_of_le_length (by omega), List.take_of_length_le (by omega)]
theorem stateB_get (W : List UInt32) : ∀ (k i : Nat), i < k → k ≤ 16 → ((stateBTo W k).drop (4 * i)).take 4 = oct4 (W.getD i 0)
  | 0, i, h, _ => absurd h (Nat.not_lt_zero _)
  | k + 1, i, h, hk => by
    have hl := stateBTo_length W k (by omega)
    have ht : (oct4 (W.getD k 0)).take (64 - 4 * k) = oct4 (W.getD k 0) := List.take_of_length_le (by rw [oct4_length]; omega)
    rw [stateBTo, ht]
    rcases Nat.lt_or_ge i k with h1 | h1
    · rw [putAt_off _ _ _ _ _ (by omega) (by rw [oct4_length]; omega)]
      exact stateB_get W k i h1 (by omega)
    · obtain rfl : i = k := by omega
      exact putAt_at _ _ _ _ (oct4_length _) (by rw [oct4_length]; omega)
theorem stateB_inj {W V : List UInt32} (hW : W.length = 16) (hV : V.length = 16) (h : stateBTo W 16 = stateBTo V 16) : W = V := by
  apply List.ext_getElem (by omega)
  intro i h1 h2
  have a := stateB_get W 16 i (by omega) (Nat.le_refl _)
  have b := stateB_get V 16 i (by omega) (Nat.le_refl _)
  rw [h, b] at a
  have := oct4_inj a
  rw [List.getD_eq_getElem?_getD, List.getD_eq_getElem?_getD, List.getElem?_eq_getElem h1, List.getElem?_eq_getElem h2] at this
  exact this.symm
theorem stirB_inj {s t : List UInt8} (hs : s.length = 64) (ht : t.length = 64) (h : stirB s = stirB t) : s = t := by
  unfold stirB at h
  exact wordsB_inj hs ht (stirs_inj (wordsBTo_length _ _) (wordsBTo_length _ _) 8 (Nat.le_refl _) (stateB_inj (by simp) (by simp) h))
/- The numbers of a stream. -/
/-- a block of the stream -/
def seedB (k n : List UInt8) (i : Nat) : List UInt8 := putAt (putAt (putAt (List.replicate 64 0) 0 (k.take 64)) 32 (n.take 32)) 56 ((oct8 (w64 (i : Int))).take 8)
theorem seedB_length {k n : List UInt8} (hk : k.length = 32) (hn : n.length = 16) (i : Nat) : (seedB k n i).length = 64 := by
  unfold seedB
  have a : (putAt (List.replicate 64 (0 : UInt8)) 0 (k.take 64)).length = 64 := by rw [putAt_length _ _ _ (by simp; omega)]; simp
  have b : (putAt (putAt (List.replicate 64 (0 : UInt8)) 0 (k.take 64)) 32 (n.take 32)).length = 64 := by rw [putAt_length _ _ _ (by rw [a]; simp; omega), a]
  rw [putAt_length _ _ _ (by rw [b]; simp), b]
def blkB (k n : List UInt8) (i : Nat) : List UInt8 := stirB (seedB k n i)
@[simp] theorem blkB_length (k n : List UInt8) (i : Nat) : (blkB k n i).length = 64 := stirB_length _
theorem blkB_inj {k n : List UInt8} (hk : k.length = 32) (hn : n.length = 16) {i j : Nat} (hi : i < 256) (hj : j < 256) (h : blkB k n i = blkB k n j) : i = j := by
  have h2 := stirB_inj (seedB_length hk hn i) (seedB_length hk hn j) h
  have a : (putAt (List.replicate 64 (0 : UInt8)) 0 (k.take 64)).length = 64 := by rw [putAt_length _ _ _ (by simp; omega)]; simp
  have b : (putAt (putAt (List.replicate 64 (0 : UInt8)) 0 (k.take 64)) 32 (n.take 32)).length = 64 := by rw [putAt_length _ _ _ (by rw [a]; simp; omega), a]
  have e : ∀ i : Nat, ((seedB k n i).drop 56).take 8 = oct8 (w64 (i : Int)) := fun i => by
    unfold seedB
    rw [putAt_at _ _ _ _ (by simp) (by rw [b]; simp)]
    rfl
  have h3 := e i
  rw [h2, e j] at h3
  have h4 := congrArg (fun l => (l.getD 7 0).toNat) h3
  have g : ∀ i : Nat, i < 256 → ((oct8 (w64 (i : Int))).getD 7 0).toNat = i := fun i hi => by
    have : ∀ i : Fin 256, ((oct8 (w64 ((i.val : Nat) : Int))).getD 7 0).toNat = i.val := by decide +kernel
    exact this ⟨i, hi⟩
  rw [g i hi, g j hj] at h4
  exact h4.symm
def pairV (b : List UInt8) (j : Nat) : Nat := 256 * (b.getD (2 * j) 0).toNat + (b.getD (2 * j + 1) 0).toNat
def pairsTo (b : List UInt8) : Nat → List F
  | 0 => []
  | j + 1 => if pairV b j < 65535 then pairsTo b j ++ [fI (pairV b j : Nat)] else pairsTo b j
def numsTo (B : Nat → List UInt8) : Nat → List F
  | 0 => []
  | k + 1 => numsTo B k ++ pairsTo (B k) 32
theorem pairs_nil (b : List UInt8) : ∀ j, pairsTo b j = [] → ∀ i, i < j → pairV b i = 65535
  | 0, _, i, hi => absurd hi (Nat.not_lt_zero _)
  | j + 1, h, i, hi => by
    rw [pairsTo] at h
    split at h
    · simp at h
    · rename_i hv
      rcases Nat.lt_or_ge i j with h1 | h1
      · exact pairs_nil b j h i h1
      · obtain rfl : i = j := by omega
        have a := (b.getD (2 * i) 0).toNat_lt
        have c := (b.getD (2 * i + 1) 0).toNat_lt
        unfold pairV at *
        omega
theorem all255 {b : List UInt8} (hl : b.length = 64) (h : pairsTo b 32 = []) : b = List.replicate 64 255 := by
  have key : ∀ k, k < 64 → b.getD k 0 = 255 := fun k hk => by
    have := pairs_nil b 32 h (k / 2) (by omega)
    have a := (b.getD (2 * (k / 2)) 0).toNat_lt
    have c := (b.getD (2 * (k / 2) + 1) 0).toNat_lt
    unfold pairV at this
    apply UInt8.toNat_inj.1
    show _ = 255
    rcases Nat.mod_two_eq_zero_or_one k with h2 | h2
    · rw [show 2 * (k / 2) = k by omega] at *; omega
    · rw [show 2 * (k / 2) + 1 = k by omega] at *; omega
  apply List.ext_getElem (by rw [hl]; simp)
  intro k h1 h2
  have := key k (by omega)
  rw [List.getD_eq_getElem?_getD, List.getElem?_eq_getElem h1] at this
  rw [List.getElem_replicate]
  exact this
theorem nums_len {B : Nat → List UInt8} (hB : ∀ k, (B k).length = 64) (hi : ∀ i j, i < 256 → j < 256 → B i = B j → i = j) : ∀ k, k ≤ 256 → k ≤ (numsTo B k).length ∨ (k ≤ (numsTo B k).length + 1 ∧ ∃ q, q < k ∧ pairsTo (B q) 32 = [])
  | 0, _ => .inl (Nat.zero_le _)
  | k + 1, hk => by
    have ih := nums_len hB hi k (by omega)
    rw [numsTo, List.length_append]
    by_cases h : pairsTo (B k) 32 = []
    · rcases ih with h1 | ⟨_, q, hq, h2⟩
      · exact .inr ⟨by omega, k, by omega, h⟩
      · have := hi q k (by omega) (by omega) ((all255 (hB q) h2).trans (all255 (hB k) h).symm)
        omega
    · have : 0 < (pairsTo (B k) 32).length := List.length_pos_iff.2 h
      rcases ih with h1 | ⟨h1, q, hq, h2⟩
      · exact .inl (by omega)
      · exact .inr ⟨by omega, q, by omega, h2⟩
theorem nums_grow {B : Nat → List UInt8} (hB : ∀ k, (B k).length = 64) (hi : ∀ i j, i < 256 → j < 256 → B i = B j → i = j) {k : Nat} (hk : k ≤ 256) : k ≤ (numsTo B k).length + 1 := by
  rcases nums_len hB hi k hk with h | h <;> omega
theorem nums_pre (B : Nat → List UInt8) {k : Nat} : ∀ m, k ≤ m → ∃ X, numsTo B m = numsTo B k ++ X
  | 0, h => ⟨[], by obtain rfl : k = 0 := by omega
                    simp⟩
  | m + 1, h => by
    rcases Nat.lt_or_ge m k with h1 | h1
    · obtain rfl : k = m + 1 := by omega
      exact ⟨[], by simp⟩
    · obtain ⟨X, hX⟩ := nums_pre B m h1
      exact ⟨X ++ pairsTo (B m) 32, by rw [numsTo, hX, List.append_assoc]⟩
/-- so many numbers of a stream -/
def numsL (B : Nat → List UInt8) (many : Nat) : List F := (numsTo B (many + 1)).take many
theorem nums_done {B : Nat → List UInt8} {k many : Nat} (h : many ≤ (numsTo B k).length) (hk : k ≤ many + 1) : (numsTo B k).take many = numsL B many := by
  obtain ⟨X, hX⟩ := nums_pre B (k := k) (many + 1) hk
  rw [numsL, hX, List.take_append_of_le_length h]
theorem numsL_len {B : Nat → List UInt8} (hB : ∀ k, (B k).length = 64) (hi : ∀ i j, i < 256 → j < 256 → B i = B j → i = j) {many : Nat} (hm : many ≤ 255) : (numsL B many).length = many := by
  have := nums_grow hB hi (k := many + 1) (by omega)
  rw [numsL, List.length_take]; omega
theorem take_grow {L : List F} {x : F} {n many : Nat} (hn : (L.take many).length = n) (h : n < many) : (L ++ [x]).take many = L.take many ++ [x] := by
  rw [List.length_take] at hn
  rw [List.take_of_length_le (by rw [List.length_append, List.length_singleton]; omega), List.take_of_length_le (by omega)]
theorem take_full {L M : List F} {n many : Nat} (hn : (L.take many).length = n) (h : many ≤ n) : (L ++ M).take many = L.take many := by
  rw [List.length_take] at hn
  exact List.take_append_of_le_length (by omega)
end Go.Proofs.YtippcmedgfmgbaaGreat
end
section
open Go Go.Eng Go.Proofs
namespace Go.Proofs.YtippcmedgfmgbaaGreat
def xorTo (st blk : List UInt8) : Nat → List UInt8
  | 0 => st
  | k + 1 => (xorTo st blk k).set k ((xorTo st blk k).getD k 0 ^^^ blk.getD k 0)
@[simp] theorem xorTo_length (st blk : List UInt8) (k : Nat) : (xorTo st blk k).length = st.length := by induction k with | zero => rfl | succ k ih => simp [xorTo, ih]
def blockB (st blk : List UInt8) : List UInt8 := stirB (xorTo st blk 32)
@[simp] theorem blockB_length (st blk : List UInt8) : (blockB st blk).length = 64 := stirB_length _
theorem blockB_spec (st blk : List UInt8) (sb bb bo : Nat) (w : World) (hl : st.length = 64) (hl2 : blk.length = 32) (hs : Pc w sb 0 (bs st)) (hb : Rd w bb bo (bs blk)) (hd : bb ≠ sb ∨ 64 ≤ bo) :
  Rtn Tryz.prog 106 [.pointer (some ⟨sb, 0, none⟩), .pointer (some ⟨bb, bo, none⟩)].toArray w (fun _ w' => Pc w' sb 0 (bs (blockB st blk)) ∧ Chg (rng sb 0 64) w w') := by
 refine fn_body (l := [.pointer (some ⟨sb, 0, none⟩), .pointer (some ⟨bb, bo, none⟩)]) 33 [] Tryz.func106 rfl Tryz.ntmps106 (Nat.le_of_ble_eq_true rfl) (by rw [Tryz.results106]) ?_
 refine go_seq ?_
 refine go_seq ?_
 refine go_region 2 rfl rfl ?_
 refine s_val rfl rfl (r_move) rfl ?_
 refine s_val rfl rfl (r_move) rfl ?_
 refine s_end ?_
 refine go_block ?_
 refine go_loopM (σ := Nat) [(4, 5), (7, 24)] (fun (k : Nat) e' w' => e' 7 = i64 (k : Nat) ∧ k ≤ 32 ∧ Pc w' sb 0 (bs (xorTo st blk k)) ∧ Chg (rng sb 0 64) w w') (fun (k : Nat) => 32 - k) 0 ?_ ?_
 ·exact ⟨rfl, by omega, hs, (Chg.refl (rng sb 0 64) w)⟩
 rintro k f2 w1 ⟨e3, hk, hs, C_w1⟩
 have ob_5 : ∃ g_, f2 = upd g_ 7 (i64 (k : Nat)) := ⟨f2, upd_id e3⟩
 obtain ⟨f4, rfl⟩ := ob_5
 clear e3
 have hs_w1 : w.heap.size ≤ w1.heap.size := Chg.size C_w1
 have hx := xorTo_length st blk k
 refine go_seq ?_
 refine go_region 1 rfl rfl ?_
 refine s_val rfl rfl (r_lss rfl rfl) rfl ?_
 refine s_end ?_
 refine go_seq ?_
 refine go_ifb _ rfl (fun h => ?_) (fun h => ?_)
 ·first | replace h := dcT h | replace h := dcF (nt h) | skip
  refine go_skip ?_
  refine go_seq ?_
  refine go_block ?_
  refine go_seq ?_
  refine go_drawsE 5 (.take 0 (.take 1 (.take 2 (.take 3 (.take 4 (.eff 5 .done)))))) (by kernel_rfl) (by kernel_rfl) fun w6 c_w6 => ?_
  have hs_w6 : w1.heap.size ≤ w6.heap.size := Chg.size c_w6
  replace hs := hs.k c_w6
  have C_w6 := Chg.pure C_w1 c_w6
  refine s_takeE rfl rfl (r_move) ?_
  refine s_takeE rfl rfl (r_nilCheck rfl) ?_
  refine s_takeE rfl rfl (r_indexArr (k := k) Tryz.runUnderlying22 Tryz.sizeOf5 rfl rfl (by first | rfl | omega) (by first | decide | omega)) ?_
  refine s_takeE rfl rfl (r_load1 Tryz.isAgg5 rfl (Rd.at1 (hb.kept C_w6 (fun j hj m => by have h1 := m.1; have h2 := m.2; rw [bs_length] at hj; omega)) (bs_get (by first | omega | (simp; try omega))))) ?_
  refine s_takeE rfl rfl (r_assign) ?_
  refine s_val rfl rfl (r_assign) rfl ?_
  refine s_end ?_
  refine go_drawsE 10 (.take 0 (.take 1 (.take 2 (.take 3 (.take 4 (.take 5 (.take 6 (.take 7 (.take 8 (.take 9 (.eff 10 (.eff 11 .done)))))))))))) (by kernel_rfl) (by kernel_rfl) fun w7 c_w7 => ?_
  have hs_w7 : w6.heap.size ≤ w7.heap.size := Chg.size c_w7
  replace hs := hs.k c_w7
  have C_w7 := Chg.pure C_w6 c_w7
  refine s_takeE rfl rfl (r_move) ?_
  refine s_takeE rfl rfl (r_move) ?_
  refine s_takeE rfl rfl (r_nilCheck rfl) ?_
  refine s_takeE rfl rfl (r_fieldAddr Tryz.runUnderlying136 rfl Tryz.sizeOf86 rfl rfl) ?_
  refine s_takeE rfl rfl (r_indexArr (k := k) Tryz.runUnderlying86 Tryz.sizeOf5 rfl rfl (by first | rfl | omega) (by first | decide | omega)) ?_
  refine s_takeE rfl rfl (r_load1 Tryz.isAgg5 rfl (Rd.at1 hs.rd (bs_get (by first | omega | (simp; try omega))))) ?_
  refine s_takeE rfl rfl (r_move) ?_
  refine s_takeE rfl rfl (r_xor8 rfl rfl) ?_
  refine s_takeE rfl rfl (r_nilCheck rfl) ?_
  refine s_takeE rfl rfl (r_fieldAddr Tryz.runUnderlying136 rfl Tryz.sizeOf86 rfl rfl) ?_
  refine s_val rfl rfl (r_indexArr (k := k) Tryz.runUnderlying86 Tryz.sizeOf5 rfl rfl (by first | rfl | omega) (by first | decide | omega)) rfl ?_
  refine s_do rfl rfl (w_set_b (o := 0) (k := k) Tryz.sizeOf5 rfl rfl hs (by first | omega | (simp; try omega))) rfl ?_
  rintro _ w8 ⟨q_w8, c_w8⟩
  have hs_w8 : w7.heap.size ≤ w8.heap.size := Chg.size c_w8
  have C_w8 := Chg.into C_w7 c_w8 (by intro b' o' _ m; exact ⟨m.1, by have := m.2; omega, by have := m.2; omega⟩)
  have hs := q_w8
  refine s_end ?_
  refine go_nil (block_normal ?_)
  refine go_region 2 rfl rfl ?_
  refine s_val rfl rfl (r_addi rfl rfl (by omega)) rfl ?_
  refine s_val rfl rfl (r_move) rfl ?_
  refine s_end ?_
  refine go_nil (loop_normal ⟨⟨(k + 1), by first | omega | (dsimp only; omega), ⟨rfl, by omega, hs, C_w8⟩⟩, (by repeat (first | exact same_refl | exact same_over | refine same_upd rfl ?_ | refine same_over2 rfl ?_))⟩)
 ·first | replace h := dcF h | replace h := dcT (nf h) | skip
  have ob_9 : k = 32 := by omega
  obtain rfl := ob_9
  refine go_exit (loop_exit (block_hit ?_))
  refine go_region 9 rfl rfl ?_
  refine s_val rfl rfl (r_move) rfl ?_
  refine s_val rfl rfl (r_move) rfl ?_
  refine s_val rfl rfl (r_nilCheck rfl) rfl ?_
  refine s_val rfl rfl (r_fieldAddr Tryz.runUnderlying136 rfl Tryz.sizeOf86 rfl rfl) rfl ?_
  refine s_val rfl rfl (r_loadN Tryz.isAgg86 Tryz.sizeOf86 rfl hs.rd (bs_len (by first | omega | (simp; try omega)))) rfl ?_
  refine s_do rfl rfl (w_call Tryz.call114 rfl (stirB_spec _ _ (by first | omega | (simp; try omega)))) rfl ?_
  rintro _ w10 ⟨rfl, c_w10⟩
  have hs_w10 : w1.heap.size ≤ w10.heap.size := Chg.size c_w10
  replace hs := hs.k c_w10
  have C_w10 := Chg.pure C_w1 c_w10
  refine s_val rfl rfl (r_nilCheck rfl) rfl ?_
  refine s_val rfl rfl (r_fieldAddr Tryz.runUnderlying136 rfl Tryz.sizeOf86 rfl rfl) rfl ?_
  refine s_do rfl rfl (w_storeA (o := 0) Tryz.sizeOf86 rfl rfl (bs_len (by first | omega | (simp; try omega))) (flat_bs _) hs (bs_len (by first | omega | (simp; try omega)))) rfl ?_
  rintro _ w11 ⟨q_w11, c_w11⟩
  have hs_w11 : w10.heap.size ≤ w11.heap.size := Chg.size c_w11
  have C_w11 := Chg.into C_w10 c_w11 (by intro b' o' _ m; exact ⟨m.1, by have := m.2; omega, by have := m.2; omega⟩)
  have hs := q_w11
  refine s_end ?_
  refine go_nil ?_
  refine ⟨_, .nil, ?_⟩
  exact ⟨hs, C_w11⟩
end Go.Proofs.YtippcmedgfmgbaaGreat
end
section
open Go Go.Eng Go.Proofs
namespace Go.Proofs.YtippcmedgfmgbaaGreat
/-- the state behind k whole blocks of l -/
def absorb (st l : List UInt8) : Nat → List UInt8
  | 0 => st
  | k + 1 => blockB (absorb st l k) ((l.drop (32 * k)).take 32)
theorem absorb_length (st l : List UInt8) (k : Nat) (h : st.length = 64) : (absorb st l k).length = 64 := by cases k with | zero => exact h | succ k => simp [absorb]
def tailF (st rest l : List UInt8) : List UInt8 × List UInt8 × Nat := (absorb st l (l.length / 32), putAt rest 0 (l.drop (32 * (l.length / 32))), l.length % 32)
/-- what taking octets makes of state, rest and how many there are -/
def takeF (st rest : List UInt8) (h : Nat) (l : List UInt8) : List UInt8 × List UInt8 × Nat :=
  if 0 < h then
    let rest1 := putAt rest h (l.take (32 - h))
    if h + min l.length (32 - h) < 32 then (st, rest1, h + min l.length (32 - h))
    else tailF (blockB st rest1) rest1 (l.drop (min l.length (32 - h)))
  else tailF st rest l
theorem tailF_eq (S R L : List UInt8) (k n : Nat) (hk : n + 32 * k = L.length) (hn : n < 32) : tailF S R L = (absorb S L k, putAt R 0 ((L.drop (32 * k)).take 32), min n 32) := by
  have h1 : L.length / 32 = k := by omega
  have h2 : L.length % 32 = min n 32 := by omega
  rw [tailF, h1, h2, List.take_of_length_le (by rw [List.length_drop]; omega)]
theorem take_spec (st rest l : List UInt8) (sb h n c : Nat) (a : Option Addr) (w : World) (hst : st.length = 64) (hre : rest.length = 32) (hh : h < 32) (hn : l.length = n) (hc : n ≤ c) (hbig : n < 4611686018427387904) (hs : Pc w sb 0 (bs st)) (hrest : Pc w sb 64 (bs rest)) (hhave : Pc w sb 96 [i64 (h : Nat)]) (hsl : SlAt w a (bs l)) (hne : ∀ x, a = some x → x.block ≠ sb) :
  Rtn Tryz.prog 84 [.pointer (some ⟨sb, 0, none⟩), Value.slice a n c].toArray w (fun _ w' => Pc w' sb 0 (bs (takeF st rest h l).1) ∧ Pc w' sb 64 (bs (takeF st rest h l).2.1) ∧ Pc w' sb 96 [i64 ((takeF st rest h l).2.2 : Nat)] ∧ Chg (rng sb 0 97) w w') := by
 refine fn_body (l := [.pointer (some ⟨sb, 0, none⟩), Value.slice a n c]) 62 [] Tryz.func84 rfl Tryz.ntmps84 (Nat.le_of_ble_eq_true rfl) (by rw [Tryz.results84]) ?_
 refine go_seq ?_
 refine go_seq ?_
 refine go_region 5 rfl rfl ?_
 refine s_val rfl rfl (r_move) rfl ?_
 refine s_val rfl rfl (r_nilCheck rfl) rfl ?_
 refine s_val rfl rfl (r_fieldAddr Tryz.runUnderlying136 rfl Tryz.sizeOf3 rfl rfl) rfl ?_
 refine s_val rfl rfl (r_load1 Tryz.isAgg3 rfl hhave.rd) rfl ?_
 refine s_val rfl rfl (r_gtr rfl rfl) rfl ?_
 refine s_end ?_
 refine go_meet [(1, 1), (4, 4), (10, 43)] (fun e' w' => ∃ (S : List UInt8) (R : List UInt8) (L : List UInt8) (a2 : Option Addr) (n2 : Nat) (c2 : Nat), e' 1 = Value.slice a2 n2 c2 ∧ L.length = n2 ∧ n2 ≤ c2 ∧ S.length = 64 ∧ R.length = 32 ∧ n2 < 4611686018427387904 ∧ takeF st rest h l = tailF S R L ∧ SlAt w a2 (bs L) ∧ (∀ x, a2 = some x → x.block ≠ sb) ∧ Pc w' sb 0 (bs S) ∧ Pc w' sb 64 (bs R) ∧ Pc w' sb 96 [i64 0] ∧ Chg (rng sb 0 97) w w') ?_ ?_
 ·
  refine go_ifb _ rfl (fun h1 => ?_) (fun h1 => ?_)
  ·first | replace h1 := dcT h1 | replace h1 := dcF (nt h1) | skip
   have hpl : (putAt rest h (l.take (32 - h))).length = 32 := by rw [putAt_length]; exact hre; rw [List.length_take]; omega
   refine go_seq ?_
   refine go_drawsE 9 (.take 0 (.take 1 (.take 2 (.take 3 (.take 4 (.take 5 (.take 6 (.take 7 (.take 8 (.eff 9 (.eff 10 .done))))))))))) (by kernel_rfl) (by kernel_rfl) fun w3 c_w3 => ?_
   have hs_w3 : w.heap.size ≤ w3.heap.size := Chg.size c_w3
   replace hs := hs.k c_w3
   replace hrest := hrest.k c_w3
   replace hhave := hhave.k c_w3
   have C_w3 := Chg.pure (Chg.refl (rng sb 0 97) w) c_w3
   refine s_takeE rfl rfl (r_move) ?_
   refine s_takeE rfl rfl (r_nilCheck rfl) ?_
   refine s_takeE rfl rfl (r_fieldAddr Tryz.runUnderlying136 rfl Tryz.sizeOf22 rfl rfl) ?_
   refine s_takeE rfl rfl (r_move) ?_
   refine s_takeE rfl rfl (r_nilCheck rfl) ?_
   refine s_takeE rfl rfl (r_fieldAddr Tryz.runUnderlying136 rfl Tryz.sizeOf3 rfl rfl) ?_
   refine s_takeE rfl rfl (r_load1 Tryz.isAgg3 rfl hhave.rd) ?_
   refine s_takeE rfl rfl (r_sliceA (l := h) (h := 32) (m := 32) Tryz.runUnderlying22 Tryz.sizeOf5 rfl ⟨_, _, rfl, by first | rfl | omega⟩ rfl rfl (by first | decide | (intro h_; cases h_)) (by first | decide | omega) (by first | decide | omega | (intro _; omega)) (by first | decide | omega) (by first | decide | omega)) ?_
   refine s_takeE rfl rfl (r_move) ?_
   refine s_do rfl rfl (w_copy_b (o := 64) (lo := h) Tryz.underlying55 (by kernel_rfl) rfl rfl hrest (by first | omega | (simp; try omega)) (hsl.kept C_w3 (fun _ _ ha_ _ _ m_ => hne _ ha_ m_.1)) (by first | rfl | omega | (simp; done) | (simp; omega))) rfl ?_
   rintro _ w4 ⟨rfl, q_w4, c_w4⟩
   have hs_w4 : w3.heap.size ≤ w4.heap.size := Chg.size c_w4
   replace hs := hs.ko c_w4 (by first | omega | exact ko_bs (by omega) | (simp only [List.length_cons, List.length_nil]; omega) | (rw [bs_length]; omega) | (simp only [List.length_cons, List.length_nil, bs_length]; omega) | (simp [bs_length]; done) | (simp [bs_length]; omega) | (simp; done) | (simp; omega))
   replace hhave := hhave.ko c_w4 (by first | omega | exact ko_bs (by omega) | (simp only [List.length_cons, List.length_nil]; omega) | (rw [bs_length]; omega) | (simp only [List.length_cons, List.length_nil, bs_length]; omega) | (simp [bs_length]; done) | (simp [bs_length]; omega) | (simp; done) | (simp; omega))
   have C_w4 := Chg.into C_w3 c_w4 (by intro b' o' _ m; exact ⟨m.1, by have := m.2; omega, by have := m.2; omega⟩)
   have hrest := q_w4
   refine s_val rfl rfl (r_assign) rfl ?_
   refine s_end ?_
   refine go_seq ?_
   refine go_region 9 rfl rfl ?_
   refine s_val rfl rfl (r_move) rfl ?_
   refine s_val rfl rfl (r_nilCheck rfl) rfl ?_
   refine s_val rfl rfl (r_fieldAddr Tryz.runUnderlying136 rfl Tryz.sizeOf3 rfl rfl) rfl ?_
   refine s_val rfl rfl (r_load1 Tryz.isAgg3 rfl hhave.rd) rfl ?_
   refine s_val rfl rfl (r_move) rfl ?_
   refine s_val rfl rfl (r_addi rfl rfl (by omega)) rfl ?_
   refine s_val rfl rfl (r_nilCheck rfl) rfl ?_
   refine s_val rfl rfl (r_fieldAddr Tryz.runUnderlying136 rfl Tryz.sizeOf3 rfl rfl) rfl ?_
   refine s_do rfl rfl (w_store1 (o := 96) Tryz.sizeOf3 rfl rfl rfl rfl hhave) rfl ?_
   rintro _ w5 ⟨q_w5, c_w5⟩
   have hs_w5 : w4.heap.size ≤ w5.heap.size := Chg.size c_w5
   replace hs := hs.ko c_w5 (by first | omega | exact ko_bs (by omega) | (simp only [List.length_cons, List.length_nil]; omega) | (rw [bs_length]; omega) | (simp only [List.length_cons, List.length_nil, bs_length]; omega) | (simp [bs_length]; done) | (simp [bs_length]; omega) | (simp; done) | (simp; omega))
   replace hrest := hrest.ko c_w5 (by first | omega | exact ko_bs (by omega) | (simp only [List.length_cons, List.length_nil]; omega) | (rw [bs_length]; omega) | (simp only [List.length_cons, List.length_nil, bs_length]; omega) | (simp [bs_length]; done) | (simp [bs_length]; omega) | (simp; done) | (simp; omega))
   have C_w5 := Chg.into C_w4 c_w5 (by intro b' o' _ m; exact ⟨m.1, by have := m.2; omega, by have := m.2; omega⟩)
   have hhave := q_w5
   refine s_end ?_
   refine go_seq ?_
   refine go_region 4 rfl rfl ?_
   refine s_val rfl rfl (r_move) rfl ?_
   refine s_val rfl rfl (r_move) rfl ?_
   have s6 := SlAt.cutB_drop hsl (min n (32 - h)) c (by first | omega | (simp; omega))
   have hne_s6 := cutA_ne (l := (min n (32 - h))) (m := c) (sz := 1) hne
   refine s_val rfl rfl (r_sliceSl (l := (min n (32 - h))) (h := n) (m := c) Tryz.runUnderlying55 Tryz.sizeOf5 rfl ⟨_, _, rfl, by first | rfl | omega⟩ rfl rfl (by first | decide | (intro h_; cases h_)) (by first | decide | omega) (by first | decide | omega | (intro _; omega)) (by first | exact Nat.le_refl _ | omega)) rfl ?_
   refine s_val rfl rfl (r_assign) rfl ?_
   refine s_end ?_
   refine go_seq ?_
   refine go_seq ?_
   refine go_region 5 rfl rfl ?_
   refine s_val rfl rfl (r_move) rfl ?_
   refine s_val rfl rfl (r_nilCheck rfl) rfl ?_
   refine s_val rfl rfl (r_fieldAddr Tryz.runUnderlying136 rfl Tryz.sizeOf3 rfl rfl) rfl ?_
   refine s_val rfl rfl (r_load1 Tryz.isAgg3 rfl hhave.rd) rfl ?_
   refine s_val rfl rfl (r_lss rfl rfl) rfl ?_
   refine s_end ?_
   refine go_ifb _ rfl (fun h2 => ?_) (fun h2 => ?_)
   ·first | replace h2 := dcT h2 | replace h2 := dcF (nt h2) | skip
    refine go_ret (loop_ret ?_)
    refine ⟨_, .nil, ?_⟩
    have e : takeF st rest h l = (st, putAt rest h (l.take (32 - h)), h + min n (32 - h)) := by rw [takeF, if_pos (by omega), if_pos (by rw [hn]; omega), hn]
    rw [e]; exact ⟨hs, hrest, hhave, C_w5⟩
   ·first | replace h2 := dcF h2 | replace h2 := dcT (nf h2) | skip
    refine go_skip ?_
    refine go_seq ?_
    refine go_region 5 rfl rfl ?_
    refine s_val rfl rfl (r_move) rfl ?_
    refine s_val rfl rfl (r_move) rfl ?_
    refine s_val rfl rfl (r_nilCheck rfl) rfl ?_
    refine s_val rfl rfl (r_fieldAddr Tryz.runUnderlying136 rfl Tryz.sizeOf22 rfl rfl) rfl ?_
    refine s_do rfl rfl (w_call Tryz.call106 rfl (blockB_spec _ _ sb _ _ _ (by first | omega | (simp; try omega)) (by first | omega | (simp; try omega)) hs hrest.rd (.inr (by decide)))) rfl ?_
    rintro _ w7 ⟨q_w7, c_w7⟩
    have hs_w7 : w5.heap.size ≤ w7.heap.size := Chg.size c_w7
    replace hrest := hrest.ko c_w7 (by first | omega | exact ko_bs (by omega) | (simp only [List.length_cons, List.length_nil]; omega) | (rw [bs_length]; omega) | (simp only [List.length_cons, List.length_nil, bs_length]; omega) | (simp [bs_length]; done) | (simp [bs_length]; omega) | (simp; done) | (simp; omega))
    replace hhave := hhave.ko c_w7 (by first | omega | exact ko_bs (by omega) | (simp only [List.length_cons, List.length_nil]; omega) | (rw [bs_length]; omega) | (simp only [List.length_cons, List.length_nil, bs_length]; omega) | (simp [bs_length]; done) | (simp [bs_length]; omega) | (simp; done) | (simp; omega))
    have C_w7 := Chg.into C_w5 c_w7 (by intro b' o' _ m; exact ⟨m.1, by have := m.2; omega, by have := m.2; omega⟩)
    have hs := q_w7
    refine s_end ?_
    refine go_region 4 rfl rfl ?_
    refine s_val rfl rfl (r_move) rfl ?_
    refine s_val rfl rfl (r_nilCheck rfl) rfl ?_
    refine s_val rfl rfl (r_fieldAddr Tryz.runUnderlying136 rfl Tryz.sizeOf3 rfl rfl) rfl ?_
    refine s_do rfl rfl (w_store1 (o := 96) Tryz.sizeOf3 rfl rfl rfl rfl hhave) rfl ?_
    rintro _ w8 ⟨q_w8, c_w8⟩
    have hs_w8 : w7.heap.size ≤ w8.heap.size := Chg.size c_w8
    replace hrest := hrest.ko c_w8 (by first | omega | exact ko_bs (by omega) | (simp only [List.length_cons, List.length_nil]; omega) | (rw [bs_length]; omega) | (simp only [List.length_cons, List.length_nil, bs_length]; omega) | (simp [bs_length]; done) | (simp [bs_length]; omega) | (simp; done) | (simp; omega))
    replace hs := hs.ko c_w8 (by first | omega | exact ko_bs (by omega) | (simp only [List.length_cons, List.length_nil]; omega) | (rw [bs_length]; omega) | (simp only [List.length_cons, List.length_nil, bs_length]; omega) | (simp [bs_length]; done) | (simp [bs_length]; omega) | (simp; done) | (simp; omega))
    have C_w8 := Chg.into C_w7 c_w8 (by intro b' o' _ m; exact ⟨m.1, by have := m.2; omega, by have := m.2; omega⟩)
    have hhave := q_w8
    refine s_end ?_
    refine go_nil (loop_normal ⟨?_, (by repeat (first | exact same_refl | exact same_over | refine same_upd rfl ?_ | refine same_over2 rfl ?_))⟩)
    exact ⟨_, _, _, _, _, _, rfl, by rw [List.length_drop]; omega, by omega, by simp, by omega, by omega, by rw [takeF, if_pos (by omega), if_neg (by rw [hn]; omega), hn], s6, hne_s6, hs, hrest, hhave, C_w8⟩
  ·first | replace h1 := dcF h1 | replace h1 := dcT (nf h1) | skip
   have ob_9 : h = 0 := by omega
   obtain rfl := ob_9
   refine go_skip ?_
   refine go_nil (loop_normal ⟨?_, (by repeat (first | exact same_refl | exact same_over | refine same_upd rfl ?_ | refine same_over2 rfl ?_))⟩)
   exact ⟨st, rest, l, a, n, c, rfl, hn, hc, hst, hre, by omega, by rw [takeF, if_neg (by omega)], hsl, hne, hs, hrest, hhave, (Chg.refl (rng sb 0 97) w)⟩
 rintro f2 w1 ⟨S, R, L, a2, n2, c2, e10, hn2, hc2, hS, hR, hbig2, hF, hsl2, hne2, hs, hrest, hhave, C_w1⟩
 have ob_12 : ∃ g_, f2 = upd g_ 1 (Value.slice a2 n2 c2) := ⟨f2, upd_id e10⟩
 obtain ⟨f11, rfl⟩ := ob_12
 clear e10
 have hs_w1 : w.heap.size ≤ w1.heap.size := Chg.size C_w1
 refine go_seq ?_
 refine go_block ?_
 refine go_loopM (σ := Nat × Option Addr × Nat × Nat) [(1, 1), (44, 52)] (fun (x_ : Nat × Option Addr × Nat × Nat) e' w' => match x_ with | (k, a3, n3, c3) => e' 1 = Value.slice a3 n3 c3 ∧ n3 + 32 * k = n2 ∧ n3 ≤ c3 ∧ SlAt w a3 (bs (L.drop (32 * k))) ∧ (∀ x, a3 = some x → x.block ≠ sb) ∧ Pc w' sb 0 (bs (absorb S L k)) ∧ Pc w' sb 64 (bs R) ∧ Pc w' sb 96 [i64 0] ∧ Chg (rng sb 0 97) w w') (fun (x_ : Nat × Option Addr × Nat × Nat) => match x_ with | (k, a3, n3, c3) => n3) (0, a2, n2, c2) ?_ ?_
 ·exact ⟨rfl, by omega, by omega, hsl2, hne2, hs, hrest, hhave, C_w1⟩
 rintro ⟨k, a3, n3, c3⟩ f14 w13 ⟨e15, hk, hc3, hsl3, hne3, hs, hrest, hhave, C_w13⟩
 have ob_17 : ∃ g_, f14 = upd g_ 1 (Value.slice a3 n3 c3) := ⟨f14, upd_id e15⟩
 obtain ⟨f16, rfl⟩ := ob_17
 clear e15
 have hs_w13 : w.heap.size ≤ w13.heap.size := Chg.size C_w13
 have hab := absorb_length S L k hS
 have hlen3 : (L.drop (32 * k)).length = n3 := by rw [List.length_drop]; omega
 refine go_seq ?_
 refine go_seq ?_
 refine go_region 3 rfl rfl ?_
 refine s_val rfl rfl (r_move) rfl ?_
 refine s_val rfl rfl (r_len Tryz.runUnderlying55 rfl) rfl ?_
 refine s_val rfl rfl (r_geq rfl rfl) rfl ?_
 refine s_end ?_
 refine go_ifb _ rfl (fun h4 => ?_) (fun h4 => ?_)
 ·first | replace h4 := dcT h4 | replace h4 := dcF (nt h4) | skip
  have ob_18 := SlAt.pos hsl3 (by intro hx; have := congrArg List.length hx; rw [bs_length] at this; simp at this; omega)
  obtain ⟨bb, bo, rfl, hrd⟩ := ob_18
  have hbb := hne3 _ rfl
  have hlt : ((L.drop (32 * k)).take 32).length = 32 := by rw [List.length_take]; omega
  refine go_skip ?_
  refine go_block ?_
  refine go_seq ?_
  refine go_region 4 rfl rfl ?_
  refine s_val rfl rfl (r_move) rfl ?_
  refine s_val rfl rfl (r_move) rfl ?_
  refine s_val rfl rfl (r_toArr Tryz.runUnderlying22 rfl (by first | decide | omega)) rfl ?_
  refine s_do rfl rfl (w_call Tryz.call106 rfl (blockB_spec _ _ sb _ _ _ (by first | omega | (simp; try omega)) (by first | omega | (simp; try omega)) hs (Rd.takeB (hrd.kept C_w13 (fun j hj m => hbb m.1)) 32) (.inl (by omega)))) rfl ?_
  rintro _ w19 ⟨q_w19, c_w19⟩
  have hs_w19 : w13.heap.size ≤ w19.heap.size := Chg.size c_w19
  replace hrest := hrest.ko c_w19 (by first | omega | exact ko_bs (by omega) | (simp only [List.length_cons, List.length_nil]; omega) | (rw [bs_length]; omega) | (simp only [List.length_cons, List.length_nil, bs_length]; omega) | (simp [bs_length]; done) | (simp [bs_length]; omega) | (simp; done) | (simp; omega))
  replace hhave := hhave.ko c_w19 (by first | omega | exact ko_bs (by omega) | (simp only [List.length_cons, List.length_nil]; omega) | (rw [bs_length]; omega) | (simp only [List.length_cons, List.length_nil, bs_length]; omega) | (simp [bs_length]; done) | (simp [bs_length]; omega) | (simp; done) | (simp; omega))
  have C_w19 := Chg.into C_w13 c_w19 (by intro b' o' _ m; exact ⟨m.1, by have := m.2; omega, by have := m.2; omega⟩)
  have hs := q_w19
  refine s_end ?_
  refine go_region 3 rfl rfl ?_
  refine s_val rfl rfl (r_move) rfl ?_
  have s20 := SlAt.cutB_drop hsl3 32 c3 (by first | omega | (simp; omega))
  have hne_s20 := cutA_ne (l := 32) (m := c3) (sz := 1) hne3
  refine s_val rfl rfl (r_sliceSl (l := 32) (h := n3) (m := c3) Tryz.runUnderlying55 Tryz.sizeOf5 rfl ⟨_, _, rfl, by first | rfl | omega⟩ rfl rfl (by first | decide | (intro h_; cases h_)) (by first | decide | omega) (by first | decide | omega | (intro _; omega)) (by first | exact Nat.le_refl _ | omega)) rfl ?_
  refine s_val rfl rfl (r_assign) rfl ?_
  refine s_end ?_
  refine go_nil (block_normal ?_)
  refine go_nil (loop_normal ⟨⟨(k + 1, _, n3 - 32, c3 - 32), by first | omega | (dsimp only; omega), ⟨rfl, by omega, by omega, by have := s20; rwa [List.drop_drop] at this, hne_s20, hs, hrest, hhave, C_w19⟩⟩, (by repeat (first | exact same_refl | exact same_over | refine same_upd rfl ?_ | refine same_over2 rfl ?_))⟩)
 ·first | replace h4 := dcF h4 | replace h4 := dcT (nf h4) | skip
  have hpl2 : (putAt R 0 ((L.drop (32 * k)).take 32)).length = 32 := by rw [putAt_length _ _ _ (by rw [List.length_take]; omega)]; exact hR
  refine go_exit (loop_exit (block_hit ?_))
  refine go_region 10 rfl rfl ?_
  refine s_val rfl rfl (r_move) rfl ?_
  refine s_val rfl rfl (r_move) rfl ?_
  refine s_val rfl rfl (r_nilCheck rfl) rfl ?_
  refine s_val rfl rfl (r_fieldAddr Tryz.runUnderlying136 rfl Tryz.sizeOf22 rfl rfl) rfl ?_
  refine s_val rfl rfl (r_sliceA (l := 0) (h := 32) (m := 32) Tryz.runUnderlying22 Tryz.sizeOf5 rfl rfl rfl rfl (by first | decide | (intro h_; cases h_)) (by first | decide | omega) (by first | decide | omega | (intro _; omega)) (by first | decide | omega) (by first | decide | omega)) rfl ?_
  refine s_val rfl rfl (r_move) rfl ?_
  refine s_do rfl rfl (w_copy_b (o := 64) (lo := 0) Tryz.underlying55 (by kernel_rfl) rfl rfl hrest (by first | omega | (simp; try omega)) (hsl3.kept C_w13 (fun _ _ ha_ _ _ m_ => hne3 _ ha_ m_.1)) (by first | rfl | omega | (simp; done) | (simp; omega))) rfl ?_
  rintro _ w21 ⟨rfl, q_w21, c_w21⟩
  have hs_w21 : w13.heap.size ≤ w21.heap.size := Chg.size c_w21
  replace hs := hs.ko c_w21 (by first | omega | exact ko_bs (by omega) | (simp only [List.length_cons, List.length_nil]; omega) | (rw [bs_length]; omega) | (simp only [List.length_cons, List.length_nil, bs_length]; omega) | (simp [bs_length]; done) | (simp [bs_length]; omega) | (simp; done) | (simp; omega))
  replace hhave := hhave.ko c_w21 (by first | omega | exact ko_bs (by omega) | (simp only [List.length_cons, List.length_nil]; omega) | (rw [bs_length]; omega) | (simp only [List.length_cons, List.length_nil, bs_length]; omega) | (simp [bs_length]; done) | (simp [bs_length]; omega) | (simp; done) | (simp; omega))
  have C_w21 := Chg.into C_w13 c_w21 (by intro b' o' _ m; exact ⟨m.1, by have := m.2; omega, by have := m.2; omega⟩)
  have hrest := q_w21
  refine s_val rfl rfl (r_nilCheck rfl) rfl ?_
  refine s_val rfl rfl (r_fieldAddr Tryz.runUnderlying136 rfl Tryz.sizeOf3 rfl rfl) rfl ?_
  refine s_do rfl rfl (w_store1 (o := 96) Tryz.sizeOf3 rfl rfl rfl rfl hhave) rfl ?_
  rintro _ w22 ⟨q_w22, c_w22⟩
  have hs_w22 : w21.heap.size ≤ w22.heap.size := Chg.size c_w22
  replace hs := hs.ko c_w22 (by first | omega | exact ko_bs (by omega) | (simp only [List.length_cons, List.length_nil]; omega) | (rw [bs_length]; omega) | (simp only [List.length_cons, List.length_nil, bs_length]; omega) | (simp [bs_length]; done) | (simp [bs_length]; omega) | (simp; done) | (simp; omega))
  replace hrest := hrest.ko c_w22 (by first | omega | exact ko_bs (by omega) | (simp only [List.length_cons, List.length_nil]; omega) | (rw [bs_length]; omega) | (simp only [List.length_cons, List.length_nil, bs_length]; omega) | (simp [bs_length]; done) | (simp [bs_length]; omega) | (simp; done) | (simp; omega))
  have C_w22 := Chg.into C_w21 c_w22 (by intro b' o' _ m; exact ⟨m.1, by have := m.2; omega, by have := m.2; omega⟩)
  have hhave := q_w22
  refine s_end ?_
  refine go_nil ?_
  refine ⟨_, .nil, ?_⟩
  have e := tailF_eq S R L k n3 (by omega) (by omega)
  rw [hF, e]; exact ⟨hs, hrest, hhave, C_w22⟩
end Go.Proofs.YtippcmedgfmgbaaGreat
end
section
open Go Go.Eng Go.Proofs
namespace Go.Proofs.YtippcmedgfmgbaaGreat
theorem absorb_append (s m l : List UInt8) (q : Nat) (h : 32 * q ≤ m.length) : absorb s (m ++ l) q = absorb s m q := by
  induction q with
  | zero => rfl
  | succ q ih =>
    rw [absorb, absorb, ih (by omega), List.drop_append_of_le_length (by omega), List.take_append_of_le_length (by rw [List.length_drop]; omega)]
theorem absorb_add (s m : List UInt8) (a k : Nat) : absorb (absorb s m a) (m.drop (32 * a)) k = absorb s m (a + k) := by
  induction k with
  | zero => rfl
  | succ k ih =>
    rw [absorb, ih, Nat.add_succ, absorb, List.drop_drop, Nat.mul_add]
/-- what lies in rest, m having come -/
def Kst (m rest : List UInt8) : Prop := rest.length = 32 ∧ rest.take (m.length % 32) = m.drop (32 * (m.length / 32))
theorem putAt0 (R x : List UInt8) : putAt R 0 x = x ++ R.drop x.length := by simp [putAt]
theorem tailF_inv (s0 M R : List UInt8) (q : Nat) (hq : 32 * q ≤ M.length) (hR : R.length = 32) :
    (tailF (absorb s0 M q) R (M.drop (32 * q))).1 = absorb s0 M (M.length / 32) ∧ Kst M (tailF (absorb s0 M q) R (M.drop (32 * q))).2.1 ∧ (tailF (absorb s0 M q) R (M.drop (32 * q))).2.2 = M.length % 32 := by
  have h1 : (M.drop (32 * q)).length / 32 = M.length / 32 - q := by rw [List.length_drop]; omega
  have h2 : 32 * q + 32 * (M.length / 32 - q) = 32 * (M.length / 32) := by omega
  refine ⟨?_, ?_, ?_⟩
  · show absorb _ _ _ = _
    rw [h1, absorb_add]; congr 1; omega
  · show Kst M (putAt R 0 ((M.drop (32 * q)).drop (32 * ((M.drop (32 * q)).length / 32))))
    rw [h1, List.drop_drop, h2]
    have h3 : (M.drop (32 * (M.length / 32))).length = M.length % 32 := by rw [List.length_drop]; omega
    refine ⟨by rw [putAt_length _ _ _ (by omega)]; exact hR, ?_⟩
    rw [putAt0, ← h3, List.take_left]
  · show (M.drop (32 * q)).length % 32 = _
    rw [List.length_drop]; omega
theorem takeF_inv (s0 m l rest : List UInt8) (hk : Kst m rest) :
    (takeF (absorb s0 m (m.length / 32)) rest (m.length % 32) l).1 = absorb s0 (m ++ l) ((m ++ l).length / 32) ∧ Kst (m ++ l) (takeF (absorb s0 m (m.length / 32)) rest (m.length % 32) l).2.1 ∧
      (takeF (absorb s0 m (m.length / 32)) rest (m.length % 32) l).2.2 = (m ++ l).length % 32 := by
  obtain ⟨hr, hk⟩ := hk
  have hml : (m ++ l).length = m.length + l.length := List.length_append
  by_cases h0 : 0 < m.length % 32
  · by_cases h1 : m.length % 32 + min l.length (32 - m.length % 32) < 32
    · rw [takeF, if_pos h0, if_pos h1]
      have hl : l.length < 32 - m.length % 32 := by omega
      have e1 : (m ++ l).length / 32 = m.length / 32 := by omega
      have e2 : (m ++ l).length % 32 = m.length % 32 + l.length := by omega
      refine ⟨?_, ?_, ?_⟩
      · dsimp only; rw [e1, absorb_append _ _ _ _ (by omega)]
      · dsimp only
        rw [List.take_of_length_le (by omega)]
        refine ⟨by rw [putAt_length _ _ _ (by omega)]; exact hr, ?_⟩
        rw [e1, e2, List.drop_append_of_le_length (by omega), putAt]
        have : (rest.take (m.length % 32) ++ l).length = m.length % 32 + l.length := by rw [List.length_append, List.length_take]; omega
        rw [← this, List.take_left, hk]
      · dsimp only; omega
    · rw [takeF, if_pos h0, if_neg h1]
      have hl : 32 - m.length % 32 ≤ l.length := by omega
      have hmin : min l.length (32 - m.length % 32) = 32 - m.length % 32 := by omega
      have h32 : 32 * (m.length / 32) + m.length % 32 = m.length := by omega
      have e3 : putAt rest (m.length % 32) (l.take (32 - m.length % 32)) = ((m ++ l).drop (32 * (m.length / 32))).take 32 := by
        rw [putAt, hk, List.drop_append_of_le_length (by omega)]
        have a1 : (m.drop (32 * (m.length / 32))).length = m.length % 32 := by rw [List.length_drop]; omega
        have a2 : rest.drop (m.length % 32 + (l.take (32 - m.length % 32)).length) = [] := by apply List.drop_eq_nil_of_le; rw [List.length_take]; omega
        have a3 : (m.drop (32 * (m.length / 32)) ++ l).take 32 = m.drop (32 * (m.length / 32)) ++ l.take (32 - m.length % 32) := by
          rw [List.take_append, a1, List.take_of_length_le (by rw [a1]; omega)]
        rw [a2, List.append_nil, a3]
      have e4 : l.drop (32 - m.length % 32) = (m ++ l).drop (32 * (m.length / 32 + 1)) := by
        have a4 : (m ++ l).drop (32 * (m.length / 32 + 1)) = l.drop (32 * (m.length / 32 + 1) - m.length) := by
          rw [List.drop_append, show m.drop (32 * (m.length / 32 + 1)) = [] from List.drop_eq_nil_of_le (by omega), List.nil_append]
        rw [a4]
        congr 1; omega
      have e5 : blockB (absorb s0 m (m.length / 32)) (((m ++ l).drop (32 * (m.length / 32))).take 32) = absorb s0 (m ++ l) (m.length / 32 + 1) := by
        rw [absorb, absorb_append _ _ _ _ (by omega)]
      rw [hmin, e3, e4, e5]
      exact tailF_inv s0 (m ++ l) _ _ (by omega) (by rw [List.length_take, List.length_drop]; omega)
  · rw [takeF, if_neg h0]
    have e6 : l = (m ++ l).drop (32 * (m.length / 32)) := by
      rw [List.drop_append, List.drop_eq_nil_of_le (by omega), List.nil_append, show 32 * (m.length / 32) - m.length = 0 by omega, List.drop_zero]
    have := tailF_inv s0 (m ++ l) rest (m.length / 32) (by omega) hr
    rw [← e6, absorb_append _ _ _ _ (by omega)] at this
    exact this
/-- A summer at sb: m has come, the state having been s0. -/
def Smr (w : World) (sb : Nat) (s0 m : List UInt8) : Prop :=
  s0.length = 64 ∧ ∃ rest, Kst m rest ∧ Pc w sb 0 (bs (absorb s0 m (m.length / 32))) ∧ Pc w sb 64 (bs rest) ∧ Pc w sb 96 [i64 ((m.length % 32 : Nat) : Int)]
theorem Smr.len {w : World} {sb : Nat} {s0 m : List UInt8} (h : Smr w sb s0 m) : s0.length = 64 := h.1
theorem Smr.hv {w : World} {sb : Nat} {s0 m : List UInt8} (h : Smr w sb s0 m) : Rd w sb 96 [i64 ((m.length % 32 : Nat) : Int)] := by obtain ⟨_, _, _, _, _, h⟩ := h; exact h.rd
theorem Smr.st {w : World} {sb : Nat} {s0 m : List UInt8} (h : Smr w sb s0 m) : Pc w sb 0 (bs (absorb s0 m (m.length / 32))) := by obtain ⟨_, _, _, h, _⟩ := h; exact h
theorem Smr.kept {M : Nat → Nat → Prop} {w w' : World} {sb : Nat} {s0 m : List UInt8} (h : Smr w sb s0 m) (k : Chg M w w') (hm : ∀ j, j < 97 → ¬ M sb j) : Smr w' sb s0 m := by
  obtain ⟨h0, rest, h1, h2, h3, h4⟩ := h
  refine ⟨h0, rest, h1, h2.kept k fun j hj => ?_, h3.kept k fun j hj => ?_, h4.kept k fun j hj => ?_⟩
  · rw [Nat.zero_add]; rw [bs_length, absorb_length _ _ _ h0] at hj; exact hm j (by omega)
  · rw [bs_length, h1.1] at hj; exact hm _ (by omega)
  · simp at hj; subst hj; exact hm _ (by omega)
theorem Smr.k {w w' : World} {sb : Nat} {s0 m : List UInt8} (h : Smr w sb s0 m) (k : Kept w w') : Smr w' sb s0 m := h.kept k fun _ _ => id
theorem Smr.kb {w w' : World} {sb b2 o2 n : Nat} {s0 m : List UInt8} (h : Smr w sb s0 m) (k : Chg (rng b2 o2 n) w w') (hb : sb ≠ b2) : Smr w' sb s0 m := h.kept k fun _ _ m => hb m.1
theorem Smr.kB {w w' : World} {sb b2 : Nat} {s0 m : List UInt8} (h : Smr w sb s0 m) (k : Chg (blk b2) w w') (hb : sb ≠ b2) : Smr w' sb s0 m := h.kept k fun _ _ m => hb m
theorem Smr.ko {w w' : World} {sb o2 n : Nat} {s0 m : List UInt8} (h : Smr w sb s0 m) (k : Chg (rng sb o2 n) w w') (hd : 97 ≤ o2) : Smr w' sb s0 m := h.kept k fun j hj m => by have := m.2; omega
theorem take_smr (s0 m l : List UInt8) (sb n c : Nat) (a : Option Addr) (w : World) (hn : l.length = n) (hc : n ≤ c) (hbig : n < 4611686018427387904) (hs : Smr w sb s0 m) (hsl : SlAt w a (bs l)) (hne : ∀ x, a = some x → x.block ≠ sb) :
    Rtn Tryz.prog 84 [.pointer (some ⟨sb, 0, none⟩), Value.slice a n c].toArray w (fun _ w' => Smr w' sb s0 (m ++ l) ∧ Chg (rng sb 0 97) w w') := by
  obtain ⟨h0, rest, h1, h2, h3, h4⟩ := hs
  refine (take_spec _ rest l sb (m.length % 32) n c a w (absorb_length _ _ _ h0) h1.1 (Nat.mod_lt _ (by decide)) hn hc hbig h2 h3 h4 hsl hne).mono fun v w' ⟨q1, q2, q3, q4⟩ => ?_
  obtain ⟨e1, e2, e3⟩ := takeF_inv s0 m l rest h1
  rw [e1] at q1; rw [e3] at q3
  exact ⟨⟨h0, _, e2, q1, q2, q3⟩, q4⟩
theorem write_spec (s0 m l : List UInt8) (sb t n c : Nat) (a : Option Addr) (w : World) (hn : l.length = n) (hc : n ≤ c) (hb : t + n ≤ 1048576) (hsm : Smr w sb s0 m) (ht : Pc w sb 97 [i64 (t : Nat)]) (hsl : SlAt w a (bs l)) (hne : ∀ x, a = some x → x.block ≠ sb) :
  Rtn Tryz.prog 61 [.pointer (some ⟨sb, 0, none⟩), Value.slice a n c].toArray w (fun v w' => v = i64 0 ∧ Smr w' sb s0 (m ++ l) ∧ Pc w' sb 97 [i64 ((t + n : Nat) : Int)] ∧ Chg (rng sb 0 98) w w') := by
 refine fn_body (l := [.pointer (some ⟨sb, 0, none⟩), Value.slice a n c]) 25 [.tmp 4] Tryz.func61 rfl Tryz.ntmps61 (Nat.le_of_ble_eq_true rfl) (by rw [Tryz.results61]) ?_
 refine go_seq ?_
 refine go_region 1 rfl rfl ?_
 refine s_val rfl rfl (r_assign) rfl ?_
 refine s_end ?_
 refine go_seq ?_
 refine go_seq ?_
 refine go_region 8 rfl rfl ?_
 refine s_val rfl rfl (r_move) rfl ?_
 refine s_val rfl rfl (r_len Tryz.runUnderlying55 rfl) rfl ?_
 refine s_val rfl rfl (r_move) rfl ?_
 refine s_val rfl rfl (r_nilCheck rfl) rfl ?_
 refine s_val rfl rfl (r_fieldAddr Tryz.runUnderlying136 rfl Tryz.sizeOf3 rfl rfl) rfl ?_
 refine s_val rfl rfl (r_load1 Tryz.isAgg3 rfl ht.rd) rfl ?_
 refine s_val rfl rfl (r_subi rfl rfl (by omega)) rfl ?_
 refine s_val rfl rfl (r_gtr rfl rfl) rfl ?_
 refine s_end ?_
 refine go_ifb _ rfl (fun h1 => ?_) (fun h1 => ?_)
 ·first | replace h1 := dcT h1 | replace h1 := dcF (nt h1) | skip
  exfalso
  omega
 ·first | replace h1 := dcF h1 | replace h1 := dcT (nf h1) | skip
  refine go_skip ?_
  refine go_seq ?_
  refine go_region 10 rfl rfl ?_
  refine s_val rfl rfl (r_move) rfl ?_
  refine s_val rfl rfl (r_nilCheck rfl) rfl ?_
  refine s_val rfl rfl (r_fieldAddr Tryz.runUnderlying136 rfl Tryz.sizeOf3 rfl rfl) rfl ?_
  refine s_val rfl rfl (r_load1 Tryz.isAgg3 rfl ht.rd) rfl ?_
  refine s_val rfl rfl (r_move) rfl ?_
  refine s_val rfl rfl (r_len Tryz.runUnderlying55 rfl) rfl ?_
  refine s_val rfl rfl (r_addi rfl rfl (by omega)) rfl ?_
  refine s_val rfl rfl (r_nilCheck rfl) rfl ?_
  refine s_val rfl rfl (r_fieldAddr Tryz.runUnderlying136 rfl Tryz.sizeOf3 rfl rfl) rfl ?_
  refine s_do rfl rfl (w_store1 (o := 97) Tryz.sizeOf3 rfl rfl rfl rfl ht) rfl ?_
  rintro _ w2 ⟨q_w2, c_w2⟩
  have hs_w2 : w.heap.size ≤ w2.heap.size := Chg.size c_w2
  replace hsm := hsm.ko c_w2 (by first | omega | decide)
  have C_w2 := Chg.into (Chg.refl (rng sb 0 98) w) c_w2 (by intro b' o' _ m; exact ⟨m.1, by have := m.2; omega, by have := m.2; omega⟩)
  have ht := q_w2
  refine s_end ?_
  refine go_seq ?_
  refine go_region 3 rfl rfl ?_
  refine s_val rfl rfl (r_move) rfl ?_
  refine s_val rfl rfl (r_move) rfl ?_
  refine s_do rfl rfl (w_call Tryz.call84 rfl (take_smr _ _ l sb _ _ _ _ (by first | omega | (simp; try omega)) (by first | omega | (simp; try omega)) (by first | omega | (simp; try omega)) hsm (hsl.kept C_w2 (fun _ _ ha_ _ _ m_ => hne _ ha_ m_.1)) hne)) rfl ?_
  rintro _ w3 ⟨q_w3, c_w3⟩
  have hs_w3 : w2.heap.size ≤ w3.heap.size := Chg.size c_w3
  replace ht := ht.ko c_w3 (by first | omega | exact ko_bs (by omega) | (simp only [List.length_cons, List.length_nil]; omega) | (rw [bs_length]; omega) | (simp only [List.length_cons, List.length_nil, bs_length]; omega) | (simp [bs_length]; done) | (simp [bs_length]; omega) | (simp; done) | (simp; omega))
  have C_w3 := Chg.into C_w2 c_w3 (by intro b' o' _ m; exact ⟨m.1, by have := m.2; omega, by have := m.2; omega⟩)
  have hsm := q_w3
  refine s_end ?_
  refine go_seq ?_
  refine go_region 1 rfl rfl ?_
  refine s_val rfl rfl (r_assign) rfl ?_
  refine s_end ?_
  refine go_ret ?_
  refine ⟨_, .cons rfl (.nil), ?_⟩
  exact ⟨rfl, hsm, ht, C_w3⟩
theorem copyW_spec (cs : List Value) (sb : Nat) (w : World) (hcs : cs.length = 98) (hf : Flat cs) (hp : Rd w sb 0 cs) :
  Rtn Tryz.prog 107 [.pointer (some ⟨sb, 0, none⟩)].toArray w (fun v w' => ∃ b, v = .pointer (some ⟨b, 0, none⟩) ∧ w.heap.size ≤ b ∧ b < w'.heap.size ∧ Pc w' b 0 cs ∧ Kept w w') := by
 refine fn_body (l := [.pointer (some ⟨sb, 0, none⟩)]) 7 [.tmp 2] Tryz.func107 rfl Tryz.ntmps107 (Nat.le_of_ble_eq_true rfl) (by rw [Tryz.results107]) ?_
 refine go_seq ?_
 refine go_region 1 rfl rfl ?_
 refine s_val rfl rfl (r_assign) rfl ?_
 refine s_end ?_
 refine go_seq ?_
 refine go_region 5 rfl rfl ?_
 refine s_val rfl rfl (r_move) rfl ?_
 refine s_val rfl rfl (r_nilCheck rfl) rfl ?_
 refine s_val rfl rfl (r_loadN Tryz.isAgg136 Tryz.sizeOf136 rfl (hp.k (Chg.refl no w)) (by first | rfl | exact hcs)) rfl ?_
 refine s_do rfl rfl (w_alloc (bs (List.replicate 64 0) ++ (bs (List.replicate 32 0) ++ ([i64 0] ++ ([i64 0])))) Tryz.zeroValue136 (by kernel_rfl)) rfl ?_
 rintro _ w1 ⟨b2, rfl, hl_b2, hu_b2, p3, c_w1⟩
 have hs_w1 : w.heap.size ≤ w1.heap.size := Chg.size c_w1
 have C_w1 := Chg.pure (Chg.refl no w) c_w1
 have hn_b2 : w.heap.size ≤ b2 := by have := Chg.size C_w1; omega
 refine s_do rfl rfl (w_storeA (o := 0) Tryz.sizeOf136 rfl rfl (by first | rfl | exact hcs) hf p3 (by first | rfl | exact hcs)) rfl ?_
 rintro _ w4 ⟨q_w4, c_w4⟩
 have hs_w4 : w1.heap.size ≤ w4.heap.size := Chg.size c_w4
 have C_w4 := Chg.newRng C_w1 c_w4 (by omega)
 have p3 := q_w4
 refine s_end ?_
 refine go_seq ?_
 refine go_region 1 rfl rfl ?_
 refine s_val rfl rfl (r_assign) rfl ?_
 refine s_end ?_
 refine go_ret ?_
 refine ⟨_, .cons rfl (.nil), ?_⟩
 exact ⟨_, rfl, hn_b2, by omega, p3, C_w4⟩
theorem copy_spec (s0 m : List UInt8) (sb t : Nat) (w : World) (hsm : Smr w sb s0 m) (ht : Rd w sb 97 [i64 (t : Nat)]) :
    Rtn Tryz.prog 107 [.pointer (some ⟨sb, 0, none⟩)].toArray w (fun v w' => ∃ b, v = .pointer (some ⟨b, 0, none⟩) ∧ w.heap.size ≤ b ∧ b < w'.heap.size ∧ Smr w' b s0 m ∧ Kept w w') := by
  obtain ⟨h0, rest, h1, h2, h3, h4⟩ := hsm
  have l1 : (bs (absorb s0 m (m.length / 32))).length = 64 := by rw [bs_length, absorb_length _ _ _ h0]
  have l2 : (bs rest).length = 32 := by rw [bs_length, h1.1]
  have e4 : Rd w sb 96 ([i64 ((m.length % 32 : Nat) : Int)] ++ [i64 (t : Nat)]) := h4.rd.app ht
  have e3 : Rd w sb 64 (bs rest ++ ([i64 ((m.length % 32 : Nat) : Int)] ++ [i64 (t : Nat)])) := h3.rd.app (by rw [l2]; exact e4)
  have e2 : Rd w sb 0 (bs (absorb s0 m (m.length / 32)) ++ (bs rest ++ ([i64 ((m.length % 32 : Nat) : Int)] ++ [i64 (t : Nat)]))) := h2.rd.app (by rw [l1]; exact e3)
  refine (copyW_spec _ sb w (by rw [List.length_append, List.length_append, l1, l2]; rfl) (flat_append (flat_bs _) (flat_append (flat_bs _) (flat_append (flat_one rfl) (flat_one rfl)))) e2).mono fun v w' ⟨b, e, hl, hu, hp, c⟩ => ?_
  obtain ⟨p1, p2⟩ := Pc.split hp l1
  obtain ⟨p3, p4⟩ := Pc.split p2 l2
  obtain ⟨p5, _⟩ := Pc.split p4 (n := 1) rfl
  exact ⟨b, e, hl, hu, ⟨h0, rest, h1, p1, p3, p5⟩, c⟩
/-- the state that a summer begins with -/
def initS (d : Int) : List UInt8 := (List.replicate 64 0).set 63 (b8 d)
@[simp] theorem initS_length (d : Int) : (initS d).length = 64 := by simp [initS]
def padM (m : List UInt8) : List UInt8 := if 0 < (m ++ [128]).length % 32 then (m ++ [128]) ++ List.replicate (32 - (m ++ [128]).length % 32) 0 else m ++ [128]
def lastB (t : Nat) : List UInt8 := putAt (List.replicate 32 0) 24 ((oct8 (w64 (t : Int))).take 8)
@[simp] theorem lastB_length (t : Nat) : (lastB t).length = 32 := by rw [lastB, putAt_length _ _ _ (by simp)]; simp
def endF (s0 m : List UInt8) (t : Nat) : List UInt8 := blockB (absorb s0 (padM m) ((padM m).length / 32)) (lastB t)
@[simp] theorem endF_length (s0 m : List UInt8) (t : Nat) : (endF s0 m t).length = 64 := blockB_length _ _
theorem end_spec (s0 m : List UInt8) (sb t : Nat) (w : World) (htt : t < 4611686018427387904) (hsm : Smr w sb s0 m) (ht : Rd w sb 97 [i64 (t : Nat)]) :
  Rtn Tryz.prog 85 [.pointer (some ⟨sb, 0, none⟩)].toArray w (fun v w' => v = .agg (bs (endF s0 m t)).toArray ∧ Kept w w') := by
 have hlast : (putAt (List.replicate 32 0) 24 ((oct8 (w64 (t : Int))).take (32 - 24))).length = 32 := lastB_length t
 refine fn_body (l := [.pointer (some ⟨sb, 0, none⟩)]) 39 [.cell 2 86] Tryz.func85 rfl Tryz.ntmps85 (Nat.le_of_ble_eq_true rfl) (by rw [Tryz.results85]) ?_
 refine go_seq ?_
 refine go_region 1 rfl rfl ?_
 refine s_do rfl rfl (w_alloc (bs (List.replicate 64 0)) Tryz.zeroValue86 (by kernel_rfl)) rfl ?_
 rintro _ w1 ⟨b2, rfl, hl_b2, hu_b2, p3, c_w1⟩
 have hs_w1 : w.heap.size ≤ w1.heap.size := Chg.size c_w1
 have C_w1 := Chg.pure (Chg.refl no w) c_w1
 have hn_b2 : w.heap.size ≤ b2 := by have := Chg.size C_w1; omega
 refine s_end ?_
 refine go_seq ?_
 refine go_region 3 rfl rfl ?_
 refine s_val rfl rfl (r_move) rfl ?_
 refine s_do rfl rfl (w_call Tryz.call107 rfl (copy_spec _ _ _ _ _ (hsm.k C_w1) (ht.k C_w1))) rfl ?_
 rintro _ w4 ⟨b5, rfl, hl_b5, hu_b5, sm6, c_w4⟩
 have hs_w4 : w1.heap.size ≤ w4.heap.size := Chg.size c_w4
 replace p3 := p3.k c_w4
 have C_w4 := Chg.pure C_w1 c_w4
 have hn_b5 : w.heap.size ≤ b5 := by have := Chg.size C_w4; omega
 refine s_val rfl rfl (r_assign) rfl ?_
 refine s_end ?_
 refine go_seq ?_
 refine go_region 3 rfl rfl ?_
 refine s_val rfl rfl (r_move) rfl ?_
 refine s_do rfl rfl (w_build1 (E := 5) Tryz.underlying55 (i := Tryz.t5) (by kernel_rfl) rfl rfl rfl rfl rfl) rfl ?_
 rintro _ w7 ⟨b8, rfl, hl_b8, hu_b8, o10, p9, c_w7⟩
 have hs_w7 : w4.heap.size ≤ w7.heap.size := Chg.size c_w7
 replace p3 := p3.k c_w7
 replace sm6 := sm6.k c_w7
 have C_w7 := Chg.pure C_w4 c_w7
 have hn_b8 : w.heap.size ≤ b8 := by have := Chg.size C_w7; omega
 replace p9 : Pc w7 b8 0 (bs [128]) := p9
 refine s_do rfl rfl (w_call Tryz.call84 rfl (take_smr _ _ [128] b5 _ _ _ _ (by first | omega | (simp; try omega)) (by first | omega | (simp; try omega)) (by first | omega | (simp; try omega)) sm6 (SlAt.some p9.rd) (by intro x_ hx_; cases hx_; show b8 ≠ b5; omega))) rfl ?_
 rintro _ w11 ⟨q_w11, c_w11⟩
 have hs_w11 : w7.heap.size ≤ w11.heap.size := Chg.size c_w11
 replace p3 := p3.kb c_w11 (by omega)
 replace p9 := p9.kb c_w11 (by omega)
 have C_w11 := Chg.newRng C_w7 c_w11 (by omega)
 have sm6 := q_w11
 refine s_end ?_
 refine go_seq ?_
 refine go_seq ?_
 refine go_region 5 rfl rfl ?_
 refine s_val rfl rfl (r_move) rfl ?_
 refine s_val rfl rfl (r_nilCheck rfl) rfl ?_
 refine s_val rfl rfl (r_fieldAddr Tryz.runUnderlying136 rfl Tryz.sizeOf3 rfl rfl) rfl ?_
 have tmp12 := Smr.hv sm6
 refine s_val rfl rfl (r_load1 Tryz.isAgg3 rfl tmp12) rfl ?_
 refine s_val rfl rfl (r_gtr rfl rfl) rfl ?_
 refine s_end ?_
 refine go_meet [(16, 23)] (fun e' w' => Smr w' b5 s0 (padM m) ∧ Pc w' b2 0 (bs (List.replicate 64 0)) ∧ b2 < w'.heap.size ∧ b5 < w'.heap.size ∧ Chg no w w') ?_ ?_
 ·
  refine go_ifb _ rfl (fun h1 => ?_) (fun h1 => ?_)
  ·first | replace h1 := dcT h1 | replace h1 := dcF (nt h1) | skip
   refine go_region 8 rfl rfl ?_
   refine s_val rfl rfl (r_move) rfl ?_
   refine s_val rfl rfl (r_move) rfl ?_
   refine s_val rfl rfl (r_nilCheck rfl) rfl ?_
   refine s_val rfl rfl (r_fieldAddr Tryz.runUnderlying136 rfl Tryz.sizeOf3 rfl rfl) rfl ?_
   refine s_val rfl rfl (r_load1 Tryz.isAgg3 rfl tmp12) rfl ?_
   refine s_val rfl rfl (r_subi rfl rfl (by omega)) rfl ?_
   refine s_do rfl rfl (w_make (n := (32 - ((m ++ [128])).length % 32)) (c := (32 - ((m ++ [128])).length % 32)) (E := 5) Tryz.underlying55 (i := Tryz.t5) (by kernel_rfl) rfl rfl rfl rfl rfl (by first | rfl | omega) (by first | rfl | omega) (by omega) (by first | decide | (show _ * 1 ≤ _; omega) | (show _ * 8 ≤ _; omega)) (by omega)) rfl ?_
   rintro _ w15 ⟨b16, rfl, hl_b16, hu_b16, o18, p17, c_w15⟩
   have hs_w15 : w11.heap.size ≤ w15.heap.size := Chg.size c_w15
   replace p3 := p3.k c_w15
   replace p9 := p9.k c_w15
   replace sm6 := sm6.k c_w15
   have C_w15 := Chg.pure C_w11 c_w15
   have hn_b16 : w.heap.size ≤ b16 := by have := Chg.size C_w15; omega
   replace p17 : Pc w15 b16 0 (bs (List.replicate (32 - ((m ++ [128])).length % 32) 0)) := by rw [bs_rep]; exact p17
   refine s_do rfl rfl (w_call Tryz.call84 rfl (take_smr _ _ (List.replicate (32 - ((m ++ [128])).length % 32) 0) b5 _ _ _ _ (by first | omega | (simp; try omega)) (by first | omega | (simp; try omega)) (by first | omega | (simp; try omega)) sm6 (SlAt.some p17.rd) (by intro x_ hx_; cases hx_; show b16 ≠ b5; omega))) rfl ?_
   rintro _ w19 ⟨q_w19, c_w19⟩
   have hs_w19 : w15.heap.size ≤ w19.heap.size := Chg.size c_w19
   replace p3 := p3.kb c_w19 (by omega)
   replace p9 := p9.kb c_w19 (by omega)
   replace p17 := p17.kb c_w19 (by omega)
   have C_w19 := Chg.newRng C_w15 c_w19 (by omega)
   have sm6 := q_w19
   refine s_end ?_
   refine go_nil (loop_normal ⟨?_, (by repeat (first | exact same_refl | exact same_over | refine same_upd rfl ?_ | refine same_over2 rfl ?_))⟩)
   exact ⟨by first | (rw [padM, if_pos (by omega)]; exact sm6) | (rw [padM, if_neg (by omega)]; exact sm6), p3, by omega, by omega, C_w19⟩
  ·first | replace h1 := dcF h1 | replace h1 := dcT (nf h1) | skip
   refine go_skip ?_
   refine go_nil (loop_normal ⟨?_, (by repeat (first | exact same_refl | exact same_over | refine same_upd rfl ?_ | refine same_over2 rfl ?_))⟩)
   exact ⟨by first | (rw [padM, if_pos (by omega)]; exact sm6) | (rw [padM, if_neg (by omega)]; exact sm6), p3, by omega, by omega, C_w11⟩
 rintro f14 w13 ⟨hs2, p3, hu_b2, hu2, C_w13⟩
 have hs_w13 : w.heap.size ≤ w13.heap.size := Chg.size C_w13
 refine go_seq ?_
 refine go_region 1 rfl rfl ?_
 refine s_do rfl rfl (w_alloc (bs (List.replicate 32 0)) Tryz.zeroValue22 (by kernel_rfl)) rfl ?_
 rintro _ w20 ⟨b21, rfl, hl_b21, hu_b21, p22, c_w20⟩
 have hs_w20 : w13.heap.size ≤ w20.heap.size := Chg.size c_w20
 replace hs2 := hs2.k c_w20
 replace p3 := p3.k c_w20
 have C_w20 := Chg.pure C_w13 c_w20
 have hn_b21 : w.heap.size ≤ b21 := by have := Chg.size C_w20; omega
 refine s_end ?_
 refine go_seq ?_
 refine go_region 8 rfl rfl ?_
 refine s_val rfl rfl (r_move) rfl ?_
 refine s_val rfl rfl (r_nilCheck rfl) rfl ?_
 refine s_val rfl rfl (r_fieldAddr Tryz.runUnderlying136 rfl Tryz.sizeOf3 rfl rfl) rfl ?_
 refine s_val rfl rfl (r_load1 Tryz.isAgg3 rfl (ht.k C_w20)) rfl ?_
 refine s_val rfl rfl (r_conv_u64 Tryz.runUnderlying3 Tryz.runUnderlying111 rfl) rfl ?_
 refine s_do rfl rfl (w_call Tryz.call63 rfl (oct8_spec _ _)) rfl ?_
 rintro _ w23 ⟨rfl, c_w23⟩
 have hs_w23 : w20.heap.size ≤ w23.heap.size := Chg.size c_w23
 replace hs2 := hs2.k c_w23
 replace p3 := p3.k c_w23
 replace p22 := p22.k c_w23
 have C_w23 := Chg.pure C_w20 c_w23
 refine s_do rfl rfl (w_alloc (bs (List.replicate 8 0)) Tryz.zeroValue109 (by kernel_rfl)) rfl ?_
 rintro _ w24 ⟨b25, rfl, hl_b25, hu_b25, p26, c_w24⟩
 have hs_w24 : w23.heap.size ≤ w24.heap.size := Chg.size c_w24
 replace hs2 := hs2.k c_w24
 replace p3 := p3.k c_w24
 replace p22 := p22.k c_w24
 have C_w24 := Chg.pure C_w23 c_w24
 have hn_b25 : w.heap.size ≤ b25 := by have := Chg.size C_w24; omega
 refine s_do rfl rfl (w_storeA (o := 0) Tryz.sizeOf109 rfl rfl (bs_len (by first | omega | (simp; try omega))) (flat_bs _) p26 (bs_len (by first | omega | (simp; try omega)))) rfl ?_
 rintro _ w27 ⟨q_w27, c_w27⟩
 have hs_w27 : w24.heap.size ≤ w27.heap.size := Chg.size c_w27
 replace hs2 := hs2.kb c_w27 (by omega)
 replace p3 := p3.kb c_w27 (by omega)
 replace p22 := p22.kb c_w27 (by omega)
 have C_w27 := Chg.newRng C_w24 c_w27 (by omega)
 have p26 := q_w27
 refine s_end ?_
 refine go_seq ?_
 refine go_drawsE 2 (.take 0 (.take 1 (.eff 2 .done))) (by kernel_rfl) (by kernel_rfl) fun w28 c_w28 => ?_
 have hs_w28 : w27.heap.size ≤ w28.heap.size := Chg.size c_w28
 replace hs2 := hs2.k c_w28
 replace p3 := p3.k c_w28
 replace p22 := p22.k c_w28
 replace p26 := p26.k c_w28
 have C_w28 := Chg.pure C_w27 c_w28
 refine s_takeE rfl rfl (r_sliceA (l := 24) (h := 32) (m := 32) Tryz.runUnderlying22 Tryz.sizeOf5 rfl ⟨_, _, rfl, by first | rfl | omega⟩ rfl rfl (by first | decide | (intro h_; cases h_)) (by first | decide | omega) (by first | decide | omega | (intro _; omega)) (by first | decide | omega) (by first | decide | omega)) ?_
 refine s_takeE rfl rfl (r_sliceA (l := 0) (h := 8) (m := 8) Tryz.runUnderlying109 Tryz.sizeOf5 rfl rfl rfl rfl (by first | decide | (intro h_; cases h_)) (by first | decide | omega) (by first | decide | omega | (intro _; omega)) (by first | decide | omega) (by first | decide | omega)) ?_
 refine s_do rfl rfl (w_copy_b (o := 0) (lo := 24) Tryz.underlying55 (by kernel_rfl) rfl rfl p22 (by first | omega | (simp; try omega)) (SlAt.some p26.rd) (by first | rfl | omega | (simp; done) | (simp; omega))) rfl ?_
 rintro _ w29 ⟨rfl, q_w29, c_w29⟩
 have hs_w29 : w28.heap.size ≤ w29.heap.size := Chg.size c_w29
 replace hs2 := hs2.kb c_w29 (by omega)
 replace p3 := p3.kb c_w29 (by omega)
 replace p26 := p26.kb c_w29 (by omega)
 have C_w29 := Chg.newRng C_w28 c_w29 (by omega)
 have p22 := q_w29
 refine s_end ?_
 refine go_seq ?_
 refine go_region 2 rfl rfl ?_
 refine s_val rfl rfl (r_move) rfl ?_
 have tmp31 := Smr.st hs2
 have hl_tmp31 := absorb_length _ (padM m) (List.length (padM m) / 32) (Smr.len hs2)
 refine s_do rfl rfl (w_call Tryz.call106 rfl (blockB_spec _ _ b5 _ _ _ (by first | omega | (simp; try omega)) (by first | omega | (simp; try omega)) tmp31 p22.rd (.inl (by omega)))) rfl ?_
 rintro _ w30 ⟨q_w30, c_w30⟩
 have hs_w30 : w29.heap.size ≤ w30.heap.size := Chg.size c_w30
 replace p3 := p3.kb c_w30 (by omega)
 replace p26 := p26.kb c_w30 (by omega)
 replace p22 := p22.kb c_w30 (by omega)
 have C_w30 := Chg.newRng C_w29 c_w30 (by omega)
 have tmp31 := q_w30
 refine s_end ?_
 refine go_seq ?_
 refine go_region 5 rfl rfl ?_
 refine s_val rfl rfl (r_move) rfl ?_
 refine s_val rfl rfl (r_nilCheck rfl) rfl ?_
 refine s_val rfl rfl (r_fieldAddr Tryz.runUnderlying136 rfl Tryz.sizeOf86 rfl rfl) rfl ?_
 refine s_val rfl rfl (r_loadN Tryz.isAgg86 Tryz.sizeOf86 rfl tmp31.rd (bs_len (by first | omega | (simp; try omega)))) rfl ?_
 refine s_do rfl rfl (w_storeA (o := 0) Tryz.sizeOf86 rfl rfl (bs_len (by first | omega | (simp; try omega))) (flat_bs _) p3 (bs_len (by first | omega | (simp; try omega)))) rfl ?_
 rintro _ w32 ⟨q_w32, c_w32⟩
 have hs_w32 : w30.heap.size ≤ w32.heap.size := Chg.size c_w32
 replace p26 := p26.kb c_w32 (by omega)
 replace p22 := p22.kb c_w32 (by omega)
 replace tmp31 := tmp31.kb c_w32 (by omega)
 have C_w32 := Chg.newRng C_w30 c_w32 (by omega)
 have p3 := q_w32
 refine s_end ?_
 refine go_ret ?_
 refine ⟨_, .cons ⟨_, rfl, run_load_agg Tryz.isAgg86 Tryz.sizeOf86 (bs_len (by first | omega | (simp; try omega))) p3.rd⟩ (.nil), ?_⟩
 exact ⟨rfl, C_w32⟩
theorem sum_spec (s0 m : List UInt8) (sb t : Nat) (w : World) (htt : t < 4611686018427387904) (hsm : Smr w sb s0 m) (ht : Rd w sb 97 [i64 (t : Nat)]) :
  Rtn Tryz.prog 62 [.pointer (some ⟨sb, 0, none⟩)].toArray w (fun v w' => v = .agg (bs ((endF s0 m t).take 32)).toArray ∧ Kept w w') := by
 refine fn_body (l := [.pointer (some ⟨sb, 0, none⟩)]) 9 [.cell 2 27] Tryz.func62 rfl Tryz.ntmps62 (Nat.le_of_ble_eq_true rfl) (by rw [Tryz.results62]) ?_
 refine go_seq ?_
 refine go_region 1 rfl rfl ?_
 refine s_do rfl rfl (w_alloc (bs (List.replicate 32 0)) Tryz.zeroValue27 (by kernel_rfl)) rfl ?_
 rintro _ w1 ⟨b2, rfl, hl_b2, hu_b2, p3, c_w1⟩
 have hs_w1 : w.heap.size ≤ w1.heap.size := Chg.size c_w1
 have C_w1 := Chg.pure (Chg.refl no w) c_w1
 have hn_b2 : w.heap.size ≤ b2 := by have := Chg.size C_w1; omega
 refine s_end ?_
 refine go_seq ?_
 refine go_region 4 rfl rfl ?_
 refine s_val rfl rfl (r_move) rfl ?_
 refine s_do rfl rfl (w_call Tryz.call85 rfl (end_spec _ _ _ _ _ (by omega) (hsm.k C_w1) (ht.k C_w1))) rfl ?_
 rintro _ w4 ⟨rfl, c_w4⟩
 have hs_w4 : w1.heap.size ≤ w4.heap.size := Chg.size c_w4
 replace p3 := p3.k c_w4
 have C_w4 := Chg.pure C_w1 c_w4
 refine s_do rfl rfl (w_alloc (bs (List.replicate 64 0)) Tryz.zeroValue86 (by kernel_rfl)) rfl ?_
 rintro _ w5 ⟨b6, rfl, hl_b6, hu_b6, p7, c_w5⟩
 have hs_w5 : w4.heap.size ≤ w5.heap.size := Chg.size c_w5
 replace p3 := p3.k c_w5
 have C_w5 := Chg.pure C_w4 c_w5
 have hn_b6 : w.heap.size ≤ b6 := by have := Chg.size C_w5; omega
 refine s_do rfl rfl (w_storeA (o := 0) Tryz.sizeOf86 rfl rfl (bs_len (by first | omega | (simp; try omega))) (flat_bs _) p7 (bs_len (by first | omega | (simp; try omega)))) rfl ?_
 rintro _ w8 ⟨q_w8, c_w8⟩
 have hs_w8 : w5.heap.size ≤ w8.heap.size := Chg.size c_w8
 replace p3 := p3.kb c_w8 (by omega)
 have C_w8 := Chg.newRng C_w5 c_w8 (by omega)
 have p7 := q_w8
 refine s_end ?_
 refine go_seq ?_
 refine go_region 4 rfl rfl ?_
 refine s_val rfl rfl (r_sliceA (l := 0) (h := 32) (m := 64) Tryz.runUnderlying86 Tryz.sizeOf5 rfl rfl ⟨_, _, rfl, by first | rfl | omega⟩ rfl (by first | decide | (intro h_; cases h_)) (by first | decide | omega) (by first | decide | omega | (intro _; omega)) (by first | decide | omega) (by first | decide | omega)) rfl ?_
 refine s_val rfl rfl (r_toArr Tryz.runUnderlying27 rfl (by first | decide | omega)) rfl ?_
 refine s_val rfl rfl (r_loadN Tryz.isAgg27 Tryz.sizeOf27 rfl (Rd.subB p7.rd 0 32) (bs_len (by first | (simp; done) | (simp; omega)))) rfl ?_
 refine s_do rfl rfl (w_storeA (o := 0) Tryz.sizeOf27 rfl rfl (bs_len (by first | omega | (simp; try omega))) (flat_bs _) p3 (bs_len (by first | omega | (simp; try omega)))) rfl ?_
 rintro _ w9 ⟨q_w9, c_w9⟩
 have hs_w9 : w8.heap.size ≤ w9.heap.size := Chg.size c_w9
 replace p7 := p7.kb c_w9 (by omega)
 have C_w9 := Chg.newRng C_w8 c_w9 (by omega)
 have p3 := q_w9
 refine s_end ?_
 refine go_ret ?_
 refine ⟨_, .cons ⟨_, rfl, run_load_agg Tryz.isAgg27 Tryz.sizeOf27 (bs_len (by first | omega | (simp; try omega))) p3.rd⟩ (.nil), ?_⟩
 exact ⟨rfl, C_w9⟩
theorem newSum_spec (d : Int) (w : World) (h0 : 0 ≤ d) (h1 : d ≤ 255) :
  Rtn Tryz.prog 59 [i64 d].toArray w (fun v w' => ∃ b, v = tup [.pointer (some ⟨b, 0, none⟩), i64 0] ∧ w.heap.size ≤ b ∧ b < w'.heap.size ∧ Smr w' b (initS d) [] ∧ Pc w' b 97 [i64 ((0 : Nat) : Int)] ∧ Kept w w') := by
 refine fn_body (l := [i64 d]) 20 [.tmp 2, .tmp 3] Tryz.func59 rfl Tryz.ntmps59 (Nat.le_of_ble_eq_true rfl) (by rw [Tryz.results59]) ?_
 refine go_seq ?_
 refine go_region 2 rfl rfl ?_
 refine s_val rfl rfl (r_assign) rfl ?_
 refine s_val rfl rfl (r_assign) rfl ?_
 refine s_end ?_
 refine go_seq ?_
 refine go_seq ?_
 refine go_region 6 rfl rfl ?_
 refine s_val rfl rfl (r_move) rfl ?_
 refine s_val rfl rfl (r_lss rfl rfl) rfl ?_
 refine s_valB rfl rfl (r_move) rfl (fun h1 => ?_) (fun h1 => ?_)
 ·first | replace h1 := dcT h1 | replace h1 := dcF (nt h1) | skip
  exfalso
  omega
 ·first | replace h1 := dcF h1 | replace h1 := dcT (nf h1) | skip
  refine s_val_g rfl rfl (r_move) rfl ?_
  refine s_val_g rfl rfl (r_gtr rfl rfl) rfl ?_
  refine s_val rfl rfl (r_pick false rfl) rfl ?_
  refine s_end ?_
  refine go_ifb _ rfl (fun h2 => ?_) (fun h2 => ?_)
  ·first | replace h2 := dcT h2 | replace h2 := dcF (nt h2) | skip
   exfalso
   omega
  ·first | replace h2 := dcF h2 | replace h2 := dcT (nf h2) | skip
   refine go_skip ?_
   refine go_seq ?_
   refine go_region 3 rfl rfl ?_
   refine s_val rfl rfl (r_buildP (cells := (bs (List.replicate 64 0) ++ (bs (List.replicate 32 0) ++ ([i64 0] ++ ([i64 0]))))) (by kernel_rfl)) rfl ?_
   refine s_do rfl rfl (w_boxA rfl) rfl ?_
   rintro _ w3 ⟨b4, rfl, hl_b4, hu_b4, p5, c_w3⟩
   have hs_w3 : w.heap.size ≤ w3.heap.size := Chg.size c_w3
   have C_w3 := Chg.pure (Chg.refl no w) c_w3
   have hn_b4 : w.heap.size ≤ b4 := by have := Chg.size C_w3; omega
   have ob_8 := Pc.split p5 (n := 64) (by first | rfl | (simp; done))
   obtain ⟨p6, p7⟩ := ob_8
   replace p6 : Pc _ _ 0 _ := p6
   have ob_11 := Pc.split p7 (n := 32) (by first | rfl | (simp; done))
   obtain ⟨p9, p10⟩ := ob_11
   replace p9 : Pc _ _ 64 _ := p9
   have ob_14 := Pc.split p10 (n := 1) (by first | rfl | (simp; done))
   obtain ⟨p12, p13⟩ := ob_14
   replace p12 : Pc _ _ 96 _ := p12
   have p15 : Pc _ _ 97 _ := p13
   refine s_val rfl rfl (r_assign) rfl ?_
   refine s_end ?_
   refine go_seq ?_
   refine go_region 7 rfl rfl ?_
   refine s_val rfl rfl (r_move) rfl ?_
   refine s_val rfl rfl (r_move) rfl ?_
   refine s_val rfl rfl (r_conv_u8 Tryz.runUnderlying3 Tryz.runUnderlying5 rfl) rfl ?_
   refine s_val rfl rfl (r_nilCheck rfl) rfl ?_
   refine s_val rfl rfl (r_fieldAddr Tryz.runUnderlying136 rfl Tryz.sizeOf86 rfl rfl) rfl ?_
   refine s_val rfl rfl (r_indexArr (k := 63) Tryz.runUnderlying86 Tryz.sizeOf5 rfl rfl (by first | rfl | omega) (by first | decide | omega)) rfl ?_
   refine s_do rfl rfl (w_set_b (o := 0) (k := 63) Tryz.sizeOf5 rfl rfl p6 (by first | omega | (simp; try omega))) rfl ?_
   rintro _ w17 ⟨q_w17, c_w17⟩
   have hs_w17 : w3.heap.size ≤ w17.heap.size := Chg.size c_w17
   replace p9 := p9.ko c_w17 (by first | omega | exact ko_bs (by omega) | (simp only [List.length_cons, List.length_nil]; omega) | (rw [bs_length]; omega) | (simp only [List.length_cons, List.length_nil, bs_length]; omega) | (simp [bs_length]; done) | (simp [bs_length]; omega) | (simp; done) | (simp; omega))
   replace p12 := p12.ko c_w17 (by first | omega | exact ko_bs (by omega) | (simp only [List.length_cons, List.length_nil]; omega) | (rw [bs_length]; omega) | (simp only [List.length_cons, List.length_nil, bs_length]; omega) | (simp [bs_length]; done) | (simp [bs_length]; omega) | (simp; done) | (simp; omega))
   replace p15 := p15.ko c_w17 (by first | omega | exact ko_bs (by omega) | (simp only [List.length_cons, List.length_nil]; omega) | (rw [bs_length]; omega) | (simp only [List.length_cons, List.length_nil, bs_length]; omega) | (simp [bs_length]; done) | (simp [bs_length]; omega) | (simp; done) | (simp; omega))
   have C_w17 := Chg.newRng C_w3 c_w17 (by omega)
   have p6 := q_w17
   refine s_end ?_
   refine go_seq ?_
   refine go_region 3 rfl rfl ?_
   refine s_val rfl rfl (r_move) rfl ?_
   refine s_val rfl rfl (r_assign) rfl ?_
   refine s_val rfl rfl (r_assign) rfl ?_
   refine s_end ?_
   refine go_ret ?_
   refine ⟨_, .cons rfl (.cons rfl (.nil)), ?_⟩
   exact ⟨_, rfl, hn_b4, by omega, ⟨initS_length d, _, ⟨by simp, rfl⟩, p6, p9, p12⟩, p15, C_w17⟩
end Go.Proofs.YtippcmedgfmgbaaGreat
end
