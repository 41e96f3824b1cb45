/- MapP: contracts of functions of the program: called in any world that meets a contract's premises, the function returns what the contract says and changes no more than it says. -/
import Derived.Test.YtdnccchcflaphaaM8
import Derived.Test.YtdnccchcflaphaaEng13
open Go Go.Eng Go.Proofs
namespace Go.Proofs.Ytdnccchcflaphaa
/- The tree of a map, over lists. -/
/-- octets as one number -/
def num : List UInt8 → Nat
  | [] => 0
  | a :: l => a.toNat * 256 ^ l.length + num l
theorem num_lt : ∀ l : List UInt8, num l < 256 ^ l.length
  | [] => by simp [num]
  | a :: l => by
    have := num_lt l
    have ha := a.toNat_lt
    rw [num, List.length_cons, Nat.pow_succ, Nat.mul_comm (256 ^ l.length)]
    have : a.toNat * 256 ^ l.length ≤ 255 * 256 ^ l.length := Nat.mul_le_mul_right _ (by omega)
    omega
theorem num_inj : ∀ {l m : List UInt8}, l.length = m.length → num l = num m → l = m
  | [], [], _, _ => rfl
  | [], _ :: _, h, _ => by simp at h
  | _ :: _, [], h, _ => by simp at h
  | a :: l, b :: m, h, hn => by
    have hl : l.length = m.length := by simpa using h
    have h1 := num_lt l
    have h2 := num_lt m
    simp only [num, hl] at hn
    rw [hl] at h1
    have hab : a.toNat = b.toNat := by
      rcases Nat.lt_trichotomy a.toNat b.toNat with hlt | he | hlt
      · exfalso
        have : (a.toNat + 1) * 256 ^ m.length ≤ b.toNat * 256 ^ m.length := Nat.mul_le_mul_right _ hlt
        rw [Nat.add_mul] at this
        omega
      · exact he
      · exfalso
        have : (b.toNat + 1) * 256 ^ m.length ≤ a.toNat * 256 ^ m.length := Nat.mul_le_mul_right _ hlt
        rw [Nat.add_mul] at this
        omega
    rw [hab] at hn
    rw [UInt8.toNat_inj.1 hab, num_inj hl (by omega)]
theorem compare_num : ∀ {l m : List UInt8}, l.length = m.length → (Lib.compareBytes l m < 0 ↔ num l < num m)
  | [], [], _ => by simp [Lib.compareBytes, num]
  | [], _ :: _, h => by simp at h
  | _ :: _, [], h => by simp at h
  | a :: l, b :: m, h => by
    have hl : l.length = m.length := by simpa using h
    have h1 := num_lt l
    have h2 := num_lt m
    have ih := compare_num hl
    rw [hl] at h1
    simp only [num, hl, Lib.compareBytes]
    by_cases hab : a < b
    · rw [if_pos hab]
      have hlt : a.toNat < b.toNat := UInt8.lt_iff_toNat_lt.1 hab
      have : (a.toNat + 1) * 256 ^ m.length ≤ b.toNat * 256 ^ m.length := Nat.mul_le_mul_right _ hlt
      rw [Nat.add_mul] at this
      constructor
      · intro _; omega
      · intro _; decide
    · rw [if_neg hab]
      by_cases hba : b < a
      · rw [if_pos hba]
        have hlt : b.toNat < a.toNat := UInt8.lt_iff_toNat_lt.1 hba
        have : (b.toNat + 1) * 256 ^ m.length ≤ a.toNat * 256 ^ m.length := Nat.mul_le_mul_right _ hlt
        rw [Nat.add_mul] at this
        constructor
        · intro h; exact absurd h (by decide)
        · intro _; omega
      · rw [if_neg hba]
        have e : a.toNat = b.toNat := by
          have h3 : ¬ a.toNat < b.toNat := fun h => hab (UInt8.lt_iff_toNat_lt.2 h)
          have h4 : ¬ b.toNat < a.toNat := fun h => hba (UInt8.lt_iff_toNat_lt.2 h)
          omega
        rw [ih, e]; omega
theorem num_get : ∀ (l : List UInt8) (j : Nat), j < l.length → num l / 256 ^ (l.length - 1 - j) % 256 = (l.getD j 0).toNat
  | [], _, h => by simp at h
  | a :: l, 0, _ => by
    have := num_lt l
    have ha := a.toNat_lt
    simp only [num, List.length_cons, Nat.add_sub_cancel, Nat.sub_zero, List.getD_cons_zero]
    rw [Nat.mul_comm, Nat.mul_add_div (Nat.pow_pos (by decide)), Nat.div_eq_of_lt this]
    omega
  | a :: l, j + 1, h => by
    have hj : j < l.length := by simpa using h
    have ih := num_get l j hj
    simp only [num, List.length_cons, List.getD_cons_succ]
    rw [← ih]
    have e : l.length + 1 - 1 - (j + 1) = l.length - 1 - j := by omega
    rw [e]
    have hp : 256 ^ l.length = 256 ^ (l.length - 1 - j) * (256 * 256 ^ j) := by
      rw [← Nat.mul_assoc, ← Nat.pow_succ, ← Nat.pow_add]
      congr 1; omega
    rw [hp, show a.toNat * (256 ^ (l.length - 1 - j) * (256 * 256 ^ j)) = 256 ^ (l.length - 1 - j) * (a.toNat * (256 * 256 ^ j)) by rw [← Nat.mul_assoc, Nat.mul_comm a.toNat, Nat.mul_assoc], Nat.mul_add_div (Nat.pow_pos (by decide))]
    rw [show a.toNat * (256 * 256 ^ j) = 256 * (a.toNat * 256 ^ j) by rw [← Nat.mul_assoc, Nat.mul_comm a.toNat, Nat.mul_assoc]]
    omega
/-- bit number lv of a key -/
def bitK (k : List UInt8) (lv : Nat) : Nat := (k.getD (lv / 8) 0).toNat / 2 ^ (7 - lv % 8) % 2
theorem bit_num {k : List UInt8} (hk : k.length = 32) {lv : Nat} (h : lv < 256) : bitK k lv = num k / 2 ^ (255 - lv) % 2 := by
  have hg := num_get k (lv / 8) (by omega)
  rw [hk] at hg
  rw [bitK, ← hg]
  have e1 : 255 - lv = (7 - lv % 8) + 8 * (31 - lv / 8) := by omega
  have e2 : (256 : Nat) ^ (32 - 1 - lv / 8) = 2 ^ (8 * (31 - lv / 8)) := by rw [show (256 : Nat) = 2 ^ 8 from rfl, ← Nat.pow_mul]
  rw [e2, e1, Nat.pow_add, Nat.mul_comm (2 ^ (7 - lv % 8)), ← Nat.div_div_eq_div_mul]
  generalize num k / 2 ^ (8 * (31 - lv / 8)) = x
  have hd : 256 = 2 ^ (7 - lv % 8) * (2 * 2 ^ (lv % 8)) := by
    rw [← Nat.mul_assoc, ← Nat.pow_succ, ← Nat.pow_add, show (7 - lv % 8).succ + lv % 8 = 8 by omega]
  rw [hd, Nat.mod_mul_right_div_self, Nat.mod_mul_right_mod]
/-- how many of the first have 0 there -/
def cntZ (L : List (List UInt8)) (lv : Nat) : Nat := (L.takeWhile fun x => bitK x lv == 0).length
theorem cntZ_le (L : List (List UInt8)) (lv : Nat) : cntZ L lv ≤ L.length := (List.takeWhile_sublist _).length_le
theorem cntZ_of {L : List (List UInt8)} {lv i : Nat} (hi : i ≤ L.length) (h : ∀ j, j < i → bitK (L.getD j []) lv = 0) (h2 : i = L.length ∨ bitK (L.getD i []) lv ≠ 0) : cntZ L lv = i := by
  induction L generalizing i with
  | nil => simp at hi; subst hi; rfl
  | cons x L ih =>
    unfold cntZ
    rw [List.takeWhile_cons]
    cases i with
    | zero =>
      have : bitK x lv ≠ 0 := by
        rcases h2 with h2 | h2
        · simp at h2
        · simpa using h2
      rw [if_neg (by simpa using this)]; rfl
    | succ i =>
      have h0 : bitK x lv = 0 := by simpa using h 0 (by omega)
      rw [if_pos (by simpa using h0), List.length_cons]
      have := ih (i := i) (by simpa using hi) (fun j hj => by simpa using h (j + 1) (by omega)) (h2.imp (fun h => by simpa using h) (fun h => by simpa using h))
      unfold cntZ at this
      rw [this]
theorem cntZ_take {L : List (List UInt8)} {lv : Nat} : ∀ x ∈ L.take (cntZ L lv), bitK x lv = 0 := by
  induction L with
  | nil => intro x hx; simp at hx
  | cons y L ih =>
    intro x hx
    unfold cntZ at hx
    rw [List.takeWhile_cons] at hx
    split at hx
    · rename_i hy
      rw [List.length_cons, List.take_succ_cons] at hx
      rcases List.mem_cons.1 hx with rfl | hx
      · simpa using hy
      · exact ih x hx
    · simp at hx
theorem bitK_lt (k : List UInt8) (lv : Nat) : bitK k lv < 2 := Nat.mod_lt _ (by decide)
def tipF (F : List UInt8 → List UInt8) (L : List (List UInt8)) : List UInt8 := match L with | [] => List.replicate 32 0 | k :: _ => hashB 4 (k ++ F k)
def partF (F : List UInt8 → List UInt8) : Nat → List (List UInt8) → Nat → List UInt8
  | 0, L, _ => tipF F L
  | f + 1, L, lv => if L.length ≤ 1 then tipF F L else hashB 2 (partF F f (L.take (cntZ L lv)) (lv + 1) ++ partF F f (L.drop (cntZ L lv)) (lv + 1))
theorem tipF_len (F : List UInt8 → List UInt8) (L : List (List UInt8)) : (tipF F L).length = 32 := by cases L <;> simp [tipF]
theorem partF_len (F : List UInt8 → List UInt8) (f : Nat) (L : List (List UInt8)) (lv : Nat) : (partF F f L lv).length = 32 := by
  cases f with
  | zero => exact tipF_len F L
  | succ f =>
    rw [partF]
    split
    · exact tipF_len F L
    · exact hashB_length _ _
theorem partF_congr {F G : List UInt8 → List UInt8} : ∀ (f : Nat) (L : List (List UInt8)) (lv : Nat), (∀ k ∈ L, F k = G k) → partF F f L lv = partF G f L lv := by
  have tip : ∀ L : List (List UInt8), (∀ k ∈ L, F k = G k) → tipF F L = tipF G L := fun L h => by
    cases L with
    | nil => rfl
    | cons k L => simp [tipF, h k (by simp)]
  intro f
  induction f with
  | zero => intro L lv h; exact tip L h
  | succ f ih =>
    intro L lv h
    rw [partF, partF]
    split
    · exact tip L h
    · rw [ih _ _ fun k hk => h k (List.mem_of_mem_take hk), ih _ _ fun k hk => h k (List.mem_of_mem_drop hk)]
/-- the parts come down to single keys -/
def Sp : Nat → List (List UInt8) → Nat → Prop
  | 0, L, _ => L.length ≤ 1
  | f + 1, L, lv => L.length ≤ 1 ∨ (lv < 256 ∧ Sp f (L.take (cntZ L lv)) (lv + 1) ∧ Sp f (L.drop (cntZ L lv)) (lv + 1))
theorem sp_sorted : ∀ (f : Nat) (L : List (List UInt8)) (lv : Nat), f + lv = 256 → All32 L → L.Pairwise (fun x y => num x < num y) → (∀ x ∈ L, ∀ y ∈ L, num x / 2 ^ (256 - lv) = num y / 2 ^ (256 - lv)) → Sp f L lv := by
  intro f
  induction f with
  | zero =>
    intro L lv hf h32 hs hp
    obtain rfl : lv = 256 := by omega
    show L.length ≤ 1
    rcases L with _ | ⟨x, _ | ⟨y, L⟩⟩
    · simp
    · simp
    · exfalso
      have h1 := hp x (by simp) y (by simp)
      have h2 : num x < num y := (List.pairwise_cons.1 hs).1 y (by simp)
      simp at h1
      omega
  | succ f ih =>
    intro L lv hf h32 hs hp
    by_cases hl : L.length ≤ 1
    · exact .inl hl
    have hlv : lv < 256 := by omega
    refine .inr ⟨hlv, ?_, ?_⟩
    · refine ih _ _ (by omega) (h32.take _) (hs.sublist (List.take_sublist _ _)) ?_
      intro x hx y hy
      have bx := cntZ_take x hx
      have by_ := cntZ_take y hy
      have mx := List.mem_of_mem_take hx
      have my := List.mem_of_mem_take hy
      rw [bit_num (h32 x mx) hlv] at bx
      rw [bit_num (h32 y my) hlv] at by_
      have e := hp x mx y my
      have e2 : 256 - lv = (255 - lv) + 1 := by omega
      rw [e2, Nat.pow_succ, ← Nat.div_div_eq_div_mul, ← Nat.div_div_eq_div_mul] at e
      rw [show 256 - (lv + 1) = 255 - lv by omega]
      omega
    · refine ih _ _ (by omega) (h32.drop _) (hs.sublist (List.drop_sublist _ _)) ?_
      -- all of the second part have 1 there
      have ones : ∀ x ∈ L.drop (cntZ L lv), bitK x lv = 1 := by
        intro x hx
        have hcl := cntZ_le L lv
        -- the first of the second part
        cases hd : L.drop (cntZ L lv) with
        | nil => rw [hd] at hx; cases hx
        | cons z Z =>
          have hz : bitK z lv ≠ 0 := by
            have hdw : L.drop (cntZ L lv) = L.dropWhile fun x => bitK x lv == 0 := by
              have h1 : L.takeWhile (fun x => bitK x lv == 0) ++ L.dropWhile (fun x => bitK x lv == 0) = L := List.takeWhile_append_dropWhile
              conv => lhs; rw [← h1]
              exact List.drop_left' (by unfold cntZ; rw [h1])
            rw [hdw] at hd
            have := List.head_dropWhile_not (fun x => bitK x lv == 0) (l := L) (by rw [hd]; simp)
            simp only [hd, List.head_cons] at this
            simpa using this
          have mz : z ∈ L := List.mem_of_mem_drop (by rw [hd]; simp)
          have mx : x ∈ L := List.mem_of_mem_drop hx
          have hle : num z ≤ num x := by
            rw [hd] at hx
            rcases List.mem_cons.1 hx with rfl | hx
            · exact Nat.le_refl _
            · have hs2 := hs.sublist (List.drop_sublist (cntZ L lv) L)
              rw [hd] at hs2
              exact Nat.le_of_lt ((List.pairwise_cons.1 hs2).1 x hx)
          have b1 := bitK_lt z lv
          have b2 := bitK_lt x lv
          rw [bit_num (h32 z mz) hlv] at hz b1
          rw [bit_num (h32 x mx) hlv] at b2 ⊢
          have e := hp z mz x mx
          have e2 : 256 - lv = (255 - lv) + 1 := by omega
          rw [e2, Nat.pow_succ, ← Nat.div_div_eq_div_mul, ← Nat.div_div_eq_div_mul] at e
          have := Nat.div_le_div_right (c := 2 ^ (255 - lv)) hle
          omega
      intro x hx y hy
      have bx := ones x hx
      have by_ := ones y hy
      have mx := List.mem_of_mem_drop hx
      have my := List.mem_of_mem_drop hy
      rw [bit_num (h32 x mx) hlv] at bx
      rw [bit_num (h32 y my) hlv] at by_
      have e := hp x mx y my
      have e2 : 256 - lv = (255 - lv) + 1 := by omega
      rw [e2, Nat.pow_succ, ← Nat.div_div_eq_div_mul, ← Nat.div_div_eq_div_mul] at e
      rw [show 256 - (lv + 1) = 255 - lv by omega]
      omega
/-- keys in order -/
def sortK (L : List (List UInt8)) : List (List UInt8) := L.mergeSort fun x y => decide (num x ≤ num y)
theorem sortK_perm (L : List (List UInt8)) : (sortK L).Perm L := List.mergeSort_perm L _
theorem sortK_sorted (L : List (List UInt8)) : (sortK L).Pairwise fun x y => num x ≤ num y := by
  have := List.pairwise_mergeSort (le := fun x y : List UInt8 => decide (num x ≤ num y)) (fun a b c h1 h2 => by simp only [decide_eq_true_eq] at *; omega) (fun a b => by simp only [Bool.or_eq_true, decide_eq_true_eq]; omega) L
  exact this.imp fun h => by simpa using h
theorem sorted_unique {L M : List (List UInt8)} (hp : L.Perm M) (h32 : All32 L) (hl : L.Pairwise fun x y => num x ≤ num y) (hm : M.Pairwise fun x y => num x ≤ num y) : L = M :=
  hp.eq_of_pairwise (le := fun x y => num x ≤ num y) (fun a b ha hb h1 h2 => num_inj ((h32 a ha).trans (h32 b (hp.symm.subset hb)).symm) (by omega)) hl hm
theorem sortK_congr {L M : List (List UInt8)} (hp : L.Perm M) (h32 : All32 L) : sortK L = sortK M :=
  sorted_unique ((sortK_perm L).trans (hp.trans (sortK_perm M).symm)) (fun x hx => h32 x ((sortK_perm L).subset hx)) (sortK_sorted L) (sortK_sorted M)
theorem sortK_lt {L : List (List UInt8)} (h32 : All32 L) (hn : L.Nodup) : (sortK L).Pairwise fun x y => num x < num y := by
  have hn2 : (sortK L).Nodup := (sortK_perm L).nodup_iff.2 hn
  have h2 : All32 (sortK L) := fun x hx => h32 x ((sortK_perm L).subset hx)
  have hs := sortK_sorted L
  refine List.Pairwise.imp_of_mem ?_ (hs.and hn2)
  intro a b ha hb h
  obtain ⟨h1, hne⟩ := h
  rcases Nat.lt_or_ge (num a) (num b) with hlt | hge
  · exact hlt
  · exact absurd (num_inj ((h2 a ha).trans (h2 b hb).symm) (by omega)) hne
/-- the root of a map whose keys are L and whose values are F's -/
def rootF (F : List UInt8 → List UInt8) (L : List (List UInt8)) : List UInt8 := partF F 256 (sortK L) 0
theorem rootF_len (F : List UInt8 → List UInt8) (L : List (List UInt8)) : (rootF F L).length = 32 := partF_len _ _ _ _
theorem rootF_sp {L : List (List UInt8)} (h32 : All32 L) (hn : L.Nodup) : Sp 256 (sortK L) 0 := by
  have h2 : All32 (sortK L) := fun x hx => h32 x ((sortK_perm L).subset hx)
  refine sp_sorted 256 _ 0 rfl h2 (sortK_lt h32 hn) fun x hx y hy => ?_
  have e : (2 : Nat) ^ (256 - 0) = 256 ^ 32 := by rw [show (256 : Nat) ^ 32 = (2 ^ 8) ^ 32 from rfl, ← Nat.pow_mul]
  have h3 := num_lt x
  have h4 := num_lt y
  rw [h2 x hx] at h3
  rw [h2 y hy] at h4
  rw [e, Nat.div_eq_of_lt h3, Nat.div_eq_of_lt h4]
theorem rootF_congr {F G : List UInt8 → List UInt8} {L M : List (List UInt8)} (hp : L.Perm M) (h32 : All32 L) (h : ∀ k ∈ L, F k = G k) : rootF F L = rootF G M := by
  rw [rootF, rootF, ← sortK_congr hp h32]
  exact partF_congr _ _ _ fun k hk => h k ((sortK_perm L).subset hk)
end Go.Proofs.Ytdnccchcflaphaa
