/- MapL: contracts of functions of the program: called in any world that meets a contract's premises, the function returns what the contract says and changes no more than it says. -/
import Derived.Test.YtdnccchcflaphaaMapR
open Go Go.Eng Go.Proofs
namespace Go.Eng
variable {P : Program} {w : World} {e : Env} {d : Option Nat} {ty : TypeId} {pos : String} {aft : Array Edge} {g : Option (Nat × Bool)} {t t' : TypeId} {x y : Operand} {a b : Int}
theorem r_rem64 {p q : UInt64} (hx : ev e x = u64 p) (hy : ev e y = u64 q) (hq : q.toNat ≠ 0) : (execOp (ev e) ⟨d, .binOp .rem t x y t', ty, pos, aft, g⟩).run P w = .ok (.value (u64 (p % q))) w := by
  have hd : ((p.toNat : Int)).tmod (q.toNat : Int) = ((p % q).toNat : Int) := by
    rw [UInt64.toNat_mod, Int.tmod_eq_emod_of_nonneg (by omega)]
    exact (Int.natCast_emod _ _).symm
  rw [r_rem hx hy (by omega), hd]
theorem w_setOwnB {T E : TypeId} {B bk k n c : Nat} {v : UInt8} {l : List UInt8} (hs : ∀ w, (sizeOf T).run P w = .ok 1 w) (hx : ev e x = .pointer (some ⟨bk, 0 + k * 1, none⟩)) (hy : ev e y = u8 v)
    (ho : Owns w B E 1 (.slice (some ⟨bk, 0, none⟩) n c) n (bs l)) (hk : k < n) :
    OpWp P ⟨d, .store T x y, ty, pos, aft, g⟩ e w (fun _ w' => Owns w' B E 1 (.slice (some ⟨bk, 0, none⟩) n c) n (bs (l.set k v)) ∧ Chg (blk bk) w w') := by
  have := w_setOwn (d := d) (ty := ty) (pos := pos) (aft := aft) (g := g) (x := x) (y := y) (v := u8 v) hs hx hy rfl rfl ho hk
  rwa [bs_set] at this
/-- the rest of an int as an unsigned number -/
def idxN (i : Int) (n : Nat) : Nat := (i % 18446744073709551616).toNat % n
theorem idxN_lt (i : Int) {n : Nat} (h : 0 < n) : idxN i n < n := Nat.mod_lt _ h
theorem idx_eq (i : Int) (n : Nat) (h : n < 18446744073709551616) : (((w64 i % w64 (n : Int)).toNat : Nat) : Int) = ((idxN i n : Nat) : Int) := by
  have h1 : (w64 i).toNat = (i % 18446744073709551616).toNat := by
    rw [w64, UInt64.toNat_ofNat']
    have := Int.emod_nonneg i (by decide : (18446744073709551616 : Int) ≠ 0)
    have := Int.emod_lt_of_pos i (by decide : (0 : Int) < 18446744073709551616)
    omega
  have h2 : (w64 (n : Int)).toNat = n := by rw [w64, UInt64.toNat_ofNat']; omega
  rw [UInt64.toNat_mod, h1, h2]; rfl
theorem r_convN {src dst : TypeId} {sd : TypeDesc} {k : IntKind} {N : Nat} (hs : ∀ w, (underlying src).run P w = .ok sd w) (hd : ∀ w, (underlying dst).run P w = .ok (.int .i64) w) (hx : ev e x = .int k a) (h : a = (N : Int)) (hN : N ≤ 9223372036854775807) :
    (execOp (ev e) ⟨d, .convert src dst x, ty, pos, aft, g⟩).run P w = .ok (.value (i64 (N : Nat))) w := by
  subst h
  exact r_conv_i64 hs hd hx (by omega)
end Go.Eng
namespace Go.Proofs.Ytdnccchcflaphaa
theorem look_none {kv : Kv} {k : List UInt8} : lookS kv k = none ↔ k ∉ kv.map (·.1) := by
  induction kv with
  | nil => simp [lookS]
  | cons x kv ih =>
    obtain ⟨k', v'⟩ := x
    rw [lookS]
    split
    · rename_i h; subst h; simp
    · rename_i h
      rw [ih]
      simp [Ne.symm h]
theorem look_isSome {kv : Kv} {k : List UInt8} (h : k ∈ kv.map (·.1)) : ∃ v, lookS kv k = some v := by
  cases hl : lookS kv k with
  | some v => exact ⟨v, rfl⟩
  | none => exact absurd h (look_none.1 hl)
theorem put_absent {kv : Kv} {k v : List UInt8} (h : lookS kv k = none) : putS kv k v = kv ++ [(k, v)] := by
  induction kv with
  | nil => rfl
  | cons x kv ih =>
    obtain ⟨k', v'⟩ := x
    rw [lookS] at h
    split at h
    · cases h
    · rename_i hk
      rw [putS, if_neg hk, ih h]; rfl
theorem put_put (kv : Kv) (k u v : List UInt8) : putS (putS kv k u) k v = putS kv k v := by
  induction kv with
  | nil => simp [putS]
  | cons x kv ih =>
    obtain ⟨k', v'⟩ := x
    by_cases hk : k' = k
    · simp [putS, hk]
    · simp [putS, hk, ih]
theorem put_same {kv : Kv} {k v : List UInt8} (h : lookS kv k = some v) : putS kv k v = kv := by
  induction kv with
  | nil => cases h
  | cons x kv ih =>
    obtain ⟨k', v'⟩ := x
    rw [lookS] at h
    split at h
    · rename_i hk; cases h; subst hk; simp [putS]
    · rename_i hk
      rw [putS, if_neg hk, ih h]
theorem look_put (kv : Kv) (k v : List UInt8) : lookS (putS kv k v) k = some v := by
  induction kv with
  | nil => simp [putS, lookS]
  | cons x kv ih =>
    obtain ⟨k', v'⟩ := x
    by_cases hk : k' = k
    · simp [putS, lookS, hk]
    · simp [putS, lookS, hk, ih]
theorem put_vals {kv : Kv} (h : ∀ x ∈ kv, x.2.length = 32) {k v : List UInt8} (hv : v.length = 32) : ∀ x ∈ putS kv k v, x.2.length = 32 := by
  induction kv with
  | nil => intro x hx; simp [putS] at hx; subst hx; exact hv
  | cons y kv ih =>
    obtain ⟨k', v'⟩ := y
    intro x hx
    by_cases hk : k' = k
    · simp only [putS, if_pos hk] at hx
      rcases List.mem_cons.1 hx with rfl | hx
      · exact hv
      · exact h x (List.mem_cons_of_mem _ hx)
    · simp only [putS, if_neg hk] at hx
      rcases List.mem_cons.1 hx with rfl | hx
      · exact h _ List.mem_cons_self
      · exact ih (fun z hz => h z (List.mem_cons_of_mem _ hz)) x hx
theorem del_perm {kv : Kv} {k v : List UInt8} (h : lookS kv k = some v) : kv.Perm ((k, v) :: delS kv k) := by
  induction kv with
  | nil => cases h
  | cons x kv ih =>
    obtain ⟨k', v'⟩ := x
    rw [lookS] at h
    split at h
    · rename_i hk; cases h; subst hk; simp [delS]
    · rename_i hk
      rw [delS, if_neg hk]
      exact ((ih h).cons _).trans (List.Perm.swap _ _ _)
theorem del_end {kv : Kv} {k v : List UInt8} (h : lookS kv k = none) : delS (kv ++ [(k, v)]) k = kv := by
  induction kv with
  | nil => simp [delS]
  | cons x kv ih =>
    obtain ⟨k', v'⟩ := x
    rw [lookS] at h
    split at h
    · cases h
    · rename_i hk
      rw [List.cons_append, delS, if_neg hk, ih h]
/- ### the map of the law -/
theorem plc_inj {ot : Int} {i j : Nat} (hi : i < 65536) (hj : j < 65536) (h : plcI ot (i : Int) = plcI ot (j : Int)) : i = j := by
  have h0 : b8 (i : Int) = b8 (j : Int) := by
    have := congrArg (fun l => l.getD 0 0) h
    simpa [plcI] using this
  have h1 : b8 ((i : Int) / 2 ^ (8 : Int).toNat) = b8 ((j : Int) / 2 ^ (8 : Int).toNat) := by
    have := congrArg (fun l => l.getD 1 0) h
    simpa [plcI] using this
  have e0 := congrArg UInt8.toNat h0
  have e1 := congrArg UInt8.toNat h1
  have p8 : (2 : Int) ^ (8 : Int).toNat = 256 := by decide
  rw [p8] at e1
  simp only [b8, UInt8.toNat_ofNat'] at e0 e1
  omega
theorem plc_ne {ot i : Int} : plcI ot i ≠ List.replicate 32 0 := fun h => by
  have := congrArg (fun l => l.getD 2 0) h
  simp [plcI] at this
def fillS (ot : Int) : Nat → Kv
  | 0 => []
  | i + 1 => putS (fillS ot i) (plcI ot (i : Nat)) (plcI ot 1)
theorem fill_eq (ot : Int) : ∀ i, i ≤ 60000 → fillS ot i = (List.range i).map fun j => (plcI ot ((j : Nat) : Int), plcI ot 1)
  | 0, _ => rfl
  | i + 1, h => by
    have ih := fill_eq ot i (by omega)
    have hno : lookS (fillS ot i) (plcI ot (i : Nat)) = none := look_none.2 fun hm => by
      rw [ih, List.map_map] at hm
      obtain ⟨j, hj, he⟩ := List.mem_map.1 hm
      have hj' := List.mem_range.1 hj
      have := plc_inj (by omega) (by omega) he
      omega
    rw [fillS, put_absent hno, ih, List.range_succ, List.map_append]
    rfl
theorem fill_len (ot : Int) {i : Nat} (h : i ≤ 60000) : (fillS ot i).length = i := by rw [fill_eq ot i h]; simp
theorem fill_no (ot : Int) {i j : Nat} (h : i ≤ j) (hj : j ≤ 60000) : lookS (fillS ot i) (plcI ot (j : Nat)) = none := look_none.2 fun hm => by
  rw [fill_eq ot i (by omega), List.map_map] at hm
  obtain ⟨l, hl, he⟩ := List.mem_map.1 hm
  have := List.mem_range.1 hl
  have := plc_inj (by omega) (by omega) he
  omega
theorem fill_val (ot : Int) {i : Nat} (h : i ≤ 60000) : ∀ x ∈ fillS ot i, x.2 = plcI ot 1 := fun x hx => by
  rw [fill_eq ot i h] at hx
  obtain ⟨j, _, rfl⟩ := List.mem_map.1 hx
  rfl
theorem fill_nd (ot : Int) {i : Nat} (h : i ≤ 60000) : ((fillS ot i).map (·.1)).Nodup := by
  rw [fill_eq ot i h, List.map_map]
  refine List.pairwise_map.2 ?_
  refine List.Pairwise.imp_of_mem (R := (· < ·)) ?_ List.pairwise_lt_range
  intro a b ha hb hab he
  have h1 := List.mem_range.1 ha
  have h2 := List.mem_range.1 hb
  have := plc_inj (by omega) (by omega) he
  omega
theorem fill_look (ot : Int) {i j : Nat} (h : j < i) (hi : i ≤ 60000) : lookS (fillS ot i) (plcI ot (j : Nat)) = some (plcI ot 1) := by
  have hm : plcI ot (j : Nat) ∈ (fillS ot i).map (·.1) := by
    rw [fill_eq ot i hi, List.map_map]
    exact List.mem_map.2 ⟨j, List.mem_range.2 h, rfl⟩
  obtain ⟨v, hv⟩ := look_isSome hm
  rw [hv, ← fill_val ot hi _ (lookS_mem hv)]
theorem fill_succ (ot : Int) (i : Nat) : fillS ot (i + 1) = putS (fillS ot i) (plcI ot (i : Nat)) (plcI ot 1) := rfl
theorem fill_zero (ot : Int) : fillS ot 0 = [] := rfl
attribute [irreducible] fillS
/-- what the law goes through -/
structure Law (ot : Int) (k : Nat) : Prop where
  hv0 : ∀ x ∈ fillS ot 1000, x.2.length = 32
  nd0 : ((fillS ot 1000).map (·.1)).Nodup
  len0 : (fillS ot 1000).length = 1000
  no0 : lookS (fillS ot 1000) (plcI ot 1000) = none
  in0 : lookS (fillS ot 1000) (plcI ot (k : Nat)) = some (plcI ot 1)
  e2 : putS (putS (fillS ot 1000) (plcI ot (k : Nat)) (plcI ot 2)) (plcI ot (k : Nat)) (plcI ot 1) = fillS ot 1000
  hv1 : ∀ x ∈ putS (fillS ot 1000) (plcI ot (k : Nat)) (plcI ot 2), x.2.length = 32
  in1 : lookS (putS (fillS ot 1000) (plcI ot (k : Nat)) (plcI ot 2)) (plcI ot (k : Nat)) = some (plcI ot 2)
  hv3 : ∀ x ∈ delS (fillS ot 1000) (plcI ot (k : Nat)), x.2.length = 32
  len3 : (delS (fillS ot 1000) (plcI ot (k : Nat))).length = 999
  no3 : lookS (delS (fillS ot 1000) (plcI ot (k : Nat))) (plcI ot 1000) = none
  nk3 : lookS (delS (fillS ot 1000) (plcI ot (k : Nat))) (plcI ot (k : Nat)) = none
  hv4 : ∀ x ∈ putS (delS (fillS ot 1000) (plcI ot (k : Nat))) (plcI ot 1000) (plcI ot 1), x.2.length = 32
  len4 : (putS (delS (fillS ot 1000) (plcI ot (k : Nat))) (plcI ot 1000) (plcI ot 1)).length = 1000
  in4 : lookS (putS (delS (fillS ot 1000) (plcI ot (k : Nat))) (plcI ot 1000) (plcI ot 1)) (plcI ot 1000) = some (plcI ot 1)
  nk4 : lookS (putS (delS (fillS ot 1000) (plcI ot (k : Nat))) (plcI ot 1000) (plcI ot 1)) (plcI ot (k : Nat)) = none
  e5 : delS (putS (delS (fillS ot 1000) (plcI ot (k : Nat))) (plcI ot 1000) (plcI ot 1)) (plcI ot 1000) = delS (fillS ot 1000) (plcI ot (k : Nat))
  hv6 : ∀ x ∈ putS (delS (fillS ot 1000) (plcI ot (k : Nat))) (plcI ot (k : Nat)) (plcI ot 1), x.2.length = 32
  len6 : (putS (delS (fillS ot 1000) (plcI ot (k : Nat))) (plcI ot (k : Nat)) (plcI ot 1)).length = 1000
  nd6 : ((putS (delS (fillS ot 1000) (plcI ot (k : Nat))) (plcI ot (k : Nat)) (plcI ot 1)).map (·.1)).Nodup
  e6 : rootF (getS (putS (delS (fillS ot 1000) (plcI ot (k : Nat))) (plcI ot (k : Nat)) (plcI ot 1))) ((putS (delS (fillS ot 1000) (plcI ot (k : Nat))) (plcI ot (k : Nat)) (plcI ot 1)).map (·.1)) = rootF (getS (fillS ot 1000)) ((fillS ot 1000).map (·.1))
theorem law (ot : Int) (k : Nat) (hk : k < 1000) : Law ot k := by
  have hv0 : ∀ x ∈ fillS ot 1000, x.2.length = 32 := fun x hx => by rw [fill_val ot (by omega) x hx, plcI_len]
  have nd0 := fill_nd ot (i := 1000) (by omega)
  have len0 := fill_len ot (i := 1000) (by omega)
  have no0 : lookS (fillS ot 1000) (plcI ot 1000) = none := fill_no ot (i := 1000) (j := 1000) (by omega) (by omega)
  have in0 := fill_look ot (i := 1000) (j := k) hk (by omega)
  have hp := del_perm in0
  have hsub : ∀ x ∈ delS (fillS ot 1000) (plcI ot (k : Nat)), x ∈ fillS ot 1000 := fun x hx => hp.symm.subset (List.mem_cons_of_mem _ hx)
  have hkn : (plcI ot (k : Nat) :: (delS (fillS ot 1000) (plcI ot (k : Nat))).map (·.1)).Nodup := by
    have := (hp.map (·.1)).nodup_iff.1 nd0
    simpa using this
  have nk3 : lookS (delS (fillS ot 1000) (plcI ot (k : Nat))) (plcI ot (k : Nat)) = none := look_none.2 (List.nodup_cons.1 hkn).1
  have no3 : lookS (delS (fillS ot 1000) (plcI ot (k : Nat))) (plcI ot 1000) = none := look_none.2 fun hm => by
    obtain ⟨x, hx, he⟩ := List.mem_map.1 hm
    exact look_none.1 no0 (List.mem_map.2 ⟨x, hsub x hx, he⟩)
  have len3 : (delS (fillS ot 1000) (plcI ot (k : Nat))).length = 999 := by
    have := hp.length_eq
    rw [List.length_cons] at this; omega
  have hv3 : ∀ x ∈ delS (fillS ot 1000) (plcI ot (k : Nat)), x.2.length = 32 := fun x hx => hv0 x (hsub x hx)
  have hkk : plcI ot 1000 ≠ plcI ot (k : Nat) := fun he => by
    have := plc_inj (i := 1000) (j := k) (by omega) (by omega) he
    omega
  have e4 := put_absent (v := plcI ot 1) no3
  have e6' := put_absent (v := plcI ot 1) nk3
  have hperm : (putS (delS (fillS ot 1000) (plcI ot (k : Nat))) (plcI ot (k : Nat)) (plcI ot 1)).Perm (fillS ot 1000) := by
    rw [e6']
    exact (List.perm_append_singleton _ _).trans hp.symm
  have nd6 : ((putS (delS (fillS ot 1000) (plcI ot (k : Nat))) (plcI ot (k : Nat)) (plcI ot 1)).map (·.1)).Nodup := (hperm.map (·.1)).nodup_iff.2 nd0
  refine ⟨hv0, nd0, len0, no0, in0, ?_, put_vals hv0 (plcI_len _ _), look_put _ _ _, hv3, len3, no3, nk3, put_vals hv3 (plcI_len _ _), ?_, look_put _ _ _, ?_, ?_, put_vals hv3 (plcI_len _ _), ?_, nd6, ?_⟩
  · rw [put_put, put_same in0]
  · rw [e4, List.length_append, len3]; rfl
  · rw [e4]
    refine look_none.2 fun hm => ?_
    rw [List.map_append, List.mem_append] at hm
    rcases hm with hm | hm
    · exact look_none.1 nk3 hm
    · simp at hm; exact hkk hm.symm
  · rw [e4, del_end no3]
  · rw [e6', List.length_append, len3]; rfl
  · refine rootF_congr (hperm.map (·.1)) (fun x hx => ?_) fun q hq => ?_
    · have h0 := (hperm.map (·.1)).subset hx
      rw [fill_eq ot 1000 (by omega), List.map_map] at h0
      obtain ⟨j, _, rfl⟩ := List.mem_map.1 h0
      exact plcI_len _ _
    · have allv : ∀ x ∈ putS (delS (fillS ot 1000) (plcI ot (k : Nat))) (plcI ot (k : Nat)) (plcI ot 1), x.2 = plcI ot 1 := fun x hx => fill_val ot (by omega) x (hperm.subset hx)
      obtain ⟨v, hv⟩ := look_isSome hq
      obtain ⟨u, hu⟩ := look_isSome ((hperm.map (·.1)).subset hq)
      unfold getS
      rw [hv, hu, Option.getD_some, Option.getD_some]
      exact (allv _ (lookS_mem hv)).trans (fill_val ot (by omega) _ (lookS_mem hu)).symm
end Go.Proofs.Ytdnccchcflaphaa
