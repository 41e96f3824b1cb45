/- Eng14: a calculus of walks over frames that are read as functions, for the program's code as the model has it: proved for every program. -/
import Derived.Test.YtdnccchcflaphaaEng13
import Derived.Maps.RangeRun
open Go Go.Eng
namespace Go.Eng
variable {P : Program} {w : World} {e : Env} {d : Option Nat} {ty : TypeId} {pos : String} {aft : Array Edge} {g : Option (Nat × Bool)}
section
variable {t t' : TypeId} {x y : Operand}
theorem r_and1 {n : Nat} (hx : ev e x = i64 (n : Nat)) (hy : ev e y = i64 1) (hn : n < 9223372036854775808) : (execOp (ev e) ⟨d, .binOp .and t x y t', ty, pos, aft, g⟩).run P w = .ok (.value (i64 ((n % 2 : Nat) : Int))) w := by
  have h : (execOp (ev e) ⟨d, .binOp .and t x y t', ty, pos, aft, g⟩).run P w = .ok (.value (.int .i64 (IntKind.i64.wrap ((BitVec.ofInt IntKind.i64.bits (n : Int) &&& BitVec.ofInt IntKind.i64.bits 1).toNat)))) w := by
    simp only [execOp, hx, hy, eqGuard, binOp, Op.intBits, Sem.run_pure, Sem.run_bind, ne_eq, not_true_eq_false, if_false]
    rfl
  rw [h, show IntKind.i64.bits = 64 from rfl]
  have hb : (BitVec.ofInt 64 (n : Int) &&& BitVec.ofInt 64 1).toNat = n % 2 := by
    rw [BitVec.ofInt_natCast, BitVec.toNat_and, BitVec.toNat_ofNat, Nat.mod_eq_of_lt (by omega)]
    exact Nat.and_one_is_mod n
  rw [hb]
  have hw : IntKind.i64.wrap (((n % 2 : Nat) : Int)) = ((n % 2 : Nat) : Int) := by
    rcases Nat.mod_two_eq_zero_or_one n with h | h <;> rw [h] <;> rfl
  rw [hw]
end
/- ### maps from octets to octets -/
abbrev Kv := List (List UInt8 × List UInt8)
def lookS : Kv → List UInt8 → Option (List UInt8)
  | [], _ => none
  | (k', v) :: es, k => if k' = k then some v else lookS es k
def putS : Kv → List UInt8 → List UInt8 → Kv
  | [], k, v => [(k, v)]
  | (k', v') :: es, k, v => if k' = k then (k, v) :: es else (k', v') :: putS es k v
def delS : Kv → List UInt8 → Kv
  | [], _ => []
  | (k', v') :: es, k => if k' = k then es else (k', v') :: delS es k
def enS (kv : Kv) : List (List UInt8 × Value) := kv.map fun p => (p.1, ek p.2)
theorem look_enS (kv : Kv) (q : List UInt8) : lookK (enS kv) q = (lookS kv q).map ek := by
  induction kv with
  | nil => rfl
  | cons p kv ih =>
    obtain ⟨k, v⟩ := p
    show lookK ((k, ek v) :: enS kv) q = _
    rw [lookK, lookS]
    split
    · rfl
    · exact ih
theorem put_enS (kv : Kv) (q v : List UInt8) : putK (enS kv) q (ek v) = enS (putS kv q v) := by
  induction kv with
  | nil => rfl
  | cons p kv ih =>
    obtain ⟨k, v'⟩ := p
    show putK ((k, ek v') :: enS kv) q _ = _
    rw [putK, putS]
    split
    · rfl
    · rw [ih]; rfl
theorem del_enS (kv : Kv) (q : List UInt8) : delK (enS kv) q = enS (delS kv q) := by
  induction kv with
  | nil => rfl
  | cons p kv ih =>
    obtain ⟨k, v'⟩ := p
    show delK ((k, ek v') :: enS kv) q = _
    rw [delK, delS]
    split
    · rfl
    · rw [ih]; rfl
def MapS (n : Nat) (w : World) (b : Nat) (kv : Kv) : Prop := MapK n w b (enS kv)
theorem MapS.kept {n : Nat} {M : Nat → Nat → Prop} {w' : World} {b : Nat} {kv : Kv} (h : MapS n w b kv) (k : Chg M w w') (hm : ∀ o, ¬ M b o) : MapS n w' b kv := MapK.kept h k hm
theorem MapS.k {n : Nat} {w' : World} {b : Nat} {kv : Kv} (h : MapS n w b kv) (k : Kept w w') : MapS n w' b kv := MapK.k h k
theorem MapS.kb {n : Nat} {w' : World} {b b2 o2 m : Nat} {kv : Kv} (h : MapS n w b kv) (k : Chg (rng b2 o2 m) w w') (hb : b ≠ b2) : MapS n w' b kv := MapK.kb h k hb
theorem MapS.kB {n : Nat} {w' : World} {b b2 : Nat} {kv : Kv} (h : MapS n w b kv) (k : Chg (blk b2) w w') (hb : b ≠ b2) : MapS n w' b kv := MapK.kB h k hb
theorem MapS.kob {n : Nat} {w' : World} {b : Nat} {v : Value} {kv : Kv} (h : MapS n w b kv) (k : Chg (ob v) w w') (hb : some b ≠ v.ownBlock) : MapS n w' b kv := MapK.kob h k hb
theorem MapS.lt {n : Nat} {b : Nat} {kv : Kv} (h : MapS n w b kv) : b < w.heap.size := MapK.lt h
theorem MapS.klen {n : Nat} {b : Nat} {kv : Kv} (h : MapS n w b kv) : ∀ p ∈ kv, p.1.length = n := fun p hp => by
  obtain ⟨_, _, _, _, h5, _⟩ := h
  exact h5 (p.1, ek p.2) (List.mem_map.2 ⟨p, hp, rfl⟩)
theorem w_makeMapS (n : Nat) {t : TypeId} : OpWp P ⟨d, .makeMap t none, ty, pos, aft, g⟩ e w (fun v w' => ∃ b, v = .map (some b) ∧ w.heap.size ≤ b ∧ b < w'.heap.size ∧ MapS n w' b [] ∧ Kept w w') := w_makeMapK n
theorem r_lenMapS {n : Nat} {t k el : TypeId} {x : Operand} {b : Nat} {kv : Kv} (hu : ∀ w, (underlying t).run P w = .ok (.map k el) w) (hx : ev e x = .map (some b)) (h : MapS n w b kv) :
    (execOp (ev e) ⟨d, .call ⟨.builtin .len, #[x], #[t]⟩, ty, pos, aft, g⟩).run P w = .ok (.value (i64 (kv.length : Nat))) w := by
  have := r_lenMapK (d := d) (ty := ty) (pos := pos) (aft := aft) (g := g) hu hx h
  rwa [enS, List.length_map] at this
theorem r_lookupS {n : Nat} {t k el ko : TypeId} {x y : Operand} {b : Nat} {q z : List UInt8} {kv : Kv} (hu : P.underlying t = some (.map k el)) (K : KeyT P k ko n) (hz : ∀ w, (zeroValue el).run P w = .ok (ek z) w) (hx : ev e x = .map (some b)) (hy : ev e y = ek q) (h : MapS n w b kv) (hq : q.length = n) :
    (execOp (ev e) ⟨d, .lookup t x y false, ty, pos, aft, g⟩).run P w = .ok (.value (.agg (bs ((lookS kv q).getD z)).toArray)) w :=
  r_lookupK hu K hz hx hy h hq (by rw [look_enS]; cases lookS kv q <;> rfl)
theorem r_lookupS2 {n : Nat} {t k el ko : TypeId} {x y : Operand} {b : Nat} {q z : List UInt8} {kv : Kv} {c : Bool} (hu : P.underlying t = some (.map k el)) (K : KeyT P k ko n) (hz : ∀ w, (zeroValue el).run P w = .ok (ek z) w) (hx : ev e x = .map (some b)) (hy : ev e y = ek q) (h : MapS n w b kv) (hq : q.length = n) (hc : (lookS kv q).isSome = c) :
    (execOp (ev e) ⟨d, .lookup t x y true, ty, pos, aft, g⟩).run P w = .ok (.value (.tuple [.agg (bs ((lookS kv q).getD z)).toArray, .bool c].toArray)) w :=
  r_lookupK2 hu K hz hx hy h hq (by rw [look_enS]; cases lookS kv q <;> rfl) (by rw [look_enS, ← hc]; cases lookS kv q <;> rfl)
theorem w_mapPutS {n : Nat} {t k el ko : TypeId} {x y z : Operand} {b : Nat} {q u : List UInt8} {kv : Kv} (hu : P.underlying t = some (.map k el)) (K : KeyT P k ko n) (hx : ev e x = .map (some b)) (hy : ev e y = .agg (bs q).toArray) (hz : ev e z = .agg (bs u).toArray) (h : MapS n w b kv) (hq : q.length = n) :
    OpWp P ⟨d, .mapUpdate t x y z, ty, pos, aft, g⟩ e w (fun _ w' => MapS n w' b (putS kv q u) ∧ Chg (blk b) w w') := by
  have := w_mapPutK (d := d) (ty := ty) (pos := pos) (aft := aft) (g := g) hu K hx hy (u := ek u) hz h hq
  rw [put_enS] at this
  exact this
theorem w_mapDelS {n : Nat} {t t2 k el ko : TypeId} {x y : Operand} {b : Nat} {q : List UInt8} {kv : Kv} (hu : P.underlying t = some (.map k el)) (K : KeyT P k ko n) (hx : ev e x = .map (some b)) (hy : ev e y = .agg (bs q).toArray) (h : MapS n w b kv) (hq : q.length = n) :
    OpWp P ⟨d, .call ⟨.builtin .delete, #[x, y], #[t, t2]⟩, ty, pos, aft, g⟩ e w (fun _ w' => MapS n w' b (delS kv q) ∧ Chg (blk b) w w') := by
  have := w_mapDelK (d := d) (ty := ty) (pos := pos) (aft := aft) (g := g) (t2 := t2) hu K hx hy h hq
  rw [del_enS] at this
  exact this
/- ### the round over a map -/
def decO : Value → List UInt8
  | .agg a => a.toList.map fun
    | .int _ x => UInt8.ofNat x.toNat
    | _ => 0
  | _ => []
theorem dec_ek (l : List UInt8) : decO (ek l) = l := by
  simp only [decO, bs, List.map_map]
  induction l with
  | nil => rfl
  | cons x l ih =>
    rw [List.map_cons, ih]
    congr 1
    simp
def ItS (n : Nat) (w : World) (r b : Nat) (kv : Kv) (D : List (List UInt8)) (last : Option (List UInt8)) : Prop :=
  MapS n w b kv ∧ ∃ a clock since seen c0, w.heap[b]? = some (.map a clock) ∧ w.heap[r]? = some (.mapIter (some b) since seen c0) ∧ a.toList.map (fun x => (x.key, x.val)) = (enS kv).map (fun p => (ek p.1, p.2)) ∧
    (∀ x ∈ a.toList, x.born < since) ∧ since ≤ c0 ∧ since ≤ clock ∧ (a.toList.map (·.born)).Nodup ∧ (D.map ek ++ (leftOf a seen).toList.map (·.key)).Perm (a.toList.map (·.key)) ∧
    (∀ k, last = some k → ∃ x ∈ a.toList, ∃ s0 : Array Nat, seen = s0.push x.born ∧ x.key = ek k ∧ c0 = clock)
theorem keys_of {a : Array MapEntry} {kv : Kv} (h : a.toList.map (fun x => (x.key, x.val)) = (enS kv).map (fun p => (ek p.1, p.2))) : a.toList.map (·.key) = (kv.map (·.1)).map ek := by
  have := congrArg (List.map Prod.fst) h
  simpa [enS, List.map_map, Function.comp_def] using this
theorem ItS.kept {n r b : Nat} {kv : Kv} {D : List (List UInt8)} {last : Option (List UInt8)} {M : Nat → Nat → Prop} {w' : World} (h : ItS n w r b kv D last) (k : Chg M w w') (hm : ∀ o, ¬ M b o) (hm2 : ∀ o, ¬ M r o) : ItS n w' r b kv D last := by
  obtain ⟨h0, a, clock, since, seen, c0, h1, h2, h3⟩ := h
  exact ⟨h0.kept k hm, a, clock, since, seen, c0, by rw [k.obj b (Array.getElem?_eq_some_iff.1 h1).1 hm]; exact h1, by rw [k.obj r (Array.getElem?_eq_some_iff.1 h2).1 hm2]; exact h2, h3⟩
theorem ItS.k {n r b : Nat} {kv : Kv} {D : List (List UInt8)} {last : Option (List UInt8)} {w' : World} (h : ItS n w r b kv D last) (k : Kept w w') : ItS n w' r b kv D last := h.kept k (fun _ => id) fun _ => id
theorem ItS.kb {n r b b2 o2 m : Nat} {kv : Kv} {D : List (List UInt8)} {last : Option (List UInt8)} {w' : World} (h : ItS n w r b kv D last) (k : Chg (rng b2 o2 m) w w') (hb : b < b2 ∧ r < b2) : ItS n w' r b kv D last := h.kept k (fun _ m => by have := m.1; omega) fun _ m => by have := m.1; omega
theorem ItS.kob {n r b : Nat} {v : Value} {kv : Kv} {D : List (List UInt8)} {last : Option (List UInt8)} {w' : World} (h : ItS n w r b kv D last) (k : Chg (ob v) w w') (hb : some b ≠ v.ownBlock) (hb2 : some r ≠ v.ownBlock) : ItS n w' r b kv D last := h.kept k (fun _ m => hb m) fun _ m => hb2 m
theorem w_rangeS {n : Nat} {t k el : TypeId} {x : Operand} {b : Nat} {kv : Kv} (hu : P.underlying t = some (.map k el)) (hx : ev e x = .map (some b)) (h : MapS n w b kv) :
    OpWp P ⟨d, .range t x, ty, pos, aft, g⟩ e w (fun v w' => ∃ r, v = .pointer (some ⟨r, 0, none⟩) ∧ w.heap.size ≤ r ∧ r < w'.heap.size ∧ ItS n w' r b kv [] none ∧ Kept w w') := by
  have h' := h
  obtain ⟨a, clock, h1, h2, h5, h6, h7⟩ := h'
  have hr : (execOp (ev e) ⟨d, .range t x, ty, pos, aft, g⟩).run P w = .ok (.value (.pointer (some ⟨w.heap.size, 0, none⟩))) (w.alloc (.mapIter (some b) clock #[] clock)) := by
    simp only [execOp, hx, Sem.run_bind, run_range_map w t k el b a clock hu h1, Result.andThen_ok, Sem.run_pure]
  unfold OpWp
  rw [hr]
  have hk := chg_alloc w (.mapIter (some b) clock #[] clock)
  refine ⟨_, rfl, Nat.le_refl _, by simp, ⟨h.k hk, a, clock, clock, #[], clock, ?_, heap_alloc_new w _, h2, h6, Nat.le_refl _, Nat.le_refl _, h7, ?_, fun _ hh => by cases hh⟩, hk⟩
  · rw [hk.obj b (Array.getElem?_eq_some_iff.1 h1).1 fun _ => id]; exact h1
  · have : leftOf a #[] = a := by
      unfold leftOf
      exact Array.filter_eq_self.2 fun x _ => by simp
    rw [this]; exact List.Perm.refl _
theorem left_push {L : List MapEntry} {x : MapEntry} (hx : x ∈ L) (hn : (L.map (·.born)).Nodup) : (x :: L.filter fun y => !(y.born == x.born)).Perm L := by
  induction L with
  | nil => cases hx
  | cons y L ih =>
    rw [List.map_cons, List.nodup_cons] at hn
    rcases List.mem_cons.1 hx with rfl | hx
    · rw [List.filter_cons_of_neg (by simp), List.filter_eq_self.2]
      intro z hz
      have : z.born ≠ x.born := fun h => hn.1 (h ▸ List.mem_map.2 ⟨z, hz, rfl⟩)
      simpa using this
    · have : y.born ≠ x.born := fun h => hn.1 (h ▸ List.mem_map.2 ⟨x, hx, rfl⟩)
      rw [List.filter_cons_of_pos (by simpa using this)]
      exact (List.Perm.swap y x _).trans ((ih hx hn.2).cons y)
theorem leftOf_push (a : Array MapEntry) (seen : Array Nat) (m : Nat) : (leftOf a (seen.push m)).toList = (leftOf a seen).toList.filter fun y => !(y.born == m) := by
  unfold leftOf
  rw [Array.toList_filter, Array.toList_filter, List.filter_filter]
  congr 1
  funext y
  have hc : (seen.push m).contains y.born = (seen.contains y.born || (y.born == m)) := by
    by_cases hq : y.born = m
    · simp [hq]
    · simp [hq]
  rw [hc, Bool.not_or, Bool.and_comm]
theorem it_len {kv : Kv} {D : List (List UInt8)} {a : Array MapEntry} {seen : Array Nat} (h2 : a.toList.map (fun x => (x.key, x.val)) = (enS kv).map (fun p => (ek p.1, p.2))) (hp : (D.map ek ++ (leftOf a seen).toList.map (·.key)).Perm (a.toList.map (·.key))) : D.length + (leftOf a seen).size = kv.length := by
  have h := hp.length_eq
  rw [keys_of h2] at h
  simpa using h
theorem w_nextS {n r b : Nat} {x : Operand} {kv : Kv} {D : List (List UInt8)} {last : Option (List UInt8)} (hx : ev e x = .pointer (some ⟨r, 0, none⟩)) (h : ItS n w r b kv D last) (hD : D.length < kv.length) :
    OpWp P ⟨d, .next x false, ty, pos, aft, g⟩ e w (fun v w' => ∃ k u, v = .tuple [.bool true, .agg (bs k).toArray, u].toArray ∧ k.length = n ∧ ItS n w' r b kv (D ++ [k]) (some k) ∧ Chg (blk r) w w') := by
  obtain ⟨h0, a, clock, since, seen, c0, h1, h2, h3, h4, h5, h6, h7, h8, _⟩ := h
  have hl := it_len h3 h8
  rcases run_next_at (P := P) w ty r b since c0 seen a clock h2 h1 h4 h5 with ⟨h9, _⟩ | ⟨x', hx', w1, hw1, hr⟩
  · omega
  have hxa : x' ∈ a.toList := (mem_left hx').1
  have hkey : x'.key ∈ (kv.map (·.1)).map ek := by rw [← keys_of h3]; exact List.mem_map.2 ⟨x', hxa, rfl⟩
  obtain ⟨k, hk1, hk2⟩ := List.mem_map.1 hkey
  obtain ⟨p, hp1, hp2⟩ := List.mem_map.1 hk1
  have hrun : (execOp (ev e) ⟨d, .next x false, ty, pos, aft, g⟩).run P w = .ok (.value (.tuple #[.bool true, x'.key, x'.val])) (Go.ChangeMaps.setBlock w1 r (.mapIter (some b) since (seen.push x'.born) clock)) := by
    simp only [execOp, hx, Sem.run_bind, hr, Result.andThen_ok, Sem.run_pure]
  have hheap : w1.heap = w.heap := by rcases hw1 with rfl | rfl <;> rfl
  have hrl : r < w.heap.size := (Array.getElem?_eq_some_iff.1 h2).1
  have hne : b ≠ r := fun hh => by rw [hh, h2] at h1; cases h1
  have hset : ∀ b', b' ≠ r → (Go.ChangeMaps.setBlock w1 r (.mapIter (some b) since (seen.push x'.born) clock)).heap[b']? = w.heap[b']? := fun b' hb => by
    simp only [Go.ChangeMaps.setBlock, hheap]
    rw [Array.getElem?_setIfInBounds_ne (fun h => hb h.symm)]
  have hchg : Chg (blk r) w (Go.ChangeMaps.setBlock w1 r (.mapIter (some b) since (seen.push x'.born) clock)) := by
    refine ⟨?_, ?_, ?_, ?_, fun b' o _ hm => World.cell?_of_block (w := w) (hset b' hm), fun b' o _ hm => World.frozen?_of_block (w := w) (hset b' hm), fun b' _ hm => hset b' (hm 0)⟩
    · rcases hw1 with rfl | rfl <;> rfl
    · rcases hw1 with rfl | rfl <;> rfl
    · rcases hw1 with rfl | rfl <;> rfl
    · simp [Go.ChangeMaps.setBlock, hheap]
  unfold OpWp
  rw [hrun]
  refine ⟨k, x'.val, by rw [← hk2], ?_, ⟨h0.kept hchg fun _ hm => hne hm, a, clock, since, seen.push x'.born, clock, ?_, ?_, h3, h4, h6, h6, h7, ?_, ?_⟩, hchg⟩
  · rw [← hp2]; exact h0.klen p hp1
  · rw [hset b hne]; exact h1
  · simp only [Go.ChangeMaps.setBlock, hheap]
    rw [Array.getElem?_setIfInBounds_self_of_lt hrl]
  · refine List.Perm.trans ?_ h8
    rw [leftOf_push, List.map_append, List.append_assoc]
    refine List.Perm.append_left _ ?_
    have hpm := (left_push (L := (leftOf a seen).toList) (x := x') hx' ?_).map (·.key)
    · rw [List.map_cons, ← hk2] at hpm
      exact hpm
    · refine List.Nodup.sublist ?_ h7
      refine List.Sublist.map _ ?_
      unfold leftOf
      rw [Array.toList_filter]
      exact List.filter_sublist
  · intro k' hk'
    cases hk'
    exact ⟨x', hxa, seen, rfl, hk2.symm, rfl⟩
theorem r_nextEnd {n r b : Nat} {x : Operand} {kv : Kv} {D : List (List UInt8)} {last : Option (List UInt8)} (hx : ev e x = .pointer (some ⟨r, 0, none⟩)) (h : ItS n w r b kv D last) (hD : ¬ D.length < kv.length) :
    (execOp (ev e) ⟨d, .next x false, ty, pos, aft, g⟩).run P w = .ok (.value (.tuple [.bool false].toArray)) w := by
  obtain ⟨h0, a, clock, since, seen, c0, h1, h2, h3, h4, h5, h6, h7, h8, _⟩ := h
  have hl := it_len h3 h8
  rcases run_next_at (P := P) w ty r b since c0 seen a clock h2 h1 h4 h5 with ⟨_, hr⟩ | ⟨x', hx', _⟩
  · simp only [execOp, hx, Sem.run_bind, hr, Result.andThen_ok, Sem.run_pure]
  · have := List.length_pos_of_mem hx'
    rw [Array.length_toList] at this
    omega
theorem ItS.all {n r b : Nat} {kv : Kv} {D : List (List UInt8)} {last : Option (List UInt8)} (h : ItS n w r b kv D last) (hD : ¬ D.length < kv.length) : D.Perm (kv.map (·.1)) := by
  obtain ⟨h0, a, clock, since, seen, c0, h1, h2, h3, h4, h5, h6, h7, h8, _⟩ := h
  have hl := it_len h3 h8
  have hz : (leftOf a seen).toList = [] := List.eq_nil_of_length_eq_zero (by rw [Array.length_toList]; omega)
  rw [hz, List.map_nil, List.append_nil, keys_of h3] at h8
  have := h8.map decO
  simpa [List.map_map, Function.comp_def, dec_ek] using this
theorem ItS.le {n r b : Nat} {kv : Kv} {D : List (List UInt8)} {last : Option (List UInt8)} (h : ItS n w r b kv D last) : D.length ≤ kv.length := by
  obtain ⟨h0, a, clock, since, seen, c0, h1, h2, h3, h4, h5, h6, h7, h8, _⟩ := h
  have hl := it_len h3 h8
  omega
theorem ItS.map {n r b : Nat} {kv : Kv} {D : List (List UInt8)} {last : Option (List UInt8)} (h : ItS n w r b kv D last) : MapS n w b kv := h.1
theorem ItS.lt {n r b : Nat} {kv : Kv} {D : List (List UInt8)} {last : Option (List UInt8)} (h : ItS n w r b kv D last) : r < w.heap.size ∧ b < w.heap.size ∧ r ≠ b := by
  obtain ⟨h0, a, clock, since, seen, c0, h1, h2, _⟩ := h
  refine ⟨(Array.getElem?_eq_some_iff.1 h2).1, (Array.getElem?_eq_some_iff.1 h1).1, fun hh => ?_⟩
  rw [hh, h1] at h2; cases h2
theorem w_entryS {n r b : Nat} {x : Operand} {kv : Kv} {D : List (List UInt8)} {k : List UInt8} (hx : ev e x = .pointer (some ⟨r, 0, none⟩)) (h : ItS n w r b kv D (some k)) :
    OpWp P ⟨d, .entry x, ty, pos, aft, g⟩ e w (fun v w' => ∃ u, v = .tuple [.agg (bs k).toArray, u].toArray ∧ Kept w w') := by
  obtain ⟨h0, a, clock, since, seen, c0, h1, h2, h3, h4, h5, h6, h7, h8, h9⟩ := h
  obtain ⟨x', hx', s0, rfl, hk, rfl⟩ := h9 k rfl
  have hr := run_entry_at (P := P) w r b since s0 a c0 x' h2 h1 hx' h7
  unfold OpWp
  have hrun : (execOp (ev e) ⟨d, .entry x, ty, pos, aft, g⟩).run P w = .ok (.value (.tuple #[x'.key, x'.val])) w := by
    simp only [execOp, hx, Sem.run_bind, hr, Result.andThen_ok, Sem.run_pure]
  rw [hrun]
  exact ⟨x'.val, by rw [hk], Chg.refl _ _⟩
theorem w_nextS2 {n r b : Nat} {x : Operand} {kv : Kv} {D : List (List UInt8)} {last : Option (List UInt8)} (hx : ev e x = .pointer (some ⟨r, 0, none⟩)) (h : ItS n w r b kv D last) :
    OpWp P ⟨d, .next x false, ty, pos, aft, g⟩ e w (fun v w' => (D.length < kv.length ∧ ∃ k u, v = .tuple [.bool true, .agg (bs k).toArray, u].toArray ∧ k.length = n ∧ ItS n w' r b kv (D ++ [k]) (some k) ∧ Chg (blk r) w w') ∨
      (¬ D.length < kv.length ∧ v = .tuple [.bool false].toArray ∧ Kept w w')) := by
  by_cases hD : D.length < kv.length
  · have h1 := w_nextS (P := P) (d := d) (ty := ty) (pos := pos) (aft := aft) (g := g) hx h hD
    unfold OpWp at h1 ⊢
    revert h1
    split
    · exact fun h1 => .inl ⟨hD, h1⟩
    · exact fun h1 => .inl ⟨hD, h1⟩
    · intro h1; exact h1.mono fun v w' hh => .inl ⟨hD, hh⟩
    · intro h1; exact h1.mono fun v w' hh => .inl ⟨hD, hh⟩
    · exact id
  · have h1 := r_nextEnd (P := P) (d := d) (ty := ty) (pos := pos) (aft := aft) (g := g) hx h hD
    unfold OpWp
    rw [h1]
    exact .inr ⟨hD, rfl, Chg.refl _ _⟩
section
variable {n : Nat} {ops : Array Oper} {k : List Code} {Q : Exit → Env → World → Prop} {M : Nat → Nat → Prop}
theorem go_drawsM {id : Nat} (m : Nat) (p : Plan) (hm : P.follows .mixedOrders = true) (hok : okRegion ops n m p = true)
    (h : ∀ w', Kept w w' → Rg P ops (fun x => Chg M w' x) m p (Go P n k Q) e w') : Go P n (.region id ops true :: k) Q e w :=
  go_draws (fun x => Chg M w.drew x) m p hm hok (Chg.refl _ _) (h _ (Chg.drew _ _))
variable {S : World → Prop} {m i : Nat} {r : Plan} {K : Env → World → Prop} {o : Oper} {v : Value} {w0 : World}
theorem s_takeM (hi : ops[i]? = some o) (hg : o.guard = none) (hv : ∀ x, Chg M w0 x → (execOp (ev e) o).run P x = .ok (.value v) x) (h : Rg P ops (fun x => Chg M w0 x) m r K (updo e o.dst v) w) : Rg P ops (fun x => Chg M w0 x) m (.take i r) K e w :=
  s_take hi hg hv h
theorem s_takeMg (hi : ops[i]? = some o) (hg : wantedE ops e o = true) (hv : ∀ x, Chg M w0 x → (execOp (ev e) o).run P x = .ok (.value v) x) (h : Rg P ops (fun x => Chg M w0 x) m r K (updo e o.dst v) w) : Rg P ops (fun x => Chg M w0 x) m (.take i r) K e w :=
  s_take_g hi hg hv h
theorem s_fxM {KK : Value → World → Prop} (hi : ops[i]? = some o) (hg : o.guard = none) (hop : OpWp P o e w KK) (hk : ∀ v w', KK v w' → Chg M w0 w' ∧ Rg P ops (fun x => Chg M w0 x) m r K (updo e o.dst v) w') : Rg P ops (fun x => Chg M w0 x) m (.eff i r) K e w :=
  s_fx hi hg hop fun v w' h => ⟨fun _ => (hk v w' h).1, (hk v w' h).2⟩
theorem s_fxG {KK : Value → World → Prop} (hi : ops[i]? = some o) (hg : wantedE ops e o = true) (hop : OpWp P o e w KK) (hk : ∀ v w', KK v w' → (i < m → S w') ∧ Rg P ops S m r K (updo e o.dst v) w') : Rg P ops S m (.eff i r) K e w := by
  with_unfolding_all exact ⟨o, hi, by
    rw [if_pos hg]
    unfold OpWp at *
    generalize (execOp (ev e) o).run P w = q at *
    cases q with
    | ok nx w' =>
      cases nx with
      | value v => exact hk _ _ hop
      | skip => exact hk _ _ hop
      | enter f args => exact Rtn.mono hop hk
      | row row args => exact Rows.mono hop hk
      | _ => exact (hop : False).elim
    | halt x w' => exact (hop : False).elim⟩
theorem s_fxMg {KK : Value → World → Prop} (hi : ops[i]? = some o) (hg : wantedE ops e o = true) (hop : OpWp P o e w KK) (hk : ∀ v w', KK v w' → Chg M w0 w' ∧ Rg P ops (fun x => Chg M w0 x) m r K (updo e o.dst v) w') : Rg P ops (fun x => Chg M w0 x) m (.eff i r) K e w :=
  s_fxG hi hg hop fun v w' h => ⟨fun _ => (hk v w' h).1, (hk v w' h).2⟩
theorem s_valM (hi : ops[i]? = some o) (hg : o.guard = none) (hv : (execOp (ev e) o).run P w = .ok (.value v) w) (hS : S w) (h : Rg P ops S m r K (updo e o.dst v) w) : Rg P ops S m (.eff i r) K e w :=
  s_valS hi hg hv hS h
theorem s_valMg (hi : ops[i]? = some o) (hg : wantedE ops e o = true) (hv : (execOp (ev e) o).run P w = .ok (.value v) w) (hS : S w) (h : Rg P ops S m r K (updo e o.dst v) w) : Rg P ops S m (.eff i r) K e w :=
  s_fxG (KK := fun v' w' => v' = v ∧ w' = w) hi hg (by unfold OpWp; rw [hv]; exact ⟨rfl, rfl⟩) fun v' w' ⟨h1, h2⟩ => by subst h1; subst h2; exact ⟨fun _ => hS, h⟩
end
end Go.Eng
