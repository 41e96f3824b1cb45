/- Eng13: a calculus of walks over frames that are read as functions, for the program's code as the model has it: proved for every program. -/
import Derived.Test.YtdnccchcflaphaaEng12
import Derived.Maps.RangeRun
import Derived.DeepKeys3
import Derived.Lib.Bytealg
import Derived.ChangeSlices
open Go Go.Eng
namespace Go.Eng
variable {P : Program} {w : World} {e : Env} {d : Option Nat} {ty : TypeId} {pos : String} {aft : Array Edge} {g : Option (Nat × Bool)}
/- ### maps with arrays of octets for keys -/
abbrev ek (l : List UInt8) : Value := .agg (bs l).toArray
/-- k is the type of arrays of n octets -/
structure KeyT (P : Program) (k el : TypeId) (n : Nat) : Prop where
  arr : P.underlying k = some (.array n el)
  u8 : P.underlying el = some (.int .u8)
  sz : ∀ w, (sizeOf el).run P w = .ok 1 w
  cells : P.cellsOf k = n
  cell1 : P.cellsOf el = 1
  two : P.keyTypeAt 2 k = true
theorem keyLits_octs {k el : TypeId} {n : Nat} (K : KeyT P k el n) {l : List UInt8} (hl : l.length = n) : ∃ la, P.keyLits 2 k (bs l) = some la := by
  have h1 : ∀ i, i < n → P.keyLits 1 el (((bs l).drop (i * 1)).take 1) = some [Lit.int .u8 ((l.getD i 0).toNat : Int)] := fun i hi => by
    have hg := bs_get (l := l) (k := i) (by omega)
    have hc : ((bs l).drop (i * 1)).take 1 = [Go.Eng.u8 (l.getD i 0)] := by
      rw [Nat.mul_one]
      have hlt : i < (bs l).length := by rw [bs_length]; omega
      rw [List.drop_eq_getElem_cons hlt, List.take_succ_cons, List.take_zero]
      rw [List.getElem?_eq_getElem hlt] at hg
      rw [Option.some.inj hg]
    have hw : ∀ x : UInt8, (Lit.int .u8 (x.toNat : Int)).wf = true := fun x => by
      have := x.toNat_lt
      simp [Lit.wf, IntKind.min, IntKind.max, IntKind.signed, IntKind.bits]; omega
    rw [hc]
    unfold Program.keyLits
    rw [K.u8]
    show (if IntKind.u8 = IntKind.u8 ∧ _ then _ else _) = _
    rw [if_pos ⟨rfl, hw _⟩]
  unfold Program.keyLits
  simp only [K.arr]
  rw [if_pos (by rw [bs_length, K.cells, hl]), K.cell1, ChangeShapes.mapM_range_of n h1]
  exact ⟨_, rfl⟩
theorem run_check_octs {k el : TypeId} {n : Nat} (K : KeyT P k el n) {l : List UInt8} (hl : l.length = n) (em : Bool) : (Instr.checkKey em 10000 k (ek l)).run P w = .ok () w := by
  obtain ⟨la, h⟩ := keyLits_octs K hl
  exact run_checkKey_deep em 9998 2 k K.two w 2 (ek l) la (by simp [Value.formed, K.arr, K.cells, bs_length, hl]) (by simpa [Value.cells] using h)
theorem run_equal_octs {k el : TypeId} {n : Nat} (K : KeyT P k el n) {l m : List UInt8} (hl : l.length = n) (hm : m.length = n) : (Op.equal k (ek l) (ek m)).run P w = .ok (l == m) w :=
  run_equalIn_bytes (P := P) w 9998 k el n K.arr K.u8 K.sz l m hl hm
theorem run_stays_octs {l : List UInt8} : (Instr.keyThatStays (ek l) (ek l)).run P w = .ok (ek l) w := by
  have h : Instr.sameBits 10000 (ek l) (ek l) = true := by
    rw [show (10000 : Nat) = 9999 + 1 from rfl, Instr.sameBits]
    simp only [beq_self_eq_true, Bool.true_and, List.all_eq_true]
    intro x hx
    have : ∀ (a : List UInt8), ∀ x ∈ (bs a).zip (bs a), Instr.sameBits 9999 x.1 x.2 = true := by
      intro a
      induction a with
      | nil => intro x hx; cases hx
      | cons b a ih =>
        intro x hx
        rcases List.mem_cons.1 hx with rfl | hx
        · simp [Instr.sameBits, Go.Eng.u8]
        · exact ih x hx
    exact this l x (by simpa using hx)
  unfold Instr.keyThatStays
  rw [if_pos h]; rfl
def lookK : List (List UInt8 × Value) → List UInt8 → Option Value
  | [], _ => none
  | (k', v) :: es, k => if k' = k then some v else lookK es k
def putK : List (List UInt8 × Value) → List UInt8 → Value → List (List UInt8 × Value)
  | [], k, v => [(k, v)]
  | (k', v') :: es, k, v => if k' = k then (k, v) :: es else (k', v') :: putK es k v
def delK : List (List UInt8 × Value) → List UInt8 → List (List UInt8 × Value)
  | [], _ => []
  | (k', v') :: es, k => if k' = k then es else (k', v') :: delK es k
/-- the map in block b has the entries es; n: the length of its keys -/
def MapK (n : Nat) (w : World) (b : Nat) (es : List (List UInt8 × Value)) : Prop :=
  ∃ a clock, w.heap[b]? = some (.map a clock) ∧ a.toList.map (fun x => (x.key, x.val)) = es.map (fun p => (ek p.1, p.2)) ∧ (∀ p ∈ es, p.1.length = n) ∧ (∀ x ∈ a.toList, x.born < clock) ∧ (a.toList.map (·.born)).Nodup
theorem find_k {k el : TypeId} {n : Nat} (K : KeyT P k el n) (q : List UInt8) (hq : q.length = n) (v : Value) : ∀ (l : List MapEntry) (es : List (List UInt8 × Value)) (i : Nat), l.map (fun x => (x.key, x.val)) = es.map (fun p => (ek p.1, p.2)) → (∀ p ∈ es, p.1.length = n) →
    (lookK es q = none ∧ (∀ w, (Instr.findAsking k (ek q) l i).run P w = .ok none w) ∧ putK es q v = es ++ [(q, v)] ∧ delK es q = es) ∨
    (∃ j v0 e0, lookK es q = some v0 ∧ (∀ w, (Instr.findAsking k (ek q) l i).run P w = .ok (some (i + j, v0)) w) ∧ l[j]? = some e0 ∧ e0.key = ek q ∧ (∀ f : MapEntry → MapEntry, (∀ x, (f x).key = ek q ∧ (f x).val = v) → (l.modify j f).map (fun x => (x.key, x.val)) = (putK es q v).map (fun p => (ek p.1, p.2))) ∧
      (l.eraseIdx j).map (fun x => (x.key, x.val)) = (delK es q).map (fun p => (ek p.1, p.2))) := by
  intro l
  induction l with
  | nil =>
    intro es i h _
    cases es with
    | nil => exact .inl ⟨rfl, fun _ => rfl, rfl, rfl⟩
    | cons p es => simp at h
  | cons x l ih =>
    intro es i h hn
    cases es with
    | nil => simp at h
    | cons p es =>
      obtain ⟨k', v'⟩ := p
      simp only [List.map_cons, List.cons.injEq, Prod.mk.injEq] at h
      obtain ⟨⟨hk, hv⟩, h⟩ := h
      have hk' : k'.length = n := hn (k', v') (by simp)
      have he : ∀ w, (Op.equal k (ek q) x.key).run P w = .ok (q == k') w := fun w => by rw [hk]; exact run_equal_octs K hq hk'
      by_cases hkk : k' = q
      · subst hkk
        refine .inr ⟨0, v', x, by simp [lookK], fun w => ?_, rfl, hk, fun f hf => ?_, ?_⟩
        · simp [Instr.findAsking, Sem.run_bind, he, hv]
        · simp [putK, List.modify, hf x, h]
        · simp [delK, h]
      · have hne : (q == k') = false := by simp; exact fun h => hkk h.symm
        rcases ih es (i + 1) h (fun p hp => hn p (by simp [hp])) with ⟨h1, h2, h3, h4⟩ | ⟨j, v0, e0, h1, h2, h3, h4, h5, h6⟩
        · refine .inl ⟨by simp [lookK, hkk, h1], fun w => ?_, by simp [putK, hkk, h3], by simp [delK, hkk, h4]⟩
          simp [Instr.findAsking, Sem.run_bind, he, hne, h2]
        · refine .inr ⟨j + 1, v0, e0, by simp [lookK, hkk, h1], fun w => ?_, by simpa using h3, h4, fun f hf => ?_, ?_⟩
          · simp [Instr.findAsking, Sem.run_bind, he, hne, h2]; omega
          · have := h5 f hf
            simp [putK, hkk, hk, hv, this]
          · simp [delK, hkk, hk, hv, h6]
theorem run_findK {k el : TypeId} {n : Nat} (K : KeyT P k el n) {q : Value} {l : List MapEntry} {r : Option (Nat × Value)} (h : ∀ w, (Instr.findAsking k q l 0).run P w = .ok r w) : (Instr.findKey k q l).run P w = .ok r w := by
  rw [run_findKey_eq w (by rw [K.arr])]; exact h w
theorem MapK.kept {n : Nat} {M : Nat → Nat → Prop} {w' : World} {b : Nat} {es : List (List UInt8 × Value)} (h : MapK n w b es) (k : Chg M w w') (hm : ∀ o, ¬ M b o) : MapK n w' b es := by
  obtain ⟨a, c, h1, h2⟩ := h
  exact ⟨a, c, by rw [k.obj b (Array.getElem?_eq_some_iff.1 h1).1 hm]; exact h1, h2⟩
theorem MapK.k {n : Nat} {w' : World} {b : Nat} {es : List (List UInt8 × Value)} (h : MapK n w b es) (k : Kept w w') : MapK n w' b es := h.kept k fun _ => id
theorem MapK.kb {n : Nat} {w' : World} {b b2 o2 m : Nat} {es : List (List UInt8 × Value)} (h : MapK n w b es) (k : Chg (rng b2 o2 m) w w') (hb : b ≠ b2) : MapK n w' b es := h.kept k fun _ m => hb m.1
theorem MapK.kB {n : Nat} {w' : World} {b b2 : Nat} {es : List (List UInt8 × Value)} (h : MapK n w b es) (k : Chg (blk b2) w w') (hb : b ≠ b2) : MapK n w' b es := h.kept k fun _ m => hb m
theorem MapK.kob {n : Nat} {w' : World} {b : Nat} {v : Value} {es : List (List UInt8 × Value)} (h : MapK n w b es) (k : Chg (ob v) w w') (hb : some b ≠ v.ownBlock) : MapK n w' b es := h.kept k fun _ m => hb m
theorem MapK.lt {n : Nat} {b : Nat} {es : List (List UInt8 × Value)} (h : MapK n w b es) : b < w.heap.size := by
  obtain ⟨a, c, h1, _⟩ := h
  exact (Array.getElem?_eq_some_iff.1 h1).1
theorem w_makeMapK (n : Nat) {t : TypeId} : OpWp P ⟨d, .makeMap t none, ty, pos, aft, g⟩ e w (fun v w' => ∃ b, v = .map (some b) ∧ w.heap.size ≤ b ∧ b < w'.heap.size ∧ MapK n w' b [] ∧ Kept w w') := by
  unfold OpWp
  have : (execOp (ev e) ⟨d, .makeMap t none, ty, pos, aft, g⟩).run P w = .ok (.value (.map (some w.heap.size))) (w.alloc (.map #[] 0)) := by
    simp [execOp, Instr.makeMap, Sem.run_bind, Sem.run_pure]
  rw [this]
  exact ⟨_, rfl, Nat.le_refl _, by simp, ⟨#[], 0, heap_alloc_new w _, rfl, fun _ h => (by cases h), fun _ h => (by simp at h), by simp⟩, chg_alloc _ _⟩
theorem r_lenMapK {n : Nat} {t k el : TypeId} {x : Operand} {b : Nat} {es : List (List UInt8 × Value)} (hu : ∀ w, (underlying t).run P w = .ok (.map k el) w) (hx : ev e x = .map (some b)) (h : MapK n w b es) :
    (execOp (ev e) ⟨d, .call ⟨.builtin .len, #[x], #[t]⟩, ty, pos, aft, g⟩).run P w = .ok (.value (i64 (es.length : Nat))) w := by
  obtain ⟨a, c, h1, h2, _⟩ := h
  have hl : a.size = es.length := by have := congrArg List.length h2; simpa using this
  have hg : (getObj b).run P w = .ok (.map a c) w := by simp [getObj, Sem.run, h1]
  simp [execOp, resolve, invoke, builtin, Builtin.len_, hx, Sem.run_bind, hu, goInt, hg, hl, i64]
theorem run_lookup_k {n : Nat} {t k el ko : TypeId} {b : Nat} {q : List UInt8} {es : List (List UInt8 × Value)} {z : Value} (cok : Bool) (hu : P.underlying t = some (.map k el)) (K : KeyT P k ko n) (hz : ∀ w, (zeroValue el).run P w = .ok z w) (h : MapK n w b es) (hq : q.length = n) :
    (Instr.lookup t (.map (some b)) (ek q) cok).run P w = .ok (if cok then .tuple #[(lookK es q).getD z, .bool (lookK es q).isSome] else (lookK es q).getD z) w := by
  obtain ⟨a, c, h1, h2, h5, _⟩ := h
  have hg : (getObj b).run P w = .ok (.map a c) w := by simp [getObj, Sem.run, h1]
  have hck : ∀ em, (Instr.checkKey em 10000 k (ek q)).run P w = .ok () w := fun em => run_check_octs K hq em
  rcases find_k K q hq z a.toList es 0 h2 h5 with ⟨h3, h4, _⟩ | ⟨j, v0, e0, h3, h4, _⟩
  · have hf : (Instr.findKey k (ek q) a.toList).run P w = .ok none w := run_findK K h4
    cases cok <;> simp [Instr.lookup, Sem.run_bind, run_underlying hu, hg, hck, hf, h3, hz, Sem.run_pure]
  · have hf : (Instr.findKey k (ek q) a.toList).run P w = .ok (some (0 + j, v0)) w := run_findK K h4
    cases cok <;> simp [Instr.lookup, Sem.run_bind, run_underlying hu, hg, hck, hf, h3, hz, Sem.run_pure]
theorem r_lookupK {n : Nat} {t k el ko : TypeId} {x y : Operand} {b : Nat} {q : List UInt8} {es : List (List UInt8 × Value)} {z v : Value} (hu : P.underlying t = some (.map k el)) (K : KeyT P k ko n) (hz : ∀ w, (zeroValue el).run P w = .ok z w) (hx : ev e x = .map (some b)) (hy : ev e y = ek q) (h : MapK n w b es) (hq : q.length = n) (hv : (lookK es q).getD z = v) :
    (execOp (ev e) ⟨d, .lookup t x y false, ty, pos, aft, g⟩).run P w = .ok (.value v) w := by
  simp only [execOp, hx, hy, Sem.run_bind, run_lookup_k false hu K hz h hq, Result.andThen_ok, Sem.run_pure, hv]
  rfl
theorem r_lookupK2 {n : Nat} {t k el ko : TypeId} {x y : Operand} {b : Nat} {q : List UInt8} {es : List (List UInt8 × Value)} {z v : Value} {c : Bool} (hu : P.underlying t = some (.map k el)) (K : KeyT P k ko n) (hz : ∀ w, (zeroValue el).run P w = .ok z w) (hx : ev e x = .map (some b)) (hy : ev e y = ek q) (h : MapK n w b es) (hq : q.length = n) (hv : (lookK es q).getD z = v) (hc : (lookK es q).isSome = c) :
    (execOp (ev e) ⟨d, .lookup t x y true, ty, pos, aft, g⟩).run P w = .ok (.value (.tuple [v, .bool c].toArray)) w := by
  simp only [execOp, hx, hy, Sem.run_bind, run_lookup_k true hu K hz h hq, Result.andThen_ok, Sem.run_pure, hv, hc]
  rfl
theorem putK_len {n : Nat} {es : List (List UInt8 × Value)} (h : ∀ p ∈ es, p.1.length = n) {q : List UInt8} (hq : q.length = n) (v : Value) : ∀ p ∈ putK es q v, p.1.length = n := by
  induction es with
  | nil => intro p hp; simp [putK] at hp; subst hp; exact hq
  | cons x es ih =>
    intro p hp
    obtain ⟨k', v'⟩ := x
    unfold putK at hp
    split at hp
    · rcases List.mem_cons.1 hp with rfl | hp
      · exact hq
      · exact h p (by simp [hp])
    · rcases List.mem_cons.1 hp with rfl | hp
      · exact h (k', v') (by simp)
      · exact ih (fun p hp => h p (by simp [hp])) p hp
theorem delK_mem {es : List (List UInt8 × Value)} {q : List UInt8} : ∀ p ∈ delK es q, p ∈ es := by
  induction es with
  | nil => intro p hp; cases hp
  | cons x es ih =>
    intro p hp
    obtain ⟨k', v'⟩ := x
    unfold delK at hp
    split at hp
    · simp [hp]
    · rcases List.mem_cons.1 hp with rfl | hp
      · simp
      · simp [ih p hp]
theorem setMap_chg {b : Nat} {a a' : Array MapEntry} {c c' : Nat} (h1 : w.heap[b]? = some (.map a c)) : Chg (blk b) w { w with heap := w.heap.setIfInBounds b (.map a' c') } := by
  have hne : ∀ b', b' ≠ b → (w.heap.setIfInBounds b (.map a' c'))[b']? = w.heap[b']? := fun b' hb => by
    rw [Array.getElem?_setIfInBounds_ne (fun h => hb h.symm)]
  exact ⟨rfl, rfl, rfl, by simp, fun b' o _ hm => World.cell?_of_block (w := w) (hne b' hm), fun b' o _ hm => World.frozen?_of_block (w := w) (hne b' hm), fun b' _ hm => hne b' (hm 0)⟩
theorem w_mapPutK {n : Nat} {t k el ko : TypeId} {x y z : Operand} {b : Nat} {q : List UInt8} {u : Value} {es : List (List UInt8 × Value)} (hu : P.underlying t = some (.map k el)) (K : KeyT P k ko n) (hx : ev e x = .map (some b)) (hy : ev e y = ek q) (hz : ev e z = u) (h : MapK n w b es) (hq : q.length = n) :
    OpWp P ⟨d, .mapUpdate t x y z, ty, pos, aft, g⟩ e w (fun _ w' => MapK n w' b (putK es q u) ∧ Chg (blk b) w w') := by
  obtain ⟨a, c, h1, h2, h5, h6, h7⟩ := h
  have hlt : b < w.heap.size := (Array.getElem?_eq_some_iff.1 h1).1
  have hg : (getObj b).run P w = .ok (.map a c) w := by simp [getObj, Sem.run, h1]
  have hck : ∀ em, (Instr.checkKey em 10000 k (ek q)).run P w = .ok () w := fun em => run_check_octs K hq em
  have fin : ∀ (a' : Array MapEntry) (c' : Nat), a'.toList.map (fun x => (x.key, x.val)) = (putK es q u).map (fun p => (ek p.1, p.2)) → (∀ x ∈ a'.toList, x.born < c') → (a'.toList.map (·.born)).Nodup → (Instr.mapUpdate t (.map (some b)) (ek q) u).run P w = .ok () { w with heap := w.heap.setIfInBounds b (.map a' c') } →
      OpWp P ⟨d, .mapUpdate t x y z, ty, pos, aft, g⟩ e w (fun _ w' => MapK n w' b (putK es q u) ∧ Chg (blk b) w w') := by
    intro a' c' ha hb1 hb2 hr
    unfold OpWp
    have hx' : (execOp (ev e) ⟨d, .mapUpdate t x y z, ty, pos, aft, g⟩).run P w = .ok .skip { w with heap := w.heap.setIfInBounds b (.map a' c') } := by
      simp only [execOp, hx, hy, hz, Sem.run_bind, hr, Result.andThen_ok, Sem.run_pure]
    rw [hx']
    refine ⟨⟨a', c', ?_, ha, putK_len h5 hq u, hb1, hb2⟩, setMap_chg h1⟩
    show (w.heap.setIfInBounds b (.map a' c'))[b]? = _
    rw [Array.getElem?_setIfInBounds_self_of_lt hlt]
  rcases find_k K q hq u a.toList es 0 h2 h5 with ⟨h3, h4, h8, _⟩ | ⟨j, v0, e0, h3, h4, h8, h9, h10, _⟩
  · have hf : (Instr.findKey k (ek q) a.toList).run P w = .ok none w := run_findK K h4
    refine fin (a.push { key := ek q, val := u, born := c }) (c + 1) ?_ ?_ ?_ ?_
    · rw [h8]; simp [h2]
    · intro x hx
      simp only [Array.toList_push, List.mem_append, List.mem_singleton] at hx
      rcases hx with hx | rfl
      · have := h6 x hx; omega
      · exact Nat.lt_succ_self _
    · simp only [Array.toList_push, List.map_append, List.map_cons, List.map_nil]
      refine List.nodup_append.2 ⟨h7, by simp, fun x hx y hy => ?_⟩
      obtain ⟨z, hz, rfl⟩ := List.mem_map.1 hx
      have := h6 z hz
      simp at hy
      omega
    · simp only [Instr.mapUpdate, Sem.run_bind, run_underlying hu, Result.andThen_ok, hg, hck, hf, MapKept.run_setObj_map _ h1]
  · have hf : (Instr.findKey k (ek q) a.toList).run P w = .ok (some (0 + j, v0)) w := run_findK K h4
    have hgd : ((a[0 + j]?).map (·.key)).getD (ek q) = ek q := by
      rw [Nat.zero_add, ← Array.getElem?_toList, h8]; exact h9
    have hborn : (a.modify (0 + j) fun x => { x with key := ek q, val := u }).toList.map (·.born) = a.toList.map (·.born) := by
      rw [Array.toList_modify]
      apply List.ext_getElem?
      intro i
      simp only [List.getElem?_map, List.getElem?_modify]
      cases a.toList[i]? with
      | none => rfl
      | some y => simp only [Option.map_some, Option.map_eq_map]; split <;> rfl
    refine fin (a.modify (0 + j) fun x => { x with key := ek q, val := u }) c ?_ ?_ ?_ ?_
    · rw [Array.toList_modify, Nat.zero_add]; exact h10 _ fun x => ⟨rfl, rfl⟩
    · intro x hx
      have hm : x.born ∈ a.toList.map (·.born) := by rw [← hborn]; exact List.mem_map.2 ⟨x, hx, rfl⟩
      obtain ⟨y, hy, he⟩ := List.mem_map.1 hm
      rw [← he]; exact h6 y hy
    · rw [hborn]; exact h7
    · simp only [Instr.mapUpdate, Sem.run_bind, run_underlying hu, Result.andThen_ok, hg, hck, hf, hgd, run_stays_octs, MapKept.run_setObj_map _ h1]
theorem w_mapDelK {n : Nat} {t t2 k el ko : TypeId} {x y : Operand} {b : Nat} {q : List UInt8} {es : List (List UInt8 × Value)} (hu : P.underlying t = some (.map k el)) (K : KeyT P k ko n) (hx : ev e x = .map (some b)) (hy : ev e y = ek q) (h : MapK n w b es) (hq : q.length = n) :
    OpWp P ⟨d, .call ⟨.builtin .delete, #[x, y], #[t, t2]⟩, ty, pos, aft, g⟩ e w (fun _ w' => MapK n w' b (delK es q) ∧ Chg (blk b) w w') := by
  obtain ⟨a, c, h1, h2, h5, h6, h7⟩ := h
  have hlt : b < w.heap.size := (Array.getElem?_eq_some_iff.1 h1).1
  have hg : (getObj b).run P w = .ok (.map a c) w := by simp [getObj, Sem.run, h1]
  have hck : ∀ em, (Instr.checkKey em 10000 k (ek q)).run P w = .ok () w := fun em => run_check_octs K hq em
  have fin : ∀ (a' : Array MapEntry), a'.toList.map (fun x => (x.key, x.val)) = (delK es q).map (fun p => (ek p.1, p.2)) → (∀ x ∈ a'.toList, x ∈ a.toList) → (a'.toList.map (·.born)).Nodup → (Builtin.delete_ #[t, t2] ty #[.map (some b), ek q]).run P w = .ok (.tuple #[]) { w with heap := w.heap.setIfInBounds b (.map a' c) } →
      OpWp P ⟨d, .call ⟨.builtin .delete, #[x, y], #[t, t2]⟩, ty, pos, aft, g⟩ e w (fun _ w' => MapK n w' b (delK es q) ∧ Chg (blk b) w w') := by
    intro a' ha hb1 hb2 hr
    unfold OpWp
    have hx' : (execOp (ev e) ⟨d, .call ⟨.builtin .delete, #[x, y], #[t, t2]⟩, ty, pos, aft, g⟩).run P w = .ok (.value (.tuple #[])) { w with heap := w.heap.setIfInBounds b (.map a' c) } := by
      simp only [execOp, resolve, invoke, builtin, Sem.run_bind, Sem.run_pure, Result.andThen_ok, List.map_toArray, List.map_cons, List.map_nil, hx, hy, hr]
    rw [hx']
    refine ⟨⟨a', c, ?_, ha, fun p hp => h5 p (delK_mem p hp), fun x hx => h6 x (hb1 x hx), hb2⟩, setMap_chg h1⟩
    show (w.heap.setIfInBounds b (.map a' c))[b]? = _
    rw [Array.getElem?_setIfInBounds_self_of_lt hlt]
  rcases find_k K q hq (.bool true) a.toList es 0 h2 h5 with ⟨h3, h4, _, h8⟩ | ⟨j, v0, e0, h3, h4, h8, _, _, h10⟩
  · have hf : (Instr.findKey k (ek q) a.toList).run P w = .ok none w := run_findK K h4
    refine fin a ?_ (fun _ h => h) h7 ?_
    · rw [h8]; exact h2
    · simp only [Builtin.delete_, Sem.run_bind, Sem.run_pure, List.getElem?_toArray, List.getElem?_cons_zero, List.getElem?_cons_succ, run_underlying hu, Result.andThen_ok, hg, hck, hf, MapKept.run_setObj_map _ h1]
  · have hf : (Instr.findKey k (ek q) a.toList).run P w = .ok (some (0 + j, v0)) w := run_findK K h4
    have hjl : j < a.size := by have := (List.getElem?_eq_some_iff.1 h8).1; simpa using this
    have hl : (a.eraseIdxIfInBounds (0 + j)).toList = a.toList.eraseIdx j := by
      rw [Nat.zero_add, Array.eraseIdxIfInBounds, dif_pos hjl, Array.toList_eraseIdx]
    refine fin (a.eraseIdxIfInBounds (0 + j)) ?_ ?_ ?_ ?_
    · rw [hl]; exact h10
    · rw [hl]; exact fun x hx => List.mem_of_mem_eraseIdx hx
    · rw [hl]
      refine List.Nodup.sublist ?_ h7
      exact (List.eraseIdx_sublist _ _).map _
    · simp only [Builtin.delete_, Sem.run_bind, Sem.run_pure, List.getElem?_toArray, List.getElem?_cons_zero, List.getElem?_cons_succ, run_underlying hu, Result.andThen_ok, hg, hck, hf, MapKept.run_setObj_map _ h1]
end Go.Eng
