/- Eng11: a calculus of walks over frames that are read as functions, for the program's code as the model has it: proved for every program. -/
import Derived.Test.YtdnccchcflaphaaEng10
import Derived.Laws.IdiomStrings
import Derived.Lib.BufferRead
import Derived.MapKept
open Go Go.Eng
namespace Go.Eng
variable {P : Program} {w : World} {e : Env} {d : Option Nat} {ty : TypeId} {pos : String} {aft : Array Edge} {g : Option (Nat × Bool)}
/-- string(b) -/
theorem r_convStr {src dst el : TypeId} {x : Operand} {a : Option Addr} {n c : Nat} {l : List UInt8} (hs : P.underlying src = some (.slice el)) (he : P.underlying el = some (.int .u8)) (hd : P.underlying dst = some .string)
    (hx : ev e x = .slice a n c) (h : SlAt w a (bs l)) (hn : l.length = n) : (execOp (ev e) ⟨d, .convert src dst x, ty, pos, aft, g⟩).run P w = .ok (.value (.string ⟨l.toArray⟩)) w := by
  subst hn
  have key : (convert src dst (.slice a l.length c)).run P w = .ok (.string ⟨l.toArray⟩) w := by
    cases a with
    | none =>
      have hl : l = [] := by
        rcases h with h | ⟨b, o, h, _⟩
        · have := congrArg List.length h; rw [bs_length] at this; exact List.eq_nil_of_length_eq_zero this
        · cases h
      subst hl
      exact Lib.run_convert_nil_bytes w src dst el c hs he hd
    | some ad =>
      refine run_convert_bytes_back w src dst el ad c l hs he hd fun j hj => ?_
      rcases h with h | ⟨b, o, h, hr⟩
      · have := congrArg List.length h; rw [bs_length] at this; simp at this; subst this; simp at hj
      · cases h
        rw [add_none]
        refine hr j _ ?_
        rw [bs_get hj]
        simp [u8, List.getD_eq_getElem?_getD, hj]
  simp only [execOp, hx, Sem.run_bind, key, Result.andThen_ok, Sem.run_pure]
theorem r_eqStr {t t' : TypeId} {x y : Operand} {l m : List UInt8} (ht : P.underlying t = some .string) (hx : ev e x = .string ⟨l.toArray⟩) (hy : ev e y = .string ⟨m.toArray⟩) :
    (execOp (ev e) ⟨d, .binOp .eql t x y t', ty, pos, aft, g⟩).run P w = .ok (.value (.bool (decide (l = m)))) w := by
  have h1 : (l == m) = decide (l = m) := by
    rw [Bool.eq_iff_iff]; simp
  simp [execOp, hx, hy, eqGuard, binOp, Op.stringOp, Sem.run_pure, h1]
theorem r_min {t t2 : TypeId} {x y : Operand} {a b : Int} (hx : ev e x = i64 a) (hy : ev e y = i64 b) :
    (execOp (ev e) ⟨d, .call ⟨.builtin .min, #[x, y], #[t, t2]⟩, ty, pos, aft, g⟩).run P w = .ok (.value (i64 (min a b))) w := by
  have : (if b < a then b else a) = min a b := by omega
  simp [execOp, resolve, invoke, builtin, hx, hy, i64, Builtin.min_, Builtin.min2, Sem.run_bind, Sem.run_pure, this]
/- ### maps with ints for keys -/
def MapI (w : World) (b : Nat) (es : List (Int × Value)) : Prop := ∃ a clock, w.heap[b]? = some (.map a clock) ∧ a.toList.map (fun x => (x.key, x.val)) = es.map (fun p => (i64 p.1, p.2))
def lookI : List (Int × Value) → Int → Option Value
  | [], _ => none
  | (k', v) :: es, k => if k' = k then some v else lookI es k
def putI : List (Int × Value) → Int → Value → List (Int × Value)
  | [], k, v => [(k, v)]
  | (k', v') :: es, k, v => if k' = k then (k, v) :: es else (k', v') :: putI es k v
theorem find_i (k : Int) (v : Value) : ∀ (l : List MapEntry) (es : List (Int × Value)) (i : Nat), l.map (fun x => (x.key, x.val)) = es.map (fun p => (i64 p.1, p.2)) →
    (lookI es k = none ∧ Instr.findNow (.int .i64) (i64 k) l i = some none ∧ putI es k v = es ++ [(k, v)]) ∨
    (∃ j v0 e0, lookI es k = some v0 ∧ Instr.findNow (.int .i64) (i64 k) l i = some (some (i + j, v0)) ∧ l[j]? = some e0 ∧ e0.key = i64 k ∧ ∀ f : MapEntry → MapEntry, (∀ x, (f x).key = i64 k ∧ (f x).val = v) → (l.modify j f).map (fun x => (x.key, x.val)) = (putI es k v).map (fun p => (i64 p.1, p.2))) := by
  intro l
  induction l with
  | nil =>
    intro es i h
    cases es with
    | nil => exact .inl ⟨rfl, rfl, rfl⟩
    | cons p es => simp at h
  | cons x l ih =>
    intro es i h
    cases es with
    | nil => simp at h
    | cons p es =>
      obtain ⟨k', v'⟩ := p
      simp only [List.map_cons, List.cons.injEq, Prod.mk.injEq] at h
      obtain ⟨⟨hk, hv⟩, h⟩ := h
      by_cases hkk : k' = k
      · subst hkk
        refine .inr ⟨0, v', x, by simp [lookI], ?_, rfl, hk, fun f hf => ?_⟩
        · simp [Instr.findNow, Instr.sameNow, hk, hv, i64]
        · simp [putI, List.modify, hf x, h]
      · have hne : Instr.sameNow (.int .i64) (i64 k) x.key = some false := by
          simp [Instr.sameNow, hk, i64]; omega
        rcases ih es (i + 1) h with ⟨h1, h2, h3⟩ | ⟨j, v0, e0, h1, h2, h3, h4, h5⟩
        · refine .inl ⟨by simp [lookI, hkk, h1], ?_, by simp [putI, hkk, h3]⟩
          simp only [Instr.findNow, hne]; exact h2
        · refine .inr ⟨j + 1, v0, e0, by simp [lookI, hkk, h1], ?_, by simpa using h3, h4, fun f hf => ?_⟩
          · simp only [Instr.findNow, hne]; rw [h2]; congr 3; omega
          · have := h5 f hf
            simp [putI, hkk, hk, hv, this]
theorem MapI.kept {M : Nat → Nat → Prop} {w' : World} {b : Nat} {es : List (Int × Value)} (h : MapI w b es) (k : Chg M w w') (hm : ∀ o, ¬ M b o) : MapI w' b es := by
  obtain ⟨a, c, h1, h2⟩ := h
  exact ⟨a, c, by rw [k.obj b (Array.getElem?_eq_some_iff.1 h1).1 hm]; exact h1, h2⟩
theorem MapI.k {w' : World} {b : Nat} {es : List (Int × Value)} (h : MapI w b es) (k : Kept w w') : MapI w' b es := h.kept k fun _ => id
theorem MapI.kb {w' : World} {b b2 o2 n : Nat} {es : List (Int × Value)} (h : MapI w b es) (k : Chg (rng b2 o2 n) w w') (hb : b ≠ b2) : MapI w' b es := h.kept k fun _ m => hb m.1
theorem MapI.kob {w' : World} {b : Nat} {v : Value} {es : List (Int × Value)} (h : MapI w b es) (k : Chg (ob v) w w') (hb : some b ≠ v.ownBlock) : MapI w' b es := h.kept k fun _ m => hb m
theorem w_makeMap {t : TypeId} : OpWp P ⟨d, .makeMap t none, ty, pos, aft, g⟩ e w (fun v w' => ∃ b, v = .map (some b) ∧ w.heap.size ≤ b ∧ b < w'.heap.size ∧ MapI w' b [] ∧ Kept w w') := by
  unfold OpWp
  have : (execOp (ev e) ⟨d, .makeMap t none, ty, pos, aft, g⟩).run P w = .ok (.value (.map (some w.heap.size))) (w.alloc (.map #[] 0)) := by
    simp [execOp, Instr.makeMap, Sem.run_bind, Sem.run_pure]
  rw [this]
  exact ⟨_, rfl, Nat.le_refl _, by simp, ⟨#[], 0, heap_alloc_new w _, rfl⟩, chg_alloc _ _⟩
theorem r_lenMap {t k el : TypeId} {x : Operand} {b : Nat} {es : List (Int × Value)} (hu : ∀ w, (underlying t).run P w = .ok (.map k el) w) (hx : ev e x = .map (some b)) (h : MapI w b es) :
    (execOp (ev e) ⟨d, .call ⟨.builtin .len, #[x], #[t]⟩, ty, pos, aft, g⟩).run P w = .ok (.value (i64 (es.length : Nat))) w := by
  obtain ⟨a, c, h1, h2⟩ := h
  have hl : a.size = es.length := by have := congrArg List.length h2; simpa using this
  have hg : (getObj b).run P w = .ok (.map a c) w := by simp [getObj, Sem.run, h1]
  simp [execOp, resolve, invoke, builtin, Builtin.len_, hx, Sem.run_bind, hu, goInt, hg, hl, i64]
theorem run_lookup_i {t k el : TypeId} {b : Nat} {q : Int} {es : List (Int × Value)} {z : Value} (cok : Bool) (hu : P.underlying t = some (.map k el)) (hk : P.underlying k = some (.int .i64)) (hz : ∀ w, (zeroValue el).run P w = .ok z w) (h : MapI w b es) :
    (Instr.lookup t (.map (some b)) (i64 q) cok).run P w = .ok (if cok then .tuple #[(lookI es q).getD z, .bool (lookI es q).isSome] else (lookI es q).getD z) w := by
  obtain ⟨a, c, h1, h2⟩ := h
  have hg : (getObj b).run P w = .ok (.map a c) w := by simp [getObj, Sem.run, h1]
  have hck : ∀ em, (Instr.checkKey em 10000 k (i64 q)).run P w = .ok () w := fun em => by
    rw [show (10000 : Nat) = 9999 + 1 from rfl, Instr.checkKey]
    simp [run_underlying hk, i64, Sem.run_bind, Sem.run_pure]
  rcases find_i q z a.toList es 0 h2 with ⟨h3, h4, _⟩ | ⟨j, v0, e0, h3, h4, _⟩
  · have hf : (Instr.findKey k (i64 q) a.toList).run P w = .ok none w := by simp [Instr.findKey, run_underlying hk, h4, Sem.run_bind, Sem.run_pure]
    cases cok <;> simp [Instr.lookup, Sem.run_bind, run_underlying hu, hg, hck, hf, h3, hz, Sem.run_pure]
  · have hf : (Instr.findKey k (i64 q) a.toList).run P w = .ok (some (0 + j, v0)) w := by simp [Instr.findKey, run_underlying hk, h4, Sem.run_bind, Sem.run_pure]
    cases cok <;> simp [Instr.lookup, Sem.run_bind, run_underlying hu, hg, hck, hf, h3, hz, Sem.run_pure]
theorem r_lookup {t k el : TypeId} {x y : Operand} {b : Nat} {q : Int} {es : List (Int × Value)} {z : Value} (hu : P.underlying t = some (.map k el)) (hk : P.underlying k = some (.int .i64)) (hz : ∀ w, (zeroValue el).run P w = .ok z w) (hx : ev e x = .map (some b)) (hy : ev e y = i64 q) (h : MapI w b es) :
    (execOp (ev e) ⟨d, .lookup t x y false, ty, pos, aft, g⟩).run P w = .ok (.value ((lookI es q).getD z)) w := by
  simp only [execOp, hx, hy, Sem.run_bind, run_lookup_i false hu hk hz h, Result.andThen_ok, Sem.run_pure]
  rfl
theorem r_lookup2 {t k el : TypeId} {x y : Operand} {b : Nat} {q : Int} {es : List (Int × Value)} {z : Value} (hu : P.underlying t = some (.map k el)) (hk : P.underlying k = some (.int .i64)) (hz : ∀ w, (zeroValue el).run P w = .ok z w) (hx : ev e x = .map (some b)) (hy : ev e y = i64 q) (h : MapI w b es) :
    (execOp (ev e) ⟨d, .lookup t x y true, ty, pos, aft, g⟩).run P w = .ok (.value (.tuple [(lookI es q).getD z, .bool (lookI es q).isSome].toArray)) w := by
  simp only [execOp, hx, hy, Sem.run_bind, run_lookup_i true hu hk hz h, Result.andThen_ok, Sem.run_pure]
  rfl
theorem w_mapPut {t k el : TypeId} {x y v : Operand} {b : Nat} {q : Int} {es : List (Int × Value)} (hu : P.underlying t = some (.map k el)) (hk : P.underlying k = some (.int .i64)) (hx : ev e x = .map (some b)) (hy : ev e y = i64 q) (h : MapI w b es) :
    OpWp P ⟨d, .mapUpdate t x y v, ty, pos, aft, g⟩ e w (fun _ w' => MapI w' b (putI es q (ev e v)) ∧ Chg (blk b) w w') := by
  obtain ⟨a, c, h1, h2⟩ := h
  have hlt : b < w.heap.size := (Array.getElem?_eq_some_iff.1 h1).1
  have hg : (getObj b).run P w = .ok (.map a c) w := by simp [getObj, Sem.run, h1]
  have hck : ∀ em, (Instr.checkKey em 10000 k (i64 q)).run P w = .ok () w := fun em => by
    rw [show (10000 : Nat) = 9999 + 1 from rfl, Instr.checkKey]
    simp [run_underlying hk, i64, Sem.run_bind, Sem.run_pure]
  have fin : ∀ (a' : Array MapEntry) (c' : Nat), a'.toList.map (fun x => (x.key, x.val)) = (putI es q (ev e v)).map (fun p => (i64 p.1, p.2)) → (Instr.mapUpdate t (.map (some b)) (i64 q) (ev e v)).run P w = .ok () { w with heap := w.heap.setIfInBounds b (.map a' c') } →
      OpWp P ⟨d, .mapUpdate t x y v, ty, pos, aft, g⟩ e w (fun _ w' => MapI w' b (putI es q (ev e v)) ∧ Chg (blk b) w w') := by
    intro a' c' ha hr
    unfold OpWp
    have hx' : (execOp (ev e) ⟨d, .mapUpdate t x y v, ty, pos, aft, g⟩).run P w = .ok .skip { w with heap := w.heap.setIfInBounds b (.map a' c') } := by
      simp only [execOp, hx, hy, Sem.run_bind, hr, Result.andThen_ok, Sem.run_pure]
    rw [hx']
    have hne : ∀ b', b' ≠ b → (w.heap.setIfInBounds b (.map a' c'))[b']? = w.heap[b']? := fun b' hb => by
      rw [Array.getElem?_setIfInBounds_ne (fun h => hb h.symm)]
    refine ⟨⟨a', c', ?_, ha⟩, ⟨rfl, rfl, rfl, by simp, fun b' o _ hm => World.cell?_of_block (w := w) (hne b' hm), fun b' o _ hm => World.frozen?_of_block (w := w) (hne b' hm), fun b' _ hm => hne b' (hm 0)⟩⟩
    show (w.heap.setIfInBounds b (.map a' c'))[b]? = _
    rw [Array.getElem?_setIfInBounds_self_of_lt hlt]
  rcases find_i q (ev e v) a.toList es 0 h2 with ⟨h3, h4, h5⟩ | ⟨j, v0, e0, h3, h4, h5, h6, h7⟩
  · have hf : (Instr.findKey k (i64 q) a.toList).run P w = .ok none w := by simp [Instr.findKey, run_underlying hk, h4, Sem.run_bind, Sem.run_pure]
    refine fin (a.push { key := i64 q, val := ev e v, born := c }) (c + 1) ?_ ?_
    · rw [h5]; simp [h2]
    · simp only [Instr.mapUpdate, Sem.run_bind, run_underlying hu, Result.andThen_ok, hg, hck, hf, MapKept.run_setObj_map _ h1]
  · have hf : (Instr.findKey k (i64 q) a.toList).run P w = .ok (some (0 + j, v0)) w := by simp [Instr.findKey, run_underlying hk, h4, Sem.run_bind, Sem.run_pure]
    have hst : (Instr.keyThatStays (i64 q) (i64 q)).run P w = .ok (i64 q) w := by simp [Instr.keyThatStays, Instr.sameBits, i64, Sem.run_pure]
    have hgd : ((a[0 + j]?).map (·.key)).getD (i64 q) = i64 q := by
      rw [Nat.zero_add, ← Array.getElem?_toList, h5]; exact h6
    refine fin (a.modify (0 + j) fun x => { x with key := i64 q, val := ev e v }) c ?_ ?_
    · rw [Array.toList_modify, Nat.zero_add]; exact h7 _ fun x => ⟨rfl, rfl⟩
    · simp only [Instr.mapUpdate, Sem.run_bind, run_underlying hu, Result.andThen_ok, hg, hck, hf, hgd, hst, MapKept.run_setObj_map _ h1]
end Go.Eng
namespace Go.Eng
theorem ints_get {es : List Int} {k : Nat} (h : k < es.length) : (es.map i64)[k]? = some (i64 (es.getD k 0)) := by
  simp [List.getElem?_map, List.getElem?_eq_getElem h, List.getD_eq_getElem?_getD]
def firstE (es : List Int) : Int := match es with | [] => 0 | e :: es => if e ≠ 0 then e else firstE es
theorem firstE_drop {es : List Int} {k : Nat} (h : k < es.length) : firstE (es.drop k) = if es.getD k 0 ≠ 0 then es.getD k 0 else firstE (es.drop (k + 1)) := by
  have : es.drop k = es.getD k 0 :: es.drop (k + 1) := by
    rw [List.drop_eq_getElem_cons h, List.getD_eq_getElem?_getD, List.getElem?_eq_getElem h]; rfl
  rw [this, firstE]
theorem SlsOk.snoc {w : World} {vs : List Value} {ls : List (List UInt8)} (h : SlsOk w vs ls) {a : Option Addr} {n c : Nat} {l : List UInt8} (hl : l.length = n) (h0 : 0 < n) (hc : n ≤ c) (hs : SlAt w a (bs l)) : SlsOk w (vs ++ [.slice a n c]) (ls ++ [l]) := by
  obtain ⟨h1, h2⟩ := h
  refine ⟨by simp [h1], fun k hk => ?_⟩
  rcases Nat.lt_or_ge k ls.length with hlt | hge
  · obtain ⟨a', n', c', e1, e2, e3, e4, e5⟩ := h2 k hlt
    have g1 : (vs ++ [Value.slice a n c])[k]? = vs[k]? := List.getElem?_append_left (by omega)
    have g2 : (ls ++ [l]).getD k [] = ls.getD k [] := by
      rw [List.getD_eq_getElem?_getD, List.getD_eq_getElem?_getD, List.getElem?_append_left hlt]
    exact ⟨a', n', c', by rw [g1]; exact e1, by rw [g2]; exact e2, e3, e4, by rw [g2]; exact e5⟩
  · obtain rfl : k = ls.length := by simp at hk; omega
    have g1 : (vs ++ [Value.slice a n c])[ls.length]? = some (.slice a n c) := by rw [h1]; simp
    have g2 : (ls ++ [l]).getD ls.length [] = l := by simp
    exact ⟨a, n, c, g1, by rw [g2]; exact hl, h0, hc, by rw [g2]; exact hs⟩
theorem SlsOk.nil {w : World} : SlsOk w [] [] := ⟨rfl, fun k hk => by simp at hk⟩
/-- pieces of 1024 octets, the last one what is left -/
def chunksL (l : List UInt8) : List (List UInt8) := if h : l.length ≤ 1024 then [l] else l.take 1024 :: chunksL (l.drop 1024)
termination_by l.length
decreasing_by simp; omega
theorem chunksL_one {l : List UInt8} (h : l.length ≤ 1024) : chunksL l = [l] := by rw [chunksL, dif_pos h]
theorem chunksL_cons {l : List UInt8} (h : 1024 < l.length) : chunksL l = l.take 1024 :: chunksL (l.drop 1024) := by
  conv => lhs; rw [chunksL, dif_neg (by omega)]
theorem chunksL_len : ∀ (m : Nat) (l : List UInt8), l.length = m → 0 < m → (chunksL l).length = (m + 1023) / 1024 ∧ ∀ x ∈ chunksL l, 0 < x.length ∧ x.length ≤ 1024 := by
  intro m
  induction m using Nat.strongRecOn with
  | _ m ih =>
    intro l hl h0
    rcases Nat.lt_or_ge 1024 l.length with h | h
    · rw [chunksL_cons h]
      obtain ⟨h1, h2⟩ := ih (m - 1024) (by omega) (l.drop 1024) (by rw [List.length_drop]; omega) (by omega)
      refine ⟨by rw [List.length_cons, h1]; omega, fun x hx => ?_⟩
      rcases List.mem_cons.1 hx with rfl | hx
      · rw [List.length_take]; omega
      · exact h2 x hx
    · rw [chunksL_one h]
      refine ⟨by rw [List.length_singleton]; omega, fun x hx => ?_⟩
      simp at hx; subst hx; omega
theorem map32 {H : List UInt8 → List UInt8} (hH : ∀ l, (H l).length = 32) (ls : List (List UInt8)) : All32 (ls.map H) := by
  intro x hx
  obtain ⟨y, _, rfl⟩ := List.mem_map.1 hx
  exact hH y
theorem map_snoc (H : List UInt8 → List UInt8) {ls : List (List UInt8)} {k : Nat} (h : k < ls.length) : (ls.take (k + 1)).map H = (ls.take k).map H ++ [H (ls.getD k [])] := by
  have e : ls.take (k + 1) = ls.take k ++ [ls.getD k []] := by rw [List.take_add_one]; simp [h]
  rw [e, List.map_append]; rfl
end Go.Eng
