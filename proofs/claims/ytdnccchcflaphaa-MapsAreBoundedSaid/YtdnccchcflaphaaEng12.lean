/- Eng12: a calculus of walks over frames that are read as functions, for the program's code as the model has it: proved for every program. -/
import Derived.Test.YtdnccchcflaphaaEng11
import Derived.RangeFuncNested
import Derived.RangeFuncBound
import Derived.RangeFuncCalls
import Derived.RangeFuncLeaves
import Derived.RangeFuncGives
open Go Go.Eng
namespace Go.Eng
/- ### ranges over functions -/
def IsD (n : Nat) (ds : List Deferred) (a : Act) (e : Env) : Prop := Is n { a with defers := [] } e ∧ a.defers = ds
theorem IsD.of {n : Nat} {a : Act} {e : Env} (h : Is n a e) : IsD n [] a e := by
  obtain ⟨h1, h2, h3⟩ := h
  exact ⟨⟨h1, rfl, h3⟩, h2⟩
theorem IsD.is {n : Nat} {a : Act} {e : Env} (h : IsD n [] a e) : Is n a e := ⟨h.1.size, h.2, h.1.read⟩
theorem IsD.put {n : Nat} {ds : List Deferred} {a : Act} {e : Env} (h : IsD n ds a e) {d : Option Nat} (hd : ∀ k, d = some k → k < n) (v : Value) : IsD n ds (a.put d v) (updo e d v) := by
  obtain ⟨h1, h2⟩ := h
  have := h1.put hd v
  cases d with
  | none => exact ⟨this, h2⟩
  | some k => exact ⟨this, h2⟩
theorem IsD.eval {n : Nat} {ds : List Deferred} {a : Act} {e : Env} (h : IsD n ds a e) : a.eval = ev e := by
  have := h.1.eval
  exact this
abbrev fen (r : Option Nat) : Fence := { Fence.wide with round := r }
/-- the operations l in turn, within a round r or none -/
def TAt (r : Option Nat) (m : Nat) (P : Program) (ops : Array Oper) (QQ : Exit → Act → World → Prop) (n : Nat) (ds : List Deferred) (l : List Nat) (e : Env) (w : World) : Prop :=
  ∀ a, IsD n ds a e → wpOpsIn (fen r) m P ops QQ l a w
section
variable {r : Option Nat} {m : Nat} {P : Program} {ops : Array Oper} {QQ : Exit → Act → World → Prop} {n : Nat} {ds : List Deferred} {e : Env} {w : World} {i : Nat} {rest : List Nat} {o : Oper}
theorem t_end (h : ∀ a, IsD n ds a e → QQ .normal a w) : TAt r m P ops QQ n ds [] e w := fun a ha => h a ha
theorem t_op {K : Value → World → Prop} (hi : ops[i]? = some o) (hg : o.guard = none) (hdst : ∀ k, o.dst = some k → k < n) (hdef : ∀ c, o.op ≠ .defer c) (h : OpWp P o e w K)
    (k : ∀ v w', K v w' → TAt r m P ops QQ n ds rest (updo e o.dst v) w') : TAt r m P ops QQ n ds (i :: rest) e w := fun a ha => by
  have hw : Region.wanted o (yielded ops a.tmps) = true := by unfold Region.wanted; rw [hg]
  simp only [wpOpsIn, hi, hw, if_true]
  refine ⟨fun _ _ => trivial, ?_⟩
  rw [Oper.semAt_eq _ _ _ hdef, ha.eval]
  unfold OpWp Rtn at h
  have hput : ∀ v, IsD n ds (a.put o.dst v) (updo e o.dst v) := fun v => ha.put hdst v
  split at h
  · rename_i v w' hr
    rw [hr]; exact k _ _ h _ (hput _)
  · rename_i w' hr
    rw [hr]; exact k _ _ h _ (hput _)
  · rename_i f args w' hr
    rw [hr]
    refine ⟨fun hd => by simp [Fence.wide] at hd, ?_⟩
    have h2 : CallsIn (fen r) (m - 1) P f args w' fun e w' => ∃ v, e = .returned v ∧ K v w' := callsIn_wide.2 h
    refine h2.mono ?_
    rintro _ w2 ⟨v, rfl, hk⟩
    exact k _ _ hk _ (hput _)
  · rename_i row args w' hr
    rw [hr]
    refine ⟨fun hd => by simp [Fence.wide] at hd, fun c cs _ => ?_⟩
    obtain ⟨v, w2, hk, s⟩ := h c cs
    exact ⟨v, w2, k _ _ hk _ (hput _), stepsIn_wide.2 s⟩
  · exact h.elim
theorem t_val {v : Value} (hi : ops[i]? = some o) (hg : o.guard = none) (hdst : ∀ k, o.dst = some k → k < n) (hdef : ∀ c, o.op ≠ .defer c) (h : (execOp (ev e) o).run P w = .ok (.value v) w)
    (k : TAt r m P ops QQ n ds rest (updo e o.dst v) w) : TAt r m P ops QQ n ds (i :: rest) e w :=
  t_op (K := fun v' w' => v' = v ∧ w' = w) hi hg hdst hdef (by unfold OpWp; rw [h]; exact ⟨rfl, rfl⟩) (by rintro _ _ ⟨rfl, rfl⟩; exact k)
theorem t_round {l f : Nat} {tmps : Array Value} {assign body : Code} {R : Ending → World → Prop} (hi : ops[i]? = some o) (hg : o.guard = none) (hdst : ∀ k, o.dst = some k → k < n) (hdef : ∀ c, o.op ≠ .defer c)
    (h : (execOp (ev e) o).run P w = .ok (.round l f tmps assign body) w) (hR : RoundIn (fen r) (m - 1) P l f tmps assign body w R)
    (k : ∀ en w', R en w' → ∃ v, en = .returned v ∧ TAt r m P ops QQ n ds rest (updo e o.dst v) w') : TAt r m P ops QQ n ds (i :: rest) e w := fun a ha => by
  have hw : Region.wanted o (yielded ops a.tmps) = true := by unfold Region.wanted; rw [hg]
  simp only [wpOpsIn, hi, hw, if_true]
  refine ⟨fun _ _ => trivial, ?_⟩
  rw [Oper.semAt_eq _ _ _ hdef, ha.eval, h]
  refine ⟨fun hd => by simp [Fence.wide] at hd, hR.mono ?_⟩
  intro en w' hr
  obtain ⟨v, rfl, ht⟩ := k en w' hr
  exact ht _ (ha.put hdst v)
end
theorem go_regionT {P : Program} {n : Nat} {k : List Code} {Q : Post} {e : Env} {w : World} {id : Nat} {ops : Array Oper} (m N : Nat) (hN : ops.size = N)
    (h : TAt none m P ops (lift n fun x e w => match x with | .normal => Go P n k Q e w | x => Q x e w) n [] (List.range N) e w) : Go P n (.region id ops false :: k) Q e w := by
  subst hN
  have key : ∀ a, Is n a e → (Code.region id ops false).wp P (lift n fun x e w => match x with | .normal => Go P n k Q e w | x => Q x e w) a w := fun a ha => (wpIn_wide (n := m)).1 (wpIn_region (h a (IsD.of ha)))
  with_unfolding_all exact key
theorem t_go {P : Program} {n m : Nat} {k : List Code} {Q : Post} {e : Env} {w : World} {ops : Array Oper} (h : Go P n k Q e w) :
    TAt none m P ops (lift n fun x e w => match x with | .normal => Go P n k Q e w | x => Q x e w) n [] [] e w :=
  fun a ha => ⟨⟨e, ha.is, h⟩, fun c hc => by cases hc⟩
def byd (n₀ : Nat) : Nat → Nat → Prop := fun b _ => n₀ ≤ b
theorem Chg.of_below {n₀ : Nat} {w w' : World} (h : RowKit.Below n₀ w w') : Chg (byd n₀) w w' :=
  ⟨h.os, h.tape, h.output, h.size, fun b _ _ hm => World.cell?_of_block (w := w) (h.block b (Nat.lt_of_not_le hm)), fun b _ _ hm => World.frozen?_of_block (w := w) (h.block b (Nat.lt_of_not_le hm)), fun b _ hm => h.block b (Nat.lt_of_not_le (hm 0))⟩
theorem Chg.grown {w w' : World} (h : Kept w w') : w.grownBy w' none := ⟨h.os, h.tape, h.output, h.size, fun b hb _ => h.obj b hb fun _ => id⟩
/-- the chunks as slices: their addresses and lengths -/
def chP (a : Option Addr) (n : Nat) : Nat → List (Option Addr × Nat)
  | 0 => []
  | k + 1 => chP a n k ++ [(cutA a (1024 * k) (1024 * k + min 1024 (n - 1024 * k)) 1, 1024 * k + min 1024 (n - 1024 * k) - 1024 * k)]
@[simp] theorem chP_length (a : Option Addr) (n k : Nat) : (chP a n k).length = k := by induction k with | zero => rfl | succ k ih => simp [chP, ih]
def chVals (l : List (Option Addr × Nat)) : List Value := l.map fun p => .slice p.1 p.2 p.2
theorem r_yield {P : Program} {w w' : World} {e : Env} {d : Option Nat} {ty : TypeId} {pos : String} {aft : Array Edge} {g : Option (Nat × Bool)} {x : Operand} {args : Array Operand} {ats : Array TypeId} {l : Nat} {vs : List Value} {nx : Next} (hx : ev e x = .func (.yield l) #[] #[]) (hl : args.toList.map (ev e) = vs)
    (hy : (Instr.yield l vs.toArray).run P w = .ok nx w') : (execOp (ev e) ⟨d, .call ⟨.value x, args, ats⟩, ty, pos, aft, g⟩).run P w = .ok nx w' := by
  have hl' : args.map (ev e) = vs.toArray := by rw [← hl, ← Array.toList_map, Array.toArray_toList]
  simp only [execOp, resolve, Sem.run_bind, hx]
  simp [go_sem, hl', invoke, hy]
end Go.Eng
namespace Go.Eng
theorem is_args (n : Nat) (l : List Value) (hl : l.length ≤ n) : IsD n [] { tmps := l.toArray ++ Array.replicate (n - l.toArray.size) undef, defers := [] } (fun t => l.getD t undef) := by
  refine ⟨⟨by simp; omega, rfl, fun t => ?_⟩, rfl⟩
  simp only [Array.getD_eq_getD_getElem?, List.getD_eq_getElem?_getD]
  rw [Array.getElem?_append]
  split
  · simp
  · rename_i hlt
    have hge : l.length ≤ t := by simpa using hlt
    rw [List.getElem?_eq_none hge]
    simp [Array.getElem?_replicate]
    split <;> rfl
theorem IsD.unique {n : Nat} {ds : List Deferred} {a a' : Act} {e : Env} (h : IsD n ds a e) (h' : IsD n ds a' e) : a = a' := by
  obtain ⟨⟨h1, _, h3⟩, h4⟩ := h
  obtain ⟨⟨k1, _, k3⟩, k4⟩ := h'
  have ht : a.tmps = a'.tmps := by
    apply Array.ext
    · exact h1.trans k1.symm
    · intro i hi hi'
      have := (h3 i).trans (k3 i).symm
      simp only [Array.getD_eq_getD_getElem?] at this
      rw [Array.getElem?_eq_getElem hi, Array.getElem?_eq_getElem hi'] at this
      exact this
  cases a; cases a'
  simp only at ht h4 k4
  rw [ht, h4, k4]
theorem keeps_of {M : Nat → Nat → Prop} {w w' : World} (h : Chg M w w') (hM : ∀ k o', M k o' → k < w.heap.size → ∃ o, w.heap[k]? = some o ∧ o.isCells = true) : KeepsOthers w w' :=
  ⟨h.size, fun k o hk hc => by
    have hlt := (Array.getElem?_eq_some_iff.1 hk).1
    rw [h.obj k hlt fun o' hm => ?_]
    · exact hk
    · obtain ⟨o2, h1, h2⟩ := hM k o' hm hlt
      rw [hk] at h1; cases h1; rw [hc] at h2; cases h2⟩
theorem cells_of_cell {w : World} {b o : Nat} {v : Value} (h : w.cell? ⟨b, o, none⟩ = some v) : ∃ ob, w.heap[b]? = some ob ∧ ob.isCells = true := by
  unfold World.cell? at h
  split at h
  · rename_i c t x hh
    exact ⟨_, hh, rfl⟩
  · cases h
theorem Pc.other {w w' : World} {b : Nat} {v : Value} (h : Pc w b 0 [v]) (hh : w'.heap[b]? = w.heap[b]?) : Pc w' b 0 [v] :=
  ⟨fun j u hj => by rw [World.cell?_of_block (w := w) hh]; exact h.1 j u hj, fun j u hj => by rw [World.frozen?_of_block (w := w) hh]; exact h.2 j u hj⟩
theorem Owns.grown {w w' : World} {B : Nat} {E : TypeId} {sz n : Nat} {v : Value} {cs : List Value} {row : Option Nat} (h : Owns w B E sz v n cs) (hg : w.grownBy w' row) (hr : ∀ r, row = some r → ∃ o : Obj, w.heap[r]? = some o ∧ o.isCells = false) : Owns w' B E sz v n cs := by
  refine World.ownsRow.kept h hg ?_
  rcases h.2 with ⟨rfl, _⟩ | ⟨g, cap, cur, rfl, _, hgb, _⟩
  · exact .inl rfl
  · refine .inr fun e' => ?_
    obtain ⟨o, ho, hc⟩ := hr g (by simpa [Value.ownBlock] using e'.symm)
    rw [hgb] at ho; cases ho; cases hc
theorem Owns.cells {w : World} {B : Nat} {E : TypeId} {sz n : Nat} {v : Value} {cs : List Value} (h : Owns w B E sz v n cs) : ∀ k o', ob v k o' → ∃ o, w.heap[k]? = some o ∧ o.isCells = true := by
  intro k o' hk
  rcases h.2 with ⟨rfl, _⟩ | ⟨g, cap, cur, rfl, _, hgb, _⟩
  · have : some k = none := hk
    cases this
  · have : some k = some g := hk
    cases this
    exact ⟨_, hgb, rfl⟩
end Go.Eng
namespace Go.Eng
theorem below_of {M : Nat → Nat → Prop} {w w' : World} {n₀ : Nat} (h : Chg M w w') (hn : n₀ ≤ w.heap.size) (hM : ∀ k o', M k o' → n₀ ≤ k) : RowKit.Below n₀ w w' :=
  ⟨h.os, h.tape, h.output, h.size, fun k hk => h.obj k (by omega) fun o' m => by have := hM k o' m; omega⟩
theorem Chg.of_below0 {w w' : World} (h : RowKit.Below w.heap.size w w') : Kept w w' :=
  (Chg.of_below h).mono fun b o hb m => by have : w.heap.size ≤ b := m; omega
end Go.Eng
namespace Go.Eng
theorem r_makeFunc {P : Program} {w : World} {e : Env} {d : Option Nat} {ty : TypeId} {pos : String} {aft : Array Edge} {g : Option (Nat × Bool)} {fn : Fn} {cap : Array Operand} {l : List Value} (hl : cap.toList.map (ev e) = l) :
    (execOp (ev e) ⟨d, .makeFunc fn #[] cap, ty, pos, aft, g⟩).run P w = .ok (.value (.func fn #[] l.toArray)) w := by
  have hl' : cap.map (ev e) = l.toArray := by rw [← hl, ← Array.toList_map, Array.toArray_toList]
  simp [execOp, Instr.makeFunc, hl', Sem.run_bind, Sem.run_pure, Result.andThen_ok]
theorem chunksL_get : ∀ (m : Nat) (l : List UInt8) (k : Nat), l.length = m → k < (chunksL l).length → (chunksL l).getD k [] = (l.drop (1024 * k)).take 1024 := by
  intro m
  induction m using Nat.strongRecOn with
  | _ m ih =>
    intro l k hl hk
    rcases Nat.lt_or_ge 1024 l.length with h | h
    · rw [chunksL_cons h] at hk ⊢
      cases k with
      | zero => simp
      | succ k =>
        have := ih (m - 1024) (by omega) (l.drop 1024) k (by rw [List.length_drop]; omega) (by simpa using hk)
        rw [List.getD_cons_succ, this, List.drop_drop]
        congr 2; omega
    · rw [chunksL_one h] at hk ⊢
      obtain rfl : k = 0 := by simp at hk; omega
      simp only [Nat.mul_zero, List.drop_zero, List.getD_cons_zero]
      rw [List.take_of_length_le h]
theorem chP_get (a : Option Addr) (n : Nat) : ∀ (K k : Nat), k < K → (chP a n K)[k]? = some (cutA a (1024 * k) (1024 * k + min 1024 (n - 1024 * k)) 1, 1024 * k + min 1024 (n - 1024 * k) - 1024 * k) := by
  intro K
  induction K with
  | zero => intro k h; omega
  | succ K ih =>
    intro k h
    rw [chP]
    rcases Nat.lt_or_ge k K with h1 | h1
    · rw [List.getElem?_append_left (by simpa using h1)]; exact ih k h1
    · obtain rfl : k = K := by omega
      rw [List.getElem?_append_right (by simp)]; simp
theorem cutA_cap {a : Option Addr} {l m m2 sz : Nat} (h : m ≠ l) (h2 : m2 ≠ l) : cutA a l m sz = cutA a l m2 sz := by
  unfold cutA; rw [if_neg h, if_neg h2]
theorem chunks_ok {w : World} {a : Option Addr} {n c : Nat} {l : List UInt8} (hn : l.length = n) (h0 : 0 < n) (hc : n ≤ c) (hs : SlAt w a (bs l)) : SlsOk w (chVals (chP a n ((n + 1023) / 1024))) (chunksL l) := by
  have hlen := (chunksL_len n l hn h0).1
  refine ⟨by rw [hlen, chVals, List.length_map, chP_length], fun k hk => ?_⟩
  have hkK : k < (n + 1023) / 1024 := by omega
  have hlt : 1024 * k < n := by omega
  have hg := chunksL_get n l k hn hk
  have hp := chP_get a n _ k hkK
  refine ⟨_, _, _, by rw [chVals, List.getElem?_map, hp]; rfl, ?_, ?_, Nat.le_refl _, ?_⟩
  · rw [hg, List.length_take, List.length_drop]; omega
  · dsimp only; omega
  · dsimp only
    rw [hg, cutA_cap (m2 := c) (by omega) (by omega)]
    have := hs.cutB_mid (1024 * k) (1024 * k + 1024) c (by omega)
    rwa [show 1024 * k + 1024 - 1024 * k = 1024 by omega] at this
end Go.Eng
namespace Go.Eng
theorem chunksL_small {l : List UInt8} {n : Nat} (hn : l.length = n) (h0 : 0 < n) (k : Nat) : ((chunksL l).getD k []).length ≤ 1024 := by
  rcases Nat.lt_or_ge k (chunksL l).length with h | h
  · have hm : (chunksL l).getD k [] ∈ chunksL l := by
      rw [List.getD_eq_getElem?_getD, List.getElem?_eq_getElem h]; exact List.getElem_mem h
    exact ((chunksL_len n l hn h0).2 _ hm).2
  · rw [List.getD_eq_getElem?_getD, List.getElem?_eq_none h]; simp
end Go.Eng
namespace Go.Eng
theorem Owns.form2 {w : World} {B : Nat} {E : TypeId} {sz n : Nat} {v : Value} {cs : List Value} (h : Owns w B E sz v n cs) : ∃ a c, v = .slice a n c ∧ n ≤ c := by
  obtain ⟨a, c, h1, h2, _⟩ := Owns.form h
  exact ⟨a, c, h1, h2⟩
end Go.Eng
namespace Go.Eng
variable {P : Program} {w : World} {e : Env} {d : Option Nat} {ty : TypeId} {pos : String} {aft : Array Edge} {g : Option (Nat × Bool)}
theorem r_lookupV {t k el : TypeId} {x y : Operand} {b : Nat} {q : Int} {es : List (Int × Value)} {z v : Value} (hu : P.underlying t = some (.map k el)) (hk : P.underlying k = some (.int .i64)) (hz : ∀ w, (zeroValue el).run P w = .ok z w) (hx : ev e x = .map (some b)) (hy : ev e y = i64 q) (h : MapI w b es) (hv : (lookI es q).getD z = v) :
    (execOp (ev e) ⟨d, .lookup t x y false, ty, pos, aft, g⟩).run P w = .ok (.value v) w := by
  rw [r_lookup hu hk hz hx hy h, hv]
theorem r_lookupV2 {t k el : TypeId} {x y : Operand} {b : Nat} {q : Int} {es : List (Int × Value)} {z v : Value} {c : Bool} (hu : P.underlying t = some (.map k el)) (hk : P.underlying k = some (.int .i64)) (hz : ∀ w, (zeroValue el).run P w = .ok z w) (hx : ev e x = .map (some b)) (hy : ev e y = i64 q) (h : MapI w b es) (hv : (lookI es q).getD z = v) (hc : (lookI es q).isSome = c) :
    (execOp (ev e) ⟨d, .lookup t x y true, ty, pos, aft, g⟩).run P w = .ok (.value (.tuple [v, .bool c].toArray)) w := by
  rw [r_lookup2 hu hk hz hx hy h, hv, hc]
end Go.Eng
namespace Go.Eng
theorem SlAt.keptE {M : Nat → Nat → Prop} {w w' : World} {a : Option Addr} {cs : List Value} (h : SlAt w a cs) (k : Chg M w w') (hm : cs ≠ [] → ∀ b o, a = Option.some ⟨b, o, none⟩ → ∀ o', ¬ M b o') : SlAt w' a cs := by
  cases cs with
  | nil => exact .inl rfl
  | cons v cs => exact h.kept k fun b o ha j _ => hm (by simp) b o ha _
end Go.Eng
