/- Eng8: a calculus of walks over frames that are read as functions, for the program's code as the model has it: proved for every program. -/
import Derived.Test.YtdnccchcflaphaaEng
import Derived.Maps.AppendAt
import Derived.ArgAppend
import Derived.Laws.Tables
open Go Go.Eng
namespace Go.Eng
variable {P : Program} {w : World} {e : Env} {d : Option Nat} {ty : TypeId} {pos : String} {aft : Array Edge} {g : Option (Nat × Bool)}
/-- append(v, x), and where the new row lies -/
theorem w_appendAt {s x : Operand} {tS tX : TypeId} {B : Nat} {E : TypeId} {i : TypeInfo} {z v : Value} {n m c sz : Nat} {cs news : List Value} {a : Option Addr} (hu : P.underlying tS = some (.slice E)) (hX : tX = tS) (hi : P.info? E = some i) (hz : i.zero = some z) (hsz : i.size = sz) (hzs : z.cells.size = sz) (h0 : Nat.blt 0 sz = true)
    (hs : ev e s = v) (hown : Owns w B E sz v n cs) (hx : ev e x = .slice a m c) (ha : SlAt w a news) (hl : news.length = m * sz) (hf : Flat news) (hm : 0 < m) (hlen : n + m ≤ 4611686018427387904) (hby : (n + m) * i.bytes ≤ 140737488355328) (hB : B ≤ w.heap.size) :
    OpWp P ⟨d, .call ⟨.builtin .append, #[s, x], #[tS, tX]⟩, ty, pos, aft, g⟩ e w (fun v' w' => Owns w' B E sz v' (n + m) (cs ++ news) ∧ (v'.ownBlock = v.ownBlock ∨ v'.ownBlock = some w.heap.size) ∧ Chg (ob v) w w') := by
  subst hX
  have hsz0 : 0 < sz := by rw [Nat.blt_eq] at h0; exact h0
  rcases ha with ha | ⟨b, o, rfl, hr⟩
  · subst ha
    have : m * sz = 0 := by simpa using hl.symm
    rcases Nat.mul_eq_zero.1 this with h' | h' <;> omega
  · obtain ⟨v', w', h1, h2, h3, _, h5⟩ := run_append_own_at (P := P) w B tX ty E i z sz i.bytes hu hi hz hsz rfl hzs hsz0 v n cs hown ⟨b, o, none⟩ m c news hl (fun j u hj => by rw [add_none]; exact hr j u hj) hf (by simp only [maxLen]; omega) hby hB
    unfold OpWp
    have : (execOp (ev e) ⟨d, .call ⟨.builtin .append, #[s, x], #[tX, tX]⟩, ty, pos, aft, g⟩).run P w = .ok (.value v') w' := by
      simp only [execOp, resolve, invoke, builtin, Sem.run_bind, Sem.run_pure, Result.andThen_ok, List.map_toArray, List.map_cons, List.map_nil, hs, hx, h1]
    rw [this]
    exact ⟨h2, h5, chg_grownBy h3⟩
/-- append(v, x), v without room: a new row -/
theorem w_append0 {s x : Operand} {tS tX : TypeId} {E : TypeId} {i : TypeInfo} {z : Value} {m c sz : Nat} {news : List Value} {a a0 : Option Addr} (hu : P.underlying tS = some (.slice E)) (hX : tX = tS) (hi : P.info? E = some i) (hz : i.zero = some z) (hsz : i.size = sz) (hzs : z.cells.size = sz) (h0 : Nat.blt 0 sz = true)
    (hs : ev e s = .slice a0 0 0) (hx : ev e x = .slice a m c) (ha : SlAt w a news) (hl : news.length = m * sz) (hf : Flat news) (hm : 0 < m) (hlen : m ≤ 4611686018427387904) (hby : m * i.bytes ≤ 140737488355328) :
    OpWp P ⟨d, .call ⟨.builtin .append, #[s, x], #[tS, tX]⟩, ty, pos, aft, g⟩ e w (fun v' w' => Owns w' w.heap.size E sz v' m news ∧ Kept w w') := by
  subst hX
  have hsz0 : 0 < sz := by rw [Nat.blt_eq] at h0; exact h0
  rcases ha with ha | ⟨b, o, rfl, hr⟩
  · subst ha
    have : m * sz = 0 := by simpa using hl.symm
    rcases Nat.mul_eq_zero.1 this with h' | h' <;> omega
  · have key : ∃ v' w', (Builtin.append_ #[tX, tX] ty #[.slice a0 0 0, .slice (some ⟨b, o, none⟩) m c]).run P w = .ok v' w' ∧ w'.ownsRow w.heap.size E sz v' m news ∧ w.grownBy w' none := by
      cases a0 with
      | none =>
        obtain ⟨v', w', h1, h2, h3, _⟩ := run_append_own (P := P) w w.heap.size tX ty E i z sz i.bytes hu hi hz hsz rfl hzs hsz0 (.slice none 0 0) 0 [] (World.ownsRow_nil w _ E sz) ⟨b, o, none⟩ m c news hl (fun j u hj => by rw [add_none]; exact hr j u hj) hf (by simp only [maxLen]; omega) (by rw [Nat.zero_add]; exact hby) (Nat.le_refl _)
        rw [Nat.zero_add, List.nil_append] at h2
        exact ⟨v', w', h1, h2, h3⟩
      | some a1 =>
        obtain ⟨v', w', h1, h2, h3⟩ := run_append_arg_grows (P := P) w tX ty E i z sz i.bytes hu hi hz hsz rfl hzs hsz0 a1 0 0 [] (by simp) (by simp) ⟨b, o, none⟩ m c news hl (fun j u hj => by rw [add_none]; exact hr j u hj) (by omega) (by simp only [maxLen]; omega) (by rw [Nat.zero_add]; exact hby)
        rw [Nat.zero_add, List.nil_append] at h2
        exact ⟨v', w', h1, h2, h3⟩
    obtain ⟨v', w', h1, h2, h3⟩ := key
    unfold OpWp
    have : (execOp (ev e) ⟨d, .call ⟨.builtin .append, #[s, x], #[tX, tX]⟩, ty, pos, aft, g⟩).run P w = .ok (.value v') w' := by
      simp only [execOp, resolve, invoke, builtin, Sem.run_bind, Sem.run_pure, Result.andThen_ok, List.map_toArray, List.map_cons, List.map_nil, hs, hx, h1]
    rw [this]
    have := chg_grownBy (v := .slice none 0 0) h3
    exact ⟨h2, this.mono (fun b o _ m => by have : some b = none := m; cases this)⟩
/-- []T{x}, T of one cell -/
theorem w_build1 {t E : TypeId} {x : Operand} {i : TypeInfo} {z v : Value} (hu : P.underlying t = some (.slice E)) (hi : P.info? E = some i) (hz : i.zero = some z) (hsz : i.size = 1) (hzs : z.cells = #[z]) (hx : ev e x = v) (hv : v.cells = #[v]) :
    OpWp P ⟨d, .buildSlice t 1 #[(0, x)], ty, pos, aft, g⟩ e w (fun v' w' => ∃ bk, v' = .slice (some ⟨bk, 0, none⟩) 1 1 ∧ w.heap.size ≤ bk ∧ bk < w'.heap.size ∧ Owns w' w.heap.size E 1 v' 1 [v] ∧ Pc w' bk 0 [v] ∧ Kept w w') := by
  unfold OpWp
  have : (execOp (ev e) ⟨d, .buildSlice t 1 #[(0, x)], ty, pos, aft, g⟩).run P w = .ok (.value (.slice (some ⟨w.heap.size, 0, none⟩) 1 1)) (w.alloc (.cells #[v] E)) := by
    simp [execOp, Instr.buildSlice, run_underlying hu, sizeOf, typeInfo, hi, hsz, zeroValue, hz, hzs, hx, hv, Instr.fill, newRow, Sem.run_bind, Sem.run_pure, Result.andThen_ok]
    congr 2
    apply Array.ext
    · simp
    · intro j h1 h2
      have : j = 0 := by simp at h2; omega
      subst this
      simp
  rw [this]
  refine ⟨_, rfl, Nat.le_refl _, by simp, ⟨by simp, .inr ⟨_, 1, _, rfl, Nat.le_refl _, heap_alloc_new w _, Nat.le_refl _, by decide, rfl, rfl⟩⟩, ?_, chg_alloc _ _⟩
  exact pc_alloc w #[v] E
/-- a struct or an array by its parts -/
theorem r_buildP {t : TypeId} {parts : Array (Nat × Operand)} {cells : List Value} (h : P.built t (parts.toList.map fun x => (x.1, ev e x.2)) = some cells.toArray) :
    (execOp (ev e) ⟨d, .build t parts, ty, pos, aft, g⟩).run P w = .ok (.value (.agg cells.toArray)) w := by
  have hp : (parts.map fun (x : Nat × Operand) => (x.1, ev e x.2)).toList = parts.toList.map fun x => (x.1, ev e x.2) := by simp
  have := run_build (P := P) w t (parts.map fun (x : Nat × Operand) => (x.1, ev e x.2)) cells.toArray (by rw [hp]; exact h)
  simp only [execOp, Sem.run_bind, this, Result.andThen_ok, Sem.run_pure]
/-- element k of a slice whose elements have one cell -/
theorem r_loadSl1 {T : TypeId} {x : Operand} {a : Option Addr} {k : Nat} {cs : List Value} {v : Value} (hT : ∀ w, (isAgg T).run P w = .ok false w) (hx : ev e x = .pointer (some ((adr a).add (k * 1)))) (h : SlAt w a cs) (hv : cs[k]? = some v) :
    (execOp (ev e) ⟨d, .load T x, ty, pos, aft, g⟩).run P w = .ok (.value v) w := r_loadSl hT (by rw [hx, Nat.mul_one]) h hv
theorem SlAt.blk {a : Option Addr} {cs : List Value} (h : SlAt w a cs) (hc : cs ≠ []) : ∀ x, a = Option.some x → x.block < w.heap.size := by
  intro x hx
  rcases h with h | ⟨b, o, rfl, h⟩
  · exact (hc h).elim
  · cases hx
    cases cs with
    | nil => exact (hc rfl).elim
    | cons v cs => exact cell_lt (h 0 v rfl)
theorem bs_ne {l : List UInt8} (h : 0 < l.length) : bs l ≠ [] := by
  intro he
  have := congrArg List.length he
  rw [bs_length] at this
  simp at this
  subst this
  exact Nat.lt_irrefl _ h
/-- slices of octets, none of them empty -/
def SlsOk (w : World) (vs : List Value) (ls : List (List UInt8)) : Prop :=
  ls.length = vs.length ∧ ∀ k, k < ls.length → ∃ a n c, vs[k]? = some (.slice a n c) ∧ (ls.getD k []).length = n ∧ 0 < n ∧ n ≤ c ∧ SlAt w a (bs (ls.getD k []))
theorem SlsOk.kept {M : Nat → Nat → Prop} {w w' : World} {vs : List Value} {ls : List (List UInt8)} (h : SlsOk w vs ls) (k : Chg M w w') (hm : ∀ b o, b < w.heap.size → ¬ M b o) : SlsOk w' vs ls :=
  ⟨h.1, fun j hj => by
    obtain ⟨a, n, c, h1, h2, h3, h4, h5⟩ := h.2 j hj
    refine ⟨a, n, c, h1, h2, h3, h4, h5.kept k fun b o ha i hi => hm _ _ ?_⟩
    exact SlAt.blk h5 (bs_ne (by omega)) _ ha⟩
theorem SlsOk.k {w w' : World} {vs : List Value} {ls : List (List UInt8)} (h : SlsOk w vs ls) (k : Kept w w') : SlsOk w' vs ls := h.kept k fun _ _ _ => id
theorem ko_bs {l : List UInt8} {o o2 n : Nat} (h : o + l.length ≤ o2 ∨ o2 + n ≤ o) : o + (bs l).length ≤ o2 ∨ o2 + n ≤ o := by rw [bs_length]; exact h
theorem flat_succ (ls : List (List UInt8)) (k : Nat) (h : k < ls.length) : (ls.take (k + 1)).flatten = (ls.take k).flatten ++ ls.getD k [] := by
  rw [List.take_add_one, List.flatten_append]
  simp [h]
end Go.Eng
