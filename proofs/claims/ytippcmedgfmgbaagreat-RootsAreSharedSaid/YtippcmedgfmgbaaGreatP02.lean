/- YtippcmedgfmgbaaGreatP02: a calculus of walks, plain facts of the numbers that are shared, and contracts of functions of the program: called in any world that meets a contract's premises, a function returns what the contract says and changes no more than it says. -/
import Derived.Test.YtippcmedgfmgbaaGreatP01
import Derived.Maps.AppendAt
import Derived.ArgAppend
import Derived.Laws.Tables
import Derived.Laws.Cover3
import Derived.Stop.BytesEq
import Derived.Lib.Tables
import Derived.Laws.IdiomStrings
import Derived.Lib.BufferRead
import Derived.MapKept
import Derived.RangeFuncNested
import Derived.RangeFuncBound
import Derived.RangeFuncCalls
import Derived.RangeFuncLeaves
import Derived.RangeFuncGives
section
open Go Go.Eng
namespace Go.Eng
variable {P : Program} {w : World} {e : Env} {d : Option Nat} {ty : TypeId} {pos : String} {aft : Array Edge} {g : Option (Nat × Bool)}
/-- append(v, x), and where the new row lies -/
theorem w_appendAt {s x : Operand} {tS tX : TypeId} {B : Nat} {E : TypeId} {i : TypeInfo} {z v : Value} {n m c sz : Nat} {cs news : List Value} {a : Option Addr} (hu : P.underlying tS = some (.slice E)) (hX : tX = tS) (hi : P.info? E = some i) (hz : i.zero = some z) (hsz : i.size = sz) (hzs : z.cells.size = sz) (h0 : Nat.blt 0 sz = true)
    (hs : ev e s = v) (hown : Owns w B E sz v n cs) (hx : ev e x = .slice a m c) (ha : SlAt w a news) (hl : news.length = m * sz) (hf : Flat news) (hm : 0 < m) (hlen : n + m ≤ 4611686018427387904) (hby : (n + m) * i.bytes ≤ 140737488355328) (hB : B ≤ w.heap.size) :
    OpWp P ⟨d, .call ⟨.builtin .append, #[s, x], #[tS, tX]⟩, ty, pos, aft, g⟩ e w (fun v' w' => Owns w' B E sz v' (n + m) (cs ++ news) ∧ (v'.ownBlock = v.ownBlock ∨ v'.ownBlock = some w.heap.size) ∧ Chg (ob v) w w') := by
  subst hX
  have hsz0 : 0 < sz := by rw [Nat.blt_eq] at h0; exact h0
  rcases ha with ha | ⟨b, o, rfl, hr⟩
  · subst ha
    have : m * sz = 0 := by simpa using hl.symm
    rcases Nat.mul_eq_zero.1 this with h' | h' <;> omega
  · obtain ⟨v', w', h1, h2, h3, _, h5⟩ := run_append_own_at (P := P) w B tX ty E i z sz i.bytes hu hi hz hsz rfl hzs hsz0 v n cs hown ⟨b, o, none⟩ m c news hl (fun j u hj => by rw [add_none]; exact hr j u hj) hf (by simp only [maxLen]; omega) hby hB
    unfold OpWp
    have : (execOp (ev e) ⟨d, .call ⟨.builtin .append, #[s, x], #[tX, tX]⟩, ty, pos, aft, g⟩).run P w = .ok (.value v') w' := by
      simp only [execOp, resolve, invoke, builtin, Sem.run_bind, Sem.run_pure, Result.andThen_ok, List.map_toArray, List.map_cons, List.map_nil, hs, hx, h1]
    rw [this]
    exact ⟨h2, h5, chg_grownBy h3⟩
/-- []T{x}, T of one cell -/
theorem w_build1 {t E : TypeId} {x : Operand} {i : TypeInfo} {z v : Value} (hu : P.underlying t = some (.slice E)) (hi : P.info? E = some i) (hz : i.zero = some z) (hsz : i.size = 1) (hzs : z.cells = #[z]) (hx : ev e x = v) (hv : v.cells = #[v]) :
    OpWp P ⟨d, .buildSlice t 1 #[(0, x)], ty, pos, aft, g⟩ e w (fun v' w' => ∃ bk, v' = .slice (some ⟨bk, 0, none⟩) 1 1 ∧ w.heap.size ≤ bk ∧ bk < w'.heap.size ∧ Owns w' w.heap.size E 1 v' 1 [v] ∧ Pc w' bk 0 [v] ∧ Kept w w') := by
  unfold OpWp
  have : (execOp (ev e) ⟨d, .buildSlice t 1 #[(0, x)], ty, pos, aft, g⟩).run P w = .ok (.value (.slice (some ⟨w.heap.size, 0, none⟩) 1 1)) (w.alloc (.cells #[v] E)) := by
    simp [execOp, Instr.buildSlice, run_underlying hu, sizeOf, typeInfo, hi, hsz, zeroValue, hz, hzs, hx, hv, Instr.fill, newRow, Sem.run_bind, Sem.run_pure, Result.andThen_ok]
    congr 2
    apply Array.ext
    · simp
    · intro j h1 h2
      have : j = 0 := by simp at h2; omega
      subst this
      simp
  rw [this]
  refine ⟨_, rfl, Nat.le_refl _, by simp, ⟨by simp, .inr ⟨_, 1, _, rfl, Nat.le_refl _, heap_alloc_new w _, Nat.le_refl _, by decide, rfl, rfl⟩⟩, ?_, chg_alloc _ _⟩
  exact pc_alloc w #[v] E
/-- a struct or an array by its parts -/
theorem r_buildP {t : TypeId} {parts : Array (Nat × Operand)} {cells : List Value} (h : P.built t (parts.toList.map fun x => (x.1, ev e x.2)) = some cells.toArray) :
    (execOp (ev e) ⟨d, .build t parts, ty, pos, aft, g⟩).run P w = .ok (.value (.agg cells.toArray)) w := by
  have hp : (parts.map fun (x : Nat × Operand) => (x.1, ev e x.2)).toList = parts.toList.map fun x => (x.1, ev e x.2) := by simp
  have := run_build (P := P) w t (parts.map fun (x : Nat × Operand) => (x.1, ev e x.2)) cells.toArray (by rw [hp]; exact h)
  simp only [execOp, Sem.run_bind, this, Result.andThen_ok, Sem.run_pure]
/-- element k of a slice whose elements have one cell -/
theorem r_loadSl1 {T : TypeId} {x : Operand} {a : Option Addr} {k : Nat} {cs : List Value} {v : Value} (hT : ∀ w, (isAgg T).run P w = .ok false w) (hx : ev e x = .pointer (some ((adr a).add (k * 1)))) (h : SlAt w a cs) (hv : cs[k]? = some v) :
    (execOp (ev e) ⟨d, .load T x, ty, pos, aft, g⟩).run P w = .ok (.value v) w := r_loadSl hT (by rw [hx, Nat.mul_one]) h hv
theorem SlAt.blk {a : Option Addr} {cs : List Value} (h : SlAt w a cs) (hc : cs ≠ []) : ∀ x, a = Option.some x → x.block < w.heap.size := by
  intro x hx
  rcases h with h | ⟨b, o, rfl, h⟩
  · exact (hc h).elim
  · cases hx
    cases cs with
    | nil => exact (hc rfl).elim
    | cons v cs => exact cell_lt (h 0 v rfl)
theorem bs_ne {l : List UInt8} (h : 0 < l.length) : bs l ≠ [] := by
  intro he
  have := congrArg List.length he
  rw [bs_length] at this
  simp at this
  subst this
  exact Nat.lt_irrefl _ h
/-- slices of octets, none of them empty -/
def SlsOk (w : World) (vs : List Value) (ls : List (List UInt8)) : Prop :=
  ls.length = vs.length ∧ ∀ k, k < ls.length → ∃ a n c, vs[k]? = some (.slice a n c) ∧ (ls.getD k []).length = n ∧ 0 < n ∧ n ≤ c ∧ SlAt w a (bs (ls.getD k []))
theorem SlsOk.kept {M : Nat → Nat → Prop} {w w' : World} {vs : List Value} {ls : List (List UInt8)} (h : SlsOk w vs ls) (k : Chg M w w') (hm : ∀ b o, b < w.heap.size → ¬ M b o) : SlsOk w' vs ls :=
  ⟨h.1, fun j hj => by
    obtain ⟨a, n, c, h1, h2, h3, h4, h5⟩ := h.2 j hj
    refine ⟨a, n, c, h1, h2, h3, h4, h5.kept k fun b o ha i hi => hm _ _ ?_⟩
    exact SlAt.blk h5 (bs_ne (by omega)) _ ha⟩
theorem SlsOk.k {w w' : World} {vs : List Value} {ls : List (List UInt8)} (h : SlsOk w vs ls) (k : Kept w w') : SlsOk w' vs ls := h.kept k fun _ _ _ => id
theorem ko_bs {l : List UInt8} {o o2 n : Nat} (h : o + l.length ≤ o2 ∨ o2 + n ≤ o) : o + (bs l).length ≤ o2 ∨ o2 + n ≤ o := by rw [bs_length]; exact h
theorem flat_succ (ls : List (List UInt8)) (k : Nat) (h : k < ls.length) : (ls.take (k + 1)).flatten = (ls.take k).flatten ++ ls.getD k [] := by
  rw [List.take_add_one, List.flatten_append]
  simp [h]
end Go.Eng
end
section
open Go Go.Eng
namespace Go.Eng
variable {P : Program} {w : World} {e : Env} {d : Option Nat} {ty : TypeId} {pos : String} {aft : Array Edge} {g : Option (Nat × Bool)}
theorem zeroCells_one (z : Value) (n : Nat) : (Builtin.zeroCells #[z] n) = (List.replicate n z).toArray := by
  apply Array.ext
  · simp [Builtin.zeroCells]
  · intro j h1 h2
    simp [Builtin.zeroCells] at h1 ⊢
    have : j % 1 = 0 := Nat.mod_one j
    simp [this]
/-- append(v, make([]T, m)...): the m zeros are never laid -/
theorem w_appendZ {s x : Operand} {tS tX : TypeId} {B : Nat} {E : TypeId} {i : TypeInfo} {z v : Value} {n m : Nat} {cs : List Value} {q : Int} {k : IntKind} (hu : P.underlying tS = some (.slice E)) (hX : P.underlying tX = some (.int k)) (hi : P.info? E = some i) (hz : i.zero = some z) (hsz : i.size = 1) (hzs : z.cells = #[z]) (hz1 : one z = true)
    (hs : ev e s = v) (hown : Owns w B E 1 v n cs) (hx : ev e x = i64 q) (hq : q = (m : Int)) (hm : 0 < m) (hlen : n + m ≤ 4611686018427387904) (hby : (n + m) * i.bytes ≤ 140737488355328) (hB : B ≤ w.heap.size) :
    OpWp P ⟨d, .call ⟨.builtin .append, #[s, x], #[tS, tX]⟩, ty, pos, aft, g⟩ e w (fun v' w' => Owns w' B E 1 v' (n + m) (cs ++ List.replicate m z) ∧ Chg (ob v) w w') := by
  subst hq
  have hmax : n + m ≤ maxLen := by simp only [maxLen]; omega
  have hwr : IntKind.i64.wrap (m : Int) = (m : Int) := wrap_i64_of _ (by omega)
  have hneg : ¬ ((m : Int) < 0) := by omega
  have hmb : m * i.bytes ≤ 140737488355328 := Nat.le_trans (Nat.mul_le_mul_right _ (by omega)) hby
  have hbig : ¬ (281474976710656 < (m : Int) * (i.bytes : Int)) := by rw [← Int.natCast_mul]; omega
  have hl : (cs ++ List.replicate m z).length = (n + m) * 1 := by rw [List.length_append, hown.1, List.length_replicate]; omega
  have grown : ∀ (old : Nat), old < n + m → ∀ (row : Option Nat),
      (w.drew.alloc (.cells (cs.toArray ++ (List.replicate m z).toArray ++ Builtin.zeroCells z.cells (grownCap w (n + m) old E - (n + m))) E)).ownsRow B E 1
        (.slice (some ⟨w.heap.size, 0, none⟩) (n + m) (grownCap w (n + m) old E)) (n + m) (cs ++ List.replicate m z) ∧
      w.grownBy (w.drew.alloc (.cells (cs.toArray ++ (List.replicate m z).toArray ++ Builtin.zeroCells z.cells (grownCap w (n + m) old E - (n + m))) E)) row := by
    intro old ho row
    have hge := grownCap_ge w (n + m) old E
    have hcm : grownCap w (n + m) old E ≤ maxLen := grownCap_le_maxLen w (n + m) old E hmax
    refine ⟨⟨hl, .inr ⟨w.heap.size, _, _, rfl, hB, heap_alloc_new w.drew _, hge, hcm, ?_, ?_⟩⟩, ⟨rfl, rfl, rfl, by simp, fun k' hk _ => by first | exact heap_alloc_old w.drew _ hk | exact heap_alloc_old w.drew _ k' hk⟩⟩
    · simp only [Array.size_append, List.size_toArray, size_zeroCells, hzs, hown.1, List.length_replicate, List.size_toArray, List.length_cons, List.length_nil]
      omega
    · simp only [Array.toList_append, List.append_assoc]
      rw [← List.append_assoc, ← hl]
      exact List.take_left
  have key : ∃ v' w', (Builtin.append_ #[tS, tX] ty #[v, i64 (m : Int)]).run P w = .ok v' w' ∧ w'.ownsRow B E 1 v' (n + m) (cs ++ List.replicate m z) ∧ w.grownBy w' v.ownBlock := by
    rcases hown.2 with ⟨rfl, rfl⟩ | ⟨g', cap, cur, rfl, hbg, hg, hnc, hcm, hcs, htake⟩
    · have hx : cs = [] := List.eq_nil_of_length_eq_zero (by simpa using hown.1)
      subst hx
      have hgr := grown 0 (by omega) (Value.ownBlock (.slice none 0 0))
      simp only [Nat.zero_add, List.nil_append, Array.empty_append] at hgr ⊢
      refine ⟨_, _, ?_, hgr.1, hgr.2⟩
      have hn : ¬ (m = 0) := by omega
      have h63' : ¬ (9223372036854775807 < (m : Int)) := by omega
      have h48' : ¬ (281474976710656 < Builtin.nextslicecap m 0 * i.bytes) := by rw [nextslicecap_zero hm]; omega
      simp [Builtin.append_, run_underlying hu, run_underlying hX, sizeOf, typeInfo, zeroValue, hi, hz, hsz, hzs, hwr, hneg, hbig, hn, h63', h48', Question.forced, run_firstCells_none, newRow, grownCap, zeroCells_one, asInt, asIntOf, i64]
    · by_cases hroom : n + m ≤ cap
      · have hst := run_storeCells_at P g' (n * 1) E (List.replicate m z) 0 cur w hg (by rw [List.length_replicate, hcs]; omega) (by intro u hu; rw [List.mem_replicate] at hu; rw [hu.2]; exact hz1)
        simp only [Nat.add_zero, Nat.mul_one] at hst
        refine ⟨.slice (some ⟨g', 0, none⟩) (n + m) cap, _, ?_, ⟨hl, .inr ⟨g', cap, _, rfl, hbg, setRow_heap w g' cur (cur.toList.take n ++ List.replicate m z ++ cur.toList.drop (n + m)).toArray _ _ hg, hroom, hcm, ?_, ?_⟩⟩, ⟨rfl, rfl, rfl, by simp, fun k _ hk => setRow_other w g' k _ (fun e => hk (by simp [Value.ownBlock, e]))⟩⟩
        · have hn : ¬ (m = 0) := by omega
          simp [Builtin.append_, run_underlying hu, run_underlying hX, sizeOf, typeInfo, zeroValue, hi, hz, hsz, hzs, hwr, hneg, hbig, hn, hroom, zeroCells_one, asInt, asIntOf, i64, Addr.add_lit, hst]
        · simp only [List.size_toArray, List.length_append, List.length_take, List.length_drop, Array.length_toList, List.length_replicate]
          omega
        · have ht' : cur.toList.take n = cs := by simpa using htake
          rw [ht', ← hl]
          exact List.take_left
      · have holds : ∀ j u, cs[j]? = some u → w.cell? ((⟨g', 0, none⟩ : Addr).add j) = some u := hown.cells (g := g') rfl
        have hgr := grown cap (by omega) (Value.ownBlock (.slice (some ⟨g', 0, none⟩) n cap))
        refine ⟨_, _, ?_, hgr.1, hgr.2⟩
        have hn : ¬ (m = 0) := by omega
        have h63' : ¬ (9223372036854775807 < (n : Int) + (m : Int)) := by omega
        have h48' : ¬ (281474976710656 < Builtin.nextslicecap (n + m) cap * i.bytes) := by have := growslice_fits (old := cap) (need := n + m) (bytes := i.bytes) (by omega) hby; omega
        have hfo := run_firstCells_some (P := P) w.drew i.size n ⟨g', 0, none⟩ n cap cs (by rw [hsz]; exact hown.1) (by simpa using holds)
        rw [hsz] at hfo
        simp [Builtin.append_, run_underlying hu, run_underlying hX, sizeOf, typeInfo, zeroValue, hi, hz, hsz, hzs, hwr, hneg, hbig, hn, hroom, h63', h48', Question.forced, hfo, newRow, grownCap, zeroCells_one, asInt, asIntOf, i64]
  obtain ⟨v', w', h1, h2, h3⟩ := key
  unfold OpWp
  have : (execOp (ev e) ⟨d, .call ⟨.builtin .append, #[s, x], #[tS, tX]⟩, ty, pos, aft, g⟩).run P w = .ok (.value v') w' := by
    simp only [execOp, resolve, invoke, builtin, Sem.run_bind, Sem.run_pure, Result.andThen_ok, List.map_toArray, List.map_cons, List.map_nil, hs, hx, h1]
  rw [this]
  exact ⟨h2, chg_grownBy h3⟩
/-- []T{}: a slice that is not nil -/
theorem w_build0 {sz : Nat} {t E : TypeId} {i : TypeInfo} {z : Value} (hu : P.underlying t = some (.slice E)) (hi : P.info? E = some i) (hz : i.zero = some z) (hsz : i.size = sz) :
    OpWp P ⟨d, .buildSlice t 0 #[], ty, pos, aft, g⟩ e w (fun v' w' => Owns w' w.heap.size E sz v' 0 [] ∧ Kept w w') := by
  unfold OpWp
  have : (execOp (ev e) ⟨d, .buildSlice t 0 #[], ty, pos, aft, g⟩).run P w = .ok (.value (.slice (some ⟨w.heap.size, 0, none⟩) 0 0)) (w.alloc (.cells #[] E)) := by
    simp [execOp, Instr.buildSlice, run_underlying hu, sizeOf, typeInfo, hi, hsz, zeroValue, hz, Instr.fill, newRow, Sem.run_bind, Sem.run_pure, Result.andThen_ok]
    congr 2
    apply Array.ext
    · simp
    · intro j h1 h2
      simp at h2
  rw [this]
  exact ⟨⟨by simp, .inr ⟨_, 0, _, rfl, Nat.le_refl _, heap_alloc_new w _, Nat.le_refl _, by decide, by simp, by simp⟩⟩, chg_alloc _ _⟩
/-- a slice and nil -/
theorem r_eqNil {t t' el : TypeId} {x : Operand} {a : Option Addr} {n c : Nat} (hu : P.underlying t = some (.slice el)) (hx : ev e x = .slice a n c) : (execOp (ev e) ⟨d, .binOp .eql t x (.const (.slice none 0 0)) t', ty, pos, aft, g⟩).run P w = .ok (.value (.bool a.isNone)) w := by
  have := run_equal_slice_nil (P := P) w t el a n c hu
  have hc : ev e (.const (.slice none 0 0)) = .slice none 0 0 := rfl
  cases a <;> simp [execOp, hx, hc, eqGuard, binOp, Sem.run_bind, Sem.run_pure, Result.andThen_ok, this]
/-- arrays of octets -/
theorem r_eqArr {t t' el : TypeId} {x y : Operand} {n : Nat} {l m : List UInt8} (ht : P.underlying t = some (.array n el)) (he : P.underlying el = some (.int .u8)) (hs : ∀ w, (sizeOf el).run P w = .ok 1 w) (hx : ev e x = .agg (bs l).toArray) (hy : ev e y = .agg (bs m).toArray) (hl : l.length = n) (hm : m.length = n) (hg : P.eqGuardType P.depth t = false) :
    (execOp (ev e) ⟨d, .binOp .eql t x y t', ty, pos, aft, g⟩).run P w = .ok (.value (.bool (decide (l = m)))) w := by
  have h := run_eql_bytes (P := P) w t el n ht he hs l m hl hm
  have hb : ∀ l : List UInt8, l.map Extern.Stop.cell = bs l := fun _ => rfl
  rw [hb, hb] at h
  simp only [execOp, hx, hy, Sem.run_bind, run_eqGuard_agg w _ t _ _ _ _ hg, Result.andThen_ok]
  rw [h]
  simp only [Result.andThen_ok, Sem.run_pure]
  congr 3
  rw [Bool.eq_iff_iff]; simp
theorem r_neqArr {t t' el : TypeId} {x y : Operand} {n : Nat} {l m : List UInt8} (ht : P.underlying t = some (.array n el)) (he : P.underlying el = some (.int .u8)) (hs : ∀ w, (sizeOf el).run P w = .ok 1 w) (hx : ev e x = .agg (bs l).toArray) (hy : ev e y = .agg (bs m).toArray) (hl : l.length = n) (hm : m.length = n) (hg : P.eqGuardType P.depth t = false) :
    (execOp (ev e) ⟨d, .binOp .neq t x y t', ty, pos, aft, g⟩).run P w = .ok (.value (.bool (decide (l ≠ m)))) w := by
  have h := run_equalIn_bytes (P := P) w 9998 t el n ht he hs l m hl hm
  have hb : ∀ l : List UInt8, l.map Extern.Stop.cell = bs l := fun _ => rfl
  rw [hb, hb] at h
  simp only [execOp, hx, hy, Sem.run_bind, run_eqGuard_agg w _ t _ _ _ _ hg, Result.andThen_ok]
  rw [run_neq_struct, h]
  simp only [Result.andThen_ok, Sem.run_pure]
  congr 3
  rw [Bool.eq_iff_iff]; simp
theorem Owns.takeN {B : Nat} {E : TypeId} {sz n n2 c : Nat} {a : Option Addr} {cs : List Value} (h : Owns w B E sz (.slice a n c) n cs) (hn : n2 ≤ n) : Owns w B E sz (.slice a n2 c) n2 (cs.take (n2 * sz)) := by
  have hl := h.1
  refine ⟨by rw [List.length_take, hl]; exact Nat.min_eq_left (Nat.mul_le_mul_right _ hn), ?_⟩
  rcases h.2 with ⟨he, h0⟩ | ⟨g', cap, cur, he, hb, hg, hnc, hm, hsz, ht⟩
  · cases he
    obtain rfl : n2 = 0 := by omega
    exact .inl ⟨rfl, rfl⟩
  · cases he
    refine .inr ⟨g', c, cur, rfl, hb, hg, by omega, hm, hsz, ?_⟩
    rw [← ht, List.take_take]
    congr 1
    exact (Nat.min_eq_left (Nat.mul_le_mul_right _ hn)).symm
theorem cutA_zero (a : Option Addr) (m sz : Nat) : cutA a 0 m sz = a := by
  unfold cutA
  split
  · rfl
  · cases a with
    | none => rfl
    | some x => simp [Addr.add]; try (cases x; rfl)
end Go.Eng
namespace Go.Eng
theorem Owns.nilB {w : World} {B : Nat} {E : TypeId} {sz n : Nat} {v : Value} {X : List UInt8} (h : Owns w B E sz v n ([] ++ bs X)) : Owns w B E sz v n (bs X) := h
theorem Owns.appB {w : World} {B : Nat} {E : TypeId} {sz n : Nat} {v : Value} {X Y : List UInt8} (h : Owns w B E sz v n (bs X ++ bs Y)) : Owns w B E sz v n (bs (X ++ Y)) := by rw [bs_append]; exact h
theorem Owns.appZ {w : World} {B : Nat} {E : TypeId} {sz n m : Nat} {v : Value} {X : List UInt8} (h : Owns w B E sz v n (bs X ++ List.replicate m (u8 0))) : Owns w B E sz v n (bs (X ++ List.replicate m 0)) := by rw [bs_append, bs_rep]; exact h
theorem Owns.nilZ {w : World} {B : Nat} {E : TypeId} {sz n m : Nat} {v : Value} (h : Owns w B E sz v n ([] ++ List.replicate m (u8 0))) : Owns w B E sz v n (bs (List.replicate m 0)) := by rw [bs_rep]; exact h
theorem cutA_lo {a : Option Addr} {l m sz B : Nat} (h : ∀ x, a = some x → B ≤ x.block) : ∀ x, cutA a l m sz = some x → B ≤ x.block := by
  intro y hc
  unfold cutA at hc
  split at hc
  · exact h y hc
  · cases a with
    | none => cases hc
    | some x =>
      simp only [Option.map_some, Option.some.injEq] at hc
      rw [← hc]
      have : (x.add (l * sz)).block = x.block := by unfold Addr.add; split <;> rfl
      rw [this]
      exact h x rfl
theorem Owns.lo {w : World} {B : Nat} {E : TypeId} {sz n n' c : Nat} {a : Option Addr} {cs : List Value} (h : Owns w B E sz (.slice a n c) n' cs) : ∀ x, a = some x → B ≤ x.block := by
  obtain ⟨a', c', he, _, _, hb⟩ := Owns.form h
  cases he
  exact hb
end Go.Eng
namespace Go.Eng
theorem r_indexSlP {P : Program} {w : World} {e : Env} {d : Option Nat} {ty : TypeId} {pos : String} {aft : Array Edge} {g : Option (Nat × Bool)} {t el : TypeId} {x y : Operand} {kk : IntKind} {i : Int} {k n c sz b o : Nat} {cs : List Value} (hu : ∀ w, (underlying t).run P w = .ok (.slice el) w) (hs : ∀ w, (sizeOf el).run P w = .ok sz w)
    (hx : ev e x = .slice (some ⟨b, o, none⟩) n c) (ha : Rd w b o cs) (hc : cs ≠ []) (hy : ev e y = .int kk i) (hi : i = (k : Int)) (hk : k < n) : (execOp (ev e) ⟨d, .indexAddr t x y, ty, pos, aft, g⟩).run P w = .ok (.value (.pointer (some ⟨b, o + k * sz, none⟩))) w := by
  rw [r_indexSl hu hs hx (SlAt.some ha) hc hy hi hk]
  show Result.ok (Next.value (Value.pointer (some ((⟨b, o, none⟩ : Addr).add (k * sz))))) w = _
  rw [add_none]
end Go.Eng
namespace Go.Eng
variable {P : Program} {w : World} {e : Env} {d : Option Nat} {ty : TypeId} {pos : String} {aft : Array Edge} {g : Option (Nat × Bool)}
theorem r_cap {t : TypeId} {x : Operand} {el : TypeId} {a : Option Addr} {n c : Nat} (hu : ∀ w, (underlying t).run P w = .ok (.slice el) w) (hx : ev e x = .slice a n c) :
    (execOp (ev e) ⟨d, .call ⟨.builtin .cap, #[x], #[t]⟩, ty, pos, aft, g⟩).run P w = .ok (.value (i64 c)) w := by
  simp [execOp, resolve, invoke, builtin, Builtin.cap_, hx, Sem.run_bind, hu, goInt]
/-- []T{x, y}, T of one cell -/
theorem w_build2 {t E : TypeId} {x y : Operand} {i : TypeInfo} {z v u : Value} (hu : P.underlying t = some (.slice E)) (hi : P.info? E = some i) (hz : i.zero = some z) (hsz : i.size = 1) (hzs : z.cells = #[z]) (hx : ev e x = v) (hy : ev e y = u) (hv : v.cells = #[v]) (huc : u.cells = #[u]) :
    OpWp P ⟨d, .buildSlice t 2 #[(0, x), (1, y)], ty, pos, aft, g⟩ e w (fun v' w' => ∃ bk, v' = .slice (some ⟨bk, 0, none⟩) 2 2 ∧ w.heap.size ≤ bk ∧ bk < w'.heap.size ∧ Owns w' w.heap.size E 1 v' 2 [v, u] ∧ Pc w' bk 0 [v, u] ∧ Kept w w') := by
  unfold OpWp
  have : (execOp (ev e) ⟨d, .buildSlice t 2 #[(0, x), (1, y)], ty, pos, aft, g⟩).run P w = .ok (.value (.slice (some ⟨w.heap.size, 0, none⟩) 2 2)) (w.alloc (.cells #[v, u] E)) := by
    simp [execOp, Instr.buildSlice, run_underlying hu, sizeOf, typeInfo, hi, hsz, zeroValue, hz, hzs, hx, hy, hv, huc, Instr.fill, newRow, Sem.run_bind, Sem.run_pure, Result.andThen_ok]
    congr 2
    apply Array.ext
    · simp
    · intro j h1 h2
      have : j = 0 ∨ j = 1 := by simp at h2; omega
      rcases this with rfl | rfl <;> simp
  rw [this]
  refine ⟨_, rfl, Nat.le_refl _, by simp, ⟨by simp, .inr ⟨_, 2, _, rfl, Nat.le_refl _, heap_alloc_new w _, Nat.le_refl _, by decide, rfl, rfl⟩⟩, ?_, chg_alloc _ _⟩
  exact pc_alloc w #[v, u] E
end Go.Eng
namespace Go.Eng
variable {P : Program} {w : World} {e : Env} {d : Option Nat} {ty : TypeId} {pos : String} {aft : Array Edge} {g : Option (Nat × Bool)}
theorem r_indexStr {t : TypeId} {x y : Operand} {s : ByteArray} {k : Nat} {b : UInt8} {kk : IntKind} {i : Int} (hu : ∀ w, (underlying t).run P w = .ok .string w) (hx : ev e x = .string s) (hy : ev e y = .int kk i) (hi : i = (k : Int)) (hb : s[k]? = some b) :
    (execOp (ev e) ⟨d, .index t x y, ty, pos, aft, g⟩).run P w = .ok (.value (u8 b)) w := by
  subst hi
  have h0 : (0 : Int) ≤ (k : Int) := by omega
  simp [execOp, hx, hy, Instr.index, asIntOf, Sem.run_bind, hu, h0, hb, u8]
theorem foldset (k : Nat) (l : List Value) : ∀ (j : Nat) (z : List Value), k + j + l.length ≤ z.length → (l.zipIdx j).foldl (fun (cs : Array Value) (x : Value × Nat) => cs.setIfInBounds (k + x.2) x.1) z.toArray = (z.take (k + j) ++ l ++ z.drop (k + j + l.length)).toArray := by
  induction l with
  | nil => intro j z _; simp
  | cons v l ih =>
    intro j z hk
    simp only [List.length_cons] at hk
    rw [List.zipIdx_cons, List.foldl_cons]
    have e1 : (z.toArray.setIfInBounds (k + j) v) = (z.set (k + j) v).toArray := by simp
    show List.foldl _ (z.toArray.setIfInBounds (k + j) v) _ = _
    rw [e1, ih (j + 1) (z.set (k + j) v) (by simp; omega)]
    congr 1
    rw [List.take_set, List.drop_set_of_lt (by omega), List.length_cons, show k + (j + 1) = k + j + 1 by omega, List.take_add_one, show k + j + 1 + l.length = k + j + (l.length + 1) by omega]
    have hlt : k + j < z.length := by omega
    rw [List.set_append_right _ _ (by rw [List.length_take]; omega)]
    have : min (k + j) z.length = k + j := by omega
    simp [hlt, this]
theorem fill_whole (sz : Nat) (cs : List Value) (z : List Value) (hn : cs.length = sz) (hz : z.length = sz) : Instr.fill (fun i => some (i * sz, sz)) z.toArray [(0, .agg cs.toArray)] = some cs.toArray := by
  have h := foldset (0 * sz) cs 0 z (by omega)
  have h2 : Array.foldl (fun (c : Array Value) (x : Value × Nat) => c.setIfInBounds (0 * sz + x.2) x.1) z.toArray cs.toArray.zipIdx = cs.toArray := by
    rw [← Array.foldl_toList, Array.toList_zipIdx]
    refine h.trans ?_
    simp
    omega
  have hc : (Value.agg cs.toArray).cells = cs.toArray := rfl
  simp only [Instr.fill, hc]
  rw [if_neg (by simp; omega), h2]
/-- []T{x}, x of sz cells -/
theorem w_buildA1 {t E : TypeId} {x : Operand} {i : TypeInfo} {z : Value} {cs : List Value} {sz : Nat} (hu : P.underlying t = some (.slice E)) (hi : P.info? E = some i) (hz : i.zero = some z) (hsz : i.size = sz) (hzs : z.cells.size = sz) (h0 : Nat.blt 0 sz = true) (hbig : Nat.ble sz 16777216 = true) (hx : ev e x = .agg cs.toArray) (hn : cs.length = sz) :
    OpWp P ⟨d, .buildSlice t 1 #[(0, x)], ty, pos, aft, g⟩ e w (fun v' w' => ∃ bk, v' = .slice (some ⟨bk, 0, none⟩) 1 1 ∧ w.heap.size ≤ bk ∧ bk < w'.heap.size ∧ Owns w' w.heap.size E sz v' 1 cs ∧ Pc w' bk 0 cs ∧ Kept w w') := by
  have hsz0 : sz ≠ 0 := by rw [Nat.blt_eq] at h0; omega
  have hbig' : ¬ (16777216 < sz) := by rw [Nat.ble_eq] at hbig; omega
  have hfill : Instr.fill (fun i => some (i * sz, sz)) ((Array.range (1 * sz)).map (z.cells[· % z.cells.size]!)) [(0, .agg cs.toArray)] = some cs.toArray := by
    have := fill_whole sz cs ((Array.range (1 * sz)).map (z.cells[· % z.cells.size]!)).toList hn (by simp)
    rwa [Array.toArray_toList] at this
  unfold OpWp
  have : (execOp (ev e) ⟨d, .buildSlice t 1 #[(0, x)], ty, pos, aft, g⟩).run P w = .ok (.value (.slice (some ⟨w.heap.size, 0, none⟩) 1 1)) (w.alloc (.cells cs.toArray E)) := by
    have hp : (#[(0, x)].map fun (y : Nat × Operand) => (y.1, ev e y.2)) = #[(0, .agg cs.toArray)] := by simp [hx]
    simp only [execOp, Instr.buildSlice, Sem.run_bind, run_underlying hu, Result.andThen_ok, sizeOf, typeInfo, hp]
    simp [hi, hsz, hsz0, hbig', zeroValue, hz, newRow, Sem.run_bind, Sem.run_pure, Result.andThen_ok]
    rw [Nat.one_mul] at hfill
    simp [typeInfo, hi, hz, hfill]
  rw [this]
  refine ⟨_, rfl, Nat.le_refl _, by simp, ⟨by rw [hn, Nat.one_mul], .inr ⟨_, 1, _, rfl, Nat.le_refl _, heap_alloc_new w _, Nat.le_refl _, by decide, by simp [hn], ?_⟩⟩, ?_, chg_alloc _ _⟩
  · rw [List.take_of_length_le (by simp; omega)]
  · exact pc_alloc w cs.toArray E
end Go.Eng
end
section
open Go Go.Eng
namespace Go.Eng
variable {P : Program} {w : World} {e : Env} {d : Option Nat} {ty : TypeId} {pos : String} {aft : Array Edge} {g : Option (Nat × Bool)}
theorem r_shl1 {t t' : TypeId} {x y : Operand} {yk : IntKind} {k : Nat} {b : Int} (hx : ev e x = i64 1) (hy : ev e y = .int yk b) (hb : b = (k : Int)) (hk : k ≤ 62) : (execOp (ev e) ⟨d, .binOp .shl t x y t', ty, pos, aft, g⟩).run P w = .ok (.value (i64 ((2 ^ k : Nat) : Int))) w := by
  subst hb
  rw [r_shl hx hy (by omega)]
  have h1 : min ((k : Int).toNat) IntKind.i64.bits = k := by rw [show IntKind.i64.bits = 64 from rfl, Int.toNat_natCast]; omega
  have h2 : (2 ^ k : Nat) ≤ 2 ^ 62 := Nat.pow_le_pow_right (by decide) hk
  have h3 : (2 ^ 62 : Nat) = 4611686018427387904 := by decide
  have h4 : (1 : Int) * 2 ^ k = ((2 ^ k : Nat) : Int) := by rw [Int.one_mul]; exact (Int.natCast_pow 2 k).symm
  rw [h1, h4]
  rw [h3] at h2
  generalize (2 ^ k : Nat) = q at h2 ⊢
  rw [wrap_i64_of _ (by omega)]
/- ### lists of sums -/
def All32 (L : List (List UInt8)) : Prop := ∀ x ∈ L, x.length = 32
theorem All32.nil : All32 [] := fun _ h => by cases h
theorem All32.take {L : List (List UInt8)} (h : All32 L) (k : Nat) : All32 (L.take k) := fun x hx => h x (List.mem_of_mem_take hx)
theorem All32.drop {L : List (List UInt8)} (h : All32 L) (k : Nat) : All32 (L.drop k) := fun x hx => h x (List.mem_of_mem_drop hx)
theorem All32.app {L M : List (List UInt8)} (h : All32 L) (h2 : All32 M) : All32 (L ++ M) := fun x hx => by
  rcases List.mem_append.1 hx with hx | hx
  · exact h x hx
  · exact h2 x hx
theorem All32.one {x : List UInt8} (h : x.length = 32) : All32 [x] := fun y hy => by simp at hy; subst hy; exact h
theorem All32.len {L : List (List UInt8)} (h : All32 L) : L.flatten.length = 32 * L.length := by
  induction L with
  | nil => rfl
  | cons x L ih =>
    rw [List.flatten_cons, List.length_append, h x (by simp), ih (fun y hy => h y (by simp [hy])), List.length_cons]
    omega
theorem All32.get {L : List (List UInt8)} (h : All32 L) {k : Nat} (hk : k < L.length) : (L.getD k []).length = 32 := by
  rw [List.getD_eq_getElem?_getD, List.getElem?_eq_getElem hk]
  exact h _ (List.getElem_mem hk)
theorem drop_flat {L : List (List UInt8)} (h : All32 L) (k : Nat) : L.flatten.drop (k * 32) = (L.drop k).flatten := by
  induction L generalizing k with
  | nil => simp
  | cons x L ih =>
    have hx := h x (by simp)
    cases k with
    | zero => simp
    | succ k =>
      rw [List.flatten_cons, List.drop_append, List.drop_eq_nil_of_le (by omega), List.nil_append, List.drop_succ_cons, ← ih (fun y hy => h y (by simp [hy])), hx]
      congr 1; omega
theorem take_flat {L : List (List UInt8)} (h : All32 L) (k : Nat) : L.flatten.take (k * 32) = (L.take k).flatten := by
  induction L generalizing k with
  | nil => simp
  | cons x L ih =>
    have hx := h x (by simp)
    cases k with
    | zero => simp
    | succ k =>
      rw [List.flatten_cons, List.take_append, List.take_of_length_le (by omega), List.take_succ_cons, List.flatten_cons, ← ih (fun y hy => h y (by simp [hy])), hx]
      congr 2; omega
theorem sum_get {L : List (List UInt8)} (h : All32 L) {k : Nat} (hk : k < L.length) : ((bs L.flatten).drop (k * 32)).take 32 = bs (L.getD k []) := by
  rw [bs_sub, drop_flat h]
  have : L.drop k = L.getD k [] :: L.drop (k + 1) := by
    rw [List.drop_eq_getElem_cons hk, List.getD_eq_getElem?_getD, List.getElem?_eq_getElem hk]; rfl
  rw [this, List.flatten_cons, List.take_append, List.take_of_length_le (by rw [h.get hk]; omega), h.get hk]
  simp
theorem sums_ne {L : List (List UInt8)} (h : All32 L) (hl : 0 < L.length) : bs L.flatten ≠ [] := bs_ne (by rw [h.len]; omega)
theorem SlAt.cutS_drop {a : Option Addr} {L : List (List UInt8)} (h : SlAt w a (bs L.flatten)) (h32 : All32 L) (k m : Nat) (hm : L.length ≤ m) : SlAt w (cutA a k m 32) (bs (L.drop k).flatten) := by
  have := h.cut k m 32 L.flatten.length (by rw [bs_length, h32.len]; omega)
  rwa [bs_sub, drop_flat h32, List.take_of_length_le (by rw [(h32.drop k).len, h32.len, List.length_drop]; omega)] at this
theorem SlAt.cutS_take {a : Option Addr} {L : List (List UInt8)} (h : SlAt w a (bs L.flatten)) (h32 : All32 L) (k m : Nat) (hm : L.length ≤ m) : SlAt w (cutA a 0 m 32) (bs (L.take k).flatten) := by
  have := h.cut 0 m 32 (k * 32) (by rw [bs_length, h32.len]; omega)
  rwa [bs_sub, Nat.zero_mul, List.drop_zero, take_flat h32] at this
theorem Owns.appS {B : Nat} {E : TypeId} {sz n : Nat} {v : Value} {L : List (List UInt8)} {x : List UInt8} (h : Owns w B E sz v n (bs L.flatten ++ bs x)) : Owns w B E sz v n (bs (L ++ [x]).flatten) := by
  rw [List.flatten_append, bs_append]
  simpa using h
/- ### lengths of binary numbers -/
def lenN (n : Nat) : Nat := if n = 0 then 0 else n.log2 + 1
theorem log2_half {n : Nat} (h : 2 ≤ n) : n.log2 = (n / 2).log2 + 1 := by
  conv => lhs; rw [Nat.log2_def]
  rw [if_pos h]
theorem log2_pow (k : Nat) : ∀ {n : Nat}, 2 ^ k ≤ n → n.log2 = (n / 2 ^ k).log2 + k := by
  induction k with
  | zero => intro n _; simp
  | succ k ih =>
    intro n h
    have h1 : 2 ^ (k + 1) = 2 * 2 ^ k := by rw [Nat.pow_succ]; omega
    have h2 : 0 < 2 ^ k := Nat.pow_pos (by decide)
    rw [log2_half (by omega), ih (n := n / 2) (by omega), Nat.div_div_eq_div_mul, ← h1]
    omega
theorem lenN_pow (k : Nat) {n : Nat} (h : 2 ^ k ≤ n) : lenN n = k + lenN (n / 2 ^ k) := by
  have h2 : 0 < 2 ^ k := Nat.pow_pos (by decide)
  have h3 : 0 < n / 2 ^ k := Nat.div_pos h h2
  rw [lenN, lenN, if_neg (by omega), if_neg (by omega), log2_pow k h]
  omega
theorem shr64_toNat (p : UInt64) (k : Nat) (hk : k ≤ 64) : (shr64 p k).toNat = p.toNat / 2 ^ k := by
  rw [shr64, UInt64.toNat_ofNat', Nat.min_eq_left hk]
  have := p.toNat_lt
  exact Nat.mod_eq_of_lt (Nat.lt_of_le_of_lt (Nat.div_le_self _ _) this)
/-- the greatest power of two below n -/
def halfN (n : Nat) : Nat := 2 ^ (n - 1).log2
theorem halfN_pos (n : Nat) : 0 < halfN n := Nat.pow_pos (by decide)
theorem halfN_lt {n : Nat} (h : 2 ≤ n) : halfN n < n := by
  have := Nat.log2_self_le (n := n - 1) (by omega)
  unfold halfN
  omega
end Go.Eng
end
section
open Go Go.Eng
namespace Go.Eng
variable {P : Program} {w : World} {e : Env} {d : Option Nat} {ty : TypeId} {pos : String} {aft : Array Edge} {g : Option (Nat × Bool)}
theorem r_min {t t2 : TypeId} {x y : Operand} {a b : Int} (hx : ev e x = i64 a) (hy : ev e y = i64 b) :
    (execOp (ev e) ⟨d, .call ⟨.builtin .min, #[x, y], #[t, t2]⟩, ty, pos, aft, g⟩).run P w = .ok (.value (i64 (min a b))) w := by
  have : (if b < a then b else a) = min a b := by omega
  simp [execOp, resolve, invoke, builtin, hx, hy, i64, Builtin.min_, Builtin.min2, Sem.run_bind, Sem.run_pure, this]
/- ### maps with ints for keys -/
def MapI (w : World) (b : Nat) (es : List (Int × Value)) : Prop := ∃ a clock, w.heap[b]? = some (.map a clock) ∧ a.toList.map (fun x => (x.key, x.val)) = es.map (fun p => (i64 p.1, p.2))
def lookI : List (Int × Value) → Int → Option Value
  | [], _ => none
  | (k', v) :: es, k => if k' = k then some v else lookI es k
def putI : List (Int × Value) → Int → Value → List (Int × Value)
  | [], k, v => [(k, v)]
  | (k', v') :: es, k, v => if k' = k then (k, v) :: es else (k', v') :: putI es k v
theorem find_i (k : Int) (v : Value) : ∀ (l : List MapEntry) (es : List (Int × Value)) (i : Nat), l.map (fun x => (x.key, x.val)) = es.map (fun p => (i64 p.1, p.2)) →
    (lookI es k = none ∧ Instr.findNow (.int .i64) (i64 k) l i = some none ∧ putI es k v = es ++ [(k, v)]) ∨
    (∃ j v0 e0, lookI es k = some v0 ∧ Instr.findNow (.int .i64) (i64 k) l i = some (some (i + j, v0)) ∧ l[j]? = some e0 ∧ e0.key = i64 k ∧ ∀ f : MapEntry → MapEntry, (∀ x, (f x).key = i64 k ∧ (f x).val = v) → (l.modify j f).map (fun x => (x.key, x.val)) = (putI es k v).map (fun p => (i64 p.1, p.2))) := by
  intro l
  induction l with
  | nil =>
    intro es i h
    cases es with
    | nil => exact .inl ⟨rfl, rfl, rfl⟩
    | cons p es => simp at h
  | cons x l ih =>
    intro es i h
    cases es with
    | nil => simp at h
    | cons p es =>
      obtain ⟨k', v'⟩ := p
      simp only [List.map_cons, List.cons.injEq, Prod.mk.injEq] at h
      obtain ⟨⟨hk, hv⟩, h⟩ := h
      by_cases hkk : k' = k
      · subst hkk
        refine .inr ⟨0, v', x, by simp [lookI], ?_, rfl, hk, fun f hf => ?_⟩
        · simp [Instr.findNow, Instr.sameNow, hk, hv, i64]
        · simp [putI, List.modify, hf x, h]
      · have hne : Instr.sameNow (.int .i64) (i64 k) x.key = some false := by
          simp [Instr.sameNow, hk, i64]; omega
        rcases ih es (i + 1) h with ⟨h1, h2, h3⟩ | ⟨j, v0, e0, h1, h2, h3, h4, h5⟩
        · refine .inl ⟨by simp [lookI, hkk, h1], ?_, by simp [putI, hkk, h3]⟩
          simp only [Instr.findNow, hne]; exact h2
        · refine .inr ⟨j + 1, v0, e0, by simp [lookI, hkk, h1], ?_, by simpa using h3, h4, fun f hf => ?_⟩
          · simp only [Instr.findNow, hne]; rw [h2]; congr 3; omega
          · have := h5 f hf
            simp [putI, hkk, hk, hv, this]
theorem MapI.kept {M : Nat → Nat → Prop} {w' : World} {b : Nat} {es : List (Int × Value)} (h : MapI w b es) (k : Chg M w w') (hm : ∀ o, ¬ M b o) : MapI w' b es := by
  obtain ⟨a, c, h1, h2⟩ := h
  exact ⟨a, c, by rw [k.obj b (Array.getElem?_eq_some_iff.1 h1).1 hm]; exact h1, h2⟩
theorem MapI.k {w' : World} {b : Nat} {es : List (Int × Value)} (h : MapI w b es) (k : Kept w w') : MapI w' b es := h.kept k fun _ => id
theorem MapI.kb {w' : World} {b b2 o2 n : Nat} {es : List (Int × Value)} (h : MapI w b es) (k : Chg (rng b2 o2 n) w w') (hb : b ≠ b2) : MapI w' b es := h.kept k fun _ m => hb m.1
theorem MapI.kob {w' : World} {b : Nat} {v : Value} {es : List (Int × Value)} (h : MapI w b es) (k : Chg (ob v) w w') (hb : some b ≠ v.ownBlock) : MapI w' b es := h.kept k fun _ m => hb m
theorem w_makeMap {t : TypeId} : OpWp P ⟨d, .makeMap t none, ty, pos, aft, g⟩ e w (fun v w' => ∃ b, v = .map (some b) ∧ w.heap.size ≤ b ∧ b < w'.heap.size ∧ MapI w' b [] ∧ Kept w w') := by
  unfold OpWp
  have : (execOp (ev e) ⟨d, .makeMap t none, ty, pos, aft, g⟩).run P w = .ok (.value (.map (some w.heap.size))) (w.alloc (.map #[] 0)) := by
    simp [execOp, Instr.makeMap, Sem.run_bind, Sem.run_pure]
  rw [this]
  exact ⟨_, rfl, Nat.le_refl _, by simp, ⟨#[], 0, heap_alloc_new w _, rfl⟩, chg_alloc _ _⟩
theorem run_lookup_i {t k el : TypeId} {b : Nat} {q : Int} {es : List (Int × Value)} {z : Value} (cok : Bool) (hu : P.underlying t = some (.map k el)) (hk : P.underlying k = some (.int .i64)) (hz : ∀ w, (zeroValue el).run P w = .ok z w) (h : MapI w b es) :
    (Instr.lookup t (.map (some b)) (i64 q) cok).run P w = .ok (if cok then .tuple #[(lookI es q).getD z, .bool (lookI es q).isSome] else (lookI es q).getD z) w := by
  obtain ⟨a, c, h1, h2⟩ := h
  have hg : (getObj b).run P w = .ok (.map a c) w := by simp [getObj, Sem.run, h1]
  have hck : ∀ em, (Instr.checkKey em 10000 k (i64 q)).run P w = .ok () w := fun em => by
    rw [show (10000 : Nat) = 9999 + 1 from rfl, Instr.checkKey]
    simp [run_underlying hk, i64, Sem.run_bind, Sem.run_pure]
  rcases find_i q z a.toList es 0 h2 with ⟨h3, h4, _⟩ | ⟨j, v0, e0, h3, h4, _⟩
  · have hf : (Instr.findKey k (i64 q) a.toList).run P w = .ok none w := by simp [Instr.findKey, run_underlying hk, h4, Sem.run_bind, Sem.run_pure]
    cases cok <;> simp [Instr.lookup, Sem.run_bind, run_underlying hu, hg, hck, hf, h3, hz, Sem.run_pure]
  · have hf : (Instr.findKey k (i64 q) a.toList).run P w = .ok (some (0 + j, v0)) w := by simp [Instr.findKey, run_underlying hk, h4, Sem.run_bind, Sem.run_pure]
    cases cok <;> simp [Instr.lookup, Sem.run_bind, run_underlying hu, hg, hck, hf, h3, hz, Sem.run_pure]
theorem r_lookup {t k el : TypeId} {x y : Operand} {b : Nat} {q : Int} {es : List (Int × Value)} {z : Value} (hu : P.underlying t = some (.map k el)) (hk : P.underlying k = some (.int .i64)) (hz : ∀ w, (zeroValue el).run P w = .ok z w) (hx : ev e x = .map (some b)) (hy : ev e y = i64 q) (h : MapI w b es) :
    (execOp (ev e) ⟨d, .lookup t x y false, ty, pos, aft, g⟩).run P w = .ok (.value ((lookI es q).getD z)) w := by
  simp only [execOp, hx, hy, Sem.run_bind, run_lookup_i false hu hk hz h, Result.andThen_ok, Sem.run_pure]
  rfl
theorem w_mapPut {t k el : TypeId} {x y v : Operand} {b : Nat} {q : Int} {es : List (Int × Value)} (hu : P.underlying t = some (.map k el)) (hk : P.underlying k = some (.int .i64)) (hx : ev e x = .map (some b)) (hy : ev e y = i64 q) (h : MapI w b es) :
    OpWp P ⟨d, .mapUpdate t x y v, ty, pos, aft, g⟩ e w (fun _ w' => MapI w' b (putI es q (ev e v)) ∧ Chg (blk b) w w') := by
  obtain ⟨a, c, h1, h2⟩ := h
  have hlt : b < w.heap.size := (Array.getElem?_eq_some_iff.1 h1).1
  have hg : (getObj b).run P w = .ok (.map a c) w := by simp [getObj, Sem.run, h1]
  have hck : ∀ em, (Instr.checkKey em 10000 k (i64 q)).run P w = .ok () w := fun em => by
    rw [show (10000 : Nat) = 9999 + 1 from rfl, Instr.checkKey]
    simp [run_underlying hk, i64, Sem.run_bind, Sem.run_pure]
  have fin : ∀ (a' : Array MapEntry) (c' : Nat), a'.toList.map (fun x => (x.key, x.val)) = (putI es q (ev e v)).map (fun p => (i64 p.1, p.2)) → (Instr.mapUpdate t (.map (some b)) (i64 q) (ev e v)).run P w = .ok () { w with heap := w.heap.setIfInBounds b (.map a' c') } →
      OpWp P ⟨d, .mapUpdate t x y v, ty, pos, aft, g⟩ e w (fun _ w' => MapI w' b (putI es q (ev e v)) ∧ Chg (blk b) w w') := by
    intro a' c' ha hr
    unfold OpWp
    have hx' : (execOp (ev e) ⟨d, .mapUpdate t x y v, ty, pos, aft, g⟩).run P w = .ok .skip { w with heap := w.heap.setIfInBounds b (.map a' c') } := by
      simp only [execOp, hx, hy, Sem.run_bind, hr, Result.andThen_ok, Sem.run_pure]
    rw [hx']
    have hne : ∀ b', b' ≠ b → (w.heap.setIfInBounds b (.map a' c'))[b']? = w.heap[b']? := fun b' hb => by
      rw [Array.getElem?_setIfInBounds_ne (fun h => hb h.symm)]
    refine ⟨⟨a', c', ?_, ha⟩, ⟨rfl, rfl, rfl, by simp, fun b' o _ hm => World.cell?_of_block (w := w) (hne b' hm), fun b' o _ hm => World.frozen?_of_block (w := w) (hne b' hm), fun b' _ hm => hne b' (hm 0)⟩⟩
    show (w.heap.setIfInBounds b (.map a' c'))[b]? = _
    rw [Array.getElem?_setIfInBounds_self_of_lt hlt]
  rcases find_i q (ev e v) a.toList es 0 h2 with ⟨h3, h4, h5⟩ | ⟨j, v0, e0, h3, h4, h5, h6, h7⟩
  · have hf : (Instr.findKey k (i64 q) a.toList).run P w = .ok none w := by simp [Instr.findKey, run_underlying hk, h4, Sem.run_bind, Sem.run_pure]
    refine fin (a.push { key := i64 q, val := ev e v, born := c }) (c + 1) ?_ ?_
    · rw [h5]; simp [h2]
    · simp only [Instr.mapUpdate, Sem.run_bind, run_underlying hu, Result.andThen_ok, hg, hck, hf, MapKept.run_setObj_map _ h1]
  · have hf : (Instr.findKey k (i64 q) a.toList).run P w = .ok (some (0 + j, v0)) w := by simp [Instr.findKey, run_underlying hk, h4, Sem.run_bind, Sem.run_pure]
    have hst : (Instr.keyThatStays (i64 q) (i64 q)).run P w = .ok (i64 q) w := by simp [Instr.keyThatStays, Instr.sameBits, i64, Sem.run_pure]
    have hgd : ((a[0 + j]?).map (·.key)).getD (i64 q) = i64 q := by
      rw [Nat.zero_add, ← Array.getElem?_toList, h5]; exact h6
    refine fin (a.modify (0 + j) fun x => { x with key := i64 q, val := ev e v }) c ?_ ?_
    · rw [Array.toList_modify, Nat.zero_add]; exact h7 _ fun x => ⟨rfl, rfl⟩
    · simp only [Instr.mapUpdate, Sem.run_bind, run_underlying hu, Result.andThen_ok, hg, hck, hf, hgd, hst, MapKept.run_setObj_map _ h1]
end Go.Eng
namespace Go.Eng
theorem ints_get {es : List Int} {k : Nat} (h : k < es.length) : (es.map i64)[k]? = some (i64 (es.getD k 0)) := by
  simp [List.getElem?_map, List.getElem?_eq_getElem h, List.getD_eq_getElem?_getD]
def firstE (es : List Int) : Int := match es with | [] => 0 | e :: es => if e ≠ 0 then e else firstE es
theorem firstE_drop {es : List Int} {k : Nat} (h : k < es.length) : firstE (es.drop k) = if es.getD k 0 ≠ 0 then es.getD k 0 else firstE (es.drop (k + 1)) := by
  have : es.drop k = es.getD k 0 :: es.drop (k + 1) := by
    rw [List.drop_eq_getElem_cons h, List.getD_eq_getElem?_getD, List.getElem?_eq_getElem h]; rfl
  rw [this, firstE]
theorem SlsOk.nil {w : World} : SlsOk w [] [] := ⟨rfl, fun k hk => by simp at hk⟩
/-- pieces of 1024 octets, the last one what is left -/
def chunksL (l : List UInt8) : List (List UInt8) := if h : l.length ≤ 1024 then [l] else l.take 1024 :: chunksL (l.drop 1024)
termination_by l.length
decreasing_by simp; omega
theorem chunksL_one {l : List UInt8} (h : l.length ≤ 1024) : chunksL l = [l] := by rw [chunksL, dif_pos h]
theorem chunksL_cons {l : List UInt8} (h : 1024 < l.length) : chunksL l = l.take 1024 :: chunksL (l.drop 1024) := by
  conv => lhs; rw [chunksL, dif_neg (by omega)]
theorem chunksL_len : ∀ (m : Nat) (l : List UInt8), l.length = m → 0 < m → (chunksL l).length = (m + 1023) / 1024 ∧ ∀ x ∈ chunksL l, 0 < x.length ∧ x.length ≤ 1024 := by
  intro m
  induction m using Nat.strongRecOn with
  | _ m ih =>
    intro l hl h0
    rcases Nat.lt_or_ge 1024 l.length with h | h
    · rw [chunksL_cons h]
      obtain ⟨h1, h2⟩ := ih (m - 1024) (by omega) (l.drop 1024) (by rw [List.length_drop]; omega) (by omega)
      refine ⟨by rw [List.length_cons, h1]; omega, fun x hx => ?_⟩
      rcases List.mem_cons.1 hx with rfl | hx
      · rw [List.length_take]; omega
      · exact h2 x hx
    · rw [chunksL_one h]
      refine ⟨by rw [List.length_singleton]; omega, fun x hx => ?_⟩
      simp at hx; subst hx; omega
theorem map32 {H : List UInt8 → List UInt8} (hH : ∀ l, (H l).length = 32) (ls : List (List UInt8)) : All32 (ls.map H) := by
  intro x hx
  obtain ⟨y, _, rfl⟩ := List.mem_map.1 hx
  exact hH y
theorem map_snoc (H : List UInt8 → List UInt8) {ls : List (List UInt8)} {k : Nat} (h : k < ls.length) : (ls.take (k + 1)).map H = (ls.take k).map H ++ [H (ls.getD k [])] := by
  have e : ls.take (k + 1) = ls.take k ++ [ls.getD k []] := by rw [List.take_add_one]; simp [h]
  rw [e, List.map_append]; rfl
end Go.Eng
end
section
open Go Go.Eng
namespace Go.Eng
/- ### ranges over functions -/
def IsD (n : Nat) (ds : List Deferred) (a : Act) (e : Env) : Prop := Is n { a with defers := [] } e ∧ a.defers = ds
theorem IsD.of {n : Nat} {a : Act} {e : Env} (h : Is n a e) : IsD n [] a e := by
  obtain ⟨h1, h2, h3⟩ := h
  exact ⟨⟨h1, rfl, h3⟩, h2⟩
theorem IsD.is {n : Nat} {a : Act} {e : Env} (h : IsD n [] a e) : Is n a e := ⟨h.1.size, h.2, h.1.read⟩
theorem IsD.put {n : Nat} {ds : List Deferred} {a : Act} {e : Env} (h : IsD n ds a e) {d : Option Nat} (hd : ∀ k, d = some k → k < n) (v : Value) : IsD n ds (a.put d v) (updo e d v) := by
  obtain ⟨h1, h2⟩ := h
  have := h1.put hd v
  cases d with
  | none => exact ⟨this, h2⟩
  | some k => exact ⟨this, h2⟩
theorem IsD.eval {n : Nat} {ds : List Deferred} {a : Act} {e : Env} (h : IsD n ds a e) : a.eval = ev e := by
  have := h.1.eval
  exact this
abbrev fen (r : Option Nat) : Fence := { Fence.wide with round := r }
/-- the operations l in turn, within a round r or none -/
def TAt (r : Option Nat) (m : Nat) (P : Program) (ops : Array Oper) (QQ : Exit → Act → World → Prop) (n : Nat) (ds : List Deferred) (l : List Nat) (e : Env) (w : World) : Prop :=
  ∀ a, IsD n ds a e → wpOpsIn (fen r) m P ops QQ l a w
section
variable {r : Option Nat} {m : Nat} {P : Program} {ops : Array Oper} {QQ : Exit → Act → World → Prop} {n : Nat} {ds : List Deferred} {e : Env} {w : World} {i : Nat} {rest : List Nat} {o : Oper}
theorem t_end (h : ∀ a, IsD n ds a e → QQ .normal a w) : TAt r m P ops QQ n ds [] e w := fun a ha => h a ha
theorem t_op {K : Value → World → Prop} (hi : ops[i]? = some o) (hg : o.guard = none) (hdst : ∀ k, o.dst = some k → k < n) (hdef : ∀ c, o.op ≠ .defer c) (h : OpWp P o e w K)
    (k : ∀ v w', K v w' → TAt r m P ops QQ n ds rest (updo e o.dst v) w') : TAt r m P ops QQ n ds (i :: rest) e w := fun a ha => by
  have hw : Region.wanted o (yielded ops a.tmps) = true := by unfold Region.wanted; rw [hg]
  simp only [wpOpsIn, hi, hw, if_true]
  refine ⟨fun _ _ => trivial, ?_⟩
  rw [Oper.semAt_eq _ _ _ hdef, ha.eval]
  unfold OpWp Rtn at h
  have hput : ∀ v, IsD n ds (a.put o.dst v) (updo e o.dst v) := fun v => ha.put hdst v
  split at h
  · rename_i v w' hr
    rw [hr]; exact k _ _ h _ (hput _)
  · rename_i w' hr
    rw [hr]; exact k _ _ h _ (hput _)
  · rename_i f args w' hr
    rw [hr]
    refine ⟨fun hd => by simp [Fence.wide] at hd, ?_⟩
    have h2 : CallsIn (fen r) (m - 1) P f args w' fun e w' => ∃ v, e = .returned v ∧ K v w' := callsIn_wide.2 h
    refine h2.mono ?_
    rintro _ w2 ⟨v, rfl, hk⟩
    exact k _ _ hk _ (hput _)
  · rename_i row args w' hr
    rw [hr]
    refine ⟨fun hd => by simp [Fence.wide] at hd, fun c cs _ => ?_⟩
    obtain ⟨v, w2, hk, s⟩ := h c cs
    exact ⟨v, w2, k _ _ hk _ (hput _), stepsIn_wide.2 s⟩
  · exact h.elim
theorem t_val {v : Value} (hi : ops[i]? = some o) (hg : o.guard = none) (hdst : ∀ k, o.dst = some k → k < n) (hdef : ∀ c, o.op ≠ .defer c) (h : (execOp (ev e) o).run P w = .ok (.value v) w)
    (k : TAt r m P ops QQ n ds rest (updo e o.dst v) w) : TAt r m P ops QQ n ds (i :: rest) e w :=
  t_op (K := fun v' w' => v' = v ∧ w' = w) hi hg hdst hdef (by unfold OpWp; rw [h]; exact ⟨rfl, rfl⟩) (by rintro _ _ ⟨rfl, rfl⟩; exact k)
theorem t_round {l f : Nat} {tmps : Array Value} {assign body : Code} {R : Ending → World → Prop} (hi : ops[i]? = some o) (hg : o.guard = none) (hdst : ∀ k, o.dst = some k → k < n) (hdef : ∀ c, o.op ≠ .defer c)
    (h : (execOp (ev e) o).run P w = .ok (.round l f tmps assign body) w) (hR : RoundIn (fen r) (m - 1) P l f tmps assign body w R)
    (k : ∀ en w', R en w' → ∃ v, en = .returned v ∧ TAt r m P ops QQ n ds rest (updo e o.dst v) w') : TAt r m P ops QQ n ds (i :: rest) e w := fun a ha => by
  have hw : Region.wanted o (yielded ops a.tmps) = true := by unfold Region.wanted; rw [hg]
  simp only [wpOpsIn, hi, hw, if_true]
  refine ⟨fun _ _ => trivial, ?_⟩
  rw [Oper.semAt_eq _ _ _ hdef, ha.eval, h]
  refine ⟨fun hd => by simp [Fence.wide] at hd, hR.mono ?_⟩
  intro en w' hr
  obtain ⟨v, rfl, ht⟩ := k en w' hr
  exact ht _ (ha.put hdst v)
end
theorem go_regionT {P : Program} {n : Nat} {k : List Code} {Q : Post} {e : Env} {w : World} {id : Nat} {ops : Array Oper} (m N : Nat) (hN : ops.size = N)
    (h : TAt none m P ops (lift n fun x e w => match x with | .normal => Go P n k Q e w | x => Q x e w) n [] (List.range N) e w) : Go P n (.region id ops false :: k) Q e w := by
  subst hN
  have key : ∀ a, Is n a e → (Code.region id ops false).wp P (lift n fun x e w => match x with | .normal => Go P n k Q e w | x => Q x e w) a w := fun a ha => (wpIn_wide (n := m)).1 (wpIn_region (h a (IsD.of ha)))
  with_unfolding_all exact key
theorem t_go {P : Program} {n m : Nat} {k : List Code} {Q : Post} {e : Env} {w : World} {ops : Array Oper} (h : Go P n k Q e w) :
    TAt none m P ops (lift n fun x e w => match x with | .normal => Go P n k Q e w | x => Q x e w) n [] [] e w :=
  fun a ha => ⟨⟨e, ha.is, h⟩, fun c hc => by cases hc⟩
def byd (n₀ : Nat) : Nat → Nat → Prop := fun b _ => n₀ ≤ b
theorem Chg.of_below {n₀ : Nat} {w w' : World} (h : RowKit.Below n₀ w w') : Chg (byd n₀) w w' :=
  ⟨h.os, h.tape, h.output, h.size, fun b _ _ hm => World.cell?_of_block (w := w) (h.block b (Nat.lt_of_not_le hm)), fun b _ _ hm => World.frozen?_of_block (w := w) (h.block b (Nat.lt_of_not_le hm)), fun b _ hm => h.block b (Nat.lt_of_not_le (hm 0))⟩
theorem Chg.grown {w w' : World} (h : Kept w w') : w.grownBy w' none := ⟨h.os, h.tape, h.output, h.size, fun b hb _ => h.obj b hb fun _ => id⟩
/-- the chunks as slices: their addresses and lengths -/
def chP (a : Option Addr) (n : Nat) : Nat → List (Option Addr × Nat)
  | 0 => []
  | k + 1 => chP a n k ++ [(cutA a (1024 * k) (1024 * k + min 1024 (n - 1024 * k)) 1, 1024 * k + min 1024 (n - 1024 * k) - 1024 * k)]
@[simp] theorem chP_length (a : Option Addr) (n k : Nat) : (chP a n k).length = k := by induction k with | zero => rfl | succ k ih => simp [chP, ih]
def chVals (l : List (Option Addr × Nat)) : List Value := l.map fun p => .slice p.1 p.2 p.2
theorem r_yield {P : Program} {w w' : World} {e : Env} {d : Option Nat} {ty : TypeId} {pos : String} {aft : Array Edge} {g : Option (Nat × Bool)} {x : Operand} {args : Array Operand} {ats : Array TypeId} {l : Nat} {vs : List Value} {nx : Next} (hx : ev e x = .func (.yield l) #[] #[]) (hl : args.toList.map (ev e) = vs)
    (hy : (Instr.yield l vs.toArray).run P w = .ok nx w') : (execOp (ev e) ⟨d, .call ⟨.value x, args, ats⟩, ty, pos, aft, g⟩).run P w = .ok nx w' := by
  have hl' : args.map (ev e) = vs.toArray := by rw [← hl, ← Array.toList_map, Array.toArray_toList]
  simp only [execOp, resolve, Sem.run_bind, hx]
  simp [go_sem, hl', invoke, hy]
end Go.Eng
namespace Go.Eng
theorem is_args (n : Nat) (l : List Value) (hl : l.length ≤ n) : IsD n [] { tmps := l.toArray ++ Array.replicate (n - l.toArray.size) undef, defers := [] } (fun t => l.getD t undef) := by
  refine ⟨⟨by simp; omega, rfl, fun t => ?_⟩, rfl⟩
  simp only [Array.getD_eq_getD_getElem?, List.getD_eq_getElem?_getD]
  rw [Array.getElem?_append]
  split
  · simp
  · rename_i hlt
    have hge : l.length ≤ t := by simpa using hlt
    rw [List.getElem?_eq_none hge]
    simp [Array.getElem?_replicate]
    split <;> rfl
theorem IsD.unique {n : Nat} {ds : List Deferred} {a a' : Act} {e : Env} (h : IsD n ds a e) (h' : IsD n ds a' e) : a = a' := by
  obtain ⟨⟨h1, _, h3⟩, h4⟩ := h
  obtain ⟨⟨k1, _, k3⟩, k4⟩ := h'
  have ht : a.tmps = a'.tmps := by
    apply Array.ext
    · exact h1.trans k1.symm
    · intro i hi hi'
      have := (h3 i).trans (k3 i).symm
      simp only [Array.getD_eq_getD_getElem?] at this
      rw [Array.getElem?_eq_getElem hi, Array.getElem?_eq_getElem hi'] at this
      exact this
  cases a; cases a'
  simp only at ht h4 k4
  rw [ht, h4, k4]
theorem keeps_of {M : Nat → Nat → Prop} {w w' : World} (h : Chg M w w') (hM : ∀ k o', M k o' → k < w.heap.size → ∃ o, w.heap[k]? = some o ∧ o.isCells = true) : KeepsOthers w w' :=
  ⟨h.size, fun k o hk hc => by
    have hlt := (Array.getElem?_eq_some_iff.1 hk).1
    rw [h.obj k hlt fun o' hm => ?_]
    · exact hk
    · obtain ⟨o2, h1, h2⟩ := hM k o' hm hlt
      rw [hk] at h1; cases h1; rw [hc] at h2; cases h2⟩
theorem cells_of_cell {w : World} {b o : Nat} {v : Value} (h : w.cell? ⟨b, o, none⟩ = some v) : ∃ ob, w.heap[b]? = some ob ∧ ob.isCells = true := by
  unfold World.cell? at h
  split at h
  · rename_i c t x hh
    exact ⟨_, hh, rfl⟩
  · cases h
theorem Pc.other {w w' : World} {b : Nat} {v : Value} (h : Pc w b 0 [v]) (hh : w'.heap[b]? = w.heap[b]?) : Pc w' b 0 [v] :=
  ⟨fun j u hj => by rw [World.cell?_of_block (w := w) hh]; exact h.1 j u hj, fun j u hj => by rw [World.frozen?_of_block (w := w) hh]; exact h.2 j u hj⟩
theorem Owns.grown {w w' : World} {B : Nat} {E : TypeId} {sz n : Nat} {v : Value} {cs : List Value} {row : Option Nat} (h : Owns w B E sz v n cs) (hg : w.grownBy w' row) (hr : ∀ r, row = some r → ∃ o : Obj, w.heap[r]? = some o ∧ o.isCells = false) : Owns w' B E sz v n cs := by
  refine World.ownsRow.kept h hg ?_
  rcases h.2 with ⟨rfl, _⟩ | ⟨g, cap, cur, rfl, _, hgb, _⟩
  · exact .inl rfl
  · refine .inr fun e' => ?_
    obtain ⟨o, ho, hc⟩ := hr g (by simpa [Value.ownBlock] using e'.symm)
    rw [hgb] at ho; cases ho; cases hc
theorem Owns.cells {w : World} {B : Nat} {E : TypeId} {sz n : Nat} {v : Value} {cs : List Value} (h : Owns w B E sz v n cs) : ∀ k o', ob v k o' → ∃ o, w.heap[k]? = some o ∧ o.isCells = true := by
  intro k o' hk
  rcases h.2 with ⟨rfl, _⟩ | ⟨g, cap, cur, rfl, _, hgb, _⟩
  · have : some k = none := hk
    cases this
  · have : some k = some g := hk
    cases this
    exact ⟨_, hgb, rfl⟩
end Go.Eng
namespace Go.Eng
theorem below_of {M : Nat → Nat → Prop} {w w' : World} {n₀ : Nat} (h : Chg M w w') (hn : n₀ ≤ w.heap.size) (hM : ∀ k o', M k o' → n₀ ≤ k) : RowKit.Below n₀ w w' :=
  ⟨h.os, h.tape, h.output, h.size, fun k hk => h.obj k (by omega) fun o' m => by have := hM k o' m; omega⟩
theorem Chg.of_below0 {w w' : World} (h : RowKit.Below w.heap.size w w') : Kept w w' :=
  (Chg.of_below h).mono fun b o hb m => by have : w.heap.size ≤ b := m; omega
end Go.Eng
namespace Go.Eng
theorem r_makeFunc {P : Program} {w : World} {e : Env} {d : Option Nat} {ty : TypeId} {pos : String} {aft : Array Edge} {g : Option (Nat × Bool)} {fn : Fn} {cap : Array Operand} {l : List Value} (hl : cap.toList.map (ev e) = l) :
    (execOp (ev e) ⟨d, .makeFunc fn #[] cap, ty, pos, aft, g⟩).run P w = .ok (.value (.func fn #[] l.toArray)) w := by
  have hl' : cap.map (ev e) = l.toArray := by rw [← hl, ← Array.toList_map, Array.toArray_toList]
  simp [execOp, Instr.makeFunc, hl', Sem.run_bind, Sem.run_pure, Result.andThen_ok]
theorem chunksL_get : ∀ (m : Nat) (l : List UInt8) (k : Nat), l.length = m → k < (chunksL l).length → (chunksL l).getD k [] = (l.drop (1024 * k)).take 1024 := by
  intro m
  induction m using Nat.strongRecOn with
  | _ m ih =>
    intro l k hl hk
    rcases Nat.lt_or_ge 1024 l.length with h | h
    · rw [chunksL_cons h] at hk ⊢
      cases k with
      | zero => simp
      | succ k =>
        have := ih (m - 1024) (by omega) (l.drop 1024) k (by rw [List.length_drop]; omega) (by simpa using hk)
        rw [List.getD_cons_succ, this, List.drop_drop]
        congr 2; omega
    · rw [chunksL_one h] at hk ⊢
      obtain rfl : k = 0 := by simp at hk; omega
      simp only [Nat.mul_zero, List.drop_zero, List.getD_cons_zero]
      rw [List.take_of_length_le h]
theorem chP_get (a : Option Addr) (n : Nat) : ∀ (K k : Nat), k < K → (chP a n K)[k]? = some (cutA a (1024 * k) (1024 * k + min 1024 (n - 1024 * k)) 1, 1024 * k + min 1024 (n - 1024 * k) - 1024 * k) := by
  intro K
  induction K with
  | zero => intro k h; omega
  | succ K ih =>
    intro k h
    rw [chP]
    rcases Nat.lt_or_ge k K with h1 | h1
    · rw [List.getElem?_append_left (by simpa using h1)]; exact ih k h1
    · obtain rfl : k = K := by omega
      rw [List.getElem?_append_right (by simp)]; simp
theorem cutA_cap {a : Option Addr} {l m m2 sz : Nat} (h : m ≠ l) (h2 : m2 ≠ l) : cutA a l m sz = cutA a l m2 sz := by
  unfold cutA; rw [if_neg h, if_neg h2]
theorem chunks_ok {w : World} {a : Option Addr} {n c : Nat} {l : List UInt8} (hn : l.length = n) (h0 : 0 < n) (hc : n ≤ c) (hs : SlAt w a (bs l)) : SlsOk w (chVals (chP a n ((n + 1023) / 1024))) (chunksL l) := by
  have hlen := (chunksL_len n l hn h0).1
  refine ⟨by rw [hlen, chVals, List.length_map, chP_length], fun k hk => ?_⟩
  have hkK : k < (n + 1023) / 1024 := by omega
  have hlt : 1024 * k < n := by omega
  have hg := chunksL_get n l k hn hk
  have hp := chP_get a n _ k hkK
  refine ⟨_, _, _, by rw [chVals, List.getElem?_map, hp]; rfl, ?_, ?_, Nat.le_refl _, ?_⟩
  · rw [hg, List.length_take, List.length_drop]; omega
  · dsimp only; omega
  · dsimp only
    rw [hg, cutA_cap (m2 := c) (by omega) (by omega)]
    have := hs.cutB_mid (1024 * k) (1024 * k + 1024) c (by omega)
    rwa [show 1024 * k + 1024 - 1024 * k = 1024 by omega] at this
end Go.Eng
namespace Go.Eng
theorem chunksL_small {l : List UInt8} {n : Nat} (hn : l.length = n) (h0 : 0 < n) (k : Nat) : ((chunksL l).getD k []).length ≤ 1024 := by
  rcases Nat.lt_or_ge k (chunksL l).length with h | h
  · have hm : (chunksL l).getD k [] ∈ chunksL l := by
      rw [List.getD_eq_getElem?_getD, List.getElem?_eq_getElem h]; exact List.getElem_mem h
    exact ((chunksL_len n l hn h0).2 _ hm).2
  · rw [List.getD_eq_getElem?_getD, List.getElem?_eq_none h]; simp
end Go.Eng
namespace Go.Eng
theorem Owns.form2 {w : World} {B : Nat} {E : TypeId} {sz n : Nat} {v : Value} {cs : List Value} (h : Owns w B E sz v n cs) : ∃ a c, v = .slice a n c ∧ n ≤ c := by
  obtain ⟨a, c, h1, h2, _⟩ := Owns.form h
  exact ⟨a, c, h1, h2⟩
end Go.Eng
namespace Go.Eng
variable {P : Program} {w : World} {e : Env} {d : Option Nat} {ty : TypeId} {pos : String} {aft : Array Edge} {g : Option (Nat × Bool)}
theorem r_lookupV {t k el : TypeId} {x y : Operand} {b : Nat} {q : Int} {es : List (Int × Value)} {z v : Value} (hu : P.underlying t = some (.map k el)) (hk : P.underlying k = some (.int .i64)) (hz : ∀ w, (zeroValue el).run P w = .ok z w) (hx : ev e x = .map (some b)) (hy : ev e y = i64 q) (h : MapI w b es) (hv : (lookI es q).getD z = v) :
    (execOp (ev e) ⟨d, .lookup t x y false, ty, pos, aft, g⟩).run P w = .ok (.value v) w := by
  rw [r_lookup hu hk hz hx hy h, hv]
end Go.Eng
namespace Go.Eng
theorem SlAt.keptE {M : Nat → Nat → Prop} {w w' : World} {a : Option Addr} {cs : List Value} (h : SlAt w a cs) (k : Chg M w w') (hm : cs ≠ [] → ∀ b o, a = Option.some ⟨b, o, none⟩ → ∀ o', ¬ M b o') : SlAt w' a cs := by
  cases cs with
  | nil => exact .inl rfl
  | cons v cs => exact h.kept k fun b o ha j _ => hm (by simp) b o ha _
end Go.Eng
end
section
open Go Go.Eng
namespace Go.Eng
section
variable {P : Program} {n : Nat} {ops : Array Oper} {S : World → Prop} {m i : Nat} {r : Plan} {K : Env → World → Prop} {e : Env} {w w0 : World} {o : Oper} {v : Value}
theorem s_takeEg (hi : ops[i]? = some o) (hg : wantedE ops e o = true) (hv : (execOp (ev e) o).run P w = .ok (.value v) w) (h : Rg P ops (fun x => x = w) m r K (updo e o.dst v) w) : Rg P ops (fun x => x = w) m (.take i r) K e w :=
  s_take_g hi hg (fun _ hx => by subst hx; exact hv) h
end
end Go.Eng
namespace Go.Eng
variable {P : Program} {w : World} {e : Env} {d : Option Nat} {ty : TypeId} {pos : String} {aft : Array Edge} {g : Option (Nat × Bool)} {t t' : TypeId} {x y : Operand} {a b : Int}
theorem r_rem64 {p q : UInt64} (hx : ev e x = u64 p) (hy : ev e y = u64 q) (hq : q.toNat ≠ 0) : (execOp (ev e) ⟨d, .binOp .rem t x y t', ty, pos, aft, g⟩).run P w = .ok (.value (u64 (p % q))) w := by
  have hd : ((p.toNat : Int)).tmod (q.toNat : Int) = ((p % q).toNat : Int) := by
    rw [UInt64.toNat_mod, Int.tmod_eq_emod_of_nonneg (by omega)]
    exact (Int.natCast_emod _ _).symm
  rw [r_rem hx hy (by omega), hd]
/-- the rest of an int as an unsigned number -/
def idxN (i : Int) (n : Nat) : Nat := (i % 18446744073709551616).toNat % n
theorem idxN_lt (i : Int) {n : Nat} (h : 0 < n) : idxN i n < n := Nat.mod_lt _ h
theorem idx_eq (i : Int) (n : Nat) (h : n < 18446744073709551616) : (((w64 i % w64 (n : Int)).toNat : Nat) : Int) = ((idxN i n : Nat) : Int) := by
  have h1 : (w64 i).toNat = (i % 18446744073709551616).toNat := by
    rw [w64, UInt64.toNat_ofNat']
    have := Int.emod_nonneg i (by decide : (18446744073709551616 : Int) ≠ 0)
    have := Int.emod_lt_of_pos i (by decide : (0 : Int) < 18446744073709551616)
    omega
  have h2 : (w64 (n : Int)).toNat = n := by rw [w64, UInt64.toNat_ofNat']; omega
  rw [UInt64.toNat_mod, h1, h2]; rfl
theorem r_convN {src dst : TypeId} {sd : TypeDesc} {k : IntKind} {N : Nat} (hs : ∀ w, (underlying src).run P w = .ok sd w) (hd : ∀ w, (underlying dst).run P w = .ok (.int .i64) w) (hx : ev e x = .int k a) (h : a = (N : Int)) (hN : N ≤ 9223372036854775807) :
    (execOp (ev e) ⟨d, .convert src dst x, ty, pos, aft, g⟩).run P w = .ok (.value (i64 (N : Nat))) w := by
  subst h
  exact r_conv_i64 hs hd hx (by omega)
end Go.Eng
end
section
namespace Go.Proofs.YtippcmedgfmgbaaGreat
/- Numbers modulo 257 and polynomials over them. -/
abbrev F := Fin 257
theorem f_inv : ∀ a : F, a ≠ 0 → ∃ b : F, a * b = 1 := by decide +kernel
theorem f_nz {a b : F} (h : a * b = 0) : a = 0 ∨ b = 0 := by
  by_cases ha : a = 0
  · exact .inl ha
  · obtain ⟨c, hc⟩ := f_inv a ha
    right
    have : b = (a * c) * b := by rw [hc, Fin.one_mul]
    rw [this]
    have e : a * c * b = a * b * c := by grind
    rw [e, h]; grind
/-- a polynomial's value -/
def ev : List F → F → F
  | [], _ => 0
  | c :: l, x => c + x * ev l x
/-- the quotient by (x - a) -/
def syn (a : F) : List F → List F
  | [] => []
  | [_] => []
  | _ :: d :: r => ev (d :: r) a :: syn a (d :: r)
theorem syn_len (a : F) : ∀ l : List F, (syn a l).length = l.length - 1
  | [] => rfl
  | [_] => rfl
  | _ :: d :: r => by
    have := syn_len a (d :: r)
    simp only [syn, List.length_cons] at *
    omega
theorem syn_ev (a x : F) : ∀ l : List F, ev l x = (x - a) * ev (syn a l) x + ev l a
  | [] => by simp only [ev, syn]; grind
  | [c] => by simp only [ev, syn]; grind
  | c :: d :: r => by
    have ih := syn_ev a x (d :: r)
    have h1 : ev (c :: d :: r) x = c + x * ev (d :: r) x := rfl
    have h2 : ev (c :: d :: r) a = c + a * ev (d :: r) a := rfl
    have h3 : ev (syn a (c :: d :: r)) x = ev (d :: r) a + x * ev (syn a (d :: r)) x := rfl
    rw [h1, h2, h3]
    generalize ev (d :: r) x = u at *
    generalize ev (d :: r) a = v at *
    generalize ev (syn a (d :: r)) x = s at *
    rw [ih]
    grind
theorem syn_zero (a : F) : ∀ l : List F, (∀ c ∈ syn a l, c = 0) → ev l a = 0 → ∀ c ∈ l, c = 0
  | [], _, _ => fun c hc => by cases hc
  | [c], _, h => fun d hd => by
    simp only [List.mem_singleton] at hd; subst hd
    simp only [ev] at h
    grind
  | c :: d :: r, h1, h2 => by
    have hs : ∀ z ∈ syn a (d :: r), z = 0 := fun z hz => h1 z (by simp only [syn]; exact List.mem_cons_of_mem _ hz)
    have h0 : ev (d :: r) a = 0 := h1 _ (by simp only [syn]; exact List.mem_cons_self)
    have ih := syn_zero a (d :: r) hs h0
    intro z hz
    rcases List.mem_cons.1 hz with rfl | hz
    · have e : ev (z :: d :: r) a = z + a * ev (d :: r) a := rfl
      rw [e, h0] at h2
      grind
    · exact ih z hz
/-- a polynomial has no more roots than its degree -/
theorem roots : ∀ (xs : List F) (l : List F), xs.Nodup → l.length ≤ xs.length → (∀ x ∈ xs, ev l x = 0) → ∀ c ∈ l, c = 0
  | [], l, _, hl, _ => fun c hc => by
    have : l = [] := List.eq_nil_of_length_eq_zero (by simpa using hl)
    subst this; cases hc
  | a :: xs, l, hn, hl, h => by
    have ha : ev l a = 0 := h a List.mem_cons_self
    refine syn_zero a l ?_ ha
    refine roots xs (syn a l) (List.nodup_cons.1 hn).2 (by rw [syn_len]; simp only [List.length_cons] at hl; omega) fun x hx => ?_
    have h1 := syn_ev a x l
    rw [h x (List.mem_cons_of_mem _ hx), ha] at h1
    have hne : x ≠ a := fun e => (List.nodup_cons.1 hn).1 (e ▸ hx)
    have h2 : (x - a) * ev (syn a l) x = 0 := by
      generalize ev (syn a l) x = u at *
      grind
    rcases f_nz h2 with h3 | h3
    · exact absurd (by grind : x = a) hne
    · exact h3
def subL : List F → List F → List F
  | a :: l, b :: m => (a - b) :: subL l m
  | _, _ => []
theorem subL_len : ∀ {l m : List F}, l.length = m.length → (subL l m).length = l.length
  | [], [], _ => rfl
  | _ :: l, _ :: m, h => by
    have ih := subL_len (l := l) (m := m) (by simpa using h)
    simp only [subL, List.length_cons]
    omega
theorem subL_ev (x : F) : ∀ {l m : List F}, l.length = m.length → ev (subL l m) x = ev l x - ev m x
  | [], [], _ => by simp only [subL, ev]; grind
  | a :: l, b :: m, h => by
    have ih := subL_ev x (l := l) (m := m) (by simpa using h)
    simp only [subL, ev]
    rw [ih]
    grind
theorem subL_zero : ∀ {l m : List F}, l.length = m.length → (∀ c ∈ subL l m, c = 0) → l = m
  | [], [], _, _ => rfl
  | a :: l, b :: m, h, hz => by
    have h0 : a - b = 0 := hz _ (by simp only [subL]; exact List.mem_cons_self)
    have : a = b := by grind
    have ih := subL_zero (l := l) (m := m) (by simpa using h) fun c hc => hz c (by simp only [subL]; exact List.mem_cons_of_mem _ hc)
    rw [this, ih]
/-- polynomials of one length that agree at as many places are one -/
theorem poly_eq {l m : List F} {xs : List F} (hl : l.length = m.length) (hn : xs.Nodup) (hx : l.length ≤ xs.length) (h : ∀ x ∈ xs, ev l x = ev m x) : l = m :=
  subL_zero hl (roots xs _ hn (by rw [subL_len hl]; exact hx) fun x hx => by rw [subL_ev x hl, h x hx]; grind)
/-- a polynomial times (x - b) -/
def lin (b : F) (l : List F) : List F := List.zipWith (fun u v => u - b * v) (0 :: l) (l ++ [0])
theorem lin_len (b : F) (l : List F) : (lin b l).length = l.length + 1 := by simp [lin]
theorem zip_ev (b x : F) : ∀ {l m : List F}, l.length = m.length → ev (List.zipWith (fun u v => u - b * v) l m) x = ev l x - b * ev m x
  | [], [], _ => by simp only [List.zipWith, ev]; grind
  | a :: l, c :: m, h => by
    have ih := zip_ev b x (l := l) (m := m) (by simpa using h)
    simp only [List.zipWith, ev]
    rw [ih]
    grind
theorem app_zero_ev (x : F) : ∀ l : List F, ev (l ++ [0]) x = ev l x
  | [] => by simp only [List.nil_append, ev]; grind
  | a :: l => by simp only [List.cons_append, ev]; rw [app_zero_ev x l]
theorem lin_ev (b x : F) (l : List F) : ev (lin b l) x = (x - b) * ev l x := by
  rw [lin, zip_ev b x (by simp), app_zero_ev]
  simp only [ev]
  grind
end Go.Proofs.YtippcmedgfmgbaaGreat
end
section
namespace Go.Proofs.YtippcmedgfmgbaaGreat
def pw (x : F) : Nat → F
  | 0 => 1
  | n + 1 => pw x n * x
theorem ev_app (x : F) : ∀ l m : List F, ev (l ++ m) x = ev l x + pw x l.length * ev m x
  | [], m => by simp only [List.nil_append, ev, List.length_nil, pw]; grind
  | a :: l, m => by
    have ih := ev_app x l m
    simp only [List.cons_append, ev, List.length_cons, pw]
    rw [ih]
    generalize pw x l.length = q
    grind
theorem ev_zeros (x : F) : ∀ n : Nat, ev (List.replicate n 0) x = 0
  | 0 => rfl
  | n + 1 => by rw [List.replicate_succ, ev, ev_zeros x n]; grind
theorem ev_scale (c x : F) : ∀ l : List F, ev (l.map fun v => c * v) x = c * ev l x
  | [] => by simp only [List.map_nil, ev]; grind
  | a :: l => by
    have ih := ev_scale c x l
    simp only [List.map_cons, ev]
    rw [ih]; grind
def addL (l m : List F) : List F := List.zipWith (fun a b => a + b) l m
theorem addL_len {l m : List F} (h : l.length = m.length) : (addL l m).length = l.length := by simp [addL, h]
theorem addL_ev (x : F) : ∀ {l m : List F}, l.length = m.length → ev (addL l m) x = ev l x + ev m x
  | [], [], _ => by simp only [addL, List.zipWith, ev]; grind
  | a :: l, b :: m, h => by
    have ih := addL_ev x (l := l) (m := m) (by simpa using h)
    have e : addL (a :: l) (b :: m) = (a + b) :: addL l m := rfl
    rw [e]
    simp only [ev]
    rw [ih]; grind
/-- p (its numbers from the last on) times e ++ [1] -/
def prodR (e : List F) : List F → List F
  | [] => List.replicate e.length 0
  | c :: pr => addL (prodR e pr ++ [0]) (List.replicate pr.length 0 ++ (e ++ [1]).map fun v => c * v)
theorem prodR_len (e : List F) : ∀ pr : List F, (prodR e pr).length = pr.length + e.length
  | [] => by simp [prodR]
  | c :: pr => by
    have ih := prodR_len e pr
    rw [prodR, addL_len (by simp [ih]; omega)]
    simp [ih]; omega
theorem prodR_ev (e : List F) (x : F) : ∀ pr : List F, ev (prodR e pr) x = ev pr.reverse x * ev (e ++ [1]) x
  | [] => by rw [prodR, ev_zeros, List.reverse_nil]; simp only [ev]; grind
  | c :: pr => by
    have ih := prodR_ev e x pr
    have hl := prodR_len e pr
    rw [prodR, addL_ev x (by simp [hl]; omega), app_zero_ev, ev_app x (List.replicate pr.length 0), ev_zeros, ev_scale, ih, List.reverse_cons, ev_app x pr.reverse, List.length_reverse, List.length_replicate]
    have e1 : ev [c] x = c := by simp only [ev]; grind
    rw [e1]
    generalize pw x pr.length = q
    generalize ev pr.reverse x = u
    generalize ev (e ++ [1]) x = v
    grind
/-- rest - f x^i b -/
def subAt (rest : List F) (i : Nat) (f : F) (b : List F) : List F := rest.mapIdx fun k v => if i ≤ k ∧ k < i + b.length then v - f * b.getD (k - i) 0 else v
theorem subAt_len (rest : List F) (i : Nat) (f : F) (b : List F) : (subAt rest i f b).length = rest.length := by simp [subAt]
def divS (b : List F) (w : Nat) : Nat → List F → List F × List F
  | 0, rest => ([], rest)
  | i + 1, rest => let r := divS b w i (subAt rest i (rest.getD (i + w) 0) b); (r.1 ++ [rest.getD (i + w) 0], r.2)
theorem subAt_prod (e : List F) (c : F) (pr : List F) (m : Nat) : subAt (prodR e (c :: pr) ++ List.replicate m 0) pr.length c (e ++ [1]) = prodR e pr ++ List.replicate (m + 1) 0 := by
  have hl := prodR_len e pr
  have hl2 := prodR_len e (c :: pr)
  apply List.ext_getElem?
  intro k
  rw [subAt, List.getElem?_mapIdx]
  simp only [List.length_append, List.length_cons, List.length_nil]
  have hz : ∀ {n j : Nat}, (List.replicate n (0 : F))[j]? = if j < n then some 0 else none := fun {n j} => by rw [List.getElem?_replicate]
  rcases Nat.lt_or_ge k (pr.length + e.length + 1) with h1 | h1
  · have a1 : (prodR e (c :: pr) ++ List.replicate m 0)[k]? = (prodR e (c :: pr))[k]? := List.getElem?_append_left (by rw [hl2]; simp; omega)
    have a2 : (prodR e (c :: pr))[k]? = some ((prodR e pr ++ [0]).getD k 0 + (List.replicate pr.length 0 ++ (e ++ [1]).map fun v => c * v).getD k 0) := by
      rw [prodR, addL, List.getElem?_zipWith]
      have b1 : k < (prodR e pr ++ [(0 : F)]).length := by simp [hl]; omega
      have b2 : k < (List.replicate pr.length (0 : F) ++ (e ++ [1]).map fun v => c * v).length := by simp; omega
      simp only [List.getD_eq_getElem?_getD, List.getElem?_eq_getElem b1, List.getElem?_eq_getElem b2, Option.getD_some]
    have a3 : (prodR e pr ++ List.replicate (m + 1) 0)[k]? = some ((prodR e pr ++ [0]).getD k 0) := by
      rcases Nat.lt_or_ge k (pr.length + e.length) with h2 | h2
      · rw [List.getElem?_append_left (by omega), List.getD_eq_getElem?_getD, List.getElem?_append_left (by omega), List.getElem?_eq_getElem (by omega)]
        rfl
      · rw [List.getElem?_append_right (by omega), hz, if_pos (by omega), List.getD_eq_getElem?_getD, List.getElem?_append_right (by omega), show k - (prodR e pr).length = 0 by omega]
        rfl
    rw [a1, a2, a3, Option.map_some]
    congr 1
    rcases Nat.lt_or_ge k pr.length with h2 | h2
    · rw [if_neg (by omega)]
      have : (List.replicate pr.length (0 : F) ++ (e ++ [1]).map fun v => c * v).getD k 0 = 0 := by
        rw [List.getD_eq_getElem?_getD, List.getElem?_append_left (by simpa using h2), hz, if_pos h2]; rfl
      rw [this]; grind
    · rw [if_pos (by omega)]
      have : (List.replicate pr.length (0 : F) ++ (e ++ [1]).map fun v => c * v).getD k 0 = c * (e ++ [1]).getD (k - pr.length) 0 := by
        rw [List.getD_eq_getElem?_getD, List.getElem?_append_right (by simpa using h2), List.length_replicate, List.getElem?_map, List.getD_eq_getElem?_getD, List.getElem?_eq_getElem (by simp; omega)]
        rfl
      rw [this]; grind
  · have a1 : (prodR e (c :: pr) ++ List.replicate m 0)[k]? = (prodR e pr ++ List.replicate (m + 1) 0)[k]? := by
      rw [List.getElem?_append_right (by rw [hl2]; simp; omega), List.getElem?_append_right (by omega), hz, hz, hl, hl2]
      simp only [List.length_cons]
      by_cases h3 : k - (pr.length + 1 + e.length) < m
      · rw [if_pos h3, if_pos (by omega)]
      · rw [if_neg h3, if_neg (by omega)]
    rw [a1]
    cases (prodR e pr ++ List.replicate (m + 1) 0)[k]? with
    | none => rfl
    | some v => rw [Option.map_some, if_neg (by omega)]
theorem div_prod (e : List F) : ∀ (pr : List F) (m : Nat), divS (e ++ [1]) e.length pr.length (prodR e pr ++ List.replicate m 0) = (pr.reverse, List.replicate (pr.length + e.length + m) 0)
  | [], m => by
    show (([] : List F), List.replicate e.length 0 ++ List.replicate m 0) = _
    rw [List.replicate_append_replicate, List.length_nil, Nat.zero_add]
    rfl
  | c :: pr, m => by
    have hl := prodR_len e pr
    have hf : (prodR e (c :: pr) ++ List.replicate m 0).getD (pr.length + e.length) 0 = c := by
      rw [List.getD_eq_getElem?_getD, List.getElem?_append_left (by rw [prodR_len]; simp only [List.length_cons]; omega), prodR, addL, List.getElem?_zipWith, List.getElem?_append_right (by omega), List.getElem?_append_right (by simp)]
      rw [List.length_replicate, show pr.length + e.length - (prodR e pr).length = 0 by omega, show pr.length + e.length - pr.length = e.length by omega, List.getElem?_map, List.getElem?_append_right (Nat.le_refl _), Nat.sub_self]
      simp only [List.getElem?_cons_zero, Option.map_some, Option.getD_some]
      grind
    rw [List.length_cons, divS, hf, subAt_prod]
    have ih := div_prod e pr (m + 1)
    rw [ih, List.reverse_cons, show pr.length + 1 + e.length + m = pr.length + e.length + (m + 1) by omega]
/- ### division, read by values -/
theorem subAt_ev (f x : F) (b : List F) : ∀ (i : Nat) (rest : List F), i + b.length ≤ rest.length → ev (subAt rest i f b) x = ev rest x - f * (pw x i * ev b x) := by
  have base : ∀ (b rest : List F), b.length ≤ rest.length → ev (subAt rest 0 f b) x = ev rest x - f * ev b x := by
    intro b
    induction b with
    | nil =>
      intro rest _
      have : subAt rest 0 f [] = rest := by
        apply List.ext_getElem?
        intro k
        rw [subAt, List.getElem?_mapIdx]
        cases rest[k]? with
        | none => rfl
        | some v => rw [Option.map_some, if_neg (by simp)]
      rw [this]; simp only [ev]; grind
    | cons c b ih =>
      intro rest h
      cases rest with
      | nil => simp at h
      | cons r rest =>
        have hs : subAt (r :: rest) 0 f (c :: b) = (r - f * c) :: subAt rest 0 f b := by
          rw [subAt, subAt, List.mapIdx_cons]
          congr 1
          apply List.mapIdx_eq_mapIdx_iff.2
          intro k hk
          by_cases h2 : k < b.length
          · simp [h2]
          · simp [h2]
        have := ih rest (by simpa using h)
        rw [hs]
        simp only [ev]
        rw [this]; grind
  intro i
  induction i with
  | zero =>
    intro rest h
    rw [base b rest (by omega)]
    simp only [pw]; grind
  | succ i ih =>
    intro rest h
    cases rest with
    | nil => simp at h
    | cons r rest =>
      have hs : subAt (r :: rest) (i + 1) f b = r :: subAt rest i f b := by
        rw [subAt, subAt, List.mapIdx_cons]
        congr 1
        apply List.mapIdx_eq_mapIdx_iff.2
        intro k hk
        have e1 : (i + 1 ≤ k + 1 ∧ k + 1 < i + 1 + b.length) ↔ (i ≤ k ∧ k < i + b.length) := by omega
        have e2 : k + 1 - (i + 1) = k - i := by omega
        simp only [e1, e2]
      have := ih rest (by simp only [List.length_cons] at h; omega)
      rw [hs]
      simp only [ev, pw]
      rw [this]
      generalize pw x i = q
      generalize ev b x = u
      generalize ev rest x = v
      grind
theorem div_ev (b : List F) (w : Nat) (hb : b.length = w + 1) (x : F) : ∀ (i : Nat) (rest : List F), i + w ≤ rest.length → ev rest x = ev (divS b w i rest).1 x * ev b x + ev (divS b w i rest).2 x ∧ (divS b w i rest).1.length = i
  | 0, rest, _ => by
    refine ⟨?_, rfl⟩
    show ev rest x = ev [] x * ev b x + ev rest x
    simp only [ev]; grind
  | i + 1, rest, h => by
    have h1 := div_ev b w hb x i (subAt rest i (rest.getD (i + w) 0) b) (by rw [subAt_len]; omega)
    have h2 := subAt_ev (rest.getD (i + w) 0) x b i rest (by omega)
    rw [divS]
    simp only
    refine ⟨?_, by rw [List.length_append, h1.2]; rfl⟩
    have h3 := h1.1
    rw [h2] at h3
    rw [ev_app, h1.2]
    have e1 : ev [rest.getD (i + w) 0] x = rest.getD (i + w) 0 := by simp only [ev]; grind
    rw [e1]
    generalize rest.getD (i + w) 0 = f at *
    generalize ev (divS b w i (subAt rest i f b)).1 x = o at *
    generalize ev (divS b w i (subAt rest i f b)).2 x = r at *
    generalize pw x i = q at *
    generalize ev b x = u at *
    generalize ev rest x = v at *
    grind
/- ### the key -/
def bad (p : List F) (pts : List (F × F)) : Nat := (pts.filter fun t => decide (ev p t.1 ≠ t.2)).length
structure Sol (need w : Nat) (pts : List (F × F)) (s : List F) : Prop where
  len : s.length = need + 2 * w
  eq : ∀ t ∈ pts, ev (s.take (need + w)) t.1 = t.2 * ev (s.drop (need + w) ++ [1]) t.1
def linAll (bl : List F) (l : List F) : List F := bl.foldr lin l
theorem linAll_len (l : List F) : ∀ bl : List F, (linAll bl l).length = bl.length + l.length
  | [] => by simp [linAll]
  | b :: bl => by
    have ih := linAll_len l bl
    show (lin b (linAll bl l)).length = _
    rw [lin_len, ih]; simp; omega
def linVal (bl : List F) (x : F) : F := bl.foldr (fun b v => (x - b) * v) 1
theorem linAll_ev (l : List F) (x : F) : ∀ bl : List F, ev (linAll bl l) x = linVal bl x * ev l x
  | [] => by
    show ev l x = 1 * ev l x
    grind
  | b :: bl => by
    have ih := linAll_ev l x bl
    show ev (lin b (linAll bl l)) x = (x - b) * linVal bl x * ev l x
    rw [lin_ev, ih]; grind
theorem linVal_zero {bl : List F} {x : F} (h : x ∈ bl) : linVal bl x = 0 := by
  induction bl with
  | nil => cases h
  | cons b bl ih =>
    show (x - b) * linVal bl x = 0
    rcases List.mem_cons.1 h with rfl | h
    · grind
    · rw [ih h]; grind
theorem lin_monic (b : F) (m : List F) : ∃ m', lin b (m ++ [1]) = m' ++ [1] ∧ m'.length = m.length + 1 := by
  refine ⟨List.zipWith (fun u v => u - b * v) (0 :: m) (m ++ [1]), ?_, by simp⟩
  have : (0 : F) :: (m ++ [1]) = (0 :: m) ++ [1] := rfl
  rw [lin, this, List.zipWith_append (by simp)]
  congr 1
  show [(1 : F) - b * 0] = [1]
  congr 1
  grind
theorem linAll_monic : ∀ bl : List F, ∃ m, linAll bl [1] = m ++ [1] ∧ m.length = bl.length
  | [] => ⟨[], rfl, rfl⟩
  | b :: bl => by
    obtain ⟨m, h1, h2⟩ := linAll_monic bl
    obtain ⟨m', h3, h4⟩ := lin_monic b m
    refine ⟨m', ?_, by rw [h4, h2]; rfl⟩
    show lin b (linAll bl [1]) = _
    rw [h1, h3]
theorem bw_complete {need w : Nat} {p : List F} {pts : List (F × F)} (hp : p.length = need) (hb : bad p pts ≤ w) : ∃ s, Sol need w pts s := by
  let bl := (pts.filter fun (t : F × F) => decide (ev p t.1 ≠ t.2)).map (fun t => t.1) ++ List.replicate (w - bad p pts) 0
  have hl : bl.length = w := by
    have : bl.length = bad p pts + (w - bad p pts) := by simp only [bl, bad, List.length_append, List.length_map, List.length_replicate]
    omega
  obtain ⟨m, h1, h2⟩ := linAll_monic bl
  have hq := linAll_len p bl
  refine ⟨linAll bl p ++ m, by rw [List.length_append, hq, h2, hl, hp]; omega, fun t ht => ?_⟩
  have e1 : (linAll bl p ++ m).take (need + w) = linAll bl p := by rw [List.take_append_of_le_length (by rw [hq]; omega), List.take_of_length_le (by rw [hq]; omega)]
  have e2 : (linAll bl p ++ m).drop (need + w) = m := by rw [List.drop_append_of_le_length (by rw [hq]; omega), List.drop_eq_nil_of_le (by rw [hq]; omega)]; rfl
  rw [e1, e2, ← h1, linAll_ev, linAll_ev]
  have e3 : ev [1] t.1 = 1 := by simp only [ev]; grind
  rw [e3]
  by_cases hg : ev p t.1 = t.2
  · rw [hg]; grind
  · have : linVal bl t.1 = 0 := linVal_zero (List.mem_append.2 (.inl (List.mem_map.2 ⟨t, List.mem_filter.2 ⟨ht, by simpa using hg⟩, rfl⟩)))
    rw [this]; grind
theorem filter_two {α : Type} (q : α → Bool) : ∀ l : List α, (l.filter q).length + (l.filter fun x => !q x).length = l.length
  | [] => rfl
  | a :: l => by
    have ih := filter_two q l
    cases h : q a <;> simp [h] <;> omega
/-- any solution divides to the polynomial that is off at no more than w -/
theorem bw_found {need w : Nat} {p : List F} {pts : List (F × F)} {s : List F} (hp : p.length = need) (hb : bad p pts ≤ w) (hn : (pts.map (·.1)).Nodup) (hm : need + 2 * w ≤ pts.length) (hs : Sol need w pts s) :
    divS (s.drop (need + w) ++ [1]) w need (s.take (need + w)) = (p, List.replicate (need + w) 0) := by
  have hel : (s.drop (need + w)).length = w := by rw [List.length_drop, hs.len]; omega
  have hql : (s.take (need + w)).length = need + w := by rw [List.length_take, hs.len]; omega
  generalize he : s.drop (need + w) = e at *
  generalize hq : s.take (need + w) = q at *
  have hpl := prodR_len e p.reverse
  have hgood : ((pts.filter fun t => !decide (ev p t.1 ≠ t.2)).map (·.1)).length + bad p pts = pts.length := by
    rw [List.length_map, bad, Nat.add_comm]
    exact filter_two _ pts
  have heq : q = prodR e p.reverse := by
    refine poly_eq (xs := (pts.filter fun t => !decide (ev p t.1 ≠ t.2)).map (·.1)) (by rw [hql, hpl, List.length_reverse, hel, hp]) (hn.sublist ((List.filter_sublist).map _)) (by omega) fun x hx => ?_
    obtain ⟨t, ht, rfl⟩ := List.mem_map.1 hx
    obtain ⟨ht1, ht2⟩ := List.mem_filter.1 ht
    have hg : ev p t.1 = t.2 := by simpa using ht2
    have h1 := hs.eq t ht1
    rw [hq, he] at h1
    rw [h1, prodR_ev, List.reverse_reverse, hg]
  have h := div_prod e p.reverse 0
  rw [List.replicate_zero, List.append_nil, List.reverse_reverse, List.length_reverse, hel, hp, ← heq] at h
  exact h
/-- what divides is off at no more than w -/
theorem bw_sound {need w : Nat} {o : List F} {pts : List (F × F)} {s : List F} (hn : (pts.map (·.1)).Nodup) (hs : Sol need w pts s) (hd : divS (s.drop (need + w) ++ [1]) w need (s.take (need + w)) = (o, List.replicate (need + w) 0)) : o.length = need ∧ bad o pts ≤ w := by
  have hel : (s.drop (need + w)).length = w := by rw [List.length_drop, hs.len]; omega
  have hql : (s.take (need + w)).length = need + w := by rw [List.length_take, hs.len]; omega
  have hid := fun x => div_ev (s.drop (need + w) ++ [1]) w (by rw [List.length_append, hel]; rfl) x need (s.take (need + w)) (by omega)
  rw [hd] at hid
  refine ⟨(hid 0).2, ?_⟩
  rcases Nat.lt_or_ge w (bad o pts) with h | h
  · exfalso
    have hz := roots ((pts.filter fun t => decide (ev o t.1 ≠ t.2)).map (·.1)) (s.drop (need + w) ++ [1]) (hn.sublist ((List.filter_sublist).map _)) (by rw [List.length_map, List.length_append, hel]; exact h) fun x hx => by
      obtain ⟨t, ht, rfl⟩ := List.mem_map.1 hx
      obtain ⟨ht1, ht2⟩ := List.mem_filter.1 ht
      have hg : ev o t.1 ≠ t.2 := by simpa using ht2
      have h1 := hs.eq t ht1
      have h2 := (hid t.1).1
      simp only [ev_zeros] at h2
      rw [h1] at h2
      have h3 : (ev o t.1 - t.2) * ev (s.drop (need + w) ++ [1]) t.1 = 0 := by
        generalize ev (s.drop (need + w) ++ [1]) t.1 = u at *
        generalize ev o t.1 = v at *
        grind
      rcases f_nz h3 with h4 | h4
      · exact absurd (by generalize ev o t.1 = v at *; grind) hg
      · exact h4
    have := hz 1 (List.mem_append.2 (.inr (List.mem_singleton.2 rfl)))
    exact absurd this (by decide)
  · exact h
end Go.Proofs.YtippcmedgfmgbaaGreat
end
section
namespace Go.Proofs.YtippcmedgfmgbaaGreat
/- Linear equations: rows of the factors, then what they come to. -/
def dotp : List F → List F → F
  | a :: l, b :: m => a * b + dotp l m
  | _, _ => 0
def en (rows : List (List F)) (i j : Nat) : F := (rows.getD i []).getD j 0
theorem dotp_nil (l : List F) : dotp l [] = 0 := by cases l <;> rfl
theorem dotp_comb (g : F) : ∀ {l m : List F} (z : List F), l.length = m.length → dotp (List.zipWith (fun a b => a - g * b) l m) z = dotp l z - g * dotp m z
  | [], [], z, _ => by simp only [List.zipWith, dotp]; grind
  | a :: l, b :: m, [], _ => by rw [dotp_nil, dotp_nil, dotp_nil]; grind
  | a :: l, b :: m, c :: z, h => by
    have ih := dotp_comb g (l := l) (m := m) z (by simpa using h)
    simp only [List.zipWith, dotp]
    rw [ih]; grind
theorem dotp_scale (f : F) : ∀ (l z : List F), dotp (l.map fun a => a * f) z = f * dotp l z
  | [], z => by simp only [List.map_nil, dotp]; grind
  | a :: l, [] => by rw [dotp_nil, dotp_nil]; grind
  | a :: l, c :: z => by
    have ih := dotp_scale f l z
    simp only [List.map_cons, dotp]
    rw [ih]; grind
theorem dotp_set (v : F) : ∀ (l z : List F) (c : Nat), c < z.length → c < l.length → dotp l (z.set c v) = dotp l z + l.getD c 0 * (v - z.getD c 0)
  | [], _, _, _, h => by simp at h
  | _ :: _, [], _, h, _ => by simp at h
  | a :: l, b :: z, 0, _, _ => by
    simp only [List.set_cons_zero, dotp, List.getD_cons_zero]; grind
  | a :: l, b :: z, c + 1, h1, h2 => by
    have ih := dotp_set v l z c (by simpa using h1) (by simpa using h2)
    simp only [List.set_cons_succ, dotp, List.getD_cons_succ]
    rw [ih]; grind
theorem dotp_zeros : ∀ (l : List F) (n : Nat), dotp l (List.replicate n 0) = 0
  | [], n => by cases n <;> rfl
  | a :: l, 0 => rfl
  | a :: l, n + 1 => by
    have ih := dotp_zeros l n
    rw [List.replicate_succ, dotp, ih]; grind
theorem dotp_zl : ∀ (l z : List F), (∀ a ∈ l, a = 0) → dotp l z = 0
  | [], _, _ => rfl
  | a :: l, [], _ => rfl
  | a :: l, c :: z, h => by
    have ih := dotp_zl l z fun a ha => h a (List.mem_cons_of_mem _ ha)
    have h0 := h a List.mem_cons_self
    rw [dotp, ih, h0]; grind
theorem dotp_app : ∀ (l m y z : List F), l.length = y.length → dotp (l ++ m) (y ++ z) = dotp l y + dotp m z
  | [], m, [], z, _ => by simp only [List.nil_append, dotp]; grind
  | a :: l, m, b :: y, z, h => by
    have ih := dotp_app l m y z (by simpa using h)
    simp only [List.cons_append, dotp]
    rw [ih]; grind
/-- s solves the rows (of u unknowns) -/
def Sat (s : List F) (rows : List (List F)) : Prop := ∀ i, i < rows.length → dotp (rows.getD i []) (s ++ [-1]) = 0
structure Gj (N u c : Nat) (rows0 rows : List (List F)) (piv : List Nat) : Prop where
  n : rows.length = N
  len : ∀ i, i < N → (rows.getD i []).length = u + 1
  lt : ∀ p ∈ piv, p < c
  nd : piv.Nodup
  pl : piv.length ≤ N
  one : ∀ k, k < piv.length → ∀ i, i < N → en rows i (piv.getD k 0) = if i = k then 1 else 0
  zero : ∀ c', c' < c → ∀ i, piv.length ≤ i → i < N → en rows i c' = 0
  sat : ∀ s, s.length = u → (Sat s rows ↔ Sat s rows0)
theorem gj_start {N u : Nat} {rows : List (List F)} (h : rows.length = N) (hl : ∀ i, i < N → (rows.getD i []).length = u + 1) : Gj N u 0 rows rows [] :=
  ⟨h, hl, fun p hp => (by cases hp), List.nodup_nil, Nat.zero_le _, fun k hk => (by simp at hk), fun c' h => absurd h (Nat.not_lt_zero _), fun _ _ => Iff.rfl⟩
/-- no pivot in this column -/
theorem gj_skip {N u c : Nat} {rows0 rows : List (List F)} {piv : List Nat} (h : Gj N u c rows0 rows piv) (hz : ∀ i, piv.length ≤ i → i < N → en rows i c = 0) : Gj N u (c + 1) rows0 rows piv :=
  ⟨h.n, h.len, fun p hp => Nat.lt_succ_of_lt (h.lt p hp), h.nd, h.pl, h.one, fun c' hc i h1 h2 => by
    rcases Nat.lt_or_ge c' c with h3 | h3
    · exact h.zero c' h3 i h1 h2
    · obtain rfl : c' = c := by omega
      exact hz i h1 h2, h.sat⟩
def swapL (rows : List (List F)) (r k : Nat) : List (List F) := (rows.set r (rows.getD k [])).set k (rows.getD r [])
theorem swap_get {rows : List (List F)} {r k : Nat} (hr : r < rows.length) (hk : k < rows.length) (i : Nat) : (swapL rows r k).getD i [] = if i = k then rows.getD r [] else if i = r then rows.getD k [] else rows.getD i [] := by
  unfold swapL
  simp only [List.getD_eq_getElem?_getD, List.getElem?_set, List.length_set]
  by_cases h1 : k = i
  · subst h1; simp [hk]
  · have h1' : ¬ i = k := fun h => h1 h.symm
    by_cases h2 : r = i
    · subst h2; simp [h1, hr, h1']
    · have h2' : ¬ i = r := fun h => h2 h.symm
      simp [h1, h2, h1', h2']
/-- row r scaled and taken out of the others -/
def elimL (rows : List (List F)) (r c : Nat) (f : F) : List (List F) :=
  rows.mapIdx fun i row => if i = r then row.map fun a => a * f else List.zipWith (fun a b => a - row.getD c 0 * b) row ((rows.getD r []).map fun a => a * f)
theorem elim_get {rows : List (List F)} {r c : Nat} {f : F} {i : Nat} (hi : i < rows.length) :
    (elimL rows r c f).getD i [] = if i = r then (rows.getD r []).map fun a => a * f else List.zipWith (fun a b => a - en rows i c * b) (rows.getD i []) ((rows.getD r []).map fun a => a * f) := by
  unfold elimL en
  simp only [List.getD_eq_getElem?_getD, List.getElem?_mapIdx, List.getElem?_eq_getElem hi, Option.map_some, Option.getD_some]
  by_cases h : i = r
  · subst h; simp [hi]
  · simp [h]
theorem getD_map_mul (l : List F) (f : F) (j : Nat) : (l.map fun a => a * f).getD j 0 = l.getD j 0 * f := by
  simp only [List.getD_eq_getElem?_getD, List.getElem?_map]
  cases l[j]? with
  | none => simp only [Option.map_none, Option.getD_none]; grind
  | some v => rfl
theorem getD_zip_sub (l m : List F) (g : F) (h : l.length = m.length) (j : Nat) : (List.zipWith (fun a b => a - g * b) l m).getD j 0 = l.getD j 0 - g * m.getD j 0 := by
  simp only [List.getD_eq_getElem?_getD, List.getElem?_zipWith]
  rcases Nat.lt_or_ge j l.length with h1 | h1
  · rw [List.getElem?_eq_getElem h1, List.getElem?_eq_getElem (by omega)]; rfl
  · rw [List.getElem?_eq_none h1, List.getElem?_eq_none (by omega)]
    simp only [Option.getD_none]; grind
theorem gj_pivot {N u c k : Nat} {f : F} {rows0 rows : List (List F)} {piv : List Nat} (h : Gj N u c rows0 rows piv) (hcu : c < u) (hk1 : piv.length ≤ k) (hk2 : k < N) (hf : en rows k c * f = 1) :
    Gj N u (c + 1) rows0 (elimL (swapL rows piv.length k) piv.length c f) (piv ++ [c]) := by
  have hrN : piv.length < N := by omega
  have hsl : (swapL rows piv.length k).length = N := by simp [swapL, h.n]
  have hsg := fun i => swap_get (rows := rows) (r := piv.length) (k := k) (by rw [h.n]; exact hrN) (by rw [h.n]; exact hk2) i
  generalize hS : swapL rows piv.length k = S at *
  have hSlen : ∀ i, i < N → (S.getD i []).length = u + 1 := fun i hi => by
    rw [hsg]
    split
    · exact h.len _ hrN
    · split
      · exact h.len _ hk2
      · exact h.len _ hi
  -- what the swapped rows hold
  have hSz : ∀ c', c' < c → ∀ i, piv.length ≤ i → i < N → en S i c' = 0 := fun c' hc i h1 h2 => by
    unfold en
    rw [hsg]
    split
    · exact h.zero c' hc _ (Nat.le_refl _) hrN
    · split
      · exact h.zero c' hc _ hk1 hk2
      · exact h.zero c' hc _ h1 h2
  have hSo : ∀ q, q < piv.length → ∀ i, i < N → en S i (piv.getD q 0) = if i = q then 1 else 0 := fun q hq i hi => by
    have hr := h.one q hq piv.length hrN
    have hkk := h.one q hq k hk2
    rw [if_neg (by omega)] at hr hkk
    unfold en
    rw [hsg]
    split
    · rename_i e; rw [if_neg (by omega)]; exact hr
    · split
      · rename_i e; rw [if_neg (by omega)]; exact hkk
      · exact h.one q hq i hi
  have hSp : en S piv.length c * f = 1 := by
    unfold en
    rw [hsg]
    by_cases e : piv.length = k
    · rw [if_pos e, e]; exact hf
    · rw [if_neg e, if_pos rfl]; exact hf
  have hSs : ∀ s : List F, Sat s S ↔ Sat s rows := fun s => by
    constructor
    · intro hs i hi
      rw [h.n] at hi
      by_cases e1 : i = piv.length
      · have := hs k (by rw [hsl]; exact hk2)
        rw [hsg, if_pos rfl] at this; rw [e1]; exact this
      · by_cases e2 : i = k
        · have := hs piv.length (by rw [hsl]; exact hrN)
          rw [hsg] at this
          by_cases e3 : piv.length = k
          · omega
          · rw [if_neg e3, if_pos rfl] at this; rw [e2]; exact this
        · have := hs i (by rw [hsl]; exact hi)
          rw [hsg, if_neg e2, if_neg e1] at this; exact this
    · intro hs i hi
      rw [hsl] at hi
      rw [hsg]
      split
      · exact hs _ (by rw [h.n]; exact hrN)
      · split
        · exact hs _ (by rw [h.n]; exact hk2)
        · exact hs _ (by rw [h.n]; exact hi)
  have hE := fun i (hi : i < N) => elim_get (rows := S) (r := piv.length) (c := c) (f := f) (i := i) (by rw [hsl]; exact hi)
  have hel : (elimL S piv.length c f).length = N := by simp [elimL, hsl]
  have hml : ((S.getD piv.length []).map fun a => a * f).length = u + 1 := by rw [List.length_map]; exact hSlen _ hrN
  have hEen : ∀ i, i < N → ∀ j, en (elimL S piv.length c f) i j = if i = piv.length then en S piv.length j * f else en S i j - en S i c * (en S piv.length j * f) := fun i hi j => by
    show ((elimL S piv.length c f).getD i []).getD j 0 = _
    rw [hE i hi]
    split
    · exact getD_map_mul _ _ _
    · rw [getD_zip_sub _ _ _ (by rw [hml]; exact hSlen i hi), getD_map_mul]; rfl
  refine ⟨hel, fun i hi => ?_, fun p hp => ?_, ?_, by rw [List.length_append]; simp only [List.length_cons, List.length_nil]; omega, fun q hq i hi => ?_, fun c' hc i h1 h2 => ?_, fun s hs => ?_⟩
  · rw [hE i hi]
    split
    · exact hml
    · rw [List.length_zipWith, hml, hSlen i hi, Nat.min_self]
  · rcases List.mem_append.1 hp with hp | hp
    · exact Nat.lt_succ_of_lt (h.lt p hp)
    · rw [List.mem_singleton] at hp; omega
  · refine List.nodup_append.2 ⟨h.nd, by simp, fun a ha b hb => ?_⟩
    rw [List.mem_singleton] at hb
    have := h.lt a ha
    omega
  · rw [List.length_append] at hq
    simp only [List.length_cons, List.length_nil] at hq
    rw [hEen i hi]
    rcases Nat.lt_or_ge q piv.length with h3 | h3
    · have e : (piv ++ [c]).getD q 0 = piv.getD q 0 := by simp only [List.getD_eq_getElem?_getD]; rw [List.getElem?_append_left h3]
      rw [e]
      have e1 := hSo q h3 piv.length hrN
      have e2 := hSo q h3 i hi
      rw [if_neg (by omega)] at e1
      rw [e1]
      split
      · rename_i e4; rw [if_neg (by omega)]; grind
      · rw [e2]
        generalize en S i c = z
        split <;> grind
    · obtain rfl : q = piv.length := by omega
      have e : (piv ++ [c]).getD piv.length 0 = c := by simp only [List.getD_eq_getElem?_getD]; rw [List.getElem?_append_right (Nat.le_refl _), Nat.sub_self]; rfl
      rw [e, hSp]
      split
      · rfl
      · generalize en S i c = z
        grind
  · rw [List.length_append] at h1
    simp only [List.length_cons, List.length_nil] at h1
    rw [hEen i h2, if_neg (by omega)]
    rcases Nat.lt_or_ge c' c with h3 | h3
    · rw [hSz c' h3 i (by omega) h2, hSz c' h3 piv.length (Nat.le_refl _) hrN]
      generalize en S i c = z
      grind
    · obtain rfl : c' = c := by omega
      rw [hSp]
      generalize en S i c' = z
      grind
  · rw [← h.sat s hs, ← hSs s]
    have hrow : ∀ i, i < N → dotp ((elimL S piv.length c f).getD i []) (s ++ [-1]) = if i = piv.length then f * dotp (S.getD piv.length []) (s ++ [-1]) else dotp (S.getD i []) (s ++ [-1]) - en S i c * (f * dotp (S.getD piv.length []) (s ++ [-1])) := fun i hi => by
      rw [hE i hi]
      split
      · exact dotp_scale _ _ _
      · rw [dotp_comb _ _ (by rw [hml]; exact hSlen i hi), dotp_scale]
    constructor
    · intro hs i hi
      rw [hsl] at hi
      have hp0 : dotp (S.getD piv.length []) (s ++ [-1]) = 0 := by
        have h5 := hs piv.length (by rw [hel]; exact hrN)
        rw [hrow _ hrN, if_pos rfl] at h5
        have e : dotp (S.getD piv.length []) (s ++ [-1]) = en S piv.length c * f * dotp (S.getD piv.length []) (s ++ [-1]) := by rw [hSp]; grind
        rw [e]
        generalize dotp (S.getD piv.length []) (s ++ [-1]) = z at *
        generalize en S piv.length c = y
        have e2 : y * f * z = y * (f * z) := by grind
        rw [e2, h5]; grind
      by_cases e : i = piv.length
      · rw [e]; exact hp0
      · have h5 := hs i (by rw [hel]; exact hi)
        rw [hrow i hi, if_neg e, hp0] at h5
        generalize dotp (S.getD i []) (s ++ [-1]) = z at *
        generalize en S i c = y at *
        grind
    · intro hs i hi
      rw [hel] at hi
      have h5 := hs piv.length (by rw [hsl]; exact hrN)
      have h6 := hs i (by rw [hsl]; exact hi)
      rw [hrow i hi, h5, h6]
      generalize en S i c = y
      split <;> grind
/-- the first row from k on with a number in column c -/
def seek (rows : List (List F)) (c : Nat) : Nat → Nat → Nat
  | 0, k => k
  | d + 1, k => if en rows k c = 0 then seek rows c d (k + 1) else k
theorem seek_spec (rows : List (List F)) (c : Nat) : ∀ (d k : Nat), k ≤ seek rows c d k ∧ seek rows c d k ≤ k + d ∧ (∀ i, k ≤ i → i < seek rows c d k → en rows i c = 0) ∧ (seek rows c d k < k + d → en rows (seek rows c d k) c ≠ 0)
  | 0, k => ⟨Nat.le_refl _, Nat.le_refl _, fun i h1 h2 => by simp only [seek] at h2; omega, fun h => by simp only [seek] at h; omega⟩
  | d + 1, k => by
    have ih := seek_spec rows c d (k + 1)
    rw [seek]
    split
    · rename_i h0
      refine ⟨by omega, by omega, fun i h1 h2 => ?_, fun h => ih.2.2.2 (by omega)⟩
      by_cases e : i = k
      · rw [e]; exact h0
      · exact ih.2.2.1 i (by omega) h2
    · rename_i h0
      exact ⟨Nat.le_refl _, by omega, fun i h1 h2 => by omega, fun _ => h0⟩
def fInv (a : F) : F := pw a 255
theorem fInv_mul : ∀ a : F, a ≠ 0 → a * fInv a = 1 := by decide +kernel
def gj (N : Nat) : Nat → Nat → List (List F) → List Nat → List (List F) × List Nat
  | 0, _, rows, piv => (rows, piv)
  | d + 1, c, rows, piv => if piv.length < N then
      (if seek rows c (N - piv.length) piv.length = N then gj N d (c + 1) rows piv
       else gj N d (c + 1) (elimL (swapL rows piv.length (seek rows c (N - piv.length) piv.length)) piv.length c (fInv (en rows (seek rows c (N - piv.length) piv.length) c))) (piv ++ [c]))
    else (rows, piv)
theorem gj_spec {N u : Nat} {rows0 : List (List F)} : ∀ (d c : Nat) (rows : List (List F)) (piv : List Nat), d + c = u → Gj N u c rows0 rows piv → ∃ c', c ≤ c' ∧ c' ≤ u ∧ Gj N u c' rows0 (gj N d c rows piv).1 (gj N d c rows piv).2 ∧ (c' = u ∨ (gj N d c rows piv).2.length = N)
  | 0, c, rows, piv, hd, h => ⟨c, Nat.le_refl _, by omega, h, .inl (by omega)⟩
  | d + 1, c, rows, piv, hd, h => by
    have hsk := seek_spec rows c (N - piv.length) piv.length
    have hpl := h.pl
    rw [gj]
    split
    · rename_i h1
      split
      · rename_i h2
        obtain ⟨c', h3, h4, h5⟩ := gj_spec d (c + 1) rows piv (by omega) (gj_skip h fun i hi1 hi2 => hsk.2.2.1 i hi1 (by omega))
        exact ⟨c', by omega, h4, h5⟩
      · rename_i h2
        have hne := hsk.2.2.2 (by omega)
        obtain ⟨c', h3, h4, h5⟩ := gj_spec d (c + 1) _ _ (by omega) (gj_pivot h (by omega) hsk.1 (by omega) (fInv_mul _ hne))
        exact ⟨c', by omega, h4, h5⟩
    · refine ⟨c, Nat.le_refl _, by omega, h, .inr ?_⟩
      show piv.length = N
      omega
/-- what is handed out: each pivot's number, else 0 -/
def outTo (u : Nat) (rows : List (List F)) (piv : List Nat) : Nat → List F
  | 0 => List.replicate u 0
  | k + 1 => (outTo u rows piv k).set (piv.getD k 0) (en rows k u)
theorem outTo_len (u : Nat) (rows : List (List F)) (piv : List Nat) : ∀ k, (outTo u rows piv k).length = u
  | 0 => by simp [outTo]
  | k + 1 => by rw [outTo, List.length_set, outTo_len u rows piv k]
theorem outTo_get {u : Nat} {rows : List (List F)} {piv : List Nat} (hn : piv.Nodup) : ∀ k q, k ≤ q → q < piv.length → (outTo u rows piv k).getD (piv.getD q 0) 0 = 0
  | 0, q, _, _ => by
    simp only [outTo, List.getD_eq_getElem?_getD, List.getElem?_replicate]
    split <;> rfl
  | k + 1, q, h1, h2 => by
    have ih := outTo_get (u := u) (rows := rows) hn k q (by omega) h2
    have hne : piv.getD k 0 ≠ piv.getD q 0 := fun e => by
      simp only [List.getD_eq_getElem?_getD, List.getElem?_eq_getElem (show k < piv.length by omega), List.getElem?_eq_getElem h2, Option.getD_some] at e
      exact List.pairwise_iff_getElem.1 hn k q (by omega) h2 (by omega) e
    rw [outTo]
    simp only [List.getD_eq_getElem?_getD] at ih hne ⊢
    rw [List.getElem?_set_ne hne]
    exact ih
def solveF (N u : Nat) (rows : List (List F)) : Option (List F) :=
  let r := gj N u 0 rows []
  if (List.range N).all fun i => decide (i < r.2.length) || decide (en r.1 i u = 0) then some (outTo u r.1 r.2 r.2.length) else none
theorem dotp_row {u : Nat} {row : List F} (h : row.length = u + 1) (s : List F) (hs : s.length = u) : dotp row (s ++ [-1]) = dotp (row.take u) s - row.getD u 0 := by
  have e : row = row.take u ++ [row.getD u 0] := by
    have hu : u < row.length := by omega
    have h1 : row.drop u = [row.getD u 0] := by
      rw [List.drop_eq_getElem_cons hu, List.drop_eq_nil_of_le (by omega), List.getD_eq_getElem?_getD, List.getElem?_eq_getElem hu]; rfl
    rw [← h1, List.take_append_drop]
  have h2 : dotp row (s ++ [-1]) = dotp (row.take u ++ [row.getD u 0]) (s ++ [-1]) := by rw [← e]
  rw [h2, dotp_app _ _ _ _ (by rw [List.length_take]; omega)]
  simp only [dotp]
  grind
theorem solve_spec {N u : Nat} {rows : List (List F)} (hN : rows.length = N) (hl : ∀ i, i < N → (rows.getD i []).length = u + 1) :
    (∀ s, solveF N u rows = some s → s.length = u ∧ Sat s rows) ∧ (solveF N u rows = none → ∀ s, s.length = u → ¬ Sat s rows) := by
  obtain ⟨c, _, hcu, hG, hend⟩ := gj_spec (u := u) (rows0 := rows) u 0 rows [] (Nat.add_zero u) (gj_start hN hl)
  unfold solveF
  simp only
  generalize (gj N u 0 rows []).1 = R at *
  generalize (gj N u 0 rows []).2 = piv at *
  have hpu : ∀ q, q < piv.length → piv.getD q 0 < u := fun q hq => by
    have := hG.lt (piv.getD q 0) (by rw [List.getD_eq_getElem?_getD, List.getElem?_eq_getElem hq]; exact List.getElem_mem hq)
    omega
  constructor
  · intro s hs
    split at hs
    · rename_i hall
      rw [List.all_eq_true] at hall
      cases hs
      refine ⟨outTo_len _ _ _ _, (hG.sat _ (outTo_len _ _ _ _)).1 fun i hi => ?_⟩
      rw [hG.n] at hi
      rw [dotp_row (hG.len i hi) _ (outTo_len _ _ _ _)]
      have hlt : ((R.getD i []).take u).length = u := by rw [List.length_take, hG.len i hi]; omega
      have key : ∀ k, k ≤ piv.length → dotp ((R.getD i []).take u) (outTo u R piv k) = if i < k then en R i u else 0 := by
        intro k
        induction k with
        | zero => intro _; rw [outTo, dotp_zeros]; simp
        | succ k ih =>
          intro hk
          rw [outTo, dotp_set _ _ _ _ (by rw [outTo_len]; exact hpu k (by omega)) (by rw [hlt]; exact hpu k (by omega)), ih (by omega), outTo_get hG.nd k k (Nat.le_refl _) (by omega)]
          have e : ((R.getD i []).take u).getD (piv.getD k 0) 0 = en R i (piv.getD k 0) := by
            have := hpu k (by omega)
            show _ = (R.getD i []).getD (piv.getD k 0) 0
            rw [List.getD_eq_getElem?_getD, List.getElem?_take_of_lt this, ← List.getD_eq_getElem?_getD]
          rw [e, hG.one k (by omega) i hi]
          by_cases h1 : i = k
          · rw [if_neg (by omega), if_pos h1, if_pos (by omega), h1]; grind
          · rw [if_neg h1]
            by_cases h2 : i < k
            · rw [if_pos h2, if_pos (by omega)]; grind
            · rw [if_neg h2, if_neg (by omega)]; grind
      rw [key _ (Nat.le_refl _)]
      show _ - en R i u = 0
      split
      · grind
      · rename_i h1
        have h2 := hall i (List.mem_range.2 hi)
        have h3 : en R i u = 0 := by simpa [h1] using h2
        rw [h3]; grind
    · cases hs
  · intro hnone s hs hsat
    split at hnone
    · cases hnone
    · rename_i hall
      refine hall (List.all_eq_true.2 fun i hi => ?_)
      have hi := List.mem_range.1 hi
      rcases Nat.lt_or_ge i piv.length with h1 | h1
      · simp [h1]
      · have hcu' : c = u := by
          rcases hend with h | h
          · exact h
          · omega
        have h2 := (hG.sat s hs).2 hsat i (by rw [hG.n]; exact hi)
        rw [dotp_row (hG.len i hi) s hs, dotp_zl _ _ fun a ha => by
          obtain ⟨j, hj, rfl⟩ := List.getElem_of_mem ha
          have hj' : j < u := by rw [List.length_take] at hj; omega
          have h3 := hG.zero j (by omega) i h1 hi
          have hrl : j < (R.getD i []).length := by rw [hG.len i hi]; omega
          have h4 : ((R.getD i []).take u)[j] = en R i j := by
            show _ = (R.getD i []).getD j 0
            generalize R.getD i [] = row at *
            rw [List.getElem_take, List.getD_eq_getElem?_getD, List.getElem?_eq_getElem hrl]; rfl
          rw [h4]; exact h3] at h2
        have h5 : en R i u = 0 := by
          show (R.getD i []).getD u 0 = 0
          generalize (R.getD i []).getD u 0 = z at *
          grind
        simp [h5]
end Go.Proofs.YtippcmedgfmgbaaGreat
end
