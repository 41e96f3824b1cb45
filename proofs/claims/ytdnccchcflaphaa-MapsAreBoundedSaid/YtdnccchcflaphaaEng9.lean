/- Eng9: a calculus of walks over frames that are read as functions, for the program's code as the model has it: proved for every program. -/
import Derived.Test.YtdnccchcflaphaaEng8
import Derived.Laws.Cover3
import Derived.Stop.BytesEq
open Go Go.Eng
namespace Go.Eng
variable {P : Program} {w : World} {e : Env} {d : Option Nat} {ty : TypeId} {pos : String} {aft : Array Edge} {g : Option (Nat × Bool)}
theorem zeroCells_one (z : Value) (n : Nat) : (Builtin.zeroCells #[z] n) = (List.replicate n z).toArray := by
  apply Array.ext
  · simp [Builtin.zeroCells]
  · intro j h1 h2
    simp [Builtin.zeroCells] at h1 ⊢
    have : j % 1 = 0 := Nat.mod_one j
    simp [this]
/-- append(v, make([]T, m)...): the m zeros are never laid -/
theorem w_appendZ {s x : Operand} {tS tX : TypeId} {B : Nat} {E : TypeId} {i : TypeInfo} {z v : Value} {n m : Nat} {cs : List Value} {q : Int} {k : IntKind} (hu : P.underlying tS = some (.slice E)) (hX : P.underlying tX = some (.int k)) (hi : P.info? E = some i) (hz : i.zero = some z) (hsz : i.size = 1) (hzs : z.cells = #[z]) (hz1 : one z = true)
    (hs : ev e s = v) (hown : Owns w B E 1 v n cs) (hx : ev e x = i64 q) (hq : q = (m : Int)) (hm : 0 < m) (hlen : n + m ≤ 4611686018427387904) (hby : (n + m) * i.bytes ≤ 140737488355328) (hB : B ≤ w.heap.size) :
    OpWp P ⟨d, .call ⟨.builtin .append, #[s, x], #[tS, tX]⟩, ty, pos, aft, g⟩ e w (fun v' w' => Owns w' B E 1 v' (n + m) (cs ++ List.replicate m z) ∧ Chg (ob v) w w') := by
  subst hq
  have hmax : n + m ≤ maxLen := by simp only [maxLen]; omega
  have hwr : IntKind.i64.wrap (m : Int) = (m : Int) := wrap_i64_of _ (by omega)
  have hneg : ¬ ((m : Int) < 0) := by omega
  have hmb : m * i.bytes ≤ 140737488355328 := Nat.le_trans (Nat.mul_le_mul_right _ (by omega)) hby
  have hbig : ¬ (281474976710656 < (m : Int) * (i.bytes : Int)) := by rw [← Int.natCast_mul]; omega
  have hl : (cs ++ List.replicate m z).length = (n + m) * 1 := by rw [List.length_append, hown.1, List.length_replicate]; omega
  have grown : ∀ (old : Nat), old < n + m → ∀ (row : Option Nat),
      (w.drew.alloc (.cells (cs.toArray ++ (List.replicate m z).toArray ++ Builtin.zeroCells z.cells (grownCap w (n + m) old E - (n + m))) E)).ownsRow B E 1
        (.slice (some ⟨w.heap.size, 0, none⟩) (n + m) (grownCap w (n + m) old E)) (n + m) (cs ++ List.replicate m z) ∧
      w.grownBy (w.drew.alloc (.cells (cs.toArray ++ (List.replicate m z).toArray ++ Builtin.zeroCells z.cells (grownCap w (n + m) old E - (n + m))) E)) row := by
    intro old ho row
    have hge := grownCap_ge w (n + m) old E
    have hcm : grownCap w (n + m) old E ≤ maxLen := grownCap_le_maxLen w (n + m) old E hmax
    refine ⟨⟨hl, .inr ⟨w.heap.size, _, _, rfl, hB, heap_alloc_new w.drew _, hge, hcm, ?_, ?_⟩⟩, ⟨rfl, rfl, rfl, by simp, fun k' hk _ => by first | exact heap_alloc_old w.drew _ hk | exact heap_alloc_old w.drew _ k' hk⟩⟩
    · simp only [Array.size_append, List.size_toArray, size_zeroCells, hzs, hown.1, List.length_replicate, List.size_toArray, List.length_cons, List.length_nil]
      omega
    · simp only [Array.toList_append, List.append_assoc]
      rw [← List.append_assoc, ← hl]
      exact List.take_left
  have key : ∃ v' w', (Builtin.append_ #[tS, tX] ty #[v, i64 (m : Int)]).run P w = .ok v' w' ∧ w'.ownsRow B E 1 v' (n + m) (cs ++ List.replicate m z) ∧ w.grownBy w' v.ownBlock := by
    rcases hown.2 with ⟨rfl, rfl⟩ | ⟨g', cap, cur, rfl, hbg, hg, hnc, hcm, hcs, htake⟩
    · have hx : cs = [] := List.eq_nil_of_length_eq_zero (by simpa using hown.1)
      subst hx
      have hgr := grown 0 (by omega) (Value.ownBlock (.slice none 0 0))
      simp only [Nat.zero_add, List.nil_append, Array.empty_append] at hgr ⊢
      refine ⟨_, _, ?_, hgr.1, hgr.2⟩
      have hn : ¬ (m = 0) := by omega
      have h63' : ¬ (9223372036854775807 < (m : Int)) := by omega
      have h48' : ¬ (281474976710656 < Builtin.nextslicecap m 0 * i.bytes) := by rw [nextslicecap_zero hm]; omega
      simp [Builtin.append_, run_underlying hu, run_underlying hX, sizeOf, typeInfo, zeroValue, hi, hz, hsz, hzs, hwr, hneg, hbig, hn, h63', h48', Question.forced, run_firstCells_none, newRow, grownCap, zeroCells_one, asInt, asIntOf, i64]
    · by_cases hroom : n + m ≤ cap
      · have hst := run_storeCells_at P g' (n * 1) E (List.replicate m z) 0 cur w hg (by rw [List.length_replicate, hcs]; omega) (by intro u hu; rw [List.mem_replicate] at hu; rw [hu.2]; exact hz1)
        simp only [Nat.add_zero, Nat.mul_one] at hst
        refine ⟨.slice (some ⟨g', 0, none⟩) (n + m) cap, _, ?_, ⟨hl, .inr ⟨g', cap, _, rfl, hbg, setRow_heap w g' cur (cur.toList.take n ++ List.replicate m z ++ cur.toList.drop (n + m)).toArray _ _ hg, hroom, hcm, ?_, ?_⟩⟩, ⟨rfl, rfl, rfl, by simp, fun k _ hk => setRow_other w g' k _ (fun e => hk (by simp [Value.ownBlock, e]))⟩⟩
        · have hn : ¬ (m = 0) := by omega
          simp [Builtin.append_, run_underlying hu, run_underlying hX, sizeOf, typeInfo, zeroValue, hi, hz, hsz, hzs, hwr, hneg, hbig, hn, hroom, zeroCells_one, asInt, asIntOf, i64, Addr.add_lit, hst]
        · simp only [List.size_toArray, List.length_append, List.length_take, List.length_drop, Array.length_toList, List.length_replicate]
          omega
        · have ht' : cur.toList.take n = cs := by simpa using htake
          rw [ht', ← hl]
          exact List.take_left
      · have holds : ∀ j u, cs[j]? = some u → w.cell? ((⟨g', 0, none⟩ : Addr).add j) = some u := hown.cells (g := g') rfl
        have hgr := grown cap (by omega) (Value.ownBlock (.slice (some ⟨g', 0, none⟩) n cap))
        refine ⟨_, _, ?_, hgr.1, hgr.2⟩
        have hn : ¬ (m = 0) := by omega
        have h63' : ¬ (9223372036854775807 < (n : Int) + (m : Int)) := by omega
        have h48' : ¬ (281474976710656 < Builtin.nextslicecap (n + m) cap * i.bytes) := by have := growslice_fits (old := cap) (need := n + m) (bytes := i.bytes) (by omega) hby; omega
        have hfo := run_firstCells_some (P := P) w.drew i.size n ⟨g', 0, none⟩ n cap cs (by rw [hsz]; exact hown.1) (by simpa using holds)
        rw [hsz] at hfo
        simp [Builtin.append_, run_underlying hu, run_underlying hX, sizeOf, typeInfo, zeroValue, hi, hz, hsz, hzs, hwr, hneg, hbig, hn, hroom, h63', h48', Question.forced, hfo, newRow, grownCap, zeroCells_one, asInt, asIntOf, i64]
  obtain ⟨v', w', h1, h2, h3⟩ := key
  unfold OpWp
  have : (execOp (ev e) ⟨d, .call ⟨.builtin .append, #[s, x], #[tS, tX]⟩, ty, pos, aft, g⟩).run P w = .ok (.value v') w' := by
    simp only [execOp, resolve, invoke, builtin, Sem.run_bind, Sem.run_pure, Result.andThen_ok, List.map_toArray, List.map_cons, List.map_nil, hs, hx, h1]
  rw [this]
  exact ⟨h2, chg_grownBy h3⟩
/-- []T{}: a slice that is not nil -/
theorem w_build0 {sz : Nat} {t E : TypeId} {i : TypeInfo} {z : Value} (hu : P.underlying t = some (.slice E)) (hi : P.info? E = some i) (hz : i.zero = some z) (hsz : i.size = sz) :
    OpWp P ⟨d, .buildSlice t 0 #[], ty, pos, aft, g⟩ e w (fun v' w' => Owns w' w.heap.size E sz v' 0 [] ∧ Kept w w') := by
  unfold OpWp
  have : (execOp (ev e) ⟨d, .buildSlice t 0 #[], ty, pos, aft, g⟩).run P w = .ok (.value (.slice (some ⟨w.heap.size, 0, none⟩) 0 0)) (w.alloc (.cells #[] E)) := by
    simp [execOp, Instr.buildSlice, run_underlying hu, sizeOf, typeInfo, hi, hsz, zeroValue, hz, Instr.fill, newRow, Sem.run_bind, Sem.run_pure, Result.andThen_ok]
    congr 2
    apply Array.ext
    · simp
    · intro j h1 h2
      simp at h2
  rw [this]
  exact ⟨⟨by simp, .inr ⟨_, 0, _, rfl, Nat.le_refl _, heap_alloc_new w _, Nat.le_refl _, by decide, by simp, by simp⟩⟩, chg_alloc _ _⟩
/-- a slice and nil -/
theorem r_eqNil {t t' el : TypeId} {x : Operand} {a : Option Addr} {n c : Nat} (hu : P.underlying t = some (.slice el)) (hx : ev e x = .slice a n c) : (execOp (ev e) ⟨d, .binOp .eql t x (.const (.slice none 0 0)) t', ty, pos, aft, g⟩).run P w = .ok (.value (.bool a.isNone)) w := by
  have := run_equal_slice_nil (P := P) w t el a n c hu
  have hc : ev e (.const (.slice none 0 0)) = .slice none 0 0 := rfl
  cases a <;> simp [execOp, hx, hc, eqGuard, binOp, Sem.run_bind, Sem.run_pure, Result.andThen_ok, this]
/-- arrays of octets -/
theorem r_eqArr {t t' el : TypeId} {x y : Operand} {n : Nat} {l m : List UInt8} (ht : P.underlying t = some (.array n el)) (he : P.underlying el = some (.int .u8)) (hs : ∀ w, (sizeOf el).run P w = .ok 1 w) (hx : ev e x = .agg (bs l).toArray) (hy : ev e y = .agg (bs m).toArray) (hl : l.length = n) (hm : m.length = n) (hg : P.eqGuardType P.depth t = false) :
    (execOp (ev e) ⟨d, .binOp .eql t x y t', ty, pos, aft, g⟩).run P w = .ok (.value (.bool (decide (l = m)))) w := by
  have h := run_eql_bytes (P := P) w t el n ht he hs l m hl hm
  have hb : ∀ l : List UInt8, l.map Extern.Stop.cell = bs l := fun _ => rfl
  rw [hb, hb] at h
  simp only [execOp, hx, hy, Sem.run_bind, run_eqGuard_agg w _ t _ _ _ _ hg, Result.andThen_ok]
  rw [h]
  simp only [Result.andThen_ok, Sem.run_pure]
  congr 3
  rw [Bool.eq_iff_iff]; simp
theorem r_neqArr {t t' el : TypeId} {x y : Operand} {n : Nat} {l m : List UInt8} (ht : P.underlying t = some (.array n el)) (he : P.underlying el = some (.int .u8)) (hs : ∀ w, (sizeOf el).run P w = .ok 1 w) (hx : ev e x = .agg (bs l).toArray) (hy : ev e y = .agg (bs m).toArray) (hl : l.length = n) (hm : m.length = n) (hg : P.eqGuardType P.depth t = false) :
    (execOp (ev e) ⟨d, .binOp .neq t x y t', ty, pos, aft, g⟩).run P w = .ok (.value (.bool (decide (l ≠ m)))) w := by
  have h := run_equalIn_bytes (P := P) w 9998 t el n ht he hs l m hl hm
  have hb : ∀ l : List UInt8, l.map Extern.Stop.cell = bs l := fun _ => rfl
  rw [hb, hb] at h
  simp only [execOp, hx, hy, Sem.run_bind, run_eqGuard_agg w _ t _ _ _ _ hg, Result.andThen_ok]
  rw [run_neq_struct, h]
  simp only [Result.andThen_ok, Sem.run_pure]
  congr 3
  rw [Bool.eq_iff_iff]; simp
theorem Owns.takeN {B : Nat} {E : TypeId} {sz n n2 c : Nat} {a : Option Addr} {cs : List Value} (h : Owns w B E sz (.slice a n c) n cs) (hn : n2 ≤ n) : Owns w B E sz (.slice a n2 c) n2 (cs.take (n2 * sz)) := by
  have hl := h.1
  refine ⟨by rw [List.length_take, hl]; exact Nat.min_eq_left (Nat.mul_le_mul_right _ hn), ?_⟩
  rcases h.2 with ⟨he, h0⟩ | ⟨g', cap, cur, he, hb, hg, hnc, hm, hsz, ht⟩
  · cases he
    obtain rfl : n2 = 0 := by omega
    exact .inl ⟨rfl, rfl⟩
  · cases he
    refine .inr ⟨g', c, cur, rfl, hb, hg, by omega, hm, hsz, ?_⟩
    rw [← ht, List.take_take]
    congr 1
    exact (Nat.min_eq_left (Nat.mul_le_mul_right _ hn)).symm
theorem cutA_zero (a : Option Addr) (m sz : Nat) : cutA a 0 m sz = a := by
  unfold cutA
  split
  · rfl
  · cases a with
    | none => rfl
    | some x => simp [Addr.add]; try (cases x; rfl)
end Go.Eng
namespace Go.Eng
theorem Owns.nilB {w : World} {B : Nat} {E : TypeId} {sz n : Nat} {v : Value} {X : List UInt8} (h : Owns w B E sz v n ([] ++ bs X)) : Owns w B E sz v n (bs X) := h
theorem Owns.appB {w : World} {B : Nat} {E : TypeId} {sz n : Nat} {v : Value} {X Y : List UInt8} (h : Owns w B E sz v n (bs X ++ bs Y)) : Owns w B E sz v n (bs (X ++ Y)) := by rw [bs_append]; exact h
theorem Owns.appZ {w : World} {B : Nat} {E : TypeId} {sz n m : Nat} {v : Value} {X : List UInt8} (h : Owns w B E sz v n (bs X ++ List.replicate m (u8 0))) : Owns w B E sz v n (bs (X ++ List.replicate m 0)) := by rw [bs_append, bs_rep]; exact h
theorem Owns.nilZ {w : World} {B : Nat} {E : TypeId} {sz n m : Nat} {v : Value} (h : Owns w B E sz v n ([] ++ List.replicate m (u8 0))) : Owns w B E sz v n (bs (List.replicate m 0)) := by rw [bs_rep]; exact h
theorem cutA_lo {a : Option Addr} {l m sz B : Nat} (h : ∀ x, a = some x → B ≤ x.block) : ∀ x, cutA a l m sz = some x → B ≤ x.block := by
  intro y hc
  unfold cutA at hc
  split at hc
  · exact h y hc
  · cases a with
    | none => cases hc
    | some x =>
      simp only [Option.map_some, Option.some.injEq] at hc
      rw [← hc]
      have : (x.add (l * sz)).block = x.block := by unfold Addr.add; split <;> rfl
      rw [this]
      exact h x rfl
theorem Owns.lo {w : World} {B : Nat} {E : TypeId} {sz n n' c : Nat} {a : Option Addr} {cs : List Value} (h : Owns w B E sz (.slice a n c) n' cs) : ∀ x, a = some x → B ≤ x.block := by
  obtain ⟨a', c', he, _, _, hb⟩ := Owns.form h
  cases he
  exact hb
end Go.Eng
namespace Go.Eng
theorem r_indexSlP {P : Program} {w : World} {e : Env} {d : Option Nat} {ty : TypeId} {pos : String} {aft : Array Edge} {g : Option (Nat × Bool)} {t el : TypeId} {x y : Operand} {kk : IntKind} {i : Int} {k n c sz b o : Nat} {cs : List Value} (hu : ∀ w, (underlying t).run P w = .ok (.slice el) w) (hs : ∀ w, (sizeOf el).run P w = .ok sz w)
    (hx : ev e x = .slice (some ⟨b, o, none⟩) n c) (ha : Rd w b o cs) (hc : cs ≠ []) (hy : ev e y = .int kk i) (hi : i = (k : Int)) (hk : k < n) : (execOp (ev e) ⟨d, .indexAddr t x y, ty, pos, aft, g⟩).run P w = .ok (.value (.pointer (some ⟨b, o + k * sz, none⟩))) w := by
  rw [r_indexSl hu hs hx (SlAt.some ha) hc hy hi hk]
  show Result.ok (Next.value (Value.pointer (some ((⟨b, o, none⟩ : Addr).add (k * sz))))) w = _
  rw [add_none]
end Go.Eng
namespace Go.Eng
variable {P : Program} {w : World} {e : Env} {d : Option Nat} {ty : TypeId} {pos : String} {aft : Array Edge} {g : Option (Nat × Bool)}
theorem r_cap {t : TypeId} {x : Operand} {el : TypeId} {a : Option Addr} {n c : Nat} (hu : ∀ w, (underlying t).run P w = .ok (.slice el) w) (hx : ev e x = .slice a n c) :
    (execOp (ev e) ⟨d, .call ⟨.builtin .cap, #[x], #[t]⟩, ty, pos, aft, g⟩).run P w = .ok (.value (i64 c)) w := by
  simp [execOp, resolve, invoke, builtin, Builtin.cap_, hx, Sem.run_bind, hu, goInt]
/-- []T{x, y}, T of one cell -/
theorem w_build2 {t E : TypeId} {x y : Operand} {i : TypeInfo} {z v u : Value} (hu : P.underlying t = some (.slice E)) (hi : P.info? E = some i) (hz : i.zero = some z) (hsz : i.size = 1) (hzs : z.cells = #[z]) (hx : ev e x = v) (hy : ev e y = u) (hv : v.cells = #[v]) (huc : u.cells = #[u]) :
    OpWp P ⟨d, .buildSlice t 2 #[(0, x), (1, y)], ty, pos, aft, g⟩ e w (fun v' w' => ∃ bk, v' = .slice (some ⟨bk, 0, none⟩) 2 2 ∧ w.heap.size ≤ bk ∧ bk < w'.heap.size ∧ Owns w' w.heap.size E 1 v' 2 [v, u] ∧ Pc w' bk 0 [v, u] ∧ Kept w w') := by
  unfold OpWp
  have : (execOp (ev e) ⟨d, .buildSlice t 2 #[(0, x), (1, y)], ty, pos, aft, g⟩).run P w = .ok (.value (.slice (some ⟨w.heap.size, 0, none⟩) 2 2)) (w.alloc (.cells #[v, u] E)) := by
    simp [execOp, Instr.buildSlice, run_underlying hu, sizeOf, typeInfo, hi, hsz, zeroValue, hz, hzs, hx, hy, hv, huc, Instr.fill, newRow, Sem.run_bind, Sem.run_pure, Result.andThen_ok]
    congr 2
    apply Array.ext
    · simp
    · intro j h1 h2
      have : j = 0 ∨ j = 1 := by simp at h2; omega
      rcases this with rfl | rfl <;> simp
  rw [this]
  refine ⟨_, rfl, Nat.le_refl _, by simp, ⟨by simp, .inr ⟨_, 2, _, rfl, Nat.le_refl _, heap_alloc_new w _, Nat.le_refl _, by decide, rfl, rfl⟩⟩, ?_, chg_alloc _ _⟩
  exact pc_alloc w #[v, u] E
end Go.Eng
namespace Go.Eng
variable {P : Program} {w : World} {e : Env} {d : Option Nat} {ty : TypeId} {pos : String} {aft : Array Edge} {g : Option (Nat × Bool)}
theorem r_indexStr {t : TypeId} {x y : Operand} {s : ByteArray} {k : Nat} {b : UInt8} {kk : IntKind} {i : Int} (hu : ∀ w, (underlying t).run P w = .ok .string w) (hx : ev e x = .string s) (hy : ev e y = .int kk i) (hi : i = (k : Int)) (hb : s[k]? = some b) :
    (execOp (ev e) ⟨d, .index t x y, ty, pos, aft, g⟩).run P w = .ok (.value (u8 b)) w := by
  subst hi
  have h0 : (0 : Int) ≤ (k : Int) := by omega
  simp [execOp, hx, hy, Instr.index, asIntOf, Sem.run_bind, hu, h0, hb, u8]
theorem foldset (k : Nat) (l : List Value) : ∀ (j : Nat) (z : List Value), k + j + l.length ≤ z.length → (l.zipIdx j).foldl (fun (cs : Array Value) (x : Value × Nat) => cs.setIfInBounds (k + x.2) x.1) z.toArray = (z.take (k + j) ++ l ++ z.drop (k + j + l.length)).toArray := by
  induction l with
  | nil => intro j z _; simp
  | cons v l ih =>
    intro j z hk
    simp only [List.length_cons] at hk
    rw [List.zipIdx_cons, List.foldl_cons]
    have e1 : (z.toArray.setIfInBounds (k + j) v) = (z.set (k + j) v).toArray := by simp
    show List.foldl _ (z.toArray.setIfInBounds (k + j) v) _ = _
    rw [e1, ih (j + 1) (z.set (k + j) v) (by simp; omega)]
    congr 1
    rw [List.take_set, List.drop_set_of_lt (by omega), List.length_cons, show k + (j + 1) = k + j + 1 by omega, List.take_add_one, show k + j + 1 + l.length = k + j + (l.length + 1) by omega]
    have hlt : k + j < z.length := by omega
    rw [List.set_append_right _ _ (by rw [List.length_take]; omega)]
    have : min (k + j) z.length = k + j := by omega
    simp [hlt, this]
theorem fill_whole (sz : Nat) (cs : List Value) (z : List Value) (hn : cs.length = sz) (hz : z.length = sz) : Instr.fill (fun i => some (i * sz, sz)) z.toArray [(0, .agg cs.toArray)] = some cs.toArray := by
  have h := foldset (0 * sz) cs 0 z (by omega)
  have h2 : Array.foldl (fun (c : Array Value) (x : Value × Nat) => c.setIfInBounds (0 * sz + x.2) x.1) z.toArray cs.toArray.zipIdx = cs.toArray := by
    rw [← Array.foldl_toList, Array.toList_zipIdx]
    refine h.trans ?_
    simp
    omega
  have hc : (Value.agg cs.toArray).cells = cs.toArray := rfl
  simp only [Instr.fill, hc]
  rw [if_neg (by simp; omega), h2]
/-- []T{x}, x of sz cells -/
theorem w_buildA1 {t E : TypeId} {x : Operand} {i : TypeInfo} {z : Value} {cs : List Value} {sz : Nat} (hu : P.underlying t = some (.slice E)) (hi : P.info? E = some i) (hz : i.zero = some z) (hsz : i.size = sz) (hzs : z.cells.size = sz) (h0 : Nat.blt 0 sz = true) (hbig : Nat.ble sz 16777216 = true) (hx : ev e x = .agg cs.toArray) (hn : cs.length = sz) :
    OpWp P ⟨d, .buildSlice t 1 #[(0, x)], ty, pos, aft, g⟩ e w (fun v' w' => ∃ bk, v' = .slice (some ⟨bk, 0, none⟩) 1 1 ∧ w.heap.size ≤ bk ∧ bk < w'.heap.size ∧ Owns w' w.heap.size E sz v' 1 cs ∧ Pc w' bk 0 cs ∧ Kept w w') := by
  have hsz0 : sz ≠ 0 := by rw [Nat.blt_eq] at h0; omega
  have hbig' : ¬ (16777216 < sz) := by rw [Nat.ble_eq] at hbig; omega
  have hfill : Instr.fill (fun i => some (i * sz, sz)) ((Array.range (1 * sz)).map (z.cells[· % z.cells.size]!)) [(0, .agg cs.toArray)] = some cs.toArray := by
    have := fill_whole sz cs ((Array.range (1 * sz)).map (z.cells[· % z.cells.size]!)).toList hn (by simp)
    rwa [Array.toArray_toList] at this
  unfold OpWp
  have : (execOp (ev e) ⟨d, .buildSlice t 1 #[(0, x)], ty, pos, aft, g⟩).run P w = .ok (.value (.slice (some ⟨w.heap.size, 0, none⟩) 1 1)) (w.alloc (.cells cs.toArray E)) := by
    have hp : (#[(0, x)].map fun (y : Nat × Operand) => (y.1, ev e y.2)) = #[(0, .agg cs.toArray)] := by simp [hx]
    simp only [execOp, Instr.buildSlice, Sem.run_bind, run_underlying hu, Result.andThen_ok, sizeOf, typeInfo, hp]
    simp [hi, hsz, hsz0, hbig', zeroValue, hz, newRow, Sem.run_bind, Sem.run_pure, Result.andThen_ok]
    rw [Nat.one_mul] at hfill
    simp [typeInfo, hi, hz, hfill]
  rw [this]
  refine ⟨_, rfl, Nat.le_refl _, by simp, ⟨by rw [hn, Nat.one_mul], .inr ⟨_, 1, _, rfl, Nat.le_refl _, heap_alloc_new w _, Nat.le_refl _, by decide, by simp [hn], ?_⟩⟩, ?_, chg_alloc _ _⟩
  · rw [List.take_of_length_le (by simp; omega)]
  · exact pc_alloc w cs.toArray E
end Go.Eng
