/- M20: contracts of functions of the program: called in any world that meets a contract's premises, the function returns what the contract says and changes no more than it says. -/
import Derived.Test.YtdnccchcflaphaaM19
import Derived.Test.YtdnccchcflaphaaEng8
import Derived.Test.YtdnccchcflaphaaEng9
import Derived.Test.YtdnccchcflaphaaEng10
import Derived.Test.YtdnccchcflaphaaEng11
import Derived.Test.YtdnccchcflaphaaEng12
import Derived.Test.YtdnccchcflaphaaChecked
open Go Go.Eng Go.Proofs
namespace Go.Proofs.Ytdnccchcflaphaa
/-- a proof in memory -/
structure Prf where
  i : Int
  n : Int
  a : Option Addr
  np : Nat
  cp : Nat
  P : List (List UInt8)
def Prf.cells (q : Prf) : List Value := [i64 q.i] ++ ([i64 q.n] ++ [Value.slice q.a q.np q.cp])
def pcells (ps : List Prf) : List Value := (ps.map Prf.cells).flatten
def Prf.Ok (w : World) (q : Prf) : Prop := q.P.length = q.np ∧ q.np ≤ q.cp ∧ q.np < 4611686018427387904 ∧ All32 q.P ∧ SlAt w q.a (bs q.P.flatten)
theorem pcells_length (ps : List Prf) : (pcells ps).length = ps.length * 3 := by
  induction ps with
  | nil => rfl
  | cons q ps ih =>
    have : pcells (q :: ps) = q.cells ++ pcells ps := by simp [pcells]
    rw [this, List.length_append, ih, List.length_cons]
    show 3 + _ = _
    omega
theorem pcells_sub : ∀ (ps : List Prf) (k : Nat) (q : Prf), ps[k]? = some q → ((pcells ps).drop (k * 3)).take 3 = q.cells := by
  intro ps
  induction ps with
  | nil => intro k q h; simp at h
  | cons p ps ih =>
    intro k q h
    have hc : pcells (p :: ps) = p.cells ++ pcells ps := by simp [pcells]
    have hl : p.cells.length = 3 := rfl
    cases k with
    | zero =>
      simp at h; subst h
      rw [hc, Nat.zero_mul, List.drop_zero, ← hl, List.take_left]
    | succ k =>
      have := ih k q (by simpa using h)
      rw [hc, List.drop_append, List.drop_eq_nil_of_le (by rw [hl]; omega), List.nil_append, hl, show (k + 1) * 3 - 3 = k * 3 by omega]
      exact this
theorem Rd.prf {w : World} {b o : Nat} {ps : List Prf} (h : Rd w b o (pcells ps)) {k : Nat} {q : Prf} (hq : ps[k]? = some q) :
    Rd w b (o + k * 3) q.cells ∧ Rd w b (o + k * 3 + 0) [i64 q.i] ∧ Rd w b (o + k * 3 + 1) [i64 q.n] := by
  have h1 := h.sub (k * 3) 3
  rw [pcells_sub ps k q hq] at h1
  exact ⟨h1, h1.left, h1.right.left⟩
def lookN : List (Int × Nat) → Int → Option Nat
  | [], _ => none
  | (k', v) :: es, k => if k' = k then some v else lookN es k
def putN : List (Int × Nat) → Int → Nat → List (Int × Nat)
  | [], k, v => [(k, v)]
  | (k', v') :: es, k, v => if k' = k then (k, v) :: es else (k', v') :: putN es k v
def gmap (vs : List Value) (G : List (Int × Nat)) : List (Int × Value) := G.map fun p => (p.1, vs.getD p.2 (.slice none 0 0))
theorem gmap_length (vs : List Value) (G : List (Int × Nat)) : (gmap vs G).length = G.length := List.length_map _
theorem lookI_gmap (vs : List Value) (G : List (Int × Nat)) (i : Int) : lookI (gmap vs G) i = (lookN G i).map fun k => vs.getD k (.slice none 0 0) := by
  induction G with
  | nil => rfl
  | cons p G ih =>
    obtain ⟨k', v⟩ := p
    show (if k' = i then _ else lookI (gmap vs G) i) = (if k' = i then _ else _ : Option Nat).map _
    split
    · rfl
    · exact ih
theorem putI_gmap (vs : List Value) (G : List (Int × Nat)) (i : Int) (k : Nat) : putI (gmap vs G) i (vs.getD k (.slice none 0 0)) = gmap vs (putN G i k) := by
  induction G with
  | nil => rfl
  | cons p G ih =>
    obtain ⟨k', v⟩ := p
    show (if k' = i then _ else _ :: putI (gmap vs G) i _) = gmap vs (if k' = i then _ else _)
    split
    · rfl
    · show _ :: putI (gmap vs G) i _ = _ :: gmap vs (putN G i k)
      rw [ih]
theorem lookN_put (G : List (Int × Nat)) (i : Int) (k : Nat) (i' : Int) : lookN (putN G i k) i' = if i = i' then some k else lookN G i' := by
  induction G with
  | nil => rfl
  | cons p G ih =>
    obtain ⟨k', v⟩ := p
    by_cases h : k' = i
    · subst h
      by_cases h2 : k' = i'
      · simp [putN, lookN, h2]
      · simp [putN, lookN, h2]
    · by_cases h2 : k' = i'
      · have : ¬ i = i' := by omega
        rw [putN, if_neg h, lookN, if_pos h2, if_neg this, lookN, if_pos h2]
      · simp [putN, lookN, h, h2, ih]
/-- what lies in the map for i -/
def cont (ls : List (List UInt8)) (G : List (Int × Nat)) (i : Int) : List UInt8 := match lookN G i with | some k => ls.getD k [] | none => []
def confl (ls : List (List UInt8)) (G : List (Int × Nat)) (i : Int) (k : Nat) : Bool := match lookN G i with | some j => decide (ls.getD j [] ≠ ls.getD k []) | none => false
def asmErr (root : List UInt8) (many : Int) (ls : List (List UInt8)) (G : List (Int × Nat)) (q : Prf) (k : Nat) : Int :=
  if q.n ≠ many then 12 else if checkF root (ls.getD k []) q.i q.n q.P ≠ 0 then checkF root (ls.getD k []) q.i q.n q.P else if confl ls G q.i k = true then 17 else 0
def asmTo (root : List UInt8) (many : Int) (ls : List (List UInt8)) (ps : List Prf) : Nat → Int × List (Int × Nat)
  | 0 => (0, [])
  | k + 1 => match ps[k]? with
    | none => asmTo root many ls ps k
    | some q => if (asmTo root many ls ps k).1 ≠ 0 then asmTo root many ls ps k else (asmErr root many ls (asmTo root many ls ps k).2 q k, putN (asmTo root many ls ps k).2 q.i k)
theorem asmTo_succ {root : List UInt8} {many : Int} {ls : List (List UInt8)} {ps : List Prf} {k : Nat} {q : Prf} (hq : ps[k]? = some q) (h0 : (asmTo root many ls ps k).1 = 0) :
    asmTo root many ls ps (k + 1) = (asmErr root many ls (asmTo root many ls ps k).2 q k, putN (asmTo root many ls ps k).2 q.i k) := by
  rw [asmTo, hq]; simp [h0]
theorem asmTo_err {root : List UInt8} {many : Int} {ls : List (List UInt8)} {ps : List Prf} {k : Nat} (h : (asmTo root many ls ps k).1 ≠ 0) : ∀ d, asmTo root many ls ps (k + d) = asmTo root many ls ps k := by
  intro d
  induction d with
  | zero => rfl
  | succ d ih =>
    rw [← Nat.add_assoc, asmTo, ih]
    cases ps[k + d]? with
    | none => rfl
    | some q => simp [h]
theorem asmTo_lt {root : List UInt8} {many : Int} {ls : List (List UInt8)} {ps : List Prf} : ∀ (k : Nat) (i : Int) (j : Nat), lookN (asmTo root many ls ps k).2 i = some j → j < k := by
  intro k
  induction k with
  | zero => intro i j h; simp [asmTo, lookN] at h
  | succ k ih =>
    intro i j h
    rw [asmTo] at h
    split at h
    · have := ih i j h; omega
    · split at h
      · have := ih i j h; omega
      · simp only [lookN_put] at h
        split at h
        · cases h; omega
        · have := ih i j h; omega
def asmE (root : List UInt8) (many : Int) (ls : List (List UInt8)) (ps : List Prf) : Int :=
  if ¬ (1 ≤ many ∧ many ≤ 1024) then 4 else if (asmTo root many ls ps ps.length).1 ≠ 0 then (asmTo root many ls ps ps.length).1 else if ((asmTo root many ls ps ps.length).2.length : Int) < many then 7
  else if (List.range (many.toNat - 1)).all (fun (j : Nat) => decide ((cont ls (asmTo root many ls ps ps.length).2 (j : Int)).length = 1024)) = true then 0 else 2
def contTo (ls : List (List UInt8)) (G : List (Int × Nat)) : Nat → List UInt8
  | 0 => []
  | k + 1 => contTo ls G k ++ cont ls G (k : Int)
theorem lookVal {w : World} {vs : List Value} {ls : List (List UInt8)} (hls : SlsOk w vs ls) {G : List (Int × Nat)} (hG : ∀ i j, lookN G i = some j → j < ls.length) (i : Int) :
    ∃ a n c, (lookI (gmap vs G) i).getD (.slice none 0 0) = Value.slice a n c ∧ (cont ls G i).length = n ∧ n ≤ c ∧ SlAt w a (bs (cont ls G i)) := by
  rw [lookI_gmap]
  unfold cont
  cases h : lookN G i with
  | none => exact ⟨none, 0, 0, rfl, rfl, Nat.le_refl _, .inl rfl⟩
  | some j =>
    obtain ⟨a, n, c, h1, h2, h3, h4, h5⟩ := hls.2 j (hG i j h)
    refine ⟨a, n, c, ?_, h2, h4, h5⟩
    show vs.getD j _ = _
    rw [List.getD_eq_getElem?_getD, h1]; rfl
theorem confl_some {ls : List (List UInt8)} {G : List (Int × Nat)} {i : Int} {k : Nat} (h : (lookN G i).isSome = true) : confl ls G i k = decide (cont ls G i ≠ ls.getD k []) := by
  unfold confl cont
  cases hl : lookN G i with
  | none => rw [hl] at h; cases h
  | some j => rfl
theorem confl_none {ls : List (List UInt8)} {G : List (Int × Nat)} {i : Int} {k : Nat} (h : (lookN G i).isSome = false) : confl ls G i k = false := by
  unfold confl
  cases hl : lookN G i with
  | none => rfl
  | some j => rw [hl] at h; cases h
theorem lookI_some (vs : List Value) (G : List (Int × Nat)) (i : Int) : (lookI (gmap vs G) i).isSome = (lookN G i).isSome := by rw [lookI_gmap]; cases lookN G i <;> rfl
theorem contTo_len {ls : List (List UInt8)} (G : List (Int × Nat)) (hs : ∀ k, (ls.getD k []).length ≤ 1024) : ∀ k, (contTo ls G k).length ≤ 1024 * k := by
  have hc : ∀ i, (cont ls G i).length ≤ 1024 := fun i => by
    unfold cont
    split
    · exact hs _
    · simp
  intro k
  induction k with
  | zero => simp [contTo]
  | succ k ih => rw [contTo, List.length_append]; have := hc (k : Int); omega
theorem asmE_err {root : List UInt8} {many : Int} {ls : List (List UInt8)} {ps : List Prf} {k : Nat} {q : Prf} {e : Int} (hm : 1 ≤ many ∧ many ≤ 1024) (hk : k < ps.length) (hq : ps[k]? = some q) (h0 : (asmTo root many ls ps k).1 = 0)
    (he : asmErr root many ls (asmTo root many ls ps k).2 q k = e) (hne : e ≠ 0) : asmE root many ls ps = e := by
  have h1 : (asmTo root many ls ps (k + 1)).1 = e := by rw [asmTo_succ hq h0]; exact he
  have h2 := asmTo_err (root := root) (many := many) (ls := ls) (ps := ps) (k := k + 1) (by rw [h1]; exact hne) (ps.length - (k + 1))
  rw [show k + 1 + (ps.length - (k + 1)) = ps.length by omega] at h2
  rw [asmE, if_neg (by omega), h2, h1, if_pos hne]
theorem asmErr_ok {root : List UInt8} {many : Int} {ls : List (List UInt8)} {G : List (Int × Nat)} {q : Prf} {k : Nat} (h1 : ¬ q.n ≠ many) (h2 : ¬ checkF root (ls.getD k []) q.i q.n q.P ≠ 0) (h3 : confl ls G q.i k = false) : asmErr root many ls G q k = 0 := by
  rw [asmErr, if_neg h1, if_neg h2, if_neg (by rw [h3]; decide)]
theorem asmErr_12 {root : List UInt8} {many : Int} {ls : List (List UInt8)} {G : List (Int × Nat)} {q : Prf} {k : Nat} (h1 : q.n ≠ many) (y : Int) : asmErr root many ls G q k = firstE [12, y] := by rw [asmErr, if_pos h1]; rfl
theorem asmErr_c {root : List UInt8} {many : Int} {ls : List (List UInt8)} {G : List (Int × Nat)} {q : Prf} {k : Nat} (h1 : ¬ q.n ≠ many) (y : Int) (hy : (if confl ls G q.i k = true then (17 : Int) else 0) = y) : asmErr root many ls G q k = firstE [checkF root (ls.getD k []) q.i q.n q.P, y] := by
  rw [asmErr, if_neg h1, hy, firstE, firstE]
  split
  · rfl
  · split
    · rfl
    · rename_i h; simp [firstE]; omega
/-- what both find wrong -/
theorem asmE_want {root : List UInt8} {many : Int} {ls : List (List UInt8)} {ps : List Prf} {e f : Int} {n : Nat} (hm : 1 ≤ many ∧ many ≤ 1024) (he : (asmTo root many ls ps ps.length).1 = e) (hn : e = 0 → n = (asmTo root many ls ps ps.length).2.length)
    (hf : (firstE [e, if decide ((n : Int) < many) = true then 7 else 0] ≠ 0 ∧ f = firstE [e, if decide ((n : Int) < many) = true then 7 else 0]) ∨ (firstE [e, if decide ((n : Int) < many) = true then 7 else 0] = 0 ∧
      ((f = 0 ∧ ∀ j : Nat, j + 1 < many.toNat → (cont ls (asmTo root many ls ps ps.length).2 (j : Int)).length = 1024) ∨ (f = 2 ∧ ∃ j : Nat, j + 1 < many.toNat ∧ (cont ls (asmTo root many ls ps ps.length).2 (j : Int)).length ≠ 1024)))) :
    asmE root many ls ps = f := by
  rw [asmE, if_neg (by omega), he]
  by_cases h0 : e = 0
  · subst h0
    have hn' := hn rfl
    rw [if_neg (by omega), ← hn']
    by_cases h7 : (n : Int) < many
    · rw [if_pos h7]
      rcases hf with ⟨_, hf⟩ | ⟨hf, _⟩
      · rw [hf]; simp [firstE, h7]
      · simp [firstE, h7] at hf
    · rw [if_neg h7]
      rcases hf with ⟨hf, _⟩ | ⟨_, hf⟩
      · simp [firstE, h7] at hf
      · rcases hf with ⟨hf, ha⟩ | ⟨hf, j, hj, hb⟩
        · rw [if_pos (List.all_eq_true.2 fun j hj => decide_eq_true (ha j (by have := List.mem_range.1 hj; omega))), hf]
        · rw [if_neg, hf]
          intro h
          have := of_decide_eq_true (List.all_eq_true.1 h j (List.mem_range.2 (by omega)))
          exact hb this
  · rw [if_pos h0]
    rcases hf with ⟨_, hf⟩ | ⟨hf, _⟩
    · rw [hf]; simp [firstE, h0]
    · simp [firstE, h0] at hf
theorem firstE_zero {a b : Int} (h : firstE [a, b] = 0) : a = 0 := by
  by_cases h0 : a = 0
  · exact h0
  · simp [firstE, h0] at h
theorem Prf.Ok.k {w w' : World} {q : Prf} (h : Prf.Ok w q) (c : Kept w w') : Prf.Ok w' q := ⟨h.1, h.2.1, h.2.2.1, h.2.2.2.1, h.2.2.2.2.k c⟩

end Go.Proofs.Ytdnccchcflaphaa
