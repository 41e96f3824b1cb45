/- Bld: contracts of functions of the program: called in any world that meets a contract's premises, the function returns what the contract says and changes no more than it says. -/
import Derived.Test.YtdnccchcflaphaaHash
import Derived.Test.YtdnccchcflaphaaM23
open Go Go.Eng Go.Proofs
namespace Go.Eng
theorem Owns.ne_type {w : World} {B B2 : Nat} {E E2 : TypeId} {sz sz2 n n2 : Nat} {v v2 : Value} {cs cs2 : List Value} (h : Owns w B E sz v n cs) (h2 : Owns w B2 E2 sz2 v2 n2 cs2) (hE : E ≠ E2) : ∀ b, some b = v.ownBlock → some b ≠ v2.ownBlock := by
  intro b hb hb2
  rcases h.2 with ⟨rfl, _⟩ | ⟨g, cap, cur, rfl, _, hg, _⟩
  · cases hb
  rcases h2.2 with ⟨rfl, _⟩ | ⟨g2, cap2, cur2, rfl, _, hg2, _⟩
  · cases hb2
  have e1 : b = g := by simpa [Value.ownBlock] using hb
  have e2 : b = g2 := by simpa [Value.ownBlock] using hb2
  subst e1; subst e2
  rw [hg] at hg2
  cases hg2
  exact hE rfl
theorem Owns.keptT {w w' : World} {B B2 : Nat} {E E2 : TypeId} {sz sz2 n n2 : Nat} {v v2 : Value} {cs cs2 : List Value} (h : Owns w B E sz v n cs) (h2 : Owns w B2 E2 sz2 v2 n2 cs2) (hE : E ≠ E2) (k : Chg (ob v2) w w') : Owns w' B E sz v n cs :=
  h.kept k fun b _ _ hb m => Owns.ne_type h h2 hE b hb m
theorem Owns.blk {w : World} {B : Nat} {E : TypeId} {sz n : Nat} {v : Value} {cs : List Value} (h : Owns w B E sz v n cs) : ∀ b, some b = v.ownBlock → b < w.heap.size := by
  intro b hb
  rcases h.2 with ⟨rfl, _⟩ | ⟨g, cap, cur, rfl, _, hg, _⟩
  · cases hb
  · have e1 : b = g := by simpa [Value.ownBlock] using hb
    subst e1
    exact (Array.getElem?_eq_some_iff.1 hg).1
theorem Owns.geB {w : World} {B : Nat} {E : TypeId} {sz n : Nat} {v : Value} {cs : List Value} (h : Owns w B E sz v n cs) : ∀ b, some b = v.ownBlock → B ≤ b := by
  intro b hb
  rcases h.2 with ⟨rfl, _⟩ | ⟨g, cap, cur, rfl, hB, hg, _⟩
  · cases hb
  · have e1 : b = g := by simpa [Value.ownBlock] using hb
    subst e1
    exact hB
end Go.Eng
namespace Go.Proofs.Ytdnccchcflaphaa
/-- clones: each in a block of its own -/
structure Clones (w : World) (B : Nat) (vs : List Value) (ls : List (List UInt8)) : Prop where
  len : ls.length = vs.length
  each : ∀ (k : Nat) (v : Value), vs[k]? = some v → Owns w B 5 1 v (ls.getD k []).length (bs (ls.getD k [])) ∧ 0 < (ls.getD k []).length
  ne : ∀ (i j : Nat) (vi vj : Value), i ≠ j → vs[i]? = some vi → vs[j]? = some vj → ∀ b, some b = vi.ownBlock → some b ≠ vj.ownBlock
theorem Clones.keep {M : Nat → Nat → Prop} {w w' : World} {B : Nat} {vs : List Value} {ls : List (List UInt8)} (h : Clones w B vs ls) (k : Chg M w w') (hm : ∀ v ∈ vs, ∀ b o, some b = v.ownBlock → ¬ M b o) : Clones w' B vs ls :=
  ⟨h.len, fun i v hi => ⟨(h.each i v hi).1.kept k fun b o _ hb => hm v (List.mem_of_getElem? hi) b o hb, (h.each i v hi).2⟩, h.ne⟩
theorem Clones.nil (w : World) (B : Nat) : Clones w B [] [] := ⟨rfl, fun _ _ h => by simp at h, fun _ _ _ _ _ h => by simp at h⟩
theorem getD_app_left {α : Type} {l m : List α} {k : Nat} {d : α} (h : k < l.length) : (l ++ m).getD k d = l.getD k d := by
  rw [List.getD_eq_getElem?_getD, List.getD_eq_getElem?_getD, List.getElem?_append_left h]
theorem getD_app_here {α : Type} {l : List α} {x d : α} : (l ++ [x]).getD l.length d = x := by simp
theorem Clones.snoc {w w' : World} {B : Nat} {vs : List Value} {ls : List (List UInt8)} {v : Value} {l : List UInt8} (h : Clones w B vs ls) (k : Kept w w') (ho : Owns w' w.heap.size 5 1 v l.length (bs l)) (h0 : 0 < l.length) (hB : B ≤ w.heap.size) : Clones w' B (vs ++ [v]) (ls ++ [l]) := by
  have old : ∀ (i : Nat) (u : Value), vs[i]? = some u → ∀ b, some b = u.ownBlock → b < w.heap.size := fun i u hu => Owns.blk (h.each i u hu).1
  have new : ∀ b, some b = v.ownBlock → w.heap.size ≤ b := Owns.geB ho
  refine ⟨by simp [h.len], fun i u hi => ?_, fun i j vi vj hij hi hj b hb hb2 => ?_⟩
  · rcases Nat.lt_or_ge i vs.length with hl | hl
    · rw [List.getElem?_append_left hl] at hi
      rw [getD_app_left (by rw [h.len]; exact hl)]
      exact ⟨(h.each i u hi).1.k k, (h.each i u hi).2⟩
    · have hlt : i < (vs ++ [v]).length := (List.getElem?_eq_some_iff.1 hi).1
      obtain rfl : i = vs.length := by simp at hlt; omega
      rw [List.getElem?_append_right (Nat.le_refl _)] at hi
      simp at hi
      subst hi
      rw [← h.len, getD_app_here]
      exact ⟨ho.mono hB, h0⟩
  · have cases2 : ∀ (i : Nat) (u : Value), (vs ++ [v])[i]? = some u → (i < vs.length ∧ vs[i]? = some u) ∨ (i = vs.length ∧ u = v) := fun i u hi => by
      rcases Nat.lt_or_ge i vs.length with hl | hl
      · rw [List.getElem?_append_left hl] at hi; exact .inl ⟨hl, hi⟩
      · have hlt : i < (vs ++ [v]).length := (List.getElem?_eq_some_iff.1 hi).1
        obtain rfl : i = vs.length := by simp at hlt; omega
        rw [List.getElem?_append_right (Nat.le_refl _)] at hi
        simp at hi
        exact .inr ⟨rfl, hi.symm⟩
    rcases cases2 i vi hi with ⟨h1, h2⟩ | ⟨h1, h2⟩ <;> rcases cases2 j vj hj with ⟨h3, h4⟩ | ⟨h3, h4⟩
    · exact h.ne i j vi vj hij h2 h4 b hb hb2
    · subst h4
      have a1 := old i vi h2 b hb
      have a2 := new b hb2
      omega
    · subst h2
      have a1 := old j vj h4 b hb2
      have a2 := new b hb
      omega
    · omega
theorem Clones.sls {w : World} {B : Nat} {vs : List Value} {ls : List (List UInt8)} (h : Clones w B vs ls) : SlsOk w vs ls :=
  ⟨h.len, fun k hk => by
    have hk' : k < vs.length := by rw [← h.len]; exact hk
    obtain ⟨ho, h0⟩ := h.each k vs[k] (List.getElem?_eq_getElem hk')
    obtain ⟨a, c, e1, e2, e3, _⟩ := Owns.form ho
    exact ⟨a, _, c, by rw [List.getElem?_eq_getElem hk', e1], rfl, h0, e2, e3⟩⟩
theorem Clones.at_ {w : World} {B : Nat} {vs : List Value} {ls : List (List UInt8)} (h : Clones w B vs ls) {j : Nat} (hj : j < vs.length) :
    ∃ bk n c, vs[j]? = some (.slice (some ⟨bk, 0, none⟩) n c) ∧ (ls.getD j []).length = n ∧ 0 < n ∧ n ≤ c ∧ B ≤ bk ∧ Owns w B 5 1 (.slice (some ⟨bk, 0, none⟩) n c) n (bs (ls.getD j [])) := by
  obtain ⟨ho, h0⟩ := h.each j vs[j] (List.getElem?_eq_getElem hj)
  have ho' := ho
  rcases ho.2 with ⟨_, e2⟩ | ⟨g, cap, cur, e1, hB, _, hc, _⟩
  · omega
  · rw [e1] at ho'
    exact ⟨g, _, cap, by rw [List.getElem?_eq_getElem hj, e1], rfl, h0, hc, hB, ho'⟩
theorem Clones.set_ {w w' : World} {B : Nat} {vs : List Value} {ls : List (List UInt8)} (h : Clones w B vs ls) {j bk n c : Nat} {l2 : List UInt8} (hj : vs[j]? = some (.slice (some ⟨bk, 0, none⟩) n c)) (hl : l2.length = n) (h0 : 0 < n)
    (ho : Owns w' B 5 1 (.slice (some ⟨bk, 0, none⟩) n c) n (bs l2)) (k : Chg (blk bk) w w') : Clones w' B vs (ls.set j l2) := by
  have hjl : j < vs.length := (List.getElem?_eq_some_iff.1 hj).1
  refine ⟨by simp [h.len], fun i u hi => ?_, h.ne⟩
  by_cases hij : i = j
  · subst hij
    rw [hj] at hi
    cases hi
    have e : (ls.set i l2).getD i [] = l2 := by rw [List.getD_eq_getElem?_getD, List.getElem?_set_self (by rw [h.len]; exact hjl)]; rfl
    rw [e, hl]
    exact ⟨ho, h0⟩
  · have e : (ls.set j l2).getD i [] = ls.getD i [] := by rw [List.getD_eq_getElem?_getD, List.getElem?_set_ne (fun h => hij h.symm), ← List.getD_eq_getElem?_getD]
    rw [e]
    obtain ⟨h1, h2⟩ := h.each i u hi
    refine ⟨h1.kept k fun b o _ hb m => ?_, h2⟩
    have : b = bk := m
    subst this
    exact h.ne i j u _ hij hi hj b hb rfl
/-- proofs whose paths are slices of their own -/
def PrfO (w : World) (B : Nat) (q : Prf) : Prop := Owns w B 25 32 (.slice q.a q.np q.cp) q.np (bs q.P.flatten) ∧ q.P.length = q.np ∧ q.np ≤ q.cp ∧ q.np < 4611686018427387904 ∧ All32 q.P
def Prfs (w : World) (B : Nat) (ps : List Prf) : Prop := ∀ (k : Nat) (q : Prf), ps[k]? = some q → PrfO w B q
theorem Prfs.ok {w : World} {B : Nat} {ps : List Prf} (h : Prfs w B ps) : ∀ (k : Nat) (q : Prf), ps[k]? = some q → q.Ok w := fun k q hq => by
  obtain ⟨h1, h2, h3, h4, h5⟩ := h k q hq
  exact ⟨h2, h3, h4, h5, Owns.sl h1⟩
theorem Prfs.keep {M : Nat → Nat → Prop} {w w' : World} {B : Nat} {ps : List Prf} (h : Prfs w B ps) (k : Chg M w w') (hm : ∀ q ∈ ps, ∀ b o, some b = (Value.slice q.a q.np q.cp).ownBlock → ¬ M b o) : Prfs w' B ps := fun i q hq => by
  obtain ⟨h1, h2⟩ := h i q hq
  exact ⟨h1.kept k fun b o _ hb => hm q (List.mem_of_getElem? hq) b o hb, h2⟩
theorem pcells_snoc (ps : List Prf) (q : Prf) : pcells (ps ++ [q]) = pcells ps ++ q.cells := by simp [pcells]
/-- two rows that are being built, what they hold -/
structure Bld (w : World) (B : Nat) (vl vp : Value) (vs : List Value) (ls : List (List UInt8)) (ps : List Prf) : Prop where
  ol : Owns w B 22 1 vl vs.length vs
  op : Owns w B 31 3 vp ps.length (pcells ps)
  cl : Clones w B vs ls
  pr : Prfs w B ps
theorem Bld.nil (w : World) (B : Nat) : Bld w B (.slice none 0 0) (.slice none 0 0) [] [] [] := ⟨Owns.nil _ _ _ _, Owns.nil _ _ _ _, Clones.nil _ _, fun _ _ h => by simp at h⟩
theorem Bld.k {w w' : World} {B : Nat} {vl vp : Value} {vs : List Value} {ls : List (List UInt8)} {ps : List Prf} (h : Bld w B vl vp vs ls ps) (k : Kept w w') : Bld w' B vl vp vs ls ps :=
  ⟨h.ol.k k, h.op.k k, h.cl.keep k fun _ _ _ _ _ => id, h.pr.keep k fun _ _ _ _ _ => id⟩
/-- a clone is put behind the first row -/
theorem Bld.addL {w0 w w' : World} {B : Nat} {vl vp v vl' : Value} {vs : List Value} {ls : List (List UInt8)} {ps : List Prf} {l : List UInt8} (h : Bld w0 B vl vp vs ls ps) (k : Kept w0 w) (ho : Owns w w0.heap.size 5 1 v l.length (bs l)) (h0 : 0 < l.length) (hB : B ≤ w0.heap.size)
    (hn : Owns w' B 22 1 vl' (vs.length + 1) (vs ++ [v])) (c : Chg (ob vl) w w') : Bld w' B vl' vp (vs ++ [v]) (ls ++ [l]) ps := by
  have h' := h.k k
  have hc := h.cl.snoc k ho h0 hB
  refine ⟨by simpa using hn, Owns.keptT h'.op h'.ol (by decide) c, hc.keep c fun u hu b o hb m => ?_, h'.pr.keep c fun q hq b o hb m => ?_⟩
  · obtain ⟨i, hi⟩ := List.getElem?_of_mem hu
    exact Owns.ne_type (hc.each i u hi).1 h'.ol (by decide) b hb m
  · obtain ⟨i, hi⟩ := List.getElem?_of_mem hq
    exact Owns.ne_type (h'.pr i q hi).1 h'.ol (by decide) b hb m
/-- a proof is put behind the second row -/
theorem Bld.addP {w w' : World} {B : Nat} {vl vp vp' : Value} {vs : List Value} {ls : List (List UInt8)} {ps : List Prf} {q : Prf} (h : Bld w B vl vp vs ls ps) (hq : PrfO w B q)
    (hn : Owns w' B 31 3 vp' (ps.length + 1) (pcells ps ++ q.cells)) (c : Chg (ob vp) w w') : Bld w' B vl vp' vs ls (ps ++ [q]) := by
  refine ⟨Owns.keptT h.ol h.op (by decide) c, by rw [pcells_snoc]; simpa using hn, h.cl.keep c fun u hu b o hb m => ?_, ?_⟩
  · obtain ⟨i, hi⟩ := List.getElem?_of_mem hu
    exact Owns.ne_type (h.cl.each i u hi).1 h.op (by decide) b hb m
  · have hr : Prfs w B (ps ++ [q]) := fun i x hx => by
      rcases Nat.lt_or_ge i ps.length with hl | hl
      · rw [List.getElem?_append_left hl] at hx; exact h.pr i x hx
      · have hlt : i < (ps ++ [q]).length := (List.getElem?_eq_some_iff.1 hx).1
        obtain rfl : i = ps.length := by simp at hlt; omega
        rw [List.getElem?_append_right (Nat.le_refl _)] at hx
        simp at hx
        subst hx
        exact hq
    refine hr.keep c fun x hx b o hb m => ?_
    obtain ⟨i, hi⟩ := List.getElem?_of_mem hx
    exact Owns.ne_type (hr i x hi).1 h.op (by decide) b hb m
/-- an octet of a clone is turned -/
theorem Bld.turn {w w' : World} {B : Nat} {vl vp : Value} {vs : List Value} {ls : List (List UInt8)} {ps : List Prf} (h : Bld w B vl vp vs ls ps) {j bk n c : Nat} {l2 : List UInt8} (hj : vs[j]? = some (.slice (some ⟨bk, 0, none⟩) n c)) (hl : l2.length = n) (h0 : 0 < n)
    (ho : Owns w' B 5 1 (.slice (some ⟨bk, 0, none⟩) n c) n (bs l2)) (k : Chg (blk bk) w w') : Bld w' B vl vp vs (ls.set j l2) ps := by
  have hc := (h.cl.each j _ hj).1
  have ob_ : ∀ b o, blk bk b o → some b = (Value.slice (some ⟨bk, 0, none⟩) n c).ownBlock := fun b o m => by rw [show b = bk from m]; rfl
  refine ⟨h.ol.kept k fun b o _ hb m => Owns.ne_type h.ol hc (by decide) b hb (ob_ b o m), h.op.kept k fun b o _ hb m => Owns.ne_type h.op hc (by decide) b hb (ob_ b o m), h.cl.set_ hj hl h0 ho k, h.pr.keep k fun q hq b o hb m => ?_⟩
  obtain ⟨i, hi⟩ := List.getElem?_of_mem hq
  exact Owns.ne_type (h.pr i q hi).1 hc (by decide) b hb (ob_ b o m)
end Go.Proofs.Ytdnccchcflaphaa
