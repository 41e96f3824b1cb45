/- YtippcmedgfmgbaaGreatP04: a calculus of walks, plain facts of the numbers that are shared, and contracts of functions of the program: called in any world that meets a contract's premises, a function returns what the contract says and changes no more than it says. -/
import Derived.Test.YtippcmedgfmgbaaGreatP01
import Derived.Test.YtippcmedgfmgbaaGreatP03
import Derived.Maps.RangeRun
import Derived.Test.YtippcmedgfmgbaaGreatChecked
section
open Go Go.Eng
namespace Go.Eng
variable {P : Program} {w : World} {e : Env} {d : Option Nat} {ty : TypeId} {pos : String} {aft : Array Edge} {g : Option (Nat × Bool)}
section
variable {t t' : TypeId} {x y : Operand}
end
/- ### maps from octets to octets -/
abbrev Kv := List (List UInt8 × List UInt8)
def enS (kv : Kv) : List (List UInt8 × Value) := kv.map fun p => (p.1, ek p.2)
def MapS (n : Nat) (w : World) (b : Nat) (kv : Kv) : Prop := MapK n w b (enS kv)
theorem MapS.kept {n : Nat} {M : Nat → Nat → Prop} {w' : World} {b : Nat} {kv : Kv} (h : MapS n w b kv) (k : Chg M w w') (hm : ∀ o, ¬ M b o) : MapS n w' b kv := MapK.kept h k hm
theorem MapS.k {n : Nat} {w' : World} {b : Nat} {kv : Kv} (h : MapS n w b kv) (k : Kept w w') : MapS n w' b kv := MapK.k h k
theorem MapS.kb {n : Nat} {w' : World} {b b2 o2 m : Nat} {kv : Kv} (h : MapS n w b kv) (k : Chg (rng b2 o2 m) w w') (hb : b ≠ b2) : MapS n w' b kv := MapK.kb h k hb
theorem MapS.kB {n : Nat} {w' : World} {b b2 : Nat} {kv : Kv} (h : MapS n w b kv) (k : Chg (blk b2) w w') (hb : b ≠ b2) : MapS n w' b kv := MapK.kB h k hb
theorem MapS.kob {n : Nat} {w' : World} {b : Nat} {v : Value} {kv : Kv} (h : MapS n w b kv) (k : Chg (ob v) w w') (hb : some b ≠ v.ownBlock) : MapS n w' b kv := MapK.kob h k hb
theorem MapS.lt {n : Nat} {b : Nat} {kv : Kv} (h : MapS n w b kv) : b < w.heap.size := MapK.lt h
/- ### the round over a map -/
def decO : Value → List UInt8
  | .agg a => a.toList.map fun
    | .int _ x => UInt8.ofNat x.toNat
    | _ => 0
  | _ => []
theorem dec_ek (l : List UInt8) : decO (ek l) = l := by
  simp only [decO, bs, List.map_map]
  induction l with
  | nil => rfl
  | cons x l ih =>
    rw [List.map_cons, ih]
    congr 1
    simp
def ItS (n : Nat) (w : World) (r b : Nat) (kv : Kv) (D : List (List UInt8)) (last : Option (List UInt8)) : Prop :=
  MapS n w b kv ∧ ∃ a clock since seen c0, w.heap[b]? = some (.map a clock) ∧ w.heap[r]? = some (.mapIter (some b) since seen c0) ∧ a.toList.map (fun x => (x.key, x.val)) = (enS kv).map (fun p => (ek p.1, p.2)) ∧
    (∀ x ∈ a.toList, x.born < since) ∧ since ≤ c0 ∧ since ≤ clock ∧ (a.toList.map (·.born)).Nodup ∧ (D.map ek ++ (leftOf a seen).toList.map (·.key)).Perm (a.toList.map (·.key)) ∧
    (∀ k, last = some k → ∃ x ∈ a.toList, ∃ s0 : Array Nat, seen = s0.push x.born ∧ x.key = ek k ∧ c0 = clock)
theorem keys_of {a : Array MapEntry} {kv : Kv} (h : a.toList.map (fun x => (x.key, x.val)) = (enS kv).map (fun p => (ek p.1, p.2))) : a.toList.map (·.key) = (kv.map (·.1)).map ek := by
  have := congrArg (List.map Prod.fst) h
  simpa [enS, List.map_map, Function.comp_def] using this
theorem ItS.kept {n r b : Nat} {kv : Kv} {D : List (List UInt8)} {last : Option (List UInt8)} {M : Nat → Nat → Prop} {w' : World} (h : ItS n w r b kv D last) (k : Chg M w w') (hm : ∀ o, ¬ M b o) (hm2 : ∀ o, ¬ M r o) : ItS n w' r b kv D last := by
  obtain ⟨h0, a, clock, since, seen, c0, h1, h2, h3⟩ := h
  exact ⟨h0.kept k hm, a, clock, since, seen, c0, by rw [k.obj b (Array.getElem?_eq_some_iff.1 h1).1 hm]; exact h1, by rw [k.obj r (Array.getElem?_eq_some_iff.1 h2).1 hm2]; exact h2, h3⟩
theorem ItS.k {n r b : Nat} {kv : Kv} {D : List (List UInt8)} {last : Option (List UInt8)} {w' : World} (h : ItS n w r b kv D last) (k : Kept w w') : ItS n w' r b kv D last := h.kept k (fun _ => id) fun _ => id
theorem ItS.kb {n r b b2 o2 m : Nat} {kv : Kv} {D : List (List UInt8)} {last : Option (List UInt8)} {w' : World} (h : ItS n w r b kv D last) (k : Chg (rng b2 o2 m) w w') (hb : b < b2 ∧ r < b2) : ItS n w' r b kv D last := h.kept k (fun _ m => by have := m.1; omega) fun _ m => by have := m.1; omega
theorem ItS.kob {n r b : Nat} {v : Value} {kv : Kv} {D : List (List UInt8)} {last : Option (List UInt8)} {w' : World} (h : ItS n w r b kv D last) (k : Chg (ob v) w w') (hb : some b ≠ v.ownBlock) (hb2 : some r ≠ v.ownBlock) : ItS n w' r b kv D last := h.kept k (fun _ m => hb m) fun _ m => hb2 m
theorem it_len {kv : Kv} {D : List (List UInt8)} {a : Array MapEntry} {seen : Array Nat} (h2 : a.toList.map (fun x => (x.key, x.val)) = (enS kv).map (fun p => (ek p.1, p.2))) (hp : (D.map ek ++ (leftOf a seen).toList.map (·.key)).Perm (a.toList.map (·.key))) : D.length + (leftOf a seen).size = kv.length := by
  have h := hp.length_eq
  rw [keys_of h2] at h
  simpa using h
theorem ItS.all {n r b : Nat} {kv : Kv} {D : List (List UInt8)} {last : Option (List UInt8)} (h : ItS n w r b kv D last) (hD : ¬ D.length < kv.length) : D.Perm (kv.map (·.1)) := by
  obtain ⟨h0, a, clock, since, seen, c0, h1, h2, h3, h4, h5, h6, h7, h8, _⟩ := h
  have hl := it_len h3 h8
  have hz : (leftOf a seen).toList = [] := List.eq_nil_of_length_eq_zero (by rw [Array.length_toList]; omega)
  rw [hz, List.map_nil, List.append_nil, keys_of h3] at h8
  have := h8.map decO
  simpa [List.map_map, Function.comp_def, dec_ek] using this
theorem ItS.le {n r b : Nat} {kv : Kv} {D : List (List UInt8)} {last : Option (List UInt8)} (h : ItS n w r b kv D last) : D.length ≤ kv.length := by
  obtain ⟨h0, a, clock, since, seen, c0, h1, h2, h3, h4, h5, h6, h7, h8, _⟩ := h
  have hl := it_len h3 h8
  omega
theorem ItS.map {n r b : Nat} {kv : Kv} {D : List (List UInt8)} {last : Option (List UInt8)} (h : ItS n w r b kv D last) : MapS n w b kv := h.1
theorem ItS.lt {n r b : Nat} {kv : Kv} {D : List (List UInt8)} {last : Option (List UInt8)} (h : ItS n w r b kv D last) : r < w.heap.size ∧ b < w.heap.size ∧ r ≠ b := by
  obtain ⟨h0, a, clock, since, seen, c0, h1, h2, _⟩ := h
  refine ⟨(Array.getElem?_eq_some_iff.1 h2).1, (Array.getElem?_eq_some_iff.1 h1).1, fun hh => ?_⟩
  rw [hh, h1] at h2; cases h2
section
variable {n : Nat} {ops : Array Oper} {k : List Code} {Q : Exit → Env → World → Prop} {M : Nat → Nat → Prop}
theorem go_drawsM {id : Nat} (m : Nat) (p : Plan) (hm : P.follows .mixedOrders = true) (hok : okRegion ops n m p = true)
    (h : ∀ w', Kept w w' → Rg P ops (fun x => Chg M w' x) m p (Go P n k Q) e w') : Go P n (.region id ops true :: k) Q e w :=
  go_draws (fun x => Chg M w.drew x) m p hm hok (Chg.refl _ _) (h _ (Chg.drew _ _))
variable {S : World → Prop} {m i : Nat} {r : Plan} {K : Env → World → Prop} {o : Oper} {v : Value} {w0 : World}
theorem s_takeM (hi : ops[i]? = some o) (hg : o.guard = none) (hv : ∀ x, Chg M w0 x → (execOp (ev e) o).run P x = .ok (.value v) x) (h : Rg P ops (fun x => Chg M w0 x) m r K (updo e o.dst v) w) : Rg P ops (fun x => Chg M w0 x) m (.take i r) K e w :=
  s_take hi hg hv h
theorem s_fxM {KK : Value → World → Prop} (hi : ops[i]? = some o) (hg : o.guard = none) (hop : OpWp P o e w KK) (hk : ∀ v w', KK v w' → Chg M w0 w' ∧ Rg P ops (fun x => Chg M w0 x) m r K (updo e o.dst v) w') : Rg P ops (fun x => Chg M w0 x) m (.eff i r) K e w :=
  s_fx hi hg hop fun v w' h => ⟨fun _ => (hk v w' h).1, (hk v w' h).2⟩
theorem s_valM (hi : ops[i]? = some o) (hg : o.guard = none) (hv : (execOp (ev e) o).run P w = .ok (.value v) w) (hS : S w) (h : Rg P ops S m r K (updo e o.dst v) w) : Rg P ops S m (.eff i r) K e w :=
  s_valS hi hg hv hS h
end
end Go.Eng
end
section
open Go Go.Eng
namespace Go.Proofs.YtippcmedgfmgbaaGreat
theorem putI_new {es : List (Int × Value)} {k : Int} {v : Value} (h : ∀ p ∈ es, p.1 ≠ k) : putI es k v = es ++ [(k, v)] := by
  induction es with
  | nil => rfl
  | cons p es ih =>
    obtain ⟨k', v'⟩ := p
    rw [putI, if_neg (h (k', v') (by simp)), ih fun p hp => h p (by simp [hp])]
    rfl
theorem lookI_new {es : List (Int × Value)} {k : Int} (h : ∀ p ∈ es, p.1 ≠ k) : lookI es k = none := by
  induction es with
  | nil => rfl
  | cons p es ih =>
    obtain ⟨k', v'⟩ := p
    rw [lookI, if_neg (h (k', v') (by simp)), ih fun p hp => h p (by simp [hp])]
theorem putK_new {es : List (List UInt8 × Value)} {k : List UInt8} {v : Value} (h : ∀ p ∈ es, p.1 ≠ k) : putK es k v = es ++ [(k, v)] := by
  induction es with
  | nil => rfl
  | cons p es ih =>
    obtain ⟨k', v'⟩ := p
    rw [putK, if_neg (h (k', v') (by simp)), ih fun p hp => h p (by simp [hp])]
    rfl
theorem lookK_new {es : List (List UInt8 × Value)} {k : List UInt8} (h : ∀ p ∈ es, p.1 ≠ k) : lookK es k = none := by
  induction es with
  | nil => rfl
  | cons p es ih =>
    obtain ⟨k', v'⟩ := p
    rw [lookK, if_neg (h (k', v') (by simp)), ih fun p hp => h p (by simp [hp])]
def placeM (S : List Shr) : List (Int × Value) := S.map fun s => (((s.x.val : Nat) : Int), .bool true)
def holdM (S : List Shr) : List (List UInt8 × Value) := S.map fun s => (s.h, .bool true)
theorem take_snoc {S : List Shr} {k : Nat} (h : k < S.length) : S.take (k + 1) = S.take k ++ [S.getD k shr0] := by
  rw [List.take_add_one, List.getD_eq_getElem?_getD, List.getElem?_eq_getElem h]; rfl
theorem nodup_take {α : Type} (f : Shr → α) {S : List Shr} (hn : (S.map f).Nodup) {k : Nat} (hk : k < S.length) : ∀ s ∈ S.take k, f s ≠ f (S.getD k shr0) := fun s hs he => by
  have h1 : (S.take (k + 1)).map f = (S.take k).map f ++ [f (S.getD k shr0)] := by rw [take_snoc hk, List.map_append]; rfl
  have h2 : ((S.take (k + 1)).map f).Nodup := ((List.take_sublist _ _).map f).nodup hn
  rw [h1, List.nodup_append] at h2
  exact h2.2.2 (f s) (List.mem_map_of_mem hs) _ (List.mem_singleton.2 rfl) he
theorem place_new {S : List Shr} (hn : (S.map (·.x)).Nodup) {k : Nat} (hk : k < S.length) : ∀ p ∈ placeM (S.take k), p.1 ≠ (((S.getD k shr0).x.val : Nat) : Int) := fun p hp => by
  obtain ⟨s, hs, rfl⟩ := List.mem_map.1 hp
  exact fun e => nodup_take (·.x) hn hk s hs (f_ext e)
theorem hold_new {S : List Shr} (hn : (S.map (·.h)).Nodup) {k : Nat} (hk : k < S.length) : ∀ p ∈ holdM (S.take k), p.1 ≠ (S.getD k shr0).h := fun p hp => by
  obtain ⟨s, hs, rfl⟩ := List.mem_map.1 hp
  exact nodup_take (·.h) hn hk s hs
theorem placeM_succ {S : List Shr} {k : Nat} (hk : k < S.length) : placeM (S.take (k + 1)) = placeM (S.take k) ++ [((((S.getD k shr0).x.val : Nat) : Int), .bool true)] := by
  rw [take_snoc hk]; simp [placeM]
theorem holdM_succ {S : List Shr} {k : Nat} (hk : k < S.length) : holdM (S.take (k + 1)) = holdM (S.take k) ++ [((S.getD k shr0).h, .bool true)] := by
  rw [take_snoc hk]; simp [holdM]
theorem getD_memS {S : List Shr} {k : Nat} (h : k < S.length) : S.getD k shr0 ∈ S := by
  rw [List.getD_eq_getElem?_getD, List.getElem?_eq_getElem h]; exact List.getElem_mem h
theorem F_pos {a : F} (h : a ≠ 0) : 1 ≤ a.val := Nat.pos_of_ne_zero fun e => h (Fin.ext e)
end Go.Proofs.YtippcmedgfmgbaaGreat
namespace Go.Eng
open Go.Proofs.YtippcmedgfmgbaaGreat
theorem Rd.shrAll {w : World} {b o : Nat} {s : Shr} (hs : SOk s) (h1 : Rd w b o (bs s.h)) (h2 : Rd w b (o + 16) [fi s.x]) (h3 : Rd w b (o + 17) (us s.y)) : Rd w b o (scell s) :=
  h1.app (by rw [bs_length, hs.1]; exact Rd.app (c1 := [fi s.x]) h2 h3)
end Go.Eng
namespace Go.Eng
theorem MapI.kB {w w' : World} {b b2 : Nat} {es : List (Int × Value)} (h : MapI w b es) (k : Chg (blk b2) w w') (hb : b ≠ b2) : MapI w' b es := h.kept k fun _ m => hb m
end Go.Eng
end
section
open Go Go.Eng
namespace Go.Proofs.YtippcmedgfmgbaaGreat
/-- the polynomials of all octets, so far -/
def allTo (need wrong : Nat) (S : List Shr) : Nat → List (List F)
  | 0 => List.replicate 32 []
  | k + 1 => (allTo need wrong S k).set k ((mendF need wrong (ptsOf S k)).getD [])
@[simp] theorem allTo_length (need wrong : Nat) (S : List Shr) : ∀ k, (allTo need wrong S k).length = 32
  | 0 => by simp [allTo]
  | k + 1 => by rw [allTo, List.length_set, allTo_length need wrong S k]
theorem allTo_get (need wrong : Nat) (S : List Shr) : ∀ (k o : Nat), k ≤ 32 → (allTo need wrong S k).getD o [] = if o < k then (mendF need wrong (ptsOf S o)).getD [] else []
  | 0, o, _ => by
    rw [if_neg (Nat.not_lt_zero o), allTo, List.getD_eq_getElem?_getD, List.getElem?_replicate]
    split <;> rfl
  | k + 1, o, hk => by
    rw [allTo]
    by_cases h : k = o
    · subst h
      rw [getD_set_sel (by simp; omega), if_pos (Nat.lt_succ_self k)]
    · rw [getD_set_oth h, allTo_get need wrong S k o (by omega)]
      by_cases h2 : o < k
      · rw [if_pos h2, if_pos (by omega)]
      · rw [if_neg h2, if_neg (by omega)]
def faultL (ps : List (List F)) (S : List Shr) : List (List UInt8) := (S.filter fun s => !liesP ps s).map (·.h)
theorem faultL_t {ps : List (List F)} {S : List Shr} {k : Nat} (hk : k < S.length) (h : liesP ps (S.getD k shr0) = false) : faultL ps (S.take (k + 1)) = faultL ps (S.take k) ++ [(S.getD k shr0).h] := by
  have e : ([S.getD k shr0].filter fun s => !liesP ps s) = [S.getD k shr0] := by rw [List.filter_cons, if_pos (by rw [h]; rfl)]; rfl
  rw [take_snoc hk, faultL, List.filter_append, List.map_append, e]; rfl
theorem faultL_f {ps : List (List F)} {S : List Shr} {k : Nat} (hk : k < S.length) (h : liesP ps (S.getD k shr0) = true) : faultL ps (S.take (k + 1)) = faultL ps (S.take k) := by
  have e : ([S.getD k shr0].filter fun s => !liesP ps s) = [] := by rw [List.filter_cons, if_neg (by rw [h]; decide)]; rfl
  rw [take_snoc hk, faultL, List.filter_append, List.map_append, e]; exact List.append_nil _
theorem faultL_le (ps : List (List F)) (S : List Shr) (k : Nat) : (faultL ps (S.take k)).length ≤ k := by
  rw [faultL, List.length_map]
  exact Nat.le_trans (List.length_filter_le _ _) (by rw [List.length_take]; omega)
def mendP (need : Nat) (S : List Shr) : Option (List UInt8 × List (List UInt8)) :=
  if (List.range 32).all fun o => (mendF need ((S.length - need) / 2) (ptsOf S o)).isSome then
    (if (S.length - need) / 2 < (faultL (allTo need ((S.length - need) / 2) S 32) S).length then none else
      match saidF (allTo need ((S.length - need) / 2) S 32) with
      | none => none
      | some k => some (k, faultL (allTo need ((S.length - need) / 2) S 32) S))
  else none
theorem mendP_none1 {need n o : Nat} {S : List Shr} (hn : S.length = n) (ho : o < 32) (h : mendF need ((n - need) / 2) (ptsOf S o) = none) : mendP need S = none := by
  subst hn
  rw [mendP, if_neg]
  intro ha
  rw [List.all_eq_true] at ha
  have := ha o (List.mem_range.2 ho)
  rw [h] at this
  cases this
theorem all_isSome {need n : Nat} {S : List Shr} (h : ∀ o, o < 32 → (mendF need n (ptsOf S o)).isSome = true) : ((List.range 32).all fun o => (mendF need n (ptsOf S o)).isSome) = true :=
  List.all_eq_true.2 fun o ho => h o (List.mem_range.1 ho)
theorem mendP_none2 {need n : Nat} {S : List Shr} (hn : S.length = n) (h : ∀ o, o < 32 → (mendF need ((n - need) / 2) (ptsOf S o)).isSome = true) (h2 : (n - need) / 2 < (faultL (allTo need ((n - need) / 2) S 32) S).length) : mendP need S = none := by
  subst hn
  rw [mendP, if_pos (all_isSome h), if_pos h2]
theorem mendP_none3 {need n : Nat} {S : List Shr} (hn : S.length = n) (h : ∀ o, o < 32 → (mendF need ((n - need) / 2) (ptsOf S o)).isSome = true) (h2 : ¬ (n - need) / 2 < (faultL (allTo need ((n - need) / 2) S 32) S).length) (h3 : saidF (allTo need ((n - need) / 2) S 32) = none) : mendP need S = none := by
  subst hn
  rw [mendP, if_pos (all_isSome h), if_neg h2, h3]
theorem mendP_some {need n : Nat} {S : List Shr} {k : List UInt8} (hn : S.length = n) (h : ∀ o, o < 32 → (mendF need ((n - need) / 2) (ptsOf S o)).isSome = true) (h2 : ¬ (n - need) / 2 < (faultL (allTo need ((n - need) / 2) S 32) S).length) (h3 : saidF (allTo need ((n - need) / 2) S 32) = some k) : mendP need S = some (k, faultL (allTo need ((n - need) / 2) S 32) S) := by
  subst hn
  rw [mendP, if_pos (all_isSome h), if_neg h2, h3]
theorem allTo_len {need n : Nat} {S : List Shr} (hn : S.length = n) (hx : (S.map (·.x)).Nodup) (hnd : need ≤ n) (hb : need ≤ 64) (k o : Nat) (hk : k ≤ 32) : ((allTo need ((n - need) / 2) S k).getD o []).length ≤ 64 := by
  subst hn
  rw [allTo_get _ _ _ k o hk]
  split
  · cases h : mendF need ((S.length - need) / 2) (ptsOf S o) with
    | none => exact Nat.zero_le _
    | some p =>
      have := (mend_iff (pts_nodup hx o) (by simp [ptsOf]; omega) p).1 h
      show p.length ≤ 64
      omega
  · exact Nat.zero_le _
theorem map_some_getD {α : Type} {o : Option α} {p d : α} (h : o = some p) : o.getD d = p := by rw [h]; rfl
end Go.Proofs.YtippcmedgfmgbaaGreat
namespace Go.Eng
open Go.Proofs.YtippcmedgfmgbaaGreat
theorem PolOk.kob {Q : Nat → Prop} {w w' : World} {vs : List Value} {ps : List (List F)} {v : Value} (h : PolOk Q w vs ps) (k : Chg (ob v) w w') (hq : ∀ b, Q b → some b ≠ v.ownBlock) : PolOk Q w' vs ps := h.kept k fun b _ hb _ m => hq b hb m
end Go.Eng
namespace Go.Proofs.YtippcmedgfmgbaaGreat
theorem saidF_len {ps : List (List F)} {k : List UInt8} (h : saidF ps = some k) : k.length = 32 := by
  unfold saidF at h
  split at h
  · exact (Option.some_ne_none _ h.symm).elim
  · rw [← Option.some.inj h]; exact saidTo_length _ _
end Go.Proofs.YtippcmedgfmgbaaGreat
namespace Go.Eng
theorem r_quo2 {P : Program} {w : World} {e : Env} {d : Option Nat} {ty : TypeId} {pos : String} {aft : Array Edge} {g : Option (Nat × Bool)} {t t' : TypeId} {x y : Operand} {a : Int} {m : Nat} (hx : ev e x = i64 a) (hy : ev e y = i64 2) (ha : a = (m : Int)) (hm : m ≤ 9223372036854775807) :
    (execOp (ev e) ⟨d, .binOp .quo t x y t', ty, pos, aft, g⟩).run P w = .ok (.value (i64 ((m / 2 : Nat) : Int))) w := by
  subst ha
  rw [r_quoi hx hy (by omega) (by omega) (by omega)]
  rfl
theorem not_t {x : Bool} (h : (!x) = true) : x = false := by cases x <;> simp_all
theorem not_f {x : Bool} (h : (!x) = false) : x = true := by cases x <;> simp_all
end Go.Eng
end
section
open Go Go.Eng
namespace Go.Proofs.YtippcmedgfmgbaaGreat
theorem liesR_false {X : List Shr} {s : Shr} {k : Nat} (hk : k < 32) (h : ¬ lagOf X k s.x = s.y.getD k 0) : liesR X s = false :=
  List.all_eq_false.2 ⟨k, List.mem_range.2 hk, by simpa using h⟩
theorem liesR_true {X : List Shr} {s : Shr} (h : ∀ k, k < 32 → lagOf X k s.x = s.y.getD k 0) : liesR X s = true :=
  List.all_eq_true.2 fun k hk => by simp only [decide_eq_true_eq]; exact h k (List.mem_range.1 hk)
def secTo (X : List Shr) : Nat → List UInt8
  | 0 => List.replicate 32 0
  | k + 1 => (secTo X k).set k (b8 (((lagOf X k 0).val : Nat) : Int))
@[simp] theorem secTo_length (X : List Shr) : ∀ k, (secTo X k).length = 32
  | 0 => by simp [secTo]
  | k + 1 => by rw [secTo, List.length_set, secTo_length X k]
def secretF (X : List Shr) : Option (List UInt8) := if (List.range 32).any (fun o => decide (255 < (lagOf X o 0).val)) then none else some (secTo X 32)
theorem secretF_none {X : List Shr} {k : Nat} (hk : k < 32) (h : 255 < (lagOf X k 0).val) : secretF X = none := by
  rw [secretF, if_pos]
  exact List.any_eq_true.2 ⟨k, List.mem_range.2 hk, decide_eq_true h⟩
theorem secretF_some {X : List Shr} (h : ∀ k, k < 32 → ¬ 255 < (lagOf X k 0).val) : secretF X = some (secTo X 32) := by
  rw [secretF, if_neg]
  intro ha
  obtain ⟨k, hk, h2⟩ := List.any_eq_true.1 ha
  exact h k (List.mem_range.1 hk) (of_decide_eq_true h2)
def badR (X S : List Shr) : Nat := (S.filter fun s => !liesR X s).length
theorem badR_t {X S : List Shr} {k : Nat} (hk : k < S.length) (h : liesR X (S.getD k shr0) = false) : badR X (S.take (k + 1)) = badR X (S.take k) + 1 := by
  have e : ([S.getD k shr0].filter fun s => !liesR X s) = [S.getD k shr0] := by rw [List.filter_cons, if_pos (by rw [h]; rfl)]; rfl
  rw [take_snoc hk, badR, List.filter_append, List.length_append, e]; rfl
theorem badR_f {X S : List Shr} {k : Nat} (hk : k < S.length) (h : liesR X (S.getD k shr0) = true) : badR X (S.take (k + 1)) = badR X (S.take k) := by
  have e : ([S.getD k shr0].filter fun s => !liesR X s) = [] := by rw [List.filter_cons, if_neg (by rw [h]; decide)]; rfl
  rw [take_snoc hk, badR, List.filter_append, List.length_append, e]; rfl
theorem badR_le (X S : List Shr) (k : Nat) : badR X (S.take k) ≤ k := Nat.le_trans (List.length_filter_le _ _) (by rw [List.length_take]; omega)
theorem choose_len {need wrong : Nat} {S X rest : List Shr} (h : X.length = need) : chooseF need wrong S X rest = if badR X S ≤ wrong then some X else none := by
  have e : ∀ (a b : Option (List Shr)), (if okR wrong S X = true then a else b) = if badR X S ≤ wrong then a else b := fun a b => by
    by_cases h2 : badR X S ≤ wrong
    · rw [if_pos h2, if_pos (show okR wrong S X = true from decide_eq_true h2)]
    · rw [if_neg h2, if_neg (by rw [show okR wrong S X = false from decide_eq_false h2]; decide)]
  cases rest with
  | nil => rw [chooseF, if_pos h, e]
  | cons s rest => rw [chooseF, if_pos h, e]
theorem choose_nil {need wrong : Nat} {S X : List Shr} {i : Nat} (h : X.length ≠ need) (hi : S.length ≤ i) : chooseF need wrong S X (S.drop i) = none := by
  rw [List.drop_eq_nil_of_le hi, chooseF, if_neg h]
theorem choose_hit {need wrong : Nat} {S X Y : List Shr} {i : Nat} (h : X.length ≠ need) (hi : i < S.length) (hc : chooseF need wrong S (X ++ [S.getD i shr0]) (S.drop (i + 1)) = some Y) : chooseF need wrong S X (S.drop i) = some Y := by
  have e : S.drop i = S.getD i shr0 :: S.drop (i + 1) := by
    rw [List.drop_eq_getElem_cons hi, List.getD_eq_getElem?_getD, List.getElem?_eq_getElem hi]; rfl
  rw [e, chooseF, if_neg h, hc]
theorem choose_miss {need wrong : Nat} {S X : List Shr} {i : Nat} (h : X.length ≠ need) (hi : i < S.length) (hc : chooseF need wrong S (X ++ [S.getD i shr0]) (S.drop (i + 1)) = none) : chooseF need wrong S X (S.drop i) = chooseF need wrong S X (S.drop (i + 1)) := by
  have e : S.drop i = S.getD i shr0 :: S.drop (i + 1) := by
    rw [List.drop_eq_getElem_cons hi, List.getD_eq_getElem?_getD, List.getElem?_eq_getElem hi]; rfl
  conv => lhs; rw [e, chooseF, if_neg h, hc]
theorem nodup_next {S X : List Shr} {f i : Nat} (hf : f ≤ i) (hi : i < S.length) (h : ((X ++ S.drop f).map (·.x)).Nodup) : (((X ++ [S.getD i shr0]) ++ S.drop (i + 1)).map (·.x)).Nodup := by
  have e : S.drop i = S.getD i shr0 :: S.drop (i + 1) := by
    rw [List.drop_eq_getElem_cons hi, List.getD_eq_getElem?_getD, List.getElem?_eq_getElem hi]; rfl
  have e2 : (X ++ [S.getD i shr0]) ++ S.drop (i + 1) = X ++ S.drop i := by rw [e]; simp
  rw [e2]
  refine (List.Sublist.map _ (List.Sublist.append (List.Sublist.refl X) ?_)).nodup h
  obtain ⟨d, rfl⟩ := Nat.exists_eq_add_of_le hf
  rw [← List.drop_drop]
  exact List.drop_sublist _ _
theorem nodup_left {S X : List Shr} {f : Nat} (h : ((X ++ S.drop f).map (·.x)).Nodup) : (X.map (·.x)).Nodup :=
  (List.Sublist.map _ (List.sublist_append_left X _)).nodup h
end Go.Proofs.YtippcmedgfmgbaaGreat
namespace Go.Eng
open Go.Proofs.YtippcmedgfmgbaaGreat
theorem Owns.appSh {w : World} {B : Nat} {E : TypeId} {sz n : Nat} {v : Value} {L : List Shr} {s : Shr} (h : Owns w B E sz v n (scells L ++ scell s)) : Owns w B E sz v n (scells (L ++ [s])) := by rw [scells_app, scells_one]; exact h
end Go.Eng
end
section
open Go Go.Eng Go.Proofs
namespace Go.Proofs.YtippcmedgfmgbaaGreat
def rotl (n : UInt32) (k : Int) : UInt32 := shl32 n k.toNat ||| shr32 n (32 - k).toNat
/-- the first k bytes of a state, put into words -/
def wordsTo (s : List UInt8) : Nat → List UInt32
  | 0 => List.replicate 16 0
  | k + 1 => (wordsTo s k).set (k / 4) (shl32 ((wordsTo s k).getD (k / 4) 0) 8 ||| w32 ((s.getD k 0).toNat : Int))
@[simp] theorem wordsTo_length (s : List UInt8) (k : Nat) : (wordsTo s k).length = 16 := by induction k with | zero => rfl | succ k ih => simp [wordsTo, ih]
/-- the first k bytes of words -/
def octsTo (W : List UInt32) : Nat → List UInt8
  | 0 => List.replicate 64 0
  | k + 1 => (octsTo W k).set k (b8 ((shr32 (W.getD (k / 4) 0) (24 - 8 * (k % 4))).toNat : Int))
@[simp] theorem octsTo_length (W : List UInt32) (k : Nat) : (octsTo W k).length = 64 := by induction k with | zero => rfl | succ k ih => simp [octsTo, ih]
/-- one step of the stirring -/
def stepW (r i : Nat) (W : List UInt32) : List UInt32 :=
  let W1 := W.set i (W.getD i 0 + (rotl (W.getD ((i + 1 + r) % 16) 0) (5 + (i : Int)) ^^^ 2654435769 * w32 (16 * (r : Int) + (i : Int) + 1)))
  W1.set ((i + 9) % 16) (W1.getD ((i + 9) % 16) 0 ^^^ rotl (W1.getD i 0) 11)
def roundTo (r : Nat) (W : List UInt32) : Nat → List UInt32
  | 0 => W
  | i + 1 => stepW r i (roundTo r W i)
def stirTo (W : List UInt32) : Nat → List UInt32
  | 0 => W
  | r + 1 => roundTo r (stirTo W r) 16
@[simp] theorem stepW_length (r i : Nat) (W : List UInt32) : (stepW r i W).length = W.length := by simp [stepW]
@[simp] theorem roundTo_length (r : Nat) (W : List UInt32) (i : Nat) : (roundTo r W i).length = W.length := by induction i with | zero => rfl | succ i ih => simp [roundTo, stepW_length, ih]
@[simp] theorem stirTo_length (W : List UInt32) (r : Nat) : (stirTo W r).length = W.length := by induction r with | zero => rfl | succ r ih => simp [stirTo, roundTo_length, ih]
def stir (s : List UInt8) : List UInt8 := octsTo (stirTo (wordsTo s 64) 8) 64
@[simp] theorem stir_length (s : List UInt8) : (stir s).length = 64 := octsTo_length _ _
def wordL (o : List UInt8) : UInt32 := shl32 (w32 ((o.getD 0 0).toNat : Int)) 24 ||| shl32 (w32 ((o.getD 1 0).toNat : Int)) 16 ||| shl32 (w32 ((o.getD 2 0).toNat : Int)) 8 ||| w32 ((o.getD 3 0).toNat : Int)
def oct4 (n : UInt32) : List UInt8 := [b8 ((shr32 n 24).toNat : Int), b8 ((shr32 n 16).toNat : Int), b8 ((shr32 n 8).toNat : Int), b8 (n.toNat : Int)]
@[simp] theorem oct4_length (n : UInt32) : (oct4 n).length = 4 := rfl
def oct8 (n : UInt64) : List UInt8 :=
  let h := oct4 (w32 ((shr64 n 32).toNat : Int))
  let l := oct4 (w32 (n.toNat : Int))
  [h.getD 0 0, h.getD 1 0, h.getD 2 0, h.getD 3 0, l.getD 0 0, l.getD 1 0, l.getD 2 0, l.getD 3 0]
@[simp] theorem oct8_length (n : UInt64) : (oct8 n).length = 8 := rfl
def rotB (x : UInt32) (k : Int) : UInt32 := shl32 x (((w64 k &&& 31).toNat : Int).toNat) ||| shr32 x (((32 - (w64 k &&& 31)).toNat : Int).toNat)
def turnB (W : List UInt32) (r i : Nat) : UInt32 := rotB (W.getD ((i + 1 + r) % 16) 0) (5 + (i : Int)) ^^^ w32 ((2654435769 * w64 (16 * (r : Int) + (i : Int) + 1)).toNat : Int)
def wordsBTo (s : List UInt8) : Nat → List UInt32
  | 0 => List.replicate 16 0
  | k + 1 => (wordsBTo s k).set k (wordL ((s.drop (4 * k)).take 4))
@[simp] theorem wordsBTo_length (s : List UInt8) (k : Nat) : (wordsBTo s k).length = 16 := by induction k with | zero => rfl | succ k ih => simp [wordsBTo, ih]
def stateBTo (W : List UInt32) : Nat → List UInt8
  | 0 => List.replicate 64 0
  | k + 1 => putAt (stateBTo W k) (4 * k) ((oct4 (W.getD k 0)).take (64 - 4 * k))
theorem stateBTo_length (W : List UInt32) (k : Nat) (hk : k ≤ 16) : (stateBTo W k).length = 64 := by
  induction k with
  | zero => rfl
  | succ k ih =>
    have := ih (by omega)
    rw [stateBTo, putAt_length _ _ _ (by rw [this, List.length_take, oct4_length]; omega), this]
@[simp] theorem stateB16_length (W : List UInt32) : (stateBTo W 16).length = 64 := stateBTo_length W 16 (Nat.le_refl _)
def stepB (r i : Nat) (W : List UInt32) : List UInt32 :=
  let W1 := W.set i (W.getD i 0 + turnB W r i)
  W1.set ((i + 9) % 16) (W1.getD ((i + 9) % 16) 0 ^^^ rotB (W1.getD i 0) 11)
def roundBTo (r : Nat) (W : List UInt32) : Nat → List UInt32
  | 0 => W
  | i + 1 => stepB r i (roundBTo r W i)
def stirBTo (W : List UInt32) : Nat → List UInt32
  | 0 => W
  | r + 1 => roundBTo r (stirBTo W r) 16
@[simp] theorem stepB_length (r i : Nat) (W : List UInt32) : (stepB r i W).length = W.length := by simp [stepB]
@[simp] theorem roundBTo_length (r : Nat) (W : List UInt32) (i : Nat) : (roundBTo r W i).length = W.length := by induction i with | zero => rfl | succ i ih => simp [roundBTo, ih]
@[simp] theorem stirBTo_length (W : List UInt32) (r : Nat) : (stirBTo W r).length = W.length := by induction r with | zero => rfl | succ r ih => simp [stirBTo, ih]
def stirB (s : List UInt8) : List UInt8 := stateBTo (stirBTo (wordsBTo s 16) 8) 16
@[simp] theorem stirB_length (s : List UInt8) : (stirB s).length = 64 := stateBTo_length _ _ (by omega)
theorem turn_spec (n : UInt32) (k : Int) (w : World) (h0 : 0 ≤ k) (h1 : k ≤ 32) :
  Rtn Tryz.prog 98 [u32 n, i64 k].toArray w (fun v w' => v = u32 (rotl n k) ∧ Kept w w') := by
 refine fn_body (l := [u32 n, i64 k]) 13 [.tmp 4] Tryz.func98 rfl Tryz.ntmps98 (Nat.le_of_ble_eq_true rfl) (by rw [Tryz.results98]) ?_
 refine go_seq ?_
 refine go_region 1 rfl rfl ?_
 refine s_val rfl rfl (r_assign) rfl ?_
 refine s_end ?_
 refine go_seq ?_
 refine go_drawsE 7 (.take 0 (.take 1 (.take 2 (.take 3 (.take 4 (.take 5 (.take 6 (.eff 7 (.eff 8 .done))))))))) (by kernel_rfl) (by kernel_rfl) fun w1 c_w1 => ?_
 have hs_w1 : w.heap.size ≤ w1.heap.size := Chg.size c_w1
 have C_w1 := Chg.pure (Chg.refl no w) c_w1
 refine s_takeE rfl rfl (r_move) ?_
 refine s_takeE rfl rfl (r_move) ?_
 refine s_takeE rfl rfl (r_shl32 rfl rfl (by omega)) ?_
 refine s_takeE rfl rfl (r_move) ?_
 refine s_takeE rfl rfl (r_move) ?_
 refine s_takeE rfl rfl (r_subi rfl rfl (by omega)) ?_
 refine s_takeE rfl rfl (r_shr32 rfl rfl (by omega)) ?_
 refine s_val rfl rfl (r_or32 rfl rfl) rfl ?_
 refine s_val rfl rfl (r_assign) rfl ?_
 refine s_end ?_
 refine go_ret ?_
 refine ⟨_, .cons rfl (.nil), ?_⟩
 exact ⟨rfl, C_w1⟩
theorem words_spec (s : List UInt8) (w : World) (hl : s.length = 64) :
  Rtn Tryz.prog 97 [.agg (bs s).toArray].toArray w (fun v w' => v = .agg (ws (wordsTo s 64)).toArray ∧ Kept w w') := by
 refine fn_body (l := [.agg (bs s).toArray]) 24 [.cell 2 146] Tryz.func97 rfl Tryz.ntmps97 (Nat.le_of_ble_eq_true rfl) (by rw [Tryz.results97]) ?_
 refine go_seq ?_
 refine go_region 2 rfl rfl ?_
 refine s_do rfl rfl (w_boxA rfl) rfl ?_
 rintro _ w1 ⟨b2, rfl, hl_b2, hu_b2, p3, c_w1⟩
 have hs_w1 : w.heap.size ≤ w1.heap.size := Chg.size c_w1
 have C_w1 := Chg.pure (Chg.refl no w) c_w1
 have hn_b2 : w.heap.size ≤ b2 := by have := Chg.size C_w1; omega
 refine s_do rfl rfl (w_alloc (ws (List.replicate 16 0)) Tryz.zeroValue146 (by kernel_rfl)) rfl ?_
 rintro _ w4 ⟨b5, rfl, hl_b5, hu_b5, p6, c_w4⟩
 have hs_w4 : w1.heap.size ≤ w4.heap.size := Chg.size c_w4
 replace p3 := p3.k c_w4
 have C_w4 := Chg.pure C_w1 c_w4
 have hn_b5 : w.heap.size ≤ b5 := by have := Chg.size C_w4; omega
 refine s_end ?_
 refine go_seq ?_
 refine go_region 1 rfl rfl ?_
 refine s_do rfl rfl (w_alloc (ws (List.replicate 16 0)) Tryz.zeroValue146 (by kernel_rfl)) rfl ?_
 rintro _ w7 ⟨b8, rfl, hl_b8, hu_b8, p9, c_w7⟩
 have hs_w7 : w4.heap.size ≤ w7.heap.size := Chg.size c_w7
 replace p3 := p3.k c_w7
 replace p6 := p6.k c_w7
 have C_w7 := Chg.pure C_w4 c_w7
 have hn_b8 : w.heap.size ≤ b8 := by have := Chg.size C_w7; omega
 refine s_end ?_
 refine go_seq ?_
 refine go_seq ?_
 refine go_region 2 rfl rfl ?_
 refine s_val rfl rfl (r_loadN Tryz.isAgg86 Tryz.sizeOf86 rfl p3.rd (bs_len (by first | omega | (simp; try omega)))) rfl ?_
 refine s_val rfl rfl (r_move) rfl ?_
 refine s_end ?_
 refine go_block ?_
 refine go_loopM (σ := Nat) [(4, 5), (7, 22)] (fun (k : Nat) e' w' => e' 7 = i64 (k : Nat) ∧ k ≤ 64 ∧ Pc w' b5 0 (ws (List.replicate 16 0)) ∧ b5 < w'.heap.size ∧ Pc w' b8 0 (ws (wordsTo s k)) ∧ b8 < w'.heap.size ∧ Chg no w w') (fun (k : Nat) => 64 - k) 0 ?_ ?_
 ·exact ⟨rfl, by omega, p6, by omega, p9, by omega, C_w7⟩
 rintro k f11 w10 ⟨e12, hk, p6, hu_b5, p9, hu_b8, C_w10⟩
 have ob_14 : ∃ g_, f11 = upd g_ 7 (i64 (k : Nat)) := ⟨f11, upd_id e12⟩
 obtain ⟨f13, rfl⟩ := ob_14
 clear e12
 have hs_w10 : w.heap.size ≤ w10.heap.size := Chg.size C_w10
 have hw := wordsTo_length s k
 refine go_seq ?_
 refine go_region 1 rfl rfl ?_
 refine s_val rfl rfl (r_lss rfl rfl) rfl ?_
 refine s_end ?_
 refine go_seq ?_
 refine go_ifb _ rfl (fun h => ?_) (fun h => ?_)
 ·first | replace h := dcT h | replace h := dcF (nt h) | skip
  refine go_skip ?_
  refine go_seq ?_
  refine go_block ?_
  refine go_seq ?_
  refine go_region 4 rfl rfl ?_
  refine s_val rfl rfl (r_move) rfl ?_
  refine s_val rfl rfl (r_indexAgg (k := k) Tryz.runUnderlying86 Tryz.isAgg5 Tryz.sizeOf5 rfl rfl (by first | rfl | omega) (by first | decide | omega) (bs_get (by first | omega | (simp; try omega)))) rfl ?_
  refine s_val rfl rfl (r_assign) rfl ?_
  refine s_val rfl rfl (r_assign) rfl ?_
  refine s_end ?_
  refine go_region 12 rfl rfl ?_
  refine s_val rfl rfl (r_move) rfl ?_
  refine s_val rfl rfl (r_quoi rfl rfl (by omega) (by omega) (by omega)) rfl ?_
  refine s_val rfl rfl (r_move) rfl ?_
  refine s_val rfl rfl (r_quoi rfl rfl (by omega) (by omega) (by omega)) rfl ?_
  refine s_val rfl rfl (r_indexArr (k := (k / 4)) Tryz.runUnderlying146 Tryz.sizeOf106 rfl rfl (by first | rfl | omega) (by first | decide | omega)) rfl ?_
  refine s_val rfl rfl (r_load1 Tryz.isAgg106 rfl (Rd.at1 p9.rd (ws_get (by first | omega | (simp; try omega))))) rfl ?_
  refine s_val rfl rfl (r_shl32 rfl rfl (by omega)) rfl ?_
  refine s_val rfl rfl (r_move) rfl ?_
  refine s_val rfl rfl (r_conv_u32 Tryz.runUnderlying5 Tryz.runUnderlying106 rfl) rfl ?_
  refine s_val rfl rfl (r_or32 rfl rfl) rfl ?_
  refine s_val rfl rfl (r_indexArr (k := (k / 4)) Tryz.runUnderlying146 Tryz.sizeOf106 rfl rfl (by first | rfl | omega) (by first | decide | omega)) rfl ?_
  refine s_do rfl rfl (w_set_w (o := 0) (k := (k / 4)) Tryz.sizeOf106 rfl rfl p9 (by first | omega | (simp; try omega))) rfl ?_
  rintro _ w15 ⟨q_w15, c_w15⟩
  have hs_w15 : w10.heap.size ≤ w15.heap.size := Chg.size c_w15
  replace p6 := p6.kb c_w15 (by omega)
  have C_w15 := Chg.newRng C_w10 c_w15 (by omega)
  have p9 := q_w15
  refine s_end ?_
  refine go_nil (block_normal ?_)
  refine go_region 2 rfl rfl ?_
  refine s_val rfl rfl (r_addi rfl rfl (by omega)) rfl ?_
  refine s_val rfl rfl (r_move) rfl ?_
  refine s_end ?_
  refine go_nil (loop_normal ⟨⟨(k + 1), by first | omega | (dsimp only; omega), ⟨rfl, by omega, p6, by omega, p9, by omega, C_w15⟩⟩, (by repeat (first | exact same_refl | exact same_over | refine same_upd rfl ?_ | refine same_over2 rfl ?_))⟩)
 ·first | replace h := dcF h | replace h := dcT (nf h) | skip
  have ob_16 : k = 64 := by omega
  obtain rfl := ob_16
  have hw := wordsTo_length s 64
  refine go_exit (loop_exit (block_hit ?_))
  refine go_seq ?_
  refine go_region 2 rfl rfl ?_
  refine s_val rfl rfl (r_loadN Tryz.isAgg146 Tryz.sizeOf146 rfl p9.rd (by first | exact ws_len (by omega) | exact ws_len (by simp; done) | exact ws_len (by simp; omega))) rfl ?_
  refine s_do rfl rfl (w_storeA (o := 0) Tryz.sizeOf146 rfl rfl (by first | exact ws_len (by omega) | exact ws_len (by simp; done) | exact ws_len (by simp; omega)) (flat_ws _) p6 (by first | exact ws_len (by omega) | exact ws_len (by simp; done) | exact ws_len (by simp; omega))) rfl ?_
  rintro _ w17 ⟨q_w17, c_w17⟩
  have hs_w17 : w10.heap.size ≤ w17.heap.size := Chg.size c_w17
  replace p9 := p9.kb c_w17 (by omega)
  have C_w17 := Chg.newRng C_w10 c_w17 (by omega)
  have p6 := q_w17
  refine s_end ?_
  refine go_ret ?_
  refine ⟨_, .cons ⟨_, rfl, run_load_agg Tryz.isAgg146 Tryz.sizeOf146 (by first | exact ws_len (by omega) | exact ws_len (by simp; done) | exact ws_len (by simp; omega)) p6.rd⟩ (.nil), ?_⟩
  exact ⟨rfl, C_w17⟩
theorem octets_spec (W : List UInt32) (w : World) (hl : W.length = 16) :
  Rtn Tryz.prog 99 [.agg (ws W).toArray].toArray w (fun v w' => v = .agg (bs (octsTo W 64)).toArray ∧ Kept w w') := by
 refine fn_body (l := [.agg (ws W).toArray]) 22 [.cell 2 86] Tryz.func99 rfl Tryz.ntmps99 (Nat.le_of_ble_eq_true rfl) (by rw [Tryz.results99]) ?_
 refine go_seq ?_
 refine go_region 2 rfl rfl ?_
 refine s_do rfl rfl (w_boxA rfl) rfl ?_
 rintro _ w1 ⟨b2, rfl, hl_b2, hu_b2, p3, c_w1⟩
 have hs_w1 : w.heap.size ≤ w1.heap.size := Chg.size c_w1
 have C_w1 := Chg.pure (Chg.refl no w) c_w1
 have hn_b2 : w.heap.size ≤ b2 := by have := Chg.size C_w1; omega
 refine s_do rfl rfl (w_alloc (bs (List.replicate 64 0)) Tryz.zeroValue86 (by kernel_rfl)) rfl ?_
 rintro _ w4 ⟨b5, rfl, hl_b5, hu_b5, p6, c_w4⟩
 have hs_w4 : w1.heap.size ≤ w4.heap.size := Chg.size c_w4
 replace p3 := p3.k c_w4
 have C_w4 := Chg.pure C_w1 c_w4
 have hn_b5 : w.heap.size ≤ b5 := by have := Chg.size C_w4; omega
 refine s_end ?_
 refine go_seq ?_
 refine go_region 1 rfl rfl ?_
 refine s_do rfl rfl (w_alloc (bs (List.replicate 64 0)) Tryz.zeroValue86 (by kernel_rfl)) rfl ?_
 rintro _ w7 ⟨b8, rfl, hl_b8, hu_b8, p9, c_w7⟩
 have hs_w7 : w4.heap.size ≤ w7.heap.size := Chg.size c_w7
 replace p3 := p3.k c_w7
 replace p6 := p6.k c_w7
 have C_w7 := Chg.pure C_w4 c_w7
 have hn_b8 : w.heap.size ≤ b8 := by have := Chg.size C_w7; omega
 refine s_end ?_
 refine go_seq ?_
 refine go_seq ?_
 refine go_region 1 rfl rfl ?_
 refine s_val rfl rfl (r_move) rfl ?_
 refine s_end ?_
 refine go_block ?_
 refine go_loopM (σ := Nat) [(4, 20)] (fun (k : Nat) e' w' => e' 5 = i64 (k : Nat) ∧ k ≤ 64 ∧ Pc w' b2 0 (ws W) ∧ b2 < w'.heap.size ∧ Pc w' b5 0 (bs (List.replicate 64 0)) ∧ b5 < w'.heap.size ∧ Pc w' b8 0 (bs (octsTo W k)) ∧ b8 < w'.heap.size ∧ Chg no w w') (fun (k : Nat) => 64 - k) 0 ?_ ?_
 ·exact ⟨rfl, by omega, p3, by omega, p6, by omega, p9, by omega, C_w7⟩
 rintro k f11 w10 ⟨e12, hk, p3, hu_b2, p6, hu_b5, p9, hu_b8, C_w10⟩
 have ob_14 : ∃ g_, f11 = upd g_ 5 (i64 (k : Nat)) := ⟨f11, upd_id e12⟩
 obtain ⟨f13, rfl⟩ := ob_14
 clear e12
 have hs_w10 : w.heap.size ≤ w10.heap.size := Chg.size C_w10
 have hw := octsTo_length W k
 refine go_seq ?_
 refine go_region 1 rfl rfl ?_
 refine s_val rfl rfl (r_lss rfl rfl) rfl ?_
 refine s_end ?_
 refine go_seq ?_
 refine go_ifb _ rfl (fun h => ?_) (fun h => ?_)
 ·first | replace h := dcT h | replace h := dcF (nt h) | skip
  refine go_skip ?_
  refine go_seq ?_
  refine go_block ?_
  refine go_seq ?_
  refine go_region 2 rfl rfl ?_
  refine s_val rfl rfl (r_move) rfl ?_
  refine s_val rfl rfl (r_assign) rfl ?_
  refine s_end ?_
  refine go_region 13 rfl rfl ?_
  refine s_val rfl rfl (r_move) rfl ?_
  refine s_val rfl rfl (r_move) rfl ?_
  refine s_val rfl rfl (r_quoi rfl rfl (by omega) (by omega) (by omega)) rfl ?_
  refine s_val rfl rfl (r_indexArr (k := (k / 4)) Tryz.runUnderlying146 Tryz.sizeOf106 rfl rfl (by first | rfl | omega) (by first | decide | omega)) rfl ?_
  refine s_val rfl rfl (r_load1 Tryz.isAgg106 rfl (Rd.at1 p3.rd (ws_get (by first | omega | (simp; try omega))))) rfl ?_
  refine s_val rfl rfl (r_move) rfl ?_
  refine s_val rfl rfl (r_remi rfl rfl (by omega) (by omega)) rfl ?_
  refine s_val rfl rfl (r_muli rfl rfl (by omega)) rfl ?_
  refine s_val rfl rfl (r_subi rfl rfl (by omega)) rfl ?_
  refine s_val rfl rfl (r_shr32 rfl rfl (by omega)) rfl ?_
  refine s_val rfl rfl (r_conv_u8 Tryz.runUnderlying106 Tryz.runUnderlying5 rfl) rfl ?_
  refine s_val rfl rfl (r_indexArr (k := k) Tryz.runUnderlying86 Tryz.sizeOf5 rfl rfl (by first | rfl | omega) (by first | decide | omega)) rfl ?_
  refine s_do rfl rfl (w_set_b (o := 0) (k := k) Tryz.sizeOf5 rfl rfl p9 (by first | omega | (simp; try omega))) rfl ?_
  rintro _ w15 ⟨q_w15, c_w15⟩
  have hs_w15 : w10.heap.size ≤ w15.heap.size := Chg.size c_w15
  replace p3 := p3.kb c_w15 (by omega)
  replace p6 := p6.kb c_w15 (by omega)
  have C_w15 := Chg.newRng C_w10 c_w15 (by omega)
  have p9 := q_w15
  refine s_end ?_
  refine go_nil (block_normal ?_)
  refine go_region 2 rfl rfl ?_
  refine s_val rfl rfl (r_addi rfl rfl (by omega)) rfl ?_
  refine s_val rfl rfl (r_move) rfl ?_
  refine s_end ?_
  have e1 : (24 - 8 * ((k : Int) % 4)).toNat = 24 - 8 * (k % 4) := by omega
  rw [e1] at p9
  refine go_nil (loop_normal ⟨⟨(k + 1), by first | omega | (dsimp only; omega), ⟨rfl, by omega, p3, by omega, p6, by omega, p9, by omega, C_w15⟩⟩, (by repeat (first | exact same_refl | exact same_over | refine same_upd rfl ?_ | refine same_over2 rfl ?_))⟩)
 ·first | replace h := dcF h | replace h := dcT (nf h) | skip
  have ob_16 : k = 64 := by omega
  obtain rfl := ob_16
  have hw := octsTo_length W 64
  refine go_exit (loop_exit (block_hit ?_))
  refine go_seq ?_
  refine go_region 2 rfl rfl ?_
  refine s_val rfl rfl (r_loadN Tryz.isAgg86 Tryz.sizeOf86 rfl p9.rd (bs_len (by first | omega | (simp; try omega)))) rfl ?_
  refine s_do rfl rfl (w_storeA (o := 0) Tryz.sizeOf86 rfl rfl (bs_len (by first | omega | (simp; try omega))) (flat_bs _) p6 (bs_len (by first | omega | (simp; try omega)))) rfl ?_
  rintro _ w17 ⟨q_w17, c_w17⟩
  have hs_w17 : w10.heap.size ≤ w17.heap.size := Chg.size c_w17
  replace p3 := p3.kb c_w17 (by omega)
  replace p9 := p9.kb c_w17 (by omega)
  have C_w17 := Chg.newRng C_w10 c_w17 (by omega)
  have p6 := q_w17
  refine s_end ?_
  refine go_ret ?_
  refine ⟨_, .cons ⟨_, rfl, run_load_agg Tryz.isAgg86 Tryz.sizeOf86 (bs_len (by first | omega | (simp; try omega))) p6.rd⟩ (.nil), ?_⟩
  exact ⟨rfl, C_w17⟩
theorem stirR_spec (s : List UInt8) (w : World) (hl : s.length = 64) :
  Rtn Tryz.prog 75 [.agg (bs s).toArray].toArray w (fun v w' => v = .agg (bs (stir s)).toArray ∧ Kept w w') := by
 refine fn_body (l := [.agg (bs s).toArray]) 56 [.cell 2 86] Tryz.func75 rfl Tryz.ntmps75 (Nat.le_of_ble_eq_true rfl) (by rw [Tryz.results75]) ?_
 refine go_seq ?_
 refine go_region 2 rfl rfl ?_
 refine s_do rfl rfl (w_boxA rfl) rfl ?_
 rintro _ w1 ⟨b2, rfl, hl_b2, hu_b2, p3, c_w1⟩
 have hs_w1 : w.heap.size ≤ w1.heap.size := Chg.size c_w1
 have C_w1 := Chg.pure (Chg.refl no w) c_w1
 have hn_b2 : w.heap.size ≤ b2 := by have := Chg.size C_w1; omega
 refine s_do rfl rfl (w_alloc (bs (List.replicate 64 0)) Tryz.zeroValue86 (by kernel_rfl)) rfl ?_
 rintro _ w4 ⟨b5, rfl, hl_b5, hu_b5, p6, c_w4⟩
 have hs_w4 : w1.heap.size ≤ w4.heap.size := Chg.size c_w4
 replace p3 := p3.k c_w4
 have C_w4 := Chg.pure C_w1 c_w4
 have hn_b5 : w.heap.size ≤ b5 := by have := Chg.size C_w4; omega
 refine s_end ?_
 refine go_seq ?_
 refine go_region 4 rfl rfl ?_
 refine s_val rfl rfl (r_loadN Tryz.isAgg86 Tryz.sizeOf86 rfl p3.rd (bs_len (by first | omega | (simp; try omega)))) rfl ?_
 refine s_do rfl rfl (w_call Tryz.call97 rfl (words_spec _ _ (by first | omega | (simp; try omega)))) rfl ?_
 rintro _ w7 ⟨rfl, c_w7⟩
 have hs_w7 : w4.heap.size ≤ w7.heap.size := Chg.size c_w7
 replace p3 := p3.k c_w7
 replace p6 := p6.k c_w7
 have C_w7 := Chg.pure C_w4 c_w7
 refine s_do rfl rfl (w_alloc (ws (List.replicate 16 0)) Tryz.zeroValue146 (by kernel_rfl)) rfl ?_
 rintro _ w8 ⟨b9, rfl, hl_b9, hu_b9, p10, c_w8⟩
 have hs_w8 : w7.heap.size ≤ w8.heap.size := Chg.size c_w8
 replace p3 := p3.k c_w8
 replace p6 := p6.k c_w8
 have C_w8 := Chg.pure C_w7 c_w8
 have hn_b9 : w.heap.size ≤ b9 := by have := Chg.size C_w8; omega
 refine s_do rfl rfl (w_storeA (o := 0) Tryz.sizeOf146 rfl rfl (by first | exact ws_len (by omega) | exact ws_len (by simp; done) | exact ws_len (by simp; omega)) (flat_ws _) p10 (by first | exact ws_len (by omega) | exact ws_len (by simp; done) | exact ws_len (by simp; omega))) rfl ?_
 rintro _ w11 ⟨q_w11, c_w11⟩
 have hs_w11 : w8.heap.size ≤ w11.heap.size := Chg.size c_w11
 replace p3 := p3.kb c_w11 (by omega)
 replace p6 := p6.kb c_w11 (by omega)
 have C_w11 := Chg.newRng C_w8 c_w11 (by omega)
 have p10 := q_w11
 refine s_end ?_
 refine go_seq ?_
 refine go_seq ?_
 refine go_region 1 rfl rfl ?_
 refine s_val rfl rfl (r_move) rfl ?_
 refine s_end ?_
 refine go_block ?_
 refine go_loopM (σ := Nat) [(4, 7), (10, 53)] (fun (r : Nat) e' w' => e' 10 = i64 (r : Nat) ∧ r ≤ 8 ∧ Pc w' b5 0 (bs (List.replicate 64 0)) ∧ b5 < w'.heap.size ∧ Pc w' b9 0 (ws (stirTo (wordsTo s 64) r)) ∧ b9 < w'.heap.size ∧ Chg no w w') (fun (r : Nat) => 8 - r) 0 ?_ ?_
 ·exact ⟨rfl, by omega, p6, by omega, p10, by omega, C_w11⟩
 rintro r f13 w12 ⟨e14, hr, p6, hu_b5, p10, hu_b9, C_w12⟩
 have ob_16 : ∃ g_, f13 = upd g_ 10 (i64 (r : Nat)) := ⟨f13, upd_id e14⟩
 obtain ⟨f15, rfl⟩ := ob_16
 clear e14
 have hs_w12 : w.heap.size ≤ w12.heap.size := Chg.size C_w12
 have hw0 := wordsTo_length s 64
 have hw := stirTo_length (wordsTo s 64) r
 refine go_seq ?_
 refine go_region 1 rfl rfl ?_
 refine s_val rfl rfl (r_lss rfl rfl) rfl ?_
 refine s_end ?_
 refine go_seq ?_
 refine go_ifb _ rfl (fun h => ?_) (fun h => ?_)
 ·first | replace h := dcT h | replace h := dcF (nt h) | skip
  refine go_skip ?_
  refine go_seq ?_
  refine go_block ?_
  refine go_seq ?_
  refine go_region 2 rfl rfl ?_
  refine s_val rfl rfl (r_move) rfl ?_
  refine s_val rfl rfl (r_assign) rfl ?_
  refine s_end ?_
  refine go_seq ?_
  refine go_region 1 rfl rfl ?_
  refine s_val rfl rfl (r_move) rfl ?_
  refine s_end ?_
  refine go_block ?_
  refine go_loopM (σ := Nat) [(5, 7), (13, 52)] (fun (i : Nat) e' w' => e' 13 = i64 (i : Nat) ∧ i ≤ 16 ∧ Pc w' b5 0 (bs (List.replicate 64 0)) ∧ b5 < w'.heap.size ∧ Pc w' b9 0 (ws (roundTo r (stirTo (wordsTo s 64) r) i)) ∧ b9 < w'.heap.size ∧ Chg no w w') (fun (i : Nat) => 16 - i) 0 ?_ ?_
  ·exact ⟨rfl, by omega, p6, by omega, p10, by omega, C_w12⟩
  rintro i f18 w17 ⟨e19, hi, p6, hu_b5, p10, hu_b9, C_w17⟩
  have ob_21 : ∃ g_, f18 = upd g_ 13 (i64 (i : Nat)) := ⟨f18, upd_id e19⟩
  obtain ⟨f20, rfl⟩ := ob_21
  clear e19
  have hs_w17 : w.heap.size ≤ w17.heap.size := Chg.size C_w17
  have hw1 := roundTo_length r (stirTo (wordsTo s 64) r) i
  refine go_seq ?_
  refine go_region 1 rfl rfl ?_
  refine s_val rfl rfl (r_lss rfl rfl) rfl ?_
  refine s_end ?_
  refine go_seq ?_
  refine go_ifb _ rfl (fun h2 => ?_) (fun h2 => ?_)
  ·first | replace h2 := dcT h2 | replace h2 := dcF (nt h2) | skip
   refine go_skip ?_
   refine go_seq ?_
   refine go_block ?_
   refine go_seq ?_
   refine go_region 2 rfl rfl ?_
   refine s_val rfl rfl (r_move) rfl ?_
   refine s_val rfl rfl (r_assign) rfl ?_
   refine s_end ?_
   refine go_seq ?_
   refine go_region 10 rfl rfl ?_
   refine s_val rfl rfl (r_move) rfl ?_
   refine s_val rfl rfl (r_addi rfl rfl (by omega)) rfl ?_
   refine s_val rfl rfl (r_move) rfl ?_
   refine s_val rfl rfl (r_addi rfl rfl (by omega)) rfl ?_
   refine s_val rfl rfl (r_remi rfl rfl (by omega) (by omega)) rfl ?_
   refine s_val rfl rfl (r_move) rfl ?_
   refine s_val rfl rfl (r_addi rfl rfl (by omega)) rfl ?_
   refine s_val rfl rfl (r_remi rfl rfl (by omega) (by omega)) rfl ?_
   refine s_val rfl rfl (r_assign) rfl ?_
   refine s_val rfl rfl (r_assign) rfl ?_
   refine s_end ?_
   refine go_seq ?_
   refine go_drawsK 17 (.take 0 (.take 1 (.take 2 (.take 3 (.take 4 (.take 5 (.take 6 (.take 7 (.take 9 (.take 10 (.take 11 (.take 12 (.take 13 (.take 14 (.take 15 (.eff 8 (.take 16 (.eff 17 (.eff 18 (.eff 19 .done)))))))))))))))))))) (by kernel_rfl) (by kernel_rfl) fun w22 c_w22 => ?_
   have hs_w22 : w17.heap.size ≤ w22.heap.size := Chg.size c_w22
   replace p6 := p6.k c_w22
   replace p10 := p10.k c_w22
   have C_w22 := Chg.pure C_w17 c_w22
   have p6_0 := p6
   have p10_0 := p10
   refine s_takeK rfl rfl (w0 := w22) (fun x_ c_ => r_move) ?_
   refine s_takeK rfl rfl (w0 := w22) (fun x_ c_ => r_indexArr (k := i) Tryz.runUnderlying146 Tryz.sizeOf106 rfl rfl (by first | rfl | omega) (by first | decide | omega)) ?_
   refine s_takeK rfl rfl (w0 := w22) (fun x_ c_ => r_load1 Tryz.isAgg106 rfl (Rd.at1 (p10_0.k c_).rd (ws_get (by first | omega | (simp; try omega))))) ?_
   refine s_takeK rfl rfl (w0 := w22) (fun x_ c_ => r_move) ?_
   refine s_takeK rfl rfl (w0 := w22) (fun x_ c_ => r_indexArr (k := (((i + 1) + r) % 16)) Tryz.runUnderlying146 Tryz.sizeOf106 rfl rfl (by first | rfl | omega) (by first | decide | omega)) ?_
   refine s_takeK rfl rfl (w0 := w22) (fun x_ c_ => r_load1 Tryz.isAgg106 rfl (Rd.at1 (p10_0.k c_).rd (ws_get (by first | omega | (simp; try omega))))) ?_
   refine s_takeK rfl rfl (w0 := w22) (fun x_ c_ => r_move) ?_
   refine s_takeK rfl rfl (w0 := w22) (fun x_ c_ => r_addi rfl rfl (by omega)) ?_
   refine s_takeK rfl rfl (w0 := w22) (fun x_ c_ => r_move) ?_
   refine s_takeK rfl rfl (w0 := w22) (fun x_ c_ => r_muli rfl rfl (by omega)) ?_
   refine s_takeK rfl rfl (w0 := w22) (fun x_ c_ => r_move) ?_
   refine s_takeK rfl rfl (w0 := w22) (fun x_ c_ => r_addi rfl rfl (by omega)) ?_
   refine s_takeK rfl rfl (w0 := w22) (fun x_ c_ => r_addi rfl rfl (by omega)) ?_
   refine s_takeK rfl rfl (w0 := w22) (fun x_ c_ => r_conv_u32 Tryz.runUnderlying3 Tryz.runUnderlying106 rfl) ?_
   refine s_takeK rfl rfl (w0 := w22) (fun x_ c_ => r_mul32 (p := 2654435769) rfl rfl) ?_
   refine s_fxK rfl rfl (w_call Tryz.call98 rfl (turn_spec _ _ _ (by omega) (by omega))) ?_
   rintro _ w23 ⟨rfl, c_w23⟩
   have hs_w23 : w22.heap.size ≤ w23.heap.size := Chg.size c_w23
   replace p6 := p6.k c_w23
   replace p10 := p10.k c_w23
   have C_w23 := Chg.pure C_w22 c_w23
   have K_w23 := Chg.pure (Chg.refl no w22) c_w23
   refine ⟨K_w23, ?_⟩
   refine s_takeK rfl rfl (w0 := w22) (fun x_ c_ => r_xor32 rfl rfl) ?_
   refine s_val rfl rfl (r_add32 rfl rfl) rfl ?_
   refine s_val rfl rfl (r_indexArr (k := i) Tryz.runUnderlying146 Tryz.sizeOf106 rfl rfl (by first | rfl | omega) (by first | decide | omega)) rfl ?_
   refine s_do rfl rfl (w_set_w (o := 0) (k := i) Tryz.sizeOf106 rfl rfl p10 (by first | omega | (simp; try omega))) rfl ?_
   rintro _ w24 ⟨q_w24, c_w24⟩
   have hs_w24 : w23.heap.size ≤ w24.heap.size := Chg.size c_w24
   replace p6 := p6.kb c_w24 (by omega)
   have C_w24 := Chg.newRng C_w23 c_w24 (by omega)
   have p10 := q_w24
   refine s_end ?_
   refine go_drawsK 7 (.take 0 (.take 1 (.take 2 (.take 3 (.take 4 (.take 5 (.eff 6 (.eff 7 (.eff 8 (.eff 9 .done)))))))))) (by kernel_rfl) (by kernel_rfl) fun w25 c_w25 => ?_
   have hs_w25 : w24.heap.size ≤ w25.heap.size := Chg.size c_w25
   replace p6 := p6.k c_w25
   replace p10 := p10.k c_w25
   have C_w25 := Chg.pure C_w24 c_w25
   have p6_0 := p6
   have p10_0 := p10
   refine s_takeK rfl rfl (w0 := w25) (fun x_ c_ => r_move) ?_
   refine s_takeK rfl rfl (w0 := w25) (fun x_ c_ => r_indexArr (k := ((i + 9) % 16)) Tryz.runUnderlying146 Tryz.sizeOf106 rfl rfl (by first | rfl | omega) (by first | decide | omega)) ?_
   refine s_takeK rfl rfl (w0 := w25) (fun x_ c_ => r_load1 Tryz.isAgg106 rfl (Rd.at1 (p10_0.k c_).rd (ws_get (by first | omega | (simp; try omega))))) ?_
   refine s_takeK rfl rfl (w0 := w25) (fun x_ c_ => r_move) ?_
   refine s_takeK rfl rfl (w0 := w25) (fun x_ c_ => r_indexArr (k := i) Tryz.runUnderlying146 Tryz.sizeOf106 rfl rfl (by first | rfl | omega) (by first | decide | omega)) ?_
   refine s_takeK rfl rfl (w0 := w25) (fun x_ c_ => r_load1 Tryz.isAgg106 rfl (Rd.at1 (p10_0.k c_).rd (ws_get (by first | omega | (simp; try omega))))) ?_
   refine s_fxK rfl rfl (w_call Tryz.call98 rfl (turn_spec _ _ _ (by omega) (by omega))) ?_
   rintro _ w26 ⟨rfl, c_w26⟩
   have hs_w26 : w25.heap.size ≤ w26.heap.size := Chg.size c_w26
   replace p6 := p6.k c_w26
   replace p10 := p10.k c_w26
   have C_w26 := Chg.pure C_w25 c_w26
   have K_w26 := Chg.pure (Chg.refl no w25) c_w26
   refine ⟨K_w26, ?_⟩
   refine s_val rfl rfl (r_xor32 rfl rfl) rfl ?_
   refine s_val rfl rfl (r_indexArr (k := ((i + 9) % 16)) Tryz.runUnderlying146 Tryz.sizeOf106 rfl rfl (by first | rfl | omega) (by first | decide | omega)) rfl ?_
   refine s_do rfl rfl (w_set_w (o := 0) (k := ((i + 9) % 16)) Tryz.sizeOf106 rfl rfl p10 (by first | omega | (simp; try omega))) rfl ?_
   rintro _ w27 ⟨q_w27, c_w27⟩
   have hs_w27 : w26.heap.size ≤ w27.heap.size := Chg.size c_w27
   replace p6 := p6.kb c_w27 (by omega)
   have C_w27 := Chg.newRng C_w26 c_w27 (by omega)
   have p10 := q_w27
   refine s_end ?_
   refine go_nil (block_normal ?_)
   refine go_region 2 rfl rfl ?_
   refine s_val rfl rfl (r_addi rfl rfl (by omega)) rfl ?_
   refine s_val rfl rfl (r_move) rfl ?_
   refine s_end ?_
   refine go_nil (loop_normal ⟨⟨(i + 1), by first | omega | (dsimp only; omega), ⟨rfl, by omega, p6, by omega, p10, by omega, C_w27⟩⟩, (by repeat (first | exact same_refl | exact same_over | refine same_upd rfl ?_ | refine same_over2 rfl ?_))⟩)
  ·first | replace h2 := dcF h2 | replace h2 := dcT (nf h2) | skip
   have ob_28 : i = 16 := by omega
   obtain rfl := ob_28
   refine go_exit (loop_exit (block_hit ?_))
   refine go_nil (block_normal ?_)
   refine go_region 2 rfl rfl ?_
   refine s_val rfl rfl (r_addi rfl rfl (by omega)) rfl ?_
   refine s_val rfl rfl (r_move) rfl ?_
   refine s_end ?_
   refine go_nil (loop_normal ⟨⟨(r + 1), by first | omega | (dsimp only; omega), ⟨rfl, by omega, p6, by omega, p10, by omega, C_w17⟩⟩, (by repeat (first | exact same_refl | exact same_over | refine same_upd rfl ?_ | refine same_over2 rfl ?_))⟩)
 ·first | replace h := dcF h | replace h := dcT (nf h) | skip
  have ob_29 : r = 8 := by omega
  obtain rfl := ob_29
  refine go_exit (loop_exit (block_hit ?_))
  refine go_seq ?_
  refine go_region 3 rfl rfl ?_
  refine s_val rfl rfl (r_loadN Tryz.isAgg146 Tryz.sizeOf146 rfl p10.rd (by first | exact ws_len (by omega) | exact ws_len (by simp; done) | exact ws_len (by simp; omega))) rfl ?_
  refine s_do rfl rfl (w_call Tryz.call99 rfl (octets_spec _ _ (by first | omega | (simp; try omega)))) rfl ?_
  rintro _ w30 ⟨rfl, c_w30⟩
  have hs_w30 : w12.heap.size ≤ w30.heap.size := Chg.size c_w30
  replace p6 := p6.k c_w30
  replace p10 := p10.k c_w30
  have C_w30 := Chg.pure C_w12 c_w30
  refine s_do rfl rfl (w_storeA (o := 0) Tryz.sizeOf86 rfl rfl (bs_len (by first | omega | (simp; try omega))) (flat_bs _) p6 (bs_len (by first | omega | (simp; try omega)))) rfl ?_
  rintro _ w31 ⟨q_w31, c_w31⟩
  have hs_w31 : w30.heap.size ≤ w31.heap.size := Chg.size c_w31
  replace p10 := p10.kb c_w31 (by omega)
  have C_w31 := Chg.newRng C_w30 c_w31 (by omega)
  have p6 := q_w31
  refine s_end ?_
  refine go_ret ?_
  refine ⟨_, .cons ⟨_, rfl, run_load_agg Tryz.isAgg86 Tryz.sizeOf86 (bs_len (by first | omega | (simp; try omega))) p6.rd⟩ (.nil), ?_⟩
  exact ⟨rfl, C_w31⟩
theorem word_spec (o : List UInt8) (w : World) (hl : o.length = 4) :
  Rtn Tryz.prog 123 [.agg (bs o).toArray].toArray w (fun v w' => v = u32 (wordL o) ∧ Kept w w') := by
 refine fn_body (l := [.agg (bs o).toArray]) 21 [.tmp 2] Tryz.func123 rfl Tryz.ntmps123 (Nat.le_of_ble_eq_true rfl) (by rw [Tryz.results123]) ?_
 refine go_seq ?_
 refine go_region 2 rfl rfl ?_
 refine s_do rfl rfl (w_boxA rfl) rfl ?_
 rintro _ w1 ⟨b2, rfl, hl_b2, hu_b2, p3, c_w1⟩
 have hs_w1 : w.heap.size ≤ w1.heap.size := Chg.size c_w1
 have C_w1 := Chg.pure (Chg.refl no w) c_w1
 have hn_b2 : w.heap.size ≤ b2 := by have := Chg.size C_w1; omega
 refine s_val rfl rfl (r_assign) rfl ?_
 refine s_end ?_
 refine go_seq ?_
 refine go_region 19 rfl rfl ?_
 refine s_val rfl rfl (r_indexArr (k := 0) Tryz.runUnderlying104 Tryz.sizeOf5 rfl rfl (by first | rfl | omega) (by first | decide | omega)) rfl ?_
 refine s_val rfl rfl (r_load1 Tryz.isAgg5 rfl (Rd.at1 p3.rd (bs_get (by first | omega | (simp; try omega))))) rfl ?_
 refine s_val rfl rfl (r_conv_u32 Tryz.runUnderlying5 Tryz.runUnderlying106 rfl) rfl ?_
 refine s_val rfl rfl (r_shl32 rfl rfl (by omega)) rfl ?_
 refine s_val rfl rfl (r_indexArr (k := 1) Tryz.runUnderlying104 Tryz.sizeOf5 rfl rfl (by first | rfl | omega) (by first | decide | omega)) rfl ?_
 refine s_val rfl rfl (r_load1 Tryz.isAgg5 rfl (Rd.at1 p3.rd (bs_get (by first | omega | (simp; try omega))))) rfl ?_
 refine s_val rfl rfl (r_conv_u32 Tryz.runUnderlying5 Tryz.runUnderlying106 rfl) rfl ?_
 refine s_val rfl rfl (r_shl32 rfl rfl (by omega)) rfl ?_
 refine s_val rfl rfl (r_or32 rfl rfl) rfl ?_
 refine s_val rfl rfl (r_indexArr (k := 2) Tryz.runUnderlying104 Tryz.sizeOf5 rfl rfl (by first | rfl | omega) (by first | decide | omega)) rfl ?_
 refine s_val rfl rfl (r_load1 Tryz.isAgg5 rfl (Rd.at1 p3.rd (bs_get (by first | omega | (simp; try omega))))) rfl ?_
 refine s_val rfl rfl (r_conv_u32 Tryz.runUnderlying5 Tryz.runUnderlying106 rfl) rfl ?_
 refine s_val rfl rfl (r_shl32 rfl rfl (by omega)) rfl ?_
 refine s_val rfl rfl (r_or32 rfl rfl) rfl ?_
 refine s_val rfl rfl (r_indexArr (k := 3) Tryz.runUnderlying104 Tryz.sizeOf5 rfl rfl (by first | rfl | omega) (by first | decide | omega)) rfl ?_
 refine s_val rfl rfl (r_load1 Tryz.isAgg5 rfl (Rd.at1 p3.rd (bs_get (by first | omega | (simp; try omega))))) rfl ?_
 refine s_val rfl rfl (r_conv_u32 Tryz.runUnderlying5 Tryz.runUnderlying106 rfl) rfl ?_
 refine s_val rfl rfl (r_or32 rfl rfl) rfl ?_
 refine s_val rfl rfl (r_assign) rfl ?_
 refine s_end ?_
 refine go_ret ?_
 refine ⟨_, .cons rfl (.nil), ?_⟩
 exact ⟨rfl, C_w1⟩
theorem oct4_spec (n : UInt32) (w : World) :
  Rtn Tryz.prog 60 [u32 n].toArray w (fun v w' => v = .agg (bs (oct4 n)).toArray ∧ Kept w w') := by
 refine fn_body (l := [u32 n]) 15 [.cell 2 104] Tryz.func60 rfl Tryz.ntmps60 (Nat.le_of_ble_eq_true rfl) (by rw [Tryz.results60]) ?_
 refine go_seq ?_
 refine go_region 1 rfl rfl ?_
 refine s_do rfl rfl (w_alloc (bs (List.replicate 4 0)) Tryz.zeroValue104 (by kernel_rfl)) rfl ?_
 rintro _ w1 ⟨b2, rfl, hl_b2, hu_b2, p3, c_w1⟩
 have hs_w1 : w.heap.size ≤ w1.heap.size := Chg.size c_w1
 have C_w1 := Chg.pure (Chg.refl no w) c_w1
 have hn_b2 : w.heap.size ≤ b2 := by have := Chg.size C_w1; omega
 refine s_end ?_
 refine go_seq ?_
 refine go_region 13 rfl rfl ?_
 refine s_val rfl rfl (r_move) rfl ?_
 refine s_val rfl rfl (r_shr32 rfl rfl (by omega)) rfl ?_
 refine s_val rfl rfl (r_conv_u8 Tryz.runUnderlying106 Tryz.runUnderlying5 rfl) rfl ?_
 refine s_val rfl rfl (r_move) rfl ?_
 refine s_val rfl rfl (r_shr32 rfl rfl (by omega)) rfl ?_
 refine s_val rfl rfl (r_conv_u8 Tryz.runUnderlying106 Tryz.runUnderlying5 rfl) rfl ?_
 refine s_val rfl rfl (r_move) rfl ?_
 refine s_val rfl rfl (r_shr32 rfl rfl (by omega)) rfl ?_
 refine s_val rfl rfl (r_conv_u8 Tryz.runUnderlying106 Tryz.runUnderlying5 rfl) rfl ?_
 refine s_val rfl rfl (r_move) rfl ?_
 refine s_val rfl rfl (r_conv_u8 Tryz.runUnderlying106 Tryz.runUnderlying5 rfl) rfl ?_
 refine s_val rfl rfl (r_buildB Tryz.zeroValue104 rfl Tryz.runUnderlying104 Tryz.sizeOf5 rfl (.c (.c (.c (.c .n))))) rfl ?_
 refine s_do rfl rfl (w_storeA (o := 0) Tryz.sizeOf104 rfl rfl (bs_len (by first | omega | (simp; try omega))) (flat_bs _) p3 (bs_len (by first | omega | (simp; try omega)))) rfl ?_
 rintro _ w4 ⟨q_w4, c_w4⟩
 have hs_w4 : w1.heap.size ≤ w4.heap.size := Chg.size c_w4
 have C_w4 := Chg.newRng C_w1 c_w4 (by omega)
 have p3 := q_w4
 refine s_end ?_
 refine go_ret ?_
 refine ⟨_, .cons ⟨_, rfl, run_load_agg Tryz.isAgg104 Tryz.sizeOf104 (bs_len (by first | omega | (simp; try omega))) p3.rd⟩ (.nil), ?_⟩
 exact ⟨rfl, C_w4⟩
theorem oct8_spec (n : UInt64) (w : World) :
  Rtn Tryz.prog 63 [u64 n].toArray w (fun v w' => v = .agg (bs (oct8 n)).toArray ∧ Kept w w') := by
 refine fn_body (l := [u64 n]) 29 [.cell 2 109] Tryz.func63 rfl Tryz.ntmps63 (Nat.le_of_ble_eq_true rfl) (by rw [Tryz.results63]) ?_
 refine go_seq ?_
 refine go_region 1 rfl rfl ?_
 refine s_do rfl rfl (w_alloc (bs (List.replicate 8 0)) Tryz.zeroValue109 (by kernel_rfl)) rfl ?_
 rintro _ w1 ⟨b2, rfl, hl_b2, hu_b2, p3, c_w1⟩
 have hs_w1 : w.heap.size ≤ w1.heap.size := Chg.size c_w1
 have C_w1 := Chg.pure (Chg.refl no w) c_w1
 have hn_b2 : w.heap.size ≤ b2 := by have := Chg.size C_w1; omega
 refine s_end ?_
 refine go_seq ?_
 refine go_region 11 rfl rfl ?_
 refine s_val rfl rfl (r_move) rfl ?_
 refine s_val rfl rfl (r_shr64 rfl rfl (by omega)) rfl ?_
 refine s_val rfl rfl (r_conv_u32 Tryz.runUnderlying111 Tryz.runUnderlying106 rfl) rfl ?_
 refine s_do rfl rfl (w_call Tryz.call60 rfl (oct4_spec _ _)) rfl ?_
 rintro _ w4 ⟨rfl, c_w4⟩
 have hs_w4 : w1.heap.size ≤ w4.heap.size := Chg.size c_w4
 replace p3 := p3.k c_w4
 have C_w4 := Chg.pure C_w1 c_w4
 refine s_val rfl rfl (r_move) rfl ?_
 refine s_val rfl rfl (r_conv_u32 Tryz.runUnderlying111 Tryz.runUnderlying106 rfl) rfl ?_
 refine s_do rfl rfl (w_call Tryz.call60 rfl (oct4_spec _ _)) rfl ?_
 rintro _ w5 ⟨rfl, c_w5⟩
 have hs_w5 : w4.heap.size ≤ w5.heap.size := Chg.size c_w5
 replace p3 := p3.k c_w5
 have C_w5 := Chg.pure C_w4 c_w5
 refine s_do rfl rfl (w_alloc (bs (List.replicate 4 0)) Tryz.zeroValue104 (by kernel_rfl)) rfl ?_
 rintro _ w6 ⟨b7, rfl, hl_b7, hu_b7, p8, c_w6⟩
 have hs_w6 : w5.heap.size ≤ w6.heap.size := Chg.size c_w6
 replace p3 := p3.k c_w6
 have C_w6 := Chg.pure C_w5 c_w6
 have hn_b7 : w.heap.size ≤ b7 := by have := Chg.size C_w6; omega
 refine s_do rfl rfl (w_alloc (bs (List.replicate 4 0)) Tryz.zeroValue104 (by kernel_rfl)) rfl ?_
 rintro _ w9 ⟨b10, rfl, hl_b10, hu_b10, p11, c_w9⟩
 have hs_w9 : w6.heap.size ≤ w9.heap.size := Chg.size c_w9
 replace p3 := p3.k c_w9
 replace p8 := p8.k c_w9
 have C_w9 := Chg.pure C_w6 c_w9
 have hn_b10 : w.heap.size ≤ b10 := by have := Chg.size C_w9; omega
 refine s_do rfl rfl (w_storeA (o := 0) Tryz.sizeOf104 rfl rfl (bs_len (by first | omega | (simp; try omega))) (flat_bs _) p8 (bs_len (by first | omega | (simp; try omega)))) rfl ?_
 rintro _ w12 ⟨q_w12, c_w12⟩
 have hs_w12 : w9.heap.size ≤ w12.heap.size := Chg.size c_w12
 replace p3 := p3.kb c_w12 (by omega)
 replace p11 := p11.kb c_w12 (by omega)
 have C_w12 := Chg.newRng C_w9 c_w12 (by omega)
 have p8 := q_w12
 refine s_do rfl rfl (w_storeA (o := 0) Tryz.sizeOf104 rfl rfl (bs_len (by first | omega | (simp; try omega))) (flat_bs _) p11 (bs_len (by first | omega | (simp; try omega)))) rfl ?_
 rintro _ w13 ⟨q_w13, c_w13⟩
 have hs_w13 : w12.heap.size ≤ w13.heap.size := Chg.size c_w13
 replace p3 := p3.kb c_w13 (by omega)
 replace p8 := p8.kb c_w13 (by omega)
 have C_w13 := Chg.newRng C_w12 c_w13 (by omega)
 have p11 := q_w13
 refine s_end ?_
 refine go_seq ?_
 refine go_region 18 rfl rfl ?_
 refine s_val rfl rfl (r_indexArr (k := 0) Tryz.runUnderlying104 Tryz.sizeOf5 rfl rfl (by first | rfl | omega) (by first | decide | omega)) rfl ?_
 refine s_val rfl rfl (r_load1 Tryz.isAgg5 rfl (Rd.at1 p8.rd (bs_get (by first | omega | (simp; try omega))))) rfl ?_
 refine s_val rfl rfl (r_indexArr (k := 1) Tryz.runUnderlying104 Tryz.sizeOf5 rfl rfl (by first | rfl | omega) (by first | decide | omega)) rfl ?_
 refine s_val rfl rfl (r_load1 Tryz.isAgg5 rfl (Rd.at1 p8.rd (bs_get (by first | omega | (simp; try omega))))) rfl ?_
 refine s_val rfl rfl (r_indexArr (k := 2) Tryz.runUnderlying104 Tryz.sizeOf5 rfl rfl (by first | rfl | omega) (by first | decide | omega)) rfl ?_
 refine s_val rfl rfl (r_load1 Tryz.isAgg5 rfl (Rd.at1 p8.rd (bs_get (by first | omega | (simp; try omega))))) rfl ?_
 refine s_val rfl rfl (r_indexArr (k := 3) Tryz.runUnderlying104 Tryz.sizeOf5 rfl rfl (by first | rfl | omega) (by first | decide | omega)) rfl ?_
 refine s_val rfl rfl (r_load1 Tryz.isAgg5 rfl (Rd.at1 p8.rd (bs_get (by first | omega | (simp; try omega))))) rfl ?_
 refine s_val rfl rfl (r_indexArr (k := 0) Tryz.runUnderlying104 Tryz.sizeOf5 rfl rfl (by first | rfl | omega) (by first | decide | omega)) rfl ?_
 refine s_val rfl rfl (r_load1 Tryz.isAgg5 rfl (Rd.at1 p11.rd (bs_get (by first | omega | (simp; try omega))))) rfl ?_
 refine s_val rfl rfl (r_indexArr (k := 1) Tryz.runUnderlying104 Tryz.sizeOf5 rfl rfl (by first | rfl | omega) (by first | decide | omega)) rfl ?_
 refine s_val rfl rfl (r_load1 Tryz.isAgg5 rfl (Rd.at1 p11.rd (bs_get (by first | omega | (simp; try omega))))) rfl ?_
 refine s_val rfl rfl (r_indexArr (k := 2) Tryz.runUnderlying104 Tryz.sizeOf5 rfl rfl (by first | rfl | omega) (by first | decide | omega)) rfl ?_
 refine s_val rfl rfl (r_load1 Tryz.isAgg5 rfl (Rd.at1 p11.rd (bs_get (by first | omega | (simp; try omega))))) rfl ?_
 refine s_val rfl rfl (r_indexArr (k := 3) Tryz.runUnderlying104 Tryz.sizeOf5 rfl rfl (by first | rfl | omega) (by first | decide | omega)) rfl ?_
 refine s_val rfl rfl (r_load1 Tryz.isAgg5 rfl (Rd.at1 p11.rd (bs_get (by first | omega | (simp; try omega))))) rfl ?_
 refine s_val rfl rfl (r_buildB Tryz.zeroValue109 rfl Tryz.runUnderlying109 Tryz.sizeOf5 rfl (.c (.c (.c (.c (.c (.c (.c (.c .n))))))))) rfl ?_
 refine s_do rfl rfl (w_storeA (o := 0) Tryz.sizeOf109 rfl rfl (bs_len (by first | omega | (simp; try omega))) (flat_bs _) p3 (bs_len (by first | omega | (simp; try omega)))) rfl ?_
 rintro _ w14 ⟨q_w14, c_w14⟩
 have hs_w14 : w13.heap.size ≤ w14.heap.size := Chg.size c_w14
 replace p8 := p8.kb c_w14 (by omega)
 replace p11 := p11.kb c_w14 (by omega)
 have C_w14 := Chg.newRng C_w13 c_w14 (by omega)
 have p3 := q_w14
 refine s_end ?_
 refine go_ret ?_
 refine ⟨_, .cons ⟨_, rfl, run_load_agg Tryz.isAgg109 Tryz.sizeOf109 (bs_len (by first | omega | (simp; try omega))) p3.rd⟩ (.nil), ?_⟩
 exact ⟨rfl, C_w14⟩
theorem rotB_spec (x : UInt32) (k : Int) (w : World) :
  Rtn Tryz.prog 121 [u32 x, i64 k].toArray w (fun v w' => v = u32 (rotB x k) ∧ Kept w w') := by
 refine fn_body (l := [u32 x, i64 k]) 17 [.tmp 4] Tryz.func121 rfl Tryz.ntmps121 (Nat.le_of_ble_eq_true rfl) (by rw [Tryz.results121]) ?_
 refine go_seq ?_
 refine go_region 1 rfl rfl ?_
 refine s_val rfl rfl (r_assign) rfl ?_
 refine s_end ?_
 refine go_seq ?_
 refine go_region 4 rfl rfl ?_
 refine s_val rfl rfl (r_move) rfl ?_
 refine s_val rfl rfl (r_conv_u64 Tryz.runUnderlying3 Tryz.runUnderlying43 rfl) rfl ?_
 refine s_val rfl rfl (r_and64 (q := 31) rfl rfl) rfl ?_
 refine s_val rfl rfl (r_assign) rfl ?_
 refine s_end ?_
 refine go_seq ?_
 refine go_region 9 rfl rfl ?_
 refine s_val rfl rfl (r_move) rfl ?_
 refine s_val rfl rfl (r_move) rfl ?_
 refine s_val rfl rfl (r_shl32 rfl rfl (by omega)) rfl ?_
 refine s_val rfl rfl (r_move) rfl ?_
 refine s_val rfl rfl (r_move) rfl ?_
 refine s_val rfl rfl (r_sub64 (p := 32) rfl rfl) rfl ?_
 refine s_val rfl rfl (r_shr32 rfl rfl (by omega)) rfl ?_
 refine s_val rfl rfl (r_or32 rfl rfl) rfl ?_
 refine s_val rfl rfl (r_assign) rfl ?_
 refine s_end ?_
 refine go_ret ?_
 refine ⟨_, .cons rfl (.nil), ?_⟩
 exact ⟨rfl, (Chg.refl no w)⟩
theorem turnB_spec (W : List UInt32) (b : Nat) (r i : Int) (w : World) (hl : W.length = 16) (hp : Pc w b 0 (ws W)) (hr : 0 ≤ r) (hr2 : r ≤ 100) (hi : 0 ≤ i) (hi2 : i ≤ 100) :
  Rtn Tryz.prog 120 [.pointer (some ⟨b, 0, none⟩), i64 r, i64 i].toArray w (fun v w' => v = u32 (turnB W r.toNat i.toNat) ∧ Kept w w') := by
 obtain ⟨r, rfl⟩ := Int.eq_ofNat_of_zero_le hr
 obtain ⟨i, rfl⟩ := Int.eq_ofNat_of_zero_le hi
 simp only [Int.toNat_natCast]
 refine fn_body (l := [.pointer (some ⟨b, 0, none⟩), i64 r, i64 i]) 28 [.tmp 6] Tryz.func120 rfl Tryz.ntmps120 (Nat.le_of_ble_eq_true rfl) (by rw [Tryz.results120]) ?_
 refine go_seq ?_
 refine go_region 1 rfl rfl ?_
 refine s_val rfl rfl (r_assign) rfl ?_
 refine s_end ?_
 refine go_seq ?_
 refine go_region 22 rfl rfl ?_
 refine s_val rfl rfl (r_move) rfl ?_
 refine s_val rfl rfl (r_move) rfl ?_
 refine s_val rfl rfl (r_addi rfl rfl (by omega)) rfl ?_
 refine s_val rfl rfl (r_move) rfl ?_
 refine s_val rfl rfl (r_addi rfl rfl (by omega)) rfl ?_
 refine s_val rfl rfl (r_remi rfl rfl (by omega) (by omega)) rfl ?_
 refine s_val rfl rfl (r_nilCheck rfl) rfl ?_
 refine s_val rfl rfl (r_indexArr (k := (((i + 1) + r) % 16)) Tryz.runUnderlying146 Tryz.sizeOf106 rfl rfl (by first | rfl | omega) (by first | decide | omega)) rfl ?_
 refine s_val rfl rfl (r_load1 Tryz.isAgg106 rfl (Rd.at1 (hp.k (Chg.refl no w)).rd (ws_get (by first | omega | (simp; try omega))))) rfl ?_
 refine s_val rfl rfl (r_move) rfl ?_
 refine s_val rfl rfl (r_addi rfl rfl (by omega)) rfl ?_
 refine s_do rfl rfl (w_call Tryz.call121 rfl (rotB_spec _ _ _)) rfl ?_
 rintro _ w1 ⟨rfl, c_w1⟩
 have hs_w1 : w.heap.size ≤ w1.heap.size := Chg.size c_w1
 have C_w1 := Chg.pure (Chg.refl no w) c_w1
 refine s_val rfl rfl (r_move) rfl ?_
 refine s_val rfl rfl (r_muli rfl rfl (by omega)) rfl ?_
 refine s_val rfl rfl (r_move) rfl ?_
 refine s_val rfl rfl (r_addi rfl rfl (by omega)) rfl ?_
 refine s_val rfl rfl (r_addi rfl rfl (by omega)) rfl ?_
 refine s_val rfl rfl (r_conv_u64 Tryz.runUnderlying3 Tryz.runUnderlying111 rfl) rfl ?_
 refine s_val rfl rfl (r_mul64 (p := 2654435769) rfl rfl) rfl ?_
 refine s_val rfl rfl (r_conv_u32 Tryz.runUnderlying111 Tryz.runUnderlying106 rfl) rfl ?_
 refine s_val rfl rfl (r_xor32 rfl rfl) rfl ?_
 refine s_val rfl rfl (r_assign) rfl ?_
 refine s_end ?_
 refine go_ret ?_
 refine ⟨_, .cons rfl (.nil), ?_⟩
 exact ⟨rfl, C_w1⟩
theorem wordsB_spec (s : List UInt8) (w : World) (hl : s.length = 64) :
  Rtn Tryz.prog 119 [.agg (bs s).toArray].toArray w (fun v w' => v = .agg (ws (wordsBTo s 16)).toArray ∧ Kept w w') := by
 refine fn_body (l := [.agg (bs s).toArray]) 21 [.cell 2 146] Tryz.func119 rfl Tryz.ntmps119 (Nat.le_of_ble_eq_true rfl) (by rw [Tryz.results119]) ?_
 refine go_seq ?_
 refine go_region 2 rfl rfl ?_
 refine s_do rfl rfl (w_boxA rfl) rfl ?_
 rintro _ w1 ⟨b2, rfl, hl_b2, hu_b2, p3, c_w1⟩
 have hs_w1 : w.heap.size ≤ w1.heap.size := Chg.size c_w1
 have C_w1 := Chg.pure (Chg.refl no w) c_w1
 have hn_b2 : w.heap.size ≤ b2 := by have := Chg.size C_w1; omega
 refine s_do rfl rfl (w_alloc (ws (List.replicate 16 0)) Tryz.zeroValue146 (by kernel_rfl)) rfl ?_
 rintro _ w4 ⟨b5, rfl, hl_b5, hu_b5, p6, c_w4⟩
 have hs_w4 : w1.heap.size ≤ w4.heap.size := Chg.size c_w4
 replace p3 := p3.k c_w4
 have C_w4 := Chg.pure C_w1 c_w4
 have hn_b5 : w.heap.size ≤ b5 := by have := Chg.size C_w4; omega
 refine s_end ?_
 refine go_seq ?_
 refine go_region 1 rfl rfl ?_
 refine s_do rfl rfl (w_alloc (ws (List.replicate 16 0)) Tryz.zeroValue146 (by kernel_rfl)) rfl ?_
 rintro _ w7 ⟨b8, rfl, hl_b8, hu_b8, p9, c_w7⟩
 have hs_w7 : w4.heap.size ≤ w7.heap.size := Chg.size c_w7
 replace p3 := p3.k c_w7
 replace p6 := p6.k c_w7
 have C_w7 := Chg.pure C_w4 c_w7
 have hn_b8 : w.heap.size ≤ b8 := by have := Chg.size C_w7; omega
 refine s_end ?_
 refine go_seq ?_
 refine go_seq ?_
 refine go_region 1 rfl rfl ?_
 refine s_val rfl rfl (r_move) rfl ?_
 refine s_end ?_
 refine go_block ?_
 refine go_loopM (σ := Nat) [(4, 19)] (fun (k : Nat) e' w' => e' 5 = i64 (k : Nat) ∧ k ≤ 16 ∧ Pc w' b2 0 (bs s) ∧ b2 < w'.heap.size ∧ Pc w' b5 0 (ws (List.replicate 16 0)) ∧ b5 < w'.heap.size ∧ Pc w' b8 0 (ws (wordsBTo s k)) ∧ b8 < w'.heap.size ∧ Chg no w w') (fun (k : Nat) => 16 - k) 0 ?_ ?_
 ·exact ⟨rfl, by omega, p3, by omega, p6, by omega, p9, by omega, C_w7⟩
 rintro k f11 w10 ⟨e12, hk, p3, hu_b2, p6, hu_b5, p9, hu_b8, C_w10⟩
 have ob_14 : ∃ g_, f11 = upd g_ 5 (i64 (k : Nat)) := ⟨f11, upd_id e12⟩
 obtain ⟨f13, rfl⟩ := ob_14
 clear e12
 have hs_w10 : w.heap.size ≤ w10.heap.size := Chg.size C_w10
 refine go_seq ?_
 refine go_region 1 rfl rfl ?_
 refine s_val rfl rfl (r_lss rfl rfl) rfl ?_
 refine s_end ?_
 refine go_seq ?_
 refine go_ifb _ rfl (fun h => ?_) (fun h => ?_)
 ·first | replace h := dcT h | replace h := dcF (nt h) | skip
  refine go_skip ?_
  refine go_seq ?_
  refine go_block ?_
  refine go_seq ?_
  refine go_region 2 rfl rfl ?_
  refine s_val rfl rfl (r_move) rfl ?_
  refine s_val rfl rfl (r_assign) rfl ?_
  refine s_end ?_
  refine go_region 12 rfl rfl ?_
  refine s_val rfl rfl (r_move) rfl ?_
  refine s_val rfl rfl (r_move) rfl ?_
  refine s_val rfl rfl (r_muli rfl rfl (by omega)) rfl ?_
  refine s_val rfl rfl (r_move) rfl ?_
  refine s_val rfl rfl (r_muli rfl rfl (by omega)) rfl ?_
  refine s_val rfl rfl (r_addi rfl rfl (by omega)) rfl ?_
  refine s_val rfl rfl (r_sliceA (l := (4 * k)) (h := ((4 * k) + 4)) (m := 64) Tryz.runUnderlying86 Tryz.sizeOf5 rfl ⟨_, _, rfl, by first | rfl | omega⟩ ⟨_, _, rfl, by first | rfl | omega⟩ rfl (by first | decide | (intro h_; cases h_)) (by first | decide | omega) (by first | decide | omega | (intro _; omega)) (by first | decide | omega) (by first | decide | omega)) rfl ?_
  refine s_val rfl rfl (r_toArr Tryz.runUnderlying104 rfl (by first | decide | omega)) rfl ?_
  refine s_val rfl rfl (r_loadN Tryz.isAgg104 Tryz.sizeOf104 rfl (Rd.subB p3.rd (4 * k) 4) (bs_len (by first | (simp; done) | (simp; omega)))) rfl ?_
  refine s_do rfl rfl (w_call Tryz.call123 rfl (word_spec _ _ (by first | omega | (simp; try omega)))) rfl ?_
  rintro _ w15 ⟨rfl, c_w15⟩
  have hs_w15 : w10.heap.size ≤ w15.heap.size := Chg.size c_w15
  replace p3 := p3.k c_w15
  replace p6 := p6.k c_w15
  replace p9 := p9.k c_w15
  have C_w15 := Chg.pure C_w10 c_w15
  refine s_val rfl rfl (r_indexArr (k := k) Tryz.runUnderlying146 Tryz.sizeOf106 rfl rfl (by first | rfl | omega) (by first | decide | omega)) rfl ?_
  refine s_do rfl rfl (w_set_w (o := 0) (k := k) Tryz.sizeOf106 rfl rfl p9 (by first | omega | (simp; try omega))) rfl ?_
  rintro _ w16 ⟨q_w16, c_w16⟩
  have hs_w16 : w15.heap.size ≤ w16.heap.size := Chg.size c_w16
  replace p3 := p3.kb c_w16 (by omega)
  replace p6 := p6.kb c_w16 (by omega)
  have C_w16 := Chg.newRng C_w15 c_w16 (by omega)
  have p9 := q_w16
  refine s_end ?_
  refine go_nil (block_normal ?_)
  refine go_region 2 rfl rfl ?_
  refine s_val rfl rfl (r_addi rfl rfl (by omega)) rfl ?_
  refine s_val rfl rfl (r_move) rfl ?_
  refine s_end ?_
  refine go_nil (loop_normal ⟨⟨(k + 1), by first | omega | (dsimp only; omega), ⟨rfl, by omega, p3, by omega, p6, by omega, p9, by omega, C_w16⟩⟩, (by repeat (first | exact same_refl | exact same_over | refine same_upd rfl ?_ | refine same_over2 rfl ?_))⟩)
 ·first | replace h := dcF h | replace h := dcT (nf h) | skip
  have ob_17 : k = 16 := by omega
  obtain rfl := ob_17
  refine go_exit (loop_exit (block_hit ?_))
  refine go_seq ?_
  refine go_region 2 rfl rfl ?_
  refine s_val rfl rfl (r_loadN Tryz.isAgg146 Tryz.sizeOf146 rfl p9.rd (by first | exact ws_len (by omega) | exact ws_len (by simp; done) | exact ws_len (by simp; omega))) rfl ?_
  refine s_do rfl rfl (w_storeA (o := 0) Tryz.sizeOf146 rfl rfl (by first | exact ws_len (by omega) | exact ws_len (by simp; done) | exact ws_len (by simp; omega)) (flat_ws _) p6 (by first | exact ws_len (by omega) | exact ws_len (by simp; done) | exact ws_len (by simp; omega))) rfl ?_
  rintro _ w18 ⟨q_w18, c_w18⟩
  have hs_w18 : w10.heap.size ≤ w18.heap.size := Chg.size c_w18
  replace p3 := p3.kb c_w18 (by omega)
  replace p9 := p9.kb c_w18 (by omega)
  have C_w18 := Chg.newRng C_w10 c_w18 (by omega)
  have p6 := q_w18
  refine s_end ?_
  refine go_ret ?_
  refine ⟨_, .cons ⟨_, rfl, run_load_agg Tryz.isAgg146 Tryz.sizeOf146 (by first | exact ws_len (by omega) | exact ws_len (by simp; done) | exact ws_len (by simp; omega)) p6.rd⟩ (.nil), ?_⟩
  exact ⟨rfl, C_w18⟩
theorem stateB_spec (W : List UInt32) (w : World) (hl : W.length = 16) :
  Rtn Tryz.prog 122 [.agg (ws W).toArray].toArray w (fun v w' => v = .agg (bs (stateBTo W 16)).toArray ∧ Kept w w') := by
 refine fn_body (l := [.agg (ws W).toArray]) 21 [.cell 2 86] Tryz.func122 rfl Tryz.ntmps122 (Nat.le_of_ble_eq_true rfl) (by rw [Tryz.results122]) ?_
 refine go_seq ?_
 refine go_region 2 rfl rfl ?_
 refine s_do rfl rfl (w_boxA rfl) rfl ?_
 rintro _ w1 ⟨b2, rfl, hl_b2, hu_b2, p3, c_w1⟩
 have hs_w1 : w.heap.size ≤ w1.heap.size := Chg.size c_w1
 have C_w1 := Chg.pure (Chg.refl no w) c_w1
 have hn_b2 : w.heap.size ≤ b2 := by have := Chg.size C_w1; omega
 refine s_do rfl rfl (w_alloc (bs (List.replicate 64 0)) Tryz.zeroValue86 (by kernel_rfl)) rfl ?_
 rintro _ w4 ⟨b5, rfl, hl_b5, hu_b5, p6, c_w4⟩
 have hs_w4 : w1.heap.size ≤ w4.heap.size := Chg.size c_w4
 replace p3 := p3.k c_w4
 have C_w4 := Chg.pure C_w1 c_w4
 have hn_b5 : w.heap.size ≤ b5 := by have := Chg.size C_w4; omega
 refine s_end ?_
 refine go_seq ?_
 refine go_region 1 rfl rfl ?_
 refine s_do rfl rfl (w_alloc (bs (List.replicate 64 0)) Tryz.zeroValue86 (by kernel_rfl)) rfl ?_
 rintro _ w7 ⟨b8, rfl, hl_b8, hu_b8, p9, c_w7⟩
 have hs_w7 : w4.heap.size ≤ w7.heap.size := Chg.size c_w7
 replace p3 := p3.k c_w7
 replace p6 := p6.k c_w7
 have C_w7 := Chg.pure C_w4 c_w7
 have hn_b8 : w.heap.size ≤ b8 := by have := Chg.size C_w7; omega
 refine s_end ?_
 refine go_seq ?_
 refine go_seq ?_
 refine go_region 2 rfl rfl ?_
 refine s_val rfl rfl (r_loadN Tryz.isAgg146 Tryz.sizeOf146 rfl p3.rd (by first | exact ws_len (by omega) | exact ws_len (by simp; done) | exact ws_len (by simp; omega))) rfl ?_
 refine s_val rfl rfl (r_move) rfl ?_
 refine s_end ?_
 refine go_block ?_
 refine go_loopM (σ := Nat) [(4, 6), (8, 19)] (fun (k : Nat) e' w' => e' 8 = i64 (k : Nat) ∧ k ≤ 16 ∧ Pc w' b5 0 (bs (List.replicate 64 0)) ∧ b5 < w'.heap.size ∧ Pc w' b8 0 (bs (stateBTo W k)) ∧ b8 < w'.heap.size ∧ Chg no w w') (fun (k : Nat) => 16 - k) 0 ?_ ?_
 ·exact ⟨rfl, by omega, p6, by omega, p9, by omega, C_w7⟩
 rintro k f11 w10 ⟨e12, hk, p6, hu_b5, p9, hu_b8, C_w10⟩
 have ob_14 : ∃ g_, f11 = upd g_ 8 (i64 (k : Nat)) := ⟨f11, upd_id e12⟩
 obtain ⟨f13, rfl⟩ := ob_14
 clear e12
 have hs_w10 : w.heap.size ≤ w10.heap.size := Chg.size C_w10
 have hw := stateBTo_length W k hk
 refine go_seq ?_
 refine go_region 1 rfl rfl ?_
 refine s_val rfl rfl (r_lss rfl rfl) rfl ?_
 refine s_end ?_
 refine go_seq ?_
 refine go_ifb _ rfl (fun h => ?_) (fun h => ?_)
 ·first | replace h := dcT h | replace h := dcF (nt h) | skip
  refine go_skip ?_
  refine go_seq ?_
  refine go_block ?_
  refine go_seq ?_
  refine go_region 4 rfl rfl ?_
  refine s_val rfl rfl (r_move) rfl ?_
  refine s_val rfl rfl (r_indexAgg (k := k) Tryz.runUnderlying146 Tryz.isAgg106 Tryz.sizeOf106 rfl rfl (by first | rfl | omega) (by first | decide | omega) (ws_get (by first | omega | (simp; try omega)))) rfl ?_
  refine s_val rfl rfl (r_assign) rfl ?_
  refine s_val rfl rfl (r_assign) rfl ?_
  refine s_end ?_
  refine go_seq ?_
  refine go_region 4 rfl rfl ?_
  refine s_val rfl rfl (r_move) rfl ?_
  refine s_do rfl rfl (w_call Tryz.call60 rfl (oct4_spec _ _)) rfl ?_
  rintro _ w15 ⟨rfl, c_w15⟩
  have hs_w15 : w10.heap.size ≤ w15.heap.size := Chg.size c_w15
  replace p6 := p6.k c_w15
  replace p9 := p9.k c_w15
  have C_w15 := Chg.pure C_w10 c_w15
  refine s_do rfl rfl (w_alloc (bs (List.replicate 4 0)) Tryz.zeroValue104 (by kernel_rfl)) rfl ?_
  rintro _ w16 ⟨b17, rfl, hl_b17, hu_b17, p18, c_w16⟩
  have hs_w16 : w15.heap.size ≤ w16.heap.size := Chg.size c_w16
  replace p6 := p6.k c_w16
  replace p9 := p9.k c_w16
  have C_w16 := Chg.pure C_w15 c_w16
  have hn_b17 : w.heap.size ≤ b17 := by have := Chg.size C_w16; omega
  refine s_do rfl rfl (w_storeA (o := 0) Tryz.sizeOf104 rfl rfl (bs_len (by first | omega | (simp; try omega))) (flat_bs _) p18 (bs_len (by first | omega | (simp; try omega)))) rfl ?_
  rintro _ w19 ⟨q_w19, c_w19⟩
  have hs_w19 : w16.heap.size ≤ w19.heap.size := Chg.size c_w19
  replace p6 := p6.kb c_w19 (by omega)
  replace p9 := p9.kb c_w19 (by omega)
  have C_w19 := Chg.newRng C_w16 c_w19 (by omega)
  have p18 := q_w19
  refine s_end ?_
  refine go_drawsE 4 (.take 0 (.take 1 (.take 2 (.take 3 (.eff 4 .done))))) (by kernel_rfl) (by kernel_rfl) fun w20 c_w20 => ?_
  have hs_w20 : w19.heap.size ≤ w20.heap.size := Chg.size c_w20
  replace p6 := p6.k c_w20
  replace p9 := p9.k c_w20
  replace p18 := p18.k c_w20
  have C_w20 := Chg.pure C_w19 c_w20
  refine s_takeE rfl rfl (r_move) ?_
  refine s_takeE rfl rfl (r_muli rfl rfl (by omega)) ?_
  refine s_takeE rfl rfl (r_sliceA (l := (4 * k)) (h := 64) (m := 64) Tryz.runUnderlying86 Tryz.sizeOf5 rfl ⟨_, _, rfl, by first | rfl | omega⟩ rfl rfl (by first | decide | (intro h_; cases h_)) (by first | decide | omega) (by first | decide | omega | (intro _; omega)) (by first | decide | omega) (by first | decide | omega)) ?_
  refine s_takeE rfl rfl (r_sliceA (l := 0) (h := 4) (m := 4) Tryz.runUnderlying104 Tryz.sizeOf5 rfl rfl rfl rfl (by first | decide | (intro h_; cases h_)) (by first | decide | omega) (by first | decide | omega | (intro _; omega)) (by first | decide | omega) (by first | decide | omega)) ?_
  refine s_do rfl rfl (w_copy_b (o := 0) (lo := (4 * k)) Tryz.underlying55 (by kernel_rfl) rfl rfl p9 (by first | omega | (simp; try omega)) (SlAt.some p18.rd) (by first | rfl | omega | (simp; done) | (simp; omega))) rfl ?_
  rintro _ w21 ⟨rfl, q_w21, c_w21⟩
  have hs_w21 : w20.heap.size ≤ w21.heap.size := Chg.size c_w21
  replace p6 := p6.kb c_w21 (by omega)
  replace p18 := p18.kb c_w21 (by omega)
  have C_w21 := Chg.newRng C_w20 c_w21 (by omega)
  have p9 := q_w21
  refine s_end ?_
  refine go_nil (block_normal ?_)
  refine go_region 2 rfl rfl ?_
  refine s_val rfl rfl (r_addi rfl rfl (by omega)) rfl ?_
  refine s_val rfl rfl (r_move) rfl ?_
  refine s_end ?_
  refine go_nil (loop_normal ⟨⟨(k + 1), by first | omega | (dsimp only; omega), ⟨rfl, by omega, p6, by omega, p9, by omega, C_w21⟩⟩, (by repeat (first | exact same_refl | exact same_over | refine same_upd rfl ?_ | refine same_over2 rfl ?_))⟩)
 ·first | replace h := dcF h | replace h := dcT (nf h) | skip
  have ob_22 : k = 16 := by omega
  obtain rfl := ob_22
  refine go_exit (loop_exit (block_hit ?_))
  refine go_seq ?_
  refine go_region 2 rfl rfl ?_
  refine s_val rfl rfl (r_loadN Tryz.isAgg86 Tryz.sizeOf86 rfl p9.rd (bs_len (by first | omega | (simp; try omega)))) rfl ?_
  refine s_do rfl rfl (w_storeA (o := 0) Tryz.sizeOf86 rfl rfl (bs_len (by first | omega | (simp; try omega))) (flat_bs _) p6 (bs_len (by first | omega | (simp; try omega)))) rfl ?_
  rintro _ w23 ⟨q_w23, c_w23⟩
  have hs_w23 : w10.heap.size ≤ w23.heap.size := Chg.size c_w23
  replace p9 := p9.kb c_w23 (by omega)
  have C_w23 := Chg.newRng C_w10 c_w23 (by omega)
  have p6 := q_w23
  refine s_end ?_
  refine go_ret ?_
  refine ⟨_, .cons ⟨_, rfl, run_load_agg Tryz.isAgg86 Tryz.sizeOf86 (bs_len (by first | omega | (simp; try omega))) p6.rd⟩ (.nil), ?_⟩
  exact ⟨rfl, C_w23⟩
theorem stirB_spec (s : List UInt8) (w : World) (hl : s.length = 64) :
  Rtn Tryz.prog 114 [.agg (bs s).toArray].toArray w (fun v w' => v = .agg (bs (stirB s)).toArray ∧ Kept w w') := by
 refine fn_body (l := [.agg (bs s).toArray]) 37 [.cell 2 86] Tryz.func114 rfl Tryz.ntmps114 (Nat.le_of_ble_eq_true rfl) (by rw [Tryz.results114]) ?_
 refine go_seq ?_
 refine go_region 2 rfl rfl ?_
 refine s_do rfl rfl (w_boxA rfl) rfl ?_
 rintro _ w1 ⟨b2, rfl, hl_b2, hu_b2, p3, c_w1⟩
 have hs_w1 : w.heap.size ≤ w1.heap.size := Chg.size c_w1
 have C_w1 := Chg.pure (Chg.refl no w) c_w1
 have hn_b2 : w.heap.size ≤ b2 := by have := Chg.size C_w1; omega
 refine s_do rfl rfl (w_alloc (bs (List.replicate 64 0)) Tryz.zeroValue86 (by kernel_rfl)) rfl ?_
 rintro _ w4 ⟨b5, rfl, hl_b5, hu_b5, p6, c_w4⟩
 have hs_w4 : w1.heap.size ≤ w4.heap.size := Chg.size c_w4
 replace p3 := p3.k c_w4
 have C_w4 := Chg.pure C_w1 c_w4
 have hn_b5 : w.heap.size ≤ b5 := by have := Chg.size C_w4; omega
 refine s_end ?_
 refine go_seq ?_
 refine go_region 4 rfl rfl ?_
 refine s_val rfl rfl (r_loadN Tryz.isAgg86 Tryz.sizeOf86 rfl p3.rd (bs_len (by first | omega | (simp; try omega)))) rfl ?_
 refine s_do rfl rfl (w_call Tryz.call119 rfl (wordsB_spec _ _ (by first | omega | (simp; try omega)))) rfl ?_
 rintro _ w7 ⟨rfl, c_w7⟩
 have hs_w7 : w4.heap.size ≤ w7.heap.size := Chg.size c_w7
 replace p3 := p3.k c_w7
 replace p6 := p6.k c_w7
 have C_w7 := Chg.pure C_w4 c_w7
 refine s_do rfl rfl (w_alloc (ws (List.replicate 16 0)) Tryz.zeroValue146 (by kernel_rfl)) rfl ?_
 rintro _ w8 ⟨b9, rfl, hl_b9, hu_b9, p10, c_w8⟩
 have hs_w8 : w7.heap.size ≤ w8.heap.size := Chg.size c_w8
 replace p3 := p3.k c_w8
 replace p6 := p6.k c_w8
 have C_w8 := Chg.pure C_w7 c_w8
 have hn_b9 : w.heap.size ≤ b9 := by have := Chg.size C_w8; omega
 refine s_do rfl rfl (w_storeA (o := 0) Tryz.sizeOf146 rfl rfl (by first | exact ws_len (by omega) | exact ws_len (by simp; done) | exact ws_len (by simp; omega)) (flat_ws _) p10 (by first | exact ws_len (by omega) | exact ws_len (by simp; done) | exact ws_len (by simp; omega))) rfl ?_
 rintro _ w11 ⟨q_w11, c_w11⟩
 have hs_w11 : w8.heap.size ≤ w11.heap.size := Chg.size c_w11
 replace p3 := p3.kb c_w11 (by omega)
 replace p6 := p6.kb c_w11 (by omega)
 have C_w11 := Chg.newRng C_w8 c_w11 (by omega)
 have p10 := q_w11
 refine s_end ?_
 refine go_seq ?_
 refine go_seq ?_
 refine go_region 1 rfl rfl ?_
 refine s_val rfl rfl (r_move) rfl ?_
 refine s_end ?_
 refine go_block ?_
 refine go_loopM (σ := Nat) [(4, 5), (8, 34)] (fun (r : Nat) e' w' => e' 8 = i64 (r : Nat) ∧ r ≤ 8 ∧ Pc w' b5 0 (bs (List.replicate 64 0)) ∧ b5 < w'.heap.size ∧ Pc w' b9 0 (ws (stirBTo (wordsBTo s 16) r)) ∧ b9 < w'.heap.size ∧ Chg no w w') (fun (r : Nat) => 8 - r) 0 ?_ ?_
 ·exact ⟨rfl, by omega, p6, by omega, p10, by omega, C_w11⟩
 rintro r f13 w12 ⟨e14, hr, p6, hu_b5, p10, hu_b9, C_w12⟩
 have ob_16 : ∃ g_, f13 = upd g_ 8 (i64 (r : Nat)) := ⟨f13, upd_id e14⟩
 obtain ⟨f15, rfl⟩ := ob_16
 clear e14
 have hs_w12 : w.heap.size ≤ w12.heap.size := Chg.size C_w12
 refine go_seq ?_
 refine go_region 1 rfl rfl ?_
 refine s_val rfl rfl (r_lss rfl rfl) rfl ?_
 refine s_end ?_
 refine go_seq ?_
 refine go_ifb _ rfl (fun h => ?_) (fun h => ?_)
 ·first | replace h := dcT h | replace h := dcF (nt h) | skip
  refine go_skip ?_
  refine go_seq ?_
  refine go_block ?_
  refine go_seq ?_
  refine go_region 2 rfl rfl ?_
  refine s_val rfl rfl (r_move) rfl ?_
  refine s_val rfl rfl (r_assign) rfl ?_
  refine s_end ?_
  refine go_seq ?_
  refine go_region 1 rfl rfl ?_
  refine s_val rfl rfl (r_move) rfl ?_
  refine s_end ?_
  refine go_block ?_
  refine go_loopM (σ := Nat) [(5, 5), (11, 33)] (fun (i : Nat) e' w' => e' 11 = i64 (i : Nat) ∧ i ≤ 16 ∧ Pc w' b5 0 (bs (List.replicate 64 0)) ∧ b5 < w'.heap.size ∧ Pc w' b9 0 (ws (roundBTo r (stirBTo (wordsBTo s 16) r) i)) ∧ b9 < w'.heap.size ∧ Chg no w w') (fun (i : Nat) => 16 - i) 0 ?_ ?_
  ·exact ⟨rfl, by omega, p6, by omega, p10, by omega, C_w12⟩
  rintro i f18 w17 ⟨e19, hi, p6, hu_b5, p10, hu_b9, C_w17⟩
  have ob_21 : ∃ g_, f18 = upd g_ 11 (i64 (i : Nat)) := ⟨f18, upd_id e19⟩
  obtain ⟨f20, rfl⟩ := ob_21
  clear e19
  have hs_w17 : w.heap.size ≤ w17.heap.size := Chg.size C_w17
  refine go_seq ?_
  refine go_region 1 rfl rfl ?_
  refine s_val rfl rfl (r_lss rfl rfl) rfl ?_
  refine s_end ?_
  refine go_seq ?_
  refine go_ifb _ rfl (fun h2 => ?_) (fun h2 => ?_)
  ·first | replace h2 := dcT h2 | replace h2 := dcF (nt h2) | skip
   refine go_skip ?_
   refine go_seq ?_
   refine go_block ?_
   refine go_seq ?_
   refine go_region 2 rfl rfl ?_
   refine s_val rfl rfl (r_move) rfl ?_
   refine s_val rfl rfl (r_assign) rfl ?_
   refine s_end ?_
   refine go_seq ?_
   refine go_drawsK 6 (.take 0 (.take 1 (.take 2 (.take 3 (.take 4 (.eff 5 (.eff 6 (.eff 7 (.eff 8 .done))))))))) (by kernel_rfl) (by kernel_rfl) fun w22 c_w22 => ?_
   have hs_w22 : w17.heap.size ≤ w22.heap.size := Chg.size c_w22
   replace p6 := p6.k c_w22
   replace p10 := p10.k c_w22
   have C_w22 := Chg.pure C_w17 c_w22
   have p6_0 := p6
   have p10_0 := p10
   refine s_takeK rfl rfl (w0 := w22) (fun x_ c_ => r_move) ?_
   refine s_takeK rfl rfl (w0 := w22) (fun x_ c_ => r_indexArr (k := i) Tryz.runUnderlying146 Tryz.sizeOf106 rfl rfl (by first | rfl | omega) (by first | decide | omega)) ?_
   refine s_takeK rfl rfl (w0 := w22) (fun x_ c_ => r_load1 Tryz.isAgg106 rfl (Rd.at1 (p10_0.k c_).rd (ws_get (by first | omega | (simp; try omega))))) ?_
   refine s_takeK rfl rfl (w0 := w22) (fun x_ c_ => r_move) ?_
   refine s_takeK rfl rfl (w0 := w22) (fun x_ c_ => r_move) ?_
   refine s_fxK rfl rfl (w_call Tryz.call120 rfl (turnB_spec _ _ _ _ _ (by first | omega | (simp; try omega)) p10 (by omega) (by omega) (by omega) (by omega))) ?_
   rintro _ w23 ⟨rfl, c_w23⟩
   have hs_w23 : w22.heap.size ≤ w23.heap.size := Chg.size c_w23
   replace p6 := p6.k c_w23
   replace p10 := p10.k c_w23
   have C_w23 := Chg.pure C_w22 c_w23
   have K_w23 := Chg.pure (Chg.refl no w22) c_w23
   refine ⟨K_w23, ?_⟩
   refine s_val rfl rfl (r_add32 rfl rfl) rfl ?_
   refine s_val rfl rfl (r_indexArr (k := i) Tryz.runUnderlying146 Tryz.sizeOf106 rfl rfl (by first | rfl | omega) (by first | decide | omega)) rfl ?_
   refine s_do rfl rfl (w_set_w (o := 0) (k := i) Tryz.sizeOf106 rfl rfl p10 (by first | omega | (simp; try omega))) rfl ?_
   rintro _ w24 ⟨q_w24, c_w24⟩
   have hs_w24 : w23.heap.size ≤ w24.heap.size := Chg.size c_w24
   replace p6 := p6.kb c_w24 (by omega)
   have C_w24 := Chg.newRng C_w23 c_w24 (by omega)
   have p10 := q_w24
   refine s_end ?_
   refine go_drawsK 9 (.take 0 (.take 1 (.take 2 (.take 3 (.take 4 (.take 5 (.take 6 (.take 7 (.eff 8 (.eff 9 (.eff 10 (.eff 11 .done)))))))))))) (by kernel_rfl) (by kernel_rfl) fun w25 c_w25 => ?_
   have hs_w25 : w24.heap.size ≤ w25.heap.size := Chg.size c_w25
   replace p6 := p6.k c_w25
   replace p10 := p10.k c_w25
   have C_w25 := Chg.pure C_w24 c_w25
   have p6_0 := p6
   have p10_0 := p10
   refine s_takeK rfl rfl (w0 := w25) (fun x_ c_ => r_move) ?_
   refine s_takeK rfl rfl (w0 := w25) (fun x_ c_ => r_addi rfl rfl (by omega)) ?_
   refine s_takeK rfl rfl (w0 := w25) (fun x_ c_ => r_remi rfl rfl (by omega) (by omega)) ?_
   refine s_takeK rfl rfl (w0 := w25) (fun x_ c_ => r_indexArr (k := ((i + 9) % 16)) Tryz.runUnderlying146 Tryz.sizeOf106 rfl rfl (by first | rfl | omega) (by first | decide | omega)) ?_
   refine s_takeK rfl rfl (w0 := w25) (fun x_ c_ => r_load1 Tryz.isAgg106 rfl (Rd.at1 (p10_0.k c_).rd (ws_get (by first | omega | (simp; try omega))))) ?_
   refine s_takeK rfl rfl (w0 := w25) (fun x_ c_ => r_move) ?_
   refine s_takeK rfl rfl (w0 := w25) (fun x_ c_ => r_indexArr (k := i) Tryz.runUnderlying146 Tryz.sizeOf106 rfl rfl (by first | rfl | omega) (by first | decide | omega)) ?_
   refine s_takeK rfl rfl (w0 := w25) (fun x_ c_ => r_load1 Tryz.isAgg106 rfl (Rd.at1 (p10_0.k c_).rd (ws_get (by first | omega | (simp; try omega))))) ?_
   refine s_fxK rfl rfl (w_call Tryz.call121 rfl (rotB_spec _ _ _)) ?_
   rintro _ w26 ⟨rfl, c_w26⟩
   have hs_w26 : w25.heap.size ≤ w26.heap.size := Chg.size c_w26
   replace p6 := p6.k c_w26
   replace p10 := p10.k c_w26
   have C_w26 := Chg.pure C_w25 c_w26
   have K_w26 := Chg.pure (Chg.refl no w25) c_w26
   refine ⟨K_w26, ?_⟩
   refine s_val rfl rfl (r_xor32 rfl rfl) rfl ?_
   refine s_val rfl rfl (r_indexArr (k := ((i + 9) % 16)) Tryz.runUnderlying146 Tryz.sizeOf106 rfl rfl (by first | rfl | omega) (by first | decide | omega)) rfl ?_
   refine s_do rfl rfl (w_set_w (o := 0) (k := ((i + 9) % 16)) Tryz.sizeOf106 rfl rfl p10 (by first | omega | (simp; try omega))) rfl ?_
   rintro _ w27 ⟨q_w27, c_w27⟩
   have hs_w27 : w26.heap.size ≤ w27.heap.size := Chg.size c_w27
   replace p6 := p6.kb c_w27 (by omega)
   have C_w27 := Chg.newRng C_w26 c_w27 (by omega)
   have p10 := q_w27
   refine s_end ?_
   refine go_nil (block_normal ?_)
   refine go_region 2 rfl rfl ?_
   refine s_val rfl rfl (r_addi rfl rfl (by omega)) rfl ?_
   refine s_val rfl rfl (r_move) rfl ?_
   refine s_end ?_
   refine go_nil (loop_normal ⟨⟨(i + 1), by first | omega | (dsimp only; omega), ⟨rfl, by omega, p6, by omega, p10, by omega, C_w27⟩⟩, (by repeat (first | exact same_refl | exact same_over | refine same_upd rfl ?_ | refine same_over2 rfl ?_))⟩)
  ·first | replace h2 := dcF h2 | replace h2 := dcT (nf h2) | skip
   have ob_28 : i = 16 := by omega
   obtain rfl := ob_28
   refine go_exit (loop_exit (block_hit ?_))
   refine go_nil (block_normal ?_)
   refine go_region 2 rfl rfl ?_
   refine s_val rfl rfl (r_addi rfl rfl (by omega)) rfl ?_
   refine s_val rfl rfl (r_move) rfl ?_
   refine s_end ?_
   refine go_nil (loop_normal ⟨⟨(r + 1), by first | omega | (dsimp only; omega), ⟨rfl, by omega, p6, by omega, p10, by omega, C_w17⟩⟩, (by repeat (first | exact same_refl | exact same_over | refine same_upd rfl ?_ | refine same_over2 rfl ?_))⟩)
 ·first | replace h := dcF h | replace h := dcT (nf h) | skip
  have ob_29 : r = 8 := by omega
  obtain rfl := ob_29
  refine go_exit (loop_exit (block_hit ?_))
  refine go_seq ?_
  refine go_region 3 rfl rfl ?_
  refine s_val rfl rfl (r_loadN Tryz.isAgg146 Tryz.sizeOf146 rfl p10.rd (by first | exact ws_len (by omega) | exact ws_len (by simp; done) | exact ws_len (by simp; omega))) rfl ?_
  refine s_do rfl rfl (w_call Tryz.call122 rfl (stateB_spec _ _ (by first | omega | (simp; try omega)))) rfl ?_
  rintro _ w30 ⟨rfl, c_w30⟩
  have hs_w30 : w12.heap.size ≤ w30.heap.size := Chg.size c_w30
  replace p6 := p6.k c_w30
  replace p10 := p10.k c_w30
  have C_w30 := Chg.pure C_w12 c_w30
  refine s_do rfl rfl (w_storeA (o := 0) Tryz.sizeOf86 rfl rfl (bs_len (by first | omega | (simp; try omega))) (flat_bs _) p6 (bs_len (by first | omega | (simp; try omega)))) rfl ?_
  rintro _ w31 ⟨q_w31, c_w31⟩
  have hs_w31 : w30.heap.size ≤ w31.heap.size := Chg.size c_w31
  replace p10 := p10.kb c_w31 (by omega)
  have C_w31 := Chg.newRng C_w30 c_w31 (by omega)
  have p6 := q_w31
  refine s_end ?_
  refine go_ret ?_
  refine ⟨_, .cons ⟨_, rfl, run_load_agg Tryz.isAgg86 Tryz.sizeOf86 (bs_len (by first | omega | (simp; try omega))) p6.rd⟩ (.nil), ?_⟩
  exact ⟨rfl, C_w31⟩
end Go.Proofs.YtippcmedgfmgbaaGreat
end
