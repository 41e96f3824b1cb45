/- YtippcmedgfmgbaaGreatP03: a calculus of walks, plain facts of the numbers that are shared, and contracts of functions of the program: called in any world that meets a contract's premises, a function returns what the contract says and changes no more than it says. -/
import Derived.Test.YtippcmedgfmgbaaGreatP02
import Derived.Maps.RangeRun
import Derived.DeepKeys3
import Derived.Lib.Bytealg
import Derived.ChangeSlices
section
namespace Go.Proofs.YtippcmedgfmgbaaGreat
theorem dotp_pows (x : F) : ∀ (l : List F) (c : F), dotp ((List.range l.length).map fun j => c * pw x j) l = c * ev l x
  | [], c => by simp only [List.length_nil, List.range_zero, List.map_nil, dotp, ev]; grind
  | a :: l, c => by
    have ih := dotp_pows x l (c * x)
    rw [List.length_cons, List.range_succ_eq_map, List.map_cons, List.map_map, dotp]
    have e : ((List.range l.length).map ((fun j => c * pw x j) ∘ Nat.succ)) = (List.range l.length).map fun j => c * x * pw x j := List.map_congr_left fun j _ => by
      show c * (pw x j * x) = c * x * pw x j
      generalize pw x j = q
      grind
    rw [e, ih]
    simp only [pw, ev]
    generalize ev l x = q
    grind
/-- q(x) - y e(x) = y x^w -/
def rowOf (need w : Nat) (t : F × F) : List F := ((List.range (need + w)).map fun j => pw t.1 j) ++ ((List.range w).map fun j => -t.2 * pw t.1 j) ++ [t.2 * pw t.1 w]
theorem rowOf_len (need w : Nat) (t : F × F) : (rowOf need w t).length = need + 2 * w + 1 := by simp [rowOf]; omega
theorem row_sol {need w : Nat} {t : F × F} {s : List F} (hs : s.length = need + 2 * w) : dotp (rowOf need w t) (s ++ [-1]) = 0 ↔ ev (s.take (need + w)) t.1 = t.2 * ev (s.drop (need + w) ++ [1]) t.1 := by
  have hq : (s.take (need + w)).length = need + w := by rw [List.length_take]; omega
  have he : (s.drop (need + w)).length = w := by rw [List.length_drop]; omega
  have e0 : s ++ [-1] = (s.take (need + w) ++ s.drop (need + w)) ++ [-1] := by rw [List.take_append_drop]
  have h1 := dotp_pows t.1 (s.take (need + w)) 1
  have h2 := dotp_pows t.1 (s.drop (need + w)) (-t.2)
  rw [hq] at h1
  rw [he] at h2
  have e1 : ((List.range (need + w)).map fun j => 1 * pw t.1 j) = (List.range (need + w)).map fun j => pw t.1 j := List.map_congr_left fun j _ => by
    generalize pw t.1 j = q
    grind
  rw [e1] at h1
  rw [e0, rowOf, dotp_app _ _ _ _ (by rw [List.length_append, List.length_append, hq, he]; simp), dotp_app _ _ _ _ (by rw [hq]; simp), h1, h2, ev_app, he]
  simp only [dotp, ev]
  generalize ev (s.take (need + w)) t.1 = u
  generalize ev (s.drop (need + w)) t.1 = v
  generalize pw t.1 w = z
  constructor
  · intro h; grind
  · intro h; grind
theorem sat_sol {need w : Nat} {pts : List (F × F)} {s : List F} : Sol need w pts s ↔ (s.length = need + 2 * w ∧ Sat s (pts.map (rowOf need w))) := by
  constructor
  · intro h
    refine ⟨h.len, fun i hi => ?_⟩
    rw [List.length_map] at hi
    have e : (pts.map (rowOf need w)).getD i [] = rowOf need w pts[i] := by simp [hi]
    rw [e]
    exact (row_sol h.len).2 (h.eq _ (List.getElem_mem hi))
  · rintro ⟨h1, h2⟩
    refine ⟨h1, fun t ht => ?_⟩
    obtain ⟨i, hi, rfl⟩ := List.getElem_of_mem ht
    have h3 := h2 i (by simpa using hi)
    have e : (pts.map (rowOf need w)).getD i [] = rowOf need w pts[i] := by simp [hi]
    rw [e] at h3
    exact (row_sol h1).1 h3
theorem divS_len (b : List F) (w : Nat) : ∀ (i : Nat) (rest : List F), (divS b w i rest).2.length = rest.length
  | 0, _ => rfl
  | i + 1, rest => by
    have ih := divS_len b w i (subAt rest i (rest.getD (i + w) 0) b)
    rw [subAt_len] at ih
    exact ih
def mendF (need w : Nat) (pts : List (F × F)) : Option (List F) :=
  match solveF pts.length (need + 2 * w) (pts.map (rowOf need w)) with
  | none => none
  | some s => if (divS (s.drop (need + w) ++ [1]) w need (s.take (need + w))).2.all fun v => decide (v = 0) then some (divS (s.drop (need + w) ++ [1]) w need (s.take (need + w))).1 else none
/-- what is mended is the polynomial that is off at no more than w -/
theorem mend_iff {need w : Nat} {pts : List (F × F)} (hn : (pts.map (·.1)).Nodup) (hm : need + 2 * w ≤ pts.length) (p : List F) : mendF need w pts = some p ↔ (p.length = need ∧ bad p pts ≤ w) := by
  have hsv := solve_spec (N := pts.length) (u := need + 2 * w) (rows := pts.map (rowOf need w)) (by simp) fun i hi => by
    have e : (pts.map (rowOf need w)).getD i [] = rowOf need w pts[i] := by simp [hi]
    rw [e, rowOf_len]
  unfold mendF
  constructor
  · intro h
    split at h
    · cases h
    · rename_i s hs
      have hS : Sol need w pts s := sat_sol.2 (hsv.1 s hs)
      split at h
      · rename_i hall
        have hz : (divS (s.drop (need + w) ++ [1]) w need (s.take (need + w))).2 = List.replicate (need + w) 0 := by
          refine List.eq_replicate_iff.2 ⟨?_, fun b hb => ?_⟩
          · rw [divS_len, List.length_take, hS.len]; omega
          · have := List.all_eq_true.1 hall b hb
            simpa using this
        cases h
        exact bw_sound hn hS (Prod.ext rfl hz)
      · cases h
  · rintro ⟨h1, h2⟩
    obtain ⟨s0, hs0⟩ := bw_complete h1 h2
    have h0 := sat_sol.1 hs0
    cases hsol : solveF pts.length (need + 2 * w) (pts.map (rowOf need w)) with
    | none => exact absurd h0.2 (hsv.2 hsol s0 h0.1)
    | some s =>
      have hS : Sol need w pts s := sat_sol.2 (hsv.1 s hsol)
      have hd := bw_found h1 h2 hn hm hS
      simp only [hd]
      rw [if_pos (List.all_eq_true.2 fun v hv => by rw [(List.mem_replicate.1 hv).2]; rfl)]
end Go.Proofs.YtippcmedgfmgbaaGreat
end
section
namespace Go.Proofs.YtippcmedgfmgbaaGreat
/- The value of the polynomial through points. -/
def prodTo (xs : List F) (i : Nat) (a : F) : Nat → F
  | 0 => 1
  | k + 1 => if k = i then prodTo xs i a k else prodTo xs i a k * (a - xs.getD k 0)
def lagTo (xs ys : List F) (a : F) : Nat → F
  | 0 => 0
  | i + 1 => lagTo xs ys a i + ys.getD i 0 * prodTo xs i a xs.length * fInv (prodTo xs i (xs.getD i 0) xs.length)
theorem prod_poly (xs : List F) (i : Nat) : ∀ k, ∃ m : List F, m.length = (if i < k then k else k + 1) ∧ ∀ a, ev m a = prodTo xs i a k
  | 0 => ⟨[1], by simp, fun a => by simp only [ev, prodTo]; grind⟩
  | k + 1 => by
    obtain ⟨m, h1, h2⟩ := prod_poly xs i k
    by_cases h : k = i
    · refine ⟨m, by rw [h1, if_neg (by omega), if_pos (by omega)], fun a => ?_⟩
      rw [prodTo, if_pos h]; exact h2 a
    · refine ⟨lin (xs.getD k 0) m, ?_, fun a => ?_⟩
      · rw [lin_len, h1]
        by_cases h3 : i < k
        · rw [if_pos h3, if_pos (by omega)]
        · rw [if_neg h3, if_neg (by omega)]
      · rw [lin_ev, prodTo, if_neg h, h2 a]
        generalize prodTo xs i a k = q
        grind
theorem lag_poly (xs ys : List F) : ∀ k, k ≤ xs.length → ∃ l : List F, l.length = xs.length ∧ ∀ a, ev l a = lagTo xs ys a k
  | 0, _ => ⟨List.replicate xs.length 0, by simp, fun a => ev_zeros a _⟩
  | k + 1, h => by
    obtain ⟨l, h1, h2⟩ := lag_poly xs ys k (by omega)
    obtain ⟨m, h3, h4⟩ := prod_poly xs k xs.length
    rw [if_pos (by omega)] at h3
    refine ⟨addL l (m.map fun v => ys.getD k 0 * fInv (prodTo xs k (xs.getD k 0) xs.length) * v), by rw [addL_len (by simp [h1, h3]), h1], fun a => ?_⟩
    rw [addL_ev a (by simp [h1, h3]), ev_scale, h2 a, h4 a, lagTo]
    generalize fInv (prodTo xs k (xs.getD k 0) xs.length) = u
    generalize prodTo xs k a xs.length = v
    generalize ys.getD k 0 = y
    grind
theorem prod_hit (xs : List F) {i j : Nat} (hij : j ≠ i) : ∀ k, j < k → prodTo xs i (xs.getD j 0) k = 0
  | 0, h => absurd h (Nat.not_lt_zero _)
  | k + 1, h => by
    rw [prodTo]
    by_cases h1 : j = k
    · rw [if_neg (by omega), ← h1]
      generalize prodTo xs i (xs.getD j 0) j = q
      grind
    · have ih := prod_hit xs hij k (by omega)
      rw [ih]
      split
      · rfl
      · grind
theorem prod_miss {xs : List F} (hn : xs.Nodup) {i : Nat} (hi : i < xs.length) : ∀ k, k ≤ xs.length → prodTo xs i (xs.getD i 0) k ≠ 0
  | 0, _ => by simp only [prodTo]; decide
  | k + 1, h => by
    have ih := prod_miss hn hi k (by omega)
    rw [prodTo]
    split
    · exact ih
    · rename_i hk
      intro h0
      rcases f_nz h0 with h1 | h1
      · exact ih h1
      · have e : xs.getD i 0 = xs.getD k 0 := by
          generalize xs.getD i 0 = u at *
          generalize xs.getD k 0 = v at *
          grind
        simp only [List.getD_eq_getElem?_getD, List.getElem?_eq_getElem hi, List.getElem?_eq_getElem (show k < xs.length by omega), Option.getD_some] at e
        rcases Nat.lt_or_ge i k with h2 | h2
        · exact List.pairwise_iff_getElem.1 hn i k hi (by omega) h2 e
        · exact List.pairwise_iff_getElem.1 hn k i (by omega) hi (by omega) e.symm
theorem lag_at {xs ys : List F} (hn : xs.Nodup) {j : Nat} (hj : j < xs.length) : ∀ k, k ≤ xs.length → lagTo xs ys (xs.getD j 0) k = if j < k then ys.getD j 0 else 0
  | 0, _ => by simp [lagTo]
  | k + 1, h => by
    have ih := lag_at (ys := ys) hn hj k (by omega)
    rw [lagTo, ih]
    by_cases h1 : j = k
    · subst h1
      rw [if_neg (by omega), if_pos (by omega)]
      have h2 := fInv_mul _ (prod_miss hn hj xs.length (Nat.le_refl _))
      generalize fInv (prodTo xs j (xs.getD j 0) xs.length) = u at *
      generalize prodTo xs j (xs.getD j 0) xs.length = v at *
      generalize ys.getD j 0 = y
      have e : 0 + y * v * u = y * (v * u) := by grind
      rw [e, h2]; grind
    · rw [prod_hit xs h1 xs.length hj]
      generalize fInv (prodTo xs k (xs.getD k 0) xs.length) = u
      generalize ys.getD k 0 = y
      by_cases h2 : j < k
      · rw [if_pos h2, if_pos (by omega)]; grind
      · rw [if_neg h2, if_neg (by omega)]; grind
/-- there is a polynomial through points -/
theorem through_exists {xs : List F} (ys : List F) (hn : xs.Nodup) : ∃ l : List F, l.length = xs.length ∧ (∀ j, j < xs.length → ev l (xs.getD j 0) = ys.getD j 0) ∧ ∀ a, ev l a = lagTo xs ys a xs.length := by
  obtain ⟨l, h1, h2⟩ := lag_poly xs ys xs.length (Nat.le_refl _)
  refine ⟨l, h1, fun j hj => ?_, h2⟩
  rw [h2, lag_at hn hj _ (Nat.le_refl _), if_pos hj]
/-- and it has these values -/
theorem lag_eq {xs ys p : List F} (hn : xs.Nodup) (hp : p.length = xs.length) (h : ∀ j, j < xs.length → ev p (xs.getD j 0) = ys.getD j 0) (a : F) : lagTo xs ys a xs.length = ev p a := by
  obtain ⟨l, h1, h2, h3⟩ := through_exists ys hn
  have : l = p := poly_eq (xs := xs) (by rw [h1, hp]) hn (by omega) fun x hx => by
    obtain ⟨j, hj, rfl⟩ := List.getElem_of_mem hx
    have e : xs[j] = xs.getD j 0 := by rw [List.getD_eq_getElem?_getD, List.getElem?_eq_getElem hj]; rfl
    rw [e, h2 j hj, h j hj]
  rw [← h3, this]
/-- OverOf's search -/
theorem over_unique {a b z : F} (hb : b ≠ 0) (h : z * b = a) : z = a * fInv b := by
  have h1 := fInv_mul b hb
  have : z = z * (b * fInv b) := by rw [h1]; grind
  rw [this, ← h]; grind
theorem over_mul {a b : F} (hb : b ≠ 0) : a * fInv b * b = a := by
  have h1 := fInv_mul b hb
  have : a * fInv b * b = a * (b * fInv b) := by grind
  rw [this, h1]; grind
end Go.Proofs.YtippcmedgfmgbaaGreat
end
section
open Go Go.Eng
namespace Go.Proofs.YtippcmedgfmgbaaGreat
/- Numbers mod 257 as ints. -/
abbrev fi (a : F) : Value := i64 ((a.val : Nat) : Int)
def fs (L : List F) : List Value := L.map fi
@[simp] theorem fs_length (L : List F) : (fs L).length = L.length := by simp [fs]
theorem fs_get {L : List F} {k : Nat} (h : k < L.length) : (fs L)[k]? = some (fi (L.getD k 0)) := by
  simp [fs, List.getD_eq_getElem?_getD, h]
theorem fs_ne {L : List F} (h : 0 < L.length) : fs L ≠ [] := fun e => by
  have := fs_length L
  rw [e, List.length_nil] at this
  omega
theorem fs_app (L M : List F) : fs (L ++ M) = fs L ++ fs M := by simp [fs]
theorem fs_set (L : List F) (k : Nat) (v : F) : fs (L.set k v) = (fs L).set k (fi v) := by simp [fs, List.map_set]
theorem fs_drop (L : List F) (k : Nat) : (fs L).drop k = fs (L.drop k) := by simp [fs, List.map_drop]
theorem fs_take (L : List F) (k : Nat) : (fs L).take k = fs (L.take k) := by simp [fs, List.map_take]
theorem flat_fs (L : List F) : Flat (fs L) := fun v hv => by
  simp only [fs, List.mem_map] at hv
  obtain ⟨x, _, rfl⟩ := hv
  rfl
theorem fs_rep (n : Nat) : List.replicate n (i64 0) = fs (List.replicate n 0) := by simp [fs]
theorem f_lt (a : F) : a.val < 257 := a.isLt
/-- the number mod 257 of an int -/
def fI (n : Int) : F := ⟨(n % 257).toNat, by omega⟩
theorem fI_val (n : Int) : ((fI n).val : Int) = n % 257 := by
  show (((n % 257).toNat : Nat) : Int) = _
  omega
theorem f_ext {a b : F} (h : (a.val : Int) = (b.val : Int)) : a = b := Fin.ext (by omega)
theorem fI_cast (a : F) : fI ((a.val : Nat) : Int) = a := f_ext (by rw [fI_val]; have := a.isLt; omega)
theorem fI_add (a b : Int) : fI (a + b) = fI a + fI b := f_ext (by
  rw [fI_val, Fin.val_add, Int.natCast_emod, Int.natCast_add, fI_val, fI_val]
  omega)
theorem fI_mul (a b : Int) : fI (a * b) = fI a * fI b := f_ext (by
  rw [fI_val, Fin.val_mul, Int.natCast_emod, Int.natCast_mul, fI_val, fI_val, Int.mul_emod]
  rfl)
theorem fI_sub (a b : Int) : fI (a - b) = fI a - fI b := by
  have h := fI_add (a - b) b
  rw [Int.sub_add_cancel] at h
  rw [h]
  grind
theorem fI_257 : fI 257 = 0 := rfl
theorem fI_0 : fI 0 = 0 := rfl
theorem fI_1 : fI 1 = 1 := rfl
theorem fI_small {n : Nat} (h : n < 257) : (fI (n : Int)).val = n := by have := fI_val (n : Int); omega
theorem fI_inj {m n : Nat} (hm : m < 257) (hn : n < 257) (h : fI (m : Int) = fI (n : Int)) : m = n := by
  rw [← fI_small hm, ← fI_small hn, h]
theorem mul_bd (a b : Int) (h1 : -257 ≤ a) (h2 : a ≤ 257) (h3 : -257 ≤ b) (h4 : b ≤ 257) : -66049 ≤ a * b ∧ a * b ≤ 66049 ∧ (0 ≤ a → 0 ≤ b → 0 ≤ a * b) := by
  have e : (a * b).natAbs ≤ 257 * 257 := by
    rw [Int.natAbs_mul]
    exact Nat.mul_le_mul (by omega) (by omega)
  exact ⟨by omega, by omega, fun h h' => Int.mul_nonneg h h'⟩
/-- slices of numbers -/
theorem SlAt.cutF_drop {w : World} {a : Option Addr} {l : List F} (h : SlAt w a (fs l)) (k m : Nat) (hm : l.length ≤ m) : SlAt w (cutA a k m 1) (fs (l.drop k)) := by
  have := h.cut k m 1 l.length (by rw [fs_length, Nat.mul_one]; exact hm)
  rwa [Nat.mul_one, fs_drop, fs_take, List.take_of_length_le (by simp)] at this
theorem SlAt.cutF_mid {w : World} {a : Option Addr} {l : List F} (h : SlAt w a (fs l)) (k n m : Nat) (hm : l.length ≤ m) : SlAt w (cutA a k m 1) (fs ((l.drop k).take (n - k))) := by
  have := h.cut k m 1 (n - k) (by rw [fs_length, Nat.mul_one]; exact hm)
  rwa [Nat.mul_one, fs_drop, fs_take] at this
theorem Owns.nilF {w : World} {B : Nat} {E : TypeId} {sz n : Nat} {v : Value} {X : List F} (h : Owns w B E sz v n ([] ++ fs X)) : Owns w B E sz v n (fs X) := h
theorem Owns.appF {w : World} {B : Nat} {E : TypeId} {sz n : Nat} {v : Value} {X Y : List F} (h : Owns w B E sz v n (fs X ++ fs Y)) : Owns w B E sz v n (fs (X ++ Y)) := by rw [fs_app]; exact h
/-- numbers in sixteen bits -/
abbrev uf (a : F) : Value := .int .u16 ((a.val : Nat) : Int)
def us (L : List F) : List Value := L.map uf
@[simp] theorem us_length (L : List F) : (us L).length = L.length := by simp [us]
theorem us_get {L : List F} {k : Nat} (h : k < L.length) : (us L)[k]? = some (uf (L.getD k 0)) := by
  simp [us, List.getD_eq_getElem?_getD, h]
theorem us_ne {L : List F} (h : 0 < L.length) : us L ≠ [] := fun e => by
  have := us_length L
  rw [e, List.length_nil] at this
  omega
theorem us_set (L : List F) (k : Nat) (v : F) : us (L.set k v) = (us L).set k (uf v) := by simp [us, List.map_set]
theorem flat_us (L : List F) : Flat (us L) := fun v hv => by
  simp only [us, List.mem_map] at hv
  obtain ⟨x, _, rfl⟩ := hv
  rfl
end Go.Proofs.YtippcmedgfmgbaaGreat
namespace Go.Eng
variable {P : Program} {w : World} {e : Env} {d : Option Nat} {ty : TypeId} {pos : String} {aft : Array Edge} {g : Option (Nat × Bool)}
open Go.Proofs.YtippcmedgfmgbaaGreat
section
variable {t t' : TypeId} {x y : Operand}
/-- a rest mod 257 -/
theorem r_remF {a : Int} {z : F} (hx : ev e x = i64 a) (hy : ev e y = i64 257) (ha : 0 ≤ a) (hz : fI a = z) : (execOp (ev e) ⟨d, .binOp .rem t x y t', ty, pos, aft, g⟩).run P w = .ok (.value (fi z)) w := by
  subst hz
  rw [r_remi hx hy ha (by omega)]
  have := fI_val a
  rw [show fi (fI a) = i64 (a % 257) by rw [← this]]
/-- a number in sixteen bits -/
theorem wrap_u16F (a : F) : IntKind.u16.wrap ((a.val : Nat) : Int) = ((a.val : Nat) : Int) := by
  have := a.isLt
  have h : ∀ n : Fin 257, IntKind.u16.wrap ((n.val : Nat) : Int) = ((n.val : Nat) : Int) := by decide +kernel
  exact h a
theorem r_conv_u16F {src dst : TypeId} {sd : TypeDesc} {a : F} {k : IntKind} (hs : ∀ w, (underlying src).run P w = .ok sd w) (hd : ∀ w, (underlying dst).run P w = .ok (.int .u16) w) (hx : ev e x = .int k ((a.val : Nat) : Int)) :
    (execOp (ev e) ⟨d, .convert src dst x, ty, pos, aft, g⟩).run P w = .ok (.value (uf a)) w := by rw [r_conv hs hd hx, wrap_u16F]
theorem r_conv_F {src dst : TypeId} {sd : TypeDesc} {a : F} {k : IntKind} (hs : ∀ w, (underlying src).run P w = .ok sd w) (hd : ∀ w, (underlying dst).run P w = .ok (.int .i64) w) (hx : ev e x = .int k ((a.val : Nat) : Int)) :
    (execOp (ev e) ⟨d, .convert src dst x, ty, pos, aft, g⟩).run P w = .ok (.value (fi a)) w := r_conv_i64 hs hd hx (by have := a.isLt; omega)
end
theorem w_set_f {T : TypeId} {x y : Operand} {b o k : Nat} {v : F} {l : List F} (hs : ∀ w, (sizeOf T).run P w = .ok 1 w) (hx : ev e x = .pointer (some ⟨b, o + k * 1, none⟩)) (hy : ev e y = fi v) (hp : Pc w b o (fs l)) (hk : k < l.length) :
    OpWp P ⟨d, .store T x y, ty, pos, aft, g⟩ e w (fun _ w' => Pc w' b o (fs (l.set k v)) ∧ Chg (rng b o l.length) w w') := by
  have := w_set_one (d := d) (ty := ty) (pos := pos) (aft := aft) (g := g) hs hx hy rfl rfl hp (by rw [fs_length]; exact hk)
  rw [← fs_set, fs_length] at this
  exact this
theorem w_set_u {T : TypeId} {x y : Operand} {b o k : Nat} {v : F} {l : List F} (hs : ∀ w, (sizeOf T).run P w = .ok 1 w) (hx : ev e x = .pointer (some ⟨b, o + k * 1, none⟩)) (hy : ev e y = uf v) (hp : Pc w b o (us l)) (hk : k < l.length) :
    OpWp P ⟨d, .store T x y, ty, pos, aft, g⟩ e w (fun _ w' => Pc w' b o (us (l.set k v)) ∧ Chg (rng b o l.length) w w') := by
  have := w_set_one (d := d) (ty := ty) (pos := pos) (aft := aft) (g := g) hs hx hy rfl rfl hp (by rw [us_length]; exact hk)
  rw [← us_set, us_length] at this
  exact this
end Go.Eng
namespace Go.Proofs.YtippcmedgfmgbaaGreat
theorem fI_tmod (n : Int) : fI (n.tmod 257) = fI n := by
  have h := Int.tmod_add_mul_tdiv n 257
  have e : fI n = fI (n.tmod 257 + 257 * n.tdiv 257) := by rw [h]
  rw [e, fI_add, fI_mul, fI_257]
  grind
theorem pw_sq (q : F) : ∀ n, pw (q * q) n = pw q (2 * n)
  | 0 => rfl
  | n + 1 => by rw [pw, pw_sq q n, show 2 * (n + 1) = 2 * n + 1 + 1 by omega, pw, pw]; grind
theorem over_start (b : F) : 1 * pw b 255 = fInv b := by unfold fInv; grind
theorem over_odd {p q b : F} {n : Nat} (h : p * pw q n = fInv b) (ho : n % 2 = 1) : (p * q) * pw (q * q) (n / 2) = fInv b := by
  rw [← h, pw_sq]
  conv => rhs; rw [show n = 2 * (n / 2) + 1 by omega, pw]
  grind
theorem over_even {p q b : F} {n : Nat} (h : p * pw q n = fInv b) (ho : n % 2 = 0) : p * pw (q * q) (n / 2) = fInv b := by
  rw [← h, pw_sq, show 2 * (n / 2) = n by omega]
theorem over_end {p q b : F} (h : p * pw q 0 = fInv b) : p = fInv b := by rw [← h, pw]; grind
theorem ev_drop (L : List F) (x : F) {k : Nat} (h0 : 0 < k) (hk : k ≤ L.length) : ev (L.drop (k - 1)) x = ev (L.drop k) x * x + L.getD (k - 1) 0 := by
  have e : L.drop (k - 1) = L.getD (k - 1) 0 :: L.drop k := by
    rw [List.drop_eq_getElem_cons (by omega), show k - 1 + 1 = k by omega, List.getD_eq_getElem?_getD, List.getElem?_eq_getElem (by omega)]; rfl
  rw [e, ev]
  grind
theorem ev_take (L : List F) (x : F) {k : Nat} (hk : k < L.length) : ev (L.take (k + 1)) x = ev (L.take k) x + L.getD k 0 * pw x k := by
  have e : L.take (k + 1) = L.take k ++ [L.getD k 0] := by
    rw [List.take_add_one, List.getD_eq_getElem?_getD, List.getElem?_eq_getElem hk]; rfl
  rw [e, ev_app, List.length_take, Nat.min_eq_left (by omega)]
  simp only [ev]
  grind
theorem overOf_step {a b : F} {k : Nat} (hz : ∀ j : Nat, j < k → fI (j : Int) * b ≠ a) (hne : fI ((k : Nat) : Int) * b ≠ a) : ∀ j : Nat, j < k + 1 → fI (j : Int) * b ≠ a := fun j hj => by
  rcases Nat.lt_or_ge j k with h | h
  · exact hz j h
  · obtain rfl : j = k := by omega
    exact hne
theorem overOf_none {a b : F} {k : Nat} (hb : b ≠ 0) (hz : ∀ j : Nat, j < k → fI (j : Int) * b ≠ a) (hk : 257 ≤ k) : False := by
  have := hz (a * fInv b).val (by have := (a * fInv b).isLt; omega)
  rw [fI_cast] at this
  exact this (over_mul hb)
theorem overOf_hit {a b : F} {k : Nat} (hb : b ≠ 0) (h : (((fI ((k : Nat) : Int) * b).val : Nat) : Int) = ((a.val : Nat) : Int)) (hk : k < 257) : i64 ((k : Nat) : Int) = fi (a * fInv b) := by
  rw [← over_unique hb (f_ext h)]
  show i64 ((k : Nat) : Int) = i64 (((fI ((k : Nat) : Int)).val : Nat) : Int)
  rw [fI_small hk]
end Go.Proofs.YtippcmedgfmgbaaGreat
namespace Go.Eng
theorem r_indexSlQ {P : Program} {w : World} {e : Env} {d : Option Nat} {ty : TypeId} {pos : String} {aft : Array Edge} {g : Option (Nat × Bool)} {t el : TypeId} {x y : Operand} {kk : IntKind} {i : Int} {k n c sz b o : Nat} (hu : ∀ w, (underlying t).run P w = .ok (.slice el) w) (hs : ∀ w, (sizeOf el).run P w = .ok sz w)
    (hx : ev e x = .slice (some ⟨b, o, none⟩) n c) (hy : ev e y = .int kk i) (hi : i = (k : Int)) (hk : k < n) : (execOp (ev e) ⟨d, .indexAddr t x y, ty, pos, aft, g⟩).run P w = .ok (.value (.pointer (some ⟨b, o + k * sz, none⟩))) w := by
  subst hi
  have h1 : (0 : Int) ≤ (k : Int) ∧ (k : Int) < (n : Int) := by omega
  simp only [execOp, hx, hy, Instr.indexAt, asIntOf, Sem.run_bind, hu, Result.andThen_ok, Sem.run_pure, h1, and_self, if_true, hs, Int.toNat_natCast]
  show Result.ok (Next.value (Value.pointer (some ((⟨b, o, none⟩ : Addr).add (k * sz))))) w = _
  rw [add_none]
end Go.Eng
end
section
open Go Go.Eng
namespace Go.Eng
open Go.Proofs.YtippcmedgfmgbaaGreat
variable {w w' : World}
/-- slices of numbers, which lie in blocks of a kind -/
def PolOk (Q : Nat → Prop) (w : World) (vs : List Value) (ps : List (List F)) : Prop :=
  ps.length = vs.length ∧ ∀ k, k < ps.length → ∃ a n c, vs[k]? = some (.slice a n c) ∧ (ps.getD k []).length = n ∧ n ≤ c ∧ (∀ x, a = some x → Q x.block ∧ x.block < w.heap.size) ∧ SlAt w a (fs (ps.getD k []))
theorem PolOk.kept {Q M : Nat → _} {vs : List Value} {ps : List (List F)} (h : PolOk Q w vs ps) (k : Chg M w w') (hm : ∀ b o, Q b → b < w.heap.size → ¬ M b o) : PolOk Q w' vs ps :=
  ⟨h.1, fun j hj => by
    obtain ⟨a, n, c, h1, h2, h3, h4, h5⟩ := h.2 j hj
    exact ⟨a, n, c, h1, h2, h3, fun x hx => ⟨(h4 x hx).1, Nat.lt_of_lt_of_le (h4 x hx).2 k.size⟩, h5.kept k fun b o ha _ _ => hm b _ (h4 _ ha).1 (h4 _ ha).2⟩⟩
theorem PolOk.k {Q : Nat → Prop} {vs : List Value} {ps : List (List F)} (h : PolOk Q w vs ps) (k : Kept w w') : PolOk Q w' vs ps := h.kept k fun _ _ _ _ => id
theorem PolOk.kb {Q : Nat → Prop} {vs : List Value} {ps : List (List F)} {b o n : Nat} (h : PolOk Q w vs ps) (k : Chg (rng b o n) w w') (hq : ¬ Q b) : PolOk Q w' vs ps := h.kept k fun b' _ hb _ m => hq (m.1 ▸ hb)
theorem PolOk.mono {Q Q' : Nat → Prop} {vs : List Value} {ps : List (List F)} (h : PolOk Q w vs ps) (hq : ∀ b, b < w.heap.size → Q b → Q' b) : PolOk Q' w vs ps :=
  ⟨h.1, fun j hj => by
    obtain ⟨a, n, c, h1, h2, h3, h4, h5⟩ := h.2 j hj
    exact ⟨a, n, c, h1, h2, h3, fun x hx => ⟨hq _ (h4 x hx).2 (h4 x hx).1, (h4 x hx).2⟩, h5⟩⟩
theorem PolOk.set {Q : Nat → Prop} {vs : List Value} {ps : List (List F)} (h : PolOk Q w vs ps) {k : Nat} {a : Option Addr} {n c : Nat} {p : List F} (hn : p.length = n) (hc : n ≤ c) (hq : ∀ x, a = some x → Q x.block ∧ x.block < w.heap.size) (hs : SlAt w a (fs p)) : PolOk Q w (vs.set k (.slice a n c)) (ps.set k p) :=
  ⟨by rw [List.length_set, List.length_set, h.1], fun j hj => by
    rw [List.length_set] at hj
    by_cases he : k = j
    · subst he
      have e1 : (vs.set k (.slice a n c))[k]? = some (.slice a n c) := List.getElem?_set_self (by rw [← h.1]; exact hj)
      have e2 : (ps.set k p).getD k [] = p := by rw [List.getD_eq_getElem?_getD, List.getElem?_set_self hj]; rfl
      exact ⟨a, n, c, e1, by rw [e2]; exact hn, hc, hq, by rw [e2]; exact hs⟩
    · obtain ⟨a', n', c', h1, h2, h3, h4, h5⟩ := h.2 j hj
      have e1 : (vs.set k (.slice a n c))[j]? = vs[j]? := List.getElem?_set_ne he
      have e2 : (ps.set k p).getD j [] = ps.getD j [] := by rw [List.getD_eq_getElem?_getD, List.getElem?_set_ne he, ← List.getD_eq_getElem?_getD]
      exact ⟨a', n', c', by rw [e1]; exact h1, by rw [e2]; exact h2, h3, h4, by rw [e2]; exact h5⟩⟩
theorem PolOk.start (Q : Nat → Prop) (n : Nat) : PolOk Q w (List.replicate n (.slice none 0 0)) (List.replicate n []) :=
  ⟨by simp, fun k hk => by
    have hk' : k < n := by simpa using hk
    refine ⟨none, 0, 0, by rw [List.getElem?_replicate]; simp [hk'], ?_, Nat.le_refl _, fun x hx => (by cases hx), ?_⟩
    · rw [List.getD_eq_getElem?_getD, List.getElem?_replicate]; simp [hk']
    · have : (List.replicate n ([] : List F)).getD k [] = [] := by rw [List.getD_eq_getElem?_getD, List.getElem?_replicate]; simp [hk']
      rw [this]
      exact .inl rfl⟩
/- ### rows of numbers, each in a block of its own -/
structure Rw where
  b : Nat
  c : Nat
  l : List F
def Rw.v (r : Rw) : Value := .slice (some ⟨r.b, 0, none⟩) r.l.length r.c
def rvals (R : List Rw) : List Value := R.map Rw.v
@[simp] theorem rvals_length (R : List Rw) : (rvals R).length = R.length := by simp [rvals]
def rw0 : Rw := ⟨0, 0, []⟩
theorem rvals_get {R : List Rw} {k : Nat} (h : k < R.length) : (rvals R)[k]? = some (R.getD k rw0).v := by
  simp [rvals, List.getD_eq_getElem?_getD, h]
theorem rvals_set (R : List Rw) (k : Nat) (r : Rw) : rvals (R.set k r) = (rvals R).set k r.v := by simp [rvals, List.map_set]
structure Mat (w : World) (u : Nat) (R : List Rw) : Prop where
  row : ∀ k, k < R.length → Pc w (R.getD k rw0).b 0 (fs (R.getD k rw0).l) ∧ (R.getD k rw0).l.length = u ∧ u ≤ (R.getD k rw0).c ∧ (R.getD k rw0).b < w.heap.size
  nd : ∀ i j, i < R.length → j < R.length → (R.getD i rw0).b = (R.getD j rw0).b → i = j
theorem Mat.kept {M : Nat → Nat → Prop} {u : Nat} {R : List Rw} (h : Mat w u R) (k : Chg M w w') (hm : ∀ i, i < R.length → ∀ o, ¬ M (R.getD i rw0).b o) : Mat w' u R :=
  ⟨fun i hi => by
    obtain ⟨h1, h2, h3, h4⟩ := h.row i hi
    exact ⟨h1.kept k fun _ _ => hm i hi _, h2, h3, Nat.lt_of_lt_of_le h4 k.size⟩, h.nd⟩
theorem Mat.k {u : Nat} {R : List Rw} (h : Mat w u R) (k : Kept w w') : Mat w' u R := h.kept k fun _ _ _ => id
theorem Mat.kb {u b o n : Nat} {R : List Rw} (h : Mat w u R) (k : Chg (rng b o n) w w') (hb : ∀ i, i < R.length → (R.getD i rw0).b ≠ b) : Mat w' u R := h.kept k fun i hi _ m => hb i hi m.1
theorem Mat.kob {u : Nat} {v : Value} {R : List Rw} (h : Mat w u R) (k : Chg (ob v) w w') (hb : ∀ i, i < R.length → some (R.getD i rw0).b ≠ v.ownBlock) : Mat w' u R := h.kept k fun i hi _ m => hb i hi m
theorem getD_set_sel {α : Type} {l : List α} {i : Nat} {v d : α} (h : i < l.length) : (l.set i v).getD i d = v := by
  rw [List.getD_eq_getElem?_getD, List.getElem?_set_self h]; rfl
theorem getD_set_oth {α : Type} {l : List α} {i j : Nat} {v d : α} (h : i ≠ j) : (l.set i v).getD j d = l.getD j d := by
  rw [List.getD_eq_getElem?_getD, List.getElem?_set_ne h, ← List.getD_eq_getElem?_getD]
/-- a number of a row is written -/
theorem Mat.put {u k j : Nat} {z : F} {R : List Rw} (h : Mat w u R) (hk : k < R.length) (c : Chg (rng (R.getD k rw0).b 0 (R.getD k rw0).l.length) w w') (hp : Pc w' (R.getD k rw0).b 0 (fs ((R.getD k rw0).l.set j z))) :
    Mat w' u (R.set k ⟨(R.getD k rw0).b, (R.getD k rw0).c, (R.getD k rw0).l.set j z⟩) := by
  refine ⟨fun i hi => ?_, fun i i2 hi hi2 he => ?_⟩
  · rw [List.length_set] at hi
    by_cases e : k = i
    · subst e
      rw [getD_set_sel hi]
      obtain ⟨h1, h2, h3, h4⟩ := h.row k hi
      exact ⟨hp, by rw [List.length_set]; exact h2, h3, Nat.lt_of_lt_of_le h4 c.size⟩
    · rw [getD_set_oth e]
      obtain ⟨h1, h2, h3, h4⟩ := h.row i hi
      exact ⟨h1.kb c fun hb => e (h.nd k i hk hi hb.symm), h2, h3, Nat.lt_of_lt_of_le h4 c.size⟩
  · rw [List.length_set] at hi hi2
    have key : ∀ i, ((R.set k ⟨(R.getD k rw0).b, (R.getD k rw0).c, (R.getD k rw0).l.set j z⟩).getD i rw0).b = (R.getD i rw0).b := fun i => by
      by_cases e : k = i
      · subst e
        rw [getD_set_sel hk]
      · rw [getD_set_oth e]
    rw [key, key] at he
    exact h.nd i i2 hi hi2 he
/-- two rows change places -/
def swapR (R : List Rw) (r k : Nat) : List Rw := (R.set r (R.getD k rw0)).set k (R.getD r rw0)
theorem swapR_length (R : List Rw) (r k : Nat) : (swapR R r k).length = R.length := by simp [swapR]
theorem swapR_get {R : List Rw} {r k : Nat} (hr : r < R.length) (hk : k < R.length) (i : Nat) : (swapR R r k).getD i rw0 = R.getD (if i = k then r else if i = r then k else i) rw0 := by
  unfold swapR
  by_cases h1 : i = k
  · subst h1
    rw [if_pos rfl, getD_set_sel (by rw [List.length_set]; exact hk)]
  · rw [if_neg h1, getD_set_oth (fun h => h1 h.symm)]
    by_cases h2 : i = r
    · subst h2
      rw [if_pos rfl, getD_set_sel hr]
    · rw [if_neg h2, getD_set_oth (fun h => h2 h.symm)]
theorem Mat.swap {u r k : Nat} {R : List Rw} (h : Mat w u R) (hr : r < R.length) (hk : k < R.length) : Mat w u (swapR R r k) := by
  have hs : ∀ i, i < R.length → (if i = k then r else if i = r then k else i) < R.length := fun i hi => by split <;> (try split) <;> omega
  refine ⟨fun i hi => ?_, fun i j hi hj he => ?_⟩
  · rw [swapR_length] at hi
    rw [swapR_get hr hk]
    exact h.row _ (hs i hi)
  · rw [swapR_length] at hi hj
    rw [swapR_get hr hk, swapR_get hr hk] at he
    have := h.nd _ _ (hs i hi) (hs j hj) he
    split at this <;> split at this <;> (try split at this) <;> (try split at this) <;> omega
theorem rvals_swap {R : List Rw} {r k : Nat} : rvals (swapR R r k) = ((rvals R).set r (R.getD k rw0).v).set k (R.getD r rw0).v := by
  rw [swapR, rvals_set, rvals_set]
end Go.Eng
end
section
namespace Go.Proofs.YtippcmedgfmgbaaGreat
/- What is mended out of shares, and what the reference finds by trying choices: the same. -/
structure Shr where
  h : List UInt8
  x : F
  y : List F
def ptsOf (S : List Shr) (o : Nat) : List (F × F) := S.map fun s => (s.x, s.y.getD o 0)
def liesP (ps : List (List F)) (s : Shr) : Bool := (List.range 32).all fun o => decide (ev (ps.getD o []) s.x = s.y.getD o 0)
def lagOf (by_ : List Shr) (o : Nat) (a : F) : F := lagTo (by_.map (·.x)) (by_.map fun s => s.y.getD o 0) a by_.length
def liesR (by_ : List Shr) (s : Shr) : Bool := (List.range 32).all fun o => decide (lagOf by_ o s.x = s.y.getD o 0)
structure GoodP (need wrong : Nat) (S : List Shr) (ps : List (List F)) : Prop where
  n : ps.length = 32
  len : ∀ o, o < 32 → (ps.getD o []).length = need
  bad : (S.filter fun s => !liesP ps s).length ≤ wrong
theorem filter_le {α : Type} {p q : α → Bool} (h : ∀ x, p x = true → q x = true) : ∀ l : List α, (l.filter p).length ≤ (l.filter q).length
  | [] => Nat.le_refl _
  | a :: l => by
    have ih := filter_le h l
    rw [List.filter_cons, List.filter_cons]
    split
    · rename_i h1
      rw [if_pos (h a h1), List.length_cons, List.length_cons]; omega
    · split
      · rw [List.length_cons]; omega
      · exact ih
theorem pts_bad (S : List Shr) (ps : List (List F)) {o : Nat} (ho : o < 32) : bad (ps.getD o []) (ptsOf S o) ≤ (S.filter fun s => !liesP ps s).length := by
  have e : bad (ps.getD o []) (ptsOf S o) = (S.filter fun s => decide (ev (ps.getD o []) s.x ≠ s.y.getD o 0)).length := by
    unfold bad ptsOf
    rw [List.filter_map, List.length_map]
    rfl
  rw [e]
  refine filter_le (fun s hs => ?_) S
  simp only [Bool.not_eq_true', liesP, List.all_eq_false]
  exact ⟨o, List.mem_range.2 ho, by simpa using hs⟩
theorem pts_nodup {S : List Shr} (hn : (S.map (·.x)).Nodup) (o : Nat) : ((ptsOf S o).map (·.1)).Nodup := by
  unfold ptsOf
  rw [List.map_map]
  exact hn
theorem good_mend {need wrong : Nat} {S : List Shr} {ps : List (List F)} (hn : (S.map (·.x)).Nodup) (hm : need + 2 * wrong ≤ S.length) (h : GoodP need wrong S ps) {o : Nat} (ho : o < 32) : mendF need wrong (ptsOf S o) = some (ps.getD o []) :=
  (mend_iff (pts_nodup hn o) (by simp [ptsOf]; exact hm) _).2 ⟨h.len o ho, Nat.le_trans (pts_bad S ps ho) h.bad⟩
/-- shares that lie on polynomials bear them -/
theorem lag_lies {need : Nat} {by_ : List Shr} {ps : List (List F)} (hb : by_.length = need) (hn : (by_.map (·.x)).Nodup) (hl : ∀ o, o < 32 → (ps.getD o []).length = need) (h : ∀ s ∈ by_, liesP ps s = true) {o : Nat} (ho : o < 32) (a : F) : lagOf by_ o a = ev (ps.getD o []) a := by
  have := lag_eq (xs := by_.map (·.x)) (ys := by_.map fun s => s.y.getD o 0) (p := ps.getD o []) hn (by rw [hl o ho, List.length_map, hb]) (fun j hj => by
    rw [List.length_map] at hj
    have hs := h by_[j] (List.getElem_mem hj)
    simp only [liesP, List.all_eq_true] at hs
    have := hs o (List.mem_range.2 ho)
    simp only [decide_eq_true_eq] at this
    simp only [List.getD_eq_getElem?_getD, List.getElem?_map, List.getElem?_eq_getElem hj, Option.map_some, Option.getD_some] at this ⊢
    exact this) a
  rw [List.length_map] at this
  exact this
theorem lies_lies {need : Nat} {by_ : List Shr} {ps : List (List F)} (hb : by_.length = need) (hn : (by_.map (·.x)).Nodup) (hl : ∀ o, o < 32 → (ps.getD o []).length = need) (h : ∀ s ∈ by_, liesP ps s = true) (s : Shr) : liesR by_ s = liesP ps s := by
  unfold liesR liesP
  rw [Bool.eq_iff_iff, List.all_eq_true, List.all_eq_true]
  constructor
  · intro h1 o ho
    have := h1 o ho
    rwa [lag_lies hb hn hl h (List.mem_range.1 ho)] at this
  · intro h1 o ho
    have := h1 o ho
    rwa [lag_lies hb hn hl h (List.mem_range.1 ho)]
/-- polynomials through shares -/
theorem through_by {by_ : List Shr} (hn : (by_.map (·.x)).Nodup) : ∃ ps : List (List F), ps.length = 32 ∧ (∀ o, o < 32 → (ps.getD o []).length = by_.length) ∧ ∀ s ∈ by_, liesP ps s = true := by
  have hex : ∀ o : Nat, ∃ l : List F, l.length = by_.length ∧ ∀ j, j < by_.length → ev l ((by_.map (·.x)).getD j 0) = (by_.map fun s => s.y.getD o 0).getD j 0 := fun o => by
    obtain ⟨l, h1, h2, _⟩ := through_exists (xs := by_.map (·.x)) (by_.map fun s => s.y.getD o 0) hn
    rw [List.length_map] at h1 h2
    exact ⟨l, h1, h2⟩
  refine ⟨(List.range 32).map fun o => (hex o).choose, by simp, fun o ho => ?_, fun s hs => ?_⟩
  · have e : ((List.range 32).map fun o => (hex o).choose).getD o [] = (hex o).choose := by
      rw [List.getD_eq_getElem?_getD, List.getElem?_map, List.getElem?_range ho]; rfl
    rw [e]
    exact (hex o).choose_spec.1
  · simp only [liesP, List.all_eq_true]
    intro o ho
    have ho := List.mem_range.1 ho
    have e : ((List.range 32).map fun o => (hex o).choose).getD o [] = (hex o).choose := by
      rw [List.getD_eq_getElem?_getD, List.getElem?_map, List.getElem?_range ho]; rfl
    rw [e]
    obtain ⟨j, hj, rfl⟩ := List.getElem_of_mem hs
    have h3 := (hex o).choose_spec.2 j hj
    have e1 : (by_.map (·.x)).getD j 0 = by_[j].x := by simp only [List.getD_eq_getElem?_getD, List.getElem?_map, List.getElem?_eq_getElem hj, Option.map_some, Option.getD_some]
    have e2 : (by_.map fun s => s.y.getD o 0).getD j 0 = by_[j].y.getD o 0 := by simp only [List.getD_eq_getElem?_getD, List.getElem?_map, List.getElem?_eq_getElem hj, Option.map_some, Option.getD_some]
    rw [e1, e2] at h3
    exact decide_eq_true h3
/-- the choices of shares, one by one -/
def okR (wrong : Nat) (S by_ : List Shr) : Bool := decide ((S.filter fun s => !liesR by_ s).length ≤ wrong)
def chooseF (need wrong : Nat) (S : List Shr) : List Shr → List Shr → Option (List Shr)
  | by_, [] => if by_.length = need then (if okR wrong S by_ then some by_ else none) else none
  | by_, s :: rest => if by_.length = need then (if okR wrong S by_ then some by_ else none) else
    match chooseF need wrong S (by_ ++ [s]) rest with
    | some X => some X
    | none => chooseF need wrong S by_ rest
theorem choose_some {need wrong : Nat} {S : List Shr} : ∀ {rest by_ X : List Shr}, chooseF need wrong S by_ rest = some X → X.length = need ∧ okR wrong S X = true ∧ ∃ Y, List.Sublist Y rest ∧ X = by_ ++ Y
  | [], by_, X, h => by
    rw [chooseF] at h
    split at h
    · split at h
      · rename_i h1 h2
        cases h
        exact ⟨h1, h2, [], List.Sublist.refl _, by simp⟩
      · cases h
    · cases h
  | s :: rest, by_, X, h => by
    rw [chooseF] at h
    split at h
    · split at h
      · rename_i h1 h2
        cases h
        exact ⟨h1, h2, [], List.nil_sublist _, by simp⟩
      · cases h
    · split at h
      · rename_i X' h1
        cases h
        obtain ⟨a, b, Y, hY, e⟩ := choose_some h1
        exact ⟨a, b, s :: Y, hY.cons_cons s, by rw [e]; simp⟩
      · obtain ⟨a, b, Y, hY, e⟩ := choose_some h
        exact ⟨a, b, Y, hY.cons s, e⟩
theorem choose_none {need wrong : Nat} {S : List Shr} : ∀ {rest by_ : List Shr}, chooseF need wrong S by_ rest = none → ∀ Y, List.Sublist Y rest → by_.length + Y.length = need → okR wrong S (by_ ++ Y) = false
  | [], by_, h, Y, hY, hl => by
    obtain rfl := List.sublist_nil.1 hY
    rw [chooseF, if_pos (by simpa using hl)] at h
    split at h
    · cases h
    · rename_i h2
      simpa using h2
  | s :: rest, by_, h, Y, hY, hl => by
    rw [chooseF] at h
    split at h
    · rename_i h1
      have : Y = [] := List.eq_nil_of_length_eq_zero (by omega)
      subst this
      split at h
      · cases h
      · rename_i h2
        simpa using h2
    · split at h
      · cases h
      · rename_i h1 h2
        cases hY with
        | cons _ hY => exact choose_none h Y hY hl
        | cons_cons _ hY =>
          rename_i Y'
          have := choose_none h2 Y' hY (by simp at hl ⊢; omega)
          simpa using this
theorem choose_good {need : Nat} {S X : List Shr} (hn : (S.map (·.x)).Nodup) (h : chooseF need ((S.length - need) / 2) S [] S = some X) : ∃ ps, GoodP need ((S.length - need) / 2) S ps ∧ (∀ s, liesR X s = liesP ps s) ∧ ∀ o, o < 32 → ∀ a, lagOf X o a = ev (ps.getD o []) a := by
  obtain ⟨h1, h2, Y, hY, e⟩ := choose_some h
  rw [List.nil_append] at e
  subst e
  have hn2 : (X.map (·.x)).Nodup := (hY.map _).nodup hn
  obtain ⟨ps, p1, p2, p3⟩ := through_by hn2
  rw [h1] at p2
  have hl := lies_lies h1 hn2 p2 p3
  refine ⟨ps, ⟨p1, p2, ?_⟩, hl, fun o ho a => lag_lies h1 hn2 p2 p3 ho a⟩
  have := of_decide_eq_true h2
  rw [show (fun s => !liesR X s) = fun s => !liesP ps s from funext fun s => by rw [hl s]] at this
  exact this
theorem good_choose {need : Nat} {S : List Shr} {ps : List (List F)} (hn : (S.map (·.x)).Nodup) (hnd : need ≤ S.length) (hg : GoodP need ((S.length - need) / 2) S ps) : chooseF need ((S.length - need) / 2) S [] S ≠ none := by
  intro h
  have hc := filter_two (fun s => !liesP ps s) S
  have hb := hg.bad
  have hsl : List.Sublist (S.filter fun s => !!liesP ps s) S := List.filter_sublist
  have hlen : need ≤ (S.filter fun s => !!liesP ps s).length := by omega
  have hY : List.Sublist ((S.filter fun s => !!liesP ps s).take need) S := (List.take_sublist _ _).trans hsl
  have hYl : ((S.filter fun s => !!liesP ps s).take need).length = need := by rw [List.length_take]; omega
  have hl : ∀ s ∈ (S.filter fun s => !!liesP ps s).take need, liesP ps s = true := fun s hs => by
    have := (List.mem_filter.1 (List.mem_of_mem_take hs)).2
    simpa using this
  have h1 := choose_none h _ hY (by simpa using hYl)
  have h2 := lies_lies hYl ((hY.map _).nodup hn) hg.len hl
  rw [List.nil_append] at h1
  have h3 := of_decide_eq_false h1
  rw [show (fun s => !liesR ((S.filter fun s => !!liesP ps s).take need) s) = fun s => !liesP ps s from funext fun s => by rw [h2 s]] at h3
  exact h3 hb
end Go.Proofs.YtippcmedgfmgbaaGreat
end
section
open Go Go.Eng
namespace Go.Eng
open Go.Proofs.YtippcmedgfmgbaaGreat
variable {w w' : World}
/- ### shares as cells -/
def scell (s : Shr) : List Value := bs s.h ++ (fi s.x :: us s.y)
def SOk (s : Shr) : Prop := s.h.length = 16 ∧ s.y.length = 32
theorem scell_len {s : Shr} (h : SOk s) : (scell s).length = 49 := by simp [scell, bs_length, h.1, h.2]
theorem flat_scell (s : Shr) : Flat (scell s) := flat_append (flat_bs _) (flat_cons rfl (flat_us _))
def scells (L : List Shr) : List Value := L.flatMap scell
def AllS (L : List Shr) : Prop := ∀ s ∈ L, SOk s
def shr0 : Shr := ⟨List.replicate 16 0, 0, List.replicate 32 0⟩
theorem shr0_ok : SOk shr0 := ⟨by simp [shr0], by simp [shr0]⟩
theorem scells_cons (s : Shr) (L : List Shr) : scells (s :: L) = scell s ++ scells L := by simp [scells]
theorem scells_app (L M : List Shr) : scells (L ++ M) = scells L ++ scells M := by simp [scells]
theorem scells_one (s : Shr) : scells [s] = scell s := by simp [scells]
theorem AllS.nil : AllS [] := fun _ h => by cases h
theorem AllS.app {L M : List Shr} (h : AllS L) (h2 : AllS M) : AllS (L ++ M) := fun x hx => by
  rcases List.mem_append.1 hx with hx | hx
  · exact h x hx
  · exact h2 x hx
theorem AllS.one {s : Shr} (h : SOk s) : AllS [s] := fun y hy => by simp at hy; subst hy; exact h
theorem AllS.tail {s : Shr} {L : List Shr} (h : AllS (s :: L)) : AllS L := fun x hx => h x (by simp [hx])
theorem AllS.get {L : List Shr} (h : AllS L) (k : Nat) : SOk (L.getD k shr0) := by
  rw [List.getD_eq_getElem?_getD]
  rcases Nat.lt_or_ge k L.length with hk | hk
  · rw [List.getElem?_eq_getElem hk]
    exact h _ (List.getElem_mem hk)
  · rw [List.getElem?_eq_none hk]; exact shr0_ok
theorem AllS.take {L : List Shr} (h : AllS L) (k : Nat) : AllS (L.take k) := fun x hx => h x (List.mem_of_mem_take hx)
theorem AllS.drop {L : List Shr} (h : AllS L) (k : Nat) : AllS (L.drop k) := fun x hx => h x (List.mem_of_mem_drop hx)
theorem AllS.set {L : List Shr} (h : AllS L) (k : Nat) {s : Shr} (hs : SOk s) : AllS (L.set k s) := fun x hx => by
  rcases List.mem_or_eq_of_mem_set hx with hx | hx
  · exact h x hx
  · subst hx; exact hs
theorem scells_len : ∀ {L : List Shr}, AllS L → (scells L).length = L.length * 49
  | [], _ => rfl
  | s :: L, h => by
    rw [scells_cons, List.length_append, scell_len (h s (by simp)), scells_len h.tail, List.length_cons]; omega
theorem flat_scells : ∀ L : List Shr, Flat (scells L)
  | [] => flat_nil
  | s :: L => by rw [scells_cons]; exact flat_append (flat_scell s) (flat_scells L)
theorem scells_ne {L : List Shr} (hL : AllS L) (h : 0 < L.length) : scells L ≠ [] := fun e => by
  have := scells_len hL
  rw [e, List.length_nil] at this
  omega
theorem scells_drop : ∀ {L : List Shr} (k : Nat), AllS L → (scells L).drop (k * 49) = scells (L.drop k)
  | [], k, _ => by simp [scells]
  | s :: L, 0, _ => by simp
  | s :: L, k + 1, h => by
    have hx := scell_len (h s (by simp))
    rw [scells_cons, List.drop_append, List.drop_eq_nil_of_le (by omega), List.nil_append, List.drop_succ_cons, ← scells_drop k h.tail, hx]
    congr 1; omega
theorem scells_take : ∀ {L : List Shr} (k : Nat), AllS L → (scells L).take (k * 49) = scells (L.take k)
  | [], k, _ => by simp [scells]
  | s :: L, 0, _ => by simp [scells]
  | s :: L, k + 1, h => by
    have hx := scell_len (h s (by simp))
    rw [scells_cons, List.take_append, List.take_of_length_le (by omega), List.take_succ_cons, scells_cons, ← scells_take k h.tail, hx]
    congr 2; omega
theorem scells_get {L : List Shr} (h : AllS L) {k : Nat} (hk : k < L.length) : ((scells L).drop (k * 49)).take 49 = scell (L.getD k shr0) := by
  have : L.drop k = L.getD k shr0 :: L.drop (k + 1) := by
    rw [List.drop_eq_getElem_cons hk, List.getD_eq_getElem?_getD, List.getElem?_eq_getElem hk]; rfl
  have hs := scell_len (h.get k)
  rw [scells_drop k h, this, scells_cons, List.take_append, List.take_of_length_le (by omega), hs]
  simp
/-- the cells of one share of many -/
theorem Rd.shr {b o k : Nat} {L : List Shr} (h : Rd w b o (scells L)) (hL : AllS L) (hk : k < L.length) : Rd w b (o + k * 49) (scell (L.getD k shr0)) := by
  have := h.sub (k * 49) 49
  rwa [scells_get hL hk] at this
theorem Pc.shr {b o k : Nat} {L : List Shr} (h : Pc w b o (scells L)) (hL : AllS L) (hk : k < L.length) : Pc w b (o + k * 49) (scell (L.getD k shr0)) := by
  have := h.sub (k * 49) 49
  rwa [scells_get hL hk] at this
theorem Rd.shrH {b o : Nat} {s : Shr} (h : Rd w b o (scell s)) : Rd w b o (bs s.h) := h.left
theorem Rd.shrX {b o : Nat} {s : Shr} (h : Rd w b o (scell s)) (hs : SOk s) : Rd w b (o + 16) [fi s.x] := by
  have := h.right
  rw [bs_length, hs.1] at this
  exact Rd.left (c1 := [fi s.x]) (c2 := us s.y) this
theorem Rd.shrY {b o : Nat} {s : Shr} (h : Rd w b o (scell s)) (hs : SOk s) : Rd w b (o + 17) (us s.y) := by
  have := h.right
  rw [bs_length, hs.1] at this
  exact Rd.right (c1 := [fi s.x]) (c2 := us s.y) this
theorem Pc.shrH {b o : Nat} {s : Shr} (h : Pc w b o (scell s)) : Pc w b o (bs s.h) := h.left
theorem Pc.shrX {b o : Nat} {s : Shr} (h : Pc w b o (scell s)) (hs : SOk s) : Pc w b (o + 16) [fi s.x] := by
  have := h.right
  rw [bs_length, hs.1] at this
  exact Pc.left (c1 := [fi s.x]) (c2 := us s.y) this
theorem Pc.shrY {b o : Nat} {s : Shr} (h : Pc w b o (scell s)) (hs : SOk s) : Pc w b (o + 17) (us s.y) := by
  have := h.right
  rw [bs_length, hs.1] at this
  exact Pc.right (c1 := [fi s.x]) (c2 := us s.y) this
/-- a value of a share is written -/
def _root_.Go.Proofs.YtippcmedgfmgbaaGreat.Shr.put (s : Shr) (j : Nat) (z : F) : Shr := ⟨s.h, s.x, s.y.set j z⟩
theorem _root_.Go.Proofs.YtippcmedgfmgbaaGreat.Shr.put_ok {s : Shr} (h : SOk s) (j : Nat) (z : F) : SOk (s.put j z) := ⟨h.1, by simp [Shr.put, h.2]⟩
theorem scell_put {s : Shr} (h : SOk s) (j : Nat) (z : F) : (scell s).set (17 + j) (uf z) = scell (s.put j z) := by
  unfold scell Shr.put
  rw [List.set_append_right _ _ (by rw [bs_length, h.1]; omega), bs_length, h.1, show 17 + j - 16 = j + 1 by omega, List.set_cons_succ, us_set]
theorem scells_put : ∀ {L : List Shr} {k : Nat}, AllS L → k < L.length → ∀ (j : Nat), j < 32 → ∀ (z : F), (scells L).set (k * 49 + 17 + j) (uf z) = scells (L.set k ((L.getD k shr0).put j z))
  | [], _, _, hk, _, _, _ => absurd hk (Nat.not_lt_zero _)
  | s :: L, 0, h, _, j, hj, z => by
    have hs := h s (by simp)
    rw [scells_cons, List.set_append_left _ _ (by rw [scell_len hs]; omega), show 0 * 49 + 17 + j = 17 + j by omega, scell_put hs]
    simp [scells]
  | s :: L, k + 1, h, hk, j, hj, z => by
    have hs := h s (by simp)
    rw [scells_cons, List.set_append_right _ _ (by rw [scell_len hs]; omega), scell_len hs, show (k + 1) * 49 + 17 + j - 49 = k * 49 + 17 + j by omega, scells_put h.tail (by simpa using hk) j hj z]
    simp [scells]
theorem SlAt.shr {a : Option Addr} {L : List Shr} (h : SlAt w a (scells L)) (hL : AllS L) (h0 : 0 < L.length) : ∃ b o, a = Option.some ⟨b, o, none⟩ ∧ Rd w b o (scells L) := h.pos (scells_ne hL h0)
end Go.Eng
end
section
open Go Go.Eng
namespace Go.Eng
open Go.Proofs.YtippcmedgfmgbaaGreat
variable {w w' : World}
theorem Owns.pc {B : Nat} {E : TypeId} {n c : Nat} {a : Option Addr} {cs : List Value} (h : Owns w B E 1 (.slice a n c) n cs) (hn : 0 < n) : ∃ b, a = some ⟨b, 0, none⟩ ∧ B ≤ b ∧ b < w.heap.size ∧ n ≤ c ∧ Pc w b 0 cs := by
  have hr := Owns.sl h
  rcases h.2 with ⟨_, h2⟩ | ⟨g', cap, cur, he, hb, hg, hle, _, hsz, ht⟩
  · omega
  · cases he
    refine ⟨g', rfl, hb, (Array.getElem?_eq_some_iff.1 hg).1, hle, ?_, fun j v hj => ?_⟩
    · rcases hr with h3 | ⟨b, o, h3, h4⟩
      · subst h3
        exact Rd.nil w g' 0
      · cases h3
        exact h4
    · simp [World.frozen?, hg]
/-- rows that are built, and the slice of them -/
structure RowsB (w : World) (E : TypeId) (B H u : Nat) (v : Value) (R : List Rw) : Prop where
  ow : Owns w B E 1 v R.length (rvals R)
  mat : Mat w u R
  le : H ≤ w.heap.size
  hi : ∀ k, k < R.length → B ≤ (R.getD k rw0).b ∧ (R.getD k rw0).b < H ∧ some (R.getD k rw0).b ≠ v.ownBlock
  hv : ∀ b, v.ownBlock = some b → b < H
theorem RowsB.nil {E : TypeId} {B u : Nat} : RowsB w E B w.heap.size u (.slice none 0 0) [] :=
  ⟨Owns.nil _ _ _ _, ⟨fun k h => absurd h (Nat.not_lt_zero _), fun i _ h => absurd h (Nat.not_lt_zero _)⟩, Nat.le_refl _, fun k h => absurd h (Nat.not_lt_zero _), fun b h => by cases h⟩
theorem RowsB.kept {M : Nat → Nat → Prop} {E : TypeId} {B H u : Nat} {v : Value} {R : List Rw} (h : RowsB w E B H u v R) (k : Chg M w w') (hm : ∀ b o, b < H → ¬ M b o) : RowsB w' E B H u v R :=
  ⟨Owns.kept h.ow k fun b o _ hb m => hm b o (h.hv b hb.symm) m, h.mat.kept k fun i hi o => hm _ o (h.hi i hi).2.1, Nat.le_trans h.le k.size, h.hi, h.hv⟩
theorem RowsB.k {E : TypeId} {B H u : Nat} {v : Value} {R : List Rw} (h : RowsB w E B H u v R) (k : Kept w w') : RowsB w' E B H u v R := h.kept k fun _ _ _ => id
theorem RowsB.kb {E : TypeId} {B H u b o n : Nat} {v : Value} {R : List Rw} (h : RowsB w E B H u v R) (k : Chg (rng b o n) w w') (hb : H ≤ b) : RowsB w' E B H u v R := h.kept k fun b' _ h' m => by have := m.1; omega
theorem RowsB.kob {E E2 : TypeId} {B H u B2 sz n : Nat} {v v2 : Value} {cs : List Value} {R : List Rw} (h : RowsB w E B H u v R) (ho : Owns w B2 E2 sz v2 n cs) (k : Chg (ob v2) w w') (hb : H ≤ B2) : RowsB w' E B H u v R :=
  h.kept k fun b _ h' m => Owns.ne_lt ho (by omega) m
theorem RowsB.up {E : TypeId} {B H u : Nat} {v : Value} {R : List Rw} (h : RowsB w E B H u v R) : RowsB w E B w.heap.size u v R :=
  ⟨h.ow, h.mat, Nat.le_refl _, fun k hk => ⟨(h.hi k hk).1, Nat.lt_of_lt_of_le (h.hi k hk).2.1 h.le, (h.hi k hk).2.2⟩, fun b hb => Nat.lt_of_lt_of_le (h.hv b hb) h.le⟩
/-- a row is put behind the rows -/
theorem RowsB.add {E : TypeId} {B H u n b c : Nat} {v v' : Value} {R : List Rw} {l : List F} (h : RowsB w E B H u v R) (hp : Pc w b 0 (fs l)) (hl : l.length = u) (hc : u ≤ c) (hbB : B ≤ b) (hbH : H ≤ b) (hlt : b < w.heap.size)
    (ho : Owns w' B E 1 v' (R.length + 1) (rvals R ++ [(⟨b, c, l⟩ : Rw).v])) (hv : v'.ownBlock = v.ownBlock ∨ v'.ownBlock = some w.heap.size) (k : Chg (ob v) w w') : RowsB w' E B w'.heap.size u v' (R ++ [⟨b, c, l⟩]) := by
  have hne : ∀ i, i < R.length → some (R.getD i rw0).b ≠ v.ownBlock := fun i hi => (h.hi i hi).2.2
  have hbne : some b ≠ v.ownBlock := fun e => by have := h.hv b e.symm; omega
  have hsz := k.size
  have hnew : w'.heap.size > w.heap.size ∨ v'.ownBlock = v.ownBlock := by
    rcases hv with hv | hv
    · exact .inr hv
    · left
      rcases ho.2 with ⟨_, h2⟩ | ⟨g', cap, cur, he, _, hg, _⟩
      · omega
      · subst he
        simp only [Value.ownBlock, Option.some.injEq] at hv
        subst hv
        exact (Array.getElem?_eq_some_iff.1 hg).1
  have hget : ∀ i, i < R.length → (R ++ [(⟨b, c, l⟩ : Rw)]).getD i rw0 = R.getD i rw0 := fun i hi => by
    rw [List.getD_eq_getElem?_getD, List.getElem?_append_left hi, ← List.getD_eq_getElem?_getD]
  have hgl : (R ++ [(⟨b, c, l⟩ : Rw)]).getD R.length rw0 = ⟨b, c, l⟩ := by simp
  have hm := h.mat.kob k hne
  refine ⟨by rw [List.length_append, List.length_singleton]; simpa [rvals] using ho, ⟨fun i hi => ?_, fun i j hi hj he => ?_⟩, Nat.le_refl _, fun i hi => ?_, fun b' hb' => ?_⟩
  · rw [List.length_append, List.length_singleton] at hi
    rcases Nat.lt_or_ge i R.length with h1 | h1
    · rw [hget i h1]
      exact hm.row i h1
    · obtain rfl : i = R.length := by omega
      rw [hgl]
      exact ⟨hp.kept k fun _ _ => hbne, hl, hc, by show b < _; omega⟩
  · rw [List.length_append, List.length_singleton] at hi hj
    rcases Nat.lt_or_ge i R.length with h1 | h1 <;> rcases Nat.lt_or_ge j R.length with h2 | h2
    · rw [hget i h1, hget j h2] at he
      exact h.mat.nd i j h1 h2 he
    · obtain rfl : j = R.length := by omega
      rw [hget i h1, hgl] at he
      have := (h.hi i h1).2.1
      simp only at he
      omega
    · obtain rfl : i = R.length := by omega
      rw [hget j h2, hgl] at he
      have := (h.hi j h2).2.1
      simp only at he
      omega
    · omega
  · rw [List.length_append, List.length_singleton] at hi
    rcases Nat.lt_or_ge i R.length with h1 | h1
    · rw [hget i h1]
      obtain ⟨a1, a2, a3⟩ := h.hi i h1
      have := h.le
      refine ⟨a1, by omega, ?_⟩
      rcases hv with hv | hv
      · rw [hv]; exact a3
      · rw [hv]; intro e; have := Option.some.inj e; omega
    · obtain rfl : i = R.length := by omega
      rw [hgl]
      refine ⟨hbB, by show b < _; omega, ?_⟩
      rcases hv with hv | hv
      · rw [hv]; exact hbne
      · rw [hv]; intro e; have : b = w.heap.size := Option.some.inj e; omega
  · rcases hnew with hn | hn
    · rcases hv with hv | hv
      · rw [hv] at hb'; have := h.hv b' hb'; have := h.le; omega
      · rw [hv] at hb'; have := Option.some.inj hb'; omega
    · rw [hn] at hb'; have := h.hv b' hb'; have := h.le; omega
end Go.Eng
end
section
open Go Go.Eng
namespace Go.Eng
open Go.Proofs.YtippcmedgfmgbaaGreat
variable {w w' : World}
/- ### the rows of linear equations, as they are written in place -/
def rowSet (R : List Rw) (k : Nat) (l : List F) : List Rw := R.set k ⟨(R.getD k rw0).b, (R.getD k rw0).c, l⟩
@[simp] theorem rowSet_length (R : List Rw) (k : Nat) (l : List F) : (rowSet R k l).length = R.length := by simp [rowSet]
theorem rowSet_at {R : List Rw} {k : Nat} (h : k < R.length) (l : List F) : (rowSet R k l).getD k rw0 = ⟨(R.getD k rw0).b, (R.getD k rw0).c, l⟩ := getD_set_sel h
theorem rowSet_off {R : List Rw} {k i : Nat} (h : k ≠ i) (l : List F) : (rowSet R k l).getD i rw0 = R.getD i rw0 := getD_set_oth h
theorem rowSet_b (R : List Rw) (k i : Nat) (l : List F) : ((rowSet R k l).getD i rw0).b = (R.getD i rw0).b := by
  by_cases e : k = i
  · subst e
    rcases Nat.lt_or_ge k R.length with h | h
    · rw [rowSet_at h]
    · rw [rowSet, List.set_eq_of_length_le h]
  · rw [rowSet_off e]
theorem rowSet_two (R : List Rw) (k : Nat) (l m : List F) : rowSet (rowSet R k l) k m = rowSet R k m := by
  rcases Nat.lt_or_ge k R.length with h | h
  · unfold rowSet
    rw [getD_set_sel h, List.set_set]
  · unfold rowSet
    rw [List.set_eq_of_length_le (l := R) h, List.set_eq_of_length_le (l := R) h]
theorem rowSet_same {R : List Rw} {k : Nat} (h : k < R.length) : rowSet R k (R.getD k rw0).l = R := by
  apply List.ext_getElem (by simp)
  intro i h1 h2
  by_cases e : k = i
  · subst e
    simp [rowSet, List.getD_eq_getElem?_getD, h]
  · simp [rowSet, e]
theorem rvals_rowSet (R : List Rw) {k : Nat} {l : List F} (h : l.length = (R.getD k rw0).l.length) (hk : k < R.length) : rvals (rowSet R k l) = rvals R := by
  unfold rowSet
  rw [rvals_set]
  have e : (⟨(R.getD k rw0).b, (R.getD k rw0).c, l⟩ : Rw).v = (R.getD k rw0).v := by simp only [Rw.v, h]
  rw [e]
  apply List.ext_getElem (by simp)
  intro i h1 h2
  by_cases e : k = i
  · subst e
    have := rvals_get hk
    rw [List.getElem?_eq_getElem h2] at this
    rw [List.getElem_set_self]
    exact (Option.some.inj this).symm
  · rw [List.getElem_set_ne e]
theorem Mat.putR {u k j : Nat} {z : F} {R : List Rw} (h : Mat w u R) (hk : k < R.length) (c : Chg (rng (R.getD k rw0).b 0 (R.getD k rw0).l.length) w w') (hp : Pc w' (R.getD k rw0).b 0 (fs ((R.getD k rw0).l.set j z))) :
    Mat w' u (rowSet R k ((R.getD k rw0).l.set j z)) := h.put hk c hp
theorem Mat.rd {u k : Nat} {R : List Rw} (h : Mat w u R) (hk : k < R.length) : Rd w (R.getD k rw0).b 0 (fs (R.getD k rw0).l) := (h.row k hk).1.rd
theorem Mat.len {u k : Nat} {R : List Rw} (h : Mat w u R) (hk : k < R.length) : (R.getD k rw0).l.length = u := (h.row k hk).2.1
theorem rvals_drop_get {R : List Rw} {r k : Nat} (h : r + k < R.length) : ((rvals R).drop r)[k]? = some (R.getD (r + k) rw0).v := by
  rw [List.getElem?_drop]; exact rvals_get h
/-- the numbers of the rows -/
def lsOf (R : List Rw) : List (List F) := R.map (·.l)
@[simp] theorem lsOf_length (R : List Rw) : (lsOf R).length = R.length := by simp [lsOf]
theorem lsOf_get (R : List Rw) (k : Nat) : (lsOf R).getD k [] = (R.getD k rw0).l := by
  simp only [lsOf, List.getD_eq_getElem?_getD, List.getElem?_map]
  cases R[k]? <;> rfl
theorem en_row (R : List Rw) (k c : Nat) : en (lsOf R) k c = (R.getD k rw0).l.getD c 0 := by rw [en, lsOf_get]
theorem lsOf_swap (R : List Rw) (r k : Nat) : lsOf (swapR R r k) = swapL (lsOf R) r k := by
  unfold swapR swapL
  rw [lsOf_get, lsOf_get]
  simp [lsOf, List.map_set]
/-- a row times f, so far -/
def scaleTo (f : F) (l : List F) : Nat → List F
  | 0 => l
  | j + 1 => (scaleTo f l j).set j ((scaleTo f l j).getD j 0 * f)
@[simp] theorem scaleTo_length (f : F) (l : List F) : ∀ j, (scaleTo f l j).length = l.length
  | 0 => rfl
  | j + 1 => by rw [scaleTo, List.length_set, scaleTo_length f l j]
theorem scaleTo_get (f : F) (l : List F) : ∀ (j i : Nat), i < l.length → j ≤ l.length → (scaleTo f l j).getD i 0 = if i < j then l.getD i 0 * f else l.getD i 0
  | 0, i, _, _ => by rw [if_neg (Nat.not_lt_zero i)]; rfl
  | j + 1, i, hi, hj => by
    rw [scaleTo]
    by_cases e : j = i
    · subst e
      rw [getD_set_sel (by simp; omega), scaleTo_get f l j j hi (by omega), if_neg (Nat.lt_irrefl j), if_pos (Nat.lt_succ_self j)]
    · rw [getD_set_oth e, scaleTo_get f l j i hi (by omega)]
      by_cases h : i < j
      · rw [if_pos h, if_pos (by omega)]
      · rw [if_neg h, if_neg (by omega)]
theorem getD_ext {l m : List F} (hl : l.length = m.length) (h : ∀ i, i < l.length → l.getD i 0 = m.getD i 0) : l = m := by
  apply List.ext_getElem hl
  intro i h1 h2
  have := h i h1
  rwa [List.getD_eq_getElem?_getD, List.getD_eq_getElem?_getD, List.getElem?_eq_getElem h1, List.getElem?_eq_getElem h2] at this
theorem scaleTo_all (f : F) (l : List F) : scaleTo f l l.length = l.map fun a => a * f :=
  getD_ext (by simp) fun i hi => by
    rw [scaleTo_length] at hi
    rw [scaleTo_get f l _ i hi (Nat.le_refl _), if_pos hi, getD_map_mul]
/-- a row less e times another one, so far -/
def subTo (e : F) (l m : List F) : Nat → List F
  | 0 => l
  | j + 1 => (subTo e l m j).set j ((subTo e l m j).getD j 0 + (0 - e) * m.getD j 0)
@[simp] theorem subTo_length (e : F) (l m : List F) : ∀ j, (subTo e l m j).length = l.length
  | 0 => rfl
  | j + 1 => by rw [subTo, List.length_set, subTo_length e l m j]
theorem subTo_get (e : F) (l m : List F) : ∀ (j i : Nat), i < l.length → j ≤ l.length → (subTo e l m j).getD i 0 = if i < j then l.getD i 0 - e * m.getD i 0 else l.getD i 0
  | 0, i, _, _ => by rw [if_neg (Nat.not_lt_zero i)]; rfl
  | j + 1, i, hi, hj => by
    rw [subTo]
    by_cases h0 : j = i
    · subst h0
      rw [getD_set_sel (by simp; omega), subTo_get e l m j j hi (by omega), if_neg (Nat.lt_irrefl j), if_pos (Nat.lt_succ_self j)]
      grind
    · rw [getD_set_oth h0, subTo_get e l m j i hi (by omega)]
      by_cases h : i < j
      · rw [if_pos h, if_pos (by omega)]
      · rw [if_neg h, if_neg (by omega)]
theorem subTo_all {e : F} {l m : List F} (h : l.length = m.length) : subTo e l m l.length = List.zipWith (fun a b => a - e * b) l m :=
  getD_ext (by simp [h]) fun i hi => by
    rw [subTo_length] at hi
    rw [subTo_get e l m _ i hi (Nat.le_refl _), if_pos hi, getD_zip_sub l m e h]
/-- the first rows are done -/
def elimTo (R : List Rw) (r c : Nat) : Nat → List Rw
  | 0 => R
  | i + 1 => if i = r ∨ ((elimTo R r c i).getD i rw0).l.getD c 0 = 0 then elimTo R r c i
    else rowSet (elimTo R r c i) i (List.zipWith (fun a b => a - ((elimTo R r c i).getD i rw0).l.getD c 0 * b) ((elimTo R r c i).getD i rw0).l ((elimTo R r c i).getD r rw0).l)
@[simp] theorem elimTo_length (R : List Rw) (r c : Nat) : ∀ i, (elimTo R r c i).length = R.length
  | 0 => rfl
  | i + 1 => by
    rw [elimTo]
    split
    · exact elimTo_length R r c i
    · rw [rowSet_length, elimTo_length R r c i]
theorem elimTo_l {u : Nat} {R : List Rw} (hl : ∀ k, k < R.length → (R.getD k rw0).l.length = u) {r c : Nat} (hr : r < R.length) : ∀ (i k : Nat), i ≤ R.length → k < R.length →
    ((elimTo R r c i).getD k rw0).l = if k < i ∧ k ≠ r then List.zipWith (fun a b => a - (R.getD k rw0).l.getD c 0 * b) (R.getD k rw0).l (R.getD r rw0).l else (R.getD k rw0).l
  | 0, k, _, _ => by rw [if_neg (fun h => Nat.not_lt_zero k h.1)]; rfl
  | i + 1, k, hi, hk => by
    have ih := fun k hk => elimTo_l hl hr (c := c) i k (by omega) hk
    have hz : ∀ (l m : List F), l.length = m.length → List.zipWith (fun a b => a - 0 * b) l m = l := fun l m h => getD_ext (by simp [h]) fun j _ => by
      rw [getD_zip_sub l m 0 h]; grind
    rw [elimTo]
    split
    · rename_i h
      rw [ih k hk]
      by_cases e : k = i
      · subst e
        rw [if_neg (fun h => Nat.lt_irrefl k h.1)]
        rcases h with h | h
        · rw [if_neg (fun h2 => h2.2 h)]
        · rw [ih k hk, if_neg (fun h => Nat.lt_irrefl k h.1)] at h
          split
          · rw [h, hz _ _ (by rw [hl k hk, hl r hr])]
          · rfl
      · by_cases h1 : k < i ∧ k ≠ r
        · rw [if_pos h1, if_pos ⟨by omega, h1.2⟩]
        · rw [if_neg h1, if_neg (fun h2 => h1 ⟨by omega, h2.2⟩)]
    · rename_i h
      have hir : i ≠ r := fun e => h (.inl e)
      by_cases e : i = k
      · subst e
        rw [rowSet_at (by rw [elimTo_length]; exact hk)]
        show List.zipWith _ _ _ = _
        rw [if_pos ⟨Nat.lt_succ_self i, hir⟩, ih i hk, if_neg (fun h => Nat.lt_irrefl i h.1), ih r hr, if_neg (fun h => h.2 rfl)]
      · rw [rowSet_off e, ih k hk]
        by_cases h1 : k < i ∧ k ≠ r
        · rw [if_pos h1, if_pos ⟨by omega, h1.2⟩]
        · rw [if_neg h1, if_neg (fun h2 => h1 ⟨by omega, h2.2⟩)]
/-- a pivot's round -/
theorem elim_round {u : Nat} {R : List Rw} (hl : ∀ k, k < R.length → (R.getD k rw0).l.length = u) {r c : Nat} {f : F} (hr : r < R.length) :
    lsOf (elimTo (rowSet R r (scaleTo f (R.getD r rw0).l u)) r c R.length) = elimL (lsOf R) r c f := by
  have hs : scaleTo f (R.getD r rw0).l u = (R.getD r rw0).l.map fun a => a * f := by rw [← hl r hr, scaleTo_all]
  rw [hs]
  have hlen : ∀ k, k < (rowSet R r ((R.getD r rw0).l.map fun a => a * f)).length → ((rowSet R r ((R.getD r rw0).l.map fun a => a * f)).getD k rw0).l.length = u := fun k hk => by
    rw [rowSet_length] at hk
    by_cases e : r = k
    · subst e
      rw [rowSet_at hr, List.length_map, hl r hr]
    · rw [rowSet_off e, hl k hk]
  have hr' : r < (rowSet R r ((R.getD r rw0).l.map fun a => a * f)).length := by rw [rowSet_length]; exact hr
  apply List.ext_getElem (by simp [elimL])
  intro k h1 h2
  rw [lsOf_length, elimTo_length, rowSet_length] at h1
  have g1 : (lsOf (elimTo (rowSet R r ((R.getD r rw0).l.map fun a => a * f)) r c R.length)).getD k [] = (elimL (lsOf R) r c f).getD k [] := by
    rw [lsOf_get, elimTo_l hlen hr' R.length k (by rw [rowSet_length]; exact Nat.le_refl _) (by rw [rowSet_length]; exact h1), elim_get (by rw [lsOf_length]; exact h1), lsOf_get, lsOf_get, en_row]
    by_cases e : k = r
    · subst e
      rw [if_neg (fun h => h.2 rfl), if_pos rfl, rowSet_at hr]
    · rw [if_pos ⟨h1, e⟩, if_neg e, rowSet_off (fun h => e h.symm), rowSet_at hr]
  have q : ∀ (l : List (List F)) (h : k < l.length), l.getD k [] = l[k] := fun l h => by rw [List.getD_eq_getElem?_getD, List.getElem?_eq_getElem h]; rfl
  rw [q _ (by simpa using h1), q _ h2] at g1
  exact g1
/-- lists of ints that are no less than 0 -/
def ns (L : List Nat) : List Value := L.map fun n => i64 ((n : Nat) : Int)
@[simp] theorem ns_length (L : List Nat) : (ns L).length = L.length := by simp [ns]
theorem ns_get {L : List Nat} {k : Nat} (h : k < L.length) : (ns L)[k]? = some (i64 ((L.getD k 0 : Nat) : Int)) := by
  simp [ns, List.getD_eq_getElem?_getD, h]
theorem ns_ne {L : List Nat} (h : 0 < L.length) : ns L ≠ [] := fun e => by
  have := ns_length L
  rw [e, List.length_nil] at this
  omega
theorem ns_app (L M : List Nat) : ns (L ++ M) = ns L ++ ns M := by simp [ns]
theorem Owns.appN {B : Nat} {E : TypeId} {sz n : Nat} {v : Value} {X Y : List Nat} (h : Owns w B E sz v n (ns X ++ ns Y)) : Owns w B E sz v n (ns (X ++ Y)) := by rw [ns_app]; exact h
theorem flat_ns (L : List Nat) : Flat (ns L) := fun v hv => by
  simp only [ns, List.mem_map] at hv
  obtain ⟨x, _, rfl⟩ := hv
  rfl
end Go.Eng
namespace Go.Eng
open Go.Proofs.YtippcmedgfmgbaaGreat
variable {w w' : World}
/-- rows whose blocks are of a kind -/
structure MatQ (w : World) (Q : Nat → Prop) (u : Nat) (R : List Rw) : Prop where
  m : Mat w u R
  q : ∀ k, k < R.length → Q (R.getD k rw0).b
theorem MatQ.k {Q : Nat → Prop} {u : Nat} {R : List Rw} (h : MatQ w Q u R) (k : Kept w w') : MatQ w' Q u R := ⟨h.m.k k, h.q⟩
theorem MatQ.kb {Q : Nat → Prop} {u b o n : Nat} {R : List Rw} (h : MatQ w Q u R) (k : Chg (rng b o n) w w') (hb : ∀ b', Q b' → b' ≠ b) : MatQ w' Q u R := ⟨h.m.kb k fun i hi => hb _ (h.q i hi), h.q⟩
theorem MatQ.kob {Q : Nat → Prop} {u : Nat} {v : Value} {R : List Rw} (h : MatQ w Q u R) (k : Chg (ob v) w w') (hb : ∀ b', Q b' → some b' ≠ v.ownBlock) : MatQ w' Q u R := ⟨h.m.kob k fun i hi => hb _ (h.q i hi), h.q⟩
theorem MatQ.putR {Q : Nat → Prop} {u k j : Nat} {z : F} {R : List Rw} (h : MatQ w Q u R) (hk : k < R.length) (c : Chg (rng (R.getD k rw0).b 0 (R.getD k rw0).l.length) w w') (hp : Pc w' (R.getD k rw0).b 0 (fs ((R.getD k rw0).l.set j z))) :
    MatQ w' Q u (rowSet R k ((R.getD k rw0).l.set j z)) := ⟨h.m.putR hk c hp, fun i hi => by rw [rowSet_b]; exact h.q i (by simpa using hi)⟩
theorem MatQ.swap {Q : Nat → Prop} {u r k : Nat} {R : List Rw} (h : MatQ w Q u R) (hr : r < R.length) (hk : k < R.length) : MatQ w Q u (swapR R r k) :=
  ⟨h.m.swap hr hk, fun i hi => by
    rw [swapR_get hr hk]
    rw [swapR_length] at hi
    exact h.q _ (by split <;> (try split) <;> omega)⟩
end Go.Eng
namespace Go.Proofs.YtippcmedgfmgbaaGreat
open Go.Eng
theorem seek_stop {rows : List (List F)} {c N k : Nat} (hk : k < N) (h : en rows k c ≠ 0) : seek rows c (N - k) k = k := by
  rw [show N - k = (N - (k + 1)) + 1 by omega, seek, if_neg h]
theorem seek_next {rows : List (List F)} {c N k : Nat} (hk : k < N) (h : en rows k c = 0) : seek rows c (N - k) k = seek rows c (N - (k + 1)) (k + 1) := by
  conv => lhs; rw [show N - k = (N - (k + 1)) + 1 by omega, seek, if_pos h]
theorem seek_end {rows : List (List F)} {c N : Nat} : seek rows c (N - N) N = N := by rw [Nat.sub_self, seek]
theorem gj_end0 {N u c : Nat} {rows : List (List F)} {piv : List Nat} (h : c = u) : gj N (u - c) c rows piv = (rows, piv) := by
  subst h
  rw [Nat.sub_self, gj]
theorem gj_endN {N d c : Nat} {rows : List (List F)} {piv : List Nat} (h : ¬ piv.length < N) : gj N d c rows piv = (rows, piv) := by
  cases d with
  | zero => rfl
  | succ d => rw [gj, if_neg h]
theorem gj_skipS {N u c : Nat} {rows : List (List F)} {piv : List Nat} (hc : c < u) (h : piv.length < N) (hs : seek rows c (N - piv.length) piv.length = N) : gj N (u - c) c rows piv = gj N (u - (c + 1)) (c + 1) rows piv := by
  rw [show u - c = (u - (c + 1)) + 1 by omega, gj, if_pos h, if_pos hs]
theorem gj_piv {N u c k : Nat} {rows : List (List F)} {piv : List Nat} (hc : c < u) (h : piv.length < N) (hs : seek rows c (N - piv.length) piv.length = k) (hk : k ≠ N) :
    gj N (u - c) c rows piv = gj N (u - (c + 1)) (c + 1) (elimL (swapL rows piv.length k) piv.length c (fInv (en rows k c))) (piv ++ [c]) := by
  subst hs
  rw [show u - c = (u - (c + 1)) + 1 by omega, gj, if_pos h, if_neg hk]
theorem solveF_some {N u : Nat} {rows rows' : List (List F)} {piv : List Nat} (h : gj N u 0 rows [] = (rows', piv)) (hz : ∀ i, piv.length ≤ i → i < N → en rows' i u = 0) : solveF N u rows = some (outTo u rows' piv piv.length) := by
  unfold solveF
  simp only [h]
  rw [if_pos]
  rw [List.all_eq_true]
  intro i hi
  have hi := List.mem_range.1 hi
  by_cases h1 : i < piv.length
  · simp [h1]
  · simp [hz i (by omega) hi]
theorem solveF_none {N u i : Nat} {rows rows' : List (List F)} {piv : List Nat} (h : gj N u 0 rows [] = (rows', piv)) (h1 : piv.length ≤ i) (h2 : i < N) (hz : en rows' i u ≠ 0) : solveF N u rows = none := by
  unfold solveF
  simp only [h]
  rw [if_neg]
  intro ha
  rw [List.all_eq_true] at ha
  have := ha i (List.mem_range.2 h2)
  simp [hz] at this
  omega
theorem pivot_f {R R1 : List Rw} {r k c : Nat} (h : R1 = swapR R r k) (hr : r < R.length) (hk : k < R.length) : (1 : F) * fInv ((R1.getD r rw0).l.getD c 0) = fInv (en (lsOf R) k c) := by
  rw [en_row, h, swapR_get hr hk]
  have e : (if r = k then r else if r = r then k else r) = k := by
    split
    · assumption
    · rw [if_pos rfl]
  rw [e]
  grind
end Go.Proofs.YtippcmedgfmgbaaGreat
end
section
open Go Go.Eng
namespace Go.Proofs.YtippcmedgfmgbaaGreat
/- division of polynomials, as it is written in place -/
/-- a list turned round, so far -/
def revTo (L : List F) : Nat → List F
  | 0 => L
  | i + 1 => ((revTo L i).set i ((revTo L i).getD (L.length - 1 - i) 0)).set (L.length - 1 - i) ((revTo L i).getD i 0)
@[simp] theorem revTo_length (L : List F) : ∀ i, (revTo L i).length = L.length
  | 0 => rfl
  | i + 1 => by rw [revTo, List.length_set, List.length_set, revTo_length L i]
theorem revTo_get (L : List F) : ∀ (i p : Nat), 2 * i ≤ L.length → p < L.length → (revTo L i).getD p 0 = if p < i ∨ L.length - i ≤ p then L.getD (L.length - 1 - p) 0 else L.getD p 0
  | 0, p, _, hp => by rw [if_neg (by omega)]; rfl
  | i + 1, p, hi, hp => by
    have ih := fun p hp => revTo_get L i p (by omega) hp
    rw [revTo]
    by_cases h1 : L.length - 1 - i = p
    · rw [h1, getD_set_sel (by simp; omega), ih i (by omega), if_neg (by omega), if_pos (by omega)]
      rw [show L.length - 1 - p = i by omega]
    · rw [getD_set_oth h1]
      by_cases h2 : i = p
      · subst h2
        rw [getD_set_sel (by simp; omega), ih _ (by omega), if_neg (by omega), if_pos (by omega)]
      · rw [getD_set_oth h2, ih p hp]
        by_cases h3 : p < i ∨ L.length - i ≤ p
        · rw [if_pos h3, if_pos (by omega)]
        · rw [if_neg h3, if_neg (by omega)]
theorem revTo_all {L : List F} {i : Nat} (h1 : 2 * i ≤ L.length) (h2 : L.length ≤ 2 * i + 1) : revTo L i = L.reverse :=
  getD_ext (by simp) fun p hp => by
    rw [revTo_length] at hp
    rw [revTo_get L i p h1 hp, List.getD_eq_getElem?_getD (l := L.reverse), List.getElem?_reverse hp, ← List.getD_eq_getElem?_getD]
    by_cases h3 : p < i ∨ L.length - i ≤ p
    · rw [if_pos h3]
    · rw [if_neg h3, show L.length - 1 - p = p by omega]
/-- the rest, less f times the divisor, so far -/
def restTo (rest : List F) (i : Nat) (f : F) (b : List F) : Nat → List F
  | 0 => rest
  | j + 1 => (restTo rest i f b j).set (i + j) ((restTo rest i f b j).getD (i + j) 0 + (0 - f) * b.getD j 0)
@[simp] theorem restTo_length (rest : List F) (i : Nat) (f : F) (b : List F) : ∀ j, (restTo rest i f b j).length = rest.length
  | 0 => rfl
  | j + 1 => by rw [restTo, List.length_set, restTo_length rest i f b j]
theorem restTo_get (rest : List F) (i : Nat) (f : F) (b : List F) : ∀ (j p : Nat), p < rest.length → i + j ≤ rest.length → (restTo rest i f b j).getD p 0 = if i ≤ p ∧ p < i + j then rest.getD p 0 - f * b.getD (p - i) 0 else rest.getD p 0
  | 0, p, _, _ => by rw [if_neg (by omega)]; rfl
  | j + 1, p, hp, hj => by
    have ih := fun p hp => restTo_get rest i f b j p hp (by omega)
    rw [restTo]
    by_cases h1 : i + j = p
    · subst h1
      rw [getD_set_sel (by simp; omega), ih _ hp, if_neg (by omega), if_pos (by omega), show i + j - i = j by omega]
      grind
    · rw [getD_set_oth h1, ih p hp]
      by_cases h2 : i ≤ p ∧ p < i + j
      · rw [if_pos h2, if_pos (by omega)]
      · rw [if_neg h2, if_neg (by omega)]
theorem restTo_all {rest : List F} {i : Nat} {f : F} {b : List F} (h : i + b.length ≤ rest.length) : restTo rest i f b b.length = subAt rest i f b :=
  getD_ext (by simp [subAt]) fun p hp => by
    rw [restTo_length] at hp
    rw [restTo_get rest i f b _ p hp h]
    simp only [subAt, List.getD_eq_getElem?_getD, List.getElem?_mapIdx, List.getElem?_eq_getElem hp, Option.map_some, Option.getD_some]
theorem divS_start (b : List F) (w k : Nat) (A : List F) : divS b w k A = ((divS b w k A).1 ++ ([] : List F).reverse, (divS b w k A).2) := by simp
theorem divS_step {b : List F} {w k k0 : Nat} {A rest O : List F} (h0 : 0 < k) (h : divS b w k0 A = ((divS b w k rest).1 ++ O.reverse, (divS b w k rest).2)) :
    divS b w k0 A = ((divS b w (k - 1) (subAt rest (k - 1) (rest.getD (k - 1 + w) 0) b)).1 ++ (O ++ [rest.getD (k - 1 + w) 0]).reverse, (divS b w (k - 1) (subAt rest (k - 1) (rest.getD (k - 1 + w) 0) b)).2) := by
  obtain ⟨m, rfl⟩ : ∃ m, k = m + 1 := ⟨k - 1, by omega⟩
  rw [h, divS, Nat.add_sub_cancel]
  simp
theorem divS_end {b : List F} {w k0 : Nat} {A rest O : List F} (h : divS b w k0 A = ((divS b w 0 rest).1 ++ O.reverse, (divS b w 0 rest).2)) : divS b w k0 A = (O.reverse, rest) := by
  rw [h, divS]; simp
theorem fInv_one : fInv 1 = 1 := by decide +kernel
end Go.Proofs.YtippcmedgfmgbaaGreat
namespace Go.Proofs.YtippcmedgfmgbaaGreat
theorem getD_mem {L : List F} {k : Nat} (h : k < L.length) : L.getD k 0 ∈ L := by
  rw [List.getD_eq_getElem?_getD, List.getElem?_eq_getElem h]; exact List.getElem_mem h
theorem all0_step {L : List F} {k : Nat} (hk : k < L.length) (h : ∀ x ∈ L.take k, x = 0) (h0 : L.getD k 0 = 0) : ∀ x ∈ L.take (k + 1), x = 0 := fun x hx => by
  have e : L.take (k + 1) = L.take k ++ [L.getD k 0] := by
    rw [List.take_add_one, List.getD_eq_getElem?_getD, List.getElem?_eq_getElem hk]; rfl
  rw [e] at hx
  rcases List.mem_append.1 hx with hx | hx
  · exact h x hx
  · rw [List.mem_singleton.1 hx]; exact h0
theorem contains_nz {L : List F} {k : Int} (h : 0 ≤ k ↔ ∃ x ∈ L, x ≠ 0) : decide (0 ≤ k) = !(L.all fun x => decide (x = 0)) := by
  by_cases h1 : 0 ≤ k
  · obtain ⟨x, hx, hn⟩ := h.1 h1
    have : (L.all fun x => decide (x = 0)) = false := List.all_eq_false.2 ⟨x, hx, by simpa using hn⟩
    rw [this]; simp [h1]
  · have : (L.all fun x => decide (x = 0)) = true := List.all_eq_true.2 fun x hx => by
      by_cases hn : x = 0
      · simp [hn]
      · exact absurd (h.2 ⟨x, hx, hn⟩) h1
    rw [this]; simp [h1]
end Go.Proofs.YtippcmedgfmgbaaGreat
namespace Go.Eng
theorem r_not2 {P : Program} {w : World} {e : Env} {d : Option Nat} {ty : TypeId} {pos : String} {aft : Array Edge} {g : Option (Nat × Bool)} {t : TypeId} {x : Operand} {q : Bool} (hx : ev e x = .bool (!q)) : (execOp (ev e) ⟨d, .unOp .not t x, ty, pos, aft, g⟩).run P w = .ok (.value (.bool q)) w := by
  rw [r_not hx, Bool.not_not]
end Go.Eng
end
section
open Go Go.Eng
namespace Go.Eng
open Go.Proofs.YtippcmedgfmgbaaGreat
variable {w w' : World}
/-- two slices of numbers of one's own, side by side -/
structure Two (w : World) (B : Nat) (v1 : Value) (n1 : Nat) (X : List F) (v2 : Value) (n2 : Nat) (Y : List F) : Prop where
  o1 : Owns w B 3 1 v1 n1 (fs X)
  o2 : Owns w B 3 1 v2 n2 (fs Y)
  d : ∀ b, some b = v1.ownBlock → some b ≠ v2.ownBlock
theorem Two.nil (w : World) : Two w w.heap.size (.slice none 0 0) 0 [] (.slice none 0 0) 0 [] := ⟨Owns.nil _ _ _ _, Owns.nil _ _ _ _, fun _ h => by cases h⟩
theorem Two.kept {M : Nat → Nat → Prop} {B n1 n2 : Nat} {v1 v2 : Value} {X Y : List F} (h : Two w B v1 n1 X v2 n2 Y) (k : Chg M w w') (h1 : ∀ b o, some b = v1.ownBlock → ¬ M b o) (h2 : ∀ b o, some b = v2.ownBlock → ¬ M b o) : Two w' B v1 n1 X v2 n2 Y :=
  ⟨Owns.kept h.o1 k fun b o _ hb => h1 b o hb, Owns.kept h.o2 k fun b o _ hb => h2 b o hb, h.d⟩
theorem Two.k {B n1 n2 : Nat} {v1 v2 : Value} {X Y : List F} (h : Two w B v1 n1 X v2 n2 Y) (k : Kept w w') : Two w' B v1 n1 X v2 n2 Y := h.kept k (fun _ _ _ => id) (fun _ _ _ => id)
theorem Two.kb {B n1 n2 b o n : Nat} {v1 v2 : Value} {X Y : List F} (h : Two w B v1 n1 X v2 n2 Y) (k : Chg (rng b o n) w w') (h1 : some b ≠ v1.ownBlock) (h2 : some b ≠ v2.ownBlock) : Two w' B v1 n1 X v2 n2 Y :=
  h.kept k (fun _ _ e m => h1 (by rw [← m.1]; exact e)) (fun _ _ e m => h2 (by rw [← m.1]; exact e))
theorem own_lt {B : Nat} {E : TypeId} {sz n : Nat} {v : Value} {cs : List Value} (h : Owns w B E sz v n cs) {b : Nat} (hb : some b = v.ownBlock) : b < w.heap.size := by
  rcases h.2 with ⟨rfl, _⟩ | ⟨g', cap, cur, rfl, _, hg, _⟩
  · cases hb
  · have : b = g' := Option.some.inj hb
    subst this
    exact (Array.getElem?_eq_some_iff.1 hg).1
theorem Two.add1 {B n1 n2 m : Nat} {v1 v2 v' : Value} {X Y Z : List F} (h : Two w B v1 n1 X v2 n2 Y) (ho : Owns w' B 3 1 v' (n1 + m) (fs X ++ fs Z)) (hv : v'.ownBlock = v1.ownBlock ∨ v'.ownBlock = some w.heap.size) (k : Chg (ob v1) w w') : Two w' B v' (n1 + m) (X ++ Z) v2 n2 Y :=
  ⟨Owns.appF ho, Owns.kept h.o2 k fun b _ _ hb m => h.d b m hb, fun b hb hb2 => by
    rcases hv with hv | hv
    · exact h.d b (by rw [← hv]; exact hb) hb2
    · rw [hv] at hb
      have := own_lt h.o2 hb2
      have := Option.some.inj hb
      omega⟩
theorem Two.add2 {B n1 n2 m : Nat} {v1 v2 v' : Value} {X Y Z : List F} (h : Two w B v1 n1 X v2 n2 Y) (ho : Owns w' B 3 1 v' (n2 + m) (fs Y ++ fs Z)) (hv : v'.ownBlock = v2.ownBlock ∨ v'.ownBlock = some w.heap.size) (k : Chg (ob v2) w w') : Two w' B v1 n1 X v' (n2 + m) (Y ++ Z) :=
  ⟨Owns.kept h.o1 k fun b _ _ hb m => h.d b hb m, Owns.appF ho, fun b hb hb2 => by
    rcases hv with hv | hv
    · exact h.d b hb (by rw [← hv]; exact hb2)
    · rw [hv] at hb2
      have := own_lt h.o1 hb
      have := Option.some.inj hb2
      omega⟩
end Go.Eng
namespace Go.Eng
open Go.Proofs.YtippcmedgfmgbaaGreat
theorem map_take_succ {α : Type} (f : Shr → α) {S : List Shr} {k : Nat} (h : k < S.length) : (S.take (k + 1)).map f = (S.take k).map f ++ [f (S.getD k shr0)] := by
  have e : S.take (k + 1) = S.take k ++ [S.getD k shr0] := by
    rw [List.take_add_one, List.getD_eq_getElem?_getD, List.getElem?_eq_getElem h]; rfl
  rw [e, List.map_append]; rfl
end Go.Eng
end
section
open Go Go.Eng
namespace Go.Proofs.YtippcmedgfmgbaaGreat
/-- the secret's octets that polynomials say, so far -/
def saidTo (ps : List (List F)) : Nat → List UInt8
  | 0 => List.replicate 32 0
  | k + 1 => (saidTo ps k).set k (b8 (((ev (ps.getD k []) 0).val : Nat) : Int))
@[simp] theorem saidTo_length (ps : List (List F)) : ∀ k, (saidTo ps k).length = 32
  | 0 => by simp [saidTo]
  | k + 1 => by rw [saidTo, List.length_set, saidTo_length ps k]
def saidF (ps : List (List F)) : Option (List UInt8) := if (List.range 32).any (fun o => decide ((ev (ps.getD o []) 0).val = 256)) then none else some (saidTo ps 32)
theorem saidF_none {ps : List (List F)} {k : Nat} (hk : k < 32) (h : (ev (ps.getD k []) 0).val = 256) : saidF ps = none := by
  rw [saidF, if_pos]
  exact List.any_eq_true.2 ⟨k, List.mem_range.2 hk, decide_eq_true h⟩
theorem saidF_some {ps : List (List F)} (h : ∀ k, k < 32 → (ev (ps.getD k []) 0).val ≠ 256) : saidF ps = some (saidTo ps 32) := by
  rw [saidF, if_neg]
  intro ha
  obtain ⟨k, hk, h2⟩ := List.any_eq_true.1 ha
  exact h k (List.mem_range.1 hk) (of_decide_eq_true h2)
theorem liesP_false {ps : List (List F)} {s : Shr} {k : Nat} (hk : k < 32) (h : ¬ ev (ps.getD k []) s.x = s.y.getD k 0) : liesP ps s = false :=
  List.all_eq_false.2 ⟨k, List.mem_range.2 hk, by simpa using h⟩
theorem liesP_true {ps : List (List F)} {s : Shr} (h : ∀ k, k < 32 → ev (ps.getD k []) s.x = s.y.getD k 0) : liesP ps s = true :=
  List.all_eq_true.2 fun k hk => by simp only [decide_eq_true_eq]; exact h k (List.mem_range.1 hk)
theorem lt_step {p : Nat → Prop} {k : Nat} (h : ∀ o, o < k → p o) (hk : p k) : ∀ o, o < k + 1 → p o := fun o ho => by
  rcases Nat.lt_or_ge o k with h1 | h1
  · exact h o h1
  · obtain rfl : o = k := by omega
    exact hk
end Go.Proofs.YtippcmedgfmgbaaGreat
end
section
open Go Go.Eng
namespace Go.Proofs.YtippcmedgfmgbaaGreat
open Go.Eng
def pts2 (xs ys : List F) (n : Nat) : List (F × F) := (List.range n).map fun i => (xs.getD i 0, ys.getD i 0)
@[simp] theorem pts2_length (xs ys : List F) (n : Nat) : (pts2 xs ys n).length = n := by simp [pts2]
theorem pts2_ptsOf {S : List Shr} {n o : Nat} (h : S.length = n) : pts2 (S.map (·.x)) (S.map fun s => s.y.getD o 0) n = ptsOf S o := by
  unfold pts2 ptsOf
  apply List.ext_getElem (by simp [h])
  intro i h1 h2
  have hi : i < S.length := by simpa using h2
  simp [List.getD_eq_getElem?_getD, hi]
def powL (x : F) (j : Nat) : List F := (List.range j).map fun k => pw x k
theorem powL_succ (x : F) (j : Nat) : powL x j ++ [pw x j] = powL x (j + 1) := by simp [powL, List.range_succ]
@[simp] theorem powL_length (x : F) (j : Nat) : (powL x j).length = j := by simp [powL]
def npowL (x y : F) (j : Nat) : List F := (List.range j).map fun k => -y * pw x k
theorem npowL_succ (x y : F) (j : Nat) : npowL x y j ++ [(0 - y) * pw x j] = npowL x y (j + 1) := by
  have e : (0 - y) * pw x j = -y * pw x j := by grind
  rw [e]
  simp [npowL, List.range_succ]
@[simp] theorem npowL_length (x y : F) (j : Nat) : (npowL x y j).length = j := by simp [npowL]
theorem rowOf_eq (need w : Nat) (x y : F) : rowOf need w (x, y) = powL x (need + w) ++ npowL x y w ++ [y * pw x w] := rfl
theorem pts2_rows (need w : Nat) (xs ys : List F) (i : Nat) : ((pts2 xs ys i).map (rowOf need w)) ++ [rowOf need w (xs.getD i 0, ys.getD i 0)] = (pts2 xs ys (i + 1)).map (rowOf need w) := by
  simp [pts2, List.range_succ]
theorem lsOf_app (R : List Rw) (r : Rw) : lsOf (R ++ [r]) = lsOf R ++ [r.l] := by simp [lsOf]
theorem mendF_none {need w n : Nat} {pts : List (F × F)} (hn : pts.length = n) (h : solveF n (need + 2 * w) (pts.map (rowOf need w)) = none) : mendF need w pts = none := by
  subst hn
  unfold mendF
  rw [h]
theorem mendF_of {need w n : Nat} {pts : List (F × F)} {s : List F} (hn : pts.length = n) (h : solveF n (need + 2 * w) (pts.map (rowOf need w)) = some s) :
    mendF need w pts = if (divS (s.drop (need + w) ++ [1]) w need (s.take (need + w))).2.all (fun v => decide (v = 0)) then some (divS (s.drop (need + w) ++ [1]) w need (s.take (need + w))).1 else none := by
  subst hn
  unfold mendF
  rw [h]
end Go.Proofs.YtippcmedgfmgbaaGreat
namespace Go.Proofs.YtippcmedgfmgbaaGreat
theorem divS_len1 (b : List F) (w : Nat) : ∀ (i : Nat) (rest : List F), (divS b w i rest).1.length = i
  | 0, _ => rfl
  | i + 1, rest => by
    rw [divS]
    simp only [List.length_append, List.length_cons, List.length_nil]
    rw [divS_len1 b w i]
end Go.Proofs.YtippcmedgfmgbaaGreat
namespace Go.Eng
open Go.Proofs.YtippcmedgfmgbaaGreat
theorem rw_v {b c n : Nat} {l : List F} (h : l.length = n) : (⟨b, c, l⟩ : Rw).v = .slice (some ⟨b, 0, none⟩) n c := by subst h; rfl
end Go.Eng
end
section
open Go Go.Eng
namespace Go.Eng
variable {P : Program} {w : World} {e : Env} {d : Option Nat} {ty : TypeId} {pos : String} {aft : Array Edge} {g : Option (Nat × Bool)}
/- ### maps with arrays of octets for keys -/
abbrev ek (l : List UInt8) : Value := .agg (bs l).toArray
/-- k is the type of arrays of n octets -/
structure KeyT (P : Program) (k el : TypeId) (n : Nat) : Prop where
  arr : P.underlying k = some (.array n el)
  u8 : P.underlying el = some (.int .u8)
  sz : ∀ w, (sizeOf el).run P w = .ok 1 w
  cells : P.cellsOf k = n
  cell1 : P.cellsOf el = 1
  two : P.keyTypeAt 2 k = true
theorem keyLits_octs {k el : TypeId} {n : Nat} (K : KeyT P k el n) {l : List UInt8} (hl : l.length = n) : ∃ la, P.keyLits 2 k (bs l) = some la := by
  have h1 : ∀ i, i < n → P.keyLits 1 el (((bs l).drop (i * 1)).take 1) = some [Lit.int .u8 ((l.getD i 0).toNat : Int)] := fun i hi => by
    have hg := bs_get (l := l) (k := i) (by omega)
    have hc : ((bs l).drop (i * 1)).take 1 = [Go.Eng.u8 (l.getD i 0)] := by
      rw [Nat.mul_one]
      have hlt : i < (bs l).length := by rw [bs_length]; omega
      rw [List.drop_eq_getElem_cons hlt, List.take_succ_cons, List.take_zero]
      rw [List.getElem?_eq_getElem hlt] at hg
      rw [Option.some.inj hg]
    have hw : ∀ x : UInt8, (Lit.int .u8 (x.toNat : Int)).wf = true := fun x => by
      have := x.toNat_lt
      simp [Lit.wf, IntKind.min, IntKind.max, IntKind.signed, IntKind.bits]; omega
    rw [hc]
    unfold Program.keyLits
    rw [K.u8]
    show (if IntKind.u8 = IntKind.u8 ∧ _ then _ else _) = _
    rw [if_pos ⟨rfl, hw _⟩]
  unfold Program.keyLits
  simp only [K.arr]
  rw [if_pos (by rw [bs_length, K.cells, hl]), K.cell1, ChangeShapes.mapM_range_of n h1]
  exact ⟨_, rfl⟩
theorem run_check_octs {k el : TypeId} {n : Nat} (K : KeyT P k el n) {l : List UInt8} (hl : l.length = n) (em : Bool) : (Instr.checkKey em 10000 k (ek l)).run P w = .ok () w := by
  obtain ⟨la, h⟩ := keyLits_octs K hl
  exact run_checkKey_deep em 9998 2 k K.two w 2 (ek l) la (by simp [Value.formed, K.arr, K.cells, bs_length, hl]) (by simpa [Value.cells] using h)
theorem run_equal_octs {k el : TypeId} {n : Nat} (K : KeyT P k el n) {l m : List UInt8} (hl : l.length = n) (hm : m.length = n) : (Op.equal k (ek l) (ek m)).run P w = .ok (l == m) w :=
  run_equalIn_bytes (P := P) w 9998 k el n K.arr K.u8 K.sz l m hl hm
theorem run_stays_octs {l : List UInt8} : (Instr.keyThatStays (ek l) (ek l)).run P w = .ok (ek l) w := by
  have h : Instr.sameBits 10000 (ek l) (ek l) = true := by
    rw [show (10000 : Nat) = 9999 + 1 from rfl, Instr.sameBits]
    simp only [beq_self_eq_true, Bool.true_and, List.all_eq_true]
    intro x hx
    have : ∀ (a : List UInt8), ∀ x ∈ (bs a).zip (bs a), Instr.sameBits 9999 x.1 x.2 = true := by
      intro a
      induction a with
      | nil => intro x hx; cases hx
      | cons b a ih =>
        intro x hx
        rcases List.mem_cons.1 hx with rfl | hx
        · simp [Instr.sameBits, Go.Eng.u8]
        · exact ih x hx
    exact this l x (by simpa using hx)
  unfold Instr.keyThatStays
  rw [if_pos h]; rfl
def lookK : List (List UInt8 × Value) → List UInt8 → Option Value
  | [], _ => none
  | (k', v) :: es, k => if k' = k then some v else lookK es k
def putK : List (List UInt8 × Value) → List UInt8 → Value → List (List UInt8 × Value)
  | [], k, v => [(k, v)]
  | (k', v') :: es, k, v => if k' = k then (k, v) :: es else (k', v') :: putK es k v
def delK : List (List UInt8 × Value) → List UInt8 → List (List UInt8 × Value)
  | [], _ => []
  | (k', v') :: es, k => if k' = k then es else (k', v') :: delK es k
/-- the map in block b has the entries es; n: the length of its keys -/
def MapK (n : Nat) (w : World) (b : Nat) (es : List (List UInt8 × Value)) : Prop :=
  ∃ a clock, w.heap[b]? = some (.map a clock) ∧ a.toList.map (fun x => (x.key, x.val)) = es.map (fun p => (ek p.1, p.2)) ∧ (∀ p ∈ es, p.1.length = n) ∧ (∀ x ∈ a.toList, x.born < clock) ∧ (a.toList.map (·.born)).Nodup
theorem find_k {k el : TypeId} {n : Nat} (K : KeyT P k el n) (q : List UInt8) (hq : q.length = n) (v : Value) : ∀ (l : List MapEntry) (es : List (List UInt8 × Value)) (i : Nat), l.map (fun x => (x.key, x.val)) = es.map (fun p => (ek p.1, p.2)) → (∀ p ∈ es, p.1.length = n) →
    (lookK es q = none ∧ (∀ w, (Instr.findAsking k (ek q) l i).run P w = .ok none w) ∧ putK es q v = es ++ [(q, v)] ∧ delK es q = es) ∨
    (∃ j v0 e0, lookK es q = some v0 ∧ (∀ w, (Instr.findAsking k (ek q) l i).run P w = .ok (some (i + j, v0)) w) ∧ l[j]? = some e0 ∧ e0.key = ek q ∧ (∀ f : MapEntry → MapEntry, (∀ x, (f x).key = ek q ∧ (f x).val = v) → (l.modify j f).map (fun x => (x.key, x.val)) = (putK es q v).map (fun p => (ek p.1, p.2))) ∧
      (l.eraseIdx j).map (fun x => (x.key, x.val)) = (delK es q).map (fun p => (ek p.1, p.2))) := by
  intro l
  induction l with
  | nil =>
    intro es i h _
    cases es with
    | nil => exact .inl ⟨rfl, fun _ => rfl, rfl, rfl⟩
    | cons p es => simp at h
  | cons x l ih =>
    intro es i h hn
    cases es with
    | nil => simp at h
    | cons p es =>
      obtain ⟨k', v'⟩ := p
      simp only [List.map_cons, List.cons.injEq, Prod.mk.injEq] at h
      obtain ⟨⟨hk, hv⟩, h⟩ := h
      have hk' : k'.length = n := hn (k', v') (by simp)
      have he : ∀ w, (Op.equal k (ek q) x.key).run P w = .ok (q == k') w := fun w => by rw [hk]; exact run_equal_octs K hq hk'
      by_cases hkk : k' = q
      · subst hkk
        refine .inr ⟨0, v', x, by simp [lookK], fun w => ?_, rfl, hk, fun f hf => ?_, ?_⟩
        · simp [Instr.findAsking, Sem.run_bind, he, hv]
        · simp [putK, List.modify, hf x, h]
        · simp [delK, h]
      · have hne : (q == k') = false := by simp; exact fun h => hkk h.symm
        rcases ih es (i + 1) h (fun p hp => hn p (by simp [hp])) with ⟨h1, h2, h3, h4⟩ | ⟨j, v0, e0, h1, h2, h3, h4, h5, h6⟩
        · refine .inl ⟨by simp [lookK, hkk, h1], fun w => ?_, by simp [putK, hkk, h3], by simp [delK, hkk, h4]⟩
          simp [Instr.findAsking, Sem.run_bind, he, hne, h2]
        · refine .inr ⟨j + 1, v0, e0, by simp [lookK, hkk, h1], fun w => ?_, by simpa using h3, h4, fun f hf => ?_, ?_⟩
          · simp [Instr.findAsking, Sem.run_bind, he, hne, h2]; omega
          · have := h5 f hf
            simp [putK, hkk, hk, hv, this]
          · simp [delK, hkk, hk, hv, h6]
theorem run_findK {k el : TypeId} {n : Nat} (K : KeyT P k el n) {q : Value} {l : List MapEntry} {r : Option (Nat × Value)} (h : ∀ w, (Instr.findAsking k q l 0).run P w = .ok r w) : (Instr.findKey k q l).run P w = .ok r w := by
  rw [run_findKey_eq w (by rw [K.arr])]; exact h w
theorem MapK.kept {n : Nat} {M : Nat → Nat → Prop} {w' : World} {b : Nat} {es : List (List UInt8 × Value)} (h : MapK n w b es) (k : Chg M w w') (hm : ∀ o, ¬ M b o) : MapK n w' b es := by
  obtain ⟨a, c, h1, h2⟩ := h
  exact ⟨a, c, by rw [k.obj b (Array.getElem?_eq_some_iff.1 h1).1 hm]; exact h1, h2⟩
theorem MapK.k {n : Nat} {w' : World} {b : Nat} {es : List (List UInt8 × Value)} (h : MapK n w b es) (k : Kept w w') : MapK n w' b es := h.kept k fun _ => id
theorem MapK.kb {n : Nat} {w' : World} {b b2 o2 m : Nat} {es : List (List UInt8 × Value)} (h : MapK n w b es) (k : Chg (rng b2 o2 m) w w') (hb : b ≠ b2) : MapK n w' b es := h.kept k fun _ m => hb m.1
theorem MapK.kB {n : Nat} {w' : World} {b b2 : Nat} {es : List (List UInt8 × Value)} (h : MapK n w b es) (k : Chg (blk b2) w w') (hb : b ≠ b2) : MapK n w' b es := h.kept k fun _ m => hb m
theorem MapK.kob {n : Nat} {w' : World} {b : Nat} {v : Value} {es : List (List UInt8 × Value)} (h : MapK n w b es) (k : Chg (ob v) w w') (hb : some b ≠ v.ownBlock) : MapK n w' b es := h.kept k fun _ m => hb m
theorem MapK.lt {n : Nat} {b : Nat} {es : List (List UInt8 × Value)} (h : MapK n w b es) : b < w.heap.size := by
  obtain ⟨a, c, h1, _⟩ := h
  exact (Array.getElem?_eq_some_iff.1 h1).1
theorem w_makeMapK (n : Nat) {t : TypeId} : OpWp P ⟨d, .makeMap t none, ty, pos, aft, g⟩ e w (fun v w' => ∃ b, v = .map (some b) ∧ w.heap.size ≤ b ∧ b < w'.heap.size ∧ MapK n w' b [] ∧ Kept w w') := by
  unfold OpWp
  have : (execOp (ev e) ⟨d, .makeMap t none, ty, pos, aft, g⟩).run P w = .ok (.value (.map (some w.heap.size))) (w.alloc (.map #[] 0)) := by
    simp [execOp, Instr.makeMap, Sem.run_bind, Sem.run_pure]
  rw [this]
  exact ⟨_, rfl, Nat.le_refl _, by simp, ⟨#[], 0, heap_alloc_new w _, rfl, fun _ h => (by cases h), fun _ h => (by simp at h), by simp⟩, chg_alloc _ _⟩
theorem run_lookup_k {n : Nat} {t k el ko : TypeId} {b : Nat} {q : List UInt8} {es : List (List UInt8 × Value)} {z : Value} (cok : Bool) (hu : P.underlying t = some (.map k el)) (K : KeyT P k ko n) (hz : ∀ w, (zeroValue el).run P w = .ok z w) (h : MapK n w b es) (hq : q.length = n) :
    (Instr.lookup t (.map (some b)) (ek q) cok).run P w = .ok (if cok then .tuple #[(lookK es q).getD z, .bool (lookK es q).isSome] else (lookK es q).getD z) w := by
  obtain ⟨a, c, h1, h2, h5, _⟩ := h
  have hg : (getObj b).run P w = .ok (.map a c) w := by simp [getObj, Sem.run, h1]
  have hck : ∀ em, (Instr.checkKey em 10000 k (ek q)).run P w = .ok () w := fun em => run_check_octs K hq em
  rcases find_k K q hq z a.toList es 0 h2 h5 with ⟨h3, h4, _⟩ | ⟨j, v0, e0, h3, h4, _⟩
  · have hf : (Instr.findKey k (ek q) a.toList).run P w = .ok none w := run_findK K h4
    cases cok <;> simp [Instr.lookup, Sem.run_bind, run_underlying hu, hg, hck, hf, h3, hz, Sem.run_pure]
  · have hf : (Instr.findKey k (ek q) a.toList).run P w = .ok (some (0 + j, v0)) w := run_findK K h4
    cases cok <;> simp [Instr.lookup, Sem.run_bind, run_underlying hu, hg, hck, hf, h3, hz, Sem.run_pure]
theorem r_lookupK {n : Nat} {t k el ko : TypeId} {x y : Operand} {b : Nat} {q : List UInt8} {es : List (List UInt8 × Value)} {z v : Value} (hu : P.underlying t = some (.map k el)) (K : KeyT P k ko n) (hz : ∀ w, (zeroValue el).run P w = .ok z w) (hx : ev e x = .map (some b)) (hy : ev e y = ek q) (h : MapK n w b es) (hq : q.length = n) (hv : (lookK es q).getD z = v) :
    (execOp (ev e) ⟨d, .lookup t x y false, ty, pos, aft, g⟩).run P w = .ok (.value v) w := by
  simp only [execOp, hx, hy, Sem.run_bind, run_lookup_k false hu K hz h hq, Result.andThen_ok, Sem.run_pure, hv]
  rfl
theorem putK_len {n : Nat} {es : List (List UInt8 × Value)} (h : ∀ p ∈ es, p.1.length = n) {q : List UInt8} (hq : q.length = n) (v : Value) : ∀ p ∈ putK es q v, p.1.length = n := by
  induction es with
  | nil => intro p hp; simp [putK] at hp; subst hp; exact hq
  | cons x es ih =>
    intro p hp
    obtain ⟨k', v'⟩ := x
    unfold putK at hp
    split at hp
    · rcases List.mem_cons.1 hp with rfl | hp
      · exact hq
      · exact h p (by simp [hp])
    · rcases List.mem_cons.1 hp with rfl | hp
      · exact h (k', v') (by simp)
      · exact ih (fun p hp => h p (by simp [hp])) p hp
theorem setMap_chg {b : Nat} {a a' : Array MapEntry} {c c' : Nat} (h1 : w.heap[b]? = some (.map a c)) : Chg (blk b) w { w with heap := w.heap.setIfInBounds b (.map a' c') } := by
  have hne : ∀ b', b' ≠ b → (w.heap.setIfInBounds b (.map a' c'))[b']? = w.heap[b']? := fun b' hb => by
    rw [Array.getElem?_setIfInBounds_ne (fun h => hb h.symm)]
  exact ⟨rfl, rfl, rfl, by simp, fun b' o _ hm => World.cell?_of_block (w := w) (hne b' hm), fun b' o _ hm => World.frozen?_of_block (w := w) (hne b' hm), fun b' _ hm => hne b' (hm 0)⟩
theorem w_mapPutK {n : Nat} {t k el ko : TypeId} {x y z : Operand} {b : Nat} {q : List UInt8} {u : Value} {es : List (List UInt8 × Value)} (hu : P.underlying t = some (.map k el)) (K : KeyT P k ko n) (hx : ev e x = .map (some b)) (hy : ev e y = ek q) (hz : ev e z = u) (h : MapK n w b es) (hq : q.length = n) :
    OpWp P ⟨d, .mapUpdate t x y z, ty, pos, aft, g⟩ e w (fun _ w' => MapK n w' b (putK es q u) ∧ Chg (blk b) w w') := by
  obtain ⟨a, c, h1, h2, h5, h6, h7⟩ := h
  have hlt : b < w.heap.size := (Array.getElem?_eq_some_iff.1 h1).1
  have hg : (getObj b).run P w = .ok (.map a c) w := by simp [getObj, Sem.run, h1]
  have hck : ∀ em, (Instr.checkKey em 10000 k (ek q)).run P w = .ok () w := fun em => run_check_octs K hq em
  have fin : ∀ (a' : Array MapEntry) (c' : Nat), a'.toList.map (fun x => (x.key, x.val)) = (putK es q u).map (fun p => (ek p.1, p.2)) → (∀ x ∈ a'.toList, x.born < c') → (a'.toList.map (·.born)).Nodup → (Instr.mapUpdate t (.map (some b)) (ek q) u).run P w = .ok () { w with heap := w.heap.setIfInBounds b (.map a' c') } →
      OpWp P ⟨d, .mapUpdate t x y z, ty, pos, aft, g⟩ e w (fun _ w' => MapK n w' b (putK es q u) ∧ Chg (blk b) w w') := by
    intro a' c' ha hb1 hb2 hr
    unfold OpWp
    have hx' : (execOp (ev e) ⟨d, .mapUpdate t x y z, ty, pos, aft, g⟩).run P w = .ok .skip { w with heap := w.heap.setIfInBounds b (.map a' c') } := by
      simp only [execOp, hx, hy, hz, Sem.run_bind, hr, Result.andThen_ok, Sem.run_pure]
    rw [hx']
    refine ⟨⟨a', c', ?_, ha, putK_len h5 hq u, hb1, hb2⟩, setMap_chg h1⟩
    show (w.heap.setIfInBounds b (.map a' c'))[b]? = _
    rw [Array.getElem?_setIfInBounds_self_of_lt hlt]
  rcases find_k K q hq u a.toList es 0 h2 h5 with ⟨h3, h4, h8, _⟩ | ⟨j, v0, e0, h3, h4, h8, h9, h10, _⟩
  · have hf : (Instr.findKey k (ek q) a.toList).run P w = .ok none w := run_findK K h4
    refine fin (a.push { key := ek q, val := u, born := c }) (c + 1) ?_ ?_ ?_ ?_
    · rw [h8]; simp [h2]
    · intro x hx
      simp only [Array.toList_push, List.mem_append, List.mem_singleton] at hx
      rcases hx with hx | rfl
      · have := h6 x hx; omega
      · exact Nat.lt_succ_self _
    · simp only [Array.toList_push, List.map_append, List.map_cons, List.map_nil]
      refine List.nodup_append.2 ⟨h7, by simp, fun x hx y hy => ?_⟩
      obtain ⟨z, hz, rfl⟩ := List.mem_map.1 hx
      have := h6 z hz
      simp at hy
      omega
    · simp only [Instr.mapUpdate, Sem.run_bind, run_underlying hu, Result.andThen_ok, hg, hck, hf, MapKept.run_setObj_map _ h1]
  · have hf : (Instr.findKey k (ek q) a.toList).run P w = .ok (some (0 + j, v0)) w := run_findK K h4
    have hgd : ((a[0 + j]?).map (·.key)).getD (ek q) = ek q := by
      rw [Nat.zero_add, ← Array.getElem?_toList, h8]; exact h9
    have hborn : (a.modify (0 + j) fun x => { x with key := ek q, val := u }).toList.map (·.born) = a.toList.map (·.born) := by
      rw [Array.toList_modify]
      apply List.ext_getElem?
      intro i
      simp only [List.getElem?_map, List.getElem?_modify]
      cases a.toList[i]? with
      | none => rfl
      | some y => simp only [Option.map_some, Option.map_eq_map]; split <;> rfl
    refine fin (a.modify (0 + j) fun x => { x with key := ek q, val := u }) c ?_ ?_ ?_ ?_
    · rw [Array.toList_modify, Nat.zero_add]; exact h10 _ fun x => ⟨rfl, rfl⟩
    · intro x hx
      have hm : x.born ∈ a.toList.map (·.born) := by rw [← hborn]; exact List.mem_map.2 ⟨x, hx, rfl⟩
      obtain ⟨y, hy, he⟩ := List.mem_map.1 hm
      rw [← he]; exact h6 y hy
    · rw [hborn]; exact h7
    · simp only [Instr.mapUpdate, Sem.run_bind, run_underlying hu, Result.andThen_ok, hg, hck, hf, hgd, run_stays_octs, MapKept.run_setObj_map _ h1]
end Go.Eng
end
