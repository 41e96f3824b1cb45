/- Cm: contracts of functions of the program: called in any world that meets a contract's premises, the function returns what the contract says and changes no more than it says. -/
import Derived.Test.YtdnccchcflaphaaM24
open Go Go.Eng Go.Proofs
namespace Go.Eng
section
variable {P : Program} {n : Nat} {ops : Array Oper} {S : World → Prop} {m i : Nat} {r : Plan} {K : Env → World → Prop} {e : Env} {w w0 : World} {o : Oper} {v : Value}
theorem s_takeEg (hi : ops[i]? = some o) (hg : wantedE ops e o = true) (hv : (execOp (ev e) o).run P w = .ok (.value v) w) (h : Rg P ops (fun x => x = w) m r K (updo e o.dst v) w) : Rg P ops (fun x => x = w) m (.take i r) K e w :=
  s_take_g hi hg (fun _ hx => by subst hx; exact hv) h
theorem s_takeKg (hi : ops[i]? = some o) (hg : wantedE ops e o = true) (hv : ∀ x, Kept w0 x → (execOp (ev e) o).run P x = .ok (.value v) x) (h : Rg P ops (fun x => Kept w0 x) m r K (updo e o.dst v) w) : Rg P ops (fun x => Kept w0 x) m (.take i r) K e w :=
  s_take_g hi hg hv h
theorem s_fx_g {KK : Value → World → Prop} (hi : ops[i]? = some o) (hg : wantedE ops e o = true) (hop : OpWp P o e w KK) (hk : ∀ v w', KK v w' → (i < m → S w') ∧ Rg P ops S m r K (updo e o.dst v) w') : Rg P ops S m (.eff i r) K e w := by
  with_unfolding_all exact ⟨o, hi, by
    rw [if_pos hg]
    unfold OpWp at *
    generalize (execOp (ev e) o).run P w = q at *
    cases q with
    | ok nx w' =>
      cases nx with
      | value v => exact hk _ _ hop
      | skip => exact hk _ _ hop
      | enter f args => exact Rtn.mono hop hk
      | row row args => exact Rows.mono hop hk
      | _ => exact (hop : False).elim
    | halt x w' => exact (hop : False).elim⟩
theorem s_fxKg {KK : Value → World → Prop} (hi : ops[i]? = some o) (hg : wantedE ops e o = true) (hop : OpWp P o e w KK) (hk : ∀ v w', KK v w' → Kept w0 w' ∧ Rg P ops (fun x => Kept w0 x) m r K (updo e o.dst v) w') : Rg P ops (fun x => Kept w0 x) m (.eff i r) K e w :=
  s_fx_g hi hg hop fun v w' h => ⟨fun _ => (hk v w' h).1, (hk v w' h).2⟩
theorem s_valSg (hi : ops[i]? = some o) (hg : wantedE ops e o = true) (hv : (execOp (ev e) o).run P w = .ok (.value v) w) (hS : S w) (h : Rg P ops S m r K (updo e o.dst v) w) : Rg P ops S m (.eff i r) K e w :=
  s_fx_g (KK := fun v' w' => v' = v ∧ w' = w) hi hg (by unfold OpWp; rw [hv]; exact ⟨rfl, rfl⟩) fun v' w' ⟨h1, h2⟩ => by subst h1; subst h2; exact ⟨fun _ => hS, h⟩
end
end Go.Eng
namespace Go.Eng
variable {P : Program} {w : World} {e : Env} {d : Option Nat} {ty : TypeId} {pos : String} {aft : Array Edge} {g : Option (Nat × Bool)} {t t' : TypeId} {x y : Operand} {a b : Int}
theorem r_rem64 {p q : UInt64} (hx : ev e x = u64 p) (hy : ev e y = u64 q) (hq : q.toNat ≠ 0) : (execOp (ev e) ⟨d, .binOp .rem t x y t', ty, pos, aft, g⟩).run P w = .ok (.value (u64 (p % q))) w := by
  have hd : ((p.toNat : Int)).tmod (q.toNat : Int) = ((p % q).toNat : Int) := by
    rw [UInt64.toNat_mod, Int.tmod_eq_emod_of_nonneg (by omega)]
    exact (Int.natCast_emod _ _).symm
  rw [r_rem hx hy (by omega), hd]
theorem w_setOwnB {T E : TypeId} {B bk k n c : Nat} {v : UInt8} {l : List UInt8} (hs : ∀ w, (sizeOf T).run P w = .ok 1 w) (hx : ev e x = .pointer (some ⟨bk, 0 + k * 1, none⟩)) (hy : ev e y = u8 v)
    (ho : Owns w B E 1 (.slice (some ⟨bk, 0, none⟩) n c) n (bs l)) (hk : k < n) :
    OpWp P ⟨d, .store T x y, ty, pos, aft, g⟩ e w (fun _ w' => Owns w' B E 1 (.slice (some ⟨bk, 0, none⟩) n c) n (bs (l.set k v)) ∧ Chg (blk bk) w w') := by
  have := w_setOwn (d := d) (ty := ty) (pos := pos) (aft := aft) (g := g) (x := x) (y := y) (v := u8 v) hs hx hy rfl rfl ho hk
  rwa [bs_set] at this
/-- the rest of an int as an unsigned number -/
def idxN (i : Int) (n : Nat) : Nat := (i % 18446744073709551616).toNat % n
theorem idxN_lt (i : Int) {n : Nat} (h : 0 < n) : idxN i n < n := Nat.mod_lt _ h
theorem idx_eq (i : Int) (n : Nat) (h : n < 18446744073709551616) : (((w64 i % w64 (n : Int)).toNat : Nat) : Int) = ((idxN i n : Nat) : Int) := by
  have h1 : (w64 i).toNat = (i % 18446744073709551616).toNat := by
    rw [w64, UInt64.toNat_ofNat']
    have := Int.emod_nonneg i (by decide : (18446744073709551616 : Int) ≠ 0)
    have := Int.emod_lt_of_pos i (by decide : (0 : Int) < 18446744073709551616)
    omega
  have h2 : (w64 (n : Int)).toNat = n := by rw [w64, UInt64.toNat_ofNat']; omega
  rw [UInt64.toNat_mod, h1, h2]; rfl
theorem r_convN {src dst : TypeId} {sd : TypeDesc} {k : IntKind} {N : Nat} (hs : ∀ w, (underlying src).run P w = .ok sd w) (hd : ∀ w, (underlying dst).run P w = .ok (.int .i64) w) (hx : ev e x = .int k a) (h : a = (N : Int)) (hN : N ≤ 9223372036854775807) :
    (execOp (ev e) ⟨d, .convert src dst x, ty, pos, aft, g⟩).run P w = .ok (.value (i64 (N : Nat))) w := by
  subst h
  exact r_conv_i64 hs hd hx (by omega)
end Go.Eng
namespace Go.Proofs.Ytdnccchcflaphaa
theorem leafR_h (l : List UInt8) (a : Option Addr) (n c : Nat) (w : World) (hn : l.length = n) (h0 : 0 < n) (hbig : n ≤ 1048576) (hsl : SlAt w a (bs l)) :
    Rtn Try.prog 11 [Value.slice a n c].toArray w (fun v w' => v = .agg (bs (hashR 1 l)).toArray ∧ Kept w w') := leafR_spec l a n c w hn h0 hbig hsl
theorem check_okL {L : List (List UInt8)} {x : List UInt8} {i : Nat} (hx : hashB 1 x = L.getD i []) (hi : i < L.length) (hb : L.length ≤ 65536) : checkF (rootH (hashB 2) L) x (i : Nat) (L.length : Nat) (pathH (hashB 2) L i) = 0 := by
  have hl := lead_path (hashB 2) L.length L i rfl hi
  have hp := pathH_len (hashB 2) L.length L i rfl
  generalize hR : rootH (hashB 2) L = R at *
  generalize hPP : pathH (hashB 2) L i = PP at *
  have hr : rootBy (hashB 1 x) (i : Nat) (L.length : Nat) PP = (R, 0) := by
    rw [rootBy, if_neg (by omega), if_neg (by omega), if_neg (by rw [hp]; simp), hx, Int.toNat_natCast, Int.toNat_natCast, hl]
  rw [checkF, provedF, hr, if_neg (by simp)]
theorem check_ok {l : List UInt8} {k : Int} (h0 : 0 ≤ k) (hk : k < ((chunksL l).length : Int)) (hb : (chunksL l).length ≤ 65536) :
    checkF (rootH (hashB 2) ((chunksL l).map (hashB 1))) ((chunksL l).getD k.toNat []) k ((chunksL l).length : Nat) (pathH (hashB 2) ((chunksL l).map (hashB 1)) k.toNat) = 0 := by
  have hlt : k.toNat < (chunksL l).length := by omega
  have hg : hashB 1 ((chunksL l).getD k.toNat []) = ((chunksL l).map (hashB 1)).getD k.toNat [] := by
    rw [List.getD_eq_getElem?_getD, List.getD_eq_getElem?_getD, List.getElem?_map, List.getElem?_eq_getElem hlt, Option.map_some, Option.getD_some, Option.getD_some]
  have := check_okL hg (by rw [List.length_map]; exact hlt) (by rw [List.length_map]; exact hb)
  rw [List.length_map, show ((k.toNat : Nat) : Int) = k by omega] at this
  exact this
theorem prfO_mk {w : World} {B : Nat} {i n : Int} {a : Option Addr} {np cp : Nat} {P : List (List UInt8)} (ho : Owns w B 25 32 (.slice a np cp) np (bs P.flatten)) (hl : P.length = np) (hc : np ≤ cp) (hb : np < 4611686018427387904) (h32 : All32 P) : PrfO w B ⟨i, n, a, np, cp, P⟩ := ⟨ho, hl, hc, hb, h32⟩
theorem sm_snoc {ls : List (List UInt8)} {l : List UInt8} (h : ∀ k, (ls.getD k []).length ≤ 1024) (hl : l.length ≤ 1024) : ∀ k, ((ls ++ [l]).getD k []).length ≤ 1024 := by
  intro k
  rcases Nat.lt_or_ge k ls.length with hk | hk
  · rw [getD_app_left hk]; exact h k
  · rw [List.getD_eq_getElem?_getD, List.getElem?_append_right hk]
    cases hj : k - ls.length with
    | zero => simpa using hl
    | succ j => simp
theorem sm_set {ls : List (List UInt8)} {l : List UInt8} {j : Nat} (h : ∀ k, (ls.getD k []).length ≤ 1024) (hl : l.length ≤ 1024) : ∀ k, ((ls.set j l).getD k []).length ≤ 1024 := by
  intro k
  rw [List.getD_eq_getElem?_getD, List.getElem?_set]
  split
  · split
    · simpa using hl
    · simp
  · rw [← List.getD_eq_getElem?_getD]; exact h k
theorem own_ok {n : Nat} (h0 : 0 < n) (hb : n ≤ 1048576) : firstE [(if (decide ((n : Int) = 0)) = true then (10 : Int) else 0), (if (decide ((1048576 : Int) < (n : Int))) = true then (5 : Int) else 0)] = 0 := by
  rw [if_neg (by simp; omega), if_neg (by simp; omega)]; decide
theorem own_bad {n : Nat} (h : n = 0 ∨ 1048576 < n) : firstE [(if (decide ((n : Int) = 0)) = true then (10 : Int) else 0), (if (decide ((1048576 : Int) < (n : Int))) = true then (5 : Int) else 0)] = (if n = 0 then (10 : Int) else 5) := by
  rcases Nat.eq_zero_or_pos n with h0 | h0
  · subst h0; decide
  · rw [if_neg (by simp; omega), if_pos (by simp; omega), if_neg (by omega)]; decide
end Go.Proofs.Ytdnccchcflaphaa
