/- YtippcmedgfmgbaaGreatP01: a calculus of walks, plain facts of the numbers that are shared, and contracts of functions of the program: called in any world that meets a contract's premises, a function returns what the contract says and changes no more than it says. -/
import Derived.WalkKit
import Derived.OrdersHeld
section
/- The walk over frames that are read as functions: rules for code, and one theorem for regions in whatever order. -/
namespace Go.Eng
abbrev Env := Nat → Value
/-- The frame with one slot written. -/
def upd (e : Env) (d : Nat) (v : Value) : Env := fun t => if t = d then v else e t
def updo (e : Env) (d : Option Nat) (v : Value) : Env := match d with | some d => upd e d v | none => e
/-- What an operand is. -/
def ev (e : Env) : Operand → Value
  | .tmp t => e t
  | .const v => v
  | .global g => .pointer (some ⟨g, 0, none⟩)
  | .func f => .func (.func f) #[] #[]
/-- The frame of n slots reads as e. -/
structure Is (n : Nat) (a : Act) (e : Env) : Prop where
  size : a.tmps.size = n
  defers : a.defers = []
  read : ∀ t, a.tmps.getD t undef = e t
theorem Is.eval {n : Nat} {a : Act} {e : Env} (h : Is n a e) : a.eval = ev e := by
  funext x
  cases x with
  | tmp t => exact h.read t
  | _ => rfl
theorem Is.put {n : Nat} {a : Act} {e : Env} (h : Is n a e) {d : Option Nat} (hd : ∀ k, d = some k → k < n) (v : Value) : Is n (a.put d v) (updo e d v) := by
  cases d with
  | none => exact h
  | some d =>
    have hlt := hd d rfl
    refine ⟨by simp [Act.put, h.size], h.defers, fun t => ?_⟩
    show (a.tmps.setIfInBounds d v).getD t undef = upd e d v t
    unfold upd
    have hr := h.read t
    by_cases e' : t = d
    · subst e'
      rw [if_pos rfl]
      simp [Array.getD_eq_getD_getElem?, h.size, hlt]
    · rw [if_neg e']
      simp only [Array.getD_eq_getD_getElem?] at hr ⊢
      rw [Array.getElem?_setIfInBounds_ne (fun x => e' x.symm)]
      exact hr
theorem Is.unique {n : Nat} {a : Act} {e e' : Env} (h : Is n a e) (h' : Is n a e') : e = e' :=
  funext fun t => (h.read t).symm.trans (h'.read t)
abbrev Post := Exit → Env → World → Prop
/-- A post on frames that are read. Nothing panics, nothing outgrows. -/
def lift (n : Nat) (Q : Post) : Exit → Act → World → Prop := fun x a w => (∃ e, Is n a e ∧ Q x e w) ∧ (∀ c, x ≠ .panic c)
/-- The codes one behind the other. -/
def Go (P : Program) (n : Nat) : List Code → Post → Env → World → Prop
  | [], Q, e, w => Q .normal e w
  | c :: k, Q, e, w => ∀ a, Is n a e → c.wp P (lift n fun x e w => match x with | .normal => Go P n k Q e w | x => Q x e w) a w
section
variable {P : Program} {n : Nat} {k : List Code} {Q : Post} {e : Env} {w : World}
theorem lift_mono {Q Q' : Post} (h : ∀ x e w, Q x e w → Q' x e w) (x : Exit) (a : Act) (w : World) : lift n Q x a w → lift n Q' x a w :=
  fun ⟨⟨e, h1, h2⟩, h3⟩ => ⟨⟨e, h1, h _ _ _ h2⟩, h3⟩
theorem Go.mono : ∀ {k : List Code} {Q Q' : Post} {e : Env} {w : World}, (∀ x e w, Q x e w → Q' x e w) → Go P n k Q e w → Go P n k Q' e w
  | [], _, _, _, _, h, g => h _ _ _ g
  | _ :: k, _, _, _, _, h, g => fun a ha => wp_mono (g a ha) (lift_mono fun x e w hx => by
      cases x with
      | normal => exact Go.mono h hx
      | _ => exact h _ _ _ hx)
theorem go_nil (h : Q .normal e w) : Go P n [] Q e w := h
theorem go_seq {x y : Code} (h : Go P n (x :: y :: k) Q e w) : Go P n (.seq x y :: k) Q e w := fun a ha => by
  refine wp_seq (wp_mono (h a ha) ?_)
  rintro x' a' w' ⟨⟨e', h1, h2⟩, h3⟩
  cases x' with
  | normal => exact h2 a' h1
  | panic c => exact (h3 c rfl).elim
  | _ => exact ⟨⟨e', h1, h2⟩, h3⟩
theorem go_skip (h : Go P n k Q e w) : Go P n (.skip :: k) Q e w := fun _ ha => wp_skip ⟨⟨_, ha, h⟩, by simp⟩
theorem go_exit {id : Nat} (h : Q (.exit id) e w) : Go P n (.exit id :: k) Q e w := fun _ ha => wp_exit ⟨⟨_, ha, h⟩, by simp⟩
theorem go_ret (h : Q .ret e w) : Go P n (.ret :: k) Q e w := fun _ ha => wp_ret ⟨⟨_, ha, h⟩, by simp⟩
theorem go_cond {c : Operand} {x y : Code} (t : Bool) (hc : ev e c = .bool t) (h : Go P n ((if t then x else y) :: k) Q e w) : Go P n (.cond c x y :: k) Q e w :=
  fun a ha => wp_cond (t := t) (by rw [ha.eval, hc]) (h a ha)
theorem go_true {c : Operand} {x y : Code} (hc : ev e c = .bool true) (h : Go P n (x :: k) Q e w) : Go P n (.cond c x y :: k) Q e w := go_cond true hc h
theorem go_false {c : Operand} {x y : Code} (hc : ev e c = .bool false) (h : Go P n (y :: k) Q e w) : Go P n (.cond c x y :: k) Q e w := go_cond false hc h
theorem go_ifb {c : Operand} {x y : Code} (t : Bool) (hc : ev e c = .bool t) (h1 : t = true → Go P n (x :: k) Q e w) (h2 : t = false → Go P n (y :: k) Q e w) :
    Go P n (.cond c x y :: k) Q e w := by
  cases t
  · exact go_false hc (h2 rfl)
  · exact go_true hc (h1 rfl)
/-- Out of a block. -/
def blockP (id : Nat) (K : Env → World → Prop) (Q : Post) : Post
  | .normal, e, w => K e w
  | .exit i, e, w => if i = id then K e w else Q (.exit i) e w
  | x, e, w => Q x e w
theorem go_block {id : Nat} {c : Code} (h : Go P n [c] (blockP id (Go P n k Q) Q) e w) : Go P n (.block id c :: k) Q e w := fun a ha => by
  refine wp_block (wp_mono (h a ha) ?_)
  rintro x a' w' ⟨⟨e', h1, h2⟩, h3⟩
  cases x with
  | normal => exact ⟨⟨e', h1, h2⟩, h3⟩
  | panic c => exact (h3 c rfl).elim
  | exit i =>
    simp only [Exit.inBlock]
    simp only [blockP] at h2
    by_cases hi : i = id
    · rw [if_pos hi]; rw [if_pos hi] at h2; exact ⟨⟨e', h1, h2⟩, by simp⟩
    · rw [if_neg hi]; rw [if_neg hi] at h2; exact ⟨⟨e', h1, h2⟩, by simp⟩
  | _ => exact ⟨⟨e', h1, h2⟩, h3⟩
theorem block_hit {id : Nat} {K : Env → World → Prop} (h : K e w) : blockP id K Q (.exit id) e w := by simp only [blockP, if_true]; exact h
theorem block_normal {id : Nat} {K : Env → World → Prop} (h : K e w) : blockP id K Q .normal e w := h
theorem block_ret {id : Nat} {K : Env → World → Prop} (h : Q .ret e w) : blockP id K Q .ret e w := h
/-- Out of a round. -/
def loopP (I : Env → World → Prop) (Q : Post) : Post
  | .normal, e, w => I e w
  | x, e, w => Q x e w
theorem go_loop {σ : Type} {c : Code} (I : σ → Env → World → Prop) (μ : σ → Nat) (s : σ) (h0 : I s e w)
    (hr : ∀ s e w, I s e w → Go P n [c] (loopP (fun e' w' => ∃ s', μ s' < μ s ∧ I s' e' w') Q) e w) : Go P n (.loop c :: k) Q e w := by
  -- by induction on the measure, with the kit's rule for a single state
  intro a ha
  intro b kk cs
  suffices key : ∀ m s e w a, μ s = m → I s e w → Is n a e → ∃ x a' w', lift n (fun x e w => match x with | .normal => Go P n k Q e w | x => Q x e w) x a' w' ∧
      Arrives P (lone (b.at a (.code c :: .inLoop c :: kk)) cs w) b kk cs x a' w' by
    obtain ⟨x, a', w', h1, h2⟩ := key _ s e w a rfl h0 ha
    exact ⟨x, a', w', h1, .of_steps (.one step_loop) h2⟩
  intro m
  induction m using Nat.strongRecOn with
  | _ m ih =>
    intro s e w a hm hI ha
    obtain ⟨x, a₁, w₁, hq, harr⟩ := hr s e w hI a ha b (.inLoop c :: kk) cs
    obtain ⟨⟨e₁, hi₁, hq₁⟩, hp⟩ := hq
    cases x with
    | normal =>
      obtain ⟨s', hlt, hI'⟩ := (hq₁ : ∃ s', μ s' < μ s ∧ I s' e₁ w₁)
      obtain ⟨x, a', w', h1, h2⟩ := ih (μ s') (hm ▸ hlt) s' e₁ w₁ a₁ rfl hI' hi₁
      exact ⟨x, a', w', h1, .of_steps (Steps.trans harr (.one step_inLoop)) h2⟩
    | exit id => exact ⟨_, a₁, w₁, ⟨⟨e₁, hi₁, hq₁⟩, hp⟩, .pass (x := .inLoop c) rfl (fun _ _ => .inl (by simp)) harr⟩
    | goto l => exact ⟨_, a₁, w₁, ⟨⟨e₁, hi₁, hq₁⟩, hp⟩, .pass (x := .inLoop c) rfl (fun _ _ => .inl (by simp)) harr⟩
    | ret => exact ⟨_, a₁, w₁, ⟨⟨e₁, hi₁, hq₁⟩, hp⟩, .pass (x := .inLoop c) rfl (fun _ _ => .inl (by simp)) harr⟩
    | panic ch => exact (hp ch rfl).elim
    | outgrown => exact ⟨_, a₁, w₁, ⟨⟨e₁, hi₁, hq₁⟩, hp⟩, .pass (x := .inLoop c) rfl (fun _ _ => .inl (by simp)) harr⟩
theorem loop_normal {I : Env → World → Prop} (h : I e w) : loopP I Q .normal e w := h
theorem loop_exit {I : Env → World → Prop} {i : Nat} (h : Q (.exit i) e w) : loopP I Q (.exit i) e w := h
theorem loop_ret {I : Env → World → Prop} (h : Q .ret e w) : loopP I Q .ret e w := h
end
/- ### Calls -/
/-- The call returns a value. -/
def Rtn (P : Program) (f : FuncId) (args : Array Value) (w : World) (R : Value → World → Prop) : Prop :=
  Calls P f args w fun e w' => ∃ v, e = .returned v ∧ R v w'
theorem Rtn.mono {P : Program} {f : FuncId} {args : Array Value} {w : World} {R R' : Value → World → Prop} (h : Rtn P f args w R) (hr : ∀ v w', R v w' → R' v w') : Rtn P f args w R' :=
  Calls.mono h fun _ w' ⟨v, he, hv⟩ => ⟨v, he, hr v w' hv⟩
/-- A slot's or a cell's value as a result. -/
def resV (P : Program) (e : Env) (w : World) (r : ResultVar) (v : Value) : Prop :=
  match r with
  | .tmp t => e t = v
  | .cell t ty => ∃ a, e t = .pointer (some a) ∧ (loadVar ty a).run P w = .ok v w
def tup (vs : List Value) : Value := match vs with | [v] => v | vs => .tuple vs.toArray
inductive ResAll (P : Program) (e : Env) (w : World) : List ResultVar → List Value → Prop
  | nil : ResAll P e w [] []
  | cons {r rs v vs} : resV P e w r v → ResAll P e w rs vs → ResAll P e w (r :: rs) (v :: vs)
/-- What is asked at a function's end. -/
def retP (P : Program) (rs : List ResultVar) (R : Value → World → Prop) : Post
  | .normal, e, w | .ret, e, w => ∃ vs, ResAll P e w rs vs ∧ R (tup vs) w
  | _, _, _ => False
theorem run_results {P : Program} {e : Env} {w : World} {f : ResultVar → Sem Value} (hf : ∀ r v, resV P e w r v → (f r).run P w = .ok v w) {rs : List ResultVar} {vs : List Value}
    (h : ResAll P e w rs vs) : (rs.mapM (m := Sem) f).run P w = .ok vs w := by
  induction h with
  | nil => rfl
  | @cons r rs v vs hv _ ih =>
    rw [List.mapM_cons, Sem.run_bind, hf r v hv, Result.andThen_ok, Sem.run_bind, ih, Result.andThen_ok, Sem.run_pure]
theorem results_run {P : Program} {fn : Func} {e : Env} {w : World} {tmps : Array Value} (hread : ∀ t, tmps.getD t undef = e t) {rs : List ResultVar} {vs : List Value}
    (hrs : fn.results.toList = rs) (h : ResAll P e w rs vs) : (results fn tmps).run P w = .ok (tup vs) w := by
  have hmap : ∀ f : ResultVar → Sem Value, fn.results.mapM f = (do let l ← rs.mapM f; pure l.toArray) := fun f => by
    rw [← hrs, Array.mapM_eq_mapM_toList]; rfl
  unfold results
  rw [hmap, Sem.run_bind, Sem.run_bind, run_results (e := e) (vs := vs) ?_ h]
  · simp only [Result.andThen_ok, Sem.run_pure]
    match vs with
    | [] => rfl
    | [v] => rfl
    | v :: u :: r => simp [tup]
  · intro r v hv
    cases r with
    | tmp t =>
      have hv' : e t = v := hv
      show (Sem.pure _).run P w = _
      rw [hread, hv']
      rfl
    | cell t ty =>
      obtain ⟨a, ha, hl⟩ := hv
      have ha' : tmps.getD t undef = .pointer (some a) := (hread t).trans ha
      show (Sem.bind (asAddr (tmps.getD t undef)) fun a => loadVar ty a).run P w = _
      rw [ha']
      exact hl
/-- A function with a body. -/
theorem fn_body {P : Program} {f : FuncId} {fn : Func} {c : Code} {l : List Value} {w : World} {R : Value → World → Prop} (n : Nat) (rs : List ResultVar)
    (hf : P.funcs[f]? = some fn) (hb : fn.body = some c) (hn : fn.ntmps = n) (hl : l.length ≤ n) (hrs : fn.results.toList = rs)
    (h : Go P n [c] (retP P rs R) (fun t => l.getD t undef) w) : Rtn P f l.toArray w R := by
  refine calls_of_wp hf hb ?_
  have his : Is n { tmps := l.toArray ++ Array.replicate (fn.ntmps - l.toArray.size) undef, defers := [] } (fun t => l.getD t undef) := by
    refine ⟨by simp [hn]; omega, rfl, fun t => ?_⟩
    simp only [Array.getD_eq_getD_getElem?, List.getD_eq_getElem?_getD]
    rw [Array.getElem?_append]
    split
    · simp
    · rename_i hlt
      have hge : l.length ≤ t := by simpa using hlt
      rw [List.getElem?_eq_none hge]
      simp [Array.getElem?_replicate]
      split <;> rfl
  refine wp_mono (h _ his) ?_
  rintro x a w' ⟨⟨e, h1, h2⟩, h3⟩
  cases x with
  | normal =>
    obtain ⟨vs, hv, hR⟩ := (h2 : ∃ vs, ResAll P e w' rs vs ∧ R (tup vs) w')
    exact ⟨h1.defers, _, results_run h1.read hrs hv, _, rfl, hR⟩
  | ret =>
    obtain ⟨vs, hv, hR⟩ := (h2 : ∃ vs, ResAll P e w' rs vs ∧ R (tup vs) w')
    exact ⟨h1.defers, _, results_run h1.read hrs hv, _, rfl, hR⟩
  | _ => exact (h2 : False).elim
end Go.Eng
/- Regions: the operations in one order that is named; the order that the text leaves open. -/
namespace Go.Eng
/-- One operation run to its end, in the world w. -/
def OpWp (P : Program) (o : Oper) (e : Env) (w : World) (K : Value → World → Prop) : Prop :=
  match (execOp (ev e) o).run P w with
  | .ok (.value v) w' => K v w'
  | .ok .skip w' => K undef w'
  | .ok (.enter f args) w' => Rtn P f args w' K
  | .ok (.row row args) w' => Rows P row args w' K
  | _ => False
/-- Is the operation carried out? -/
def wantedE (ops : Array Oper) (e : Env) (o : Oper) : Bool :=
  match o.guard with
  | none => true
  | some (j, want) => (match (ops[j]?).bind (·.dst) with | some d => (match e d with | .bool b => some b | _ => none) | none => none) == some want
/-- In which order a region is walked: 'take': it yields the same in every world that meets S; 'eff': it is carried out; 'alts': whichever comes up. -/
inductive Plan where
  | done
  | take (i : Nat) (p : Plan)
  | eff (i : Nat) (p : Plan)
  | alts (p q : Plan)
def Rg (P : Program) (ops : Array Oper) (S : World → Prop) (m : Nat) : Plan → (Env → World → Prop) → Env → World → Prop
  | .done, K, e, w => K e w
  | .take i r, K, e, w => ∃ o, ops[i]? = some o ∧
    if wantedE ops e o = true then ∃ v, (∀ w', S w' → (execOp (ev e) o).run P w' = .ok (.value v) w') ∧ Rg P ops S m r K (updo e o.dst v) w
    else Rg P ops S m r K (updo e o.dst undef) w
  | .eff i r, K, e, w => ∃ o, ops[i]? = some o ∧
    if wantedE ops e o = true then OpWp P o e w fun v w' => (i < m → S w') ∧ Rg P ops S m r K (updo e o.dst v) w'
    else Rg P ops S m r K (updo e o.dst undef) w
  | .alts p q, K, e, w => Rg P ops S m p K e w ∧ Rg P ops S m q K e w
def smallDst (ops : Array Oper) (n : Nat) : Bool := ops.toList.all fun o => match o.dst with | some d => decide (d < n) | none => true
theorem smallDst_spec {ops : Array Oper} {n i : Nat} {o : Oper} (h : smallDst ops n = true) (hi : ops[i]? = some o) : ∀ k, o.dst = some k → k < n := by
  intro k hk
  have hm : o ∈ ops.toList := Array.mem_toList_iff.2 (Array.mem_of_getElem? hi)
  have := (List.all_eq_true.1 h) o hm
  simpa [hk] using this
theorem wanted_is {ops : Array Oper} {n : Nat} {a : Act} {e : Env} (ha : Is n a e) (o : Oper) : Region.wanted o (yielded ops a.tmps) = wantedE ops e o := by
  unfold Region.wanted wantedE
  cases o.guard with
  | none => rfl
  | some g =>
    obtain ⟨j, want⟩ := g
    show (yielded ops a.tmps j == some want) = _
    congr 1
    unfold yielded
    cases h : (ops[j]?).bind (·.dst) with
    | none => simp
    | some d =>
      have hr := ha.read d
      show (match a.tmps[d]? with | some (Value.bool b) => some b | _ => none) = (match e d with | .bool b => some b | _ => none)
      rw [← hr, Array.getD_eq_getD_getElem?]
      cases a.tmps[d]? with
      | none => rfl
      | some v => cases v <;> rfl
section
variable {P : Program} {n : Nat} {ops : Array Oper} {Q : Post} {S : World → Prop} {m : Nat}
theorem wpOp_of {i : Nat} {o : Oper} {e : Env} {w : World} {a : Act} (ha : Is n a e) (hi : ops[i]? = some o) (hd : ∀ k, o.dst = some k → k < n)
    {QQ : Exit → Act → World → Prop} {K : Act → World → Prop} {KK : Value → World → Prop} (hw : wantedE ops e o = true) (h : OpWp P o e w KK)
    (hk : ∀ v w', KK v w' → ∀ a', Is n a' (updo e o.dst v) → a' = a.put o.dst v → K a' w') : wpOp P ops QQ i K a w := by
  unfold wpOp
  simp only [hi]
  rw [wanted_is ha, hw, if_pos rfl]
  refine .inl ?_
  unfold Oper.wp OpWp at *
  rw [ha.eval]
  generalize (execOp (ev e) o).run P w = r at *
  have put : ∀ v w', KK v w' → K (a.put o.dst v) w' := fun v w' hv => hk v w' hv _ (ha.put hd v) rfl
  cases r with
  | ok nx w' =>
    cases nx with
    | value v => exact put v w' h
    | skip => exact put _ w' h
    | enter f args =>
      refine Calls.mono (h : Rtn P f args w' KK) fun x w'' ⟨v, hx, hv⟩ => ?_
      subst hx
      exact put v w'' hv
    | row row args => exact Rows.mono h fun v w'' hv => put v w'' hv
    | _ => exact (h : False).elim
  | halt x w' => exact (h : False).elim
theorem wpOp_skip {i : Nat} {o : Oper} {e : Env} {w : World} {a : Act} (ha : Is n a e) (hi : ops[i]? = some o)
    {QQ : Exit → Act → World → Prop} {K : Act → World → Prop} (hw : ¬ wantedE ops e o = true) (h : K (a.put o.dst undef) w) : wpOp P ops QQ i K a w := by
  unfold wpOp
  simp only [hi]
  rw [wanted_is ha, if_neg hw]
  exact h
/-- n operations from number k on, in the text's order -/
def inText : Nat → Nat → Plan
  | 0, _ => .done
  | n + 1, k => .eff k (inText n (k + 1))
/-- A region in the text's order. -/
theorem rg_ops (hd : smallDst ops n = true) {QQ : Exit → Act → World → Prop} {K : Env → World → Prop} (hK : ∀ e w a, Is n a e → K e w → QQ .normal a w) :
    ∀ (c k : Nat) (e : Env) (w : World) (a : Act), Is n a e → Rg P ops S m (inText c k) K e w → wpOps P ops QQ (List.range' k c) a w
  | 0, k, e, w, a, ha, h => hK e w a ha h
  | c + 1, k, e, w, a, ha, h => by
    obtain ⟨o, hi, h⟩ := h
    rw [List.range'_succ, wpOps_cons]
    split at h
    · rename_i hw
      refine wpOp_of ha hi (smallDst_spec hd hi) hw h ?_
      rintro v' w' ⟨_, hr⟩ a' ha' rfl
      exact rg_ops hd hK c _ _ _ _ ha' hr
    · rename_i hw
      exact wpOp_skip ha hi hw (rg_ops hd hK c _ _ _ _ (ha.put (smallDst_spec hd hi) _) h)
/-- A region that draws nothing. -/
theorem go_region {id : Nat} {k : List Code} {e : Env} {w : World} (c : Nat) (hc : ops.size = c) (hd : smallDst ops n = true)
    (h : Rg P ops (fun _ => True) 0 (inText c 0) (Go P n k Q) e w) : Go P n (.region id ops false :: k) Q e w := fun a ha => by
  refine wp_region ?_
  rw [List.range_eq_range', hc]
  exact rg_ops hd (fun e w a ha hk => ⟨⟨e, ha, hk⟩, by simp⟩) c 0 e w a ha h
/- #### The order left open -/
/-- Whatever order is picked; S is shown anew behind each operation below m. -/
def AnyM (P : Program) (ops : Array Oper) (QQ : Exit → Act → World → Prop) (S : World → Prop) (m : Nat) : Nat → Array Bool → Act → World → Prop
  | 0, listed, a, w => Region.ready .any ops listed = [] ∧ QQ .normal a w
  | fuel + 1, listed, a, w =>
    (Region.ready .any ops listed = [] → QQ .normal a w) ∧
    ∀ i ∈ Region.ready .any ops listed, wpOp P ops QQ i (fun a' w' => (i < m → S w') ∧ AnyM P ops QQ S m fuel (listed.setIfInBounds i true) a' w') a w
theorem any_of_anyM {QQ : Exit → Act → World → Prop} : ∀ (fuel : Nat) (listed : Array Bool) (a : Act) (w : World), AnyM P ops QQ S m fuel listed a w → wpAny P .any ops QQ fuel listed a w
  | 0, _, _, _, h => h
  | fuel + 1, _, _, _, h => ⟨h.1, fun i hi => wpOp_mono (fun a' w' h' => any_of_anyM fuel _ a' w' h'.2) (h.2 i hi)⟩
/-- Operation j waits for i, itself or through others. -/
def reaches (ops : Array Oper) : Nat → Nat → Nat → Bool
  | 0, _, _ => false
  | f + 1, j, i => match ops[j]? with
    | some o => (o.after.toList.any fun x => Region.binds .any x && x.on == i) || (o.after.toList.any fun x => Region.binds .any x && reaches ops f x.on i)
    | none => false
/-- Every operation from m on waits for number i. -/
def waitsFor (ops : Array Oper) (m i : Nat) : Bool := (List.range ops.size).all fun j => decide (j < m) || reaches ops ops.size j i
/-- What is listed has come up behind what it waits for. -/
def Down (ops : Array Oper) (listed : Array Bool) : Prop := ∀ k o, ops[k]? = some o → listed.getD k false = true → ∀ x ∈ o.after, Region.binds .any x = true → listed.getD x.on false = true
theorem reaches_listed {listed : Array Bool} (hd : Down ops listed) : ∀ (f k i : Nat), reaches ops f k i = true → listed.getD k false = true → listed.getD i false = true
  | 0, _, _, h, _ => by cases h
  | f + 1, k, i, h, hk => by
    unfold reaches at h
    cases ho : ops[k]? with
    | none => rw [ho] at h; cases h
    | some o =>
      rw [ho] at h
      simp only [Bool.or_eq_true, List.any_eq_true, Bool.and_eq_true, beq_iff_eq] at h
      rcases h with ⟨x, hx, hb, he⟩ | ⟨x, hx, hb, hr⟩
      · have := hd k o ho hk x (Array.mem_toList_iff.1 hx) hb
        rwa [he] at this
      · exact reaches_listed hd f x.on i hr (hd k o ho hk x (Array.mem_toList_iff.1 hx) hb)
/-- what is ready and waits for i: then i is listed -/
theorem waits_listed {listed : Array Bool} {i j : Nat} (hd : Down ops listed) (h : waitsFor ops m i = true) (hj : j ∈ Region.ready .any ops listed) (hm : ¬ j < m) : listed.getD i false = true := by
  obtain ⟨_, oj, hoj, hall⟩ := mem_ready.1 hj
  have hlt : j < ops.size := by
    rcases Nat.lt_or_ge j ops.size with h' | h'
    · exact h'
    · rw [Array.getElem?_eq_none h'] at hoj; cases hoj
  unfold waitsFor at h
  rw [List.all_eq_true] at h
  have := h j (List.mem_range.2 hlt)
  simp only [hm, decide_false, Bool.false_or] at this
  cases hs : ops.size with
  | zero => omega
  | succ f =>
    rw [hs] at this
    unfold reaches at this
    rw [hoj] at this
    simp only [Bool.or_eq_true, List.any_eq_true, Bool.and_eq_true, beq_iff_eq] at this
    rcases this with ⟨x, hx, hb, he⟩ | ⟨x, hx, hb, hr⟩
    · have := hall x (Array.mem_toList_iff.1 hx) hb
      rwa [he] at this
    · exact reaches_listed hd f x.on i hr (hall x (Array.mem_toList_iff.1 hx) hb)
theorem getD_set_mono {l : Array Bool} {j k : Nat} (h : l.getD k false = true) : (l.setIfInBounds j true).getD k false = true := by
  rw [Array.getD_eq_getD_getElem?] at h ⊢
  rw [Array.getElem?_setIfInBounds]
  split
  · rename_i he; subst he
    cases hg : l[j]? with
    | none => rw [hg] at h; cases h
    | some q => simp only [Array.getElem?_eq_some_iff] at hg; obtain ⟨hg, _⟩ := hg; rw [if_pos hg]; rfl
  · exact h
theorem Down.list {listed : Array Bool} {j : Nat} (hd : Down ops listed) (hj : j ∈ Region.ready .any ops listed) : Down ops (listed.setIfInBounds j true) := fun k o ho hk x hx hb => by
  by_cases hkj : k = j
  · subst hkj
    obtain ⟨_, oj, hoj, hall⟩ := mem_ready.1 hj
    rw [ho] at hoj; cases hoj
    exact getD_set_mono (hall x hx hb)
  · have : listed.getD k false = true := by rw [getD_set_ne false (fun e => hkj e.symm)] at hk; exact hk
    exact getD_set_mono (hd k o ho this x hx hb)
theorem anyM_first {QQ : Exit → Act → World → Prop} {i : Nat} {oi : Oper} {v : Value} (hi : ops[i]? = some oi) (him : i < m) (hns : Region.noSelect ops = true) (hwt : waitsFor ops m i = true)
    (hQ : ∀ c a w, ¬ QQ (.panic c) a w) :
    ∀ (fuel : Nat) (listed : Array Bool) (a : Act) (w : World), Down ops listed →
      (∀ j oj, ops[j]? = some oj → j ≠ i → listed.getD j true = false → (∀ x ∈ oj.after, Region.binds .any x = true → x.on ≠ i) → oi.apart ops oj = true) →
      i ∈ Region.ready .any ops listed → YieldsIf P ops S oi v a → S w →
      AnyM P ops QQ S m fuel (listed.setIfInBounds i true) (a.put oi.dst v) w → AnyM P ops QQ S m (fuel + 1) listed a w := by
  intro fuel
  induction fuel with
  | zero =>
    intro listed a w _ _ hr hy hS H
    refine ⟨fun h => (by rw [h] at hr; cases hr), fun j hj => ?_⟩
    by_cases hji : j = i
    · subst hji; exact hy.wpOp hi hS ⟨fun _ => hS, H⟩
    · have := ready_mono hj hji
      rw [H.1] at this
      cases this
  | succ fuel ih =>
    intro listed a w hdn hfree hr hy hS H
    refine ⟨fun h => (by rw [h] at hr; cases hr), fun j hj => ?_⟩
    by_cases hji : j = i
    · subst hji; exact hy.wpOp hi hS ⟨fun _ => hS, H⟩
    · have h1 := H.2 j (ready_mono hj hji)
      obtain ⟨hjun, oj, hoj, hall⟩ := mem_ready.1 hj
      have hnot : ∀ x ∈ oj.after, Region.binds .any x = true → x.on ≠ i := fun x hx hb heq => by
        have h1 := hall x hx hb
        have h0 := (mem_ready.1 hr).1
        rw [heq] at h1
        rw [Array.getD_eq_getD_getElem?] at h0 h1
        cases hg : listed[i]? with
        | none => rw [hg] at h1; cases h1
        | some q => rw [hg] at h0 h1; rw [Option.getD_some] at h0 h1; rw [h0] at h1; cases h1
      have hjm : j < m := by
        rcases Nat.lt_or_ge j m with h' | h'
        · exact h'
        · exfalso
          have h1 := waits_listed hdn hwt hj (by omega)
          have h0 := (mem_ready.1 hr).1
          rw [Array.getD_eq_getD_getElem?] at h0 h1
          cases hg : listed[i]? with
          | none => rw [hg] at h1; cases h1
          | some q => rw [hg] at h0 h1; rw [Option.getD_some] at h0 h1; rw [h0] at h1; cases h1
      have h2 := wpOp_putIf hoj (hfree j oj hoj hji hjun hnot) (fun cs b => Region.noSelect_spec hns i oi cs b hi) (fun cs b => Region.noSelect_spec hns j oj cs b hoj)
        (fun c a w h => (hQ _ _ _ h).elim) hy h1
      have hfree' : ∀ k ok, ops[k]? = some ok → k ≠ i → (listed.setIfInBounds j true).getD k true = false →
          (∀ x ∈ ok.after, Region.binds .any x = true → x.on ≠ i) → oi.apart ops ok = true := fun k ok hk hki hun hno => by
        refine hfree k ok hk hki ?_ hno
        by_cases hjk : j = k
        · subst hjk; exact hjun
        · rw [getD_set_ne true hjk] at hun; exact hun
      refine wpOp_mono (fun a' w' h3 => ⟨h3.2.1, ih (listed.setIfInBounds j true) a' w' (hdn.list hj) hfree' (ready_mono hr (Ne.symm hji)) h3.1 (h3.2.1 hjm) ?_⟩) h2
      rw [Array.setIfInBounds_comm _ _ hji]
      exact h3.2.2
def Plan.heads : Plan → List Nat
  | .eff i _ => [i]
  | .alts p q => p.heads ++ q.heads
  | _ => []
/-- Nothing of it lies below m. -/
def Plan.late (m : Nat) : Plan → Bool
  | .done => true
  | .take i p => decide (m ≤ i) && p.late m
  | .eff i p => decide (m ≤ i) && p.late m
  | .alts p q => p.late m && q.late m
def Plan.size : Plan → Nat
  | .done => 0
  | .take _ p | .eff _ p => p.size + 1
  | .alts p _ => p.size
/-- The plan fits the edges; 'hd': the head's operations are known to be all that may come up. -/
def okPlan (ops : Array Oper) (m : Nat) : Plan → Bool → Array Bool → Bool
  | .done, _, listed => (Region.ready .any ops listed).isEmpty
  | .take i r, _, listed => decide (i < m) && waitsFor ops m i && (Region.ready .any ops listed).contains i && Region.free .any ops listed i && okPlan ops m r false (listed.setIfInBounds i true)
  | .eff i r, hd, listed => (hd || Region.ready .any ops listed == [i]) && (decide (i < m) || r.late m) && okPlan ops m r false (listed.setIfInBounds i true)
  | .alts p q, hd, listed => (hd || Region.ready .any ops listed == p.heads ++ q.heads) && (match p with | .eff .. | .alts .. => true | _ => false) && (match q with | .eff .. | .alts .. => true | _ => false) &&
      (p.size == q.size) && okPlan ops m p true listed && okPlan ops m q true listed
/-- What is shown of the operations that a plan's head names. -/
def HeadsM (P : Program) (ops : Array Oper) (QQ : Exit → Act → World → Prop) (S : World → Prop) (m : Nat) (fuel : Nat) (listed : Array Bool) (a : Act) (w : World) (is : List Nat) : Prop :=
  ∀ i ∈ is, wpOp P ops QQ i (fun a' w' => (i < m → S w') ∧ AnyM P ops QQ S m fuel (listed.setIfInBounds i true) a' w') a w
theorem rg_anyM {QQ : Exit → Act → World → Prop} (hns : Region.noSelect ops = true) (hd : smallDst ops n = true) (hQ : ∀ c a w, ¬ QQ (.panic c) a w)
    {K : Env → World → Prop} (hK : ∀ e w a, Is n a e → K e w → QQ .normal a w) :
    ∀ (p : Plan) (listed : Array Bool) (e : Env) (w : World) (a : Act), Down ops listed → Is n a e → (p.late m = false → S w) → Rg P ops S m p K e w →
      (okPlan ops m p false listed = true → AnyM P ops QQ S m p.size listed a w) ∧
      ((match p with | .eff .. | .alts .. => true | _ => false) = true → (∀ i ∈ p.heads, i ∈ Region.ready .any ops listed) → okPlan ops m p true listed = true → ∀ f, p.size = f + 1 → HeadsM P ops QQ S m f listed a w p.heads)
  | .done, listed, e, w, a, _, ha, _, h => by
    refine ⟨fun hok => ?_, fun h => by cases h⟩
    have : Region.ready .any ops listed = [] := by simpa [okPlan] using hok
    exact ⟨this, hK e w a ha h⟩
  | .take i r, listed, e, w, a, hdn, ha, hS, h => by
    refine ⟨fun hok => ?_, fun h => by cases h⟩
    obtain ⟨o, hi, h⟩ := h
    simp only [okPlan, Bool.and_eq_true, decide_eq_true_eq] at hok
    obtain ⟨⟨⟨⟨him, hwt⟩, hrd⟩, hfr⟩, hok⟩ := hok
    have hSw : S w := hS (by simp only [Plan.late, Bool.and_eq_false_iff, decide_eq_false_iff_not]; omega)
    have rec' : ∀ v, Rg P ops S m r K (updo e o.dst v) w → AnyM P ops QQ S m r.size (listed.setIfInBounds i true) (a.put o.dst v) w := fun v hv =>
      (rg_anyM hns hd hQ hK r _ _ _ _ (hdn.list (by simpa using hrd)) (ha.put (smallDst_spec hd hi) v) (fun _ => hSw) hv).1 hok
    have fin : ∀ v, YieldsIf P ops S o v a → Rg P ops S m r K (updo e o.dst v) w → AnyM P ops QQ S m (r.size + 1) listed a w := fun v hy hv =>
      anyM_first hi him hns hwt hQ _ _ _ _ hdn (Region.free_spec hi hfr) (by simpa using hrd) hy hSw (rec' v hv)
    split at h
    · rename_i hw
      obtain ⟨v, hv, h⟩ := h
      exact fin v (.inl ⟨by rw [wanted_is ha]; exact hw, fun w' hS' => by rw [ha.eval]; exact hv w' hS'⟩) h
    · rename_i hw
      exact fin undef (.inr ⟨by rw [wanted_is ha]; simpa using hw, rfl⟩) h
  | .eff i r, listed, e, w, a, hdn, ha, hS, h => by
    have heads : i ∈ Region.ready .any ops listed → okPlan ops m (.eff i r) true listed = true → HeadsM P ops QQ S m r.size listed a w [i] := fun hri hok j hj => by
      obtain ⟨o, hi, h⟩ := h
      simp only [okPlan, Bool.and_eq_true, Bool.true_or, true_and] at hok
      obtain ⟨hlate, hok⟩ := hok
      have hj' : j = i := by simpa using hj
      subst hj'
      have need : ∀ w', (j < m → S w') → (r.late m = false → S w') := fun w' hs hr => by
        simp only [Bool.or_eq_true, decide_eq_true_eq] at hlate
        rcases hlate with h' | h'
        · exact hs h'
        · rw [hr] at h'; cases h'
      split at h
      · rename_i hw
        refine wpOp_of ha hi (smallDst_spec hd hi) hw h ?_
        rintro v' w' ⟨hs, hr⟩ a' ha' rfl
        exact ⟨hs, (rg_anyM hns hd hQ hK r _ _ _ _ (hdn.list hri) ha' (need w' hs) hr).1 hok⟩
      · rename_i hw
        have hs : j < m → S w := fun hjm => hS (by simp only [Plan.late, Bool.and_eq_false_iff, decide_eq_false_iff_not]; omega)
        exact wpOp_skip ha hi hw ⟨hs, (rg_anyM hns hd hQ hK r _ _ _ _ (hdn.list hri) (ha.put (smallDst_spec hd hi) _) (need w hs) h).1 hok⟩
    refine ⟨fun hok => ?_, fun _ hrr hok f hf => ?_⟩
    · have hok' : okPlan ops m (.eff i r) true listed = true := by
        simp only [okPlan, Bool.and_eq_true, Bool.true_or, true_and] at hok ⊢
        exact ⟨hok.1.2, hok.2⟩
      have hrd : Region.ready .any ops listed = [i] := by
        simp only [okPlan, Bool.and_eq_true, Bool.false_or, beq_iff_eq] at hok
        exact hok.1.1
      refine ⟨fun h0 => (by rw [h0] at hrd; cases hrd), fun j hj => heads (by rw [hrd]; simp) hok' j (by rw [← hrd]; exact hj)⟩
    · have : r.size = f := by simpa [Plan.size] using hf
      subst this
      exact heads (hrr i (by simp [Plan.heads])) hok
  | .alts p q, listed, e, w, a, hdn, ha, hS, h => by
    obtain ⟨hp, hq⟩ := h
    have hSp : p.late m = false → S w := fun h => hS (by simp [Plan.late, h])
    have hSq : q.late m = false → S w := fun h => hS (by simp [Plan.late, h])
    have ip := (rg_anyM hns hd hQ hK p listed _ _ _ hdn ha hSp hp).2
    have iq := (rg_anyM hns hd hQ hK q listed _ _ _ hdn ha hSq hq).2
    have heads : (∀ i ∈ p.heads ++ q.heads, i ∈ Region.ready .any ops listed) → okPlan ops m (.alts p q) true listed = true → ∀ f, p.size = f + 1 → HeadsM P ops QQ S m f listed a w (p.heads ++ q.heads) := fun hrr hok f hf => by
      simp only [okPlan, Bool.and_eq_true, Bool.true_or, true_and, beq_iff_eq] at hok
      obtain ⟨⟨⟨⟨h1, h2⟩, h3⟩, h4⟩, h5⟩ := hok
      intro i hi
      rcases List.mem_append.1 hi with hi | hi
      · exact ip h1 (fun x hx => hrr x (List.mem_append.2 (.inl hx))) h4 f hf i hi
      · exact iq h2 (fun x hx => hrr x (List.mem_append.2 (.inr hx))) h5 f (h3 ▸ hf) i hi
    have pos : okPlan ops m (.alts p q) true listed = true → ∃ f, p.size = f + 1 := fun hok => by
      have : ∀ p : Plan, (match p with | .eff .. | .alts .. => true | _ => false) = true → okPlan ops m p true listed = true → ∃ f, p.size = f + 1 := by
        intro p
        induction p with
        | done => intro h; cases h
        | take i p _ => intro h; cases h
        | eff i p _ => intro _ _; exact ⟨_, rfl⟩
        | alts p q ih _ =>
          intro _ hok
          simp only [okPlan, Bool.and_eq_true, Bool.true_or, true_and, beq_iff_eq] at hok
          exact ih hok.1.1.1.1 hok.1.2
      simp only [okPlan, Bool.and_eq_true, Bool.true_or, true_and, beq_iff_eq] at hok
      exact this p hok.1.1.1.1 hok.1.2
    refine ⟨fun hok => ?_, fun _ hrr hok f hf => heads hrr hok f hf⟩
    have hok' : okPlan ops m (.alts p q) true listed = true := by
      simp only [okPlan, Bool.and_eq_true, Bool.true_or, true_and] at hok ⊢
      exact ⟨⟨⟨⟨hok.1.1.1.1.2, hok.1.1.1.2⟩, hok.1.1.2⟩, hok.1.2⟩, hok.2⟩
    have hrd : Region.ready .any ops listed = p.heads ++ q.heads := by
      simp only [okPlan, Bool.and_eq_true, Bool.false_or, beq_iff_eq] at hok
      exact hok.1.1.1.1.1
    obtain ⟨f, hf⟩ := pos hok'
    have hh := heads (fun i hi => by rw [hrd]; exact hi) hok' f hf
    show AnyM P ops QQ S m p.size listed a w
    rw [hf]
    refine ⟨fun h0 => ?_, fun j hj => hh j (by rw [← hrd]; exact hj)⟩
    exfalso
    have hne : ∀ p : Plan, (match p with | .eff .. | .alts .. => true | _ => false) = true → okPlan ops m p true listed = true → p.heads ≠ [] := by
      intro p
      induction p with
      | done => intro h; cases h
      | take i p _ => intro h; cases h
      | eff i p _ => intro _ _ h; cases h
      | alts p q ih _ =>
        intro _ hok h
        simp only [okPlan, Bool.and_eq_true, Bool.true_or, true_and, beq_iff_eq] at hok
        exact ih hok.1.1.1.1 hok.1.2 (List.append_eq_nil_iff.1 h).1
    rw [hrd] at h0
    simp only [okPlan, Bool.and_eq_true, Bool.true_or, true_and, beq_iff_eq] at hok'
    exact hne p hok'.1.1.1.1 hok'.1.2 (List.append_eq_nil_iff.1 h0).1
/-- The checks of a region that draws its order, in one Bool. -/
def okRegion (ops : Array Oper) (n m : Nat) (p : Plan) : Bool :=
  Region.noSelect ops && smallDst ops n && decide (p.size = ops.size) && okPlan ops m p false (Array.replicate ops.size false)
/-- A region that draws its order. -/
theorem go_draws {id : Nat} {k : List Code} {e : Env} {w : World} (S : World → Prop) (m : Nat) (p : Plan) (hm : P.follows .mixedOrders = true)
    (hok : okRegion ops n m p = true) (hS : S w.drew)
    (h : Rg P ops S m p (Go P n k Q) e w.drew) : Go P n (.region id ops true :: k) Q e w := fun a ha => by
  simp only [okRegion, Bool.and_eq_true, decide_eq_true_eq] at hok
  obtain ⟨⟨⟨hns, hd⟩, hlen⟩, hok⟩ := hok
  refine wp_region_any hm ?_
  have := (rg_anyM (P := P) (QQ := lift n fun x e w => match x with | .normal => Go P n k Q e w | x => Q x e w) hns hd (fun c a w h => h.2 c rfl) (fun e w a ha hk => ⟨⟨e, ha, hk⟩, by simp⟩)
    p _ e w.drew a (fun k o _ hk => by rw [Array.getD_eq_getD_getElem?, Array.getElem?_replicate] at hk; split at hk <;> cases hk) ha (fun _ => hS) h).1 hok
  rw [hlen] at this
  exact any_of_anyM _ _ _ _ this
end
end Go.Eng
/- Operations, one lemma a kind; memory by pieces. -/
namespace Go.Eng
/- ### Values -/
abbrev i64 (n : Int) : Value := .int .i64 n
abbrev u8 (x : UInt8) : Value := .int .u8 (x.toNat : Int)
abbrev u16 (x : UInt16) : Value := .int .u16 (x.toNat : Int)
abbrev u32 (x : UInt32) : Value := .int .u32 (x.toNat : Int)
abbrev u64 (x : UInt64) : Value := .int .u64 (x.toNat : Int)
/-- bytes as cells -/
def bs (l : List UInt8) : List Value := l.map u8
theorem bs_length (l : List UInt8) : (bs l).length = l.length := by simp [bs]
theorem bs_append (a b : List UInt8) : bs (a ++ b) = bs a ++ bs b := by simp [bs]
def ws (l : List UInt32) : List Value := l.map u32
theorem ws_length (l : List UInt32) : (ws l).length = l.length := by simp [ws]
/-- no aggregate among the cells -/
abbrev one (v : Value) : Bool := v.oneCell'
def Flat (cs : List Value) : Prop := ∀ v ∈ cs, one v = true
theorem flat_bs (l : List UInt8) : Flat (bs l) := by intro v hv; simp only [bs, List.mem_map] at hv; obtain ⟨x, _, rfl⟩ := hv; rfl
theorem flat_ws (l : List UInt32) : Flat (ws l) := by intro v hv; simp only [ws, List.mem_map] at hv; obtain ⟨x, _, rfl⟩ := hv; rfl
theorem flat_one {v : Value} (h : one v = true) : Flat [v] := by intro u hu; simp at hu; subst hu; exact h
theorem flat_nil : Flat [] := by intro v hv; cases hv
theorem flat_append {a b : List Value} (ha : Flat a) (hb : Flat b) : Flat (a ++ b) := by
  intro v hv; rcases List.mem_append.1 hv with h | h
  · exact ha v h
  · exact hb v h
theorem flat_cons {v : Value} {b : List Value} (hv : one v = true) (hb : Flat b) : Flat (v :: b) := flat_append (flat_one hv) hb
/- ### What may change -/
structure Chg (M : Nat → Nat → Prop) (w w' : World) : Prop where
  os : w'.os = w.os
  tape : w'.tape = w.tape
  output : w'.output = w.output
  size : w.heap.size ≤ w'.heap.size
  cell : ∀ b o, b < w.heap.size → ¬ M b o → w'.cell? ⟨b, o, none⟩ = w.cell? ⟨b, o, none⟩
  frozen : ∀ b o, b < w.heap.size → ¬ M b o → w'.frozen? ⟨b, o, none⟩ = w.frozen? ⟨b, o, none⟩
  obj : ∀ b, b < w.heap.size → (∀ o, ¬ M b o) → w'.heap[b]? = w.heap[b]?
def no : Nat → Nat → Prop := fun _ _ => False
/-- n cells of block b from o on -/
def rng (b o n : Nat) : Nat → Nat → Prop := fun b' o' => b' = b ∧ o ≤ o' ∧ o' < o + n
/-- block b -/
def blk (b : Nat) : Nat → Nat → Prop := fun b' _ => b' = b
abbrev Kept := Chg no
theorem Chg.refl (M : Nat → Nat → Prop) (w : World) : Chg M w w := ⟨rfl, rfl, rfl, Nat.le_refl _, fun _ _ _ _ => rfl, fun _ _ _ _ => rfl, fun _ _ _ => rfl⟩
theorem Chg.drew (M : Nat → Nat → Prop) (w : World) : Chg M w w.drew := ⟨rfl, rfl, rfl, Nat.le_refl _, fun _ _ _ _ => rfl, fun _ _ _ _ => rfl, fun _ _ _ => rfl⟩
/-- Two steps. -/
theorem Chg.trans' {M M1 M2 : Nat → Nat → Prop} {w w1 w2 : World} (h : Chg M1 w w1) (k : Chg M2 w1 w2) (h1 : ∀ b o, b < w.heap.size → M1 b o → M b o) (h2 : ∀ b o, b < w.heap.size → M2 b o → M b o) : Chg M w w2 where
  os := k.os.trans h.os
  tape := k.tape.trans h.tape
  output := k.output.trans h.output
  size := Nat.le_trans h.size k.size
  cell b o hb hm := (k.cell b o (Nat.lt_of_lt_of_le hb h.size) (fun m => hm (h2 b o hb m))).trans (h.cell b o hb (fun m => hm (h1 b o hb m)))
  frozen b o hb hm := (k.frozen b o (Nat.lt_of_lt_of_le hb h.size) (fun m => hm (h2 b o hb m))).trans (h.frozen b o hb (fun m => hm (h1 b o hb m)))
  obj b hb hm := (k.obj b (Nat.lt_of_lt_of_le hb h.size) (fun o m => hm o (h2 b o hb m))).trans (h.obj b hb (fun o m => hm o (h1 b o hb m)))
theorem Chg.pure {M : Nat → Nat → Prop} {w w1 w2 : World} (h : Chg M w w1) (k : Kept w1 w2) : Chg M w w2 := h.trans' k (fun _ _ _ m => m) (fun _ _ _ m => m.elim)
theorem Chg.into {M M2 : Nat → Nat → Prop} {w w1 w2 : World} (h : Chg M w w1) (k : Chg M2 w1 w2) (h2 : ∀ b o, b < w.heap.size → M2 b o → M b o) : Chg M w w2 := h.trans' k (fun _ _ _ m => m) h2
/-- A step that writes one block that is new. -/
theorem Chg.newBlk {M M2 : Nat → Nat → Prop} {w w1 w2 : World} {b : Nat} (h : Chg M w w1) (k : Chg M2 w1 w2) (hb : w.heap.size ≤ b) (h2 : ∀ b' o, M2 b' o → b' = b) : Chg M w w2 :=
  h.into k fun b' o hb' m => by have := h2 b' o m; omega
theorem Chg.newRng {M : Nat → Nat → Prop} {w w1 w2 : World} {b o n : Nat} (h : Chg M w w1) (k : Chg (rng b o n) w1 w2) (hb : w.heap.size ≤ b) : Chg M w w2 := h.newBlk k hb fun _ _ m => m.1
theorem Chg.newB {M : Nat → Nat → Prop} {w w1 w2 : World} {b : Nat} (h : Chg M w w1) (k : Chg (blk b) w1 w2) (hb : w.heap.size ≤ b) : Chg M w w2 := h.newBlk k hb fun _ _ m => m
theorem Chg.mono {M M2 : Nat → Nat → Prop} {w w1 : World} (h : Chg M w w1) (h2 : ∀ b o, b < w.heap.size → M b o → M2 b o) : Chg M2 w w1 := (Chg.refl M2 w).into h h2
theorem Kept.of_drew {w w' : World} (h : Kept w.drew w') : Kept w w' := (Chg.drew no w).pure h
theorem Chg.below {w w' : World} (h : Kept w w') : RowKit.Below w.heap.size w w' := ⟨h.os, h.tape, h.output, h.size, fun b hb => h.obj b hb (fun _ => id)⟩
/- ### Pieces -/
/-- From place o on block b holds the cells cs. -/
def Rd (w : World) (b o : Nat) (cs : List Value) : Prop := ∀ j v, cs[j]? = some v → w.cell? ⟨b, o + j, none⟩ = some v
/-- And they may be written. -/
def Pc (w : World) (b o : Nat) (cs : List Value) : Prop := Rd w b o cs ∧ ∀ j v, cs[j]? = some v → w.frozen? ⟨b, o + j, none⟩ = false
theorem Pc.rd {w : World} {b o : Nat} {cs : List Value} (h : Pc w b o cs) : Rd w b o cs := h.1
theorem cell_lt {w : World} {b o : Nat} {v : Value} (h : w.cell? ⟨b, o, none⟩ = some v) : b < w.heap.size := block_lt_of_cell h
theorem Rd.kept {M : Nat → Nat → Prop} {w w' : World} {b o : Nat} {cs : List Value} (h : Rd w b o cs) (k : Chg M w w') (hm : ∀ j, j < cs.length → ¬ M b (o + j)) : Rd w' b o cs := fun j v hj => by
  have hc := h j v hj
  have hl : j < cs.length := by rcases Nat.lt_or_ge j cs.length with h' | h'; exact h'; rw [List.getElem?_eq_none h'] at hj; cases hj
  rw [k.cell b (o + j) (cell_lt hc) (hm j hl)]; exact hc
theorem Pc.kept {M : Nat → Nat → Prop} {w w' : World} {b o : Nat} {cs : List Value} (h : Pc w b o cs) (k : Chg M w w') (hm : ∀ j, j < cs.length → ¬ M b (o + j)) : Pc w' b o cs :=
  ⟨h.1.kept k hm, fun j v hj => by
    have hl : j < cs.length := by rcases Nat.lt_or_ge j cs.length with h' | h'; exact h'; rw [List.getElem?_eq_none h'] at hj; cases hj
    rw [k.frozen b (o + j) (cell_lt (h.1 j v hj)) (hm j hl)]; exact h.2 j v hj⟩
theorem Rd.k {w w' : World} {b o : Nat} {cs : List Value} (h : Rd w b o cs) (k : Kept w w') : Rd w' b o cs := h.kept k fun _ _ => id
theorem Pc.k {w w' : World} {b o : Nat} {cs : List Value} (h : Pc w b o cs) (k : Kept w w') : Pc w' b o cs := h.kept k fun _ _ => id
/-- another block is written -/
theorem Pc.kb {w w' : World} {b o b2 o2 n : Nat} {cs : List Value} (h : Pc w b o cs) (k : Chg (rng b2 o2 n) w w') (hb : b ≠ b2) : Pc w' b o cs := h.kept k fun _ _ m => hb m.1
theorem Rd.kb {w w' : World} {b o b2 o2 n : Nat} {cs : List Value} (h : Rd w b o cs) (k : Chg (rng b2 o2 n) w w') (hb : b ≠ b2) : Rd w' b o cs := h.kept k fun _ _ m => hb m.1
theorem Pc.kB {w w' : World} {b o b2 : Nat} {cs : List Value} (h : Pc w b o cs) (k : Chg (blk b2) w w') (hb : b ≠ b2) : Pc w' b o cs := h.kept k fun _ _ m => hb m
theorem Rd.kB {w w' : World} {b o b2 : Nat} {cs : List Value} (h : Rd w b o cs) (k : Chg (blk b2) w w') (hb : b ≠ b2) : Rd w' b o cs := h.kept k fun _ _ m => hb m
/-- another place of the same block is written -/
theorem Pc.ko {w w' : World} {b o o2 n : Nat} {cs : List Value} (h : Pc w b o cs) (k : Chg (rng b o2 n) w w') (hd : o + cs.length ≤ o2 ∨ o2 + n ≤ o) : Pc w' b o cs :=
  h.kept k fun j hj m => by have := m.2; omega
theorem Rd.drew {w : World} {b o : Nat} {cs : List Value} (h : Rd w b o cs) : Rd w.drew b o cs := h
theorem Pc.drew {w : World} {b o : Nat} {cs : List Value} (h : Pc w b o cs) : Pc w.drew b o cs := h
theorem Rd.nil (w : World) (b o : Nat) : Rd w b o [] := fun j v h => by simp at h
theorem Pc.nil (w : World) (b o : Nat) : Pc w b o [] := ⟨Rd.nil w b o, fun j v h => by simp at h⟩
theorem Rd.app {w : World} {b o : Nat} {c1 c2 : List Value} (h1 : Rd w b o c1) (h2 : Rd w b (o + c1.length) c2) : Rd w b o (c1 ++ c2) := fun j v hj => by
  rcases Nat.lt_or_ge j c1.length with h | h
  · rw [List.getElem?_append_left h] at hj; exact h1 j v hj
  · rw [List.getElem?_append_right h] at hj
    have := h2 _ v hj
    rwa [show o + c1.length + (j - c1.length) = o + j by omega] at this
theorem Rd.left {w : World} {b o : Nat} {c1 c2 : List Value} (h : Rd w b o (c1 ++ c2)) : Rd w b o c1 := fun j v hj => by
  have hl : j < c1.length := by rcases Nat.lt_or_ge j c1.length with h' | h'; exact h'; rw [List.getElem?_eq_none h'] at hj; cases hj
  exact h j v (by rw [List.getElem?_append_left hl]; exact hj)
theorem Rd.right {w : World} {b o : Nat} {c1 c2 : List Value} (h : Rd w b o (c1 ++ c2)) : Rd w b (o + c1.length) c2 := fun j v hj => by
  have := h (c1.length + j) v (by rw [List.getElem?_append_right (by omega), show c1.length + j - c1.length = j by omega]; exact hj)
  rwa [show o + (c1.length + j) = o + c1.length + j by omega] at this
theorem Pc.app {w : World} {b o : Nat} {c1 c2 : List Value} (h1 : Pc w b o c1) (h2 : Pc w b (o + c1.length) c2) : Pc w b o (c1 ++ c2) := by
  refine ⟨h1.1.app h2.1, fun j v hj => ?_⟩
  rcases Nat.lt_or_ge j c1.length with h | h
  · rw [List.getElem?_append_left h] at hj; exact h1.2 j v hj
  · rw [List.getElem?_append_right h] at hj
    have := h2.2 _ v hj
    rwa [show o + c1.length + (j - c1.length) = o + j by omega] at this
theorem Pc.left {w : World} {b o : Nat} {c1 c2 : List Value} (h : Pc w b o (c1 ++ c2)) : Pc w b o c1 := ⟨h.1.left, fun j v hj => by
  have hl : j < c1.length := by rcases Nat.lt_or_ge j c1.length with h' | h'; exact h'; rw [List.getElem?_eq_none h'] at hj; cases hj
  exact h.2 j v (by rw [List.getElem?_append_left hl]; exact hj)⟩
theorem Pc.right {w : World} {b o : Nat} {c1 c2 : List Value} (h : Pc w b o (c1 ++ c2)) : Pc w b (o + c1.length) c2 := ⟨h.1.right, fun j v hj => by
  have := h.2 (c1.length + j) v (by rw [List.getElem?_append_right (by omega), show c1.length + j - c1.length = j by omega]; exact hj)
  rwa [show o + (c1.length + j) = o + c1.length + j by omega] at this⟩
/-- n of them from k on -/
theorem Rd.sub {w : World} {b o : Nat} {cs : List Value} (h : Rd w b o cs) (k n : Nat) : Rd w b (o + k) ((cs.drop k).take n) := fun j v hj => by
  rw [List.getElem?_take] at hj
  split at hj
  · rw [List.getElem?_drop] at hj
    have := h _ v hj
    rwa [show o + (k + j) = o + k + j by omega] at this
  · cases hj
theorem Pc.sub {w : World} {b o : Nat} {cs : List Value} (h : Pc w b o cs) (k n : Nat) : Pc w b (o + k) ((cs.drop k).take n) := ⟨h.1.sub k n, fun j v hj => by
  rw [List.getElem?_take] at hj
  split at hj
  · rw [List.getElem?_drop] at hj
    have := h.2 _ v hj
    rwa [show o + (k + j) = o + k + j by omega] at this
  · cases hj⟩
theorem Rd.at_ {w : World} {b o : Nat} {cs : List Value} (h : Rd w b o cs) {k : Nat} {v : Value} (hk : cs[k]? = some v) : Rd w b (o + k) [v] := fun j u hj => by
  cases j with
  | zero => simp at hj; subst hj; exact h k v hk
  | succ j => simp at hj
theorem Pc.at_ {w : World} {b o : Nat} {cs : List Value} (h : Pc w b o cs) {k : Nat} {v : Value} (hk : cs[k]? = some v) : Pc w b (o + k) [v] := ⟨h.1.at_ hk, fun j u hj => by
  cases j with
  | zero => exact h.2 k v hk
  | succ j => simp at hj⟩
/-- one cell turned -/
theorem Pc.set_ {w w' : World} {b o : Nat} {cs : List Value} (h : Pc w b o cs) {k : Nat} {v : Value} (hk : k < cs.length) (c : Chg (rng b (o + k) 1) w w') (h' : Pc w' b (o + k) [v]) : Pc w' b o (cs.set k v) := by
  refine ⟨fun j u hj => ?_, fun j u hj => ?_⟩
  · rw [List.getElem?_set] at hj
    split at hj
    · rename_i he
      subst he
      have := h'.1 0 v rfl
      rw [Nat.add_zero] at this
      rw [this]
      first | exact hj | (rw [if_pos hk] at hj; exact hj)
    · rename_i he
      have hc := h.1 j u hj
      rw [c.cell _ _ (cell_lt hc) (fun m => he (by have := m.2; omega))]; exact hc
  · rw [List.getElem?_set] at hj
    split at hj
    · rename_i he
      subst he
      have := h'.2 0 v rfl
      rwa [Nat.add_zero] at this
    · rename_i he
      have hc := h.1 j u hj
      rw [c.frozen _ _ (cell_lt hc) (fun m => he (by have := m.2; omega))]; exact h.2 j u hj
theorem add_none (b o n : Nat) : (⟨b, o, none⟩ : Addr).add n = ⟨b, o + n, none⟩ := by
  unfold Addr.add; split <;> simp_all
/- ### Steps -/
section
variable {P : Program} {ops : Array Oper} {S : World → Prop} {m i : Nat} {r : Plan} {K : Env → World → Prop} {e : Env} {w : World} {o : Oper} {v : Value}
theorem s_take (hi : ops[i]? = some o) (hg : o.guard = none) (hv : ∀ w', S w' → (execOp (ev e) o).run P w' = .ok (.value v) w') (h : Rg P ops S m r K (updo e o.dst v) w) : Rg P ops S m (.take i r) K e w :=
  ⟨o, hi, by rw [if_pos (by unfold wantedE; rw [hg])]; exact ⟨v, hv, h⟩⟩
theorem s_val (hi : ops[i]? = some o) (hg : o.guard = none) (hv : (execOp (ev e) o).run P w = .ok (.value v) w) (hm : Nat.ble m i = true) (h : Rg P ops S m r K (updo e o.dst v) w) : Rg P ops S m (.eff i r) K e w :=
  ⟨o, hi, by rw [if_pos (by unfold wantedE; rw [hg])]; unfold OpWp; rw [hv]; exact ⟨fun hlt => by have := Nat.le_of_ble_eq_true hm; omega, h⟩⟩
theorem s_fx {KK : Value → World → Prop} (hi : ops[i]? = some o) (hg : o.guard = none) (hop : OpWp P o e w KK) (hk : ∀ v w', KK v w' → (i < m → S w') ∧ Rg P ops S m r K (updo e o.dst v) w') : Rg P ops S m (.eff i r) K e w := by
  refine ⟨o, hi, ?_⟩
  rw [if_pos (by unfold wantedE; rw [hg])]
  unfold OpWp at *
  generalize (execOp (ev e) o).run P w = q at *
  cases q with
  | ok nx w' =>
    cases nx with
    | value v => exact hk _ _ hop
    | skip => exact hk _ _ hop
    | enter f args => exact Rtn.mono hop hk
    | row row args => exact Rows.mono hop hk
    | _ => exact (hop : False).elim
  | halt x w' => exact (hop : False).elim
/-- an effect where nothing is held (in the text's order; or at the end) -/
theorem s_do {KK : Value → World → Prop} (hi : ops[i]? = some o) (hg : o.guard = none) (hop : OpWp P o e w KK) (hm : Nat.ble m i = true) (hk : ∀ v w', KK v w' → Rg P ops S m r K (updo e o.dst v) w') : Rg P ops S m (.eff i r) K e w :=
  s_fx hi hg hop fun v w' h => ⟨fun hlt => by have := Nat.le_of_ble_eq_true hm; omega, hk v w' h⟩
/-- guarded, and not carried out -/
theorem s_take_not (hi : ops[i]? = some o) (hg : wantedE ops e o = false) (h : Rg P ops S m r K (updo e o.dst undef) w) : Rg P ops S m (.take i r) K e w :=
  ⟨o, hi, by rw [if_neg (by rw [hg]; decide)]; exact h⟩
theorem s_val_not (hi : ops[i]? = some o) (hg : wantedE ops e o = false) (h : Rg P ops S m r K (updo e o.dst undef) w) : Rg P ops S m (.eff i r) K e w :=
  ⟨o, hi, by rw [if_neg (by rw [hg]; decide)]; exact h⟩
/-- guarded, and carried out -/
theorem s_take_g (hi : ops[i]? = some o) (hg : wantedE ops e o = true) (hv : ∀ w', S w' → (execOp (ev e) o).run P w' = .ok (.value v) w') (h : Rg P ops S m r K (updo e o.dst v) w) : Rg P ops S m (.take i r) K e w :=
  ⟨o, hi, by rw [if_pos hg]; exact ⟨v, hv, h⟩⟩
theorem s_do_g {KK : Value → World → Prop} (hi : ops[i]? = some o) (hg : wantedE ops e o = true) (hop : OpWp P o e w KK) (hm : Nat.ble m i = true) (hk : ∀ v w', KK v w' → Rg P ops S m r K (updo e o.dst v) w') : Rg P ops S m (.eff i r) K e w := by
  have hlt : ¬ i < m := by have := Nat.le_of_ble_eq_true hm; omega
  refine ⟨o, hi, ?_⟩
  rw [if_pos hg]
  have hk' : ∀ v w', KK v w' → (i < m → S w') ∧ Rg P ops S m r K (updo e o.dst v) w' := fun v w' h => ⟨fun h' => absurd h' hlt, hk v w' h⟩
  unfold OpWp at *
  generalize (execOp (ev e) o).run P w = q at *
  cases q with
  | ok nx w' =>
    cases nx with
    | value v => exact hk' _ _ hop
    | skip => exact hk' _ _ hop
    | enter f args => exact Rtn.mono hop hk'
    | row row args => exact Rows.mono hop hk'
    | _ => exact (hop : False).elim
  | halt x w' => exact (hop : False).elim
theorem s_val_g (hi : ops[i]? = some o) (hg : wantedE ops e o = true) (hv : (execOp (ev e) o).run P w = .ok (.value v) w) (hm : Nat.ble m i = true) (h : Rg P ops S m r K (updo e o.dst v) w) : Rg P ops S m (.eff i r) K e w :=
  ⟨o, hi, by rw [if_pos hg]; unfold OpWp; rw [hv]; exact ⟨fun hlt => by have := Nat.le_of_ble_eq_true hm; omega, h⟩⟩
theorem s_end (h : K e w) : Rg P ops S m .done K e w := h
end
/- ### Operations that only yield a value -/
section
variable {P : Program} {w : World} {e : Env} {d : Option Nat} {ty : TypeId} {pos : String} {aft : Array Edge} {g : Option (Nat × Bool)}
theorem r_move {x : Operand} : (execOp (ev e) ⟨d, .move x, ty, pos, aft, g⟩).run P w = .ok (.value (ev e x)) w := rfl
theorem r_assign {x : Operand} : (execOp (ev e) ⟨d, .assign x, ty, pos, aft, g⟩).run P w = .ok (.value (ev e x)) w := rfl
theorem r_pick {c a b : Operand} (t : Bool) (hc : ev e c = .bool t) : (execOp (ev e) ⟨d, .pick c a b, ty, pos, aft, g⟩).run P w = .ok (.value (if t then ev e a else ev e b)) w := by
  simp only [execOp, hc, asBool]; cases t <;> rfl
theorem r_nilCheck {x : Operand} {a : Addr} (hx : ev e x = .pointer (some a)) : (execOp (ev e) ⟨d, .nilCheck x, ty, pos, aft, g⟩).run P w = .ok (.value (.pointer (some a))) w := by
  simp only [execOp, hx]; rfl
theorem r_extract {t : Operand} {k : Nat} {vs : List Value} {v : Value} (hx : ev e t = .tuple vs.toArray) (hk : vs[k]? = some v) : (execOp (ev e) ⟨d, .extract t k, ty, pos, aft, g⟩).run P w = .ok (.value v) w := by
  simp only [execOp, hx, Instr.extract]
  have : vs.toArray[k]? = some v := by simpa using hk
  rw [this]; rfl
variable {t t' : TypeId} {x y : Operand} {k : IntKind} {a b : Int}
theorem r_add (hx : ev e x = .int k a) (hy : ev e y = .int k b) : (execOp (ev e) ⟨d, .binOp .add t x y t', ty, pos, aft, g⟩).run P w = .ok (.value (.int k (k.wrap (a + b)))) w := by
  simp [execOp, hx, hy, eqGuard, binOp, Op.intArith, Sem.run_pure]
theorem r_sub (hx : ev e x = .int k a) (hy : ev e y = .int k b) : (execOp (ev e) ⟨d, .binOp .sub t x y t', ty, pos, aft, g⟩).run P w = .ok (.value (.int k (k.wrap (a - b)))) w := by
  simp [execOp, hx, hy, eqGuard, binOp, Op.intArith, Sem.run_pure]
theorem r_mul (hx : ev e x = .int k a) (hy : ev e y = .int k b) : (execOp (ev e) ⟨d, .binOp .mul t x y t', ty, pos, aft, g⟩).run P w = .ok (.value (.int k (k.wrap (a * b)))) w := by
  simp [execOp, hx, hy, eqGuard, binOp, Op.intArith, Sem.run_pure]
theorem r_quo (hx : ev e x = .int k a) (hy : ev e y = .int k b) (hb : b ≠ 0) : (execOp (ev e) ⟨d, .binOp .quo t x y t', ty, pos, aft, g⟩).run P w = .ok (.value (.int k (k.wrap (a.tdiv b)))) w := by
  simp [execOp, hx, hy, eqGuard, binOp, Op.intDiv, Sem.run_pure, hb]
theorem r_rem (hx : ev e x = .int k a) (hy : ev e y = .int k b) (hb : b ≠ 0) : (execOp (ev e) ⟨d, .binOp .rem t x y t', ty, pos, aft, g⟩).run P w = .ok (.value (.int k (a.tmod b))) w := by
  simp [execOp, hx, hy, eqGuard, binOp, Op.intDiv, Sem.run_pure, hb]
theorem r_lss (hx : ev e x = .int k a) (hy : ev e y = .int k b) : (execOp (ev e) ⟨d, .binOp .lss t x y t', ty, pos, aft, g⟩).run P w = .ok (.value (.bool (decide (a < b)))) w := by
  simp [execOp, hx, hy, eqGuard, binOp, Op.intCmp, Sem.run_pure]
theorem r_leq (hx : ev e x = .int k a) (hy : ev e y = .int k b) : (execOp (ev e) ⟨d, .binOp .leq t x y t', ty, pos, aft, g⟩).run P w = .ok (.value (.bool (decide (a ≤ b)))) w := by
  simp [execOp, hx, hy, eqGuard, binOp, Op.intCmp, Sem.run_pure]
theorem r_gtr (hx : ev e x = .int k a) (hy : ev e y = .int k b) : (execOp (ev e) ⟨d, .binOp .gtr t x y t', ty, pos, aft, g⟩).run P w = .ok (.value (.bool (decide (b < a)))) w := by
  simp [execOp, hx, hy, eqGuard, binOp, Op.intCmp, Sem.run_pure]
theorem r_geq (hx : ev e x = .int k a) (hy : ev e y = .int k b) : (execOp (ev e) ⟨d, .binOp .geq t x y t', ty, pos, aft, g⟩).run P w = .ok (.value (.bool (decide (b ≤ a)))) w := by
  simp [execOp, hx, hy, eqGuard, binOp, Op.intCmp, Sem.run_pure]
theorem r_eql (hx : ev e x = .int k a) (hy : ev e y = .int k b) : (execOp (ev e) ⟨d, .binOp .eql t x y t', ty, pos, aft, g⟩).run P w = .ok (.value (.bool (decide (a = b)))) w := by
  simp [execOp, hx, hy, eqGuard, binOp, Op.intCmp, Sem.run_pure]
  rw [Bool.eq_iff_iff]; simp
theorem r_neq (hx : ev e x = .int k a) (hy : ev e y = .int k b) : (execOp (ev e) ⟨d, .binOp .neq t x y t', ty, pos, aft, g⟩).run P w = .ok (.value (.bool (decide (a ≠ b)))) w := by
  simp [execOp, hx, hy, eqGuard, binOp, Op.intCmp, Sem.run_pure, bne]
  rw [Bool.eq_iff_iff]; simp
theorem r_not {q : Bool} (hx : ev e x = .bool q) : (execOp (ev e) ⟨d, .unOp .not t x, ty, pos, aft, g⟩).run P w = .ok (.value (.bool (!q))) w := by
  simp [execOp, hx, Op.unary, Sem.run_pure]
theorem r_shl {yk : IntKind} (hx : ev e x = .int k a) (hy : ev e y = .int yk b) (hb : 0 ≤ b) : (execOp (ev e) ⟨d, .binOp .shl t x y t', ty, pos, aft, g⟩).run P w = .ok (.value (.int k (k.wrap (a * 2 ^ (min b.toNat k.bits))))) w := by
  simp [execOp, hx, hy, eqGuard, binOp, Op.shift, Sem.run_pure, Int.not_lt.2 hb]
theorem r_shr {yk : IntKind} (hx : ev e x = .int k a) (hy : ev e y = .int yk b) (hb : 0 ≤ b) : (execOp (ev e) ⟨d, .binOp .shr t x y t', ty, pos, aft, g⟩).run P w = .ok (.value (.int k (a.fdiv (2 ^ (min b.toNat k.bits))))) w := by
  simp [execOp, hx, hy, eqGuard, binOp, Op.shift, Sem.run_pure, Int.not_lt.2 hb]
theorem r_conv {src dst : TypeId} {k' : IntKind} {sd : TypeDesc} (hs : ∀ w, (underlying src).run P w = .ok sd w) (hd : ∀ w, (underlying dst).run P w = .ok (.int k') w) (hx : ev e x = .int k a) :
    (execOp (ev e) ⟨d, .convert src dst x, ty, pos, aft, g⟩).run P w = .ok (.value (.int k' (k'.wrap a))) w := by
  simp only [execOp, hx, convert, Sem.run_bind, hs, hd, Result.andThen_ok]
  cases sd <;> simp [Conv.intToInt, Sem.run_pure]
end
end Go.Eng
/- Operations on memory; calls; integers by kind. -/
namespace Go.Eng
/- ### Integers by kind -/
theorem wrap_u8_of (n : Int) (x : UInt8) (h : n % 256 = (x.toNat : Int)) : IntKind.u8.wrap n = (x.toNat : Int) := by rw [IntKind.wrap_u8]; exact h
theorem wrap_u32_of (n : Int) (x : UInt32) (h : n % 4294967296 = (x.toNat : Int)) : IntKind.u32.wrap n = (x.toNat : Int) := by rw [IntKind.wrap_u32]; exact h
theorem wrap_u64_of (n : Int) (x : UInt64) (h : n % 18446744073709551616 = (x.toNat : Int)) : IntKind.u64.wrap n = (x.toNat : Int) := by rw [IntKind.wrap_u64]; exact h
theorem wrap_i64_of (n : Int) (h : -9223372036854775808 ≤ n ∧ n ≤ 9223372036854775807) : IntKind.i64.wrap n = n := IntWalk.i64_in n h
/-- the byte, the word of an int -/
def b8 (n : Int) : UInt8 := UInt8.ofNat (n % 256).toNat
def w32 (n : Int) : UInt32 := UInt32.ofNat (n % 4294967296).toNat
def w64 (n : Int) : UInt64 := UInt64.ofNat (n % 18446744073709551616).toNat
theorem wrap_b8 (n : Int) : IntKind.u8.wrap n = ((b8 n).toNat : Int) := by
  rw [IntKind.wrap_u8, b8, UInt8.toNat_ofNat']
  omega
theorem wrap_w32 (n : Int) : IntKind.u32.wrap n = ((w32 n).toNat : Int) := by
  rw [IntKind.wrap_u32, w32, UInt32.toNat_ofNat']
  omega
theorem wrap_w64 (n : Int) : IntKind.u64.wrap n = ((w64 n).toNat : Int) := by
  rw [IntKind.wrap_u64, w64, UInt64.toNat_ofNat']
  omega
section
variable {P : Program} {w : World} {e : Env} {d : Option Nat} {ty : TypeId} {pos : String} {aft : Array Edge} {g : Option (Nat × Bool)}
variable {t t' : TypeId} {x y : Operand} {a b : Int}
/- int: where the result fits -/
theorem r_addi (hx : ev e x = i64 a) (hy : ev e y = i64 b) (h : -9223372036854775808 ≤ a + b ∧ a + b ≤ 9223372036854775807) : (execOp (ev e) ⟨d, .binOp .add t x y t', ty, pos, aft, g⟩).run P w = .ok (.value (i64 (a + b))) w := by
  rw [r_add hx hy, wrap_i64_of _ h]
theorem r_subi (hx : ev e x = i64 a) (hy : ev e y = i64 b) (h : -9223372036854775808 ≤ a - b ∧ a - b ≤ 9223372036854775807) : (execOp (ev e) ⟨d, .binOp .sub t x y t', ty, pos, aft, g⟩).run P w = .ok (.value (i64 (a - b))) w := by
  rw [r_sub hx hy, wrap_i64_of _ h]
theorem r_muli (hx : ev e x = i64 a) (hy : ev e y = i64 b) (h : -9223372036854775808 ≤ a * b ∧ a * b ≤ 9223372036854775807) : (execOp (ev e) ⟨d, .binOp .mul t x y t', ty, pos, aft, g⟩).run P w = .ok (.value (i64 (a * b))) w := by
  rw [r_mul hx hy, wrap_i64_of _ h]
theorem r_quoi (hx : ev e x = i64 a) (hy : ev e y = i64 b) (h0 : 0 ≤ a) (hb : 1 ≤ b) (h : a ≤ 9223372036854775807) : (execOp (ev e) ⟨d, .binOp .quo t x y t', ty, pos, aft, g⟩).run P w = .ok (.value (i64 (a / b))) w := by
  have hd : a.tdiv b = a / b := Int.tdiv_eq_ediv_of_nonneg h0
  have h1 : 0 ≤ a / b := Int.ediv_nonneg h0 (by omega)
  have h2 : a / b ≤ a := Int.ediv_le_self b h0
  rw [r_quo hx hy (by omega), hd, wrap_i64_of _ (by omega)]
theorem r_remi (hx : ev e x = i64 a) (hy : ev e y = i64 b) (h0 : 0 ≤ a) (hb : 1 ≤ b) : (execOp (ev e) ⟨d, .binOp .rem t x y t', ty, pos, aft, g⟩).run P w = .ok (.value (i64 (a % b))) w := by
  have hd : a.tmod b = a % b := Int.tmod_eq_emod_of_nonneg h0
  rw [r_rem hx hy (by omega), hd]
/- words -/
variable {p q : UInt32}
theorem r_add32 (hx : ev e x = u32 p) (hy : ev e y = u32 q) : (execOp (ev e) ⟨d, .binOp .add t x y t', ty, pos, aft, g⟩).run P w = .ok (.value (u32 (p + q))) w := by
  rw [r_add hx hy, wrap_u32_of _ (p + q) (by rw [UInt32.toNat_add]; omega)]
theorem r_mul32 (hx : ev e x = u32 p) (hy : ev e y = u32 q) : (execOp (ev e) ⟨d, .binOp .mul t x y t', ty, pos, aft, g⟩).run P w = .ok (.value (u32 (p * q))) w := by
  rw [r_mul hx hy, wrap_u32_of _ (p * q) (by rw [UInt32.toNat_mul, Int.natCast_emod, Int.natCast_mul]; rfl)]
theorem bits32 (p : UInt32) : BitVec.ofInt 32 (p.toNat : Int) = p.toBitVec := by
  rw [BitVec.ofInt_natCast]
  show BitVec.ofNat 32 p.toBitVec.toNat = _
  rw [BitVec.ofNat_toNat, BitVec.setWidth_eq]
theorem r_xor32 (hx : ev e x = u32 p) (hy : ev e y = u32 q) : (execOp (ev e) ⟨d, .binOp .xor t x y t', ty, pos, aft, g⟩).run P w = .ok (.value (u32 (p ^^^ q))) w := by
  have h : (execOp (ev e) ⟨d, .binOp .xor t x y t', ty, pos, aft, g⟩).run P w = .ok (.value (.int .u32 (IntKind.u32.wrap ((BitVec.ofInt IntKind.u32.bits (p.toNat : Int) ^^^ BitVec.ofInt IntKind.u32.bits (q.toNat : Int)).toNat)))) w := by
    simp only [execOp, hx, hy, eqGuard, binOp, Op.intBits, Sem.run_pure, Sem.run_bind, ne_eq, not_true_eq_false, if_false]
    rfl
  rw [h, show IntKind.u32.bits = 32 from rfl, bits32, bits32, wrap_u32_of _ (p ^^^ q) ?_]
  have hlt := (p ^^^ q).toNat_lt
  show ((p ^^^ q).toNat : Int) % _ = _
  omega
theorem r_or32 (hx : ev e x = u32 p) (hy : ev e y = u32 q) : (execOp (ev e) ⟨d, .binOp .or t x y t', ty, pos, aft, g⟩).run P w = .ok (.value (u32 (p ||| q))) w := by
  have h : (execOp (ev e) ⟨d, .binOp .or t x y t', ty, pos, aft, g⟩).run P w = .ok (.value (.int .u32 (IntKind.u32.wrap ((BitVec.ofInt IntKind.u32.bits (p.toNat : Int) ||| BitVec.ofInt IntKind.u32.bits (q.toNat : Int)).toNat)))) w := by
    simp only [execOp, hx, hy, eqGuard, binOp, Op.intBits, Sem.run_pure, Sem.run_bind, ne_eq, not_true_eq_false, if_false]
    rfl
  rw [h, show IntKind.u32.bits = 32 from rfl, bits32, bits32, wrap_u32_of _ (p ||| q) ?_]
  have hlt := (p ||| q).toNat_lt
  show ((p ||| q).toNat : Int) % _ = _
  omega
variable {r s : UInt8}
theorem bits8 (p : UInt8) : BitVec.ofInt 8 (p.toNat : Int) = p.toBitVec := by
  rw [BitVec.ofInt_natCast]
  show BitVec.ofNat 8 p.toBitVec.toNat = _
  rw [BitVec.ofNat_toNat, BitVec.setWidth_eq]
theorem r_xor8 (hx : ev e x = u8 r) (hy : ev e y = u8 s) : (execOp (ev e) ⟨d, .binOp .xor t x y t', ty, pos, aft, g⟩).run P w = .ok (.value (u8 (r ^^^ s))) w := by
  have h : (execOp (ev e) ⟨d, .binOp .xor t x y t', ty, pos, aft, g⟩).run P w = .ok (.value (.int .u8 (IntKind.u8.wrap ((BitVec.ofInt IntKind.u8.bits (r.toNat : Int) ^^^ BitVec.ofInt IntKind.u8.bits (s.toNat : Int)).toNat)))) w := by
    simp only [execOp, hx, hy, eqGuard, binOp, Op.intBits, Sem.run_pure, Sem.run_bind, ne_eq, not_true_eq_false, if_false]
    rfl
  rw [h, show IntKind.u8.bits = 8 from rfl, bits8, bits8, wrap_u8_of _ (r ^^^ s) ?_]
  have hlt := (r ^^^ s).toNat_lt
  show ((r ^^^ s).toNat : Int) % _ = _
  omega
/-- to the left by a number below 32, to the right by a number -/
def shl32 (p : UInt32) (n : Nat) : UInt32 := UInt32.ofNat (p.toNat * 2 ^ (min n 32))
def shr32 (p : UInt32) (n : Nat) : UInt32 := UInt32.ofNat (p.toNat / 2 ^ (min n 32))
theorem r_shl32 {yk : IntKind} (hx : ev e x = u32 p) (hy : ev e y = .int yk b) (hb : 0 ≤ b) : (execOp (ev e) ⟨d, .binOp .shl t x y t', ty, pos, aft, g⟩).run P w = .ok (.value (u32 (shl32 p b.toNat))) w := by
  rw [r_shl hx hy hb, wrap_u32_of _ (shl32 p b.toNat) ?_]
  rw [shl32, UInt32.toNat_ofNat', show IntKind.u32.bits = 32 from rfl, Int.natCast_emod, Int.natCast_mul, Int.natCast_pow]
  rfl
theorem r_shr32 {yk : IntKind} (hx : ev e x = u32 p) (hy : ev e y = .int yk b) (hb : 0 ≤ b) : (execOp (ev e) ⟨d, .binOp .shr t x y t', ty, pos, aft, g⟩).run P w = .ok (.value (u32 (shr32 p b.toNat))) w := by
  rw [r_shr hx hy hb]
  have h : ((p.toNat : Int).fdiv (2 ^ (min b.toNat IntKind.u32.bits))) = ((shr32 p b.toNat).toNat : Int) := by
    rw [shr32, UInt32.toNat_ofNat', show IntKind.u32.bits = 32 from rfl, Int.fdiv_eq_ediv_of_nonneg _ (by exact_mod_cast Nat.zero_le _)]
    have hp := p.toNat_lt
    have : p.toNat / 2 ^ (min b.toNat 32) ≤ p.toNat := Nat.div_le_self _ _
    rw [Nat.mod_eq_of_lt (by omega), Int.natCast_ediv, Int.natCast_pow]
    rfl
  rw [h]
/- conversions -/
section
variable {src dst : TypeId} {sd : TypeDesc}
theorem r_conv_i64 (hs : ∀ w, (underlying src).run P w = .ok sd w) (hd : ∀ w, (underlying dst).run P w = .ok (.int .i64) w) {k : IntKind} (hx : ev e x = .int k a) (h : -9223372036854775808 ≤ a ∧ a ≤ 9223372036854775807) :
    (execOp (ev e) ⟨d, .convert src dst x, ty, pos, aft, g⟩).run P w = .ok (.value (i64 a)) w := by rw [r_conv hs hd hx, wrap_i64_of _ h]
theorem r_conv_u8 (hs : ∀ w, (underlying src).run P w = .ok sd w) (hd : ∀ w, (underlying dst).run P w = .ok (.int .u8) w) {k : IntKind} (hx : ev e x = .int k a) :
    (execOp (ev e) ⟨d, .convert src dst x, ty, pos, aft, g⟩).run P w = .ok (.value (u8 (b8 a))) w := by rw [r_conv hs hd hx, wrap_b8]
theorem r_conv_u32 (hs : ∀ w, (underlying src).run P w = .ok sd w) (hd : ∀ w, (underlying dst).run P w = .ok (.int .u32) w) {k : IntKind} (hx : ev e x = .int k a) :
    (execOp (ev e) ⟨d, .convert src dst x, ty, pos, aft, g⟩).run P w = .ok (.value (u32 (w32 a))) w := by rw [r_conv hs hd hx, wrap_w32]
theorem r_conv_u64 (hs : ∀ w, (underlying src).run P w = .ok sd w) (hd : ∀ w, (underlying dst).run P w = .ok (.int .u64) w) {k : IntKind} (hx : ev e x = .int k a) :
    (execOp (ev e) ⟨d, .convert src dst x, ty, pos, aft, g⟩).run P w = .ok (.value (u64 (w64 a))) w := by rw [r_conv hs hd hx, wrap_w64]
end
end
/- ### Addresses -/
section
variable {P : Program} {w : World} {e : Env} {d : Option Nat} {ty : TypeId} {pos : String} {aft : Array Edge} {g : Option (Nat × Bool)}
theorem r_fieldAddr {s : TypeId} {x : Operand} {k b o n : Nat} {fs : Array Field} {f : Field} (hu : ∀ w, (underlying s).run P w = .ok (.struct fs) w) (hf : fs[k]? = some f) (hn : ∀ w, (sizeOf f.type).run P w = .ok n w) (h0 : Nat.beq n 0 = false)
    (hx : ev e x = .pointer (some ⟨b, o, none⟩)) : (execOp (ev e) ⟨d, .fieldAddr s x k, ty, pos, aft, g⟩).run P w = .ok (.value (.pointer (some ⟨b, o + f.offset, none⟩))) w := by
  have h0' : ¬ n = 0 := by intro h; subst h; cases h0
  simp only [execOp, hx, Instr.fieldAt, Sem.run_bind, hu, Result.andThen_ok, hf, Instr.sureAddr, Sem.run_pure, fieldPlace, hn, h0', if_false, add_none]
/-- element k of an array in memory -/
theorem r_indexArr {t el : TypeId} {x y : Operand} {kk : IntKind} {i : Int} {k b o n sz : Nat} (hu : ∀ w, (underlying t).run P w = .ok (.array n el) w) (hs : ∀ w, (sizeOf el).run P w = .ok sz w)
    (hx : ev e x = .pointer (some ⟨b, o, none⟩)) (hy : ev e y = .int kk i) (hi : i = (k : Int)) (hk : k < n) : (execOp (ev e) ⟨d, .indexAddr t x y, ty, pos, aft, g⟩).run P w = .ok (.value (.pointer (some ⟨b, o + k * sz, none⟩))) w := by
  subst hi
  have h1 : (0 : Int) ≤ (k : Int) ∧ (k : Int) < (n : Int) := by omega
  simp only [execOp, hx, hy, Instr.indexAt, asIntOf, Sem.run_bind, hu, Result.andThen_ok, Instr.sureAddr, Sem.run_pure, h1, and_self, if_true, hs, add_none, Int.toNat_natCast]
/-- the address behind a slice -/
def adr (a : Option Addr) : Addr := a.getD ⟨0, 0, none⟩
/-- The cells behind a slice. -/
def SlAt (w : World) (a : Option Addr) (cs : List Value) : Prop := cs = [] ∨ ∃ b o, a = some ⟨b, o, none⟩ ∧ Rd w b o cs
theorem SlAt.some {w : World} {b o : Nat} {cs : List Value} (h : Rd w b o cs) : SlAt w (some ⟨b, o, none⟩) cs := .inr ⟨b, o, rfl, h⟩
theorem SlAt.nil {w : World} {a : Option Addr} : SlAt w a [] := .inl rfl
theorem SlAt.kept {M : Nat → Nat → Prop} {w w' : World} {a : Option Addr} {cs : List Value} (h : SlAt w a cs) (k : Chg M w w') (hm : ∀ b o, a = Option.some ⟨b, o, none⟩ → ∀ j, j < cs.length → ¬ M b (o + j)) : SlAt w' a cs := by
  rcases h with h | ⟨b, o, rfl, h⟩
  · exact .inl h
  · exact .inr ⟨b, o, rfl, h.kept k (hm b o rfl)⟩
theorem SlAt.k {w w' : World} {a : Option Addr} {cs : List Value} (h : SlAt w a cs) (k : Kept w w') : SlAt w' a cs := h.kept k fun _ _ _ _ _ => id
/-- a block that is new to w0 is written -/
theorem SlAt.kb {w w' : World} {a : Option Addr} {b2 o2 n : Nat} {cs : List Value} (h : SlAt w a cs) (k : Chg (rng b2 o2 n) w w') (hb : ∀ b o, a = Option.some ⟨b, o, none⟩ → b ≠ b2) : SlAt w' a cs := h.kept k fun b o ha _ _ m => hb b o ha m.1
theorem SlAt.drew {w : World} {a : Option Addr} {cs : List Value} (h : SlAt w a cs) : SlAt w.drew a cs := h
theorem SlAt.lt {w : World} {b o : Nat} {cs : List Value} (h : SlAt w (Option.some ⟨b, o, none⟩) cs) (hc : cs ≠ []) : b < w.heap.size := by
  rcases h with h | ⟨b', o', he, h⟩
  · exact (hc h).elim
  · cases he
    cases cs with
    | nil => exact (hc rfl).elim
    | cons v cs => exact cell_lt (h 0 v rfl)
/-- where a part of a slice begins -/
def cutA (a : Option Addr) (l m sz : Nat) : Option Addr := if m = l then a else a.map (·.add (l * sz))
theorem SlAt.cut {w : World} {a : Option Addr} {cs : List Value} (h : SlAt w a cs) (l m sz n : Nat) (hm : cs.length ≤ m * sz) : SlAt w (cutA a l m sz) ((cs.drop (l * sz)).take n) := by
  unfold cutA
  split
  · rename_i he
    subst he
    have : cs.drop (m * sz) = [] := List.drop_eq_nil_of_le hm
    rw [this]; exact .inl (by simp)
  · rcases h with h | ⟨b, o, rfl, h⟩
    · subst h; exact .inl (by simp)
    · refine .inr ⟨b, o + l * sz, by simp [add_none], h.sub _ _⟩
theorem r_indexSl {t el : TypeId} {x y : Operand} {kk : IntKind} {i : Int} {k n c sz : Nat} {a : Option Addr} {cs : List Value} (hu : ∀ w, (underlying t).run P w = .ok (.slice el) w) (hs : ∀ w, (sizeOf el).run P w = .ok sz w)
    (hx : ev e x = .slice a n c) (ha : SlAt w a cs) (hc : cs ≠ []) (hy : ev e y = .int kk i) (hi : i = (k : Int)) (hk : k < n) : (execOp (ev e) ⟨d, .indexAddr t x y, ty, pos, aft, g⟩).run P w = .ok (.value (.pointer (some ((adr a).add (k * sz))))) w := by
  subst hi
  rcases ha with ha | ⟨b, o, rfl, _⟩
  · exact (hc ha).elim
  have h1 : (0 : Int) ≤ (k : Int) ∧ (k : Int) < (n : Int) := by omega
  simp only [execOp, hx, hy, Instr.indexAt, asIntOf, Sem.run_bind, hu, Result.andThen_ok, Sem.run_pure, h1, and_self, if_true, hs, Int.toNat_natCast]
  rfl
theorem SlAt.rd {w : World} {a : Option Addr} {cs : List Value} (h : SlAt w a cs) (k : Nat) {sub : List Value} (hc : cs ≠ []) (hs : ∀ j v, sub[j]? = Option.some v → cs[k + j]? = Option.some v) :
    ∃ b o, (adr a).add k = ⟨b, o, none⟩ ∧ Rd w b o sub := by
  rcases h with h | ⟨b, o, rfl, h⟩
  · exact (hc h).elim
  · refine ⟨b, o + k, add_none b o k, fun j v hj => ?_⟩
    have := h _ v (hs j v hj)
    rwa [show o + (k + j) = o + k + j by omega] at this
theorem r_len {t : TypeId} {x : Operand} {el : TypeId} {a : Option Addr} {n c : Nat} (hu : ∀ w, (underlying t).run P w = .ok (.slice el) w) (hx : ev e x = .slice a n c) :
    (execOp (ev e) ⟨d, .call ⟨.builtin .len, #[x], #[t]⟩, ty, pos, aft, g⟩).run P w = .ok (.value (i64 n)) w := by
  simp [execOp, resolve, invoke, builtin, Builtin.len_, hx, Sem.run_bind, hu, goInt]
/-- the bounds of a slice expression: each is there or not -/
def BdIs (e : Env) (x : Option Operand) (dflt : Nat) (k : Nat) : Prop := match x with | none => k = dflt | some x => ∃ kk i, ev e x = .int kk i ∧ i = (k : Int)
theorem run_bound {x : Value} {kk : IntKind} {k y : Nat} {c : BoundsCode} (hx : x = .int kk (k : Int)) (h : k ≤ y) : (Instr.sliceBound x y c).run P w = .ok k w := by
  subst hx
  have h1 : (0 : Int) ≤ (k : Int) ∧ (k : Int) ≤ (y : Int) := by omega
  simp [Instr.sliceBound, asIntOf, h1]
theorem run_bounds {isS : Bool} {len cap l h m : Nat} {lo hi mx : Option Operand} (hl : BdIs e lo 0 l) (hh : BdIs e hi len h) (hm : BdIs e mx cap m) (h3 : mx.isSome = true → hi.isSome = true)
    (h1 : l ≤ h) (h2 : mx.isSome = true ∨ hi.isSome = true → h ≤ m) (h4 : m ≤ cap) : (Instr.sliceBounds isS len cap (lo.map (ev e)) (hi.map (ev e)) (mx.map (ev e))).run P w = .ok (l, h, m) w := by
  cases mx with
  | none =>
    have hm' : m = cap := hm
    subst hm'
    cases hi with
    | none =>
      have hh' : h = len := hh
      subst hh'
      cases lo with
      | none => have hl' : l = 0 := hl; subst hl'; rfl
      | some z =>
        obtain ⟨k1, i1, hz, rfl⟩ := (hl : ∃ kk i, ev e z = .int kk i ∧ i = (l : Int))
        have r1 := fun c => run_bound (P := P) (w := w) (y := h) (c := c) hz h1
        simp [Instr.sliceBounds, r1]
    | some v =>
      obtain ⟨k2, i2, hv, rfl⟩ := (hh : ∃ kk i, ev e v = .int kk i ∧ i = (h : Int))
      have r2 := fun c => run_bound (P := P) (w := w) (y := m) (c := c) hv (h2 (.inr rfl))
      cases lo with
      | none => have hl' : l = 0 := hl; subst hl'; simp [Instr.sliceBounds, r2]
      | some z =>
        obtain ⟨k1, i1, hz, rfl⟩ := (hl : ∃ kk i, ev e z = .int kk i ∧ i = (l : Int))
        have r1 := fun c => run_bound (P := P) (w := w) (y := h) (c := c) hz h1
        simp [Instr.sliceBounds, Sem.run_bind, r1, r2]
  | some u =>
    obtain ⟨k3, i3, hu, rfl⟩ := (hm : ∃ kk i, ev e u = .int kk i ∧ i = (m : Int))
    have r3 := fun c => run_bound (P := P) (w := w) (y := cap) (c := c) hu h4
    cases hi with
    | none => have := h3 rfl; cases this
    | some v =>
      obtain ⟨k2, i2, hv, rfl⟩ := (hh : ∃ kk i, ev e v = .int kk i ∧ i = (h : Int))
      have r2 := fun c => run_bound (P := P) (w := w) (y := m) (c := c) hv (h2 (.inr rfl))
      cases lo with
      | none => have hl' : l = 0 := hl; subst hl'; simp [Instr.sliceBounds, Sem.run_bind, r2, r3]
      | some z =>
        obtain ⟨k1, i1, hz, rfl⟩ := (hl : ∃ kk i, ev e z = .int kk i ∧ i = (l : Int))
        have r1 := fun c => run_bound (P := P) (w := w) (y := h) (c := c) hz h1
        simp [Instr.sliceBounds, Sem.run_bind, r1, r2, r3]
/-- a slice of a slice -/
theorem r_sliceSl {t el : TypeId} {x : Operand} {lo hi mx : Option Operand} {a : Option Addr} {len cap l h m sz : Nat} (hu : ∀ w, (underlying t).run P w = .ok (.slice el) w) (hs : ∀ w, (sizeOf el).run P w = .ok sz w)
    (hx : ev e x = .slice a len cap) (hl : BdIs e lo 0 l) (hh : BdIs e hi len h) (hm : BdIs e mx cap m) (h3 : mx.isSome = true → hi.isSome = true)
    (h1 : l ≤ h) (h2 : mx.isSome = true ∨ hi.isSome = true → h ≤ m) (h4 : m ≤ cap) : (execOp (ev e) ⟨d, .slice t x lo hi mx, ty, pos, aft, g⟩).run P w = .ok (.value (.slice (cutA a l m sz) (h - l) (m - l))) w := by
  have hb := run_bounds (P := P) (w := w) (isS := true) (len := len) (cap := cap) hl hh hm h3 h1 h2 h4
  simp only [execOp, Instr.sliceAt, Sem.run_bind, hu, Result.andThen_ok, Instr.slice, hx, hb, hs, Sem.run_pure, cutA]
/-- a slice of an array in memory -/
theorem r_sliceArr {t el : TypeId} {x : Operand} {lo hi mx : Option Operand} {b o n l h m sz : Nat} (hu : ∀ w, (underlying t).run P w = .ok (.array n el) w) (hs : ∀ w, (sizeOf el).run P w = .ok sz w)
    (hx : ev e x = .pointer (some ⟨b, o, none⟩)) (hl : BdIs e lo 0 l) (hh : BdIs e hi n h) (hm : BdIs e mx n m) (h3 : mx.isSome = true → hi.isSome = true)
    (h1 : l ≤ h) (h2 : mx.isSome = true ∨ hi.isSome = true → h ≤ m) (h4 : m ≤ n) : (execOp (ev e) ⟨d, .slice t x lo hi mx, ty, pos, aft, g⟩).run P w = .ok (.value (.slice (some ⟨b, (if m = l then o else o + l * sz), none⟩) (h - l) (m - l))) w := by
  have hb := run_bounds (P := P) (w := w) (isS := false) (len := n) (cap := n) hl hh hm h3 h1 h2 h4
  simp only [execOp, Instr.sliceAt, Sem.run_bind, hu, Result.andThen_ok, hx, Instr.sureAddr, hb, hs, Sem.run_pure, add_none]
  split <;> rfl
theorem r_toArr {t el : TypeId} {x : Operand} {a : Option Addr} {n len cap : Nat} (hu : ∀ w, (underlying t).run P w = .ok (.array n el) w) (hx : ev e x = .slice a len cap) (h : n ≤ len) :
    (execOp (ev e) ⟨d, .sliceToArrayPointer t x, ty, pos, aft, g⟩).run P w = .ok (.value (.pointer a)) w := by
  have : ¬ len < n := by omega
  simp only [execOp, Instr.arrayAt, Sem.run_bind, hu, Result.andThen_ok, hx, this, if_false, Sem.run_pure]
/-- an element of an array by value -/
theorem r_indexAgg {t el : TypeId} {x y : Operand} {kk : IntKind} {i : Int} {k n : Nat} {cs : List Value} {v : Value} (hu : ∀ w, (underlying t).run P w = .ok (.array n el) w) (hel : ∀ w, (isAgg el).run P w = .ok false w) (hs : ∀ w, (sizeOf el).run P w = .ok 1 w)
    (hx : ev e x = .agg cs.toArray) (hy : ev e y = .int kk i) (hi : i = (k : Int)) (hk : k < n) (hv : cs[k]? = some v) : (execOp (ev e) ⟨d, .index t x y, ty, pos, aft, g⟩).run P w = .ok (.value v) w := by
  subst hi
  have h1 : (0 : Int) ≤ (k : Int) ∧ (k : Int) < (n : Int) := by omega
  simp [execOp, hx, hy, Instr.index, asIntOf, Sem.run_bind, hu, h1, hs, part, hel, hv]
  intro h; omega
end
end Go.Eng
/- Loads, stores, new memory, calls. -/
namespace Go.Eng
section
variable {P : Program} {w : World}
theorem run_load_one {T : TypeId} {b o : Nat} {v : Value} (hT : ∀ w, (isAgg T).run P w = .ok false w) (h : Rd w b o [v]) : (loadVar T ⟨b, o, none⟩).run P w = .ok v w := by
  have hc := h 0 v rfl
  rw [Nat.add_zero] at hc
  unfold loadVar
  rw [Sem.run_bind, hT, Result.andThen_ok]
  show (load ⟨b, o, none⟩).run P w = _
  simp only [load, Sem.run, hc]
theorem run_load_agg {T : TypeId} {b o n : Nat} {cs : List Value} (hT : ∀ w, (isAgg T).run P w = .ok true w) (hs : ∀ w, (sizeOf T).run P w = .ok n w) (hn : cs.length = n) (h : Rd w b o cs) :
    (loadVar T ⟨b, o, none⟩).run P w = .ok (.agg cs.toArray) w := by
  unfold loadVar
  rw [Sem.run_bind, hT, Result.andThen_ok]
  have hl : (loadCells ⟨b, o, none⟩ cs.length).run P w = .ok cs.toArray w :=
    run_loadCells_list (P := P) w ⟨b, o, none⟩ cs (fun j v hv => by rw [add_none]; exact h j v hv)
  rw [if_pos rfl, Sem.run_bind, hs, Result.andThen_ok, ← hn, Sem.run_bind, hl, Result.andThen_ok]
  rfl
theorem run_storeP {T : TypeId} {b o n : Nat} {v : Value} {cs old : List Value} (hs : ∀ w, (sizeOf T).run P w = .ok n w) (hv : v.cells.toList = cs) (hn : cs.length = n) (ho : old.length = n) (hf : Flat cs) (hp : Pc w b o old) :
    ∃ w', (storeVar T ⟨b, o, none⟩ v).run P w = .ok () w' ∧ Pc w' b o cs ∧ Chg (rng b o n) w w' := by
  have some_ : ∀ j, j < cs.length → ∃ u, old[j]? = some u := fun j hj => ⟨old[j]'(by omega), List.getElem?_eq_getElem _⟩
  have h1 : ∀ j, j < cs.length → (w.cell? ⟨b, o + 0 + j, none⟩).isSome = true := fun j hj => by
    obtain ⟨u, hu⟩ := some_ j hj
    rw [Nat.add_zero, hp.1 j u hu]; rfl
  have h2 : ∀ j, j < cs.length → w.frozen? ⟨b, o + 0 + j, none⟩ = false := fun j hj => by
    obtain ⟨u, hu⟩ := some_ j hj
    rw [Nat.add_zero]; exact hp.2 j u hu
  have hr := run_storeCells_cells (P := P) b o cs 0 w h1 h2 hf
  refine ⟨w.setCells b o cs, ?_, ⟨fun j u hj => ?_, fun j u hj => ?_⟩, ?_⟩
  · unfold storeVar
    have hsz : v.cells.size = n := by rw [← hn, ← hv, Array.length_toList]
    rw [Sem.run_bind, hs, Result.andThen_ok, if_neg (by rw [hsz]; simp)]
    show (storeCells _ v.cells.toList).run P w = _
    rw [hv]; exact hr
  · have hl : j < cs.length := by rcases Nat.lt_or_ge j cs.length with h' | h'; exact h'; rw [List.getElem?_eq_none h'] at hj; cases hj
    rw [World.cell?_setCells_in b cs o w (fun i hi => by have := h1 i hi; rwa [Nat.add_zero] at this) j hl]
    rw [List.getElem?_eq_getElem hl] at hj; exact hj
  · rw [World.frozen?_setCells]
    have hl : j < cs.length := by rcases Nat.lt_or_ge j cs.length with h' | h'; exact h'; rw [List.getElem?_eq_none h'] at hj; cases hj
    have := h2 j hl
    rwa [Nat.add_zero] at this
  · have base : ∀ (vs : List Value) (o : Nat) (w : World), (w.setCells b o vs).os = w.os ∧ (w.setCells b o vs).tape = w.tape ∧ (w.setCells b o vs).output = w.output ∧ (w.setCells b o vs).heap.size = w.heap.size ∧
        ∀ c, c ≠ b → (w.setCells b o vs).heap[c]? = w.heap[c]? := by
      intro vs
      induction vs with
      | nil => intro o w; exact ⟨rfl, rfl, rfl, rfl, fun _ _ => rfl⟩
      | cons v vs ih =>
        intro o w
        obtain ⟨q1, q2, q3, q4, q5⟩ := ih (o + 1) (w.setCell ⟨b, o, none⟩ v)
        refine ⟨q1, q2, q3, by rw [World.setCells, q4, World.size_setCell], fun c hc => by rw [World.setCells, q5 c hc, heap_setCell_other _ _ _ _ hc]⟩
    obtain ⟨q1, q2, q3, q4, q5⟩ := base cs o w
    refine ⟨q1, q2, q3, by omega, fun b' o' _ hm => ?_, fun b' o' _ _ => World.frozen?_setCells _ _ _ _ _, fun b' _ hm => ?_⟩
    · refine World.cell?_setCells_out b cs o w _ (fun h1 _ => ?_)
      have hb : b' = b := h1
      subst hb
      rcases Nat.lt_or_ge o' o with h' | h'
      · exact .inl h'
      · refine .inr ?_
        rcases Nat.lt_or_ge o' (o + n) with h'' | h''
        · exact (hm ⟨rfl, h', h''⟩).elim
        · show o + cs.length ≤ o'; omega
    · by_cases hb : b' = b
      · subst hb
        cases n with
        | zero => have : cs = [] := List.eq_nil_of_length_eq_zero hn; subst this; rfl
        | succ n => exact (hm o ⟨rfl, Nat.le_refl _, by omega⟩).elim
      · exact q5 b' hb
/-- a new block -/
theorem chg_alloc (w : World) (o : Obj) : Kept w (w.alloc o) := by
  refine ⟨rfl, rfl, rfl, by simp, fun b o' hb _ => ?_, fun b o' hb _ => ?_, fun b hb _ => RowKit.Below.heap_alloc w o b hb⟩
  · exact World.cell?_of_block (w := w) (RowKit.Below.heap_alloc w o b hb)
  · exact World.frozen?_of_block (w := w) (RowKit.Below.heap_alloc w o b hb)
theorem pc_alloc (w : World) (cs : Array Value) (t : TypeId) : Pc (w.alloc (.cells cs t)) w.heap.size 0 cs.toList := by
  refine ⟨fun j v hj => ?_, fun j v hj => ?_⟩
  · rw [Nat.zero_add, cell_of_row _ _ _ cs t (0, 0) (heap_alloc_new w _)]; simpa using hj
  · rw [Nat.zero_add]; exact frozen_of_row _ _ _ cs t (heap_alloc_new w _)
variable {e : Env} {d : Option Nat} {ty : TypeId} {pos : String} {aft : Array Edge} {g : Option (Nat × Bool)}
theorem r_load1 {T : TypeId} {x : Operand} {b o : Nat} {v : Value} (hT : ∀ w, (isAgg T).run P w = .ok false w) (hx : ev e x = .pointer (some ⟨b, o, none⟩)) (h : Rd w b o [v]) :
    (execOp (ev e) ⟨d, .load T x, ty, pos, aft, g⟩).run P w = .ok (.value v) w := by
  simp only [execOp, hx, Instr.loadAt, Instr.sureAddr, Sem.run_bind, Sem.run_pure, Result.andThen_ok, run_load_one hT h]
theorem r_loadN {T : TypeId} {x : Operand} {b o n : Nat} {cs : List Value} (hT : ∀ w, (isAgg T).run P w = .ok true w) (hs : ∀ w, (sizeOf T).run P w = .ok n w) (hx : ev e x = .pointer (some ⟨b, o, none⟩)) (h : Rd w b o cs) (hn : cs.length = n) :
    (execOp (ev e) ⟨d, .load T x, ty, pos, aft, g⟩).run P w = .ok (.value (.agg cs.toArray)) w := by
  simp only [execOp, hx, Instr.loadAt, Instr.sureAddr, Sem.run_bind, Sem.run_pure, Result.andThen_ok, run_load_agg hT hs hn h]
/-- element k of a slice, of one cell -/
theorem r_loadSl {T : TypeId} {x : Operand} {a : Option Addr} {k : Nat} {cs : List Value} {v : Value} (hT : ∀ w, (isAgg T).run P w = .ok false w) (hx : ev e x = .pointer (some ((adr a).add k))) (h : SlAt w a cs) (hv : cs[k]? = some v) :
    (execOp (ev e) ⟨d, .load T x, ty, pos, aft, g⟩).run P w = .ok (.value v) w := by
  obtain ⟨b, o, he, hr⟩ := h.rd k (sub := [v]) (by intro h; subst h; simp at hv) (fun j u hj => by
    cases j with
    | zero => simp at hj; subst hj; simpa using hv
    | succ j => simp at hj)
  exact r_load1 hT (by rw [hx, he]) hr
/-- element of a slice, an aggregate: its cells from place k on -/
theorem r_loadSlN {T : TypeId} {x : Operand} {a : Option Addr} {k n : Nat} {cs sub : List Value} (hT : ∀ w, (isAgg T).run P w = .ok true w) (hs : ∀ w, (sizeOf T).run P w = .ok n w) (hx : ev e x = .pointer (some ((adr a).add k))) (h : SlAt w a cs)
    (hn : sub.length = n) (hc : cs ≠ []) (hv : (cs.drop k).take n = sub) : (execOp (ev e) ⟨d, .load T x, ty, pos, aft, g⟩).run P w = .ok (.value (.agg sub.toArray)) w := by
  obtain ⟨b, o, he, hr⟩ := h.rd k (sub := sub) hc (fun j u hj => by
    rw [← hv, List.getElem?_take] at hj
    split at hj
    · rwa [List.getElem?_drop] at hj
    · cases hj)
  exact r_loadN hT hs (by rw [hx, he]) hr hn
theorem w_store {T : TypeId} {x y : Operand} {b o n : Nat} {old : List Value} (cs : List Value) (hs : ∀ w, (sizeOf T).run P w = .ok n w) (hx : ev e x = .pointer (some ⟨b, o, none⟩)) (hy : (ev e y).cells.toList = cs) (hn : cs.length = n) (hf : Flat cs)
    (hp : Pc w b o old) (ho : old.length = n) : OpWp P ⟨d, .store T x y, ty, pos, aft, g⟩ e w (fun _ w' => Pc w' b o cs ∧ Chg (rng b o n) w w') := by
  obtain ⟨w', hr, h1, h2⟩ := run_storeP (v := ev e y) hs hy hn ho hf hp
  unfold OpWp
  have : (execOp (ev e) ⟨d, .store T x y, ty, pos, aft, g⟩).run P w = .ok .skip w' := by
    simp only [execOp, hx, Instr.storeAt, Instr.sureAddr, Sem.run_bind, Sem.run_pure, Result.andThen_ok, hr]
  rw [this]
  exact ⟨h1, h2⟩
/-- what a new block gives -/
def New (w : World) (cs : List Value) (v : Value) (w' : World) : Prop := ∃ b, v = .pointer (some ⟨b, 0, none⟩) ∧ w.heap.size ≤ b ∧ b < w'.heap.size ∧ Pc w' b 0 cs ∧ Kept w w'
theorem new_alloc (w : World) (cs : List Value) (t : TypeId) : New w cs (.pointer (some ⟨w.heap.size, 0, none⟩)) (w.alloc (.cells cs.toArray t)) :=
  ⟨_, rfl, Nat.le_refl _, by simp, by have := pc_alloc w cs.toArray t; simpa using this, chg_alloc _ _⟩
theorem w_alloc {T : TypeId} {z : Value} (cs : List Value) (hz : ∀ w, (zeroValue T).run P w = .ok z w) (hc : z.cells.toList = cs) : OpWp P ⟨d, .alloc T, ty, pos, aft, g⟩ e w (New w cs) := by
  unfold OpWp
  have : (execOp (ev e) ⟨d, .alloc T, ty, pos, aft, g⟩).run P w = .ok (.value (.pointer (some ⟨w.heap.size, 0, none⟩))) (w.alloc (.cells cs.toArray T)) := by
    subst hc
    simp only [execOp, Instr.alloc, Sem.run_bind, hz, Result.andThen_ok, newVar, newRow, newObj, Sem.run, Sem.run_pure, Array.toArray_toList]
    rfl
  rw [this]
  exact new_alloc w cs T
theorem w_box {T : TypeId} {x : Operand} (cs : List Value) (hc : (ev e x).cells.toList = cs) : OpWp P ⟨d, .box T x, ty, pos, aft, g⟩ e w (New w cs) := by
  unfold OpWp
  have : (execOp (ev e) ⟨d, .box T x, ty, pos, aft, g⟩).run P w = .ok (.value (.pointer (some ⟨w.heap.size, 0, none⟩))) (w.alloc (.cells cs.toArray T)) := by
    subst hc
    simp only [execOp, Instr.box, Sem.run_bind, Result.andThen_ok, newVar, newRow, newObj, Sem.run, Sem.run_pure, Array.toArray_toList]
    rfl
  rw [this]
  exact new_alloc w cs T
/-- a call of a function by its name -/
theorem w_call {f : FuncId} {args : Array Operand} {ats : Array TypeId} {l : List Value} {R : Value → World → Prop} (hc : ∀ args w, (callFunc f args).run P w = .ok (.enter f args) w) (hl : args.toList.map (ev e) = l) (h : Rtn P f l.toArray w R) :
    OpWp P ⟨d, .call ⟨.value (.func f), args, ats⟩, ty, pos, aft, g⟩ e w R := by
  unfold OpWp
  have hl' : args.map (ev e) = l.toArray := by rw [← hl, ← Array.toList_map, Array.toArray_toList]
  have : (execOp (ev e) ⟨d, .call ⟨.value (.func f), args, ats⟩, ty, pos, aft, g⟩).run P w = .ok (.enter f l.toArray) w := by
    have h2 := hc (l.toArray ++ #[]) w
    simp only [execOp, resolve, invoke, Deferred.ofValue, ev, hl', Sem.run_bind, Sem.run_pure, Result.andThen_ok]
    simpa using h2
  rw [this]
  exact h
/-- a call of a function value: a function and what it has captured -/
theorem w_callV {f : FuncId} {x : Operand} {args : Array Operand} {ats : Array TypeId} {l cap : List Value} {R : Value → World → Prop} (hc : ∀ args w, (callFunc f args).run P w = .ok (.enter f args) w) (hx : ev e x = .func (.func f) #[] cap.toArray)
    (hl : args.toList.map (ev e) = l) (h : Rtn P f (l ++ cap).toArray w R) : OpWp P ⟨d, .call ⟨.value x, args, ats⟩, ty, pos, aft, g⟩ e w R := by
  unfold OpWp
  have hl' : args.map (ev e) = l.toArray := by rw [← hl, ← Array.toList_map, Array.toArray_toList]
  have : (execOp (ev e) ⟨d, .call ⟨.value x, args, ats⟩, ty, pos, aft, g⟩).run P w = .ok (.enter f (l ++ cap).toArray) w := by
    have h2 := hc (l.toArray ++ cap.toArray) w
    simp only [execOp, resolve, invoke, Deferred.ofValue, hx, hl', Sem.run_bind, Sem.run_pure, Result.andThen_ok]
    simpa using h2
  rw [this]
  exact h
end
end Go.Eng
/- Loops and cuts by the slots that they write; drawn regions with the world behind the draw as a letter. -/
namespace Go.Eng
/-- Is t in one of the ranges? -/
def inR (t : Nat) : List (Nat × Nat) → Bool
  | [] => false
  | (lo, hi) :: r => match Nat.ble lo t && Nat.ble t hi with | true => true | false => inR t r
/-- f in the ranges, e outside -/
def over (ms : List (Nat × Nat)) (f e : Env) : Env := fun t => match inR t ms with | true => f t | false => e t
def Same (ms : List (Nat × Nat)) (e' e : Env) : Prop := ∀ t, inR t ms = false → e' t = e t
theorem same_refl {ms : List (Nat × Nat)} {e : Env} : Same ms e e := fun _ _ => rfl
theorem same_over {ms : List (Nat × Nat)} {f e : Env} : Same ms (over ms f e) e := fun t ht => by unfold over; rw [ht]
theorem same_upd {ms : List (Nat × Nat)} {e' e : Env} {d : Nat} {v : Value} (hd : inR d ms = true) (h : Same ms e' e) : Same ms (upd e' d v) e := fun t ht => by
  have hne : t ≠ d := by intro he; subst he; rw [hd] at ht; cases ht
  unfold upd
  rw [if_neg hne]
  exact h t ht
/-- inner ranges within the outer ones -/
def subR : List (Nat × Nat) → List (Nat × Nat) → Bool
  | [], _ => true
  | (lo, hi) :: r, ms => (ms.any fun x => Nat.ble x.1 lo && Nat.ble hi x.2) && subR r ms
theorem inR_sub : ∀ {ms2 ms : List (Nat × Nat)} {t : Nat}, subR ms2 ms = true → inR t ms2 = true → inR t ms = true
  | [], _, _, _, h => by cases h
  | (lo, hi) :: r, ms, t, hs, h => by
    simp only [subR, Bool.and_eq_true, List.any_eq_true] at hs
    obtain ⟨⟨x, hx, h1, h2⟩, hr⟩ := hs
    simp only [inR] at h
    split at h
    · rename_i hb
      simp only [Bool.and_eq_true] at hb
      have l1 := Nat.le_of_ble_eq_true h1
      have l2 := Nat.le_of_ble_eq_true h2
      have l3 := Nat.le_of_ble_eq_true hb.1
      have l4 := Nat.le_of_ble_eq_true hb.2
      have key : ∀ (ms : List (Nat × Nat)), x ∈ ms → inR t ms = true := by
        intro ms
        induction ms with
        | nil => intro h; cases h
        | cons y ms ih =>
          intro hm
          simp only [inR]
          split
          · rfl
          · rename_i hf
            rcases List.mem_cons.1 hm with rfl | hm
            · exfalso
              have : (Nat.ble x.1 t && Nat.ble t x.2) = true := by
                rw [Bool.and_eq_true]; exact ⟨Nat.ble_eq_true_of_le (by omega), Nat.ble_eq_true_of_le (by omega)⟩
              rw [this] at hf; cases hf
            · exact ih hm
      exact key ms hx
    · exact inR_sub hr h
theorem same_over2 {ms ms2 : List (Nat × Nat)} {f e' e : Env} (hs : subR ms2 ms = true) (h : Same ms e' e) : Same ms (over ms2 f e') e := fun t ht => by
  have : inR t ms2 = false := by
    cases h2 : inR t ms2 with
    | false => rfl
    | true => rw [inR_sub hs h2] at ht; cases ht
  unfold over
  rw [this]
  exact h t ht
theorem over_of_same {ms : List (Nat × Nat)} {e' e : Env} (h : Same ms e' e) : e' = over ms e' e := by
  funext t
  unfold over
  split
  · rfl
  · rename_i hf; exact h t hf
theorem upd_id {e : Env} {d : Nat} {v : Value} (h : e d = v) : e = upd e d v := by
  funext t
  unfold upd
  split
  · rename_i he; rw [he]; exact h
  · rfl
section
variable {P : Program} {n : Nat} {k : List Code} {Q : Post} {e : Env} {w : World}
/-- A loop: 'ms': the slots that its body writes. -/
theorem go_loopM {σ : Type} {c : Code} (ms : List (Nat × Nat)) (J : σ → Env → World → Prop) (μ : σ → Nat) (s : σ) (h0 : J s e w)
    (hr : ∀ s f w, J s (over ms f e) w → Go P n [c] (loopP (fun e' w' => (∃ s', μ s' < μ s ∧ J s' e' w') ∧ Same ms e' e) Q) (over ms f e) w) : Go P n (.loop c :: k) Q e w := by
  refine go_loop (fun s e' w' => J s e' w' ∧ Same ms e' e) μ s ⟨h0, same_refl⟩ ?_
  intro s e' w' ⟨hJ, hs⟩
  have he := over_of_same hs
  have := hr s e' w' (by rw [← he]; exact hJ)
  rw [← he] at this
  refine Go.mono ?_ this
  intro x e'' w'' hx
  cases x with
  | normal =>
    obtain ⟨⟨s', h1, h2⟩, h3⟩ := (hx : (∃ s', μ s' < μ s ∧ J s' e'' w'') ∧ Same ms e'' e)
    exact ⟨s', h1, h2, h3⟩
  | _ => exact hx
/-- A statement whose ways meet again: 'ms': the slots that it writes. -/
theorem go_meet {c : Code} (ms : List (Nat × Nat)) (J : Env → World → Prop)
    (h1 : Go P n [c] (loopP (fun e' w' => J e' w' ∧ Same ms e' e) Q) e w) (h2 : ∀ f w', J (over ms f e) w' → Go P n k Q (over ms f e) w') : Go P n (c :: k) Q e w := fun a ha => by
  refine wp_mono (h1 a ha) ?_
  refine lift_mono ?_
  intro x e' w' hx
  cases x with
  | normal =>
    obtain ⟨hJ, hs⟩ := (hx : J e' w' ∧ Same ms e' e)
    have he := over_of_same hs
    have := h2 e' w' (by rw [← he]; exact hJ)
    rw [← he] at this
    exact this
  | _ => exact hx
variable {ops : Array Oper}
/-- A region that draws its order; the world behind the draw is a letter. -/
theorem go_drawsE {id : Nat} (m : Nat) (p : Plan) (hm : P.follows .mixedOrders = true) (hok : okRegion ops n m p = true)
    (h : ∀ w', Kept w w' → Rg P ops (fun x => x = w') m p (Go P n k Q) e w') : Go P n (.region id ops true :: k) Q e w :=
  go_draws (fun x => x = w.drew) m p hm hok rfl (h _ (Chg.drew _ _))
theorem go_drawsK {id : Nat} (m : Nat) (p : Plan) (hm : P.follows .mixedOrders = true) (hok : okRegion ops n m p = true)
    (h : ∀ w', Kept w w' → Rg P ops (fun x => Kept w' x) m p (Go P n k Q) e w') : Go P n (.region id ops true :: k) Q e w :=
  go_draws (fun x => Kept w.drew x) m p hm hok (Chg.refl _ _) (h _ (Chg.drew _ _))
variable {S : World → Prop} {m i : Nat} {r : Plan} {K : Env → World → Prop} {o : Oper} {v : Value} {w0 : World}
theorem s_takeE (hi : ops[i]? = some o) (hg : o.guard = none) (hv : (execOp (ev e) o).run P w = .ok (.value v) w) (h : Rg P ops (fun x => x = w) m r K (updo e o.dst v) w) : Rg P ops (fun x => x = w) m (.take i r) K e w :=
  s_take hi hg (fun _ hx => by subst hx; exact hv) h
/-- held: what holds at w0 holds later -/
theorem s_takeK (hi : ops[i]? = some o) (hg : o.guard = none) (hv : ∀ x, Kept w0 x → (execOp (ev e) o).run P x = .ok (.value v) x) (h : Rg P ops (fun x => Kept w0 x) m r K (updo e o.dst v) w) : Rg P ops (fun x => Kept w0 x) m (.take i r) K e w :=
  s_take hi hg hv h
/-- an effect that keeps what is held -/
theorem s_fxK {KK : Value → World → Prop} (hi : ops[i]? = some o) (hg : o.guard = none) (hop : OpWp P o e w KK) (hk : ∀ v w', KK v w' → Kept w0 w' ∧ Rg P ops (fun x => Kept w0 x) m r K (updo e o.dst v) w') : Rg P ops (fun x => Kept w0 x) m (.eff i r) K e w :=
  s_fx hi hg hop fun v w' h => ⟨fun _ => (hk v w' h).1, (hk v w' h).2⟩
/-- a read in its turn where S is known -/
theorem s_valS (hi : ops[i]? = some o) (hg : o.guard = none) (hv : (execOp (ev e) o).run P w = .ok (.value v) w) (hS : S w) (h : Rg P ops S m r K (updo e o.dst v) w) : Rg P ops S m (.eff i r) K e w :=
  s_fx (KK := fun v' w' => v' = v ∧ w' = w) hi hg (by unfold OpWp; rw [hv]; exact ⟨rfl, rfl⟩) fun v' w' ⟨h1, h2⟩ => by subst h1; subst h2; exact ⟨fun _ => hS, h⟩
/-- a truth value on which the way parts -/
theorem s_valB {q : Bool} (hi : ops[i]? = some o) (hg : o.guard = none) (hv : (execOp (ev e) o).run P w = .ok (.value (.bool q)) w) (hm : Nat.ble m i = true)
    (h1 : q = true → Rg P ops S m r K (updo e o.dst (.bool true)) w) (h2 : q = false → Rg P ops S m r K (updo e o.dst (.bool false)) w) : Rg P ops S m (.eff i r) K e w := by
  cases q
  · exact s_val hi hg hv hm (h2 rfl)
  · exact s_val hi hg hv hm (h1 rfl)
theorem s_takeB {q : Bool} (hi : ops[i]? = some o) (hg : o.guard = none) (hv : ∀ w', S w' → (execOp (ev e) o).run P w' = .ok (.value (.bool q)) w')
    (h1 : q = true → Rg P ops S m r K (updo e o.dst (.bool true)) w) (h2 : q = false → Rg P ops S m r K (updo e o.dst (.bool false)) w) : Rg P ops S m (.take i r) K e w := by
  cases q
  · exact s_take hi hg hv (h2 rfl)
  · exact s_take hi hg hv (h1 rfl)
/-- the end of a region, in a frame that is named -/
theorem s_alts {p q : Plan} (h1 : Rg P ops S m p K e w) (h2 : Rg P ops S m q K e w) : Rg P ops S m (.alts p q) K e w := ⟨h1, h2⟩
end
/- ### Lists of bytes, of words -/
theorem bs_get {l : List UInt8} {k : Nat} (h : k < l.length) : (bs l)[k]? = some (u8 (l.getD k 0)) := by
  simp [bs, List.getElem?_map, List.getElem?_eq_getElem h, List.getD_eq_getElem?_getD]
theorem ws_get {l : List UInt32} {k : Nat} (h : k < l.length) : (ws l)[k]? = some (u32 (l.getD k 0)) := by
  simp [ws, List.getElem?_map, List.getElem?_eq_getElem h, List.getD_eq_getElem?_getD]
theorem bs_set (l : List UInt8) (k : Nat) (x : UInt8) : (bs l).set k (u8 x) = bs (l.set k x) := by simp [bs, List.map_set]
theorem ws_set (l : List UInt32) (k : Nat) (x : UInt32) : (ws l).set k (u32 x) = ws (l.set k x) := by simp [ws, List.map_set]
theorem Rd.at1 {w : World} {b o : Nat} {cs : List Value} (h : Rd w b o cs) {k : Nat} {v : Value} (hk : cs[k]? = some v) : Rd w b (o + k * 1) [v] := by rw [Nat.mul_one]; exact h.at_ hk
section
variable {P : Program} {w : World} {e : Env} {d : Option Nat} {ty : TypeId} {pos : String} {aft : Array Edge} {g : Option (Nat × Bool)}
theorem w_set_one {T : TypeId} {x y : Operand} {b o k : Nat} {v : Value} {cs : List Value} (hs : ∀ w, (sizeOf T).run P w = .ok 1 w) (hx : ev e x = .pointer (some ⟨b, o + k * 1, none⟩)) (hy : ev e y = v) (h1 : v.cells = #[v]) (hf : one v = true) (hp : Pc w b o cs) (hk : k < cs.length) :
    OpWp P ⟨d, .store T x y, ty, pos, aft, g⟩ e w (fun _ w' => Pc w' b o (cs.set k v) ∧ Chg (rng b o cs.length) w w') := by
  rw [Nat.mul_one] at hx
  obtain ⟨u, hu⟩ : ∃ u, cs[k]? = some u := ⟨cs[k], List.getElem?_eq_getElem hk⟩
  have := w_store (P := P) (w := w) (e := e) (d := d) (ty := ty) (pos := pos) (aft := aft) (g := g) (T := T) (x := x) (y := y) (n := 1) [v] hs hx (by rw [hy, h1]) rfl (flat_one hf) (hp.at_ hu) rfl
  unfold OpWp at *
  generalize (execOp (ev e) ⟨d, .store T x y, ty, pos, aft, g⟩).run P w = r at *
  have key : ∀ w', Pc w' b (o + k) [v] ∧ Chg (rng b (o + k) 1) w w' → Pc w' b o (cs.set k v) ∧ Chg (rng b o cs.length) w w' := fun w' ⟨h1, h2⟩ =>
    ⟨hp.set_ hk h2 h1, h2.mono fun b' o' _ m => ⟨m.1, by have := m.2; omega, by have := m.2; omega⟩⟩
  cases r with
  | ok nx w' =>
    cases nx with
    | value v => exact key _ this
    | skip => exact key _ this
    | enter f args => exact Rtn.mono this fun _ w' h => key w' h
    | row row args => exact Rows.mono this fun _ w' h => key w' h
    | _ => exact (this : False).elim
  | halt x w' => exact (this : False).elim
theorem OpWp.mono {o : Oper} {K K' : Value → World → Prop} (h : OpWp P o e w K) (hk : ∀ v w', K v w' → K' v w') : OpWp P o e w K' := by
  unfold OpWp at *
  generalize (execOp (ev e) o).run P w = r at *
  cases r with
  | ok nx w' =>
    cases nx with
    | value v => exact hk _ _ h
    | skip => exact hk _ _ h
    | enter f args => exact Rtn.mono h hk
    | row row args => exact Rows.mono h hk
    | _ => exact (h : False).elim
  | halt x w' => exact (h : False).elim
theorem w_set_b {T : TypeId} {x y : Operand} {b o k : Nat} {v : UInt8} {l : List UInt8} (hs : ∀ w, (sizeOf T).run P w = .ok 1 w) (hx : ev e x = .pointer (some ⟨b, o + k * 1, none⟩)) (hy : ev e y = u8 v) (hp : Pc w b o (bs l)) (hk : k < l.length) :
    OpWp P ⟨d, .store T x y, ty, pos, aft, g⟩ e w (fun _ w' => Pc w' b o (bs (l.set k v)) ∧ Chg (rng b o l.length) w w') := by
  have := w_set_one (d := d) (ty := ty) (pos := pos) (aft := aft) (g := g) hs hx hy rfl rfl hp (by rw [bs_length]; exact hk)
  rw [bs_set, bs_length] at this
  exact this
theorem w_set_w {T : TypeId} {x y : Operand} {b o k : Nat} {v : UInt32} {l : List UInt32} (hs : ∀ w, (sizeOf T).run P w = .ok 1 w) (hx : ev e x = .pointer (some ⟨b, o + k * 1, none⟩)) (hy : ev e y = u32 v) (hp : Pc w b o (ws l)) (hk : k < l.length) :
    OpWp P ⟨d, .store T x y, ty, pos, aft, g⟩ e w (fun _ w' => Pc w' b o (ws (l.set k v)) ∧ Chg (rng b o l.length) w w') := by
  have := w_set_one (d := d) (ty := ty) (pos := pos) (aft := aft) (g := g) hs hx hy rfl rfl hp (by rw [ws_length]; exact hk)
  rw [ws_set, ws_length] at this
  exact this
end
theorem Pc.split {w : World} {b o n : Nat} {c1 c2 : List Value} (h : Pc w b o (c1 ++ c2)) (hn : c1.length = n) : Pc w b o c1 ∧ Pc w b (o + n) c2 := ⟨h.left, by have := h.right; rwa [hn] at this⟩
theorem Pc.lt {w : World} {b o : Nat} {cs : List Value} (h : Pc w b o cs) (hc : cs ≠ []) : b < w.heap.size := by
  cases cs with
  | nil => exact (hc rfl).elim
  | cons v cs => exact cell_lt (h.1 0 v rfl)
section
variable {P : Program} {w : World} {e : Env} {d : Option Nat} {ty : TypeId} {pos : String} {aft : Array Edge} {g : Option (Nat × Bool)}
theorem w_boxA {T : TypeId} {x : Operand} {cs : List Value} (hx : ev e x = .agg cs.toArray) : OpWp P ⟨d, .box T x, ty, pos, aft, g⟩ e w (New w cs) := w_box cs (by rw [hx]; rfl)
theorem w_box1 {T : TypeId} {x : Operand} {v : Value} (hx : ev e x = v) (h1 : v.cells = #[v]) : OpWp P ⟨d, .box T x, ty, pos, aft, g⟩ e w (New w [v]) := w_box [v] (by rw [hx, h1])
theorem w_storeA {T : TypeId} {x y : Operand} {b o n : Nat} {cs old : List Value} (hs : ∀ w, (sizeOf T).run P w = .ok n w) (hx : ev e x = .pointer (some ⟨b, o, none⟩)) (hy : ev e y = .agg cs.toArray) (hn : cs.length = n) (hf : Flat cs)
    (hp : Pc w b o old) (ho : old.length = n) : OpWp P ⟨d, .store T x y, ty, pos, aft, g⟩ e w (fun _ w' => Pc w' b o cs ∧ Chg (rng b o n) w w') := w_store cs hs hx (by rw [hy]; rfl) hn hf hp ho
theorem w_store1 {T : TypeId} {x y : Operand} {b o : Nat} {v u : Value} (hs : ∀ w, (sizeOf T).run P w = .ok 1 w) (hx : ev e x = .pointer (some ⟨b, o, none⟩)) (hy : ev e y = v) (h1 : v.cells = #[v]) (hf : one v = true)
    (hp : Pc w b o [u]) : OpWp P ⟨d, .store T x y, ty, pos, aft, g⟩ e w (fun _ w' => Pc w' b o [v] ∧ Chg (rng b o 1) w w') := w_store [v] hs hx (by rw [hy, h1]) rfl (flat_one hf) hp rfl
end
theorem nt {b : Bool} (h : (!b) = true) : b = false := by cases b; rfl; cases h
theorem nf {b : Bool} (h : (!b) = false) : b = true := by cases b; cases h; rfl
theorem bs_len {l : List UInt8} {n : Nat} (h : l.length = n) : (bs l).length = n := by rw [bs_length, h]
theorem ws_len {l : List UInt32} {n : Nat} (h : l.length = n) : (ws l).length = n := by rw [ws_length, h]
end Go.Eng
/- Longs; arrays built; slices made, copied, appended to. -/
namespace Go.Eng
section
variable {P : Program} {w : World} {e : Env} {d : Option Nat} {ty : TypeId} {pos : String} {aft : Array Edge} {g : Option (Nat × Bool)}
variable {t t' : TypeId} {x y : Operand} {a b : Int}
variable {p q : UInt64}
theorem r_sub64 (hx : ev e x = u64 p) (hy : ev e y = u64 q) : (execOp (ev e) ⟨d, .binOp .sub t x y t', ty, pos, aft, g⟩).run P w = .ok (.value (u64 (p - q))) w := by
  have hp := p.toNat_lt
  have hq := q.toNat_lt
  rw [r_sub hx hy, wrap_u64_of _ (p - q) (by rw [UInt64.toNat_sub]; omega)]
theorem r_mul64 (hx : ev e x = u64 p) (hy : ev e y = u64 q) : (execOp (ev e) ⟨d, .binOp .mul t x y t', ty, pos, aft, g⟩).run P w = .ok (.value (u64 (p * q))) w := by
  rw [r_mul hx hy, wrap_u64_of _ (p * q) (by rw [UInt64.toNat_mul, Int.natCast_emod, Int.natCast_mul]; rfl)]
theorem bits64 (p : UInt64) : BitVec.ofInt 64 (p.toNat : Int) = p.toBitVec := by
  rw [BitVec.ofInt_natCast]
  show BitVec.ofNat 64 p.toBitVec.toNat = _
  rw [BitVec.ofNat_toNat, BitVec.setWidth_eq]
theorem r_and64 (hx : ev e x = u64 p) (hy : ev e y = u64 q) : (execOp (ev e) ⟨d, .binOp .and t x y t', ty, pos, aft, g⟩).run P w = .ok (.value (u64 (p &&& q))) w := by
  have h : (execOp (ev e) ⟨d, .binOp .and t x y t', ty, pos, aft, g⟩).run P w = .ok (.value (.int .u64 (IntKind.u64.wrap ((BitVec.ofInt IntKind.u64.bits (p.toNat : Int) &&& BitVec.ofInt IntKind.u64.bits (q.toNat : Int)).toNat)))) w := by
    simp only [execOp, hx, hy, eqGuard, binOp, Op.intBits, Sem.run_pure, Sem.run_bind, ne_eq, not_true_eq_false, if_false]
    rfl
  rw [h, show IntKind.u64.bits = 64 from rfl, bits64, bits64, wrap_u64_of _ (p &&& q) ?_]
  have hlt := (p &&& q).toNat_lt
  show ((p &&& q).toNat : Int) % _ = _
  omega
def shr64 (p : UInt64) (n : Nat) : UInt64 := UInt64.ofNat (p.toNat / 2 ^ (min n 64))
theorem r_shr64 {yk : IntKind} (hx : ev e x = u64 p) (hy : ev e y = .int yk b) (hb : 0 ≤ b) : (execOp (ev e) ⟨d, .binOp .shr t x y t', ty, pos, aft, g⟩).run P w = .ok (.value (u64 (shr64 p b.toNat))) w := by
  rw [r_shr hx hy hb]
  have h : ((p.toNat : Int).fdiv (2 ^ (min b.toNat IntKind.u64.bits))) = ((shr64 p b.toNat).toNat : Int) := by
    rw [shr64, UInt64.toNat_ofNat', show IntKind.u64.bits = 64 from rfl, Int.fdiv_eq_ediv_of_nonneg _ (by exact_mod_cast Nat.zero_le _)]
    have hp := p.toNat_lt
    have : p.toNat / 2 ^ (min b.toNat 64) ≤ p.toNat := Nat.div_le_self _ _
    rw [Nat.mod_eq_of_lt (by omega), Int.natCast_ediv, Int.natCast_pow]
    rfl
  rw [h]
/-- an int of 64 bits to the right, not below 0 -/
theorem r_shri {yk : IntKind} (hx : ev e x = i64 a) (hy : ev e y = .int yk b) (hb : 0 ≤ b) (h64 : b ≤ 63) : (execOp (ev e) ⟨d, .binOp .shr t x y t', ty, pos, aft, g⟩).run P w = .ok (.value (i64 (a / 2 ^ b.toNat))) w := by
  rw [r_shr hx hy hb, show min b.toNat IntKind.i64.bits = b.toNat from by rw [show IntKind.i64.bits = 64 from rfl]; omega, Int.fdiv_eq_ediv_of_nonneg _ (by exact_mod_cast Nat.zero_le _)]
variable {r s : UInt8}
end
section
variable {P : Program} {w : World} {e : Env} {d : Option Nat} {ty : TypeId} {pos : String} {aft : Array Edge} {g : Option (Nat × Bool)}
/-- a slice of an array in memory that is not empty behind its begin -/
theorem r_sliceA {t el : TypeId} {x : Operand} {lo hi mx : Option Operand} {b o n l h m sz : Nat} (hu : ∀ w, (underlying t).run P w = .ok (.array n el) w) (hs : ∀ w, (sizeOf el).run P w = .ok sz w)
    (hx : ev e x = .pointer (some ⟨b, o, none⟩)) (hl : BdIs e lo 0 l) (hh : BdIs e hi n h) (hm : BdIs e mx n m) (h3 : mx.isSome = true → hi.isSome = true)
    (h1 : l ≤ h) (h2 : mx.isSome = true ∨ hi.isSome = true → h ≤ m) (h4 : m ≤ n) (h5 : l < m) : (execOp (ev e) ⟨d, .slice t x lo hi mx, ty, pos, aft, g⟩).run P w = .ok (.value (.slice (some ⟨b, o + l * sz, none⟩) (h - l) (m - l))) w := by
  rw [r_sliceArr hu hs hx hl hh hm h3 h1 h2 h4, if_neg (by omega)]
theorem bs_sub (l : List UInt8) (k n : Nat) : ((bs l).drop k).take n = bs ((l.drop k).take n) := by simp [bs, List.map_drop, List.map_take]
theorem Rd.subB {w : World} {b o : Nat} {l : List UInt8} (h : Rd w b o (bs l)) (k n : Nat) : Rd w b (o + k * 1) (bs ((l.drop k).take n)) := by
  rw [← bs_sub, Nat.mul_one]; exact h.sub k n
theorem Pc.subB {w : World} {b o : Nat} {l : List UInt8} (h : Pc w b o (bs l)) (k n : Nat) : Pc w b (o + k * 1) (bs ((l.drop k).take n)) := by
  rw [← bs_sub, Nat.mul_one]; exact h.sub k n
/-- an array by its elements -/
theorem r_buildA {t el : TypeId} {parts : Array (Nat × Operand)} {z : Value} {cs : List Value} {n sz : Nat} (hz : ∀ w, (zeroValue t).run P w = .ok z w) (hu : ∀ w, (underlying t).run P w = .ok (.array n el) w) (hs : ∀ w, (sizeOf el).run P w = .ok sz w)
    (hf : Instr.fill (fun i => some (i * sz, sz)) z.cells (parts.toList.map fun x => (x.1, ev e x.2)) = some cs.toArray) : (execOp (ev e) ⟨d, .build t parts, ty, pos, aft, g⟩).run P w = .ok (.value (.agg cs.toArray)) w := by
  have hp : (parts.map fun (x : Nat × Operand) => (x.1, ev e x.2)).toList = parts.toList.map fun x => (x.1, ev e x.2) := by simp
  simp only [execOp, Instr.build, Sem.run_bind, hz, hu, hs, Result.andThen_ok, hp, hf, Sem.run_pure]
/-- filling one cell after the other -/
theorem fill_one (vs : List Value) (h1 : ∀ v ∈ vs, v.cells = #[v]) : ∀ (k : Nat) (z : List Value), k + vs.length ≤ z.length →
    Instr.fill (fun i => some (i * 1, 1)) z.toArray (vs.zipIdx k |>.map fun x => (x.2, x.1)) = some (z.take k ++ vs ++ z.drop (k + vs.length)).toArray := by
  induction vs with
  | nil => intro k z hk; simp [Instr.fill]
  | cons v vs ih =>
    intro k z hk
    have hv := h1 v (by simp)
    simp only [List.length_cons] at hk
    simp only [List.zipIdx_cons, List.map_cons, Instr.fill, hv]
    have c1 : ¬ ((#[v] : Array Value).size ≠ 1 || k * 1 + (#[v] : Array Value).size > z.toArray.size) = true := by
      simp; omega
    rw [if_neg c1]
    have c2 : Array.foldl (fun (cs : Array Value) (x : Value × Nat) => cs.setIfInBounds (k * 1 + x.2) x.1) z.toArray (#[v] : Array Value).zipIdx = (z.set k v).toArray := by
      simp [Array.zipIdx]
    have c3 := ih (fun u hu => h1 u (by simp [hu])) (k + 1) (z.set k v) (by simp; omega)
    refine (congrArg (fun q => Instr.fill _ q _) c2).trans (c3.trans ?_)
    congr 2
    have hk' : k < z.length := by omega
    rw [List.take_set, List.take_succ_eq_append_getElem hk', List.drop_set_of_lt (by omega), List.length_cons]
    rw [List.set_append_right _ _ (by simp; omega)]
    simp only [List.length_take, Nat.min_eq_left (Nat.le_of_lt hk'), Nat.sub_self, List.set_cons_zero, List.append_assoc, List.singleton_append]
    rw [show k + 1 + vs.length = k + (vs.length + 1) by omega]
/-- bytes put into a list at a place -/
def putAt (l : List UInt8) (k : Nat) (m : List UInt8) : List UInt8 := l.take k ++ m ++ l.drop (k + m.length)
theorem putAt_length (l : List UInt8) (k : Nat) (m : List UInt8) (h : k + m.length ≤ l.length) : (putAt l k m).length = l.length := by simp [putAt]; omega
/- #### slices of the call's own -/
/-- v is a slice of n elements of E (sz cells each) whose cells are cs; its row lies in a block from B on and is not shared. -/
abbrev Owns (w : World) (B : Nat) (E : TypeId) (sz : Nat) (v : Value) (n : Nat) (cs : List Value) : Prop := w.ownsRow B E sz v n cs
theorem Owns.form {B : Nat} {E : TypeId} {sz n : Nat} {v : Value} {cs : List Value} (h : Owns w B E sz v n cs) : ∃ a c, v = .slice a n c ∧ n ≤ c ∧ SlAt w a cs ∧ (∀ x, a = some x → B ≤ x.block) := by
  rcases h.2 with ⟨rfl, rfl⟩ | ⟨g', cap, cur, rfl, hb, hg, hn, _, hsz, ht⟩
  · have : cs = [] := List.eq_nil_of_length_eq_zero (by have := h.1; omega)
    exact ⟨none, 0, rfl, Nat.le_refl _, .inl this, fun x hx => by cases hx⟩
  · refine ⟨_, cap, rfl, hn, SlAt.some fun j v hj => ?_, fun x hx => by cases hx; exact hb⟩
    rw [Nat.zero_add, cell_of_row w g' j cur E (0, 0) hg]
    rw [← ht, List.getElem?_take] at hj
    split at hj
    · simpa using hj
    · cases hj
theorem Owns.kept {M : Nat → Nat → Prop} {w w' : World} {B : Nat} {E : TypeId} {sz n : Nat} {v : Value} {cs : List Value} (h : Owns w B E sz v n cs) (k : Chg M w w') (hm : ∀ b o, B ≤ b → some b = v.ownBlock → ¬ M b o) : Owns w' B E sz v n cs := by
  refine ⟨h.1, ?_⟩
  rcases h.2 with h2 | ⟨g', cap, cur, rfl, hb, hg, r⟩
  · exact .inl h2
  · refine .inr ⟨g', cap, cur, rfl, hb, ?_, r⟩
    have hlt : g' < w.heap.size := by
      rcases Nat.lt_or_ge g' w.heap.size with h' | h'
      · exact h'
      · rw [Array.getElem?_eq_none h'] at hg; cases hg
    rw [k.obj g' hlt (fun o => hm g' o hb rfl)]; exact hg
theorem Owns.k {w w' : World} {B : Nat} {E : TypeId} {sz n : Nat} {v : Value} {cs : List Value} (h : Owns w B E sz v n cs) (k : Kept w w') : Owns w' B E sz v n cs := h.kept k fun _ _ _ _ => id
theorem Owns.drew {w : World} {B : Nat} {E : TypeId} {sz n : Nat} {v : Value} {cs : List Value} (h : Owns w B E sz v n cs) : Owns w.drew B E sz v n cs := h
/-- another block is written -/
theorem Owns.kb {w w' : World} {B b2 o2 n2 : Nat} {E : TypeId} {sz n : Nat} {v : Value} {cs : List Value} (h : Owns w B E sz v n cs) (k : Chg (rng b2 o2 n2) w w') (hb : some b2 ≠ v.ownBlock) : Owns w' B E sz v n cs :=
  h.kept k fun _ _ _ hv m => hb (by rw [← hv, m.1])
theorem Owns.kB {w w' : World} {B b2 : Nat} {E : TypeId} {sz n : Nat} {v : Value} {cs : List Value} (h : Owns w B E sz v n cs) (k : Chg (blk b2) w w') (hb : some b2 ≠ v.ownBlock) : Owns w' B E sz v n cs :=
  h.kept k fun b _ _ hv m => hb (by rw [← hv, show b = b2 from m])
theorem Owns.mono {w : World} {B B' : Nat} {E : TypeId} {sz n : Nat} {v : Value} {cs : List Value} (h : Owns w B E sz v n cs) (hB : B' ≤ B) : Owns w B' E sz v n cs :=
  ⟨h.1, h.2.imp id fun ⟨g', cap, cur, a, b, r⟩ => ⟨g', cap, cur, a, Nat.le_trans hB b, r⟩⟩
theorem Owns.nil (w : World) (B : Nat) (E : TypeId) (sz : Nat) : Owns w B E sz (.slice none 0 0) 0 [] := World.ownsRow_nil w B E sz
/-- the block of a slice -/
def ob (v : Value) : Nat → Nat → Prop := fun b _ => some b = v.ownBlock
theorem chg_grownBy {w w' : World} {v : Value} (h : w.grownBy w' v.ownBlock) : Chg (ob v) w w' :=
  ⟨h.os, h.tape, h.output, h.size, fun b _ hb hm => World.cell?_of_block (w := w) (h.block b hb hm), fun b _ hb hm => World.frozen?_of_block (w := w) (h.block b hb hm), fun b hb hm => h.block b hb (hm 0)⟩
/-- append(v, x): x a slice of m elements -/
theorem w_append {s x : Operand} {tS tX : TypeId} {B : Nat} {E : TypeId} {i : TypeInfo} {z v : Value} {n m c sz : Nat} {cs news : List Value} {a : Option Addr} (hu : P.underlying tS = some (.slice E)) (hX : tX = tS) (hi : P.info? E = some i) (hz : i.zero = some z) (hsz : i.size = sz) (hzs : z.cells.size = sz) (h0 : Nat.blt 0 sz = true)
    (hs : ev e s = v) (hown : Owns w B E sz v n cs) (hx : ev e x = .slice a m c) (ha : SlAt w a news) (hl : news.length = m * sz) (hf : Flat news) (hlen : n + m ≤ 4611686018427387904) (hby : (n + m) * i.bytes ≤ 140737488355328) (hB : B ≤ w.heap.size) :
    OpWp P ⟨d, .call ⟨.builtin .append, #[s, x], #[tS, tX]⟩, ty, pos, aft, g⟩ e w (fun v' w' => Owns w' B E sz v' (n + m) (cs ++ news) ∧ Chg (ob v) w w') := by
  subst hX
  have hsz0 : 0 < sz := by rw [Nat.blt_eq] at h0; exact h0
  have key : ∃ v' w', (Builtin.append_ #[tX, tX] ty #[v, .slice a m c]).run P w = .ok v' w' ∧ w'.ownsRow B E sz v' (n + m) (cs ++ news) ∧ w.grownBy w' v.ownBlock := by
    rcases Nat.eq_zero_or_pos m with hm | hm
    · subst hm
      have hn : news = [] := List.eq_nil_of_length_eq_zero (by omega)
      subst hn
      cases a with
      | some ad =>
        obtain ⟨v', w', h1, h2, h3, _⟩ := run_append_own (P := P) w B tX ty E i z sz i.bytes hu hi hz hsz rfl hzs hsz0 v n cs hown ad 0 c [] (by simp) (by simp) (by simp) (by simp only [maxLen]; omega) hby hB
        exact ⟨v', w', h1, h2, h3⟩
      | none =>
        refine ⟨v, w, ?_, by simpa using hown, ⟨rfl, rfl, rfl, Nat.le_refl _, fun _ _ _ => rfl⟩⟩
        obtain ⟨a', c', hv, hnc, _, _⟩ := Owns.form hown
        subst hv
        cases a' with
        | none => simp [Builtin.append_, run_underlying hu, sizeOf, typeInfo, hi, Builtin.lenOf, Builtin.firstCells, hnc]
        | some y => simp [Builtin.append_, run_underlying hu, sizeOf, typeInfo, hi, Builtin.lenOf, Builtin.firstCells, hnc, storeCells]
    · rcases ha with ha | ⟨b, o, rfl, hr⟩
      · subst ha
        have : m * sz = 0 := by simpa using hl.symm
        rcases Nat.mul_eq_zero.1 this with h' | h' <;> omega
      · obtain ⟨v', w', h1, h2, h3, _⟩ := run_append_own (P := P) w B tX ty E i z sz i.bytes hu hi hz hsz rfl hzs hsz0 v n cs hown ⟨b, o, none⟩ m c news hl (fun j u hj => by rw [add_none]; exact hr j u hj) hf (by simp only [maxLen]; omega) hby hB
        exact ⟨v', w', h1, h2, h3⟩
  obtain ⟨v', w', h1, h2, h3⟩ := key
  unfold OpWp
  have : (execOp (ev e) ⟨d, .call ⟨.builtin .append, #[s, x], #[tX, tX]⟩, ty, pos, aft, g⟩).run P w = .ok (.value v') w' := by
    simp only [execOp, resolve, invoke, builtin, Sem.run_bind, Sem.run_pure, Result.andThen_ok, List.map_toArray, List.map_cons, List.map_nil, hs, hx, h1]
  rw [this]
  exact ⟨h2, chg_grownBy h3⟩
theorem madeCells_list (v : Value) (n : Nat) : (madeCells #[v] n).toList = List.replicate n v := by
  apply List.ext_getElem
  · simp [madeCells]
  · intro j h1 h2
    simp [madeCells]
    have : j % 1 = 0 := Nat.mod_one j
    simp [this]
/-- make([]T, n, c), T of one cell -/
theorem w_make {t : TypeId} {x y : Operand} {E : TypeId} {i : TypeInfo} {z : Value} {a b : Int} {n c : Nat} (hu : P.underlying t = some (.slice E)) (hi : P.info? E = some i) (hz : i.zero = some z) (hsz : i.size = 1) (hzs : z.cells = #[z])
    (hx : ev e x = i64 a) (hy : ev e y = i64 b) (ha : a = n) (hb : b = c) (hnc : n ≤ c) (hby : c * i.bytes ≤ 281474976710656) (hc : c ≤ 4611686018427387904) :
    OpWp P ⟨d, .makeSlice t x y, ty, pos, aft, g⟩ e w (fun v w' => ∃ bk, v = .slice (some ⟨bk, 0, none⟩) n c ∧ w.heap.size ≤ bk ∧ bk < w'.heap.size ∧ Owns w' w.heap.size E 1 v n (List.replicate n z) ∧ Pc w' bk 0 (List.replicate c z) ∧ Kept w w') := by
  subst ha; subst hb
  have hr := run_make (P := P) w t E i z hu hi hz .i64 .i64 n c (by omega) (by omega) (by rw [← Int.natCast_mul, Nat.mul_comm]; exact Int.ofNat_le.2 hby) (by omega)
  rw [Int.toNat_natCast, Int.toNat_natCast, hsz, Nat.mul_one, hzs] at hr
  have hmx : c ≤ maxLen := by simp only [maxLen]; omega
  unfold OpWp
  have : (execOp (ev e) ⟨d, .makeSlice t x y, ty, pos, aft, g⟩).run P w = .ok (.value (.slice (some ⟨w.heap.size, 0, none⟩) n c)) (w.alloc (.cells (madeCells #[z] c) E)) := by
    simp only [execOp, hx, hy, Sem.run_bind, hr, Result.andThen_ok, Sem.run_pure]
  rw [this]
  have hl := madeCells_list z c
  refine ⟨_, rfl, Nat.le_refl _, by simp, ⟨by simp, .inr ⟨_, c, _, rfl, Nat.le_refl _, heap_alloc_new w _, hnc, hmx, by rw [size_madeCells, Nat.mul_one], ?_⟩⟩, ?_, chg_alloc _ _⟩
  · rw [hl, List.take_replicate]; congr 1; omega
  · have := pc_alloc w (madeCells #[z] c) E
    rwa [hl] at this
theorem w_copy_b {dT sT : TypeId} {x y : Operand} {el : TypeId} {b o lo dLen dCap sLen sCap : Nat} {l m : List UInt8} {a : Option Addr} (hu : P.underlying dT = some (.slice el)) (hs : (P.info? el).map (·.size) = some 1)
    (hx : ev e x = .slice (some ⟨b, o + lo * 1, none⟩) dLen dCap) (hy : ev e y = .slice a sLen sCap) (hp : Pc w b o (bs l)) (hd : lo + dLen ≤ l.length) (ha : SlAt w a (bs m)) (hm : m.length = sLen) :
    OpWp P ⟨d, .call ⟨.builtin .copy, #[x, y], #[dT, sT]⟩, ty, pos, aft, g⟩ e w (fun v w' => v = i64 (min sLen dLen : Nat) ∧ Pc w' b o (bs (putAt l lo (m.take dLen))) ∧ Chg (rng b o l.length) w w') := by
  rw [Nat.mul_one] at hx
  have htl : (bs (l.take lo)).length = lo := by rw [bs_length, List.length_take]; omega
  have hlen : (m.take dLen).length = Nat.min sLen dLen := by rw [List.length_take, hm, Nat.min_comm]
  have fin : ∀ w', (∀ (j : Nat) v, (bs (m.take dLen))[j]? = some v → w'.cell? ⟨b, o + lo + j, none⟩ = some v) → Chg (rng b (o + lo) (m.take dLen).length) w w' → (∀ o', w'.frozen? ⟨b, o', none⟩ = w.frozen? ⟨b, o', none⟩) →
      Pc w' b o (bs (putAt l lo (m.take dLen))) ∧ Chg (rng b o l.length) w w' := by
    intro w' hin hc hfz
    have hle : (m.take dLen).length ≤ dLen := by rw [hlen]; exact Nat.min_le_right _ _
    refine ⟨⟨fun j v hj => ?_, fun j v hj => ?_⟩, hc.mono fun b' o' _ q => ⟨q.1, by have := q.2; omega, by have := q.2; omega⟩⟩
    · unfold putAt at hj
      rw [bs_append, bs_append, List.append_assoc] at hj
      rcases Nat.lt_or_ge j lo with h1 | h1
      · rw [List.getElem?_append_left (by rw [htl]; exact h1)] at hj
        have : (bs l)[j]? = some v := by rw [← hj]; simp [bs, h1]
        rw [hc.cell b (o + j) (cell_lt (hp.1 j v this)) (fun q => by have := q.2; omega)]
        exact hp.1 j v this
      · rw [List.getElem?_append_right (by rw [htl]; exact h1), htl] at hj
        rcases Nat.lt_or_ge (j - lo) (m.take dLen).length with h2 | h2
        · rw [List.getElem?_append_left (by rw [bs_length]; exact h2)] at hj
          have := hin _ v hj
          rwa [show o + lo + (j - lo) = o + j by omega] at this
        · rw [List.getElem?_append_right (by rw [bs_length]; exact h2), bs_length] at hj
          have : (bs l)[j]? = some v := by
            rw [← hj]; simp only [bs, List.map_drop, List.getElem?_drop]
            congr 1; omega
          rw [hc.cell b (o + j) (cell_lt (hp.1 j v this)) (fun q => by have := q.2; omega)]
          exact hp.1 j v this
    · rw [hfz]
      have hjl : j < l.length := by
        have hlt : j < (bs (putAt l lo (m.take dLen))).length := by rcases Nat.lt_or_ge j (bs (putAt l lo (m.take dLen))).length with h' | h'; exact h'; rw [List.getElem?_eq_none h'] at hj; cases hj
        rw [bs_length, putAt_length l lo _ (by omega)] at hlt
        exact hlt
      exact hp.2 j _ (bs_get hjl)
  have same : ∀ w1 : World, w1 = w → (∀ o', w1.frozen? ⟨b, o', none⟩ = w.frozen? ⟨b, o', none⟩) := fun w1 h o' => by rw [h]
  unfold OpWp
  rcases ha with ha | ⟨bs_, os_, rfl, hr⟩
  · -- nothing is copied
    have hm0 : m = [] := by simpa [bs] using ha
    subst hm0
    have hz : sLen = 0 := by simpa using hm.symm
    subst hz
    have : (execOp (ev e) ⟨d, .call ⟨.builtin .copy, #[x, y], #[dT, sT]⟩, ty, pos, aft, g⟩).run P w = .ok (.value (i64 0)) w := by
      cases hq : P.info? el with
      | none => simp [hq] at hs
      | some i =>
        cases a <;> simp [execOp, resolve, invoke, builtin, hx, hy, Builtin.copy_, run_underlying hu, Builtin.lenOf, Builtin.firstCells, sizeOf, typeInfo, hq, goInt, loadCells, loadCellsFrom, storeCells]
    rw [this]
    refine ⟨by simp, fin w (fun j v hj => by simp [bs] at hj) (Chg.refl _ _) (same w rfl)⟩
  · have hcs : (bs (m.take dLen)).length = Nat.min sLen dLen := by rw [bs_length, hlen]
    have hle : (m.take dLen).length ≤ dLen := by rw [hlen]; exact Nat.min_le_right _ _
    have hold : ∀ j, j < (bs (m.take dLen)).length → (bs l)[lo + j]? = some (u8 (l.getD (lo + j) 0)) := fun j hj => bs_get (by rw [bs_length] at hj; omega)
    have hr' := run_copy_cells (P := P) w dT sT ty el b (o + lo) dLen dCap ⟨bs_, os_, none⟩ sLen sCap (bs (m.take dLen)) hu hs hcs
      (fun j v hj => by
        rw [add_none]; refine hr j v ?_
        simp only [bs, List.map_take, List.getElem?_take] at hj
        split at hj
        · exact hj
        · cases hj)
      (fun j hj => by rw [show o + lo + j = o + (lo + j) by omega, hp.1 _ _ (hold j hj)]; rfl)
      (fun j hj => by rw [show o + lo + j = o + (lo + j) by omega]; exact hp.2 _ _ (hold j hj)) (flat_bs _)
    have : (execOp (ev e) ⟨d, .call ⟨.builtin .copy, #[x, y], #[dT, sT]⟩, ty, pos, aft, g⟩).run P w = .ok (.value (i64 (min sLen dLen : Nat))) (w.setCells b (o + lo) (bs (m.take dLen))) := by
      simp only [execOp, resolve, invoke, builtin, hx, hy, Sem.run_bind, Sem.run_pure, Result.andThen_ok, List.map_toArray, List.map_cons, List.map_nil, hr', goInt, hcs]
    rw [this]
    have base : ∀ (vs : List Value) (o : Nat) (w : World), (w.setCells b o vs).os = w.os ∧ (w.setCells b o vs).tape = w.tape ∧ (w.setCells b o vs).output = w.output ∧ (w.setCells b o vs).heap.size = w.heap.size ∧
        ∀ c, c ≠ b → (w.setCells b o vs).heap[c]? = w.heap[c]? := by
      intro vs
      induction vs with
      | nil => intro o w; exact ⟨rfl, rfl, rfl, rfl, fun _ _ => rfl⟩
      | cons v vs ih =>
        intro o w
        obtain ⟨q1, q2, q3, q4, q5⟩ := ih (o + 1) (w.setCell ⟨b, o, none⟩ v)
        refine ⟨q1, q2, q3, by rw [World.setCells, q4, World.size_setCell], fun c hc => by rw [World.setCells, q5 c hc, heap_setCell_other _ _ _ _ hc]⟩
    obtain ⟨q1, q2, q3, q4, q5⟩ := base (bs (m.take dLen)) (o + lo) w
    refine ⟨rfl, fin _ (fun j v hj => ?_) ⟨q1, q2, q3, by omega, fun b' o' _ hm => ?_, fun b' o' _ _ => World.frozen?_setCells _ _ _ _ _, fun b' _ hm => ?_⟩ (fun o' => World.frozen?_setCells _ _ _ _ _)⟩
    · have hl : j < (bs (m.take dLen)).length := by rcases Nat.lt_or_ge j (bs (m.take dLen)).length with h' | h'; exact h'; rw [List.getElem?_eq_none h'] at hj; cases hj
      rw [World.cell?_setCells_in b _ (o + lo) w (fun i hi => by rw [show o + lo + i = o + (lo + i) by omega, hp.1 _ _ (hold i hi)]; rfl) j hl]
      rw [List.getElem?_eq_getElem hl] at hj; exact hj
    · refine World.cell?_setCells_out b _ (o + lo) w _ (fun h1 _ => ?_)
      have hb : b' = b := h1
      subst hb
      rcases Nat.lt_or_ge o' (o + lo) with h' | h'
      · exact .inl h'
      · refine .inr ?_
        rcases Nat.lt_or_ge o' (o + lo + (m.take dLen).length) with h'' | h''
        · exact (hm ⟨rfl, h', h''⟩).elim
        · show o + lo + (bs (m.take dLen)).length ≤ o'; rw [bs_length]; exact h''
    · by_cases hb : b' = b
      · subst hb
        cases hq : (m.take dLen) with
        | nil => rfl
        | cons v vs => exact (hm (o + lo) ⟨rfl, Nat.le_refl _, by rw [hq, List.length_cons]; omega⟩).elim
      · exact q5 b' hb
end
theorem Owns.sl {w : World} {B : Nat} {E : TypeId} {sz n n' c : Nat} {a : Option Addr} {cs : List Value} (h : Owns w B E sz (.slice a n c) n' cs) : SlAt w a cs := by
  obtain ⟨a', c', he, _, hs, _⟩ := Owns.form h
  cases he
  exact hs
/-- a block that is new to it, a block that is older -/
theorem Owns.ne_ge {w : World} {B : Nat} {E : TypeId} {sz n : Nat} {v : Value} {cs : List Value} (h : Owns w B E sz v n cs) {b : Nat} (hb : w.heap.size ≤ b) : some b ≠ v.ownBlock := by
  rcases h.2 with ⟨rfl, _⟩ | ⟨g', cap, cur, rfl, _, hg, _⟩
  · simp [Value.ownBlock]
  · intro he
    have : b = g' := by simpa [Value.ownBlock] using he
    subst this
    rw [Array.getElem?_eq_none hb] at hg; cases hg
theorem Owns.ne_lt {w : World} {B : Nat} {E : TypeId} {sz n : Nat} {v : Value} {cs : List Value} (h : Owns w B E sz v n cs) {b : Nat} (hb : b < B) : some b ≠ v.ownBlock := by
  rcases h.2 with ⟨rfl, _⟩ | ⟨g', cap, cur, rfl, hB, hg, _⟩
  · simp [Value.ownBlock]
  · intro he
    have : b = g' := by simpa [Value.ownBlock] using he
    omega
theorem Pc.kob {w w' : World} {b o : Nat} {v : Value} {cs : List Value} (h : Pc w b o cs) (k : Chg (ob v) w w') (hb : some b ≠ v.ownBlock) : Pc w' b o cs := h.kept k fun _ _ m => hb m
/-- an own slice is written that is new to w -/
theorem Chg.newOb {M : Nat → Nat → Prop} {w w1 w2 : World} {v : Value} {B : Nat} {E : TypeId} {sz n : Nat} {cs : List Value} (h : Chg M w w1) (k : Chg (ob v) w1 w2) (ho : Owns w1 B E sz v n cs) (hB : w.heap.size ≤ B) : Chg M w w2 :=
  h.into k fun b _ hb m => (Owns.ne_lt ho (b := b) (by omega) m).elim
theorem bs_rep (n : Nat) : bs (List.replicate n 0) = List.replicate n (.int .u8 0) := by simp [bs]
theorem Chg.kept_of_nil {w w' : World} {n c : Nat} (h : Chg (ob (.slice none n c)) w w') : Kept w w' := h.mono fun b o _ m => by cases m
section
variable {P : Program} {w : World} {e : Env} {d : Option Nat} {ty : TypeId} {pos : String} {aft : Array Edge} {g : Option (Nat × Bool)}
/-- values that are bytes -/
inductive AsB : List Value → List UInt8 → Prop
  | n : AsB [] []
  | c {x : UInt8} {vs : List Value} {l : List UInt8} : AsB vs l → AsB (u8 x :: vs) (x :: l)
theorem AsB.eq {vs : List Value} {l : List UInt8} (h : AsB vs l) : vs = bs l := by
  induction h with
  | n => rfl
  | c _ ih => rw [ih]; rfl
theorem pairs_of : ∀ (ps : List (Nat × Value)) (k : Nat) (vs : List Value), ps.map (·.1) = List.range' k ps.length → ps.map (·.2) = vs → ps = (vs.zipIdx k).map fun x => (x.2, x.1)
  | [], _, vs, _, h => by subst h; rfl
  | (i, v) :: ps, k, vs, h1, h2 => by
    subst h2
    simp only [List.map_cons, List.length_cons, List.range'_succ, List.cons.injEq] at h1
    obtain ⟨rfl, h1⟩ := h1
    simp only [List.map_cons, List.zipIdx_cons]
    rw [← pairs_of ps (i + 1) _ h1 rfl]
/-- an array of bytes by its elements, all of them -/
theorem r_buildB {t el : TypeId} {parts : Array (Nat × Operand)} {z : Value} {zs : List Value} {l : List UInt8} {n : Nat} (hz : ∀ w, (zeroValue t).run P w = .ok z w) (hzs : z = .agg zs.toArray) (hu : ∀ w, (underlying t).run P w = .ok (.array n el) w) (hs : ∀ w, (sizeOf el).run P w = .ok 1 w)
    (hp : parts.toList.map (·.1) = List.range' 0 zs.length) (hv : AsB (parts.toList.map fun x => ev e x.2) l) : (execOp (ev e) ⟨d, .build t parts, ty, pos, aft, g⟩).run P w = .ok (.value (.agg (bs l).toArray)) w := by
  subst hzs
  have hvl : parts.toList.length = l.length := by have := congrArg List.length hv.eq; simpa [bs_length] using this
  have hzl : zs.length = l.length := by have := congrArg List.length hp; rw [List.length_map, List.length_range'] at this; omega
  refine r_buildA hz hu hs ?_
  have := fill_one (bs l) (fun v hv => by simp only [bs, List.mem_map] at hv; obtain ⟨x, _, rfl⟩ := hv; rfl) 0 zs (by rw [bs_length]; omega)
  rw [pairs_of (parts.toList.map fun x => (x.1, ev e x.2)) 0 (bs l) (by rw [List.map_map, List.length_map, hvl, ← hzl]; exact hp) (by rw [List.map_map]; exact hv.eq)]
  refine this.trans ?_
  simp [bs_length, hzl]
end
theorem SlAt.cutB_drop {w : World} {a : Option Addr} {l : List UInt8} (h : SlAt w a (bs l)) (k m : Nat) (hm : l.length ≤ m) : SlAt w (cutA a k m 1) (bs (l.drop k)) := by
  have := h.cut k m 1 l.length (by rw [bs_length, Nat.mul_one]; exact hm)
  rwa [Nat.mul_one, bs_sub, List.take_of_length_le (by simp)] at this
theorem SlAt.cutB_mid {w : World} {a : Option Addr} {l : List UInt8} (h : SlAt w a (bs l)) (k n m : Nat) (hm : l.length ≤ m) : SlAt w (cutA a k m 1) (bs ((l.drop k).take (n - k))) := by
  have := h.cut k m 1 (n - k) (by rw [bs_length, Nat.mul_one]; exact hm)
  rwa [Nat.mul_one, bs_sub] at this
theorem cutA_ne {a : Option Addr} {l m sz sb : Nat} (h : ∀ x, a = some x → x.block ≠ sb) : ∀ x, cutA a l m sz = some x → x.block ≠ sb := by
  intro y hc
  unfold cutA at hc
  split at hc
  · exact h y hc
  · cases a with
    | none => cases hc
    | some x =>
      simp only [Option.map_some, Option.some.injEq] at hc
      rw [← hc]
      have : (x.add (l * sz)).block = x.block := by unfold Addr.add; split <;> rfl
      rw [this]
      exact h x rfl
theorem SlAt.pos {w : World} {a : Option Addr} {cs : List Value} (h : SlAt w a cs) (hc : cs ≠ []) : ∃ b o, a = Option.some ⟨b, o, none⟩ ∧ Rd w b o cs := by
  rcases h with h | h
  · exact (hc h).elim
  · exact h
theorem Rd.takeB {w : World} {b o : Nat} {l : List UInt8} (h : Rd w b o (bs l)) (n : Nat) : Rd w b o (bs (l.take n)) := by
  have := h.subB 0 n
  rwa [Nat.zero_mul, Nat.add_zero, List.drop_zero] at this
end Go.Eng
namespace Go.Eng
attribute [irreducible] OpWp Rg Go Rtn
end Go.Eng
namespace Go.Eng
theorem dcT {p : Prop} [Decidable p] (h : decide p = true) : p := of_decide_eq_true h
theorem dcF {p : Prop} [Decidable p] (h : decide p = false) : ¬ p := of_decide_eq_false h
end Go.Eng
end
