/- Srt1: contracts of functions of the program: called in any world that meets a contract's premises, the function returns what the contract says and changes no more than it says. -/
import Derived.Test.YtdnccchcflaphaaSrt0
import Derived.WalkKit
import Derived.Deep.QuietTactic
import Derived.BigQuiet
import Derived.Laws.Externs
open Go Go.Eng Go.Proofs Go.Shelf Go.RowKit Go.Sort
namespace Go.Proofs.Ytdnccchcflaphaa
open Go.Lib
theorem rd_box {W : World} {T : TypeId} {c d : List Value} {q : Nat} : Rd (((W.alloc (Obj.cells c.toArray T)).alloc (Obj.cells d.toArray T)).drewN q) W.heap.size 0 c := by
  have h1 : Rd (W.alloc (Obj.cells c.toArray T)) W.heap.size 0 c := by
    have := (pc_alloc W c.toArray T).rd
    simpa using this
  have hb : W.heap.size < (W.alloc (Obj.cells c.toArray T)).heap.size := by simp
  intro j v h
  have h2 := h1 j v h
  rw [← h2]
  show World.cell? ((W.alloc (Obj.cells c.toArray T)).alloc (Obj.cells d.toArray T)) _ = _
  exact World.cell?_alloc_lt _ _ _ hb
theorem rd_box2 {W : World} {T : TypeId} {c d : List Value} {q : Nat} : Rd (((W.alloc (Obj.cells c.toArray T)).alloc (Obj.cells d.toArray T)).drewN q) (W.heap.size + 1) 0 d := by
  have h1 : Rd ((W.alloc (Obj.cells c.toArray T)).alloc (Obj.cells d.toArray T)) (W.alloc (Obj.cells c.toArray T)).heap.size 0 d := by
    have := (pc_alloc (W.alloc (Obj.cells c.toArray T)) d.toArray T).rd
    simpa using this
  have hs : (W.alloc (Obj.cells c.toArray T)).heap.size = W.heap.size + 1 := by simp
  rw [hs] at h1
  exact fun j v h => h1 j v h
theorem wl_value {P : Program} {ops : Array Oper} {Q : Exit → Act → World → Prop} {a : Act} {w : World} {rest : List Oper} {o : Oper} {v : Value} (hg : o.guard = none) (hr : (execOp a.eval o).run P w = .ok (.value v) w) (h : wpList P ops Q rest (a.put o.dst v) w) : wpList P ops Q (o :: rest) a w := by
  refine wpList_plain hg fun K hK => ?_
  unfold Oper.wp
  rw [hr]
  exact hK _ _ h
theorem run_loadBox {P : Program} {T : TypeId} {b n : Nat} {cs : List Value} {w : World} {a : Act} {d : Option Nat} {ty : TypeId} {pos : String} {aft : Array Edge} {g : Option (Nat × Bool)} {x : Operand} (hx : a.eval x = .pointer (some ⟨b, 0, none⟩))
    (hT : ∀ w, (isAgg T).run P w = .ok true w) (hs : ∀ w, (Go.sizeOf T).run P w = .ok n w) (hn : cs.length = n) (h : Rd w b 0 cs) : (execOp a.eval ⟨d, .load T x, ty, pos, aft, g⟩).run P w = .ok (.value (.agg cs.toArray)) w := by
  simp only [execOp, hx, Instr.loadAt, Instr.sureAddr, Sem.run_bind, Sem.run_pure, Result.andThen_ok, run_load_agg hT hs hn h]
set_option maxHeartbeats 1000000 in
set_option maxRecDepth 100000 in
theorem cmp41 (x y : List UInt8) (hx : x.length = 32) (hy : y.length = 32) (W : World) :
    Calls Try.prog 41 #[.agg (bs x).toArray, .agg (bs y).toArray] W fun e w' => e = .returned (.int .i64 (compareBytes x y)) ∧ ∃ q os', w' = grow (W.drewN q) os' := by
  have hcc : ∀ q, Calls Try.prog 55 #[.slice (some ⟨W.heap.size, 0, none⟩) 32 32, .slice (some ⟨W.heap.size + 1, 0, none⟩) 32 32] (((W.alloc (Obj.cells (bs x).toArray 24)).alloc (Obj.cells (bs y).toArray 24)).drewN q) fun e w' => e = .returned (.int .i64 (compareBytes x y)) ∧ w' = (((W.alloc (Obj.cells (bs x).toArray 24)).alloc (Obj.cells (bs y).toArray 24)).drewN q) := by
    intro q
    have := cmp55 x y W.heap.size 0 32 (W.heap.size + 1) 0 32 (((W.alloc (Obj.cells (bs x).toArray 24)).alloc (Obj.cells (bs y).toArray 24)).drewN q) rd_box rd_box2
    rw [hx, hy] at this
    exact this
  go_enter Try.func41, Try.ntmps41
  go_wp2
  go_quiet ((go_at_call 55; exact Calls.quiet_of_same (hcc _)))
  go_wp2
  go_ret
  exact ⟨rfl, nq, _, by rw [alloc_eq_grow, alloc_eq_grow, grow_grow]; rfl⟩
set_option maxHeartbeats 1000000 in
set_option maxRecDepth 100000 in
theorem cmp40 (x y : List UInt8) (hx : x.length = 32) (hy : y.length = 32) (W : World) :
    Calls Try.prog 40 #[.agg (bs x).toArray, .agg (bs y).toArray] W fun e w' => e = .returned (.int .i64 (compareBytes x y)) ∧ ∃ q os', w' = grow (W.drewN q) os' := by
  have hcon := cmp41 x y hx hy
  have r1 := rd_box (W := W) (T := 25) (c := bs x) (d := bs y) (q := 0)
  have r2 := rd_box2 (W := W) (T := 25) (c := bs x) (d := bs y) (q := 0)
  go_enter Try.func40, Try.ntmps40
  go_wp2_with (first | (refine wl_value rfl (run_loadBox rfl Try.isAgg25 Try.sizeOf25 (bs_len hx) r1) ?_) | (refine wl_value rfl (run_loadBox rfl Try.isAgg25 Try.sizeOf25 (bs_len hy) r2) ?_) | (go_at_call 41; refine (hcon _).mono ?_; rintro e w' ⟨rfl, q, os, rfl⟩))
  go_ret
  refine ⟨rfl, q, #[Obj.cells (bs x).toArray 25] ++ #[Obj.cells (bs y).toArray 25] ++ os, ?_⟩
  rw [alloc_eq_grow, alloc_eq_grow, grow_grow]
  exact grow_grow (W.drewN q) _ _
end Go.Proofs.Ytdnccchcflaphaa
