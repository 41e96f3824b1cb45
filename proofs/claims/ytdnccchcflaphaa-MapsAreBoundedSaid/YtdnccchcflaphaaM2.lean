/- M2: contracts of functions of the program: called in any world that meets a contract's premises, the function returns what the contract says and changes no more than it says. -/
import Derived.Test.YtdnccchcflaphaaM1
import Derived.Test.YtdnccchcflaphaaChecked
open Go Go.Eng Go.Proofs
namespace Go.Proofs.Ytdnccchcflaphaa
def xorTo (st blk : List UInt8) : Nat → List UInt8
  | 0 => st
  | k + 1 => (xorTo st blk k).set k ((xorTo st blk k).getD k 0 ^^^ blk.getD k 0)
@[simp] theorem xorTo_length (st blk : List UInt8) (k : Nat) : (xorTo st blk k).length = st.length := by induction k with | zero => rfl | succ k ih => simp [xorTo, ih]
def blockB (st blk : List UInt8) : List UInt8 := stirB (xorTo st blk 32)
@[simp] theorem blockB_length (st blk : List UInt8) : (blockB st blk).length = 64 := stirB_length _

theorem blockB_spec (st blk : List UInt8) (sb bb bo : Nat) (w : World) (hl : st.length = 64) (hl2 : blk.length = 32) (hs : Pc w sb 0 (bs st)) (hb : Rd w bb bo (bs blk)) (hd : bb ≠ sb ∨ 64 ≤ bo) :
    Rtn Try.prog 93 [.pointer (some ⟨sb, 0, none⟩), .pointer (some ⟨bb, bo, none⟩)].toArray w (fun _ w' => Pc w' sb 0 (bs (blockB st blk)) ∧ Chg (rng sb 0 64) w w') := by
  refine fn_body (l := [.pointer (some ⟨sb, 0, none⟩), .pointer (some ⟨bb, bo, none⟩)]) 33 [] Try.func93 rfl Try.ntmps93 (Nat.le_of_ble_eq_true rfl) (by rw [Try.results93]) ?_
  refine go_seq ?_
  refine go_seq ?_
  refine go_region 2 rfl rfl ?_
  refine s_val rfl rfl (r_move) rfl ?_
  refine s_val rfl rfl (r_move) rfl ?_
  refine s_end ?_
  refine go_block ?_
  refine go_loopM (σ := Nat) [(4, 5), (7, 24)] (fun (k : Nat) e' w' => e' 7 = i64 (k : Nat) ∧ k ≤ 32 ∧ Pc w' sb 0 (bs (xorTo st blk k)) ∧ Chg (rng sb 0 64) w w') (fun (k : Nat) => 32 - k) 0 ?_ ?_
  · exact ⟨rfl, by omega, hs, (Chg.refl (rng sb 0 64) w)⟩
  rintro k f2 w1 ⟨e3, hk, hs, C_w1⟩
  obtain ⟨f4, rfl⟩ : ∃ g_, f2 = upd g_ 7 (i64 (k : Nat)) := ⟨f2, upd_id e3⟩
  have hs_w1 : w.heap.size ≤ w1.heap.size := Chg.size C_w1
  have hx := xorTo_length st blk k
  refine go_seq ?_
  refine go_region 1 rfl rfl ?_
  refine s_val rfl rfl (r_lss rfl rfl) rfl ?_
  refine s_end ?_
  refine go_seq ?_
  refine go_ifb _ rfl (fun h => ?_) (fun h => ?_)
  · first | replace h := of_decide_eq_true h | replace h := of_decide_eq_false (nt h) | skip
    refine go_skip ?_
    refine go_seq ?_
    refine go_block ?_
    refine go_seq ?_
    refine go_drawsE 5 (.take 0 (.take 1 (.take 2 (.take 3 (.take 4 (.eff 5 .done)))))) (by kernel_rfl) (by kernel_rfl) fun w5 c_w5 => ?_
    have hs_w5 : w1.heap.size ≤ w5.heap.size := Chg.size c_w5
    replace hs := hs.k c_w5
    have C_w5 := Chg.pure C_w1 c_w5
    refine s_takeE rfl rfl (r_move) ?_
    refine s_takeE rfl rfl (r_nilCheck rfl) ?_
    refine s_takeE rfl rfl (r_indexArr (k := k) Try.runUnderlying24 Try.sizeOf5 rfl rfl (by first | rfl | omega) (by first | decide | omega)) ?_
    refine s_takeE rfl rfl (r_load1 Try.isAgg5 rfl (Rd.at1 (hb.kept C_w5 (fun j hj m => by have h1 := m.1; have h2 := m.2; rw [bs_length] at hj; omega)) (bs_get (by first | omega | (simp; done) | (simp; omega))))) ?_
    refine s_takeE rfl rfl (r_assign) ?_
    refine s_val rfl rfl (r_assign) rfl ?_
    refine s_end ?_
    refine go_drawsE 10 (.take 0 (.take 1 (.take 2 (.take 3 (.take 4 (.take 5 (.take 6 (.take 7 (.take 8 (.take 9 (.eff 10 (.eff 11 .done)))))))))))) (by kernel_rfl) (by kernel_rfl) fun w6 c_w6 => ?_
    have hs_w6 : w5.heap.size ≤ w6.heap.size := Chg.size c_w6
    replace hs := hs.k c_w6
    have C_w6 := Chg.pure C_w5 c_w6
    refine s_takeE rfl rfl (r_move) ?_
    refine s_takeE rfl rfl (r_move) ?_
    refine s_takeE rfl rfl (r_nilCheck rfl) ?_
    refine s_takeE rfl rfl (r_fieldAddr Try.runUnderlying137 rfl Try.sizeOf90 rfl rfl) ?_
    refine s_takeE rfl rfl (r_indexArr (k := k) Try.runUnderlying90 Try.sizeOf5 rfl rfl (by first | rfl | omega) (by first | decide | omega)) ?_
    refine s_takeE rfl rfl (r_load1 Try.isAgg5 rfl (Rd.at1 hs.rd (bs_get (by first | omega | (simp; done) | (simp; omega))))) ?_
    refine s_takeE rfl rfl (r_move) ?_
    refine s_takeE rfl rfl (r_xor8 rfl rfl) ?_
    refine s_takeE rfl rfl (r_nilCheck rfl) ?_
    refine s_takeE rfl rfl (r_fieldAddr Try.runUnderlying137 rfl Try.sizeOf90 rfl rfl) ?_
    refine s_val rfl rfl (r_indexArr (k := k) Try.runUnderlying90 Try.sizeOf5 rfl rfl (by first | rfl | omega) (by first | decide | omega)) rfl ?_
    refine s_do rfl rfl (w_set_b (o := 0) (k := k) Try.sizeOf5 rfl rfl hs (by first | omega | (simp; done) | (simp; omega))) rfl ?_
    rintro _ w7 ⟨q_w7, c_w7⟩
    have hs_w7 : w6.heap.size ≤ w7.heap.size := Chg.size c_w7
    have C_w7 := Chg.into C_w6 c_w7 (by intro b' o' _ m; exact ⟨m.1, by have := m.2; omega, by have := m.2; omega⟩)
    have hs := q_w7
    refine s_end ?_
    refine go_nil (block_normal ?_)
    refine go_region 2 rfl rfl ?_
    refine s_val rfl rfl (r_addi rfl rfl (by omega)) rfl ?_
    refine s_val rfl rfl (r_move) rfl ?_
    refine s_end ?_
    refine go_nil (loop_normal ⟨⟨(k + 1), by first | omega | (dsimp only; omega), ⟨rfl, by omega, hs, C_w7⟩⟩, (by repeat (first | exact same_refl | exact same_over | refine same_upd rfl ?_ | refine same_over2 rfl ?_))⟩)
  · first | replace h := of_decide_eq_false h | replace h := of_decide_eq_true (nf h) | skip
    obtain rfl : k = 32 := by omega
    refine go_exit (loop_exit (block_hit ?_))
    refine go_region 9 rfl rfl ?_
    refine s_val rfl rfl (r_move) rfl ?_
    refine s_val rfl rfl (r_move) rfl ?_
    refine s_val rfl rfl (r_nilCheck rfl) rfl ?_
    refine s_val rfl rfl (r_fieldAddr Try.runUnderlying137 rfl Try.sizeOf90 rfl rfl) rfl ?_
    refine s_val rfl rfl (r_loadN Try.isAgg90 Try.sizeOf90 rfl hs.rd (by first | exact bs_len (by omega) | exact bs_len (by simp; done) | exact bs_len (by simp; omega))) rfl ?_
    refine s_do rfl rfl (w_call Try.call96 rfl (stirB_spec _ _ (by first | omega | (simp; done) | (simp; omega)))) rfl ?_
    rintro _ w8 ⟨rfl, c_w8⟩
    have hs_w8 : w1.heap.size ≤ w8.heap.size := Chg.size c_w8
    replace hs := hs.k c_w8
    have C_w8 := Chg.pure C_w1 c_w8
    refine s_val rfl rfl (r_nilCheck rfl) rfl ?_
    refine s_val rfl rfl (r_fieldAddr Try.runUnderlying137 rfl Try.sizeOf90 rfl rfl) rfl ?_
    refine s_do rfl rfl (w_storeA (o := 0) Try.sizeOf90 rfl rfl (by first | exact bs_len (by omega) | exact bs_len (by simp; done) | exact bs_len (by simp; omega)) (flat_bs _) hs (by first | exact bs_len (by omega) | exact bs_len (by simp; done) | exact bs_len (by simp; omega))) rfl ?_
    rintro _ w9 ⟨q_w9, c_w9⟩
    have hs_w9 : w8.heap.size ≤ w9.heap.size := Chg.size c_w9
    have C_w9 := Chg.into C_w8 c_w9 (by intro b' o' _ m; exact ⟨m.1, by have := m.2; omega, by have := m.2; omega⟩)
    have hs := q_w9
    refine s_end ?_
    refine go_nil ?_
    refine ⟨_, .nil, ?_⟩
    exact ⟨hs, C_w9⟩

end Go.Proofs.Ytdnccchcflaphaa
