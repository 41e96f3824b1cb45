/- M6: contracts of functions of the program: called in any world that meets a contract's premises, the function returns what the contract says and changes no more than it says. -/
import Derived.Test.YtdnccchcflaphaaM5
import Derived.Test.YtdnccchcflaphaaEng8
import Derived.Test.YtdnccchcflaphaaEng9
import Derived.Test.YtdnccchcflaphaaChecked
open Go Go.Eng Go.Proofs
namespace Go.Proofs.Ytdnccchcflaphaa
theorem leafR_spec (l : List UInt8) (a : Option Addr) (n c : Nat) (w : World) (hn : l.length = n) (h0 : 0 < n) (hbig : n ≤ 1048576) (hsl : SlAt w a (bs l)) :
    Rtn Try.prog 11 [Value.slice a n c].toArray w (fun v w' => v = .agg (bs ((stateR 1 l l.length).take 32)).toArray ∧ Kept w w') := by
  refine fn_body (l := [Value.slice a n c]) 5 [.cell 2 25] Try.func11 rfl Try.ntmps11 (Nat.le_of_ble_eq_true rfl) (by rw [Try.results11]) ?_
  refine go_seq ?_
  refine go_region 1 rfl rfl ?_
  refine s_do rfl rfl (w_alloc (bs (List.replicate 32 0)) Try.zeroValue25 (by kernel_rfl)) rfl ?_
  rintro _ w1 ⟨b2, rfl, hl_b2, hu_b2, p3, c_w1⟩
  have hs_w1 : w.heap.size ≤ w1.heap.size := Chg.size c_w1
  have C_w1 := Chg.pure (Chg.refl no w) c_w1
  have hn_b2 : w.heap.size ≤ b2 := by have := Chg.size C_w1; omega
  refine s_end ?_
  refine go_seq ?_
  refine go_region 3 rfl rfl ?_
  refine s_val rfl rfl (r_move) rfl ?_
  refine s_do rfl rfl (w_call Try.call31 rfl (sumR_spec (1) l _ _ _ _ (by first | omega | (simp; done) | (simp; omega)) (by first | omega | (simp; done) | (simp; omega)) (by first | omega | (simp; done) | (simp; omega)) (hsl.k C_w1))) rfl ?_
  rintro _ w4 ⟨rfl, c_w4⟩
  have hs_w4 : w1.heap.size ≤ w4.heap.size := Chg.size c_w4
  replace p3 := p3.k c_w4
  have C_w4 := Chg.pure C_w1 c_w4
  refine s_do rfl rfl (w_storeA (o := 0) Try.sizeOf25 rfl rfl (by first | exact bs_len (by omega) | exact bs_len (by simp; done) | exact bs_len (by simp; omega)) (flat_bs _) p3 (by first | exact bs_len (by omega) | exact bs_len (by simp; done) | exact bs_len (by simp; omega))) rfl ?_
  rintro _ w5 ⟨q_w5, c_w5⟩
  have hs_w5 : w4.heap.size ≤ w5.heap.size := Chg.size c_w5
  have C_w5 := Chg.newRng C_w4 c_w5 (by omega)
  have p3 := q_w5
  refine s_end ?_
  refine go_ret ?_
  refine ⟨_, .cons ⟨_, rfl, run_load_agg Try.isAgg25 Try.sizeOf25 (by first | exact bs_len (by omega) | exact bs_len (by simp; done) | exact bs_len (by simp; omega)) p3.rd⟩ (.nil), ?_⟩
  subst hn
  exact ⟨rfl, C_w5⟩


def hashR (d : Int) (l : List UInt8) : List UInt8 := (stateR d l l.length).take 32
@[simp] theorem hashR_length (d : Int) (l : List UInt8) : (hashR d l).length = 32 := by simp [hashR]
def hashB (d : Int) (l : List UInt8) : List UInt8 := (endF (initS d) l l.length).take 32
@[simp] theorem hashB_length (d : Int) (l : List UInt8) : (hashB d l).length = 32 := by simp [hashB]

theorem nodeR_spec (x y : List UInt8) (w : World) (hx : x.length = 32) (hy : y.length = 32) :
    Rtn Try.prog 33 [.agg (bs x).toArray, .agg (bs y).toArray].toArray w (fun v w' => v = .agg (bs (hashR 2 (x ++ y))).toArray ∧ Kept w w') := by
  refine fn_body (l := [.agg (bs x).toArray, .agg (bs y).toArray]) 10 [.cell 4 25] Try.func33 rfl Try.ntmps33 (Nat.le_of_ble_eq_true rfl) (by rw [Try.results33]) ?_
  refine go_seq ?_
  refine go_region 3 rfl rfl ?_
  refine s_do rfl rfl (w_boxA rfl) rfl ?_
  rintro _ w1 ⟨b2, rfl, hl_b2, hu_b2, p3, c_w1⟩
  have hs_w1 : w.heap.size ≤ w1.heap.size := Chg.size c_w1
  have C_w1 := Chg.pure (Chg.refl no w) c_w1
  have hn_b2 : w.heap.size ≤ b2 := by have := Chg.size C_w1; omega
  refine s_do rfl rfl (w_boxA rfl) rfl ?_
  rintro _ w4 ⟨b5, rfl, hl_b5, hu_b5, p6, c_w4⟩
  have hs_w4 : w1.heap.size ≤ w4.heap.size := Chg.size c_w4
  replace p3 := p3.k c_w4
  have C_w4 := Chg.pure C_w1 c_w4
  have hn_b5 : w.heap.size ≤ b5 := by have := Chg.size C_w4; omega
  refine s_do rfl rfl (w_alloc (bs (List.replicate 32 0)) Try.zeroValue25 (by kernel_rfl)) rfl ?_
  rintro _ w7 ⟨b8, rfl, hl_b8, hu_b8, p9, c_w7⟩
  have hs_w7 : w4.heap.size ≤ w7.heap.size := Chg.size c_w7
  replace p3 := p3.k c_w7
  replace p6 := p6.k c_w7
  have C_w7 := Chg.pure C_w4 c_w7
  have hn_b8 : w.heap.size ≤ b8 := by have := Chg.size C_w7; omega
  refine s_end ?_
  refine go_seq ?_
  refine go_drawsK 3 (.take 0 (.take 2 (.eff 1 (.eff 3 (.eff 4 (.eff 5 .done)))))) (by kernel_rfl) (by kernel_rfl) fun w10 c_w10 => ?_
  have hs_w10 : w7.heap.size ≤ w10.heap.size := Chg.size c_w10
  replace p3 := p3.k c_w10
  replace p6 := p6.k c_w10
  replace p9 := p9.k c_w10
  have C_w10 := Chg.pure C_w7 c_w10
  have p3_0 := p3
  have p6_0 := p6
  have p9_0 := p9
  refine s_takeK rfl rfl (w0 := w10) (fun x_ c_ => r_sliceA (l := 0) (h := 32) (m := 32) Try.runUnderlying25 Try.sizeOf5 rfl rfl rfl rfl (by first | decide | (intro h_; cases h_)) (by first | decide | omega) (by first | decide | omega | (intro _; omega)) (by first | decide | omega) (by first | decide | omega)) ?_
  refine s_takeK rfl rfl (w0 := w10) (fun x_ c_ => r_sliceA (l := 0) (h := 32) (m := 32) Try.runUnderlying25 Try.sizeOf5 rfl rfl rfl rfl (by first | decide | (intro h_; cases h_)) (by first | decide | omega) (by first | decide | omega | (intro _; omega)) (by first | decide | omega) (by first | decide | omega)) ?_
  refine s_fxK rfl rfl (w_call Try.call18 rfl (clone_spec x _ _ _ _ (by first | omega | (simp; done) | (simp; omega)) (by first | omega | (simp; done) | (simp; omega)) (by first | omega | (simp; done) | (simp; omega)) (SlAt.some p3.rd))) ?_
  rintro v13 w11 ⟨o12, c_w11⟩
  have hs_w11 : w10.heap.size ≤ w11.heap.size := Chg.size c_w11
  replace p3 := p3.k c_w11
  replace p6 := p6.k c_w11
  replace p9 := p9.k c_w11
  have C_w11 := Chg.pure C_w10 c_w11
  obtain ⟨A14, cap15, rfl, hc_cap15, -, -⟩ := Owns.form o12
  have K_w11 := Chg.pure (Chg.refl no w10) c_w11
  refine ⟨K_w11, ?_⟩
  refine s_do rfl rfl (w_append (E := 5) (sz := 1) Try.underlying22 rfl (i := Try.t5) (by kernel_rfl) rfl rfl rfl rfl (by rfl) o12 rfl (SlAt.some p6.rd) (by first | rfl | (rw [bs_length]; omega) | (simp [bs_length]; done) | (simp [bs_length]; omega)) (flat_bs _) (by omega) (by show _ * 1 ≤ _; omega) (by omega)) rfl ?_
  rintro v20 w16 ⟨o17, c_w16⟩
  have hs_w16 : w11.heap.size ≤ w16.heap.size := Chg.size c_w16
  replace p3 := p3.kob c_w16 (Owns.ne_lt o12 (by omega))
  replace p6 := p6.kob c_w16 (Owns.ne_lt o12 (by omega))
  replace p9 := p9.kob c_w16 (Owns.ne_lt o12 (by omega))
  have C_w16 := Chg.newOb C_w11 c_w16 o12 (by omega)
  obtain ⟨A18, cap19, rfl, hc_cap19, -, -⟩ := Owns.form o17
  replace o17 := Owns.appB o17
  refine s_do rfl rfl (w_call Try.call31 rfl (sumR_spec (2) (x ++ y) _ _ _ _ (by first | omega | (simp; done) | (simp; omega)) (by first | omega | (simp; done) | (simp; omega)) (by first | omega | (simp; done) | (simp; omega)) (Owns.sl o17))) rfl ?_
  rintro _ w21 ⟨rfl, c_w21⟩
  have hs_w21 : w16.heap.size ≤ w21.heap.size := Chg.size c_w21
  replace p3 := p3.k c_w21
  replace p6 := p6.k c_w21
  replace p9 := p9.k c_w21
  replace o17 := o17.k c_w21
  have C_w21 := Chg.pure C_w16 c_w21
  refine s_do rfl rfl (w_storeA (o := 0) Try.sizeOf25 rfl rfl (by first | exact bs_len (by omega) | exact bs_len (by simp; done) | exact bs_len (by simp; omega)) (flat_bs _) p9 (by first | exact bs_len (by omega) | exact bs_len (by simp; done) | exact bs_len (by simp; omega))) rfl ?_
  rintro _ w22 ⟨q_w22, c_w22⟩
  have hs_w22 : w21.heap.size ≤ w22.heap.size := Chg.size c_w22
  replace p3 := p3.kb c_w22 (by omega)
  replace p6 := p6.kb c_w22 (by omega)
  replace o17 := o17.kb c_w22 (Owns.ne_lt o17 (by omega))
  have C_w22 := Chg.newRng C_w21 c_w22 (by omega)
  have p9 := q_w22
  refine s_end ?_
  refine go_ret ?_
  refine ⟨_, .cons ⟨_, rfl, run_load_agg Try.isAgg25 Try.sizeOf25 (by first | exact bs_len (by omega) | exact bs_len (by simp; done) | exact bs_len (by simp; omega)) p9.rd⟩ (.nil), ?_⟩
  have e_ : (x ++ y).length = 32 + 32 := by rw [List.length_append, hx, hy]
  exact ⟨by rw [hashR, e_]; rfl, C_w22⟩


theorem flat_le (ls : List (List UInt8)) (k : Nat) : (ls.take k).flatten.length ≤ ls.flatten.length := by
  conv => rhs; rw [← List.take_append_drop k ls]
  rw [List.flatten_append, List.length_append]
  exact Nat.le_add_right _ _

theorem summed_spec (d : Int) (ls : List (List UInt8)) (vs : List Value) (a : Option Addr) (n c : Nat) (w : World) (h0 : 0 ≤ d) (h1 : d ≤ 255) (hn : vs.length = n) (hc : n ≤ c) (hbig : n < 4611686018427387904) (hb : ls.flatten.length ≤ 1048576) (hsl : SlAt w a vs) (hls : SlsOk w vs ls) :
    Rtn Try.prog 61 [i64 d, Value.slice a n c].toArray w (fun v w' => ∃ b, v = tup [.pointer (some ⟨b, 0, none⟩), i64 0] ∧ w.heap.size ≤ b ∧ b < w'.heap.size ∧ Smr w' b (initS d) ls.flatten ∧ Pc w' b 97 [i64 ((ls.flatten.length : Nat) : Int)] ∧ Kept w w') := by
  have hlv := hls.1
  refine fn_body (l := [i64 d, Value.slice a n c]) 33 [.tmp 4, .tmp 5] Try.func61 rfl Try.ntmps61 (Nat.le_of_ble_eq_true rfl) (by rw [Try.results61]) ?_
  refine go_seq ?_
  refine go_region 2 rfl rfl ?_
  refine s_val rfl rfl (r_assign) rfl ?_
  refine s_val rfl rfl (r_assign) rfl ?_
  refine s_end ?_
  refine go_seq ?_
  refine go_region 7 rfl rfl ?_
  refine s_val rfl rfl (r_move) rfl ?_
  refine s_do rfl rfl (w_call Try.call81 rfl (newSum_spec _ _ (by omega) (by omega))) rfl ?_
  rintro _ w1 ⟨b2, rfl, hl_b2, hu_b2, sm3, p4, c_w1⟩
  have hs_w1 : w.heap.size ≤ w1.heap.size := Chg.size c_w1
  have C_w1 := Chg.pure (Chg.refl no w) c_w1
  have hn_b2 : w.heap.size ≤ b2 := by have := Chg.size C_w1; omega
  refine s_val rfl rfl (r_move) rfl ?_
  refine s_val rfl rfl (r_extract rfl rfl) rfl ?_
  refine s_val rfl rfl (r_extract rfl rfl) rfl ?_
  refine s_val rfl rfl (r_assign) rfl ?_
  refine s_val rfl rfl (r_assign) rfl ?_
  refine s_end ?_
  refine go_seq ?_
  refine go_seq ?_
  refine go_region 2 rfl rfl ?_
  refine s_val rfl rfl (r_move) rfl ?_
  refine s_val rfl rfl (r_neq rfl rfl) rfl ?_
  refine s_end ?_
  refine go_ifb _ rfl (fun h5 => ?_) (fun h5 => ?_)
  · first | replace h5 := of_decide_eq_true h5 | replace h5 := of_decide_eq_false (nt h5) | skip
    exfalso
    omega
  · first | replace h5 := of_decide_eq_false h5 | replace h5 := of_decide_eq_true (nf h5) | skip
    refine go_skip ?_
    refine go_seq ?_
    refine go_seq ?_
    refine go_region 3 rfl rfl ?_
    refine s_val rfl rfl (r_move) rfl ?_
    refine s_val rfl rfl (r_len Try.runUnderlying37 rfl) rfl ?_
    refine s_val rfl rfl (r_move) rfl ?_
    refine s_end ?_
    refine go_block ?_
    refine go_loopM (σ := Nat × Nat) [(4, 5), (9, 10), (21, 31)] (fun (x_ : Nat × Nat) e' w' => match x_ with | (k, tk) => e' 21 = i64 (k : Nat) ∧ k ≤ n ∧ tk = (ls.take k).flatten.length ∧ Smr w' b2 (initS d) (ls.take k).flatten ∧ Pc w' b2 97 [i64 (tk : Nat)] ∧ b2 < w'.heap.size ∧ Chg no w w') (fun (x_ : Nat × Nat) => match x_ with | (k, tk) => n - k) (0, 0) ?_ ?_
    · exact ⟨rfl, by omega, rfl, sm3, p4, by omega, C_w1⟩
    rintro ⟨k, tk⟩ f7 w6 ⟨e8, hk, htk, hsm, htot, hub, C_w6⟩
    obtain ⟨f9, rfl⟩ : ∃ g_, f7 = upd g_ 21 (i64 (k : Nat)) := ⟨f7, upd_id e8⟩
    have hs_w6 : w.heap.size ≤ w6.heap.size := Chg.size C_w6
    refine go_seq ?_
    refine go_region 1 rfl rfl ?_
    refine s_val rfl rfl (r_lss rfl rfl) rfl ?_
    refine s_end ?_
    refine go_seq ?_
    refine go_ifb _ rfl (fun h2 => ?_) (fun h2 => ?_)
    · first | replace h2 := of_decide_eq_true h2 | replace h2 := of_decide_eq_false (nt h2) | skip
      obtain ⟨ak, nk, ck, hvk, hlk, h0k, hck, hak⟩ := hls.2 k (by omega)
      have hak_lt := SlAt.blk hak (bs_ne (by omega))
      have hfl := flat_succ ls k (by omega)
      have hfl2 : (ls.take (k + 1)).flatten.length = (ls.take k).flatten.length + nk := by rw [hfl, List.length_append, hlk]
      have hfl3 := flat_le ls (k + 1)
      refine go_skip ?_
      refine go_seq ?_
      refine go_block ?_
      refine go_seq ?_
      refine go_region 3 rfl rfl ?_
      refine s_val rfl rfl (r_indexSl (k := k) Try.runUnderlying37 Try.sizeOf22 rfl (hsl.k C_w6) (by intro h_; rw [h_] at hn; simp at hn; omega) rfl (by first | rfl | omega) (by omega)) rfl ?_
      refine s_val rfl rfl (r_loadSl1 Try.isAgg22 rfl (hsl.k C_w6) hvk) rfl ?_
      refine s_val rfl rfl (r_assign) rfl ?_
      refine s_end ?_
      refine go_seq ?_
      refine go_region 4 rfl rfl ?_
      refine s_val rfl rfl (r_move) rfl ?_
      refine s_val rfl rfl (r_move) rfl ?_
      refine s_do rfl rfl (w_call Try.call82 rfl (write_spec _ _ _ b2 _ _ _ _ _ (by first | omega | (simp; done) | (simp; omega)) (by first | omega | (simp; done) | (simp; omega)) (by omega) hsm htot (hak.k C_w6) (fun x_ hx_ => by have := hak_lt x_ hx_; omega))) rfl ?_
      rintro _ w10 ⟨rfl, q_w10, t_w10, c_w10⟩
      have hs_w10 : w6.heap.size ≤ w10.heap.size := Chg.size c_w10
      have C_w10 := Chg.newRng C_w6 c_w10 (by omega)
      have hsm := q_w10
      have htot := t_w10
      refine s_val rfl rfl (r_assign) rfl ?_
      refine s_end ?_
      refine go_seq ?_
      refine go_region 2 rfl rfl ?_
      refine s_val rfl rfl (r_move) rfl ?_
      refine s_val rfl rfl (r_neq rfl rfl) rfl ?_
      refine s_end ?_
      refine go_ifb _ rfl (fun h11 => ?_) (fun h11 => ?_)
      · first | replace h11 := of_decide_eq_true h11 | replace h11 := of_decide_eq_false (nt h11) | skip
        exfalso
        omega
      · first | replace h11 := of_decide_eq_false h11 | replace h11 := of_decide_eq_true (nf h11) | skip
        refine go_skip ?_
        refine go_nil (block_normal ?_)
        refine go_region 2 rfl rfl ?_
        refine s_val rfl rfl (r_addi rfl rfl (by omega)) rfl ?_
        refine s_val rfl rfl (r_move) rfl ?_
        refine s_end ?_
        refine go_nil (loop_normal ⟨⟨(k + 1, tk + nk), by first | omega | (dsimp only; omega), ⟨rfl, by omega, by omega, by rw [hfl]; exact hsm, htot, by omega, C_w10⟩⟩, (by repeat (first | exact same_refl | exact same_over | refine same_upd rfl ?_ | refine same_over2 rfl ?_))⟩)
    · first | replace h2 := of_decide_eq_false h2 | replace h2 := of_decide_eq_true (nf h2) | skip
      obtain rfl : k = n := by omega
      have htl : ls.take k = ls := List.take_of_length_le (by omega)
      refine go_exit (loop_exit (block_hit ?_))
      refine go_seq ?_
      refine go_region 3 rfl rfl ?_
      refine s_val rfl rfl (r_move) rfl ?_
      refine s_val rfl rfl (r_assign) rfl ?_
      refine s_val rfl rfl (r_assign) rfl ?_
      refine s_end ?_
      refine go_ret ?_
      refine ⟨_, .cons rfl (.cons rfl (.nil)), ?_⟩
      rw [htl] at hsm htk
      subst htk
      exact ⟨_, rfl, hn_b2, by omega, hsm, htot, C_w6⟩

end Go.Proofs.Ytdnccchcflaphaa
