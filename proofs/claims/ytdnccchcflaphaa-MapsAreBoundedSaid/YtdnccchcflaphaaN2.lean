/- N2: contracts of functions of the program: called in any world that meets a contract's premises, the function returns what the contract says and changes no more than it says. -/
import Derived.Test.YtdnccchcflaphaaN1
import Derived.Test.YtdnccchcflaphaaEng8
import Derived.Test.YtdnccchcflaphaaEng9
import Derived.Test.YtdnccchcflaphaaEng10
import Derived.Test.YtdnccchcflaphaaEng11
import Derived.Test.YtdnccchcflaphaaEng12
import Derived.Test.YtdnccchcflaphaaChecked
open Go Go.Eng Go.Proofs
namespace Go.Proofs.Ytdnccchcflaphaa
set_option maxHeartbeats 2000000 in
theorem part_spec (kv : Kv) (p mb : Nat) (hv : ∀ x ∈ kv, x.2.length = 32) (fu : Nat) (L : List (List UInt8)) (lv : Nat) (a : Option Addr) (n c : Nat) (w : World) (hn : L.length = n) (hc : n ≤ c) (hbig : n < 4611686018427387904) (hsp : Sp fu L lv) (h32 : All32 L) (hp : Rd w p 0 [.map (some mb)]) (hm : MapS 32 w mb kv) (hsl : SlAt w a (bs L.flatten)) :
    Rtn Try.prog 38 [.pointer (some ⟨p, 0, none⟩), Value.slice a n c, i64 (lv : Nat)].toArray w (fun v w' => v = .agg (bs (partF (getS kv) fu L lv)).toArray ∧ Kept w w') := by
  induction fu using Nat.strongRecOn generalizing L lv a n c w
  rename_i fu ih
  refine fn_body (l := [.pointer (some ⟨p, 0, none⟩), Value.slice a n c, i64 (lv : Nat)]) 45 [.cell 6 25] Try.func38 rfl Try.ntmps38 (Nat.le_of_ble_eq_true rfl) (by rw [Try.results38]) ?_
  refine go_seq ?_
  refine go_region 1 rfl rfl ?_
  refine s_do rfl rfl (w_alloc (bs (List.replicate 32 0)) Try.zeroValue25 (by kernel_rfl)) rfl ?_
  rintro _ w1 ⟨b2, rfl, hl_b2, hu_b2, p3, c_w1⟩
  have hs_w1 : w.heap.size ≤ w1.heap.size := Chg.size c_w1
  have C_w1 := Chg.pure (Chg.refl no w) c_w1
  have hn_b2 : w.heap.size ≤ b2 := by have := Chg.size C_w1; omega
  refine s_end ?_
  refine go_seq ?_
  refine go_seq ?_
  refine go_region 2 rfl rfl ?_
  refine s_val rfl rfl (r_move) rfl ?_
  refine s_val rfl rfl (r_len Try.runUnderlying29 rfl) rfl ?_
  refine s_end ?_
  refine go_block ?_
  refine go_seq ?_
  refine go_region 2 rfl rfl ?_
  refine s_val rfl rfl (r_eql rfl rfl) rfl ?_
  refine s_val rfl rfl (r_assign) rfl ?_
  refine s_end ?_
  refine go_ifb _ rfl (fun h0 => ?_) (fun h0 => ?_)
  · first | replace h0 := of_decide_eq_true h0 | replace h0 := of_decide_eq_false (nt h0) | skip
    refine go_seq ?_
    refine go_region 2 rfl rfl ?_
    refine s_val rfl rfl (r_buildA Try.zeroValue25 Try.runUnderlying25 Try.sizeOf5 (cs := bs (List.replicate 32 0)) (by kernel_rfl)) rfl ?_
    refine s_do rfl rfl (w_storeA (o := 0) Try.sizeOf25 rfl rfl (by first | exact bs_len (by omega) | exact bs_len (by simp; done) | exact bs_len (by simp; omega)) (flat_bs _) p3 (by first | exact bs_len (by omega) | exact bs_len (by simp; done) | exact bs_len (by simp; omega))) rfl ?_
    rintro _ w4 ⟨q_w4, c_w4⟩
    have hs_w4 : w1.heap.size ≤ w4.heap.size := Chg.size c_w4
    have C_w4 := Chg.newRng C_w1 c_w4 (by omega)
    have p3 := q_w4
    refine s_end ?_
    refine go_ret (block_ret ?_)
    refine ⟨_, .cons ⟨_, rfl, run_load_agg Try.isAgg25 Try.sizeOf25 (by first | exact bs_len (by omega) | exact bs_len (by simp; done) | exact bs_len (by simp; omega)) p3.rd⟩ (.nil), ?_⟩
    rw [partF_nil (by omega)]
    exact ⟨rfl, C_w4⟩
  · first | replace h0 := of_decide_eq_false h0 | replace h0 := of_decide_eq_true (nf h0) | skip
    refine go_seq ?_
    refine go_region 2 rfl rfl ?_
    refine s_val rfl rfl (r_eql rfl rfl) rfl ?_
    refine s_val rfl rfl (r_assign) rfl ?_
    refine s_end ?_
    refine go_ifb _ rfl (fun h1 => ?_) (fun h1 => ?_)
    · first | replace h1 := of_decide_eq_true h1 | replace h1 := of_decide_eq_false (nt h1) | skip
      refine go_seq ?_
      refine go_drawsK 11 (.take 0 (.take 1 (.take 2 (.take 3 (.take 4 (.take 5 (.take 6 (.take 7 (.take 8 (.take 9 (.eff 10 (.eff 11 (.eff 12 .done))))))))))))) (by kernel_rfl) (by kernel_rfl) fun w5 c_w5 => ?_
      have hs_w5 : w1.heap.size ≤ w5.heap.size := Chg.size c_w5
      replace p3 := p3.k c_w5
      have C_w5 := Chg.pure C_w1 c_w5
      have p3_0 := p3
      refine s_takeK rfl rfl (w0 := w5) (fun x_ c_ => r_move) ?_
      refine s_takeK rfl rfl (w0 := w5) (fun x_ c_ => r_indexSl (k := 0) Try.runUnderlying29 Try.sizeOf25 rfl ((hsl.k C_w5).k c_) (sums_ne h32 (by first | omega | (simp; omega))) rfl (by first | rfl | omega) (by omega)) ?_
      have hg_e6 := All32.get h32 (k := 0) (by first | omega | (simp; omega))
      refine s_takeK rfl rfl (w0 := w5) (fun x_ c_ => r_loadSlN Try.isAgg25 Try.sizeOf25 rfl ((hsl.k C_w5).k c_) (bs_len (All32.get h32 (by first | omega | (simp; omega)))) (sums_ne h32 (by first | omega | (simp; omega))) (sum_get h32 (k := 0) (by first | omega | (simp; omega)))) ?_
      refine s_takeK rfl rfl (w0 := w5) (fun x_ c_ => r_move) ?_
      refine s_takeK rfl rfl (w0 := w5) (fun x_ c_ => r_nilCheck rfl) ?_
      refine s_takeK rfl rfl (w0 := w5) (fun x_ c_ => r_fieldAddr Try.runUnderlying79 rfl Try.sizeOf77 rfl rfl) ?_
      refine s_takeK rfl rfl (w0 := w5) (fun x_ c_ => r_load1 Try.isAgg77 rfl ((hp.k C_w5).k c_)) ?_
      refine s_takeK rfl rfl (w0 := w5) (fun x_ c_ => r_move) ?_
      refine s_takeK rfl rfl (w0 := w5) (fun x_ c_ => r_indexSl (k := 0) Try.runUnderlying29 Try.sizeOf25 rfl ((hsl.k C_w5).k c_) (sums_ne h32 (by first | omega | (simp; omega))) rfl (by first | rfl | omega) (by omega)) ?_
      have hg_e7 := All32.get h32 (k := 0) (by first | omega | (simp; omega))
      refine s_takeK rfl rfl (w0 := w5) (fun x_ c_ => r_loadSlN Try.isAgg25 Try.sizeOf25 rfl ((hsl.k C_w5).k c_) (bs_len (All32.get h32 (by first | omega | (simp; omega)))) (sums_ne h32 (by first | omega | (simp; omega))) (sum_get h32 (k := 0) (by first | omega | (simp; omega)))) ?_
      refine s_valS rfl rfl (r_lookupS Try.underlying77 kt25 z25 rfl rfl (hm.k C_w5) (by first | assumption | omega | (simp; done))) (Chg.refl no w5) ?_
      refine s_do rfl rfl (w_call Try.call50 rfl (single_spec (L.getD 0 []) ((lookS kv (L.getD 0 [])).getD (List.replicate 32 0)) _ (by first | assumption | omega) (getS_len hv _))) rfl ?_
      rintro _ w8 ⟨rfl, c_w8⟩
      have hs_w8 : w5.heap.size ≤ w8.heap.size := Chg.size c_w8
      replace p3 := p3.k c_w8
      have C_w8 := Chg.pure C_w5 c_w8
      refine s_do rfl rfl (w_storeA (o := 0) Try.sizeOf25 rfl rfl (by first | exact bs_len (by omega) | exact bs_len (by simp; done) | exact bs_len (by simp; omega)) (flat_bs _) p3 (by first | exact bs_len (by omega) | exact bs_len (by simp; done) | exact bs_len (by simp; omega))) rfl ?_
      rintro _ w9 ⟨q_w9, c_w9⟩
      have hs_w9 : w8.heap.size ≤ w9.heap.size := Chg.size c_w9
      have C_w9 := Chg.newRng C_w8 c_w9 (by omega)
      have p3 := q_w9
      refine s_end ?_
      refine go_ret (block_ret ?_)
      refine ⟨_, .cons ⟨_, rfl, run_load_agg Try.isAgg25 Try.sizeOf25 (by first | exact bs_len (by omega) | exact bs_len (by simp; done) | exact bs_len (by simp; omega)) p3.rd⟩ (.nil), ?_⟩
      rw [partF_one1 (by omega)]
      exact ⟨rfl, C_w9⟩
    · first | replace h1 := of_decide_eq_false h1 | replace h1 := of_decide_eq_true (nf h1) | skip
      have hfu := sp_pos hsp (by omega)
      obtain ⟨fu, rfl⟩ := hfu
      have hs2 := sp_two hsp (by omega)
      have hlv := hs2.1
      refine go_skip ?_
      refine go_nil (block_normal ?_)
      refine go_seq ?_
      refine go_region 8 rfl rfl ?_
      refine s_val rfl rfl (r_move) rfl ?_
      refine s_val rfl rfl (r_move) rfl ?_
      refine s_do rfl rfl (w_call Try.call51 rfl (halves_spec L lv a n c _ hn hc hbig hlv h32 (hsl.k C_w1))) rfl ?_
      rintro _ w10 ⟨rfl, c_w10⟩
      have hs_w10 : w1.heap.size ≤ w10.heap.size := Chg.size c_w10
      replace p3 := p3.k c_w10
      have C_w10 := Chg.pure C_w1 c_w10
      have hcl := cntZ_le L lv
      have hlA := SlAt.cutS_take hsl h32 (cntZ L lv) c (by omega)
      have hlB := SlAt.cutS_drop hsl h32 (cntZ L lv) c (by omega)
      refine s_val rfl rfl (r_move) rfl ?_
      refine s_val rfl rfl (r_extract rfl rfl) rfl ?_
      refine s_val rfl rfl (r_extract rfl rfl) rfl ?_
      refine s_val rfl rfl (r_assign) rfl ?_
      refine s_val rfl rfl (r_assign) rfl ?_
      refine s_end ?_
      refine go_seq ?_
      refine go_region 12 rfl rfl ?_
      refine s_val rfl rfl (r_move) rfl ?_
      refine s_val rfl rfl (r_move) rfl ?_
      refine s_val rfl rfl (r_move) rfl ?_
      refine s_val rfl rfl (r_addi rfl rfl (by omega)) rfl ?_
      refine s_do rfl rfl (w_call Try.call38 rfl (ih fu (Nat.lt_succ_self _) (L.take (cntZ L lv)) (lv + 1) _ _ _ _ (by first | rw [List.length_take]; omega | rw [List.length_drop]; omega) (by omega) (by omega) hs2.2.1 (h32.take (cntZ L lv)) (hp.k C_w10) (hm.k C_w10) (hlA.k C_w10))) rfl ?_
      rintro _ w11 ⟨rfl, c_w11⟩
      have hs_w11 : w10.heap.size ≤ w11.heap.size := Chg.size c_w11
      replace p3 := p3.k c_w11
      have C_w11 := Chg.pure C_w10 c_w11
      have hr_w11 := partF_len (getS kv) fu (L.take (cntZ L lv)) (lv + 1)
      refine s_val rfl rfl (r_move) rfl ?_
      refine s_val rfl rfl (r_move) rfl ?_
      refine s_val rfl rfl (r_move) rfl ?_
      refine s_val rfl rfl (r_addi rfl rfl (by omega)) rfl ?_
      refine s_do rfl rfl (w_call Try.call38 rfl (ih fu (Nat.lt_succ_self _) (L.drop (cntZ L lv)) (lv + 1) _ _ _ _ (by first | rw [List.length_take]; omega | rw [List.length_drop]; omega) (by omega) (by omega) hs2.2.2 (h32.drop (cntZ L lv)) (hp.k C_w11) (hm.k C_w11) (hlB.k C_w11))) rfl ?_
      rintro _ w12 ⟨rfl, c_w12⟩
      have hs_w12 : w11.heap.size ≤ w12.heap.size := Chg.size c_w12
      replace p3 := p3.k c_w12
      have C_w12 := Chg.pure C_w11 c_w12
      have hr_w12 := partF_len (getS kv) fu (L.drop (cntZ L lv)) (lv + 1)
      refine s_do rfl rfl (w_call Try.call52 rfl (nodeB_spec (partF (getS kv) fu (L.take (cntZ L lv)) (lv + 1)) (partF (getS kv) fu (L.drop (cntZ L lv)) (lv + 1)) _ (by first | omega | (simp; done) | (simp; omega)) (by first | omega | (simp; done) | (simp; omega)))) rfl ?_
      rintro _ w13 ⟨rfl, c_w13⟩
      have hs_w13 : w12.heap.size ≤ w13.heap.size := Chg.size c_w13
      replace p3 := p3.k c_w13
      have C_w13 := Chg.pure C_w12 c_w13
      refine s_do rfl rfl (w_storeA (o := 0) Try.sizeOf25 rfl rfl (by first | exact bs_len (by omega) | exact bs_len (by simp; done) | exact bs_len (by simp; omega)) (flat_bs _) p3 (by first | exact bs_len (by omega) | exact bs_len (by simp; done) | exact bs_len (by simp; omega))) rfl ?_
      rintro _ w14 ⟨q_w14, c_w14⟩
      have hs_w14 : w13.heap.size ≤ w14.heap.size := Chg.size c_w14
      have C_w14 := Chg.newRng C_w13 c_w14 (by omega)
      have p3 := q_w14
      refine s_end ?_
      refine go_ret ?_
      refine ⟨_, .cons ⟨_, rfl, run_load_agg Try.isAgg25 Try.sizeOf25 (by first | exact bs_len (by omega) | exact bs_len (by simp; done) | exact bs_len (by simp; omega)) p3.rd⟩ (.nil), ?_⟩
      rw [partF_two (by omega)]
      exact ⟨rfl, C_w14⟩

set_option maxHeartbeats 2000000 in
theorem keys_spec (kv : Kv) (p mb : Nat) (w : World) (hne : 0 < kv.length) (hbig : kv.length ≤ 1000) (hp : Rd w p 0 [.map (some mb)]) (hm : MapS 32 w mb kv) :
    Rtn Try.prog 26 [.pointer (some ⟨p, 0, none⟩)].toArray w (fun v w' => ∃ bk c, v = .slice (some ⟨bk, 0, none⟩) kv.length c ∧ kv.length ≤ c ∧ w.heap.size ≤ bk ∧ Rd w' bk 0 (bs (sortK (kv.map (·.1))).flatten) ∧ Kept w w') := by
  refine fn_body (l := [.pointer (some ⟨p, 0, none⟩)]) 21 [.tmp 2] Try.func26 rfl Try.ntmps26 (Nat.le_of_ble_eq_true rfl) (by rw [Try.results26]) ?_
  refine go_seq ?_
  refine go_region 1 rfl rfl ?_
  refine s_val rfl rfl (r_assign) rfl ?_
  refine s_end ?_
  refine go_seq ?_
  refine go_region 1 rfl rfl ?_
  refine s_val rfl rfl (r_assign) rfl ?_
  refine s_end ?_
  refine go_seq ?_
  refine go_seq ?_
  refine go_region 5 rfl rfl ?_
  refine s_val rfl rfl (r_move) rfl ?_
  refine s_val rfl rfl (r_nilCheck rfl) rfl ?_
  refine s_val rfl rfl (r_fieldAddr Try.runUnderlying79 rfl Try.sizeOf77 rfl rfl) rfl ?_
  refine s_val rfl rfl (r_load1 Try.isAgg77 rfl (hp.k (Chg.refl no w))) rfl ?_
  refine s_do rfl rfl (w_rangeS Try.underlying77 rfl (hm.k (Chg.refl no w))) rfl ?_
  rintro _ w1 ⟨r2, rfl, hl_r2, hu_r2, it3, c_w1⟩
  have hs_w1 : w.heap.size ≤ w1.heap.size := Chg.size c_w1
  have C_w1 := Chg.pure (Chg.refl no w) c_w1
  have hn_r2 : w.heap.size ≤ r2 := by have := Chg.size C_w1; omega
  refine s_end ?_
  refine go_block ?_
  have hmB := (hm.k C_w1).lt
  refine go_loopM (σ := List (List UInt8) × Option Addr × Nat × Nat × Option (List UInt8)) [(3, 4), (10, 17)] (fun (x_ : List (List UInt8) × Option Addr × Nat × Nat × Option (List UInt8)) e' w' => match x_ with | (D, a1, n1, c1, la) => e' 3 = Value.slice a1 n1 c1 ∧ n1 = D.length ∧ All32 D ∧ ItS 32 w' r2 mb kv D la ∧ w1.heap.size ≤ w'.heap.size ∧ (r2 < w1.heap.size ∧ mb < w1.heap.size) ∧ w1.heap.size ≤ w'.heap.size ∧ Owns w' w1.heap.size 25 32 (Value.slice a1 n1 c1) n1 (bs D.flatten) ∧ n1 ≤ c1 ∧ Chg no w w') (fun (x_ : List (List UInt8) × Option Addr × Nat × Nat × Option (List UInt8)) => match x_ with | (D, a1, n1, c1, la) => kv.length - D.length) ([], none, 0, 0, none) ?_ ?_
  · exact ⟨rfl, rfl, All32.nil, it3, by omega, ⟨by omega, hmB⟩, by omega, Owns.nil _ _ _ _, by omega, C_w1⟩
  rintro ⟨D, a1, n1, c1, la⟩ f5 w4 ⟨e6, hn1, hD32, hit, hBw, hrB, hB_ho1, ho1, hc1, C_w4⟩
  have ob_8 : ∃ g_, f5 = upd g_ 3 (Value.slice a1 n1 c1) := ⟨f5, upd_id e6⟩
  obtain ⟨f7, rfl⟩ := ob_8
  clear e6
  have hs_w4 : w.heap.size ≤ w4.heap.size := Chg.size C_w4
  have hitl := ItS.lt hit
  refine go_seq ?_
  refine go_region 2 rfl rfl ?_
  refine s_do rfl rfl (w_nextS2 rfl hit) rfl ?_
  intro v9 w10 ho_
  rcases ho_ with ⟨h11, k12, u13, rfl, hk_k12, q_w10, c_w10⟩ | ⟨h11, rfl, c_w10⟩
  · first | replace h11 := of_decide_eq_true h11 | replace h11 := of_decide_eq_false (nt h11) | skip
    have hs_w10 : w4.heap.size ≤ w10.heap.size := Chg.size c_w10
    replace ho1 := ho1.kB c_w10 (Owns.ne_lt ho1 (by omega))
    have C_w10 := Chg.newB C_w4 c_w10 (by omega)
    have hit := q_w10
    refine s_val rfl rfl (r_extract rfl rfl) rfl ?_
    refine s_end ?_
    refine go_seq ?_
    refine go_true rfl ?_
    refine go_skip ?_
    refine go_block ?_
    refine go_seq ?_
    refine go_region 4 rfl rfl ?_
    refine s_do rfl rfl (w_entryS rfl hit) rfl ?_
    rintro _ w14 ⟨u15, rfl, c_w14⟩
    have hs_w14 : w10.heap.size ≤ w14.heap.size := Chg.size c_w14
    replace ho1 := ho1.k c_w14
    replace hit := hit.k c_w14
    have C_w14 := Chg.pure C_w10 c_w14
    refine s_val rfl rfl (r_extract rfl rfl) rfl ?_
    refine s_do rfl rfl (w_alloc (bs (List.replicate 32 0)) Try.zeroValue25 (by kernel_rfl)) rfl ?_
    rintro _ w16 ⟨b17, rfl, hl_b17, hu_b17, p18, c_w16⟩
    have ne_b17_ho1 := Owns.ne_ge ho1 hl_b17
    have hs_w16 : w14.heap.size ≤ w16.heap.size := Chg.size c_w16
    replace ho1 := ho1.k c_w16
    replace hit := hit.k c_w16
    have C_w16 := Chg.pure C_w14 c_w16
    have hn_b17 : w.heap.size ≤ b17 := by have := Chg.size C_w16; omega
    refine s_do rfl rfl (w_storeA (o := 0) Try.sizeOf25 rfl rfl (by first | exact bs_len (by omega) | exact bs_len (by simp; done) | exact bs_len (by simp; omega)) (flat_bs _) p18 (by first | exact bs_len (by omega) | exact bs_len (by simp; done) | exact bs_len (by simp; omega))) rfl ?_
    rintro _ w19 ⟨q_w19, c_w19⟩
    have hs_w19 : w16.heap.size ≤ w19.heap.size := Chg.size c_w19
    replace ho1 := ho1.kb c_w19 ne_b17_ho1
    replace hit := hit.kb c_w19 (by constructor <;> omega)
    have C_w19 := Chg.newRng C_w16 c_w19 (by omega)
    have p18 := q_w19
    refine s_end ?_
    refine go_region 5 rfl rfl ?_
    refine s_val rfl rfl (r_move) rfl ?_
    refine s_val rfl rfl (r_loadN Try.isAgg25 Try.sizeOf25 rfl p18.rd (by first | exact bs_len (by omega) | exact bs_len (by simp; done) | exact bs_len (by simp; omega))) rfl ?_
    refine s_do rfl rfl (w_buildA1 (E := 25) (sz := 32) Try.underlying29 (i := Try.t25) (by kernel_rfl) rfl rfl rfl rfl rfl rfl (by first | exact bs_len (by omega) | exact bs_len (by simp; done) | exact bs_len (by simp; omega))) rfl ?_
    rintro _ w20 ⟨b21, rfl, hl_b21, hu_b21, o23, p22, c_w20⟩
    have ne_b21_ho1 := Owns.ne_ge ho1 hl_b21
    have hs_w20 : w19.heap.size ≤ w20.heap.size := Chg.size c_w20
    replace ho1 := ho1.k c_w20
    replace hit := hit.k c_w20
    replace p18 := p18.k c_w20
    have C_w20 := Chg.pure C_w19 c_w20
    have hn_b21 : w.heap.size ≤ b21 := by have := Chg.size C_w20; omega
    refine s_do rfl rfl (w_append (E := 25) (sz := 32) Try.underlying29 rfl (i := Try.t25) (by kernel_rfl) rfl rfl rfl rfl (by rfl) ho1 rfl (SlAt.some p22.rd) (by first | (rw [bs_length]; omega) | (simp [bs_length]; done) | (simp [bs_length]; omega) | rfl) (flat_bs _) (by omega) (by show _ * 32 ≤ _; omega) (by omega)) rfl ?_
    rintro v28 w24 ⟨o25, c_w24⟩
    have hs_w24 : w20.heap.size ≤ w24.heap.size := Chg.size c_w24
    replace hit := hit.kob c_w24 (Owns.ne_lt ho1 (by omega)) (Owns.ne_lt ho1 (by omega))
    replace p18 := p18.kob c_w24 ne_b17_ho1
    replace p22 := p22.kob c_w24 ne_b21_ho1
    have C_w24 := Chg.newOb C_w20 c_w24 ho1 (by omega)
    have hfo_o25 := Owns.form2 o25
    obtain ⟨A26, cap27, e_o25, hc_cap27⟩ := hfo_o25
    subst e_o25
    replace o25 := Owns.appS (L := D) o25
    refine s_val rfl rfl (r_assign) rfl ?_
    refine s_end ?_
    refine go_nil (block_normal ?_)
    have hDN := hD32.app (All32.one (x := k12) (by assumption))
    refine go_nil (loop_normal ⟨⟨(D ++ [k12], _, n1 + 1, _, some k12), by dsimp only; rw [List.length_append, List.length_singleton]; omega, ⟨rfl, by rw [List.length_append, List.length_singleton]; omega, hDN, hit, by omega, hrB, by omega, o25, by omega, C_w24⟩⟩, (by repeat (first | exact same_refl | exact same_over | refine same_upd rfl ?_ | refine same_over2 rfl ?_))⟩)
  · first | replace h11 := of_decide_eq_false h11 | replace h11 := of_decide_eq_true (nf h11) | skip
    have hs_w10 : w4.heap.size ≤ w10.heap.size := Chg.size c_w10
    replace hit := hit.k c_w10
    replace ho1 := ho1.k c_w10
    have C_w10 := Chg.pure C_w4 c_w10
    refine s_val rfl rfl (r_extract rfl rfl) rfl ?_
    refine s_end ?_
    refine go_seq ?_
    refine go_false rfl ?_
    refine go_exit (loop_exit (block_hit ?_))
    refine go_seq ?_
    refine go_region 2 rfl rfl ?_
    refine s_val rfl rfl (r_move) rfl ?_
    have hle_ := ItS.le hit
    have hperm := hit.all (by omega)
    have hn0_ : 0 < n1 := by omega
    have hsm_ := own_some ho1 hn0_
    obtain ⟨bk, rfl, hBk, huk⟩ := hsm_
    have hn_bk : w.heap.size ≤ bk := by omega
    refine s_do rfl rfl (w_call Try.call39 rfl (sort_spec D bk n1 c1 _ _ hD32 (by omega) (by omega) ho1)) rfl ?_
    rintro _ w29 ⟨rfl, hrd, c_w29⟩
    have hs_w29 : w10.heap.size ≤ w29.heap.size := Chg.size c_w29
    have C_w29 := Chg.newB C_w10 c_w29 (by omega)
    refine s_end ?_
    refine go_seq ?_
    refine go_region 2 rfl rfl ?_
    refine s_val rfl rfl (r_move) rfl ?_
    refine s_val rfl rfl (r_assign) rfl ?_
    refine s_end ?_
    refine go_ret ?_
    refine ⟨_, .cons rfl (.nil), ?_⟩
    have e_ : sortK D = sortK (kv.map (·.1)) := sortK_congr hperm hD32
    have e2 : n1 = kv.length := by have := hperm.length_eq; rw [List.length_map] at this; omega
    rw [← e_, ← e2]
    exact ⟨bk, c1, rfl, hc1, hn_bk, hrd, C_w29⟩

theorem rootM_spec (kv : Kv) (p mb : Nat) (w : World) (hne : 0 < kv.length) (hbig : kv.length ≤ 1000) (hv : ∀ x ∈ kv, x.2.length = 32) (hnd : (kv.map (·.1)).Nodup) (hp : Rd w p 0 [.map (some mb)]) (hm : MapS 32 w mb kv) :
    Rtn Try.prog 24 [.pointer (some ⟨p, 0, none⟩)].toArray w (fun v w' => v = .agg (bs (rootF (getS kv) (kv.map (·.1)))).toArray ∧ Kept w w') := by
  have hk32 : All32 (kv.map (·.1)) := fun x hx => by
    obtain ⟨y, hy, rfl⟩ := List.mem_map.1 hx
    exact hm.klen y hy
  refine fn_body (l := [.pointer (some ⟨p, 0, none⟩)]) 7 [.cell 2 25] Try.func24 rfl Try.ntmps24 (Nat.le_of_ble_eq_true rfl) (by rw [Try.results24]) ?_
  refine go_seq ?_
  refine go_region 1 rfl rfl ?_
  refine s_do rfl rfl (w_alloc (bs (List.replicate 32 0)) Try.zeroValue25 (by kernel_rfl)) rfl ?_
  rintro _ w1 ⟨b2, rfl, hl_b2, hu_b2, p3, c_w1⟩
  have hs_w1 : w.heap.size ≤ w1.heap.size := Chg.size c_w1
  have C_w1 := Chg.pure (Chg.refl no w) c_w1
  have hn_b2 : w.heap.size ≤ b2 := by have := Chg.size C_w1; omega
  refine s_end ?_
  refine go_seq ?_
  refine go_region 5 rfl rfl ?_
  refine s_val rfl rfl (r_move) rfl ?_
  refine s_val rfl rfl (r_move) rfl ?_
  refine s_do rfl rfl (w_call Try.call26 rfl (keys_spec kv _ mb _ hne hbig (hp.k C_w1) (hm.k C_w1))) rfl ?_
  rintro _ w4 ⟨bk5, ck6, rfl, hc_ck6, hl_bk5, hk7, c_w4⟩
  have hs_w4 : w1.heap.size ≤ w4.heap.size := Chg.size c_w4
  replace p3 := p3.k c_w4
  have C_w4 := Chg.pure C_w1 c_w4
  have hks_ : (sortK (kv.map (·.1))).length = kv.length := by rw [(sortK_perm _).length_eq, List.length_map]
  refine s_do rfl rfl (w_call Try.call38 rfl (part_spec kv _ mb hv 256 (sortK (kv.map (·.1))) 0 _ _ _ _ hks_ hc_ck6 (by omega) (rootF_sp hk32 hnd) (fun x hx => hk32 x ((sortK_perm _).subset hx)) (hp.k C_w4) (hm.k C_w4) (SlAt.some hk7))) rfl ?_
  rintro _ w8 ⟨rfl, c_w8⟩
  have hs_w8 : w4.heap.size ≤ w8.heap.size := Chg.size c_w8
  replace p3 := p3.k c_w8
  replace hk7 := hk7.k c_w8
  have C_w8 := Chg.pure C_w4 c_w8
  have hr_w8 := partF_len (getS kv) 256 (sortK (kv.map (·.1))) 0
  refine s_do rfl rfl (w_storeA (o := 0) Try.sizeOf25 rfl rfl (by first | exact bs_len (by omega) | exact bs_len (by simp; done) | exact bs_len (by simp; omega)) (flat_bs _) p3 (by first | exact bs_len (by omega) | exact bs_len (by simp; done) | exact bs_len (by simp; omega))) rfl ?_
  rintro _ w9 ⟨q_w9, c_w9⟩
  have hs_w9 : w8.heap.size ≤ w9.heap.size := Chg.size c_w9
  replace hk7 := hk7.kb c_w9 (by omega)
  have C_w9 := Chg.newRng C_w8 c_w9 (by omega)
  have p3 := q_w9
  refine s_end ?_
  refine go_ret ?_
  refine ⟨_, .cons ⟨_, rfl, run_load_agg Try.isAgg25 Try.sizeOf25 (by first | exact bs_len (by omega) | exact bs_len (by simp; done) | exact bs_len (by simp; omega)) p3.rd⟩ (.nil), ?_⟩
  exact ⟨rfl, C_w9⟩

end Go.Proofs.Ytdnccchcflaphaa
