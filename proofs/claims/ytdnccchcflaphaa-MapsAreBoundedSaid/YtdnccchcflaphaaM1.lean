/- M1: contracts of functions of the program: called in any world that meets a contract's premises, the function returns what the contract says and changes no more than it says. -/
import Derived.Test.YtdnccchcflaphaaEng
import Derived.Test.YtdnccchcflaphaaChecked
open Go Go.Eng Go.Proofs
namespace Go.Proofs.Ytdnccchcflaphaa

def rotl (n : UInt32) (k : Int) : UInt32 := shl32 n k.toNat ||| shr32 n (32 - k).toNat
/-- the first k bytes of a state, put into words -/
def wordsTo (s : List UInt8) : Nat → List UInt32
  | 0 => List.replicate 16 0
  | k + 1 => (wordsTo s k).set (k / 4) (shl32 ((wordsTo s k).getD (k / 4) 0) 8 ||| w32 ((s.getD k 0).toNat : Int))
@[simp] theorem wordsTo_length (s : List UInt8) (k : Nat) : (wordsTo s k).length = 16 := by induction k with | zero => rfl | succ k ih => simp [wordsTo, ih]
/-- the first k bytes of words -/
def octsTo (W : List UInt32) : Nat → List UInt8
  | 0 => List.replicate 64 0
  | k + 1 => (octsTo W k).set k (b8 ((shr32 (W.getD (k / 4) 0) (24 - 8 * (k % 4))).toNat : Int))
@[simp] theorem octsTo_length (W : List UInt32) (k : Nat) : (octsTo W k).length = 64 := by induction k with | zero => rfl | succ k ih => simp [octsTo, ih]
/-- one step of the stirring -/
def stepW (r i : Nat) (W : List UInt32) : List UInt32 :=
  let W1 := W.set i (W.getD i 0 + (rotl (W.getD ((i + 1 + r) % 16) 0) (5 + (i : Int)) ^^^ 2654435769 * w32 (16 * (r : Int) + (i : Int) + 1)))
  W1.set ((i + 9) % 16) (W1.getD ((i + 9) % 16) 0 ^^^ rotl (W1.getD i 0) 11)
def roundTo (r : Nat) (W : List UInt32) : Nat → List UInt32
  | 0 => W
  | i + 1 => stepW r i (roundTo r W i)
def stirTo (W : List UInt32) : Nat → List UInt32
  | 0 => W
  | r + 1 => roundTo r (stirTo W r) 16
@[simp] theorem stepW_length (r i : Nat) (W : List UInt32) : (stepW r i W).length = W.length := by simp [stepW]
@[simp] theorem roundTo_length (r : Nat) (W : List UInt32) (i : Nat) : (roundTo r W i).length = W.length := by induction i with | zero => rfl | succ i ih => simp [roundTo, stepW_length, ih]
@[simp] theorem stirTo_length (W : List UInt32) (r : Nat) : (stirTo W r).length = W.length := by induction r with | zero => rfl | succ r ih => simp [stirTo, roundTo_length, ih]
def stir (s : List UInt8) : List UInt8 := octsTo (stirTo (wordsTo s 64) 8) 64
@[simp] theorem stir_length (s : List UInt8) : (stir s).length = 64 := octsTo_length _ _

def wordL (o : List UInt8) : UInt32 := shl32 (w32 ((o.getD 0 0).toNat : Int)) 24 ||| shl32 (w32 ((o.getD 1 0).toNat : Int)) 16 ||| shl32 (w32 ((o.getD 2 0).toNat : Int)) 8 ||| w32 ((o.getD 3 0).toNat : Int)
def oct4 (n : UInt32) : List UInt8 := [b8 ((shr32 n 24).toNat : Int), b8 ((shr32 n 16).toNat : Int), b8 ((shr32 n 8).toNat : Int), b8 (n.toNat : Int)]
@[simp] theorem oct4_length (n : UInt32) : (oct4 n).length = 4 := rfl
def oct8 (n : UInt64) : List UInt8 :=
  let h := oct4 (w32 ((shr64 n 32).toNat : Int))
  let l := oct4 (w32 (n.toNat : Int))
  [h.getD 0 0, h.getD 1 0, h.getD 2 0, h.getD 3 0, l.getD 0 0, l.getD 1 0, l.getD 2 0, l.getD 3 0]
@[simp] theorem oct8_length (n : UInt64) : (oct8 n).length = 8 := rfl
def rotB (x : UInt32) (k : Int) : UInt32 := shl32 x (((w64 k &&& 31).toNat : Int).toNat) ||| shr32 x (((32 - (w64 k &&& 31)).toNat : Int).toNat)
def turnB (W : List UInt32) (r i : Nat) : UInt32 := rotB (W.getD ((i + 1 + r) % 16) 0) (5 + (i : Int)) ^^^ w32 ((2654435769 * w64 (16 * (r : Int) + (i : Int) + 1)).toNat : Int)
def wordsBTo (s : List UInt8) : Nat → List UInt32
  | 0 => List.replicate 16 0
  | k + 1 => (wordsBTo s k).set k (wordL ((s.drop (4 * k)).take 4))
@[simp] theorem wordsBTo_length (s : List UInt8) (k : Nat) : (wordsBTo s k).length = 16 := by induction k with | zero => rfl | succ k ih => simp [wordsBTo, ih]
def stateBTo (W : List UInt32) : Nat → List UInt8
  | 0 => List.replicate 64 0
  | k + 1 => putAt (stateBTo W k) (4 * k) ((oct4 (W.getD k 0)).take (64 - 4 * k))
theorem stateBTo_length (W : List UInt32) (k : Nat) (hk : k ≤ 16) : (stateBTo W k).length = 64 := by
  induction k with
  | zero => rfl
  | succ k ih =>
    have := ih (by omega)
    rw [stateBTo, putAt_length _ _ _ (by rw [this, List.length_take, oct4_length]; omega), this]
@[simp] theorem stateB16_length (W : List UInt32) : (stateBTo W 16).length = 64 := stateBTo_length W 16 (Nat.le_refl _)
def stepB (r i : Nat) (W : List UInt32) : List UInt32 :=
  let W1 := W.set i (W.getD i 0 + turnB W r i)
  W1.set ((i + 9) % 16) (W1.getD ((i + 9) % 16) 0 ^^^ rotB (W1.getD i 0) 11)
def roundBTo (r : Nat) (W : List UInt32) : Nat → List UInt32
  | 0 => W
  | i + 1 => stepB r i (roundBTo r W i)
def stirBTo (W : List UInt32) : Nat → List UInt32
  | 0 => W
  | r + 1 => roundBTo r (stirBTo W r) 16
@[simp] theorem stepB_length (r i : Nat) (W : List UInt32) : (stepB r i W).length = W.length := by simp [stepB]
@[simp] theorem roundBTo_length (r : Nat) (W : List UInt32) (i : Nat) : (roundBTo r W i).length = W.length := by induction i with | zero => rfl | succ i ih => simp [roundBTo, ih]
@[simp] theorem stirBTo_length (W : List UInt32) (r : Nat) : (stirBTo W r).length = W.length := by induction r with | zero => rfl | succ r ih => simp [stirBTo, ih]
def stirB (s : List UInt8) : List UInt8 := stateBTo (stirBTo (wordsBTo s 16) 8) 16
@[simp] theorem stirB_length (s : List UInt8) : (stirB s).length = 64 := stateBTo_length _ _ (by omega)
theorem turn_spec (n : UInt32) (k : Int) (w : World) (h0 : 0 ≤ k) (h1 : k ≤ 32) :
    Rtn Try.prog 79 [u32 n, i64 k].toArray w (fun v w' => v = u32 (rotl n k) ∧ Kept w w') := by
  refine fn_body (l := [u32 n, i64 k]) 13 [.tmp 4] Try.func79 rfl Try.ntmps79 (Nat.le_of_ble_eq_true rfl) (by rw [Try.results79]) ?_
  refine go_seq ?_
  refine go_region 1 rfl rfl ?_
  refine s_val rfl rfl (r_assign) rfl ?_
  refine s_end ?_
  refine go_seq ?_
  refine go_drawsE 7 (.take 0 (.take 1 (.take 2 (.take 3 (.take 4 (.take 5 (.take 6 (.eff 7 (.eff 8 .done))))))))) (by kernel_rfl) (by kernel_rfl) fun w1 c_w1 => ?_
  have hs_w1 : w.heap.size ≤ w1.heap.size := Chg.size c_w1
  have C_w1 := Chg.pure (Chg.refl no w) c_w1
  refine s_takeE rfl rfl (r_move) ?_
  refine s_takeE rfl rfl (r_move) ?_
  refine s_takeE rfl rfl (r_shl32 rfl rfl (by omega)) ?_
  refine s_takeE rfl rfl (r_move) ?_
  refine s_takeE rfl rfl (r_move) ?_
  refine s_takeE rfl rfl (r_subi rfl rfl (by omega)) ?_
  refine s_takeE rfl rfl (r_shr32 rfl rfl (by omega)) ?_
  refine s_val rfl rfl (r_or32 rfl rfl) rfl ?_
  refine s_val rfl rfl (r_assign) rfl ?_
  refine s_end ?_
  refine go_ret ?_
  refine ⟨_, .cons rfl (.nil), ?_⟩
  exact ⟨rfl, C_w1⟩

theorem words_spec (s : List UInt8) (w : World) (hl : s.length = 64) :
    Rtn Try.prog 78 [.agg (bs s).toArray].toArray w (fun v w' => v = .agg (ws (wordsTo s 64)).toArray ∧ Kept w w') := by
  refine fn_body (l := [.agg (bs s).toArray]) 24 [.cell 2 122] Try.func78 rfl Try.ntmps78 (Nat.le_of_ble_eq_true rfl) (by rw [Try.results78]) ?_
  refine go_seq ?_
  refine go_region 2 rfl rfl ?_
  refine s_do rfl rfl (w_boxA rfl) rfl ?_
  rintro _ w1 ⟨b2, rfl, hl_b2, hu_b2, p3, c_w1⟩
  have hs_w1 : w.heap.size ≤ w1.heap.size := Chg.size c_w1
  have C_w1 := Chg.pure (Chg.refl no w) c_w1
  have hn_b2 : w.heap.size ≤ b2 := by have := Chg.size C_w1; omega
  refine s_do rfl rfl (w_alloc (ws (List.replicate 16 0)) Try.zeroValue122 (by kernel_rfl)) rfl ?_
  rintro _ w4 ⟨b5, rfl, hl_b5, hu_b5, p6, c_w4⟩
  have hs_w4 : w1.heap.size ≤ w4.heap.size := Chg.size c_w4
  replace p3 := p3.k c_w4
  have C_w4 := Chg.pure C_w1 c_w4
  have hn_b5 : w.heap.size ≤ b5 := by have := Chg.size C_w4; omega
  refine s_end ?_
  refine go_seq ?_
  refine go_region 1 rfl rfl ?_
  refine s_do rfl rfl (w_alloc (ws (List.replicate 16 0)) Try.zeroValue122 (by kernel_rfl)) rfl ?_
  rintro _ w7 ⟨b8, rfl, hl_b8, hu_b8, p9, c_w7⟩
  have hs_w7 : w4.heap.size ≤ w7.heap.size := Chg.size c_w7
  replace p3 := p3.k c_w7
  replace p6 := p6.k c_w7
  have C_w7 := Chg.pure C_w4 c_w7
  have hn_b8 : w.heap.size ≤ b8 := by have := Chg.size C_w7; omega
  refine s_end ?_
  refine go_seq ?_
  refine go_seq ?_
  refine go_region 2 rfl rfl ?_
  refine s_val rfl rfl (r_loadN Try.isAgg90 Try.sizeOf90 rfl p3.rd (by first | exact bs_len (by omega) | exact bs_len (by simp; done) | exact bs_len (by simp; omega))) rfl ?_
  refine s_val rfl rfl (r_move) rfl ?_
  refine s_end ?_
  refine go_block ?_
  refine go_loopM (σ := Nat) [(4, 5), (7, 22)] (fun (k : Nat) e' w' => e' 7 = i64 (k : Nat) ∧ k ≤ 64 ∧ Pc w' b5 0 (ws (List.replicate 16 0)) ∧ b5 < w'.heap.size ∧ Pc w' b8 0 (ws (wordsTo s k)) ∧ b8 < w'.heap.size ∧ Chg no w w') (fun (k : Nat) => 64 - k) 0 ?_ ?_
  · exact ⟨rfl, by omega, p6, by omega, p9, by omega, C_w7⟩
  rintro k f11 w10 ⟨e12, hk, p6, hu_b5, p9, hu_b8, C_w10⟩
  obtain ⟨f13, rfl⟩ : ∃ g_, f11 = upd g_ 7 (i64 (k : Nat)) := ⟨f11, upd_id e12⟩
  have hs_w10 : w.heap.size ≤ w10.heap.size := Chg.size C_w10
  have hw := wordsTo_length s k
  refine go_seq ?_
  refine go_region 1 rfl rfl ?_
  refine s_val rfl rfl (r_lss rfl rfl) rfl ?_
  refine s_end ?_
  refine go_seq ?_
  refine go_ifb _ rfl (fun h => ?_) (fun h => ?_)
  · first | replace h := of_decide_eq_true h | replace h := of_decide_eq_false (nt h) | skip
    refine go_skip ?_
    refine go_seq ?_
    refine go_block ?_
    refine go_seq ?_
    refine go_region 4 rfl rfl ?_
    refine s_val rfl rfl (r_move) rfl ?_
    refine s_val rfl rfl (r_indexAgg (k := k) Try.runUnderlying90 Try.isAgg5 Try.sizeOf5 rfl rfl (by first | rfl | omega) (by first | decide | omega) (bs_get (by first | omega | (simp; done) | (simp; omega)))) rfl ?_
    refine s_val rfl rfl (r_assign) rfl ?_
    refine s_val rfl rfl (r_assign) rfl ?_
    refine s_end ?_
    refine go_region 12 rfl rfl ?_
    refine s_val rfl rfl (r_move) rfl ?_
    refine s_val rfl rfl (r_quoi rfl rfl (by omega) (by omega) (by omega)) rfl ?_
    refine s_val rfl rfl (r_move) rfl ?_
    refine s_val rfl rfl (r_quoi rfl rfl (by omega) (by omega) (by omega)) rfl ?_
    refine s_val rfl rfl (r_indexArr (k := (k / 4)) Try.runUnderlying122 Try.sizeOf119 rfl rfl (by first | rfl | omega) (by first | decide | omega)) rfl ?_
    refine s_val rfl rfl (r_load1 Try.isAgg119 rfl (Rd.at1 p9.rd (ws_get (by first | omega | (simp; done) | (simp; omega))))) rfl ?_
    refine s_val rfl rfl (r_shl32 rfl rfl (by omega)) rfl ?_
    refine s_val rfl rfl (r_move) rfl ?_
    refine s_val rfl rfl (r_conv_u32 Try.runUnderlying5 Try.runUnderlying119 rfl) rfl ?_
    refine s_val rfl rfl (r_or32 rfl rfl) rfl ?_
    refine s_val rfl rfl (r_indexArr (k := (k / 4)) Try.runUnderlying122 Try.sizeOf119 rfl rfl (by first | rfl | omega) (by first | decide | omega)) rfl ?_
    refine s_do rfl rfl (w_set_w (k := (k / 4)) Try.sizeOf119 rfl rfl p9 (by first | omega | (simp; done) | (simp; omega))) rfl ?_
    rintro _ w14 ⟨q_w14, c_w14⟩
    have hs_w14 : w10.heap.size ≤ w14.heap.size := Chg.size c_w14
    replace p6 := p6.kb c_w14 (by omega)
    have C_w14 := Chg.newRng C_w10 c_w14 (by omega)
    have p9 := q_w14
    refine s_end ?_
    refine go_nil (block_normal ?_)
    refine go_region 2 rfl rfl ?_
    refine s_val rfl rfl (r_addi rfl rfl (by omega)) rfl ?_
    refine s_val rfl rfl (r_move) rfl ?_
    refine s_end ?_
    refine go_nil (loop_normal ⟨⟨(k + 1), by first | omega | (dsimp only; omega), ⟨rfl, by omega, p6, by omega, p9, by omega, C_w14⟩⟩, (by repeat (first | exact same_refl | exact same_over | refine same_upd rfl ?_ | refine same_over2 rfl ?_))⟩)
  · first | replace h := of_decide_eq_false h | replace h := of_decide_eq_true (nf h) | skip
    obtain rfl : k = 64 := by omega
    have hw := wordsTo_length s 64
    refine go_exit (loop_exit (block_hit ?_))
    refine go_seq ?_
    refine go_region 2 rfl rfl ?_
    refine s_val rfl rfl (r_loadN Try.isAgg122 Try.sizeOf122 rfl p9.rd (by first | exact ws_len (by omega) | exact ws_len (by simp; done) | exact ws_len (by simp; omega))) rfl ?_
    refine s_do rfl rfl (w_storeA Try.sizeOf122 rfl rfl (by first | exact ws_len (by omega) | exact ws_len (by simp; done) | exact ws_len (by simp; omega)) (flat_ws _) p6 (by first | exact ws_len (by omega) | exact ws_len (by simp; done) | exact ws_len (by simp; omega))) rfl ?_
    rintro _ w15 ⟨q_w15, c_w15⟩
    have hs_w15 : w10.heap.size ≤ w15.heap.size := Chg.size c_w15
    replace p9 := p9.kb c_w15 (by omega)
    have C_w15 := Chg.newRng C_w10 c_w15 (by omega)
    have p6 := q_w15
    refine s_end ?_
    refine go_ret ?_
    refine ⟨_, .cons ⟨_, rfl, run_load_agg Try.isAgg122 Try.sizeOf122 (by first | exact ws_len (by omega) | exact ws_len (by simp; done) | exact ws_len (by simp; omega)) p6.rd⟩ (.nil), ?_⟩
    exact ⟨rfl, C_w15⟩

theorem octets_spec (W : List UInt32) (w : World) (hl : W.length = 16) :
    Rtn Try.prog 80 [.agg (ws W).toArray].toArray w (fun v w' => v = .agg (bs (octsTo W 64)).toArray ∧ Kept w w') := by
  refine fn_body (l := [.agg (ws W).toArray]) 22 [.cell 2 90] Try.func80 rfl Try.ntmps80 (Nat.le_of_ble_eq_true rfl) (by rw [Try.results80]) ?_
  refine go_seq ?_
  refine go_region 2 rfl rfl ?_
  refine s_do rfl rfl (w_boxA rfl) rfl ?_
  rintro _ w1 ⟨b2, rfl, hl_b2, hu_b2, p3, c_w1⟩
  have hs_w1 : w.heap.size ≤ w1.heap.size := Chg.size c_w1
  have C_w1 := Chg.pure (Chg.refl no w) c_w1
  have hn_b2 : w.heap.size ≤ b2 := by have := Chg.size C_w1; omega
  refine s_do rfl rfl (w_alloc (bs (List.replicate 64 0)) Try.zeroValue90 (by kernel_rfl)) rfl ?_
  rintro _ w4 ⟨b5, rfl, hl_b5, hu_b5, p6, c_w4⟩
  have hs_w4 : w1.heap.size ≤ w4.heap.size := Chg.size c_w4
  replace p3 := p3.k c_w4
  have C_w4 := Chg.pure C_w1 c_w4
  have hn_b5 : w.heap.size ≤ b5 := by have := Chg.size C_w4; omega
  refine s_end ?_
  refine go_seq ?_
  refine go_region 1 rfl rfl ?_
  refine s_do rfl rfl (w_alloc (bs (List.replicate 64 0)) Try.zeroValue90 (by kernel_rfl)) rfl ?_
  rintro _ w7 ⟨b8, rfl, hl_b8, hu_b8, p9, c_w7⟩
  have hs_w7 : w4.heap.size ≤ w7.heap.size := Chg.size c_w7
  replace p3 := p3.k c_w7
  replace p6 := p6.k c_w7
  have C_w7 := Chg.pure C_w4 c_w7
  have hn_b8 : w.heap.size ≤ b8 := by have := Chg.size C_w7; omega
  refine s_end ?_
  refine go_seq ?_
  refine go_seq ?_
  refine go_region 1 rfl rfl ?_
  refine s_val rfl rfl (r_move) rfl ?_
  refine s_end ?_
  refine go_block ?_
  refine go_loopM (σ := Nat) [(4, 20)] (fun (k : Nat) e' w' => e' 5 = i64 (k : Nat) ∧ k ≤ 64 ∧ Pc w' b2 0 (ws W) ∧ b2 < w'.heap.size ∧ Pc w' b5 0 (bs (List.replicate 64 0)) ∧ b5 < w'.heap.size ∧ Pc w' b8 0 (bs (octsTo W k)) ∧ b8 < w'.heap.size ∧ Chg no w w') (fun (k : Nat) => 64 - k) 0 ?_ ?_
  · exact ⟨rfl, by omega, p3, by omega, p6, by omega, p9, by omega, C_w7⟩
  rintro k f11 w10 ⟨e12, hk, p3, hu_b2, p6, hu_b5, p9, hu_b8, C_w10⟩
  obtain ⟨f13, rfl⟩ : ∃ g_, f11 = upd g_ 5 (i64 (k : Nat)) := ⟨f11, upd_id e12⟩
  have hs_w10 : w.heap.size ≤ w10.heap.size := Chg.size C_w10
  have hw := octsTo_length W k
  refine go_seq ?_
  refine go_region 1 rfl rfl ?_
  refine s_val rfl rfl (r_lss rfl rfl) rfl ?_
  refine s_end ?_
  refine go_seq ?_
  refine go_ifb _ rfl (fun h => ?_) (fun h => ?_)
  · first | replace h := of_decide_eq_true h | replace h := of_decide_eq_false (nt h) | skip
    refine go_skip ?_
    refine go_seq ?_
    refine go_block ?_
    refine go_seq ?_
    refine go_region 2 rfl rfl ?_
    refine s_val rfl rfl (r_move) rfl ?_
    refine s_val rfl rfl (r_assign) rfl ?_
    refine s_end ?_
    refine go_region 13 rfl rfl ?_
    refine s_val rfl rfl (r_move) rfl ?_
    refine s_val rfl rfl (r_move) rfl ?_
    refine s_val rfl rfl (r_quoi rfl rfl (by omega) (by omega) (by omega)) rfl ?_
    refine s_val rfl rfl (r_indexArr (k := (k / 4)) Try.runUnderlying122 Try.sizeOf119 rfl rfl (by first | rfl | omega) (by first | decide | omega)) rfl ?_
    refine s_val rfl rfl (r_load1 Try.isAgg119 rfl (Rd.at1 p3.rd (ws_get (by first | omega | (simp; done) | (simp; omega))))) rfl ?_
    refine s_val rfl rfl (r_move) rfl ?_
    refine s_val rfl rfl (r_remi rfl rfl (by omega) (by omega)) rfl ?_
    refine s_val rfl rfl (r_muli rfl rfl (by omega)) rfl ?_
    refine s_val rfl rfl (r_subi rfl rfl (by omega)) rfl ?_
    refine s_val rfl rfl (r_shr32 rfl rfl (by omega)) rfl ?_
    refine s_val rfl rfl (r_conv_u8 Try.runUnderlying119 Try.runUnderlying5 rfl) rfl ?_
    refine s_val rfl rfl (r_indexArr (k := k) Try.runUnderlying90 Try.sizeOf5 rfl rfl (by first | rfl | omega) (by first | decide | omega)) rfl ?_
    refine s_do rfl rfl (w_set_b (k := k) Try.sizeOf5 rfl rfl p9 (by first | omega | (simp; done) | (simp; omega))) rfl ?_
    rintro _ w14 ⟨q_w14, c_w14⟩
    have hs_w14 : w10.heap.size ≤ w14.heap.size := Chg.size c_w14
    replace p3 := p3.kb c_w14 (by omega)
    replace p6 := p6.kb c_w14 (by omega)
    have C_w14 := Chg.newRng C_w10 c_w14 (by omega)
    have p9 := q_w14
    refine s_end ?_
    refine go_nil (block_normal ?_)
    refine go_region 2 rfl rfl ?_
    refine s_val rfl rfl (r_addi rfl rfl (by omega)) rfl ?_
    refine s_val rfl rfl (r_move) rfl ?_
    refine s_end ?_
    have e1 : (24 - 8 * ((k : Int) % 4)).toNat = 24 - 8 * (k % 4) := by omega
    rw [e1] at p9
    refine go_nil (loop_normal ⟨⟨(k + 1), by first | omega | (dsimp only; omega), ⟨rfl, by omega, p3, by omega, p6, by omega, p9, by omega, C_w14⟩⟩, (by repeat (first | exact same_refl | exact same_over | refine same_upd rfl ?_ | refine same_over2 rfl ?_))⟩)
  · first | replace h := of_decide_eq_false h | replace h := of_decide_eq_true (nf h) | skip
    obtain rfl : k = 64 := by omega
    have hw := octsTo_length W 64
    refine go_exit (loop_exit (block_hit ?_))
    refine go_seq ?_
    refine go_region 2 rfl rfl ?_
    refine s_val rfl rfl (r_loadN Try.isAgg90 Try.sizeOf90 rfl p9.rd (by first | exact bs_len (by omega) | exact bs_len (by simp; done) | exact bs_len (by simp; omega))) rfl ?_
    refine s_do rfl rfl (w_storeA Try.sizeOf90 rfl rfl (by first | exact bs_len (by omega) | exact bs_len (by simp; done) | exact bs_len (by simp; omega)) (flat_bs _) p6 (by first | exact bs_len (by omega) | exact bs_len (by simp; done) | exact bs_len (by simp; omega))) rfl ?_
    rintro _ w15 ⟨q_w15, c_w15⟩
    have hs_w15 : w10.heap.size ≤ w15.heap.size := Chg.size c_w15
    replace p3 := p3.kb c_w15 (by omega)
    replace p9 := p9.kb c_w15 (by omega)
    have C_w15 := Chg.newRng C_w10 c_w15 (by omega)
    have p6 := q_w15
    refine s_end ?_
    refine go_ret ?_
    refine ⟨_, .cons ⟨_, rfl, run_load_agg Try.isAgg90 Try.sizeOf90 (by first | exact bs_len (by omega) | exact bs_len (by simp; done) | exact bs_len (by simp; omega)) p6.rd⟩ (.nil), ?_⟩
    exact ⟨rfl, C_w15⟩

theorem stirR_spec (s : List UInt8) (w : World) (hl : s.length = 64) :
    Rtn Try.prog 60 [.agg (bs s).toArray].toArray w (fun v w' => v = .agg (bs (stir s)).toArray ∧ Kept w w') := by
  refine fn_body (l := [.agg (bs s).toArray]) 56 [.cell 2 90] Try.func60 rfl Try.ntmps60 (Nat.le_of_ble_eq_true rfl) (by rw [Try.results60]) ?_
  refine go_seq ?_
  refine go_region 2 rfl rfl ?_
  refine s_do rfl rfl (w_boxA rfl) rfl ?_
  rintro _ w1 ⟨b2, rfl, hl_b2, hu_b2, p3, c_w1⟩
  have hs_w1 : w.heap.size ≤ w1.heap.size := Chg.size c_w1
  have C_w1 := Chg.pure (Chg.refl no w) c_w1
  have hn_b2 : w.heap.size ≤ b2 := by have := Chg.size C_w1; omega
  refine s_do rfl rfl (w_alloc (bs (List.replicate 64 0)) Try.zeroValue90 (by kernel_rfl)) rfl ?_
  rintro _ w4 ⟨b5, rfl, hl_b5, hu_b5, p6, c_w4⟩
  have hs_w4 : w1.heap.size ≤ w4.heap.size := Chg.size c_w4
  replace p3 := p3.k c_w4
  have C_w4 := Chg.pure C_w1 c_w4
  have hn_b5 : w.heap.size ≤ b5 := by have := Chg.size C_w4; omega
  refine s_end ?_
  refine go_seq ?_
  refine go_region 4 rfl rfl ?_
  refine s_val rfl rfl (r_loadN Try.isAgg90 Try.sizeOf90 rfl p3.rd (by first | exact bs_len (by omega) | exact bs_len (by simp; done) | exact bs_len (by simp; omega))) rfl ?_
  refine s_do rfl rfl (w_call Try.call78 rfl (words_spec _ _ (by first | omega | (simp; done) | (simp; omega)))) rfl ?_
  rintro _ w7 ⟨rfl, c_w7⟩
  have hs_w7 : w4.heap.size ≤ w7.heap.size := Chg.size c_w7
  replace p3 := p3.k c_w7
  replace p6 := p6.k c_w7
  have C_w7 := Chg.pure C_w4 c_w7
  refine s_do rfl rfl (w_alloc (ws (List.replicate 16 0)) Try.zeroValue122 (by kernel_rfl)) rfl ?_
  rintro _ w8 ⟨b9, rfl, hl_b9, hu_b9, p10, c_w8⟩
  have hs_w8 : w7.heap.size ≤ w8.heap.size := Chg.size c_w8
  replace p3 := p3.k c_w8
  replace p6 := p6.k c_w8
  have C_w8 := Chg.pure C_w7 c_w8
  have hn_b9 : w.heap.size ≤ b9 := by have := Chg.size C_w8; omega
  refine s_do rfl rfl (w_storeA Try.sizeOf122 rfl rfl (by first | exact ws_len (by omega) | exact ws_len (by simp; done) | exact ws_len (by simp; omega)) (flat_ws _) p10 (by first | exact ws_len (by omega) | exact ws_len (by simp; done) | exact ws_len (by simp; omega))) rfl ?_
  rintro _ w11 ⟨q_w11, c_w11⟩
  have hs_w11 : w8.heap.size ≤ w11.heap.size := Chg.size c_w11
  replace p3 := p3.kb c_w11 (by omega)
  replace p6 := p6.kb c_w11 (by omega)
  have C_w11 := Chg.newRng C_w8 c_w11 (by omega)
  have p10 := q_w11
  refine s_end ?_
  refine go_seq ?_
  refine go_seq ?_
  refine go_region 1 rfl rfl ?_
  refine s_val rfl rfl (r_move) rfl ?_
  refine s_end ?_
  refine go_block ?_
  refine go_loopM (σ := Nat) [(4, 7), (10, 53)] (fun (r : Nat) e' w' => e' 10 = i64 (r : Nat) ∧ r ≤ 8 ∧ Pc w' b5 0 (bs (List.replicate 64 0)) ∧ b5 < w'.heap.size ∧ Pc w' b9 0 (ws (stirTo (wordsTo s 64) r)) ∧ b9 < w'.heap.size ∧ Chg no w w') (fun (r : Nat) => 8 - r) 0 ?_ ?_
  · exact ⟨rfl, by omega, p6, by omega, p10, by omega, C_w11⟩
  rintro r f13 w12 ⟨e14, hr, p6, hu_b5, p10, hu_b9, C_w12⟩
  obtain ⟨f15, rfl⟩ : ∃ g_, f13 = upd g_ 10 (i64 (r : Nat)) := ⟨f13, upd_id e14⟩
  have hs_w12 : w.heap.size ≤ w12.heap.size := Chg.size C_w12
  have hw0 := wordsTo_length s 64
  have hw := stirTo_length (wordsTo s 64) r
  refine go_seq ?_
  refine go_region 1 rfl rfl ?_
  refine s_val rfl rfl (r_lss rfl rfl) rfl ?_
  refine s_end ?_
  refine go_seq ?_
  refine go_ifb _ rfl (fun h => ?_) (fun h => ?_)
  · first | replace h := of_decide_eq_true h | replace h := of_decide_eq_false (nt h) | skip
    refine go_skip ?_
    refine go_seq ?_
    refine go_block ?_
    refine go_seq ?_
    refine go_region 2 rfl rfl ?_
    refine s_val rfl rfl (r_move) rfl ?_
    refine s_val rfl rfl (r_assign) rfl ?_
    refine s_end ?_
    refine go_seq ?_
    refine go_region 1 rfl rfl ?_
    refine s_val rfl rfl (r_move) rfl ?_
    refine s_end ?_
    refine go_block ?_
    refine go_loopM (σ := Nat) [(5, 7), (13, 52)] (fun (i : Nat) e' w' => e' 13 = i64 (i : Nat) ∧ i ≤ 16 ∧ Pc w' b5 0 (bs (List.replicate 64 0)) ∧ b5 < w'.heap.size ∧ Pc w' b9 0 (ws (roundTo r (stirTo (wordsTo s 64) r) i)) ∧ b9 < w'.heap.size ∧ Chg no w w') (fun (i : Nat) => 16 - i) 0 ?_ ?_
    · exact ⟨rfl, by omega, p6, by omega, p10, by omega, C_w12⟩
    rintro i f17 w16 ⟨e18, hi, p6, hu_b5, p10, hu_b9, C_w16⟩
    obtain ⟨f19, rfl⟩ : ∃ g_, f17 = upd g_ 13 (i64 (i : Nat)) := ⟨f17, upd_id e18⟩
    have hs_w16 : w.heap.size ≤ w16.heap.size := Chg.size C_w16
    have hw1 := roundTo_length r (stirTo (wordsTo s 64) r) i
    refine go_seq ?_
    refine go_region 1 rfl rfl ?_
    refine s_val rfl rfl (r_lss rfl rfl) rfl ?_
    refine s_end ?_
    refine go_seq ?_
    refine go_ifb _ rfl (fun h2 => ?_) (fun h2 => ?_)
    · first | replace h2 := of_decide_eq_true h2 | replace h2 := of_decide_eq_false (nt h2) | skip
      refine go_skip ?_
      refine go_seq ?_
      refine go_block ?_
      refine go_seq ?_
      refine go_region 2 rfl rfl ?_
      refine s_val rfl rfl (r_move) rfl ?_
      refine s_val rfl rfl (r_assign) rfl ?_
      refine s_end ?_
      refine go_seq ?_
      refine go_region 10 rfl rfl ?_
      refine s_val rfl rfl (r_move) rfl ?_
      refine s_val rfl rfl (r_addi rfl rfl (by omega)) rfl ?_
      refine s_val rfl rfl (r_move) rfl ?_
      refine s_val rfl rfl (r_addi rfl rfl (by omega)) rfl ?_
      refine s_val rfl rfl (r_remi rfl rfl (by omega) (by omega)) rfl ?_
      refine s_val rfl rfl (r_move) rfl ?_
      refine s_val rfl rfl (r_addi rfl rfl (by omega)) rfl ?_
      refine s_val rfl rfl (r_remi rfl rfl (by omega) (by omega)) rfl ?_
      refine s_val rfl rfl (r_assign) rfl ?_
      refine s_val rfl rfl (r_assign) rfl ?_
      refine s_end ?_
      refine go_seq ?_
      refine go_drawsK 17 (.take 0 (.take 1 (.take 2 (.take 3 (.take 4 (.take 5 (.take 6 (.take 7 (.take 9 (.take 10 (.take 11 (.take 12 (.take 13 (.take 14 (.take 15 (.eff 8 (.take 16 (.eff 17 (.eff 18 (.eff 19 .done)))))))))))))))))))) (by kernel_rfl) (by kernel_rfl) fun w20 c_w20 => ?_
      have hs_w20 : w16.heap.size ≤ w20.heap.size := Chg.size c_w20
      replace p6 := p6.k c_w20
      replace p10 := p10.k c_w20
      have C_w20 := Chg.pure C_w16 c_w20
      have p6_0 := p6
      have p10_0 := p10
      refine s_takeK rfl rfl (w0 := w20) (fun x_ c_ => r_move) ?_
      refine s_takeK rfl rfl (w0 := w20) (fun x_ c_ => r_indexArr (k := i) Try.runUnderlying122 Try.sizeOf119 rfl rfl (by first | rfl | omega) (by first | decide | omega)) ?_
      refine s_takeK rfl rfl (w0 := w20) (fun x_ c_ => r_load1 Try.isAgg119 rfl (Rd.at1 (p10_0.k c_).rd (ws_get (by first | omega | (simp; done) | (simp; omega))))) ?_
      refine s_takeK rfl rfl (w0 := w20) (fun x_ c_ => r_move) ?_
      refine s_takeK rfl rfl (w0 := w20) (fun x_ c_ => r_indexArr (k := (((i + 1) + r) % 16)) Try.runUnderlying122 Try.sizeOf119 rfl rfl (by first | rfl | omega) (by first | decide | omega)) ?_
      refine s_takeK rfl rfl (w0 := w20) (fun x_ c_ => r_load1 Try.isAgg119 rfl (Rd.at1 (p10_0.k c_).rd (ws_get (by first | omega | (simp; done) | (simp; omega))))) ?_
      refine s_takeK rfl rfl (w0 := w20) (fun x_ c_ => r_move) ?_
      refine s_takeK rfl rfl (w0 := w20) (fun x_ c_ => r_addi rfl rfl (by omega)) ?_
      refine s_takeK rfl rfl (w0 := w20) (fun x_ c_ => r_move) ?_
      refine s_takeK rfl rfl (w0 := w20) (fun x_ c_ => r_muli rfl rfl (by omega)) ?_
      refine s_takeK rfl rfl (w0 := w20) (fun x_ c_ => r_move) ?_
      refine s_takeK rfl rfl (w0 := w20) (fun x_ c_ => r_addi rfl rfl (by omega)) ?_
      refine s_takeK rfl rfl (w0 := w20) (fun x_ c_ => r_addi rfl rfl (by omega)) ?_
      refine s_takeK rfl rfl (w0 := w20) (fun x_ c_ => r_conv_u32 Try.runUnderlying3 Try.runUnderlying119 rfl) ?_
      refine s_takeK rfl rfl (w0 := w20) (fun x_ c_ => r_mul32 (p := 2654435769) rfl rfl) ?_
      refine s_fxK rfl rfl (w_call Try.call79 rfl (turn_spec _ _ _ (by omega) (by omega))) ?_
      rintro _ w21 ⟨rfl, c_w21⟩
      have hs_w21 : w20.heap.size ≤ w21.heap.size := Chg.size c_w21
      replace p6 := p6.k c_w21
      replace p10 := p10.k c_w21
      have C_w21 := Chg.pure C_w20 c_w21
      have K_w21 := Chg.pure (Chg.refl no w20) c_w21
      refine ⟨K_w21, ?_⟩
      refine s_takeK rfl rfl (w0 := w20) (fun x_ c_ => r_xor32 rfl rfl) ?_
      refine s_val rfl rfl (r_add32 rfl rfl) rfl ?_
      refine s_val rfl rfl (r_indexArr (k := i) Try.runUnderlying122 Try.sizeOf119 rfl rfl (by first | rfl | omega) (by first | decide | omega)) rfl ?_
      refine s_do rfl rfl (w_set_w (k := i) Try.sizeOf119 rfl rfl p10 (by first | omega | (simp; done) | (simp; omega))) rfl ?_
      rintro _ w22 ⟨q_w22, c_w22⟩
      have hs_w22 : w21.heap.size ≤ w22.heap.size := Chg.size c_w22
      replace p6 := p6.kb c_w22 (by omega)
      have C_w22 := Chg.newRng C_w21 c_w22 (by omega)
      have p10 := q_w22
      refine s_end ?_
      refine go_drawsK 7 (.take 0 (.take 1 (.take 2 (.take 3 (.take 4 (.take 5 (.eff 6 (.eff 7 (.eff 8 (.eff 9 .done)))))))))) (by kernel_rfl) (by kernel_rfl) fun w23 c_w23 => ?_
      have hs_w23 : w22.heap.size ≤ w23.heap.size := Chg.size c_w23
      replace p6 := p6.k c_w23
      replace p10 := p10.k c_w23
      have C_w23 := Chg.pure C_w22 c_w23
      have p6_0 := p6
      have p10_0 := p10
      refine s_takeK rfl rfl (w0 := w23) (fun x_ c_ => r_move) ?_
      refine s_takeK rfl rfl (w0 := w23) (fun x_ c_ => r_indexArr (k := ((i + 9) % 16)) Try.runUnderlying122 Try.sizeOf119 rfl rfl (by first | rfl | omega) (by first | decide | omega)) ?_
      refine s_takeK rfl rfl (w0 := w23) (fun x_ c_ => r_load1 Try.isAgg119 rfl (Rd.at1 (p10_0.k c_).rd (ws_get (by first | omega | (simp; done) | (simp; omega))))) ?_
      refine s_takeK rfl rfl (w0 := w23) (fun x_ c_ => r_move) ?_
      refine s_takeK rfl rfl (w0 := w23) (fun x_ c_ => r_indexArr (k := i) Try.runUnderlying122 Try.sizeOf119 rfl rfl (by first | rfl | omega) (by first | decide | omega)) ?_
      refine s_takeK rfl rfl (w0 := w23) (fun x_ c_ => r_load1 Try.isAgg119 rfl (Rd.at1 (p10_0.k c_).rd (ws_get (by first | omega | (simp; done) | (simp; omega))))) ?_
      refine s_fxK rfl rfl (w_call Try.call79 rfl (turn_spec _ _ _ (by omega) (by omega))) ?_
      rintro _ w24 ⟨rfl, c_w24⟩
      have hs_w24 : w23.heap.size ≤ w24.heap.size := Chg.size c_w24
      replace p6 := p6.k c_w24
      replace p10 := p10.k c_w24
      have C_w24 := Chg.pure C_w23 c_w24
      have K_w24 := Chg.pure (Chg.refl no w23) c_w24
      refine ⟨K_w24, ?_⟩
      refine s_val rfl rfl (r_xor32 rfl rfl) rfl ?_
      refine s_val rfl rfl (r_indexArr (k := ((i + 9) % 16)) Try.runUnderlying122 Try.sizeOf119 rfl rfl (by first | rfl | omega) (by first | decide | omega)) rfl ?_
      refine s_do rfl rfl (w_set_w (k := ((i + 9) % 16)) Try.sizeOf119 rfl rfl p10 (by first | omega | (simp; done) | (simp; omega))) rfl ?_
      rintro _ w25 ⟨q_w25, c_w25⟩
      have hs_w25 : w24.heap.size ≤ w25.heap.size := Chg.size c_w25
      replace p6 := p6.kb c_w25 (by omega)
      have C_w25 := Chg.newRng C_w24 c_w25 (by omega)
      have p10 := q_w25
      refine s_end ?_
      refine go_nil (block_normal ?_)
      refine go_region 2 rfl rfl ?_
      refine s_val rfl rfl (r_addi rfl rfl (by omega)) rfl ?_
      refine s_val rfl rfl (r_move) rfl ?_
      refine s_end ?_
      refine go_nil (loop_normal ⟨⟨(i + 1), by first | omega | (dsimp only; omega), ⟨rfl, by omega, p6, by omega, p10, by omega, C_w25⟩⟩, (by repeat (first | exact same_refl | exact same_over | refine same_upd rfl ?_ | refine same_over2 rfl ?_))⟩)
    · first | replace h2 := of_decide_eq_false h2 | replace h2 := of_decide_eq_true (nf h2) | skip
      obtain rfl : i = 16 := by omega
      refine go_exit (loop_exit (block_hit ?_))
      refine go_nil (block_normal ?_)
      refine go_region 2 rfl rfl ?_
      refine s_val rfl rfl (r_addi rfl rfl (by omega)) rfl ?_
      refine s_val rfl rfl (r_move) rfl ?_
      refine s_end ?_
      refine go_nil (loop_normal ⟨⟨(r + 1), by first | omega | (dsimp only; omega), ⟨rfl, by omega, p6, by omega, p10, by omega, C_w16⟩⟩, (by repeat (first | exact same_refl | exact same_over | refine same_upd rfl ?_ | refine same_over2 rfl ?_))⟩)
  · first | replace h := of_decide_eq_false h | replace h := of_decide_eq_true (nf h) | skip
    obtain rfl : r = 8 := by omega
    refine go_exit (loop_exit (block_hit ?_))
    refine go_seq ?_
    refine go_region 3 rfl rfl ?_
    refine s_val rfl rfl (r_loadN Try.isAgg122 Try.sizeOf122 rfl p10.rd (by first | exact ws_len (by omega) | exact ws_len (by simp; done) | exact ws_len (by simp; omega))) rfl ?_
    refine s_do rfl rfl (w_call Try.call80 rfl (octets_spec _ _ (by first | omega | (simp; done) | (simp; omega)))) rfl ?_
    rintro _ w26 ⟨rfl, c_w26⟩
    have hs_w26 : w12.heap.size ≤ w26.heap.size := Chg.size c_w26
    replace p6 := p6.k c_w26
    replace p10 := p10.k c_w26
    have C_w26 := Chg.pure C_w12 c_w26
    refine s_do rfl rfl (w_storeA Try.sizeOf90 rfl rfl (by first | exact bs_len (by omega) | exact bs_len (by simp; done) | exact bs_len (by simp; omega)) (flat_bs _) p6 (by first | exact bs_len (by omega) | exact bs_len (by simp; done) | exact bs_len (by simp; omega))) rfl ?_
    rintro _ w27 ⟨q_w27, c_w27⟩
    have hs_w27 : w26.heap.size ≤ w27.heap.size := Chg.size c_w27
    replace p10 := p10.kb c_w27 (by omega)
    have C_w27 := Chg.newRng C_w26 c_w27 (by omega)
    have p6 := q_w27
    refine s_end ?_
    refine go_ret ?_
    refine ⟨_, .cons ⟨_, rfl, run_load_agg Try.isAgg90 Try.sizeOf90 (by first | exact bs_len (by omega) | exact bs_len (by simp; done) | exact bs_len (by simp; omega)) p6.rd⟩ (.nil), ?_⟩
    exact ⟨rfl, C_w27⟩

theorem word_spec (o : List UInt8) (w : World) (hl : o.length = 4) :
    Rtn Try.prog 101 [.agg (bs o).toArray].toArray w (fun v w' => v = u32 (wordL o) ∧ Kept w w') := by
  refine fn_body (l := [.agg (bs o).toArray]) 21 [.tmp 2] Try.func101 rfl Try.ntmps101 (Nat.le_of_ble_eq_true rfl) (by rw [Try.results101]) ?_
  refine go_seq ?_
  refine go_region 2 rfl rfl ?_
  refine s_do rfl rfl (w_boxA rfl) rfl ?_
  rintro _ w1 ⟨b2, rfl, hl_b2, hu_b2, p3, c_w1⟩
  have hs_w1 : w.heap.size ≤ w1.heap.size := Chg.size c_w1
  have C_w1 := Chg.pure (Chg.refl no w) c_w1
  have hn_b2 : w.heap.size ≤ b2 := by have := Chg.size C_w1; omega
  refine s_val rfl rfl (r_assign) rfl ?_
  refine s_end ?_
  refine go_seq ?_
  refine go_region 19 rfl rfl ?_
  refine s_val rfl rfl (r_indexArr (k := 0) Try.runUnderlying147 Try.sizeOf5 rfl rfl (by first | rfl | omega) (by first | decide | omega)) rfl ?_
  refine s_val rfl rfl (r_load1 Try.isAgg5 rfl (Rd.at1 p3.rd (bs_get (by first | omega | (simp; done) | (simp; omega))))) rfl ?_
  refine s_val rfl rfl (r_conv_u32 Try.runUnderlying5 Try.runUnderlying119 rfl) rfl ?_
  refine s_val rfl rfl (r_shl32 rfl rfl (by omega)) rfl ?_
  refine s_val rfl rfl (r_indexArr (k := 1) Try.runUnderlying147 Try.sizeOf5 rfl rfl (by first | rfl | omega) (by first | decide | omega)) rfl ?_
  refine s_val rfl rfl (r_load1 Try.isAgg5 rfl (Rd.at1 p3.rd (bs_get (by first | omega | (simp; done) | (simp; omega))))) rfl ?_
  refine s_val rfl rfl (r_conv_u32 Try.runUnderlying5 Try.runUnderlying119 rfl) rfl ?_
  refine s_val rfl rfl (r_shl32 rfl rfl (by omega)) rfl ?_
  refine s_val rfl rfl (r_or32 rfl rfl) rfl ?_
  refine s_val rfl rfl (r_indexArr (k := 2) Try.runUnderlying147 Try.sizeOf5 rfl rfl (by first | rfl | omega) (by first | decide | omega)) rfl ?_
  refine s_val rfl rfl (r_load1 Try.isAgg5 rfl (Rd.at1 p3.rd (bs_get (by first | omega | (simp; done) | (simp; omega))))) rfl ?_
  refine s_val rfl rfl (r_conv_u32 Try.runUnderlying5 Try.runUnderlying119 rfl) rfl ?_
  refine s_val rfl rfl (r_shl32 rfl rfl (by omega)) rfl ?_
  refine s_val rfl rfl (r_or32 rfl rfl) rfl ?_
  refine s_val rfl rfl (r_indexArr (k := 3) Try.runUnderlying147 Try.sizeOf5 rfl rfl (by first | rfl | omega) (by first | decide | omega)) rfl ?_
  refine s_val rfl rfl (r_load1 Try.isAgg5 rfl (Rd.at1 p3.rd (bs_get (by first | omega | (simp; done) | (simp; omega))))) rfl ?_
  refine s_val rfl rfl (r_conv_u32 Try.runUnderlying5 Try.runUnderlying119 rfl) rfl ?_
  refine s_val rfl rfl (r_or32 rfl rfl) rfl ?_
  refine s_val rfl rfl (r_assign) rfl ?_
  refine s_end ?_
  refine go_ret ?_
  refine ⟨_, .cons rfl (.nil), ?_⟩
  exact ⟨rfl, C_w1⟩

theorem oct4_spec (n : UInt32) (w : World) :
    Rtn Try.prog 95 [u32 n].toArray w (fun v w' => v = .agg (bs (oct4 n)).toArray ∧ Kept w w') := by
  refine fn_body (l := [u32 n]) 15 [.cell 2 147] Try.func95 rfl Try.ntmps95 (Nat.le_of_ble_eq_true rfl) (by rw [Try.results95]) ?_
  refine go_seq ?_
  refine go_region 1 rfl rfl ?_
  refine s_do rfl rfl (w_alloc (bs (List.replicate 4 0)) Try.zeroValue147 (by kernel_rfl)) rfl ?_
  rintro _ w1 ⟨b2, rfl, hl_b2, hu_b2, p3, c_w1⟩
  have hs_w1 : w.heap.size ≤ w1.heap.size := Chg.size c_w1
  have C_w1 := Chg.pure (Chg.refl no w) c_w1
  have hn_b2 : w.heap.size ≤ b2 := by have := Chg.size C_w1; omega
  refine s_end ?_
  refine go_seq ?_
  refine go_region 13 rfl rfl ?_
  refine s_val rfl rfl (r_move) rfl ?_
  refine s_val rfl rfl (r_shr32 rfl rfl (by omega)) rfl ?_
  refine s_val rfl rfl (r_conv_u8 Try.runUnderlying119 Try.runUnderlying5 rfl) rfl ?_
  refine s_val rfl rfl (r_move) rfl ?_
  refine s_val rfl rfl (r_shr32 rfl rfl (by omega)) rfl ?_
  refine s_val rfl rfl (r_conv_u8 Try.runUnderlying119 Try.runUnderlying5 rfl) rfl ?_
  refine s_val rfl rfl (r_move) rfl ?_
  refine s_val rfl rfl (r_shr32 rfl rfl (by omega)) rfl ?_
  refine s_val rfl rfl (r_conv_u8 Try.runUnderlying119 Try.runUnderlying5 rfl) rfl ?_
  refine s_val rfl rfl (r_move) rfl ?_
  refine s_val rfl rfl (r_conv_u8 Try.runUnderlying119 Try.runUnderlying5 rfl) rfl ?_
  refine s_val rfl rfl (r_buildB Try.zeroValue147 rfl Try.runUnderlying147 Try.sizeOf5 rfl (.c (.c (.c (.c .n))))) rfl ?_
  refine s_do rfl rfl (w_storeA Try.sizeOf147 rfl rfl (by first | exact bs_len (by omega) | exact bs_len (by simp; done) | exact bs_len (by simp; omega)) (flat_bs _) p3 (by first | exact bs_len (by omega) | exact bs_len (by simp; done) | exact bs_len (by simp; omega))) rfl ?_
  rintro _ w4 ⟨q_w4, c_w4⟩
  have hs_w4 : w1.heap.size ≤ w4.heap.size := Chg.size c_w4
  have C_w4 := Chg.newRng C_w1 c_w4 (by omega)
  have p3 := q_w4
  refine s_end ?_
  refine go_ret ?_
  refine ⟨_, .cons ⟨_, rfl, run_load_agg Try.isAgg147 Try.sizeOf147 (by first | exact bs_len (by omega) | exact bs_len (by simp; done) | exact bs_len (by simp; omega)) p3.rd⟩ (.nil), ?_⟩
  exact ⟨rfl, C_w4⟩

theorem oct8_spec (n : UInt64) (w : World) :
    Rtn Try.prog 92 [u64 n].toArray w (fun v w' => v = .agg (bs (oct8 n)).toArray ∧ Kept w w') := by
  refine fn_body (l := [u64 n]) 29 [.cell 2 140] Try.func92 rfl Try.ntmps92 (Nat.le_of_ble_eq_true rfl) (by rw [Try.results92]) ?_
  refine go_seq ?_
  refine go_region 1 rfl rfl ?_
  refine s_do rfl rfl (w_alloc (bs (List.replicate 8 0)) Try.zeroValue140 (by kernel_rfl)) rfl ?_
  rintro _ w1 ⟨b2, rfl, hl_b2, hu_b2, p3, c_w1⟩
  have hs_w1 : w.heap.size ≤ w1.heap.size := Chg.size c_w1
  have C_w1 := Chg.pure (Chg.refl no w) c_w1
  have hn_b2 : w.heap.size ≤ b2 := by have := Chg.size C_w1; omega
  refine s_end ?_
  refine go_seq ?_
  refine go_region 11 rfl rfl ?_
  refine s_val rfl rfl (r_move) rfl ?_
  refine s_val rfl rfl (r_shr64 rfl rfl (by omega)) rfl ?_
  refine s_val rfl rfl (r_conv_u32 Try.runUnderlying121 Try.runUnderlying119 rfl) rfl ?_
  refine s_do rfl rfl (w_call Try.call95 rfl (oct4_spec _ _)) rfl ?_
  rintro _ w4 ⟨rfl, c_w4⟩
  have hs_w4 : w1.heap.size ≤ w4.heap.size := Chg.size c_w4
  replace p3 := p3.k c_w4
  have C_w4 := Chg.pure C_w1 c_w4
  refine s_val rfl rfl (r_move) rfl ?_
  refine s_val rfl rfl (r_conv_u32 Try.runUnderlying121 Try.runUnderlying119 rfl) rfl ?_
  refine s_do rfl rfl (w_call Try.call95 rfl (oct4_spec _ _)) rfl ?_
  rintro _ w5 ⟨rfl, c_w5⟩
  have hs_w5 : w4.heap.size ≤ w5.heap.size := Chg.size c_w5
  replace p3 := p3.k c_w5
  have C_w5 := Chg.pure C_w4 c_w5
  refine s_do rfl rfl (w_alloc (bs (List.replicate 4 0)) Try.zeroValue147 (by kernel_rfl)) rfl ?_
  rintro _ w6 ⟨b7, rfl, hl_b7, hu_b7, p8, c_w6⟩
  have hs_w6 : w5.heap.size ≤ w6.heap.size := Chg.size c_w6
  replace p3 := p3.k c_w6
  have C_w6 := Chg.pure C_w5 c_w6
  have hn_b7 : w.heap.size ≤ b7 := by have := Chg.size C_w6; omega
  refine s_do rfl rfl (w_alloc (bs (List.replicate 4 0)) Try.zeroValue147 (by kernel_rfl)) rfl ?_
  rintro _ w9 ⟨b10, rfl, hl_b10, hu_b10, p11, c_w9⟩
  have hs_w9 : w6.heap.size ≤ w9.heap.size := Chg.size c_w9
  replace p3 := p3.k c_w9
  replace p8 := p8.k c_w9
  have C_w9 := Chg.pure C_w6 c_w9
  have hn_b10 : w.heap.size ≤ b10 := by have := Chg.size C_w9; omega
  refine s_do rfl rfl (w_storeA Try.sizeOf147 rfl rfl (by first | exact bs_len (by omega) | exact bs_len (by simp; done) | exact bs_len (by simp; omega)) (flat_bs _) p8 (by first | exact bs_len (by omega) | exact bs_len (by simp; done) | exact bs_len (by simp; omega))) rfl ?_
  rintro _ w12 ⟨q_w12, c_w12⟩
  have hs_w12 : w9.heap.size ≤ w12.heap.size := Chg.size c_w12
  replace p3 := p3.kb c_w12 (by omega)
  replace p11 := p11.kb c_w12 (by omega)
  have C_w12 := Chg.newRng C_w9 c_w12 (by omega)
  have p8 := q_w12
  refine s_do rfl rfl (w_storeA Try.sizeOf147 rfl rfl (by first | exact bs_len (by omega) | exact bs_len (by simp; done) | exact bs_len (by simp; omega)) (flat_bs _) p11 (by first | exact bs_len (by omega) | exact bs_len (by simp; done) | exact bs_len (by simp; omega))) rfl ?_
  rintro _ w13 ⟨q_w13, c_w13⟩
  have hs_w13 : w12.heap.size ≤ w13.heap.size := Chg.size c_w13
  replace p3 := p3.kb c_w13 (by omega)
  replace p8 := p8.kb c_w13 (by omega)
  have C_w13 := Chg.newRng C_w12 c_w13 (by omega)
  have p11 := q_w13
  refine s_end ?_
  refine go_seq ?_
  refine go_region 18 rfl rfl ?_
  refine s_val rfl rfl (r_indexArr (k := 0) Try.runUnderlying147 Try.sizeOf5 rfl rfl (by first | rfl | omega) (by first | decide | omega)) rfl ?_
  refine s_val rfl rfl (r_load1 Try.isAgg5 rfl (Rd.at1 p8.rd (bs_get (by first | omega | (simp; done) | (simp; omega))))) rfl ?_
  refine s_val rfl rfl (r_indexArr (k := 1) Try.runUnderlying147 Try.sizeOf5 rfl rfl (by first | rfl | omega) (by first | decide | omega)) rfl ?_
  refine s_val rfl rfl (r_load1 Try.isAgg5 rfl (Rd.at1 p8.rd (bs_get (by first | omega | (simp; done) | (simp; omega))))) rfl ?_
  refine s_val rfl rfl (r_indexArr (k := 2) Try.runUnderlying147 Try.sizeOf5 rfl rfl (by first | rfl | omega) (by first | decide | omega)) rfl ?_
  refine s_val rfl rfl (r_load1 Try.isAgg5 rfl (Rd.at1 p8.rd (bs_get (by first | omega | (simp; done) | (simp; omega))))) rfl ?_
  refine s_val rfl rfl (r_indexArr (k := 3) Try.runUnderlying147 Try.sizeOf5 rfl rfl (by first | rfl | omega) (by first | decide | omega)) rfl ?_
  refine s_val rfl rfl (r_load1 Try.isAgg5 rfl (Rd.at1 p8.rd (bs_get (by first | omega | (simp; done) | (simp; omega))))) rfl ?_
  refine s_val rfl rfl (r_indexArr (k := 0) Try.runUnderlying147 Try.sizeOf5 rfl rfl (by first | rfl | omega) (by first | decide | omega)) rfl ?_
  refine s_val rfl rfl (r_load1 Try.isAgg5 rfl (Rd.at1 p11.rd (bs_get (by first | omega | (simp; done) | (simp; omega))))) rfl ?_
  refine s_val rfl rfl (r_indexArr (k := 1) Try.runUnderlying147 Try.sizeOf5 rfl rfl (by first | rfl | omega) (by first | decide | omega)) rfl ?_
  refine s_val rfl rfl (r_load1 Try.isAgg5 rfl (Rd.at1 p11.rd (bs_get (by first | omega | (simp; done) | (simp; omega))))) rfl ?_
  refine s_val rfl rfl (r_indexArr (k := 2) Try.runUnderlying147 Try.sizeOf5 rfl rfl (by first | rfl | omega) (by first | decide | omega)) rfl ?_
  refine s_val rfl rfl (r_load1 Try.isAgg5 rfl (Rd.at1 p11.rd (bs_get (by first | omega | (simp; done) | (simp; omega))))) rfl ?_
  refine s_val rfl rfl (r_indexArr (k := 3) Try.runUnderlying147 Try.sizeOf5 rfl rfl (by first | rfl | omega) (by first | decide | omega)) rfl ?_
  refine s_val rfl rfl (r_load1 Try.isAgg5 rfl (Rd.at1 p11.rd (bs_get (by first | omega | (simp; done) | (simp; omega))))) rfl ?_
  refine s_val rfl rfl (r_buildB Try.zeroValue140 rfl Try.runUnderlying140 Try.sizeOf5 rfl (.c (.c (.c (.c (.c (.c (.c (.c .n))))))))) rfl ?_
  refine s_do rfl rfl (w_storeA Try.sizeOf140 rfl rfl (by first | exact bs_len (by omega) | exact bs_len (by simp; done) | exact bs_len (by simp; omega)) (flat_bs _) p3 (by first | exact bs_len (by omega) | exact bs_len (by simp; done) | exact bs_len (by simp; omega))) rfl ?_
  rintro _ w14 ⟨q_w14, c_w14⟩
  have hs_w14 : w13.heap.size ≤ w14.heap.size := Chg.size c_w14
  replace p8 := p8.kb c_w14 (by omega)
  replace p11 := p11.kb c_w14 (by omega)
  have C_w14 := Chg.newRng C_w13 c_w14 (by omega)
  have p3 := q_w14
  refine s_end ?_
  refine go_ret ?_
  refine ⟨_, .cons ⟨_, rfl, run_load_agg Try.isAgg140 Try.sizeOf140 (by first | exact bs_len (by omega) | exact bs_len (by simp; done) | exact bs_len (by simp; omega)) p3.rd⟩ (.nil), ?_⟩
  exact ⟨rfl, C_w14⟩

theorem rotB_spec (x : UInt32) (k : Int) (w : World) :
    Rtn Try.prog 99 [u32 x, i64 k].toArray w (fun v w' => v = u32 (rotB x k) ∧ Kept w w') := by
  refine fn_body (l := [u32 x, i64 k]) 17 [.tmp 4] Try.func99 rfl Try.ntmps99 (Nat.le_of_ble_eq_true rfl) (by rw [Try.results99]) ?_
  refine go_seq ?_
  refine go_region 1 rfl rfl ?_
  refine s_val rfl rfl (r_assign) rfl ?_
  refine s_end ?_
  refine go_seq ?_
  refine go_region 4 rfl rfl ?_
  refine s_val rfl rfl (r_move) rfl ?_
  refine s_val rfl rfl (r_conv_u64 Try.runUnderlying3 Try.runUnderlying47 rfl) rfl ?_
  refine s_val rfl rfl (r_and64 (q := 31) rfl rfl) rfl ?_
  refine s_val rfl rfl (r_assign) rfl ?_
  refine s_end ?_
  refine go_seq ?_
  refine go_region 9 rfl rfl ?_
  refine s_val rfl rfl (r_move) rfl ?_
  refine s_val rfl rfl (r_move) rfl ?_
  refine s_val rfl rfl (r_shl32 rfl rfl (by omega)) rfl ?_
  refine s_val rfl rfl (r_move) rfl ?_
  refine s_val rfl rfl (r_move) rfl ?_
  refine s_val rfl rfl (r_sub64 (p := 32) rfl rfl) rfl ?_
  refine s_val rfl rfl (r_shr32 rfl rfl (by omega)) rfl ?_
  refine s_val rfl rfl (r_or32 rfl rfl) rfl ?_
  refine s_val rfl rfl (r_assign) rfl ?_
  refine s_end ?_
  refine go_ret ?_
  refine ⟨_, .cons rfl (.nil), ?_⟩
  exact ⟨rfl, (Chg.refl no w)⟩

theorem turnB_spec (W : List UInt32) (b : Nat) (r i : Int) (w : World) (hl : W.length = 16) (hp : Pc w b 0 (ws W)) (hr : 0 ≤ r) (hr2 : r ≤ 100) (hi : 0 ≤ i) (hi2 : i ≤ 100) :
    Rtn Try.prog 98 [.pointer (some ⟨b, 0, none⟩), i64 r, i64 i].toArray w (fun v w' => v = u32 (turnB W r.toNat i.toNat) ∧ Kept w w') := by
  obtain ⟨r, rfl⟩ := Int.eq_ofNat_of_zero_le hr
  obtain ⟨i, rfl⟩ := Int.eq_ofNat_of_zero_le hi
  simp only [Int.toNat_natCast]
  refine fn_body (l := [.pointer (some ⟨b, 0, none⟩), i64 r, i64 i]) 28 [.tmp 6] Try.func98 rfl Try.ntmps98 (Nat.le_of_ble_eq_true rfl) (by rw [Try.results98]) ?_
  refine go_seq ?_
  refine go_region 1 rfl rfl ?_
  refine s_val rfl rfl (r_assign) rfl ?_
  refine s_end ?_
  refine go_seq ?_
  refine go_region 22 rfl rfl ?_
  refine s_val rfl rfl (r_move) rfl ?_
  refine s_val rfl rfl (r_move) rfl ?_
  refine s_val rfl rfl (r_addi rfl rfl (by omega)) rfl ?_
  refine s_val rfl rfl (r_move) rfl ?_
  refine s_val rfl rfl (r_addi rfl rfl (by omega)) rfl ?_
  refine s_val rfl rfl (r_remi rfl rfl (by omega) (by omega)) rfl ?_
  refine s_val rfl rfl (r_nilCheck rfl) rfl ?_
  refine s_val rfl rfl (r_indexArr (k := (((i + 1) + r) % 16)) Try.runUnderlying122 Try.sizeOf119 rfl rfl (by first | rfl | omega) (by first | decide | omega)) rfl ?_
  refine s_val rfl rfl (r_load1 Try.isAgg119 rfl (Rd.at1 (hp.k (Chg.refl no w)).rd (ws_get (by first | omega | (simp; done) | (simp; omega))))) rfl ?_
  refine s_val rfl rfl (r_move) rfl ?_
  refine s_val rfl rfl (r_addi rfl rfl (by omega)) rfl ?_
  refine s_do rfl rfl (w_call Try.call99 rfl (rotB_spec _ _ _)) rfl ?_
  rintro _ w1 ⟨rfl, c_w1⟩
  have hs_w1 : w.heap.size ≤ w1.heap.size := Chg.size c_w1
  have C_w1 := Chg.pure (Chg.refl no w) c_w1
  refine s_val rfl rfl (r_move) rfl ?_
  refine s_val rfl rfl (r_muli rfl rfl (by omega)) rfl ?_
  refine s_val rfl rfl (r_move) rfl ?_
  refine s_val rfl rfl (r_addi rfl rfl (by omega)) rfl ?_
  refine s_val rfl rfl (r_addi rfl rfl (by omega)) rfl ?_
  refine s_val rfl rfl (r_conv_u64 Try.runUnderlying3 Try.runUnderlying121 rfl) rfl ?_
  refine s_val rfl rfl (r_mul64 (p := 2654435769) rfl rfl) rfl ?_
  refine s_val rfl rfl (r_conv_u32 Try.runUnderlying121 Try.runUnderlying119 rfl) rfl ?_
  refine s_val rfl rfl (r_xor32 rfl rfl) rfl ?_
  refine s_val rfl rfl (r_assign) rfl ?_
  refine s_end ?_
  refine go_ret ?_
  refine ⟨_, .cons rfl (.nil), ?_⟩
  exact ⟨rfl, C_w1⟩

theorem wordsB_spec (s : List UInt8) (w : World) (hl : s.length = 64) :
    Rtn Try.prog 97 [.agg (bs s).toArray].toArray w (fun v w' => v = .agg (ws (wordsBTo s 16)).toArray ∧ Kept w w') := by
  refine fn_body (l := [.agg (bs s).toArray]) 21 [.cell 2 122] Try.func97 rfl Try.ntmps97 (Nat.le_of_ble_eq_true rfl) (by rw [Try.results97]) ?_
  refine go_seq ?_
  refine go_region 2 rfl rfl ?_
  refine s_do rfl rfl (w_boxA rfl) rfl ?_
  rintro _ w1 ⟨b2, rfl, hl_b2, hu_b2, p3, c_w1⟩
  have hs_w1 : w.heap.size ≤ w1.heap.size := Chg.size c_w1
  have C_w1 := Chg.pure (Chg.refl no w) c_w1
  have hn_b2 : w.heap.size ≤ b2 := by have := Chg.size C_w1; omega
  refine s_do rfl rfl (w_alloc (ws (List.replicate 16 0)) Try.zeroValue122 (by kernel_rfl)) rfl ?_
  rintro _ w4 ⟨b5, rfl, hl_b5, hu_b5, p6, c_w4⟩
  have hs_w4 : w1.heap.size ≤ w4.heap.size := Chg.size c_w4
  replace p3 := p3.k c_w4
  have C_w4 := Chg.pure C_w1 c_w4
  have hn_b5 : w.heap.size ≤ b5 := by have := Chg.size C_w4; omega
  refine s_end ?_
  refine go_seq ?_
  refine go_region 1 rfl rfl ?_
  refine s_do rfl rfl (w_alloc (ws (List.replicate 16 0)) Try.zeroValue122 (by kernel_rfl)) rfl ?_
  rintro _ w7 ⟨b8, rfl, hl_b8, hu_b8, p9, c_w7⟩
  have hs_w7 : w4.heap.size ≤ w7.heap.size := Chg.size c_w7
  replace p3 := p3.k c_w7
  replace p6 := p6.k c_w7
  have C_w7 := Chg.pure C_w4 c_w7
  have hn_b8 : w.heap.size ≤ b8 := by have := Chg.size C_w7; omega
  refine s_end ?_
  refine go_seq ?_
  refine go_seq ?_
  refine go_region 1 rfl rfl ?_
  refine s_val rfl rfl (r_move) rfl ?_
  refine s_end ?_
  refine go_block ?_
  refine go_loopM (σ := Nat) [(4, 19)] (fun (k : Nat) e' w' => e' 5 = i64 (k : Nat) ∧ k ≤ 16 ∧ Pc w' b2 0 (bs s) ∧ b2 < w'.heap.size ∧ Pc w' b5 0 (ws (List.replicate 16 0)) ∧ b5 < w'.heap.size ∧ Pc w' b8 0 (ws (wordsBTo s k)) ∧ b8 < w'.heap.size ∧ Chg no w w') (fun (k : Nat) => 16 - k) 0 ?_ ?_
  · exact ⟨rfl, by omega, p3, by omega, p6, by omega, p9, by omega, C_w7⟩
  rintro k f11 w10 ⟨e12, hk, p3, hu_b2, p6, hu_b5, p9, hu_b8, C_w10⟩
  obtain ⟨f13, rfl⟩ : ∃ g_, f11 = upd g_ 5 (i64 (k : Nat)) := ⟨f11, upd_id e12⟩
  have hs_w10 : w.heap.size ≤ w10.heap.size := Chg.size C_w10
  refine go_seq ?_
  refine go_region 1 rfl rfl ?_
  refine s_val rfl rfl (r_lss rfl rfl) rfl ?_
  refine s_end ?_
  refine go_seq ?_
  refine go_ifb _ rfl (fun h => ?_) (fun h => ?_)
  · first | replace h := of_decide_eq_true h | replace h := of_decide_eq_false (nt h) | skip
    refine go_skip ?_
    refine go_seq ?_
    refine go_block ?_
    refine go_seq ?_
    refine go_region 2 rfl rfl ?_
    refine s_val rfl rfl (r_move) rfl ?_
    refine s_val rfl rfl (r_assign) rfl ?_
    refine s_end ?_
    refine go_region 12 rfl rfl ?_
    refine s_val rfl rfl (r_move) rfl ?_
    refine s_val rfl rfl (r_move) rfl ?_
    refine s_val rfl rfl (r_muli rfl rfl (by omega)) rfl ?_
    refine s_val rfl rfl (r_move) rfl ?_
    refine s_val rfl rfl (r_muli rfl rfl (by omega)) rfl ?_
    refine s_val rfl rfl (r_addi rfl rfl (by omega)) rfl ?_
    refine s_val rfl rfl (r_sliceA (l := (4 * k)) (h := ((4 * k) + 4)) (m := 64) Try.runUnderlying90 Try.sizeOf5 rfl ⟨_, _, rfl, by first | rfl | omega⟩ ⟨_, _, rfl, by first | rfl | omega⟩ rfl (by first | decide | (intro h_; cases h_)) (by first | decide | omega) (by first | decide | omega | (intro _; omega)) (by first | decide | omega) (by first | decide | omega)) rfl ?_
    refine s_val rfl rfl (r_toArr Try.runUnderlying147 rfl (by first | decide | omega)) rfl ?_
    refine s_val rfl rfl (r_loadN Try.isAgg147 Try.sizeOf147 rfl (Rd.subB p3.rd (4 * k) 4) (bs_len (by simp; omega))) rfl ?_
    refine s_do rfl rfl (w_call Try.call101 rfl (word_spec _ _ (by first | omega | (simp; done) | (simp; omega)))) rfl ?_
    rintro _ w14 ⟨rfl, c_w14⟩
    have hs_w14 : w10.heap.size ≤ w14.heap.size := Chg.size c_w14
    replace p3 := p3.k c_w14
    replace p6 := p6.k c_w14
    replace p9 := p9.k c_w14
    have C_w14 := Chg.pure C_w10 c_w14
    refine s_val rfl rfl (r_indexArr (k := k) Try.runUnderlying122 Try.sizeOf119 rfl rfl (by first | rfl | omega) (by first | decide | omega)) rfl ?_
    refine s_do rfl rfl (w_set_w (k := k) Try.sizeOf119 rfl rfl p9 (by first | omega | (simp; done) | (simp; omega))) rfl ?_
    rintro _ w15 ⟨q_w15, c_w15⟩
    have hs_w15 : w14.heap.size ≤ w15.heap.size := Chg.size c_w15
    replace p3 := p3.kb c_w15 (by omega)
    replace p6 := p6.kb c_w15 (by omega)
    have C_w15 := Chg.newRng C_w14 c_w15 (by omega)
    have p9 := q_w15
    refine s_end ?_
    refine go_nil (block_normal ?_)
    refine go_region 2 rfl rfl ?_
    refine s_val rfl rfl (r_addi rfl rfl (by omega)) rfl ?_
    refine s_val rfl rfl (r_move) rfl ?_
    refine s_end ?_
    refine go_nil (loop_normal ⟨⟨(k + 1), by first | omega | (dsimp only; omega), ⟨rfl, by omega, p3, by omega, p6, by omega, p9, by omega, C_w15⟩⟩, (by repeat (first | exact same_refl | exact same_over | refine same_upd rfl ?_ | refine same_over2 rfl ?_))⟩)
  · first | replace h := of_decide_eq_false h | replace h := of_decide_eq_true (nf h) | skip
    obtain rfl : k = 16 := by omega
    refine go_exit (loop_exit (block_hit ?_))
    refine go_seq ?_
    refine go_region 2 rfl rfl ?_
    refine s_val rfl rfl (r_loadN Try.isAgg122 Try.sizeOf122 rfl p9.rd (by first | exact ws_len (by omega) | exact ws_len (by simp; done) | exact ws_len (by simp; omega))) rfl ?_
    refine s_do rfl rfl (w_storeA Try.sizeOf122 rfl rfl (by first | exact ws_len (by omega) | exact ws_len (by simp; done) | exact ws_len (by simp; omega)) (flat_ws _) p6 (by first | exact ws_len (by omega) | exact ws_len (by simp; done) | exact ws_len (by simp; omega))) rfl ?_
    rintro _ w16 ⟨q_w16, c_w16⟩
    have hs_w16 : w10.heap.size ≤ w16.heap.size := Chg.size c_w16
    replace p3 := p3.kb c_w16 (by omega)
    replace p9 := p9.kb c_w16 (by omega)
    have C_w16 := Chg.newRng C_w10 c_w16 (by omega)
    have p6 := q_w16
    refine s_end ?_
    refine go_ret ?_
    refine ⟨_, .cons ⟨_, rfl, run_load_agg Try.isAgg122 Try.sizeOf122 (by first | exact ws_len (by omega) | exact ws_len (by simp; done) | exact ws_len (by simp; omega)) p6.rd⟩ (.nil), ?_⟩
    exact ⟨rfl, C_w16⟩

theorem stateB_spec (W : List UInt32) (w : World) (hl : W.length = 16) :
    Rtn Try.prog 100 [.agg (ws W).toArray].toArray w (fun v w' => v = .agg (bs (stateBTo W 16)).toArray ∧ Kept w w') := by
  refine fn_body (l := [.agg (ws W).toArray]) 21 [.cell 2 90] Try.func100 rfl Try.ntmps100 (Nat.le_of_ble_eq_true rfl) (by rw [Try.results100]) ?_
  refine go_seq ?_
  refine go_region 2 rfl rfl ?_
  refine s_do rfl rfl (w_boxA rfl) rfl ?_
  rintro _ w1 ⟨b2, rfl, hl_b2, hu_b2, p3, c_w1⟩
  have hs_w1 : w.heap.size ≤ w1.heap.size := Chg.size c_w1
  have C_w1 := Chg.pure (Chg.refl no w) c_w1
  have hn_b2 : w.heap.size ≤ b2 := by have := Chg.size C_w1; omega
  refine s_do rfl rfl (w_alloc (bs (List.replicate 64 0)) Try.zeroValue90 (by kernel_rfl)) rfl ?_
  rintro _ w4 ⟨b5, rfl, hl_b5, hu_b5, p6, c_w4⟩
  have hs_w4 : w1.heap.size ≤ w4.heap.size := Chg.size c_w4
  replace p3 := p3.k c_w4
  have C_w4 := Chg.pure C_w1 c_w4
  have hn_b5 : w.heap.size ≤ b5 := by have := Chg.size C_w4; omega
  refine s_end ?_
  refine go_seq ?_
  refine go_region 1 rfl rfl ?_
  refine s_do rfl rfl (w_alloc (bs (List.replicate 64 0)) Try.zeroValue90 (by kernel_rfl)) rfl ?_
  rintro _ w7 ⟨b8, rfl, hl_b8, hu_b8, p9, c_w7⟩
  have hs_w7 : w4.heap.size ≤ w7.heap.size := Chg.size c_w7
  replace p3 := p3.k c_w7
  replace p6 := p6.k c_w7
  have C_w7 := Chg.pure C_w4 c_w7
  have hn_b8 : w.heap.size ≤ b8 := by have := Chg.size C_w7; omega
  refine s_end ?_
  refine go_seq ?_
  refine go_seq ?_
  refine go_region 2 rfl rfl ?_
  refine s_val rfl rfl (r_loadN Try.isAgg122 Try.sizeOf122 rfl p3.rd (by first | exact ws_len (by omega) | exact ws_len (by simp; done) | exact ws_len (by simp; omega))) rfl ?_
  refine s_val rfl rfl (r_move) rfl ?_
  refine s_end ?_
  refine go_block ?_
  refine go_loopM (σ := Nat) [(4, 6), (8, 19)] (fun (k : Nat) e' w' => e' 8 = i64 (k : Nat) ∧ k ≤ 16 ∧ Pc w' b5 0 (bs (List.replicate 64 0)) ∧ b5 < w'.heap.size ∧ Pc w' b8 0 (bs (stateBTo W k)) ∧ b8 < w'.heap.size ∧ Chg no w w') (fun (k : Nat) => 16 - k) 0 ?_ ?_
  · exact ⟨rfl, by omega, p6, by omega, p9, by omega, C_w7⟩
  rintro k f11 w10 ⟨e12, hk, p6, hu_b5, p9, hu_b8, C_w10⟩
  obtain ⟨f13, rfl⟩ : ∃ g_, f11 = upd g_ 8 (i64 (k : Nat)) := ⟨f11, upd_id e12⟩
  have hs_w10 : w.heap.size ≤ w10.heap.size := Chg.size C_w10
  have hw := stateBTo_length W k hk
  refine go_seq ?_
  refine go_region 1 rfl rfl ?_
  refine s_val rfl rfl (r_lss rfl rfl) rfl ?_
  refine s_end ?_
  refine go_seq ?_
  refine go_ifb _ rfl (fun h => ?_) (fun h => ?_)
  · first | replace h := of_decide_eq_true h | replace h := of_decide_eq_false (nt h) | skip
    refine go_skip ?_
    refine go_seq ?_
    refine go_block ?_
    refine go_seq ?_
    refine go_region 4 rfl rfl ?_
    refine s_val rfl rfl (r_move) rfl ?_
    refine s_val rfl rfl (r_indexAgg (k := k) Try.runUnderlying122 Try.isAgg119 Try.sizeOf119 rfl rfl (by first | rfl | omega) (by first | decide | omega) (ws_get (by first | omega | (simp; done) | (simp; omega)))) rfl ?_
    refine s_val rfl rfl (r_assign) rfl ?_
    refine s_val rfl rfl (r_assign) rfl ?_
    refine s_end ?_
    refine go_seq ?_
    refine go_region 4 rfl rfl ?_
    refine s_val rfl rfl (r_move) rfl ?_
    refine s_do rfl rfl (w_call Try.call95 rfl (oct4_spec _ _)) rfl ?_
    rintro _ w14 ⟨rfl, c_w14⟩
    have hs_w14 : w10.heap.size ≤ w14.heap.size := Chg.size c_w14
    replace p6 := p6.k c_w14
    replace p9 := p9.k c_w14
    have C_w14 := Chg.pure C_w10 c_w14
    refine s_do rfl rfl (w_alloc (bs (List.replicate 4 0)) Try.zeroValue147 (by kernel_rfl)) rfl ?_
    rintro _ w15 ⟨b16, rfl, hl_b16, hu_b16, p17, c_w15⟩
    have hs_w15 : w14.heap.size ≤ w15.heap.size := Chg.size c_w15
    replace p6 := p6.k c_w15
    replace p9 := p9.k c_w15
    have C_w15 := Chg.pure C_w14 c_w15
    have hn_b16 : w.heap.size ≤ b16 := by have := Chg.size C_w15; omega
    refine s_do rfl rfl (w_storeA Try.sizeOf147 rfl rfl (by first | exact bs_len (by omega) | exact bs_len (by simp; done) | exact bs_len (by simp; omega)) (flat_bs _) p17 (by first | exact bs_len (by omega) | exact bs_len (by simp; done) | exact bs_len (by simp; omega))) rfl ?_
    rintro _ w18 ⟨q_w18, c_w18⟩
    have hs_w18 : w15.heap.size ≤ w18.heap.size := Chg.size c_w18
    replace p6 := p6.kb c_w18 (by omega)
    replace p9 := p9.kb c_w18 (by omega)
    have C_w18 := Chg.newRng C_w15 c_w18 (by omega)
    have p17 := q_w18
    refine s_end ?_
    refine go_drawsE 4 (.take 0 (.take 1 (.take 2 (.take 3 (.eff 4 .done))))) (by kernel_rfl) (by kernel_rfl) fun w19 c_w19 => ?_
    have hs_w19 : w18.heap.size ≤ w19.heap.size := Chg.size c_w19
    replace p6 := p6.k c_w19
    replace p9 := p9.k c_w19
    replace p17 := p17.k c_w19
    have C_w19 := Chg.pure C_w18 c_w19
    refine s_takeE rfl rfl (r_move) ?_
    refine s_takeE rfl rfl (r_muli rfl rfl (by omega)) ?_
    refine s_takeE rfl rfl (r_sliceA (l := (4 * k)) (h := 64) (m := 64) Try.runUnderlying90 Try.sizeOf5 rfl ⟨_, _, rfl, by first | rfl | omega⟩ rfl rfl (by first | decide | (intro h_; cases h_)) (by first | decide | omega) (by first | decide | omega | (intro _; omega)) (by first | decide | omega) (by first | decide | omega)) ?_
    refine s_takeE rfl rfl (r_sliceA (l := 0) (h := 4) (m := 4) Try.runUnderlying147 Try.sizeOf5 rfl rfl rfl rfl (by first | decide | (intro h_; cases h_)) (by first | decide | omega) (by first | decide | omega | (intro _; omega)) (by first | decide | omega) (by first | decide | omega)) ?_
    refine s_do rfl rfl (w_copy_b (lo := (4 * k)) Try.underlying22 (by kernel_rfl) rfl rfl p9 (by first | omega | (simp; done) | (simp; omega)) (SlAt.some p17.rd) (by first | rfl | omega | (simp; done) | (simp; omega))) rfl ?_
    rintro _ w20 ⟨rfl, q_w20, c_w20⟩
    have hs_w20 : w19.heap.size ≤ w20.heap.size := Chg.size c_w20
    replace p6 := p6.kb c_w20 (by omega)
    replace p17 := p17.kb c_w20 (by omega)
    have C_w20 := Chg.newRng C_w19 c_w20 (by omega)
    have p9 := q_w20
    refine s_end ?_
    refine go_nil (block_normal ?_)
    refine go_region 2 rfl rfl ?_
    refine s_val rfl rfl (r_addi rfl rfl (by omega)) rfl ?_
    refine s_val rfl rfl (r_move) rfl ?_
    refine s_end ?_
    refine go_nil (loop_normal ⟨⟨(k + 1), by first | omega | (dsimp only; omega), ⟨rfl, by omega, p6, by omega, p9, by omega, C_w20⟩⟩, (by repeat (first | exact same_refl | exact same_over | refine same_upd rfl ?_ | refine same_over2 rfl ?_))⟩)
  · first | replace h := of_decide_eq_false h | replace h := of_decide_eq_true (nf h) | skip
    obtain rfl : k = 16 := by omega
    refine go_exit (loop_exit (block_hit ?_))
    refine go_seq ?_
    refine go_region 2 rfl rfl ?_
    refine s_val rfl rfl (r_loadN Try.isAgg90 Try.sizeOf90 rfl p9.rd (by first | exact bs_len (by omega) | exact bs_len (by simp; done) | exact bs_len (by simp; omega))) rfl ?_
    refine s_do rfl rfl (w_storeA Try.sizeOf90 rfl rfl (by first | exact bs_len (by omega) | exact bs_len (by simp; done) | exact bs_len (by simp; omega)) (flat_bs _) p6 (by first | exact bs_len (by omega) | exact bs_len (by simp; done) | exact bs_len (by simp; omega))) rfl ?_
    rintro _ w21 ⟨q_w21, c_w21⟩
    have hs_w21 : w10.heap.size ≤ w21.heap.size := Chg.size c_w21
    replace p9 := p9.kb c_w21 (by omega)
    have C_w21 := Chg.newRng C_w10 c_w21 (by omega)
    have p6 := q_w21
    refine s_end ?_
    refine go_ret ?_
    refine ⟨_, .cons ⟨_, rfl, run_load_agg Try.isAgg90 Try.sizeOf90 (by first | exact bs_len (by omega) | exact bs_len (by simp; done) | exact bs_len (by simp; omega)) p6.rd⟩ (.nil), ?_⟩
    exact ⟨rfl, C_w21⟩

theorem stirB_spec (s : List UInt8) (w : World) (hl : s.length = 64) :
    Rtn Try.prog 96 [.agg (bs s).toArray].toArray w (fun v w' => v = .agg (bs (stirB s)).toArray ∧ Kept w w') := by
  refine fn_body (l := [.agg (bs s).toArray]) 37 [.cell 2 90] Try.func96 rfl Try.ntmps96 (Nat.le_of_ble_eq_true rfl) (by rw [Try.results96]) ?_
  refine go_seq ?_
  refine go_region 2 rfl rfl ?_
  refine s_do rfl rfl (w_boxA rfl) rfl ?_
  rintro _ w1 ⟨b2, rfl, hl_b2, hu_b2, p3, c_w1⟩
  have hs_w1 : w.heap.size ≤ w1.heap.size := Chg.size c_w1
  have C_w1 := Chg.pure (Chg.refl no w) c_w1
  have hn_b2 : w.heap.size ≤ b2 := by have := Chg.size C_w1; omega
  refine s_do rfl rfl (w_alloc (bs (List.replicate 64 0)) Try.zeroValue90 (by kernel_rfl)) rfl ?_
  rintro _ w4 ⟨b5, rfl, hl_b5, hu_b5, p6, c_w4⟩
  have hs_w4 : w1.heap.size ≤ w4.heap.size := Chg.size c_w4
  replace p3 := p3.k c_w4
  have C_w4 := Chg.pure C_w1 c_w4
  have hn_b5 : w.heap.size ≤ b5 := by have := Chg.size C_w4; omega
  refine s_end ?_
  refine go_seq ?_
  refine go_region 4 rfl rfl ?_
  refine s_val rfl rfl (r_loadN Try.isAgg90 Try.sizeOf90 rfl p3.rd (by first | exact bs_len (by omega) | exact bs_len (by simp; done) | exact bs_len (by simp; omega))) rfl ?_
  refine s_do rfl rfl (w_call Try.call97 rfl (wordsB_spec _ _ (by first | omega | (simp; done) | (simp; omega)))) rfl ?_
  rintro _ w7 ⟨rfl, c_w7⟩
  have hs_w7 : w4.heap.size ≤ w7.heap.size := Chg.size c_w7
  replace p3 := p3.k c_w7
  replace p6 := p6.k c_w7
  have C_w7 := Chg.pure C_w4 c_w7
  refine s_do rfl rfl (w_alloc (ws (List.replicate 16 0)) Try.zeroValue122 (by kernel_rfl)) rfl ?_
  rintro _ w8 ⟨b9, rfl, hl_b9, hu_b9, p10, c_w8⟩
  have hs_w8 : w7.heap.size ≤ w8.heap.size := Chg.size c_w8
  replace p3 := p3.k c_w8
  replace p6 := p6.k c_w8
  have C_w8 := Chg.pure C_w7 c_w8
  have hn_b9 : w.heap.size ≤ b9 := by have := Chg.size C_w8; omega
  refine s_do rfl rfl (w_storeA Try.sizeOf122 rfl rfl (by first | exact ws_len (by omega) | exact ws_len (by simp; done) | exact ws_len (by simp; omega)) (flat_ws _) p10 (by first | exact ws_len (by omega) | exact ws_len (by simp; done) | exact ws_len (by simp; omega))) rfl ?_
  rintro _ w11 ⟨q_w11, c_w11⟩
  have hs_w11 : w8.heap.size ≤ w11.heap.size := Chg.size c_w11
  replace p3 := p3.kb c_w11 (by omega)
  replace p6 := p6.kb c_w11 (by omega)
  have C_w11 := Chg.newRng C_w8 c_w11 (by omega)
  have p10 := q_w11
  refine s_end ?_
  refine go_seq ?_
  refine go_seq ?_
  refine go_region 1 rfl rfl ?_
  refine s_val rfl rfl (r_move) rfl ?_
  refine s_end ?_
  refine go_block ?_
  refine go_loopM (σ := Nat) [(4, 5), (8, 34)] (fun (r : Nat) e' w' => e' 8 = i64 (r : Nat) ∧ r ≤ 8 ∧ Pc w' b5 0 (bs (List.replicate 64 0)) ∧ b5 < w'.heap.size ∧ Pc w' b9 0 (ws (stirBTo (wordsBTo s 16) r)) ∧ b9 < w'.heap.size ∧ Chg no w w') (fun (r : Nat) => 8 - r) 0 ?_ ?_
  · exact ⟨rfl, by omega, p6, by omega, p10, by omega, C_w11⟩
  rintro r f13 w12 ⟨e14, hr, p6, hu_b5, p10, hu_b9, C_w12⟩
  obtain ⟨f15, rfl⟩ : ∃ g_, f13 = upd g_ 8 (i64 (r : Nat)) := ⟨f13, upd_id e14⟩
  have hs_w12 : w.heap.size ≤ w12.heap.size := Chg.size C_w12
  refine go_seq ?_
  refine go_region 1 rfl rfl ?_
  refine s_val rfl rfl (r_lss rfl rfl) rfl ?_
  refine s_end ?_
  refine go_seq ?_
  refine go_ifb _ rfl (fun h => ?_) (fun h => ?_)
  · first | replace h := of_decide_eq_true h | replace h := of_decide_eq_false (nt h) | skip
    refine go_skip ?_
    refine go_seq ?_
    refine go_block ?_
    refine go_seq ?_
    refine go_region 2 rfl rfl ?_
    refine s_val rfl rfl (r_move) rfl ?_
    refine s_val rfl rfl (r_assign) rfl ?_
    refine s_end ?_
    refine go_seq ?_
    refine go_region 1 rfl rfl ?_
    refine s_val rfl rfl (r_move) rfl ?_
    refine s_end ?_
    refine go_block ?_
    refine go_loopM (σ := Nat) [(5, 5), (11, 33)] (fun (i : Nat) e' w' => e' 11 = i64 (i : Nat) ∧ i ≤ 16 ∧ Pc w' b5 0 (bs (List.replicate 64 0)) ∧ b5 < w'.heap.size ∧ Pc w' b9 0 (ws (roundBTo r (stirBTo (wordsBTo s 16) r) i)) ∧ b9 < w'.heap.size ∧ Chg no w w') (fun (i : Nat) => 16 - i) 0 ?_ ?_
    · exact ⟨rfl, by omega, p6, by omega, p10, by omega, C_w12⟩
    rintro i f17 w16 ⟨e18, hi, p6, hu_b5, p10, hu_b9, C_w16⟩
    obtain ⟨f19, rfl⟩ : ∃ g_, f17 = upd g_ 11 (i64 (i : Nat)) := ⟨f17, upd_id e18⟩
    have hs_w16 : w.heap.size ≤ w16.heap.size := Chg.size C_w16
    refine go_seq ?_
    refine go_region 1 rfl rfl ?_
    refine s_val rfl rfl (r_lss rfl rfl) rfl ?_
    refine s_end ?_
    refine go_seq ?_
    refine go_ifb _ rfl (fun h2 => ?_) (fun h2 => ?_)
    · first | replace h2 := of_decide_eq_true h2 | replace h2 := of_decide_eq_false (nt h2) | skip
      refine go_skip ?_
      refine go_seq ?_
      refine go_block ?_
      refine go_seq ?_
      refine go_region 2 rfl rfl ?_
      refine s_val rfl rfl (r_move) rfl ?_
      refine s_val rfl rfl (r_assign) rfl ?_
      refine s_end ?_
      refine go_seq ?_
      refine go_drawsK 6 (.take 0 (.take 1 (.take 2 (.take 3 (.take 4 (.eff 5 (.eff 6 (.eff 7 (.eff 8 .done))))))))) (by kernel_rfl) (by kernel_rfl) fun w20 c_w20 => ?_
      have hs_w20 : w16.heap.size ≤ w20.heap.size := Chg.size c_w20
      replace p6 := p6.k c_w20
      replace p10 := p10.k c_w20
      have C_w20 := Chg.pure C_w16 c_w20
      have p6_0 := p6
      have p10_0 := p10
      refine s_takeK rfl rfl (w0 := w20) (fun x_ c_ => r_move) ?_
      refine s_takeK rfl rfl (w0 := w20) (fun x_ c_ => r_indexArr (k := i) Try.runUnderlying122 Try.sizeOf119 rfl rfl (by first | rfl | omega) (by first | decide | omega)) ?_
      refine s_takeK rfl rfl (w0 := w20) (fun x_ c_ => r_load1 Try.isAgg119 rfl (Rd.at1 (p10_0.k c_).rd (ws_get (by first | omega | (simp; done) | (simp; omega))))) ?_
      refine s_takeK rfl rfl (w0 := w20) (fun x_ c_ => r_move) ?_
      refine s_takeK rfl rfl (w0 := w20) (fun x_ c_ => r_move) ?_
      refine s_fxK rfl rfl (w_call Try.call98 rfl (turnB_spec _ _ _ _ _ (by first | omega | (simp; done) | (simp; omega)) p10 (by omega) (by omega) (by omega) (by omega))) ?_
      rintro _ w21 ⟨rfl, c_w21⟩
      have hs_w21 : w20.heap.size ≤ w21.heap.size := Chg.size c_w21
      replace p6 := p6.k c_w21
      replace p10 := p10.k c_w21
      have C_w21 := Chg.pure C_w20 c_w21
      have K_w21 := Chg.pure (Chg.refl no w20) c_w21
      refine ⟨K_w21, ?_⟩
      refine s_val rfl rfl (r_add32 rfl rfl) rfl ?_
      refine s_val rfl rfl (r_indexArr (k := i) Try.runUnderlying122 Try.sizeOf119 rfl rfl (by first | rfl | omega) (by first | decide | omega)) rfl ?_
      refine s_do rfl rfl (w_set_w (k := i) Try.sizeOf119 rfl rfl p10 (by first | omega | (simp; done) | (simp; omega))) rfl ?_
      rintro _ w22 ⟨q_w22, c_w22⟩
      have hs_w22 : w21.heap.size ≤ w22.heap.size := Chg.size c_w22
      replace p6 := p6.kb c_w22 (by omega)
      have C_w22 := Chg.newRng C_w21 c_w22 (by omega)
      have p10 := q_w22
      refine s_end ?_
      refine go_drawsK 9 (.take 0 (.take 1 (.take 2 (.take 3 (.take 4 (.take 5 (.take 6 (.take 7 (.eff 8 (.eff 9 (.eff 10 (.eff 11 .done)))))))))))) (by kernel_rfl) (by kernel_rfl) fun w23 c_w23 => ?_
      have hs_w23 : w22.heap.size ≤ w23.heap.size := Chg.size c_w23
      replace p6 := p6.k c_w23
      replace p10 := p10.k c_w23
      have C_w23 := Chg.pure C_w22 c_w23
      have p6_0 := p6
      have p10_0 := p10
      refine s_takeK rfl rfl (w0 := w23) (fun x_ c_ => r_move) ?_
      refine s_takeK rfl rfl (w0 := w23) (fun x_ c_ => r_addi rfl rfl (by omega)) ?_
      refine s_takeK rfl rfl (w0 := w23) (fun x_ c_ => r_remi rfl rfl (by omega) (by omega)) ?_
      refine s_takeK rfl rfl (w0 := w23) (fun x_ c_ => r_indexArr (k := ((i + 9) % 16)) Try.runUnderlying122 Try.sizeOf119 rfl rfl (by first | rfl | omega) (by first | decide | omega)) ?_
      refine s_takeK rfl rfl (w0 := w23) (fun x_ c_ => r_load1 Try.isAgg119 rfl (Rd.at1 (p10_0.k c_).rd (ws_get (by first | omega | (simp; done) | (simp; omega))))) ?_
      refine s_takeK rfl rfl (w0 := w23) (fun x_ c_ => r_move) ?_
      refine s_takeK rfl rfl (w0 := w23) (fun x_ c_ => r_indexArr (k := i) Try.runUnderlying122 Try.sizeOf119 rfl rfl (by first | rfl | omega) (by first | decide | omega)) ?_
      refine s_takeK rfl rfl (w0 := w23) (fun x_ c_ => r_load1 Try.isAgg119 rfl (Rd.at1 (p10_0.k c_).rd (ws_get (by first | omega | (simp; done) | (simp; omega))))) ?_
      refine s_fxK rfl rfl (w_call Try.call99 rfl (rotB_spec _ _ _)) ?_
      rintro _ w24 ⟨rfl, c_w24⟩
      have hs_w24 : w23.heap.size ≤ w24.heap.size := Chg.size c_w24
      replace p6 := p6.k c_w24
      replace p10 := p10.k c_w24
      have C_w24 := Chg.pure C_w23 c_w24
      have K_w24 := Chg.pure (Chg.refl no w23) c_w24
      refine ⟨K_w24, ?_⟩
      refine s_val rfl rfl (r_xor32 rfl rfl) rfl ?_
      refine s_val rfl rfl (r_indexArr (k := ((i + 9) % 16)) Try.runUnderlying122 Try.sizeOf119 rfl rfl (by first | rfl | omega) (by first | decide | omega)) rfl ?_
      refine s_do rfl rfl (w_set_w (k := ((i + 9) % 16)) Try.sizeOf119 rfl rfl p10 (by first | omega | (simp; done) | (simp; omega))) rfl ?_
      rintro _ w25 ⟨q_w25, c_w25⟩
      have hs_w25 : w24.heap.size ≤ w25.heap.size := Chg.size c_w25
      replace p6 := p6.kb c_w25 (by omega)
      have C_w25 := Chg.newRng C_w24 c_w25 (by omega)
      have p10 := q_w25
      refine s_end ?_
      refine go_nil (block_normal ?_)
      refine go_region 2 rfl rfl ?_
      refine s_val rfl rfl (r_addi rfl rfl (by omega)) rfl ?_
      refine s_val rfl rfl (r_move) rfl ?_
      refine s_end ?_
      refine go_nil (loop_normal ⟨⟨(i + 1), by first | omega | (dsimp only; omega), ⟨rfl, by omega, p6, by omega, p10, by omega, C_w25⟩⟩, (by repeat (first | exact same_refl | exact same_over | refine same_upd rfl ?_ | refine same_over2 rfl ?_))⟩)
    · first | replace h2 := of_decide_eq_false h2 | replace h2 := of_decide_eq_true (nf h2) | skip
      obtain rfl : i = 16 := by omega
      refine go_exit (loop_exit (block_hit ?_))
      refine go_nil (block_normal ?_)
      refine go_region 2 rfl rfl ?_
      refine s_val rfl rfl (r_addi rfl rfl (by omega)) rfl ?_
      refine s_val rfl rfl (r_move) rfl ?_
      refine s_end ?_
      refine go_nil (loop_normal ⟨⟨(r + 1), by first | omega | (dsimp only; omega), ⟨rfl, by omega, p6, by omega, p10, by omega, C_w16⟩⟩, (by repeat (first | exact same_refl | exact same_over | refine same_upd rfl ?_ | refine same_over2 rfl ?_))⟩)
  · first | replace h := of_decide_eq_false h | replace h := of_decide_eq_true (nf h) | skip
    obtain rfl : r = 8 := by omega
    refine go_exit (loop_exit (block_hit ?_))
    refine go_seq ?_
    refine go_region 3 rfl rfl ?_
    refine s_val rfl rfl (r_loadN Try.isAgg122 Try.sizeOf122 rfl p10.rd (by first | exact ws_len (by omega) | exact ws_len (by simp; done) | exact ws_len (by simp; omega))) rfl ?_
    refine s_do rfl rfl (w_call Try.call100 rfl (stateB_spec _ _ (by first | omega | (simp; done) | (simp; omega)))) rfl ?_
    rintro _ w26 ⟨rfl, c_w26⟩
    have hs_w26 : w12.heap.size ≤ w26.heap.size := Chg.size c_w26
    replace p6 := p6.k c_w26
    replace p10 := p10.k c_w26
    have C_w26 := Chg.pure C_w12 c_w26
    refine s_do rfl rfl (w_storeA Try.sizeOf90 rfl rfl (by first | exact bs_len (by omega) | exact bs_len (by simp; done) | exact bs_len (by simp; omega)) (flat_bs _) p6 (by first | exact bs_len (by omega) | exact bs_len (by simp; done) | exact bs_len (by simp; omega))) rfl ?_
    rintro _ w27 ⟨q_w27, c_w27⟩
    have hs_w27 : w26.heap.size ≤ w27.heap.size := Chg.size c_w27
    replace p10 := p10.kb c_w27 (by omega)
    have C_w27 := Chg.newRng C_w26 c_w27 (by omega)
    have p6 := q_w27
    refine s_end ?_
    refine go_ret ?_
    refine ⟨_, .cons ⟨_, rfl, run_load_agg Try.isAgg90 Try.sizeOf90 (by first | exact bs_len (by omega) | exact bs_len (by simp; done) | exact bs_len (by simp; omega)) p6.rd⟩ (.nil), ?_⟩
    exact ⟨rfl, C_w27⟩

end Go.Proofs.Ytdnccchcflaphaa
