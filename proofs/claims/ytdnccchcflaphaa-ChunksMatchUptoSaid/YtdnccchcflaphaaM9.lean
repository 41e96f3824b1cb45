/- M9: contracts of functions of the program: called in any world that meets a contract's premises, the function returns what the contract says and changes no more than it says. -/
import Derived.Test.YtdnccchcflaphaaM8
import Derived.Test.YtdnccchcflaphaaEng8
import Derived.Test.YtdnccchcflaphaaEng9
import Derived.Test.YtdnccchcflaphaaEng10
import Derived.Test.YtdnccchcflaphaaChecked
open Go Go.Eng Go.Proofs
namespace Go.Proofs.Ytdnccchcflaphaa

theorem tab8 (c : UInt8) : Lib.len8tab[c.toNat]? = some (UInt8.ofNat (lenN c.toNat)) := by
  have h : ∀ i : Fin 256, Lib.len8tab[i.val]? = some (UInt8.ofNat (lenN i.val)) := by decide +kernel
  exact h ⟨c.toNat, c.toNat_lt⟩
theorem lenN_le {n k : Nat} (h : n < 2 ^ k) : lenN n ≤ k := by
  unfold lenN
  split
  · omega
  · rename_i h0
    have := (Nat.log2_lt h0).2 h
    omega
theorem len_end (q : UInt64) (h : q.toNat < 256) : (UInt8.ofNat (lenN (b8 (q.toNat : Int)).toNat)).toNat = lenN q.toNat := by
  have e : (b8 (q.toNat : Int)).toNat = q.toNat := by rw [b8, UInt8.toNat_ofNat']; omega
  have := lenN_le (n := q.toNat) (k := 8) h
  rw [e, UInt8.toNat_ofNat']
  omega

theorem len64_spec (p : UInt64) (w : World) (hp : p.toNat < 4294967296) :
    Rtn Try.prog 76 [u64 p].toArray w (fun v w' => v = i64 ((lenN p.toNat : Nat) : Int) ∧ Kept w w') := by
  have e16 : (shr64 p (16 : Int).toNat).toNat = p.toNat / 65536 := shr64_toNat p 16 (by decide)
  have e168 : (shr64 (shr64 p (16 : Int).toNat) (8 : Int).toNat).toNat = p.toNat / 65536 / 256 := by rw [← e16]; exact shr64_toNat _ 8 (by decide)
  have e8 : (shr64 p (8 : Int).toNat).toNat = p.toNat / 256 := shr64_toNat p 8 (by decide)
  have u0 := UInt8.toNat_lt (UInt8.ofNat (lenN (b8 ((shr64 (shr64 p (16 : Int).toNat) (8 : Int).toNat).toNat : Int)).toNat))
  have u1 := UInt8.toNat_lt (UInt8.ofNat (lenN (b8 ((shr64 p (16 : Int).toNat).toNat : Int)).toNat))
  have u2 := UInt8.toNat_lt (UInt8.ofNat (lenN (b8 ((shr64 p (8 : Int).toNat).toNat : Int)).toNat))
  have u3 := UInt8.toNat_lt (UInt8.ofNat (lenN (b8 ((p).toNat : Int)).toNat))
  refine fn_body (l := [u64 p]) 25 [.tmp 2] Try.func76 rfl Try.ntmps76 (Nat.le_of_ble_eq_true rfl) (by rw [Try.results76]) ?_
  refine go_seq ?_
  refine go_region 1 rfl rfl ?_
  refine s_val rfl rfl (r_assign) rfl ?_
  refine s_end ?_
  refine go_seq ?_
  refine go_seq ?_
  refine go_region 2 rfl rfl ?_
  refine s_val rfl rfl (r_move) rfl ?_
  refine s_val rfl rfl (r_geq rfl rfl) rfl ?_
  refine s_end ?_
  refine go_ifb _ rfl (fun h1 => ?_) (fun h1 => ?_)
  · first | replace h1 := of_decide_eq_true h1 | replace h1 := of_decide_eq_false (nt h1) | skip
    exfalso
    omega
  · first | replace h1 := of_decide_eq_false h1 | replace h1 := of_decide_eq_true (nf h1) | skip
    refine go_skip ?_
    refine go_seq ?_
    refine go_seq ?_
    refine go_region 2 rfl rfl ?_
    refine s_val rfl rfl (r_move) rfl ?_
    refine s_val rfl rfl (r_geq rfl rfl) rfl ?_
    refine s_end ?_
    refine go_ifb _ rfl (fun h2 => ?_) (fun h2 => ?_)
    · first | replace h2 := of_decide_eq_true h2 | replace h2 := of_decide_eq_false (nt h2) | skip
      refine go_seq ?_
      refine go_region 3 rfl rfl ?_
      refine s_val rfl rfl (r_move) rfl ?_
      refine s_val rfl rfl (r_shr64 rfl rfl (by omega)) rfl ?_
      refine s_val rfl rfl (r_assign) rfl ?_
      refine s_end ?_
      refine go_region 3 rfl rfl ?_
      refine s_val rfl rfl (r_move) rfl ?_
      refine s_val rfl rfl (r_addi rfl rfl (by omega)) rfl ?_
      refine s_val rfl rfl (r_assign) rfl ?_
      refine s_end ?_
      refine go_seq ?_
      refine go_seq ?_
      refine go_region 2 rfl rfl ?_
      refine s_val rfl rfl (r_move) rfl ?_
      refine s_val rfl rfl (r_geq rfl rfl) rfl ?_
      refine s_end ?_
      refine go_ifb _ rfl (fun h3 => ?_) (fun h3 => ?_)
      · first | replace h3 := of_decide_eq_true h3 | replace h3 := of_decide_eq_false (nt h3) | skip
        refine go_seq ?_
        refine go_region 3 rfl rfl ?_
        refine s_val rfl rfl (r_move) rfl ?_
        refine s_val rfl rfl (r_shr64 rfl rfl (by omega)) rfl ?_
        refine s_val rfl rfl (r_assign) rfl ?_
        refine s_end ?_
        refine go_region 3 rfl rfl ?_
        refine s_val rfl rfl (r_move) rfl ?_
        refine s_val rfl rfl (r_addi rfl rfl (by omega)) rfl ?_
        refine s_val rfl rfl (r_assign) rfl ?_
        refine s_end ?_
        refine go_seq ?_
        refine go_region 7 rfl rfl ?_
        refine s_val rfl rfl (r_move) rfl ?_
        refine s_val rfl rfl (r_move) rfl ?_
        refine s_val rfl rfl (r_conv_u8 Try.runUnderlying121 Try.runUnderlying5 rfl) rfl ?_
        refine s_val rfl rfl (r_indexStr Try.runUnderlying9 rfl rfl rfl (tab8 _)) rfl ?_
        refine s_val rfl rfl (r_conv_i64 Try.runUnderlying5 Try.runUnderlying3 rfl (by first | omega | (constructor <;> omega))) rfl ?_
        refine s_val rfl rfl (r_addi rfl rfl (by omega)) rfl ?_
        refine s_val rfl rfl (r_assign) rfl ?_
        refine s_end ?_
        refine go_ret ?_
        refine ⟨_, .cons rfl (.nil), ?_⟩
        refine ⟨congrArg i64 ?_, (Chg.refl no w)⟩
        have e1 := (len_end (shr64 (shr64 p (16 : Int).toNat) (8 : Int).toNat) (by omega)).trans (congrArg lenN e168)
        have e2 := lenN_pow 16 (n := p.toNat) (by omega)
        have e3 := lenN_pow 8 (n := p.toNat / 65536) (by omega)
        rw [show (2 : Nat) ^ 16 = 65536 from rfl] at e2
        rw [show (2 : Nat) ^ 8 = 256 from rfl] at e3
        omega
      · first | replace h3 := of_decide_eq_false h3 | replace h3 := of_decide_eq_true (nf h3) | skip
        refine go_skip ?_
        refine go_seq ?_
        refine go_region 7 rfl rfl ?_
        refine s_val rfl rfl (r_move) rfl ?_
        refine s_val rfl rfl (r_move) rfl ?_
        refine s_val rfl rfl (r_conv_u8 Try.runUnderlying121 Try.runUnderlying5 rfl) rfl ?_
        refine s_val rfl rfl (r_indexStr Try.runUnderlying9 rfl rfl rfl (tab8 _)) rfl ?_
        refine s_val rfl rfl (r_conv_i64 Try.runUnderlying5 Try.runUnderlying3 rfl (by first | omega | (constructor <;> omega))) rfl ?_
        refine s_val rfl rfl (r_addi rfl rfl (by omega)) rfl ?_
        refine s_val rfl rfl (r_assign) rfl ?_
        refine s_end ?_
        refine go_ret ?_
        refine ⟨_, .cons rfl (.nil), ?_⟩
        refine ⟨congrArg i64 ?_, (Chg.refl no w)⟩
        have e1 := (len_end (shr64 p (16 : Int).toNat) (by omega)).trans (congrArg lenN e16)
        have e2 := lenN_pow 16 (n := p.toNat) (by omega)
        rw [show (2 : Nat) ^ 16 = 65536 from rfl] at e2
        omega
    · first | replace h2 := of_decide_eq_false h2 | replace h2 := of_decide_eq_true (nf h2) | skip
      refine go_skip ?_
      refine go_seq ?_
      refine go_seq ?_
      refine go_region 2 rfl rfl ?_
      refine s_val rfl rfl (r_move) rfl ?_
      refine s_val rfl rfl (r_geq rfl rfl) rfl ?_
      refine s_end ?_
      refine go_ifb _ rfl (fun h3 => ?_) (fun h3 => ?_)
      · first | replace h3 := of_decide_eq_true h3 | replace h3 := of_decide_eq_false (nt h3) | skip
        refine go_seq ?_
        refine go_region 3 rfl rfl ?_
        refine s_val rfl rfl (r_move) rfl ?_
        refine s_val rfl rfl (r_shr64 rfl rfl (by omega)) rfl ?_
        refine s_val rfl rfl (r_assign) rfl ?_
        refine s_end ?_
        refine go_region 3 rfl rfl ?_
        refine s_val rfl rfl (r_move) rfl ?_
        refine s_val rfl rfl (r_addi rfl rfl (by omega)) rfl ?_
        refine s_val rfl rfl (r_assign) rfl ?_
        refine s_end ?_
        refine go_seq ?_
        refine go_region 7 rfl rfl ?_
        refine s_val rfl rfl (r_move) rfl ?_
        refine s_val rfl rfl (r_move) rfl ?_
        refine s_val rfl rfl (r_conv_u8 Try.runUnderlying121 Try.runUnderlying5 rfl) rfl ?_
        refine s_val rfl rfl (r_indexStr Try.runUnderlying9 rfl rfl rfl (tab8 _)) rfl ?_
        refine s_val rfl rfl (r_conv_i64 Try.runUnderlying5 Try.runUnderlying3 rfl (by first | omega | (constructor <;> omega))) rfl ?_
        refine s_val rfl rfl (r_addi rfl rfl (by omega)) rfl ?_
        refine s_val rfl rfl (r_assign) rfl ?_
        refine s_end ?_
        refine go_ret ?_
        refine ⟨_, .cons rfl (.nil), ?_⟩
        refine ⟨congrArg i64 ?_, (Chg.refl no w)⟩
        have e1 := (len_end (shr64 p (8 : Int).toNat) (by omega)).trans (congrArg lenN e8)
        have e3 := lenN_pow 8 (n := p.toNat) (by omega)
        rw [show (2 : Nat) ^ 8 = 256 from rfl] at e3
        omega
      · first | replace h3 := of_decide_eq_false h3 | replace h3 := of_decide_eq_true (nf h3) | skip
        refine go_skip ?_
        refine go_seq ?_
        refine go_region 7 rfl rfl ?_
        refine s_val rfl rfl (r_move) rfl ?_
        refine s_val rfl rfl (r_move) rfl ?_
        refine s_val rfl rfl (r_conv_u8 Try.runUnderlying121 Try.runUnderlying5 rfl) rfl ?_
        refine s_val rfl rfl (r_indexStr Try.runUnderlying9 rfl rfl rfl (tab8 _)) rfl ?_
        refine s_val rfl rfl (r_conv_i64 Try.runUnderlying5 Try.runUnderlying3 rfl (by first | omega | (constructor <;> omega))) rfl ?_
        refine s_val rfl rfl (r_addi rfl rfl (by omega)) rfl ?_
        refine s_val rfl rfl (r_assign) rfl ?_
        refine s_end ?_
        refine go_ret ?_
        refine ⟨_, .cons rfl (.nil), ?_⟩
        refine ⟨congrArg i64 ?_, (Chg.refl no w)⟩
        have e1 := len_end p (by omega)
        omega

theorem len_spec (p : UInt64) (w : World) (hp : p.toNat < 4294967296) :
    Rtn Try.prog 54 [u64 p].toArray w (fun v w' => v = i64 ((lenN p.toNat : Nat) : Int) ∧ Kept w w') := by
  refine fn_body (l := [u64 p]) 8 [.tmp 2] Try.func54 rfl Try.ntmps54 (Nat.le_of_ble_eq_true rfl) (by rw [Try.results54]) ?_
  refine go_seq ?_
  refine go_region 1 rfl rfl ?_
  refine s_val rfl rfl (r_assign) rfl ?_
  refine s_end ?_
  refine go_seq ?_
  refine go_false rfl ?_
  refine go_skip ?_
  refine go_seq ?_
  refine go_region 3 rfl rfl ?_
  refine s_val rfl rfl (r_move) rfl ?_
  refine s_do rfl rfl (w_call Try.call76 rfl (len64_spec _ _ (by omega))) rfl ?_
  rintro _ w1 ⟨rfl, c_w1⟩
  have hs_w1 : w.heap.size ≤ w1.heap.size := Chg.size c_w1
  have C_w1 := Chg.pure (Chg.refl no w) c_w1
  refine s_val rfl rfl (r_assign) rfl ?_
  refine s_end ?_
  refine go_ret ?_
  refine ⟨_, .cons rfl (.nil), ?_⟩
  exact ⟨rfl, C_w1⟩


theorem w64_toNat (n : Nat) (h : n < 4294967296) : (w64 (n : Int)).toNat = n := by rw [w64, UInt64.toNat_ofNat']; omega
theorem halfN_len {n : Nat} (h : 2 ≤ n) : 2 ^ (lenN (n - 1) - 1) = halfN n := by
  rw [lenN, if_neg (by omega), halfN, Nat.add_sub_cancel]

theorem split_spec (n : Nat) (w : World) (h2 : 2 ≤ n) (hb : n < 4294967296) :
    Rtn Try.prog 58 [i64 (n : Nat)].toArray w (fun v w' => v = i64 ((halfN n : Nat) : Int) ∧ Kept w w') := by
  have hw : (w64 ((n : Int) - 1)).toNat = n - 1 := by rw [show (n : Int) - 1 = ((n - 1 : Nat) : Int) by omega]; exact w64_toNat _ (by omega)
  have hl := lenN_le (n := n - 1) (k := 32) (by omega)
  have hl0 : 1 ≤ lenN (n - 1) := by rw [lenN, if_neg (by omega)]; omega
  have hlw : lenN (w64 ((n : Int) - 1)).toNat = lenN (n - 1) := by rw [hw]
  refine fn_body (l := [i64 (n : Nat)]) 9 [.tmp 2] Try.func58 rfl Try.ntmps58 (Nat.le_of_ble_eq_true rfl) (by rw [Try.results58]) ?_
  refine go_seq ?_
  refine go_region 1 rfl rfl ?_
  refine s_val rfl rfl (r_assign) rfl ?_
  refine s_end ?_
  refine go_seq ?_
  refine go_region 7 rfl rfl ?_
  refine s_val rfl rfl (r_move) rfl ?_
  refine s_val rfl rfl (r_subi rfl rfl (by omega)) rfl ?_
  refine s_val rfl rfl (r_conv_u64 Try.runUnderlying3 Try.runUnderlying47 rfl) rfl ?_
  refine s_do rfl rfl (w_call Try.call54 rfl (len_spec (w64 ((n : Int) - 1)) _ (by rw [hw]; omega))) rfl ?_
  rintro _ w1 ⟨rfl, c_w1⟩
  have hs_w1 : w.heap.size ≤ w1.heap.size := Chg.size c_w1
  have C_w1 := Chg.pure (Chg.refl no w) c_w1
  refine s_val rfl rfl (r_subi rfl rfl (by omega)) rfl ?_
  refine s_val rfl rfl (r_shl1 (k := (lenN (w64 ((n : Int) - 1)).toNat - 1)) rfl rfl (by first | rfl | omega) (by omega)) rfl ?_
  refine s_val rfl rfl (r_assign) rfl ?_
  refine s_end ?_
  refine go_ret ?_
  refine ⟨_, .cons rfl (.nil), ?_⟩
  refine ⟨?_, C_w1⟩
  rw [← halfN_len h2, ← hw]
  rfl

theorem half_spec (n : Nat) (w : World) (h2 : 2 ≤ n) (hb : n < 4294967296) :
    Rtn Try.prog 32 [i64 (n : Nat)].toArray w (fun v w' => v = i64 ((halfN n : Nat) : Int) ∧ Kept w w') := by
  refine fn_body (l := [i64 (n : Nat)]) 11 [.tmp 2] Try.func32 rfl Try.ntmps32 (Nat.le_of_ble_eq_true rfl) (by rw [Try.results32]) ?_
  refine go_seq ?_
  refine go_region 1 rfl rfl ?_
  refine s_val rfl rfl (r_assign) rfl ?_
  refine s_end ?_
  refine go_seq ?_
  refine go_region 1 rfl rfl ?_
  refine s_val rfl rfl (r_assign) rfl ?_
  refine s_end ?_
  refine go_seq ?_
  refine go_block ?_
  refine go_loopM (σ := Nat) [(3, 9)] (fun (q : Nat) e' w' => e' 3 = i64 (q : Nat) ∧ (∃ j, q = 2 ^ j) ∧ q < n ∧ 0 < q ∧ Chg no w w') (fun (q : Nat) => n - q) 1 ?_ ?_
  · exact ⟨rfl, ⟨0, rfl⟩, by omega, by omega, (Chg.refl no w)⟩
  rintro q f2 w1 ⟨e3, hq, hqn, hq0, C_w1⟩
  obtain ⟨f4, rfl⟩ : ∃ g_, f2 = upd g_ 3 (i64 (q : Nat)) := ⟨f2, upd_id e3⟩
  have hs_w1 : w.heap.size ≤ w1.heap.size := Chg.size C_w1
  obtain ⟨j, rfl⟩ := hq
  refine go_seq ?_
  refine go_seq ?_
  refine go_region 4 rfl rfl ?_
  refine s_val rfl rfl (r_move) rfl ?_
  refine s_val rfl rfl (r_muli rfl rfl (by omega)) rfl ?_
  refine s_val rfl rfl (r_move) rfl ?_
  refine s_val rfl rfl (r_lss rfl rfl) rfl ?_
  refine s_end ?_
  refine go_ifb _ rfl (fun h1 => ?_) (fun h1 => ?_)
  · first | replace h1 := of_decide_eq_true h1 | replace h1 := of_decide_eq_false (nt h1) | skip
    refine go_skip ?_
    refine go_block ?_
    refine go_region 3 rfl rfl ?_
    refine s_val rfl rfl (r_move) rfl ?_
    refine s_val rfl rfl (r_muli rfl rfl (by omega)) rfl ?_
    refine s_val rfl rfl (r_assign) rfl ?_
    refine s_end ?_
    refine go_nil (block_normal ?_)
    refine go_nil (loop_normal ⟨⟨(2 ^ j * 2), by first | omega | (dsimp only; omega), ⟨rfl, ⟨j + 1, by rw [Nat.pow_succ]⟩, by omega, by omega, C_w1⟩⟩, (by repeat (first | exact same_refl | exact same_over | refine same_upd rfl ?_ | refine same_over2 rfl ?_))⟩)
  · first | replace h1 := of_decide_eq_false h1 | replace h1 := of_decide_eq_true (nf h1) | skip
    have hh := halfN_of (n := n) (k := j) (by omega) (by rw [Nat.pow_succ]; omega)
    refine go_exit (loop_exit (block_hit ?_))
    refine go_seq ?_
    refine go_region 2 rfl rfl ?_
    refine s_val rfl rfl (r_move) rfl ?_
    refine s_val rfl rfl (r_assign) rfl ?_
    refine s_end ?_
    refine go_ret ?_
    refine ⟨_, .cons rfl (.nil), ?_⟩
    exact ⟨by rw [hh]; rfl, C_w1⟩

end Go.Proofs.Ytdnccchcflaphaa
