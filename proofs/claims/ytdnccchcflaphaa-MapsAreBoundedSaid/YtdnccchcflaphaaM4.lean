/- M4: contracts of functions of the program: called in any world that meets a contract's premises, the function returns what the contract says and changes no more than it says. -/
import Derived.Test.YtdnccchcflaphaaM3
import Derived.Test.YtdnccchcflaphaaEng8
import Derived.Test.YtdnccchcflaphaaChecked
open Go Go.Eng Go.Proofs
namespace Go.Proofs.Ytdnccchcflaphaa
theorem absorb_append (s m l : List UInt8) (q : Nat) (h : 32 * q ≤ m.length) : absorb s (m ++ l) q = absorb s m q := by
  induction q with
  | zero => rfl
  | succ q ih =>
    rw [absorb, absorb, ih (by omega), List.drop_append_of_le_length (by omega), List.take_append_of_le_length (by rw [List.length_drop]; omega)]
theorem absorb_add (s m : List UInt8) (a k : Nat) : absorb (absorb s m a) (m.drop (32 * a)) k = absorb s m (a + k) := by
  induction k with
  | zero => rfl
  | succ k ih =>
    rw [absorb, ih, Nat.add_succ, absorb, List.drop_drop, Nat.mul_add]
/-- what lies in rest, m having come -/
def Kst (m rest : List UInt8) : Prop := rest.length = 32 ∧ rest.take (m.length % 32) = m.drop (32 * (m.length / 32))
theorem putAt0 (R x : List UInt8) : putAt R 0 x = x ++ R.drop x.length := by simp [putAt]
theorem tailF_inv (s0 M R : List UInt8) (q : Nat) (hq : 32 * q ≤ M.length) (hR : R.length = 32) :
    (tailF (absorb s0 M q) R (M.drop (32 * q))).1 = absorb s0 M (M.length / 32) ∧ Kst M (tailF (absorb s0 M q) R (M.drop (32 * q))).2.1 ∧ (tailF (absorb s0 M q) R (M.drop (32 * q))).2.2 = M.length % 32 := by
  have h1 : (M.drop (32 * q)).length / 32 = M.length / 32 - q := by rw [List.length_drop]; omega
  have h2 : 32 * q + 32 * (M.length / 32 - q) = 32 * (M.length / 32) := by omega
  refine ⟨?_, ?_, ?_⟩
  · show absorb _ _ _ = _
    rw [h1, absorb_add]; congr 1; omega
  · show Kst M (putAt R 0 ((M.drop (32 * q)).drop (32 * ((M.drop (32 * q)).length / 32))))
    rw [h1, List.drop_drop, h2]
    have h3 : (M.drop (32 * (M.length / 32))).length = M.length % 32 := by rw [List.length_drop]; omega
    refine ⟨by rw [putAt_length _ _ _ (by omega)]; exact hR, ?_⟩
    rw [putAt0, ← h3, List.take_left]
  · show (M.drop (32 * q)).length % 32 = _
    rw [List.length_drop]; omega
theorem takeF_inv (s0 m l rest : List UInt8) (hk : Kst m rest) :
    (takeF (absorb s0 m (m.length / 32)) rest (m.length % 32) l).1 = absorb s0 (m ++ l) ((m ++ l).length / 32) ∧ Kst (m ++ l) (takeF (absorb s0 m (m.length / 32)) rest (m.length % 32) l).2.1 ∧
      (takeF (absorb s0 m (m.length / 32)) rest (m.length % 32) l).2.2 = (m ++ l).length % 32 := by
  obtain ⟨hr, hk⟩ := hk
  have hml : (m ++ l).length = m.length + l.length := List.length_append
  by_cases h0 : 0 < m.length % 32
  · by_cases h1 : m.length % 32 + min l.length (32 - m.length % 32) < 32
    · rw [takeF, if_pos h0, if_pos h1]
      have hl : l.length < 32 - m.length % 32 := by omega
      have e1 : (m ++ l).length / 32 = m.length / 32 := by omega
      have e2 : (m ++ l).length % 32 = m.length % 32 + l.length := by omega
      refine ⟨?_, ?_, ?_⟩
      · dsimp only; rw [e1, absorb_append _ _ _ _ (by omega)]
      · dsimp only
        rw [List.take_of_length_le (by omega)]
        refine ⟨by rw [putAt_length _ _ _ (by omega)]; exact hr, ?_⟩
        rw [e1, e2, List.drop_append_of_le_length (by omega), putAt]
        have : (rest.take (m.length % 32) ++ l).length = m.length % 32 + l.length := by rw [List.length_append, List.length_take]; omega
        rw [← this, List.take_left, hk]
      · dsimp only; omega
    · rw [takeF, if_pos h0, if_neg h1]
      have hl : 32 - m.length % 32 ≤ l.length := by omega
      have hmin : min l.length (32 - m.length % 32) = 32 - m.length % 32 := by omega
      have h32 : 32 * (m.length / 32) + m.length % 32 = m.length := by omega
      have e3 : putAt rest (m.length % 32) (l.take (32 - m.length % 32)) = ((m ++ l).drop (32 * (m.length / 32))).take 32 := by
        rw [putAt, hk, List.drop_append_of_le_length (by omega)]
        have a1 : (m.drop (32 * (m.length / 32))).length = m.length % 32 := by rw [List.length_drop]; omega
        have a2 : rest.drop (m.length % 32 + (l.take (32 - m.length % 32)).length) = [] := by apply List.drop_eq_nil_of_le; rw [List.length_take]; omega
        have a3 : (m.drop (32 * (m.length / 32)) ++ l).take 32 = m.drop (32 * (m.length / 32)) ++ l.take (32 - m.length % 32) := by
          rw [List.take_append, a1, List.take_of_length_le (by rw [a1]; omega)]
        rw [a2, List.append_nil, a3]
      have e4 : l.drop (32 - m.length % 32) = (m ++ l).drop (32 * (m.length / 32 + 1)) := by
        have a4 : (m ++ l).drop (32 * (m.length / 32 + 1)) = l.drop (32 * (m.length / 32 + 1) - m.length) := by
          rw [List.drop_append, show m.drop (32 * (m.length / 32 + 1)) = [] from List.drop_eq_nil_of_le (by omega), List.nil_append]
        rw [a4]
        congr 1; omega
      have e5 : blockB (absorb s0 m (m.length / 32)) (((m ++ l).drop (32 * (m.length / 32))).take 32) = absorb s0 (m ++ l) (m.length / 32 + 1) := by
        rw [absorb, absorb_append _ _ _ _ (by omega)]
      rw [hmin, e3, e4, e5]
      exact tailF_inv s0 (m ++ l) _ _ (by omega) (by rw [List.length_take, List.length_drop]; omega)
  · rw [takeF, if_neg h0]
    have e6 : l = (m ++ l).drop (32 * (m.length / 32)) := by
      rw [List.drop_append, List.drop_eq_nil_of_le (by omega), List.nil_append, show 32 * (m.length / 32) - m.length = 0 by omega, List.drop_zero]
    have := tailF_inv s0 (m ++ l) rest (m.length / 32) (by omega) hr
    rw [← e6, absorb_append _ _ _ _ (by omega)] at this
    exact this
/-- A summer at sb: m has come, the state having been s0. -/
def Smr (w : World) (sb : Nat) (s0 m : List UInt8) : Prop :=
  s0.length = 64 ∧ ∃ rest, Kst m rest ∧ Pc w sb 0 (bs (absorb s0 m (m.length / 32))) ∧ Pc w sb 64 (bs rest) ∧ Pc w sb 96 [i64 ((m.length % 32 : Nat) : Int)]
theorem Smr.len {w : World} {sb : Nat} {s0 m : List UInt8} (h : Smr w sb s0 m) : s0.length = 64 := h.1
theorem Smr.hv {w : World} {sb : Nat} {s0 m : List UInt8} (h : Smr w sb s0 m) : Rd w sb 96 [i64 ((m.length % 32 : Nat) : Int)] := by obtain ⟨_, _, _, _, _, h⟩ := h; exact h.rd
theorem Smr.st {w : World} {sb : Nat} {s0 m : List UInt8} (h : Smr w sb s0 m) : Pc w sb 0 (bs (absorb s0 m (m.length / 32))) := by obtain ⟨_, _, _, h, _⟩ := h; exact h
theorem Smr.kept {M : Nat → Nat → Prop} {w w' : World} {sb : Nat} {s0 m : List UInt8} (h : Smr w sb s0 m) (k : Chg M w w') (hm : ∀ j, j < 97 → ¬ M sb j) : Smr w' sb s0 m := by
  obtain ⟨h0, rest, h1, h2, h3, h4⟩ := h
  refine ⟨h0, rest, h1, h2.kept k fun j hj => ?_, h3.kept k fun j hj => ?_, h4.kept k fun j hj => ?_⟩
  · rw [Nat.zero_add]; rw [bs_length, absorb_length _ _ _ h0] at hj; exact hm j (by omega)
  · rw [bs_length, h1.1] at hj; exact hm _ (by omega)
  · simp at hj; subst hj; exact hm _ (by omega)
theorem Smr.k {w w' : World} {sb : Nat} {s0 m : List UInt8} (h : Smr w sb s0 m) (k : Kept w w') : Smr w' sb s0 m := h.kept k fun _ _ => id
theorem Smr.kb {w w' : World} {sb b2 o2 n : Nat} {s0 m : List UInt8} (h : Smr w sb s0 m) (k : Chg (rng b2 o2 n) w w') (hb : sb ≠ b2) : Smr w' sb s0 m := h.kept k fun _ _ m => hb m.1
theorem Smr.kB {w w' : World} {sb b2 : Nat} {s0 m : List UInt8} (h : Smr w sb s0 m) (k : Chg (blk b2) w w') (hb : sb ≠ b2) : Smr w' sb s0 m := h.kept k fun _ _ m => hb m
theorem Smr.ko {w w' : World} {sb o2 n : Nat} {s0 m : List UInt8} (h : Smr w sb s0 m) (k : Chg (rng sb o2 n) w w') (hd : 97 ≤ o2) : Smr w' sb s0 m := h.kept k fun j hj m => by have := m.2; omega
theorem take_smr (s0 m l : List UInt8) (sb n c : Nat) (a : Option Addr) (w : World) (hn : l.length = n) (hc : n ≤ c) (hbig : n < 4611686018427387904) (hs : Smr w sb s0 m) (hsl : SlAt w a (bs l)) (hne : ∀ x, a = some x → x.block ≠ sb) :
    Rtn Try.prog 90 [.pointer (some ⟨sb, 0, none⟩), Value.slice a n c].toArray w (fun _ w' => Smr w' sb s0 (m ++ l) ∧ Chg (rng sb 0 97) w w') := by
  obtain ⟨h0, rest, h1, h2, h3, h4⟩ := hs
  refine (take_spec _ rest l sb (m.length % 32) n c a w (absorb_length _ _ _ h0) h1.1 (Nat.mod_lt _ (by decide)) hn hc hbig h2 h3 h4 hsl hne).mono fun v w' ⟨q1, q2, q3, q4⟩ => ?_
  obtain ⟨e1, e2, e3⟩ := takeF_inv s0 m l rest h1
  rw [e1] at q1; rw [e3] at q3
  exact ⟨⟨h0, _, e2, q1, q2, q3⟩, q4⟩

theorem write_spec (s0 m l : List UInt8) (sb t n c : Nat) (a : Option Addr) (w : World) (hn : l.length = n) (hc : n ≤ c) (hb : t + n ≤ 1048576) (hsm : Smr w sb s0 m) (ht : Pc w sb 97 [i64 (t : Nat)]) (hsl : SlAt w a (bs l)) (hne : ∀ x, a = some x → x.block ≠ sb) :
    Rtn Try.prog 82 [.pointer (some ⟨sb, 0, none⟩), Value.slice a n c].toArray w (fun v w' => v = i64 0 ∧ Smr w' sb s0 (m ++ l) ∧ Pc w' sb 97 [i64 ((t + n : Nat) : Int)] ∧ Chg (rng sb 0 98) w w') := by
  refine fn_body (l := [.pointer (some ⟨sb, 0, none⟩), Value.slice a n c]) 25 [.tmp 4] Try.func82 rfl Try.ntmps82 (Nat.le_of_ble_eq_true rfl) (by rw [Try.results82]) ?_
  refine go_seq ?_
  refine go_region 1 rfl rfl ?_
  refine s_val rfl rfl (r_assign) rfl ?_
  refine s_end ?_
  refine go_seq ?_
  refine go_seq ?_
  refine go_region 8 rfl rfl ?_
  refine s_val rfl rfl (r_move) rfl ?_
  refine s_val rfl rfl (r_len Try.runUnderlying22 rfl) rfl ?_
  refine s_val rfl rfl (r_move) rfl ?_
  refine s_val rfl rfl (r_nilCheck rfl) rfl ?_
  refine s_val rfl rfl (r_fieldAddr Try.runUnderlying137 rfl Try.sizeOf3 rfl rfl) rfl ?_
  refine s_val rfl rfl (r_load1 Try.isAgg3 rfl ht.rd) rfl ?_
  refine s_val rfl rfl (r_subi rfl rfl (by omega)) rfl ?_
  refine s_val rfl rfl (r_gtr rfl rfl) rfl ?_
  refine s_end ?_
  refine go_ifb _ rfl (fun h1 => ?_) (fun h1 => ?_)
  · first | replace h1 := of_decide_eq_true h1 | replace h1 := of_decide_eq_false (nt h1) | skip
    exfalso
    omega
  · first | replace h1 := of_decide_eq_false h1 | replace h1 := of_decide_eq_true (nf h1) | skip
    refine go_skip ?_
    refine go_seq ?_
    refine go_region 10 rfl rfl ?_
    refine s_val rfl rfl (r_move) rfl ?_
    refine s_val rfl rfl (r_nilCheck rfl) rfl ?_
    refine s_val rfl rfl (r_fieldAddr Try.runUnderlying137 rfl Try.sizeOf3 rfl rfl) rfl ?_
    refine s_val rfl rfl (r_load1 Try.isAgg3 rfl ht.rd) rfl ?_
    refine s_val rfl rfl (r_move) rfl ?_
    refine s_val rfl rfl (r_len Try.runUnderlying22 rfl) rfl ?_
    refine s_val rfl rfl (r_addi rfl rfl (by omega)) rfl ?_
    refine s_val rfl rfl (r_nilCheck rfl) rfl ?_
    refine s_val rfl rfl (r_fieldAddr Try.runUnderlying137 rfl Try.sizeOf3 rfl rfl) rfl ?_
    refine s_do rfl rfl (w_store1 (o := 97) Try.sizeOf3 rfl rfl rfl rfl ht) rfl ?_
    rintro _ w2 ⟨q_w2, c_w2⟩
    have hs_w2 : w.heap.size ≤ w2.heap.size := Chg.size c_w2
    replace hsm := hsm.ko c_w2 (by first | omega | decide)
    have C_w2 := Chg.into (Chg.refl (rng sb 0 98) w) c_w2 (by intro b' o' _ m; exact ⟨m.1, by have := m.2; omega, by have := m.2; omega⟩)
    have ht := q_w2
    refine s_end ?_
    refine go_seq ?_
    refine go_region 3 rfl rfl ?_
    refine s_val rfl rfl (r_move) rfl ?_
    refine s_val rfl rfl (r_move) rfl ?_
    refine s_do rfl rfl (w_call Try.call90 rfl (take_smr _ _ l sb _ _ _ _ (by first | omega | (simp; done) | (simp; omega)) (by first | omega | (simp; done) | (simp; omega)) (by first | omega | (simp; done) | (simp; omega)) hsm (hsl.kept C_w2 (fun _ _ ha_ _ _ m_ => hne _ ha_ m_.1)) hne)) rfl ?_
    rintro _ w3 ⟨q_w3, c_w3⟩
    have hs_w3 : w2.heap.size ≤ w3.heap.size := Chg.size c_w3
    replace ht := ht.ko c_w3 (by first | omega | exact ko_bs (by omega) | (simp only [List.length_cons, List.length_nil]; omega) | (simp; done) | (simp; omega))
    have C_w3 := Chg.into C_w2 c_w3 (by intro b' o' _ m; exact ⟨m.1, by have := m.2; omega, by have := m.2; omega⟩)
    have hsm := q_w3
    refine s_end ?_
    refine go_seq ?_
    refine go_region 1 rfl rfl ?_
    refine s_val rfl rfl (r_assign) rfl ?_
    refine s_end ?_
    refine go_ret ?_
    refine ⟨_, .cons rfl (.nil), ?_⟩
    exact ⟨rfl, hsm, ht, C_w3⟩

theorem copyW_spec (cs : List Value) (sb : Nat) (w : World) (hcs : cs.length = 98) (hf : Flat cs) (hp : Rd w sb 0 cs) :
    Rtn Try.prog 91 [.pointer (some ⟨sb, 0, none⟩)].toArray w (fun v w' => ∃ b, v = .pointer (some ⟨b, 0, none⟩) ∧ w.heap.size ≤ b ∧ b < w'.heap.size ∧ Pc w' b 0 cs ∧ Kept w w') := by
  refine fn_body (l := [.pointer (some ⟨sb, 0, none⟩)]) 7 [.tmp 2] Try.func91 rfl Try.ntmps91 (Nat.le_of_ble_eq_true rfl) (by rw [Try.results91]) ?_
  refine go_seq ?_
  refine go_region 1 rfl rfl ?_
  refine s_val rfl rfl (r_assign) rfl ?_
  refine s_end ?_
  refine go_seq ?_
  refine go_region 5 rfl rfl ?_
  refine s_val rfl rfl (r_move) rfl ?_
  refine s_val rfl rfl (r_nilCheck rfl) rfl ?_
  refine s_val rfl rfl (r_loadN Try.isAgg137 Try.sizeOf137 rfl (hp.k (Chg.refl no w)) (by first | exact hcs | rfl)) rfl ?_
  refine s_do rfl rfl (w_alloc (bs (List.replicate 64 0) ++ (bs (List.replicate 32 0) ++ ([i64 0] ++ ([i64 0])))) Try.zeroValue137 (by kernel_rfl)) rfl ?_
  rintro _ w1 ⟨b2, rfl, hl_b2, hu_b2, p3, c_w1⟩
  have hs_w1 : w.heap.size ≤ w1.heap.size := Chg.size c_w1
  have C_w1 := Chg.pure (Chg.refl no w) c_w1
  have hn_b2 : w.heap.size ≤ b2 := by have := Chg.size C_w1; omega
  refine s_do rfl rfl (w_storeA (o := 0) Try.sizeOf137 rfl rfl (by first | exact hcs | rfl) hf p3 (by first | exact hcs | rfl)) rfl ?_
  rintro _ w4 ⟨q_w4, c_w4⟩
  have hs_w4 : w1.heap.size ≤ w4.heap.size := Chg.size c_w4
  have C_w4 := Chg.newRng C_w1 c_w4 (by omega)
  have p3 := q_w4
  refine s_end ?_
  refine go_seq ?_
  refine go_region 1 rfl rfl ?_
  refine s_val rfl rfl (r_assign) rfl ?_
  refine s_end ?_
  refine go_ret ?_
  refine ⟨_, .cons rfl (.nil), ?_⟩
  exact ⟨_, rfl, hn_b2, by omega, p3, C_w4⟩


theorem copy_spec (s0 m : List UInt8) (sb t : Nat) (w : World) (hsm : Smr w sb s0 m) (ht : Rd w sb 97 [i64 (t : Nat)]) :
    Rtn Try.prog 91 [.pointer (some ⟨sb, 0, none⟩)].toArray w (fun v w' => ∃ b, v = .pointer (some ⟨b, 0, none⟩) ∧ w.heap.size ≤ b ∧ b < w'.heap.size ∧ Smr w' b s0 m ∧ Kept w w') := by
  obtain ⟨h0, rest, h1, h2, h3, h4⟩ := hsm
  have l1 : (bs (absorb s0 m (m.length / 32))).length = 64 := by rw [bs_length, absorb_length _ _ _ h0]
  have l2 : (bs rest).length = 32 := by rw [bs_length, h1.1]
  have e4 : Rd w sb 96 ([i64 ((m.length % 32 : Nat) : Int)] ++ [i64 (t : Nat)]) := h4.rd.app ht
  have e3 : Rd w sb 64 (bs rest ++ ([i64 ((m.length % 32 : Nat) : Int)] ++ [i64 (t : Nat)])) := h3.rd.app (by rw [l2]; exact e4)
  have e2 : Rd w sb 0 (bs (absorb s0 m (m.length / 32)) ++ (bs rest ++ ([i64 ((m.length % 32 : Nat) : Int)] ++ [i64 (t : Nat)]))) := h2.rd.app (by rw [l1]; exact e3)
  refine (copyW_spec _ sb w (by rw [List.length_append, List.length_append, l1, l2]; rfl) (flat_append (flat_bs _) (flat_append (flat_bs _) (flat_append (flat_one rfl) (flat_one rfl)))) e2).mono fun v w' ⟨b, e, hl, hu, hp, c⟩ => ?_
  obtain ⟨p1, p2⟩ := Pc.split hp l1
  obtain ⟨p3, p4⟩ := Pc.split p2 l2
  obtain ⟨p5, _⟩ := Pc.split p4 (n := 1) rfl
  exact ⟨b, e, hl, hu, ⟨h0, rest, h1, p1, p3, p5⟩, c⟩
/-- the state that a summer begins with -/
def initS (d : Int) : List UInt8 := (List.replicate 64 0).set 63 (b8 d)
@[simp] theorem initS_length (d : Int) : (initS d).length = 64 := by simp [initS]
def padM (m : List UInt8) : List UInt8 := if 0 < (m ++ [128]).length % 32 then (m ++ [128]) ++ List.replicate (32 - (m ++ [128]).length % 32) 0 else m ++ [128]
def lastB (t : Nat) : List UInt8 := putAt (List.replicate 32 0) 24 ((oct8 (w64 (t : Int))).take 8)
@[simp] theorem lastB_length (t : Nat) : (lastB t).length = 32 := by rw [lastB, putAt_length _ _ _ (by simp)]; simp
def endF (s0 m : List UInt8) (t : Nat) : List UInt8 := blockB (absorb s0 (padM m) ((padM m).length / 32)) (lastB t)
@[simp] theorem endF_length (s0 m : List UInt8) (t : Nat) : (endF s0 m t).length = 64 := blockB_length _ _

theorem end_spec (s0 m : List UInt8) (sb t : Nat) (w : World) (htt : t < 4611686018427387904) (hsm : Smr w sb s0 m) (ht : Rd w sb 97 [i64 (t : Nat)]) :
    Rtn Try.prog 83 [.pointer (some ⟨sb, 0, none⟩)].toArray w (fun v w' => v = .agg (bs (endF s0 m t)).toArray ∧ Kept w w') := by
  have hlast : (putAt (List.replicate 32 0) 24 ((oct8 (w64 (t : Int))).take (32 - 24))).length = 32 := lastB_length t
  refine fn_body (l := [.pointer (some ⟨sb, 0, none⟩)]) 39 [.cell 2 90] Try.func83 rfl Try.ntmps83 (Nat.le_of_ble_eq_true rfl) (by rw [Try.results83]) ?_
  refine go_seq ?_
  refine go_region 1 rfl rfl ?_
  refine s_do rfl rfl (w_alloc (bs (List.replicate 64 0)) Try.zeroValue90 (by kernel_rfl)) rfl ?_
  rintro _ w1 ⟨b2, rfl, hl_b2, hu_b2, p3, c_w1⟩
  have hs_w1 : w.heap.size ≤ w1.heap.size := Chg.size c_w1
  have C_w1 := Chg.pure (Chg.refl no w) c_w1
  have hn_b2 : w.heap.size ≤ b2 := by have := Chg.size C_w1; omega
  refine s_end ?_
  refine go_seq ?_
  refine go_region 3 rfl rfl ?_
  refine s_val rfl rfl (r_move) rfl ?_
  refine s_do rfl rfl (w_call Try.call91 rfl (copy_spec _ _ _ _ _ (hsm.k C_w1) (ht.k C_w1))) rfl ?_
  rintro _ w4 ⟨b5, rfl, hl_b5, hu_b5, sm6, c_w4⟩
  have hs_w4 : w1.heap.size ≤ w4.heap.size := Chg.size c_w4
  replace p3 := p3.k c_w4
  have C_w4 := Chg.pure C_w1 c_w4
  have hn_b5 : w.heap.size ≤ b5 := by have := Chg.size C_w4; omega
  refine s_val rfl rfl (r_assign) rfl ?_
  refine s_end ?_
  refine go_seq ?_
  refine go_region 3 rfl rfl ?_
  refine s_val rfl rfl (r_move) rfl ?_
  refine s_do rfl rfl (w_build1 (E := 5) Try.underlying22 (i := Try.t5) (by kernel_rfl) rfl rfl rfl rfl rfl) rfl ?_
  rintro _ w7 ⟨b8, rfl, hl_b8, hu_b8, o10, p9, c_w7⟩
  have hs_w7 : w4.heap.size ≤ w7.heap.size := Chg.size c_w7
  replace p3 := p3.k c_w7
  replace sm6 := sm6.k c_w7
  have C_w7 := Chg.pure C_w4 c_w7
  have hn_b8 : w.heap.size ≤ b8 := by have := Chg.size C_w7; omega
  replace p9 : Pc w7 b8 0 (bs [128]) := p9
  refine s_do rfl rfl (w_call Try.call90 rfl (take_smr _ _ [128] b5 _ _ _ _ (by first | omega | (simp; done) | (simp; omega)) (by first | omega | (simp; done) | (simp; omega)) (by first | omega | (simp; done) | (simp; omega)) sm6 (SlAt.some p9.rd) (by intro x_ hx_; cases hx_; show b8 ≠ b5; omega))) rfl ?_
  rintro _ w11 ⟨q_w11, c_w11⟩
  have hs_w11 : w7.heap.size ≤ w11.heap.size := Chg.size c_w11
  replace p3 := p3.kb c_w11 (by omega)
  replace p9 := p9.kb c_w11 (by omega)
  have C_w11 := Chg.newRng C_w7 c_w11 (by omega)
  have sm6 := q_w11
  refine s_end ?_
  refine go_seq ?_
  refine go_seq ?_
  refine go_region 5 rfl rfl ?_
  refine s_val rfl rfl (r_move) rfl ?_
  refine s_val rfl rfl (r_nilCheck rfl) rfl ?_
  refine s_val rfl rfl (r_fieldAddr Try.runUnderlying137 rfl Try.sizeOf3 rfl rfl) rfl ?_
  have tmp12 := Smr.hv sm6
  refine s_val rfl rfl (r_load1 Try.isAgg3 rfl tmp12) rfl ?_
  refine s_val rfl rfl (r_gtr rfl rfl) rfl ?_
  refine s_end ?_
  refine go_meet [(16, 23)] (fun e' w' => Smr w' b5 s0 (padM m) ∧ Pc w' b2 0 (bs (List.replicate 64 0)) ∧ b2 < w'.heap.size ∧ b5 < w'.heap.size ∧ Chg no w w') ?_ ?_
  ·
    refine go_ifb _ rfl (fun h1 => ?_) (fun h1 => ?_)
    · first | replace h1 := of_decide_eq_true h1 | replace h1 := of_decide_eq_false (nt h1) | skip
      refine go_region 8 rfl rfl ?_
      refine s_val rfl rfl (r_move) rfl ?_
      refine s_val rfl rfl (r_move) rfl ?_
      refine s_val rfl rfl (r_nilCheck rfl) rfl ?_
      refine s_val rfl rfl (r_fieldAddr Try.runUnderlying137 rfl Try.sizeOf3 rfl rfl) rfl ?_
      refine s_val rfl rfl (r_load1 Try.isAgg3 rfl tmp12) rfl ?_
      refine s_val rfl rfl (r_subi rfl rfl (by omega)) rfl ?_
      refine s_do rfl rfl (w_make (n := (32 - ((m ++ [128])).length % 32)) (c := (32 - ((m ++ [128])).length % 32)) (E := 5) Try.underlying22 (i := Try.t5) (by kernel_rfl) rfl rfl rfl rfl rfl (by first | rfl | omega) (by first | rfl | omega) (by omega) (by first | decide | (show _ * 1 ≤ _; omega) | (show _ * 8 ≤ _; omega)) (by omega)) rfl ?_
      rintro _ w15 ⟨b16, rfl, hl_b16, hu_b16, o18, p17, c_w15⟩
      have hs_w15 : w11.heap.size ≤ w15.heap.size := Chg.size c_w15
      replace p3 := p3.k c_w15
      replace p9 := p9.k c_w15
      replace sm6 := sm6.k c_w15
      have C_w15 := Chg.pure C_w11 c_w15
      have hn_b16 : w.heap.size ≤ b16 := by have := Chg.size C_w15; omega
      replace p17 : Pc w15 b16 0 (bs (List.replicate (32 - ((m ++ [128])).length % 32) 0)) := by rw [bs_rep]; exact p17
      refine s_do rfl rfl (w_call Try.call90 rfl (take_smr _ _ (List.replicate (32 - ((m ++ [128])).length % 32) 0) b5 _ _ _ _ (by first | omega | (simp; done) | (simp; omega)) (by first | omega | (simp; done) | (simp; omega)) (by first | omega | (simp; done) | (simp; omega)) sm6 (SlAt.some p17.rd) (by intro x_ hx_; cases hx_; show b16 ≠ b5; omega))) rfl ?_
      rintro _ w19 ⟨q_w19, c_w19⟩
      have hs_w19 : w15.heap.size ≤ w19.heap.size := Chg.size c_w19
      replace p3 := p3.kb c_w19 (by omega)
      replace p9 := p9.kb c_w19 (by omega)
      replace p17 := p17.kb c_w19 (by omega)
      have C_w19 := Chg.newRng C_w15 c_w19 (by omega)
      have sm6 := q_w19
      refine s_end ?_
      refine go_nil (loop_normal ⟨?_, (by repeat (first | exact same_refl | exact same_over | refine same_upd rfl ?_ | refine same_over2 rfl ?_))⟩)
      exact ⟨by first | (rw [padM, if_pos (by omega)]; exact sm6) | (rw [padM, if_neg (by omega)]; exact sm6), p3, by omega, by omega, C_w19⟩
    · first | replace h1 := of_decide_eq_false h1 | replace h1 := of_decide_eq_true (nf h1) | skip
      refine go_skip ?_
      refine go_nil (loop_normal ⟨?_, (by repeat (first | exact same_refl | exact same_over | refine same_upd rfl ?_ | refine same_over2 rfl ?_))⟩)
      exact ⟨by first | (rw [padM, if_pos (by omega)]; exact sm6) | (rw [padM, if_neg (by omega)]; exact sm6), p3, by omega, by omega, C_w11⟩
  rintro f14 w13 ⟨hs2, p3, hu_b2, hu2, C_w13⟩
  have hs_w13 : w.heap.size ≤ w13.heap.size := Chg.size C_w13
  refine go_seq ?_
  refine go_region 1 rfl rfl ?_
  refine s_do rfl rfl (w_alloc (bs (List.replicate 32 0)) Try.zeroValue24 (by kernel_rfl)) rfl ?_
  rintro _ w20 ⟨b21, rfl, hl_b21, hu_b21, p22, c_w20⟩
  have hs_w20 : w13.heap.size ≤ w20.heap.size := Chg.size c_w20
  replace hs2 := hs2.k c_w20
  replace p3 := p3.k c_w20
  have C_w20 := Chg.pure C_w13 c_w20
  have hn_b21 : w.heap.size ≤ b21 := by have := Chg.size C_w20; omega
  refine s_end ?_
  refine go_seq ?_
  refine go_region 8 rfl rfl ?_
  refine s_val rfl rfl (r_move) rfl ?_
  refine s_val rfl rfl (r_nilCheck rfl) rfl ?_
  refine s_val rfl rfl (r_fieldAddr Try.runUnderlying137 rfl Try.sizeOf3 rfl rfl) rfl ?_
  refine s_val rfl rfl (r_load1 Try.isAgg3 rfl (ht.k C_w20)) rfl ?_
  refine s_val rfl rfl (r_conv_u64 Try.runUnderlying3 Try.runUnderlying121 rfl) rfl ?_
  refine s_do rfl rfl (w_call Try.call92 rfl (oct8_spec _ _)) rfl ?_
  rintro _ w23 ⟨rfl, c_w23⟩
  have hs_w23 : w20.heap.size ≤ w23.heap.size := Chg.size c_w23
  replace hs2 := hs2.k c_w23
  replace p3 := p3.k c_w23
  replace p22 := p22.k c_w23
  have C_w23 := Chg.pure C_w20 c_w23
  refine s_do rfl rfl (w_alloc (bs (List.replicate 8 0)) Try.zeroValue140 (by kernel_rfl)) rfl ?_
  rintro _ w24 ⟨b25, rfl, hl_b25, hu_b25, p26, c_w24⟩
  have hs_w24 : w23.heap.size ≤ w24.heap.size := Chg.size c_w24
  replace hs2 := hs2.k c_w24
  replace p3 := p3.k c_w24
  replace p22 := p22.k c_w24
  have C_w24 := Chg.pure C_w23 c_w24
  have hn_b25 : w.heap.size ≤ b25 := by have := Chg.size C_w24; omega
  refine s_do rfl rfl (w_storeA (o := 0) Try.sizeOf140 rfl rfl (by first | exact bs_len (by omega) | exact bs_len (by simp; done) | exact bs_len (by simp; omega)) (flat_bs _) p26 (by first | exact bs_len (by omega) | exact bs_len (by simp; done) | exact bs_len (by simp; omega))) rfl ?_
  rintro _ w27 ⟨q_w27, c_w27⟩
  have hs_w27 : w24.heap.size ≤ w27.heap.size := Chg.size c_w27
  replace hs2 := hs2.kb c_w27 (by omega)
  replace p3 := p3.kb c_w27 (by omega)
  replace p22 := p22.kb c_w27 (by omega)
  have C_w27 := Chg.newRng C_w24 c_w27 (by omega)
  have p26 := q_w27
  refine s_end ?_
  refine go_seq ?_
  refine go_drawsE 2 (.take 0 (.take 1 (.eff 2 .done))) (by kernel_rfl) (by kernel_rfl) fun w28 c_w28 => ?_
  have hs_w28 : w27.heap.size ≤ w28.heap.size := Chg.size c_w28
  replace hs2 := hs2.k c_w28
  replace p3 := p3.k c_w28
  replace p22 := p22.k c_w28
  replace p26 := p26.k c_w28
  have C_w28 := Chg.pure C_w27 c_w28
  refine s_takeE rfl rfl (r_sliceA (l := 24) (h := 32) (m := 32) Try.runUnderlying24 Try.sizeOf5 rfl ⟨_, _, rfl, by first | rfl | omega⟩ rfl rfl (by first | decide | (intro h_; cases h_)) (by first | decide | omega) (by first | decide | omega | (intro _; omega)) (by first | decide | omega) (by first | decide | omega)) ?_
  refine s_takeE rfl rfl (r_sliceA (l := 0) (h := 8) (m := 8) Try.runUnderlying140 Try.sizeOf5 rfl rfl rfl rfl (by first | decide | (intro h_; cases h_)) (by first | decide | omega) (by first | decide | omega | (intro _; omega)) (by first | decide | omega) (by first | decide | omega)) ?_
  refine s_do rfl rfl (w_copy_b (o := 0) (lo := 24) Try.underlying22 (by kernel_rfl) rfl rfl p22 (by first | omega | (simp; done) | (simp; omega)) (SlAt.some p26.rd) (by first | rfl | omega | (simp; done) | (simp; omega))) rfl ?_
  rintro _ w29 ⟨rfl, q_w29, c_w29⟩
  have hs_w29 : w28.heap.size ≤ w29.heap.size := Chg.size c_w29
  replace hs2 := hs2.kb c_w29 (by omega)
  replace p3 := p3.kb c_w29 (by omega)
  replace p26 := p26.kb c_w29 (by omega)
  have C_w29 := Chg.newRng C_w28 c_w29 (by omega)
  have p22 := q_w29
  refine s_end ?_
  refine go_seq ?_
  refine go_region 2 rfl rfl ?_
  refine s_val rfl rfl (r_move) rfl ?_
  have tmp31 := Smr.st hs2
  have hl_tmp31 := absorb_length _ (padM m) (List.length (padM m) / 32) (Smr.len hs2)
  refine s_do rfl rfl (w_call Try.call93 rfl (blockB_spec _ _ b5 _ _ _ (by first | omega | (simp; done) | (simp; omega)) (by first | omega | (simp; done) | (simp; omega)) tmp31 p22.rd (.inl (by omega)))) rfl ?_
  rintro _ w30 ⟨q_w30, c_w30⟩
  have hs_w30 : w29.heap.size ≤ w30.heap.size := Chg.size c_w30
  replace p3 := p3.kb c_w30 (by omega)
  replace p26 := p26.kb c_w30 (by omega)
  replace p22 := p22.kb c_w30 (by omega)
  have C_w30 := Chg.newRng C_w29 c_w30 (by omega)
  have tmp31 := q_w30
  refine s_end ?_
  refine go_seq ?_
  refine go_region 5 rfl rfl ?_
  refine s_val rfl rfl (r_move) rfl ?_
  refine s_val rfl rfl (r_nilCheck rfl) rfl ?_
  refine s_val rfl rfl (r_fieldAddr Try.runUnderlying137 rfl Try.sizeOf90 rfl rfl) rfl ?_
  refine s_val rfl rfl (r_loadN Try.isAgg90 Try.sizeOf90 rfl tmp31.rd (by first | exact bs_len (by omega) | exact bs_len (by simp; done) | exact bs_len (by simp; omega))) rfl ?_
  refine s_do rfl rfl (w_storeA (o := 0) Try.sizeOf90 rfl rfl (by first | exact bs_len (by omega) | exact bs_len (by simp; done) | exact bs_len (by simp; omega)) (flat_bs _) p3 (by first | exact bs_len (by omega) | exact bs_len (by simp; done) | exact bs_len (by simp; omega))) rfl ?_
  rintro _ w32 ⟨q_w32, c_w32⟩
  have hs_w32 : w30.heap.size ≤ w32.heap.size := Chg.size c_w32
  replace p26 := p26.kb c_w32 (by omega)
  replace p22 := p22.kb c_w32 (by omega)
  replace tmp31 := tmp31.kb c_w32 (by omega)
  have C_w32 := Chg.newRng C_w30 c_w32 (by omega)
  have p3 := q_w32
  refine s_end ?_
  refine go_ret ?_
  refine ⟨_, .cons ⟨_, rfl, run_load_agg Try.isAgg90 Try.sizeOf90 (by first | exact bs_len (by omega) | exact bs_len (by simp; done) | exact bs_len (by simp; omega)) p3.rd⟩ (.nil), ?_⟩
  exact ⟨rfl, C_w32⟩

theorem sum_spec (s0 m : List UInt8) (sb t : Nat) (w : World) (htt : t < 4611686018427387904) (hsm : Smr w sb s0 m) (ht : Rd w sb 97 [i64 (t : Nat)]) :
    Rtn Try.prog 62 [.pointer (some ⟨sb, 0, none⟩)].toArray w (fun v w' => v = .agg (bs ((endF s0 m t).take 32)).toArray ∧ Kept w w') := by
  refine fn_body (l := [.pointer (some ⟨sb, 0, none⟩)]) 9 [.cell 2 25] Try.func62 rfl Try.ntmps62 (Nat.le_of_ble_eq_true rfl) (by rw [Try.results62]) ?_
  refine go_seq ?_
  refine go_region 1 rfl rfl ?_
  refine s_do rfl rfl (w_alloc (bs (List.replicate 32 0)) Try.zeroValue25 (by kernel_rfl)) rfl ?_
  rintro _ w1 ⟨b2, rfl, hl_b2, hu_b2, p3, c_w1⟩
  have hs_w1 : w.heap.size ≤ w1.heap.size := Chg.size c_w1
  have C_w1 := Chg.pure (Chg.refl no w) c_w1
  have hn_b2 : w.heap.size ≤ b2 := by have := Chg.size C_w1; omega
  refine s_end ?_
  refine go_seq ?_
  refine go_region 4 rfl rfl ?_
  refine s_val rfl rfl (r_move) rfl ?_
  refine s_do rfl rfl (w_call Try.call83 rfl (end_spec _ _ _ _ _ (by omega) (hsm.k C_w1) (ht.k C_w1))) rfl ?_
  rintro _ w4 ⟨rfl, c_w4⟩
  have hs_w4 : w1.heap.size ≤ w4.heap.size := Chg.size c_w4
  replace p3 := p3.k c_w4
  have C_w4 := Chg.pure C_w1 c_w4
  refine s_do rfl rfl (w_alloc (bs (List.replicate 64 0)) Try.zeroValue90 (by kernel_rfl)) rfl ?_
  rintro _ w5 ⟨b6, rfl, hl_b6, hu_b6, p7, c_w5⟩
  have hs_w5 : w4.heap.size ≤ w5.heap.size := Chg.size c_w5
  replace p3 := p3.k c_w5
  have C_w5 := Chg.pure C_w4 c_w5
  have hn_b6 : w.heap.size ≤ b6 := by have := Chg.size C_w5; omega
  refine s_do rfl rfl (w_storeA (o := 0) Try.sizeOf90 rfl rfl (by first | exact bs_len (by omega) | exact bs_len (by simp; done) | exact bs_len (by simp; omega)) (flat_bs _) p7 (by first | exact bs_len (by omega) | exact bs_len (by simp; done) | exact bs_len (by simp; omega))) rfl ?_
  rintro _ w8 ⟨q_w8, c_w8⟩
  have hs_w8 : w5.heap.size ≤ w8.heap.size := Chg.size c_w8
  replace p3 := p3.kb c_w8 (by omega)
  have C_w8 := Chg.newRng C_w5 c_w8 (by omega)
  have p7 := q_w8
  refine s_end ?_
  refine go_seq ?_
  refine go_region 4 rfl rfl ?_
  refine s_val rfl rfl (r_sliceA (l := 0) (h := 32) (m := 64) Try.runUnderlying90 Try.sizeOf5 rfl rfl ⟨_, _, rfl, by first | rfl | omega⟩ rfl (by first | decide | (intro h_; cases h_)) (by first | decide | omega) (by first | decide | omega | (intro _; omega)) (by first | decide | omega) (by first | decide | omega)) rfl ?_
  refine s_val rfl rfl (r_toArr Try.runUnderlying25 rfl (by first | decide | omega)) rfl ?_
  refine s_val rfl rfl (r_loadN Try.isAgg25 Try.sizeOf25 rfl (Rd.subB p7.rd 0 32) (bs_len (by first | (simp; done) | (simp; omega)))) rfl ?_
  refine s_do rfl rfl (w_storeA (o := 0) Try.sizeOf25 rfl rfl (by first | exact bs_len (by omega) | exact bs_len (by simp; done) | exact bs_len (by simp; omega)) (flat_bs _) p3 (by first | exact bs_len (by omega) | exact bs_len (by simp; done) | exact bs_len (by simp; omega))) rfl ?_
  rintro _ w9 ⟨q_w9, c_w9⟩
  have hs_w9 : w8.heap.size ≤ w9.heap.size := Chg.size c_w9
  replace p7 := p7.kb c_w9 (by omega)
  have C_w9 := Chg.newRng C_w8 c_w9 (by omega)
  have p3 := q_w9
  refine s_end ?_
  refine go_ret ?_
  refine ⟨_, .cons ⟨_, rfl, run_load_agg Try.isAgg25 Try.sizeOf25 (by first | exact bs_len (by omega) | exact bs_len (by simp; done) | exact bs_len (by simp; omega)) p3.rd⟩ (.nil), ?_⟩
  exact ⟨rfl, C_w9⟩

theorem newSum_spec (d : Int) (w : World) (h0 : 0 ≤ d) (h1 : d ≤ 255) :
    Rtn Try.prog 81 [i64 d].toArray w (fun v w' => ∃ b, v = tup [.pointer (some ⟨b, 0, none⟩), i64 0] ∧ w.heap.size ≤ b ∧ b < w'.heap.size ∧ Smr w' b (initS d) [] ∧ Pc w' b 97 [i64 ((0 : Nat) : Int)] ∧ Kept w w') := by
  refine fn_body (l := [i64 d]) 20 [.tmp 2, .tmp 3] Try.func81 rfl Try.ntmps81 (Nat.le_of_ble_eq_true rfl) (by rw [Try.results81]) ?_
  refine go_seq ?_
  refine go_region 2 rfl rfl ?_
  refine s_val rfl rfl (r_assign) rfl ?_
  refine s_val rfl rfl (r_assign) rfl ?_
  refine s_end ?_
  refine go_seq ?_
  refine go_seq ?_
  refine go_region 6 rfl rfl ?_
  refine s_val rfl rfl (r_move) rfl ?_
  refine s_val rfl rfl (r_lss rfl rfl) rfl ?_
  refine s_valB rfl rfl (r_move) rfl (fun h1 => ?_) (fun h1 => ?_)
  · first | replace h1 := of_decide_eq_true h1 | replace h1 := of_decide_eq_false (nt h1) | skip
    exfalso
    omega
  · first | replace h1 := of_decide_eq_false h1 | replace h1 := of_decide_eq_true (nf h1) | skip
    refine s_val_g rfl rfl (r_move) rfl ?_
    refine s_val_g rfl rfl (r_gtr rfl rfl) rfl ?_
    refine s_val rfl rfl (r_pick false rfl) rfl ?_
    refine s_end ?_
    refine go_ifb _ rfl (fun h2 => ?_) (fun h2 => ?_)
    · first | replace h2 := of_decide_eq_true h2 | replace h2 := of_decide_eq_false (nt h2) | skip
      exfalso
      omega
    · first | replace h2 := of_decide_eq_false h2 | replace h2 := of_decide_eq_true (nf h2) | skip
      refine go_skip ?_
      refine go_seq ?_
      refine go_region 3 rfl rfl ?_
      refine s_val rfl rfl (r_buildP (cells := (bs (List.replicate 64 0) ++ (bs (List.replicate 32 0) ++ ([i64 0] ++ ([i64 0]))))) (by kernel_rfl)) rfl ?_
      refine s_do rfl rfl (w_boxA rfl) rfl ?_
      rintro _ w3 ⟨b4, rfl, hl_b4, hu_b4, p5, c_w3⟩
      have hs_w3 : w.heap.size ≤ w3.heap.size := Chg.size c_w3
      have C_w3 := Chg.pure (Chg.refl no w) c_w3
      have hn_b4 : w.heap.size ≤ b4 := by have := Chg.size C_w3; omega
      obtain ⟨p6, p7⟩ := Pc.split p5 (n := 64) (by first | rfl | (simp; done))
      replace p6 : Pc _ _ 0 _ := p6
      obtain ⟨p8, p9⟩ := Pc.split p7 (n := 32) (by first | rfl | (simp; done))
      replace p8 : Pc _ _ 64 _ := p8
      obtain ⟨p10, p11⟩ := Pc.split p9 (n := 1) (by first | rfl | (simp; done))
      replace p10 : Pc _ _ 96 _ := p10
      have p12 : Pc _ _ 97 _ := p11
      refine s_val rfl rfl (r_assign) rfl ?_
      refine s_end ?_
      refine go_seq ?_
      refine go_region 7 rfl rfl ?_
      refine s_val rfl rfl (r_move) rfl ?_
      refine s_val rfl rfl (r_move) rfl ?_
      refine s_val rfl rfl (r_conv_u8 Try.runUnderlying3 Try.runUnderlying5 rfl) rfl ?_
      refine s_val rfl rfl (r_nilCheck rfl) rfl ?_
      refine s_val rfl rfl (r_fieldAddr Try.runUnderlying137 rfl Try.sizeOf90 rfl rfl) rfl ?_
      refine s_val rfl rfl (r_indexArr (k := 63) Try.runUnderlying90 Try.sizeOf5 rfl rfl (by first | rfl | omega) (by first | decide | omega)) rfl ?_
      refine s_do rfl rfl (w_set_b (o := 0) (k := 63) Try.sizeOf5 rfl rfl p6 (by first | omega | (simp; done) | (simp; omega))) rfl ?_
      rintro _ w14 ⟨q_w14, c_w14⟩
      have hs_w14 : w3.heap.size ≤ w14.heap.size := Chg.size c_w14
      replace p8 := p8.ko c_w14 (by first | omega | exact ko_bs (by omega) | (simp only [List.length_cons, List.length_nil]; omega) | (simp; done) | (simp; omega))
      replace p10 := p10.ko c_w14 (by first | omega | exact ko_bs (by omega) | (simp only [List.length_cons, List.length_nil]; omega) | (simp; done) | (simp; omega))
      replace p12 := p12.ko c_w14 (by first | omega | exact ko_bs (by omega) | (simp only [List.length_cons, List.length_nil]; omega) | (simp; done) | (simp; omega))
      have C_w14 := Chg.newRng C_w3 c_w14 (by omega)
      have p6 := q_w14
      refine s_end ?_
      refine go_seq ?_
      refine go_region 3 rfl rfl ?_
      refine s_val rfl rfl (r_move) rfl ?_
      refine s_val rfl rfl (r_assign) rfl ?_
      refine s_val rfl rfl (r_assign) rfl ?_
      refine s_end ?_
      refine go_ret ?_
      refine ⟨_, .cons rfl (.cons rfl (.nil)), ?_⟩
      exact ⟨_, rfl, hn_b4, by omega, ⟨initS_length d, _, ⟨by simp, rfl⟩, p6, p8, p10⟩, p12, C_w14⟩

end Go.Proofs.Ytdnccchcflaphaa
