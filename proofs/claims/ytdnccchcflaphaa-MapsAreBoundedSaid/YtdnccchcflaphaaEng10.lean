/- Eng10: a calculus of walks over frames that are read as functions, for the program's code as the model has it: proved for every program. -/
import Derived.Test.YtdnccchcflaphaaEng9
import Derived.Lib.Tables
open Go Go.Eng
namespace Go.Eng
variable {P : Program} {w : World} {e : Env} {d : Option Nat} {ty : TypeId} {pos : String} {aft : Array Edge} {g : Option (Nat × Bool)}
theorem r_shl1 {t t' : TypeId} {x y : Operand} {yk : IntKind} {k : Nat} {b : Int} (hx : ev e x = i64 1) (hy : ev e y = .int yk b) (hb : b = (k : Int)) (hk : k ≤ 62) : (execOp (ev e) ⟨d, .binOp .shl t x y t', ty, pos, aft, g⟩).run P w = .ok (.value (i64 ((2 ^ k : Nat) : Int))) w := by
  subst hb
  rw [r_shl hx hy (by omega)]
  have h1 : min ((k : Int).toNat) IntKind.i64.bits = k := by rw [show IntKind.i64.bits = 64 from rfl, Int.toNat_natCast]; omega
  have h2 : (2 ^ k : Nat) ≤ 2 ^ 62 := Nat.pow_le_pow_right (by decide) hk
  have h3 : (2 ^ 62 : Nat) = 4611686018427387904 := by decide
  have h4 : (1 : Int) * 2 ^ k = ((2 ^ k : Nat) : Int) := by rw [Int.one_mul]; exact (Int.natCast_pow 2 k).symm
  rw [h1, h4]
  rw [h3] at h2
  generalize (2 ^ k : Nat) = q at h2 ⊢
  rw [wrap_i64_of _ (by omega)]
/- ### lists of sums -/
def All32 (L : List (List UInt8)) : Prop := ∀ x ∈ L, x.length = 32
theorem All32.nil : All32 [] := fun _ h => by cases h
theorem All32.take {L : List (List UInt8)} (h : All32 L) (k : Nat) : All32 (L.take k) := fun x hx => h x (List.mem_of_mem_take hx)
theorem All32.drop {L : List (List UInt8)} (h : All32 L) (k : Nat) : All32 (L.drop k) := fun x hx => h x (List.mem_of_mem_drop hx)
theorem All32.app {L M : List (List UInt8)} (h : All32 L) (h2 : All32 M) : All32 (L ++ M) := fun x hx => by
  rcases List.mem_append.1 hx with hx | hx
  · exact h x hx
  · exact h2 x hx
theorem All32.one {x : List UInt8} (h : x.length = 32) : All32 [x] := fun y hy => by simp at hy; subst hy; exact h
theorem All32.len {L : List (List UInt8)} (h : All32 L) : L.flatten.length = 32 * L.length := by
  induction L with
  | nil => rfl
  | cons x L ih =>
    rw [List.flatten_cons, List.length_append, h x (by simp), ih (fun y hy => h y (by simp [hy])), List.length_cons]
    omega
theorem All32.get {L : List (List UInt8)} (h : All32 L) {k : Nat} (hk : k < L.length) : (L.getD k []).length = 32 := by
  rw [List.getD_eq_getElem?_getD, List.getElem?_eq_getElem hk]
  exact h _ (List.getElem_mem hk)
theorem drop_flat {L : List (List UInt8)} (h : All32 L) (k : Nat) : L.flatten.drop (k * 32) = (L.drop k).flatten := by
  induction L generalizing k with
  | nil => simp
  | cons x L ih =>
    have hx := h x (by simp)
    cases k with
    | zero => simp
    | succ k =>
      rw [List.flatten_cons, List.drop_append, List.drop_eq_nil_of_le (by omega), List.nil_append, List.drop_succ_cons, ← ih (fun y hy => h y (by simp [hy])), hx]
      congr 1; omega
theorem take_flat {L : List (List UInt8)} (h : All32 L) (k : Nat) : L.flatten.take (k * 32) = (L.take k).flatten := by
  induction L generalizing k with
  | nil => simp
  | cons x L ih =>
    have hx := h x (by simp)
    cases k with
    | zero => simp
    | succ k =>
      rw [List.flatten_cons, List.take_append, List.take_of_length_le (by omega), List.take_succ_cons, List.flatten_cons, ← ih (fun y hy => h y (by simp [hy])), hx]
      congr 2; omega
theorem sum_get {L : List (List UInt8)} (h : All32 L) {k : Nat} (hk : k < L.length) : ((bs L.flatten).drop (k * 32)).take 32 = bs (L.getD k []) := by
  rw [bs_sub, drop_flat h]
  have : L.drop k = L.getD k [] :: L.drop (k + 1) := by
    rw [List.drop_eq_getElem_cons hk, List.getD_eq_getElem?_getD, List.getElem?_eq_getElem hk]; rfl
  rw [this, List.flatten_cons, List.take_append, List.take_of_length_le (by rw [h.get hk]; omega), h.get hk]
  simp
theorem sums_ne {L : List (List UInt8)} (h : All32 L) (hl : 0 < L.length) : bs L.flatten ≠ [] := bs_ne (by rw [h.len]; omega)
theorem SlAt.cutS_drop {a : Option Addr} {L : List (List UInt8)} (h : SlAt w a (bs L.flatten)) (h32 : All32 L) (k m : Nat) (hm : L.length ≤ m) : SlAt w (cutA a k m 32) (bs (L.drop k).flatten) := by
  have := h.cut k m 32 L.flatten.length (by rw [bs_length, h32.len]; omega)
  rwa [bs_sub, drop_flat h32, List.take_of_length_le (by rw [(h32.drop k).len, h32.len, List.length_drop]; omega)] at this
theorem SlAt.cutS_take {a : Option Addr} {L : List (List UInt8)} (h : SlAt w a (bs L.flatten)) (h32 : All32 L) (k m : Nat) (hm : L.length ≤ m) : SlAt w (cutA a 0 m 32) (bs (L.take k).flatten) := by
  have := h.cut 0 m 32 (k * 32) (by rw [bs_length, h32.len]; omega)
  rwa [bs_sub, Nat.zero_mul, List.drop_zero, take_flat h32] at this
theorem Owns.appS {B : Nat} {E : TypeId} {sz n : Nat} {v : Value} {L : List (List UInt8)} {x : List UInt8} (h : Owns w B E sz v n (bs L.flatten ++ bs x)) : Owns w B E sz v n (bs (L ++ [x]).flatten) := by
  rw [List.flatten_append, bs_append]
  simpa using h
/- ### lengths of binary numbers -/
def lenN (n : Nat) : Nat := if n = 0 then 0 else n.log2 + 1
theorem log2_half {n : Nat} (h : 2 ≤ n) : n.log2 = (n / 2).log2 + 1 := by
  conv => lhs; rw [Nat.log2_def]
  rw [if_pos h]
theorem log2_pow (k : Nat) : ∀ {n : Nat}, 2 ^ k ≤ n → n.log2 = (n / 2 ^ k).log2 + k := by
  induction k with
  | zero => intro n _; simp
  | succ k ih =>
    intro n h
    have h1 : 2 ^ (k + 1) = 2 * 2 ^ k := by rw [Nat.pow_succ]; omega
    have h2 : 0 < 2 ^ k := Nat.pow_pos (by decide)
    rw [log2_half (by omega), ih (n := n / 2) (by omega), Nat.div_div_eq_div_mul, ← h1]
    omega
theorem lenN_pow (k : Nat) {n : Nat} (h : 2 ^ k ≤ n) : lenN n = k + lenN (n / 2 ^ k) := by
  have h2 : 0 < 2 ^ k := Nat.pow_pos (by decide)
  have h3 : 0 < n / 2 ^ k := Nat.div_pos h h2
  rw [lenN, lenN, if_neg (by omega), if_neg (by omega), log2_pow k h]
  omega
theorem shr64_toNat (p : UInt64) (k : Nat) (hk : k ≤ 64) : (shr64 p k).toNat = p.toNat / 2 ^ k := by
  rw [shr64, UInt64.toNat_ofNat', Nat.min_eq_left hk]
  have := p.toNat_lt
  exact Nat.mod_eq_of_lt (Nat.lt_of_le_of_lt (Nat.div_le_self _ _) this)
/-- the greatest power of two below n -/
def halfN (n : Nat) : Nat := 2 ^ (n - 1).log2
theorem halfN_pos (n : Nat) : 0 < halfN n := Nat.pow_pos (by decide)
theorem halfN_lt {n : Nat} (h : 2 ≤ n) : halfN n < n := by
  have := Nat.log2_self_le (n := n - 1) (by omega)
  unfold halfN
  omega
theorem halfN_of {n k : Nat} (h1 : 2 ^ k < n) (h2 : n ≤ 2 ^ (k + 1)) : halfN n = 2 ^ k := by
  have h3 : 0 < 2 ^ k := Nat.pow_pos (by decide)
  have := (Nat.log2_eq_iff (n := n - 1) (k := k) (by omega)).2 ⟨by omega, by omega⟩
  rw [halfN, this]
end Go.Eng
