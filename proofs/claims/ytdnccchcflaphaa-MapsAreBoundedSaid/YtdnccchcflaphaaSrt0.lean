/- Srt0: contracts of functions of the program: called in any world that meets a contract's premises, the function returns what the contract says and changes no more than it says. -/
import Derived.Test.YtdnccchcflaphaaMapP
import Derived.Test.YtdnccchcflaphaaLayd
import Derived.WalkKit
import Derived.Deep.QuietTactic
import Derived.Laws.Externs
open Go Go.Eng Go.Proofs
namespace Go.Proofs.Ytdnccchcflaphaa
open Go.Lib
theorem run_loadBytes {P : Program} {w : World} : ∀ (l : List UInt8) (b o : Nat) (acc : List UInt8), Rd w b o (bs l) → (Extern.Bytes.loadBytes ⟨b, o, none⟩ l.length ⟨acc.toArray⟩).run P w = .ok ⟨(acc ++ l).toArray⟩ w
  | [], b, o, acc, _ => by simp [Extern.Bytes.loadBytes]
  | x :: l, b, o, acc, h => by
    have h0 := h 0 (u8 x) rfl
    rw [Nat.add_zero] at h0
    have h1 : Rd w b (o + 1) (bs l) := by
      have := Rd.right (c1 := [u8 x]) (c2 := bs l) h
      simpa using this
    have ih := run_loadBytes (P := P) (w := w) l b (o + 1) (acc ++ [x]) h1
    have hl : (load (⟨b, o, none⟩ : Addr)).run P w = .ok (u8 x) w := by simp only [load, Sem.run, h0]
    have hx : (x.toNat : Int).toNat.toUInt8 = x := by simp
    have ha : (⟨b, o, none⟩ : Addr).add 1 = ⟨b, o + 1, none⟩ := add_none b o 1
    simp only [List.length_cons, Extern.Bytes.loadBytes, Sem.run_bind, hl, Result.andThen_ok, hx, ha]
    have hp : (⟨acc.toArray⟩ : ByteArray).push x = ⟨(acc ++ [x]).toArray⟩ := by
      simp [ByteArray.push]
    rw [hp, ih]
    simp
theorem run_compareSl {P : Program} {w : World} {l m : List UInt8} {b1 o1 c1 b2 o2 c2 : Nat} (h1 : Rd w b1 o1 (bs l)) (h2 : Rd w b2 o2 (bs m)) :
    (Extern.BytealgCompare.compare #[.slice (some ⟨b1, o1, none⟩) l.length c1, .slice (some ⟨b2, o2, none⟩) m.length c2]).run P w = .ok (.int .i64 (compareBytes l m)) w := by
  have r1 : (Extern.Bytes.bytesOf (.slice (some ⟨b1, o1, none⟩) l.length c1)).run P w = .ok ⟨l.toArray⟩ w := run_loadBytes l b1 o1 [] h1
  have r2 : (Extern.Bytes.bytesOf (.slice (some ⟨b2, o2, none⟩) m.length c2)).run P w = .ok ⟨m.toArray⟩ w := run_loadBytes m b2 o2 [] h2
  change Sem.run P (do pure (goInt (Extern.BytealgCompare.cmp (← Extern.Bytes.bytesOf (.slice (some ⟨b1, o1, none⟩) l.length c1)) (← Extern.Bytes.bytesOf (.slice (some ⟨b2, o2, none⟩) m.length c2))))) w = _
  simp only [Sem.run_bind, r1, r2, Result.andThen_ok, Sem.run_pure]
  rw [cmp_eq]
  rfl
set_option maxHeartbeats 1000000 in
set_option maxRecDepth 100000 in
theorem cmp55 (l m : List UInt8) (b1 o1 c1 b2 o2 c2 : Nat) (w : World) (h1 : Rd w b1 o1 (bs l)) (h2 : Rd w b2 o2 (bs m)) :
    Calls Try.prog 55 #[.slice (some ⟨b1, o1, none⟩) l.length c1, .slice (some ⟨b2, o2, none⟩) m.length c2] w fun e w' => e = .returned (.int .i64 (compareBytes l m)) ∧ w' = w := by
  have hr := run_compareSl (P := Try.prog) (c1 := c1) (c2 := c2) h1 h2
  go_enter Try.func55, Try.ntmps55
  go_wp2
  rw [run_callFunc_extern Try.func77 (by kernel_rfl) (by kernel_rfl) (by kernel_rfl) (e := Extern.BytealgCompare.compare) (by kernel_rfl), hr]
  simp only [Result.andThen]
  rw [Oper.upon_value]
  go_wp2
  go_ret
  exact ⟨rfl, rfl⟩
end Go.Proofs.Ytdnccchcflaphaa
