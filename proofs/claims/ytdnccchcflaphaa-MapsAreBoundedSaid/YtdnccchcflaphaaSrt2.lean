/- Srt2: contracts of functions of the program: called in any world that meets a contract's premises, the function returns what the contract says and changes no more than it says. -/
import Derived.Test.YtdnccchcflaphaaMapP
import Derived.Test.YtdnccchcflaphaaSrt1
open Go Go.Eng Go.Proofs Go.Shelf Go.RowKit Go.Sort
namespace Go.Proofs.Ytdnccchcflaphaa
open Go.Lib
abbrev K32 := { l : List UInt8 // l.length = 32 }
instance : Inhabited K32 := ⟨⟨List.replicate 32 0, by simp⟩⟩
def encK (x : K32) : List Value := bs x.1
def cfK (x y : K32) : Int := compareBytes x.1 y.1
theorem ltK (x y : K32) : ltOf cfK x y = decide (num x.1 < num y.1) := by
  unfold ltOf cfK
  rw [decide_eq_decide]
  exact compare_num (by rw [x.2, y.2])
theorem swoK : SWO (ltOf cfK) where
  irrefl x := by rw [ltK]; simp
  trans x y z h1 h2 := by rw [ltK] at *; simp at *; omega
  ntrans x y z h1 h2 := by rw [ltK] at *; simp at *; omega
def rawK (d : Array K32) : List (List UInt8) := d.toList.map (·.1)
theorem rawK_32 (d : Array K32) : All32 (rawK d) := fun x hx => by
  obtain ⟨y, _, rfl⟩ := List.mem_map.1 hx
  exact y.2
theorem rawK_len (d : Array K32) : (rawK d).length = d.size := by simp [rawK]
theorem rawK_get (d : Array K32) {i : Nat} (h : i < d.size) : (rawK d).getD i [] = (d[i]!).1 := by
  simp [rawK, List.getD_eq_getElem?_getD, h]
theorem flatK_get (d : Array K32) {t : Nat} (h : t < d.size * 32) : (bs (rawK d).flatten)[t]? = some (flatK encK 32 d)[t]! := by
  have hk : t / 32 < d.size := by omega
  have h1 := sum_get (rawK_32 d) (k := t / 32) (by rw [rawK_len]; exact hk)
  have h2 : (bs (rawK d).flatten)[t]? = (((bs (rawK d).flatten).drop (t / 32 * 32)).take 32)[t % 32]? := by
    rw [List.getElem?_take_of_lt (by omega), List.getElem?_drop]
    congr 1; omega
  rw [h2, h1, get_flatK _ _ _ _ h, rawK_get d hk]
  have hl : t % 32 < (encK d[t / 32]!).length := by
    have := (d[t / 32]!).2
    simp only [encK, bs_length, this]; omega
  show (encK d[t / 32]!)[t % 32]? = _
  rw [List.getElem?_eq_getElem hl, getElem!_pos (encK d[t / 32]!) (t % 32) hl]
theorem flatK_rd {w : World} {b : Nat} {d : Array K32} (h : ∀ j, j < (flatK encK 32 d).size → w.cell? ⟨b, 0 + j, none⟩ = some (flatK encK 32 d)[j]!) : Rd w b 0 (bs (rawK d).flatten) := by
  intro j v hj
  have hlt : j < d.size * 32 := by
    have := (List.getElem?_eq_some_iff.1 hj).1
    rw [bs_length, (rawK_32 d).len, rawK_len] at this; omega
  rw [h j (by simpa using hlt), ← flatK_get d hlt, hj]
def packK (L : List (List UInt8)) (h : All32 L) : Array K32 := (L.attach.map fun x => (⟨x.1, h x.1 x.2⟩ : K32)).toArray
theorem packK_raw (L : List (List UInt8)) (h : All32 L) : rawK (packK L h) = L := by
  simp [rawK, packK]
theorem packK_size (L : List (List UInt8)) (h : All32 L) : (packK L h).size = L.length := by simp [packK]
theorem sorted_raw {d d' : Array K32} (hp : PermIn 0 d.size d d') (hs : SortedIn (ltOf cfK) 0 d.size d') : sortK (rawK d) = rawK d' := by
  obtain ⟨h1, _, h3⟩ := hp
  have hperm : d'.toList.Perm d.toList := by
    have e1 : d'.extract 0 d.size = d' := by rw [← h1]; simp
    have e2 : d.extract 0 d.size = d := by simp
    rw [e1, e2] at h3; exact h3
  refine sorted_unique ((sortK_perm _).trans (hperm.map _).symm) (fun x hx => rawK_32 d x ((sortK_perm _).subset hx)) (sortK_sorted _) ?_
  rw [List.pairwise_iff_getElem]
  intro i j hi hj hij
  have hi' : i < d'.size := by rw [rawK_len] at hi; exact hi
  have hj' : j < d'.size := by rw [rawK_len] at hj; exact hj
  have := hs i j (Nat.zero_le _) hij (by rw [← h1]; exact hj')
  rw [ltK] at this
  have e1 : (rawK d')[i] = (d'[i]!).1 := by simp [rawK, hi']
  have e2 : (rawK d')[j] = (d'[j]!).1 := by simp [rawK, hj']
  rw [e1, e2]
  simpa using this
theorem sort_chg {w : World} {bk n : Nat} {d : Array K32} {os : Array Obj} : Chg (blk bk) w (sortWorldK encK 32 w bk 0 n d os) := by
  refine ⟨rfl, rfl, rfl, ?_, fun b o h hm => ?_, fun b o h _ => ?_, fun b h hm => ?_⟩
  · simp [sortWorldK, putRowK]
  · unfold sortWorldK
    rw [cell?_grow _ _ _ (by simpa [putRowK] using h)]
    unfold putRowK
    have hne : b ≠ bk := fun h' => hm h'
    rw [cell?_putRow_other _ _ _ _ _ _ (Or.inl hne)]
    rfl
  · unfold sortWorldK
    rw [frozen?_grow _ _ _ (by simpa [putRowK] using h)]
    unfold putRowK
    rw [frozen?_putRow]
    rfl
  · unfold sortWorldK
    rw [heap_grow_old _ _ (by simpa [putRowK] using h)]
    unfold putRowK putRow mapBlock
    have hne : bk ≠ b := fun h' => hm 0 h'.symm
    simp [Array.getElem?_modify, hne]
set_option maxHeartbeats 1000000 in
theorem sort_spec (L : List (List UInt8)) (bk n c B : Nat) (w : World) (h32 : All32 L) (hn : L.length = n) (hsz : n < 4611686018427387904) (ho : Owns w B 25 32 (.slice (some ⟨bk, 0, none⟩) n c) n (bs L.flatten)) :
    Rtn Try.prog 39 #[.slice (some ⟨bk, 0, none⟩) n c, .func (.func 40) #[] #[]] w fun v w' => v = .tuple #[] ∧ Rd w' bk 0 (bs (sortK L).flatten) ∧ Chg (blk bk) w w' := by
  rcases ho.2 with ⟨h', _⟩ | ⟨g', cap, cur, he, _, hg, hnc, _, hcs, ht⟩
  · cases h'
  cases he
  have hb : bk < w.heap.size := (Array.getElem?_eq_some_iff.1 hg).1
  have hH : HoldsK encK 32 w bk 0 (packK L h32) := by
    intro j hj
    have hlt : j < (packK L h32).size * 32 := by simpa using hj
    have h1 := flatK_get (packK L h32) hlt
    rw [packK_raw, ← ht] at h1
    refine ⟨?_, by rw [Nat.zero_add]; exact frozen_of_row w bk j cur 25 hg⟩
    rw [Nat.zero_add, cell_of_row w bk j cur 25 (0, 0) hg]
    rw [List.getElem?_take] at h1
    split at h1
    · simpa using h1
    · cases h1
  have hcmp : CmpLays Try.prog 40 #[] encK 32 cfK bk 0 (packK L h32).size w := fun m os dk _ x y => by
    have := cmp40 x.1 y.1 x.2 y.2 (sortWorldK encK 32 w bk 0 m dk os)
    simpa [encK, cfK] using this
  have hcon := AnyQ.slices_SortFunc sortSum 32 Try.isAgg25 Try.sizeOf25 encK (fun x => by rw [encK, bs_length, x.2]) (fun x v hv => by
    simp only [encK, bs, List.mem_map] at hv
    obtain ⟨u, _, rfl⟩ := hv
    rfl) cfK swoK 40 #[] bk 0 c (packK L h32) w (fun _ _ => by first | exact enters_of Try.func40 (by kernel_rfl) rfl _ _) hcmp hH hb (by rw [packK_size]; omega)
  change Calls Try.prog 39 _ _ _ at hcon
  rw [packK_size, hn] at hcon
  unfold Go.Eng.Rtn
  refine Calls.mono hcon ?_
  rintro e w' ⟨he, d', m, os, hp, hs, rfl⟩
  refine ⟨_, he, rfl, ?_, sort_chg⟩
  have hsz' : (packK L h32).size = n := by rw [packK_size, hn]
  have hraw := sorted_raw (d := packK L h32) (d' := d') (by rw [hsz']; exact hp) (by rw [hsz']; exact hs)
  rw [packK_raw] at hraw
  rw [hraw]
  refine flatK_rd fun j hj => ?_
  unfold sortWorldK
  rw [cell?_grow _ _ _ (by simpa [putRowK] using hb)]
  unfold putRowK
  have h0 : Holds id (Sort.ahead w m) bk 0 (flatK encK 32 (packK L h32)) := hH
  exact cell?_putRow id (Sort.ahead w m) bk 0 _ _ h0 (by simp [hp.1]) j hj
end Go.Proofs.Ytdnccchcflaphaa
