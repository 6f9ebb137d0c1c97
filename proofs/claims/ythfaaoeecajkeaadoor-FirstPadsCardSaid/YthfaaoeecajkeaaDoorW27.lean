/-
  Texts of this seat, joined: RNtB2 GGetMB.
-/
import Derived.Test.YthfaaoeecajkeaaDoorW26
import Derived.Test.YthfaaoeecajkeaaDoorW16
import Derived.Test.YthfaaoeecajkeaaDoorW18
import Derived.Deep.CutBlock
import Derived.Deep.RegionWith
set_option linter.unusedSimpArgs false
set_option linter.unusedVariables false
namespace Go.Proofs.YthfaaoeecajkeaaDoor
open Go.RowKit

def flatE (l : List Ent) : List Value := l.flatMap (fun e => e.cells.toList)
theorem flatE_length (l : List Ent) : (flatE l).length = l.length * 11 := by
  induction l with
  | nil => rfl
  | cons x l ih => show (x.cells.toList ++ flatE l).length = _; rw [List.length_append, ih]; show 11 + _ = (l.length + 1) * 11; omega
theorem flatE_one (l : List Ent) (x : Ent) : flatE l ++ x.cells.toList = flatE (l ++ [x]) := by simp [flatE]
theorem flatE_get (l : List Ent) : ∀ j (hj : j < l.length) i, i < 11 → (flatE l)[j * 11 + i]? = l[j].cells[i]? := by
  induction l with
  | nil => intro j hj; simp at hj
  | cons x l ih =>
    intro j hj i hi
    have h4 : x.cells.toList.length = 11 := rfl
    show (x.cells.toList ++ flatE l)[j * 11 + i]? = _
    cases j with
    | zero => rw [List.getElem?_append_left (by omega)]; simp
    | succ j => rw [List.getElem?_append_right (by omega), h4, show (j + 1) * 11 + i - 11 = j * 11 + i from by omega, ih j (by simpa using hj) i hi]; rfl

theorem entT : ElT Tryd.prog 45 24 (.agg #[.int .u64 0, .int .u64 0, .int .i64 0, .int .u64 0, .int .u64 0, .int .u64 0, .int .u64 0, .int .i64 0, .int .i64 0, .string ⟨#[]⟩, .string ⟨#[]⟩]) 11 104 := ElT.mk' Tryd.underlying45 (by kernel_rfl) rfl (by decide)

theorem own_ents {w : World} {base : Nat} {v : Value} {l : List Ent} (h : w.ownsRow base 24 11 v l.length (flatE l)) : Ents w v l := by
  have hlt := World.ownsRow.lt h
  have hc := fun (g : Nat) (hg : v.ownBlock = some g) => World.ownsRow.cells h hg
  rcases h.2 with ⟨rfl, h3⟩ | ⟨g, cap, cur, rfl, hb, hh, hn, hm, r⟩
  · exact .inl ⟨List.eq_nil_of_length_eq_zero h3, none, 0, rfl⟩
  · refine .inr ⟨g, 0, cap, rfl, (hlt g rfl).2, fun j hj i hi => ?_⟩
    have h11 : l[j].cells.size = 11 := rfl
    have hu : (flatE l)[j * 11 + i]? = some (l[j].cells[i]'(by omega)) := by
      rw [flatE_get l j hj i hi]; exact Array.getElem?_eq_getElem _
    have := hc g rfl (j * 11 + i) _ hu
    rw [Array.getElem?_eq_getElem (by omega), ← this]
    simp only [Addr.add]
    split
    · rename_i e; rw [show 0 + j * 11 + i = 0 from by omega]
    · simp

/-- A slice of parts of entries that came in. -/
def Mads (w : World) (b o : Nat) (l : List Ent) : Prop :=
  ∀ j (hj : j < l.length), (∀ i, i < 11 → w.cell? ⟨b, o + j * 12 + i, none⟩ = l[j].cells[i]?) ∧ ∃ q : Bool, w.cell? ⟨b, o + j * 12 + 11, none⟩ = some (.bool q)

theorem madCells {w wr : World} {b o k : Nat} {l : List Ent} (h : Mads w b o l) (f : Fr [] w wr) (hk : k < l.length) {e : Ent} (he : l[k] = e) :
    ∃ q : Bool, wr.cell? ⟨b, o + k * 12, none⟩ = some (.int .u64 e.term) ∧ wr.cell? ⟨b, o + k * 12 + 1, none⟩ = some (.int .u64 e.index) ∧ wr.cell? ⟨b, o + k * 12 + 2, none⟩ = some (.int .i64 e.kind) ∧ wr.cell? ⟨b, o + k * 12 + 3, none⟩ = some (.int .u64 e.client) ∧ wr.cell? ⟨b, o + k * 12 + 4, none⟩ = some (.int .u64 e.seq) ∧ wr.cell? ⟨b, o + k * 12 + 5, none⟩ = some (.int .u64 e.block) ∧ wr.cell? ⟨b, o + k * 12 + 6, none⟩ = some (.int .u64 e.many) ∧ wr.cell? ⟨b, o + k * 12 + 7, none⟩ = some (.int .i64 e.node) ∧ wr.cell? ⟨b, o + k * 12 + 8, none⟩ = some (.int .i64 e.level) ∧ wr.cell? ⟨b, o + k * 12 + 9, none⟩ = some (.string e.data) ∧ wr.cell? ⟨b, o + k * 12 + 10, none⟩ = some (.string e.old) ∧ wr.cell? ⟨b, o + k * 12 + 11, none⟩ = some (.bool q) := by
  subst he
  obtain ⟨h1, q, h2⟩ := h k hk
  have hb : b < w.heap.size := World.block_lt_of_cell? w _ h2
  have hk2 : ∀ off, wr.cell? ⟨b, off, none⟩ = w.cell? ⟨b, off, none⟩ := fun off => World.cell?_of_block (w := w) (f.block b hb (by simp))
  refine ⟨q, ?_, ?_, ?_, ?_, ?_, ?_, ?_, ?_, ?_, ?_, ?_, ?_⟩
  · rw [hk2]; exact h1 0 (by decide)
  · rw [hk2]; exact h1 1 (by decide)
  · rw [hk2]; exact h1 2 (by decide)
  · rw [hk2]; exact h1 3 (by decide)
  · rw [hk2]; exact h1 4 (by decide)
  · rw [hk2]; exact h1 5 (by decide)
  · rw [hk2]; exact h1 6 (by decide)
  · rw [hk2]; exact h1 7 (by decide)
  · rw [hk2]; exact h1 8 (by decide)
  · rw [hk2]; exact h1 9 (by decide)
  · rw [hk2]; exact h1 10 (by decide)
  · rw [hk2]; exact h2

theorem entNew (w : World) (t : TypeId) (x : Ent) (j : Nat) (u : Value) (h : x.cells.toList[j]? = some u) : (w.alloc (.cells x.cells t)).cell? ((⟨w.heap.size, 0, none⟩ : Addr).add j) = some u := by
  have hB := (Blk.new w x.cells t).cellAt (i := j) (v := u) (by simpa using h)
  rw [← hB]
  unfold Addr.add
  split
  · rename_i e; subst e; rfl
  · simp
theorem entOne (x : Ent) (u : Value) (h : u ∈ x.cells.toList) : u.oneCell' = true := by
  unfold Ent.cells at h
  simp at h
  rcases h with rfl | rfl | rfl | rfl | rfl | rfl | rfl | rfl | rfl | rfl | rfl <;> rfl
theorem own_slice {w : World} {base : Nat} {e : TypeId} {size : Nat} {v : Value} {n : Nat} {xs : List Value} (h : w.ownsRow base e size v n xs) : ∃ a c, v = .slice a n c := by
  rcases h.2 with ⟨rfl, h3⟩ | ⟨g, cap, cur, rfl, _⟩
  · exact ⟨none, 0, by rw [h3]⟩
  · exact ⟨_, _, rfl⟩

/-- One more entry is laid behind those that were made. -/
theorem noteStep {w2 w5 w6 : World} {bo k : Nat} {v v6 : Value} {o : Obj} {xs : List Value} {T : TypeId} (out : Value → Array Value) (hset : ∀ a b, (out a).setIfInBounds 9 b = out b) (B5 : Blk w5 bo (out v) T) (F5 : Fr [] w2 w5) (hb : w2.heap.size = bo)
    (RX : ∀ x, x ∈ v.ownBlock.toList → w2.heap.size < x) (H1 : w6.ownsRow 0 24 11 v6 (k + 1) xs) (H2 : Fr v.ownBlock.toList (w5.alloc o) w6) (H3 : ∀ x, x ∈ v6.ownBlock.toList → x ∈ v.ownBlock.toList ∨ (w5.alloc o).heap.size ≤ x) :
    Blk (w6.setCell ⟨bo, 9, none⟩ v6) bo (out v6) T ∧ (w6.setCell ⟨bo, 9, none⟩ v6).ownsRow 0 24 11 v6 (k + 1) xs ∧ Fr [] w2 (w6.setCell ⟨bo, 9, none⟩ v6) ∧ ∀ x, x ∈ v6.ownBlock.toList → w2.heap.size < x := by
  have hlt := B5.lt
  have hX : ∀ x, x ∈ v6.ownBlock.toList → w2.heap.size < x := fun x hx => by
    rcases H3 x hx with h | h
    · exact RX x h
    · simp at h; omega
  have hbn : bo ∉ v.ownBlock.toList := fun h => by have := RX bo h; omega
  refine ⟨?_, ?_, ?_, hX⟩
  · have := ((B5.alloc o).fr H2 hbn).set 9 v6
    rwa [hset] at this
  · exact ownsRow_fr H1 ((Fr.refl [bo] w6).setCell (p := ⟨bo, 9, none⟩) (.inl (by simp)) v6) (fun x hx e => by simp at e; subst e; have := hX _ hx; omega)
  · exact ((F5.alloc o).trans H2 (fun x hx => .inr (Nat.le_of_lt (RX x hx)))).setCell (.inr (by show w2.heap.size ≤ bo; omega)) _

theorem take_made {l : List Ent} {k : Nat} {e M : Ent} (hk : k < l.length) (he : l[k] = e) (hM : madeOf e = M) : flatE ((l.take k).map madeOf) ++ M.cells.toList = flatE ((l.take (k + 1)).map madeOf) := by
  rw [flatE_one, List.take_succ_eq_append_getElem hk, List.map_append, he]
  simp [hM]

theorem mn10 (n : Nat) : ∃ N, N = min n 10 := ⟨_, rfl⟩
end Go.Proofs.YthfaaoeecajkeaaDoor

namespace Go.Proofs.YthfaaoeecajkeaaDoor
open Go.RowKit

theorem vLeftAt (r : Nat) (L : List UInt8) (o : Nat) (w : World) (h : RdAt w r L o) :
    Calls Tryd.prog 17 #[.pointer (some ⟨r, 0, none⟩)] w fun e w' => e = .returned (.int .i64 ((L.length - o : Nat) : Int)) ∧ w = w' := by
  refine (vLeft r _ _ w h).mono ?_
  rw [stL_size]
  exact fun e w' h => h

set_option maxRecDepth 100000 in
set_option maxHeartbeats 1000000 in
theorem gSmallM (c r : Nat) (L : List UInt8) (o : Nat) (w : World) (hc : NumV w c r) (h : RdAt w r L o) :
    Calls Tryd.prog 47 #[.pointer (some ⟨c, 0, none⟩)] w fun e w' => e = .returned (.int .i64 (numF L o 1)) ∧ RdAt w' r L (o + 1) ∧ Fr [r] w w' := by
  have hb := numF_byte L o
  have hw : IntKind.i64.wrap (numF L o 1) = numF L o 1 := IntWalk.i64_in _ (by omega)
  have HF := Lib.hid (vFixAt r L o 1 w h (by decide))
  generalize numF L o 1 = x at *
  unfold NumV at hc
  go_enter Tryd.func47, Tryd.ntmps47
  go_wp2_with fail
  refine HF.out.mono ?_
  rintro e w1 ⟨rfl, h1, f1⟩
  go_wp2_with fail
  go_ret
  exact ⟨rfl, h1, f1⟩

/-- What a store of a whole message into a new block wants, and what it leaves. -/
theorem stM {G : Prop} {c r bo b : Nat} {L : List UInt8} {Z : Array Value} {T : TypeId} {w0 u : World} {o : Nat} {t : TypeId} (hE : Blk u b #[.int .i64 0, .int .i64 0, .int .i64 0, .int .u64 0, .int .u64 0, .int .u64 0, .int .u64 0, .int .u64 0, .bool false, .slice none 0 0, .string ⟨#[]⟩] t) (hb : c < b) (h : GSt c r bo L Z T w0 u o) (hd : Lies c r bo w0)
    (k : u.cell? ⟨b, 0, none⟩ = some (.int .i64 0) → u.cell? ⟨b, 1, none⟩ = some (.int .i64 0) → u.cell? ⟨b, 2, none⟩ = some (.int .i64 0) → u.cell? ⟨b, 3, none⟩ = some (.int .u64 0) → u.cell? ⟨b, 4, none⟩ = some (.int .u64 0) → u.cell? ⟨b, 5, none⟩ = some (.int .u64 0) → u.cell? ⟨b, 6, none⟩ = some (.int .u64 0) → u.cell? ⟨b, 7, none⟩ = some (.int .u64 0) → u.cell? ⟨b, 8, none⟩ = some (.bool false) → u.cell? ⟨b, 9, none⟩ = some (.slice none 0 0) → u.cell? ⟨b, 10, none⟩ = some (.string ⟨#[]⟩) → u.frozen? ⟨b, 0, none⟩ = false → u.frozen? ⟨b, 1, none⟩ = false → u.frozen? ⟨b, 2, none⟩ = false → u.frozen? ⟨b, 3, none⟩ = false → u.frozen? ⟨b, 4, none⟩ = false → u.frozen? ⟨b, 5, none⟩ = false → u.frozen? ⟨b, 6, none⟩ = false → u.frozen? ⟨b, 7, none⟩ = false → u.frozen? ⟨b, 8, none⟩ = false → u.frozen? ⟨b, 9, none⟩ = false → u.frozen? ⟨b, 10, none⟩ = false → Hid (Blk (set11 u b (.int .i64 (numF L 0 1)) (.int .i64 (numF L 1 1)) (.int .i64 (numF L 2 1)) (.int .u64 (numF L 3 8)) (.int .u64 (numF L 11 8)) (.int .u64 (numF L 19 8)) (.int .u64 (numF L 27 8)) (.int .u64 (numF L 35 8)) (.bool false) (.slice none 0 0) (.string ⟨#[]⟩)) b #[.int .i64 (numF L 0 1), .int .i64 (numF L 1 1), .int .i64 (numF L 2 1), .int .u64 (numF L 3 8), .int .u64 (numF L 11 8), .int .u64 (numF L 19 8), .int .u64 (numF L 27 8), .int .u64 (numF L 35 8), .bool false, .slice none 0 0, .string ⟨#[]⟩] t) → Hid (GSt c r bo L Z T w0 (set11 u b (.int .i64 (numF L 0 1)) (.int .i64 (numF L 1 1)) (.int .i64 (numF L 2 1)) (.int .u64 (numF L 3 8)) (.int .u64 (numF L 11 8)) (.int .u64 (numF L 19 8)) (.int .u64 (numF L 27 8)) (.int .u64 (numF L 35 8)) (.bool false) (.slice none 0 0) (.string ⟨#[]⟩)) o) → Hid ((set11 u b (.int .i64 (numF L 0 1)) (.int .i64 (numF L 1 1)) (.int .i64 (numF L 2 1)) (.int .u64 (numF L 3 8)) (.int .u64 (numF L 11 8)) (.int .u64 (numF L 19 8)) (.int .u64 (numF L 27 8)) (.int .u64 (numF L 35 8)) (.bool false) (.slice none 0 0) (.string ⟨#[]⟩)).cell? ⟨c, 0, none⟩ = some (.func (.func 35) #[.pointer (some ⟨r, 0, none⟩)] #[])) → G) : G :=
  k (hE.cellAt (i := 0) rfl) (hE.cellAt (i := 1) rfl) (hE.cellAt (i := 2) rfl) (hE.cellAt (i := 3) rfl) (hE.cellAt (i := 4) rfl) (hE.cellAt (i := 5) rfl) (hE.cellAt (i := 6) rfl) (hE.cellAt (i := 7) rfl) (hE.cellAt (i := 8) rfl) (hE.cellAt (i := 9) rfl) (hE.cellAt (i := 10) rfl) (hE.froz 0) (hE.froz 1) (hE.froz 2) (hE.froz 3) (hE.froz 4) (hE.froz 5) (hE.froz 6) (hE.froz 7) (hE.froz 8) (hE.froz 9) (hE.froz 10) (hE.put11 _ _ _ _ _ _ _ _ _ _ _) (h.set hd hb (set11_fr u b (.int .i64 (numF L 0 1)) (.int .i64 (numF L 1 1)) (.int .i64 (numF L 2 1)) (.int .u64 (numF L 3 8)) (.int .u64 (numF L 11 8)) (.int .u64 (numF L 19 8)) (.int .u64 (numF L 27 8)) (.int .u64 (numF L 35 8)) (.bool false) (.slice none 0 0) (.string ⟨#[]⟩))) ((h.set hd hb (set11_fr u b (.int .i64 (numF L 0 1)) (.int .i64 (numF L 1 1)) (.int .i64 (numF L 2 1)) (.int .u64 (numF L 3 8)) (.int .u64 (numF L 11 8)) (.int .u64 (numF L 19 8)) (.int .u64 (numF L 27 8)) (.int .u64 (numF L 35 8)) (.bool false) (.slice none 0 0) (.string ⟨#[]⟩))).num)


theorem getN_next {L : List UInt8} {nn k p : Nat} {acc : List Ent} (h : k < nn) (hp : p ≤ L.length) (hI : getN L nn 45 = (acc ++ (getN L (nn - k) p).1, (getN L (nn - k) p).2)) :
    getN L nn 45 = ((acc ++ [(get5 L p).1]) ++ (getN L (nn - (k + 1)) (get5 L p).2).1, (getN L (nn - (k + 1)) (get5 L p).2).2) := by
  rw [hI, show nn - k = (nn - (k + 1)) + 1 by omega]
  conv => lhs; unfold getN
  rw [if_neg (by omega)]
  simp
theorem getN_stop {L : List UInt8} {nn k p : Nat} {acc : List Ent} (h : nn ≤ k ∨ L.length < p) (hI : getN L nn 45 = (acc ++ (getN L (nn - k) p).1, (getN L (nn - k) p).2)) :
    getN L nn 45 = (acc, p) := by
  rw [hI]
  rcases h with h | h
  · rw [show nn - k = 0 by omega]
    unfold getN
    simp
  · rw [getN_bad L _ p h]
    simp

/-- One more entry is laid behind those that were read. -/
theorem getStep {S : List Nat} {w2 w5 w6 : World} {bm k : Nat} {v v6 : Value} {ob : Obj} {xs : List Value} {T : TypeId} (out : Value → Array Value) (hset : ∀ a b, (out a).setIfInBounds 9 b = out b) (B5 : Blk w5 bm (out v) T) (F5 : Fr S w2 w5) (hb : w2.heap.size ≤ bm)
    (RX : ∀ x, x ∈ v.ownBlock.toList → bm < x) (H1 : w6.ownsRow 0 24 11 v6 (k + 1) xs) (H2 : Fr v.ownBlock.toList (w5.alloc ob) w6) (H3 : ∀ x, x ∈ v6.ownBlock.toList → x ∈ v.ownBlock.toList ∨ (w5.alloc ob).heap.size ≤ x) :
    Blk (w6.setCell ⟨bm, 9, none⟩ v6) bm (out v6) T ∧ (w6.setCell ⟨bm, 9, none⟩ v6).ownsRow 0 24 11 v6 (k + 1) xs ∧ Fr S w2 (w6.setCell ⟨bm, 9, none⟩ v6) ∧ ∀ x, x ∈ v6.ownBlock.toList → bm < x := by
  have hlt := B5.lt
  have hX : ∀ x, x ∈ v6.ownBlock.toList → bm < x := fun x hx => by
    rcases H3 x hx with h | h
    · exact RX x h
    · simp at h; omega
  have hbn : bm ∉ v.ownBlock.toList := fun h => by have := RX bm h; omega
  refine ⟨?_, ?_, ?_, hX⟩
  · have := ((B5.alloc ob).fr H2 hbn).set 9 v6
    rwa [hset] at this
  · exact ownsRow_fr H1 ((Fr.refl [bm] w6).setCell (p := ⟨bm, 9, none⟩) (.inl (by simp)) v6) (fun x hx e => by simp at e; subst e; have := hX _ hx; omega)
  · exact ((F5.alloc ob).trans H2 (fun x hx => .inr (by have := RX x hx; omega))).setCell (.inr (by show w2.heap.size ≤ bm; omega)) _

def gotM (L : List UInt8) : Msg × Bool := if goodM L = true then (msg5 L, true) else (msg0, false)
theorem gotM_no (L : List UInt8) (h : goodM L = false) : gotM L = (msg0, false) := by
  unfold gotM
  rw [if_neg (by rw [h]; decide)]
theorem gotM_yes (L : List UInt8) (h : goodM L = true) : gotM L = (msg5 L, true) := by
  unfold gotM
  rw [if_pos h]

end Go.Proofs.YthfaaoeecajkeaaDoor
