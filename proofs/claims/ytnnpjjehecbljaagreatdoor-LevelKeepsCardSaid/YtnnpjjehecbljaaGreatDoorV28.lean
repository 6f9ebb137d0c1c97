/-
  Texts of this seat, joined: RNtB2 RNe1.
-/
import Derived.Test.YtnnpjjehecbljaaGreatDoorV26
import Derived.Test.YtnnpjjehecbljaaGreatDoorV12
import Derived.Deep.RegionWith
set_option linter.unusedSimpArgs false
set_option linter.unusedVariables false
namespace Go.Proofs.YtnnpjjehecbljaaGreatDoor
open Go.RowKit

def flatE (l : List Ent) : List Value := l.flatMap (fun e => e.cells.toList)
theorem flatE_length (l : List Ent) : (flatE l).length = l.length * 11 := by
  induction l with
  | nil => rfl
  | cons x l ih => show (x.cells.toList ++ flatE l).length = _; rw [List.length_append, ih]; show 11 + _ = (l.length + 1) * 11; omega
theorem flatE_one (l : List Ent) (x : Ent) : flatE l ++ x.cells.toList = flatE (l ++ [x]) := by simp [flatE]
theorem flatE_get (l : List Ent) : ∀ j (hj : j < l.length) i, i < 11 → (flatE l)[j * 11 + i]? = l[j].cells[i]? := by
  induction l with
  | nil => intro j hj; simp at hj
  | cons x l ih =>
    intro j hj i hi
    have h4 : x.cells.toList.length = 11 := rfl
    show (x.cells.toList ++ flatE l)[j * 11 + i]? = _
    cases j with
    | zero => rw [List.getElem?_append_left (by omega)]; simp
    | succ j => rw [List.getElem?_append_right (by omega), h4, show (j + 1) * 11 + i - 11 = j * 11 + i from by omega, ih j (by simpa using hj) i hi]; rfl


theorem own_ents {w : World} {base : Nat} {v : Value} {l : List Ent} (h : w.ownsRow base 24 11 v l.length (flatE l)) : Ents w v l := by
  have hlt := World.ownsRow.lt h
  have hc := fun (g : Nat) (hg : v.ownBlock = some g) => World.ownsRow.cells h hg
  rcases h.2 with ⟨rfl, h3⟩ | ⟨g, cap, cur, rfl, hb, hh, hn, hm, r⟩
  · exact .inl ⟨List.eq_nil_of_length_eq_zero h3, none, 0, rfl⟩
  · refine .inr ⟨g, 0, cap, rfl, (hlt g rfl).2, fun j hj i hi => ?_⟩
    have h11 : l[j].cells.size = 11 := rfl
    have hu : (flatE l)[j * 11 + i]? = some (l[j].cells[i]'(by omega)) := by
      rw [flatE_get l j hj i hi]; exact Array.getElem?_eq_getElem _
    have := hc g rfl (j * 11 + i) _ hu
    rw [Array.getElem?_eq_getElem (by omega), ← this]
    simp only [Addr.add]
    split
    · rename_i e; rw [show 0 + j * 11 + i = 0 from by omega]
    · simp

/-- A slice of parts of entries that came in. -/
def Mads (w : World) (b o : Nat) (l : List Ent) : Prop :=
  ∀ j (hj : j < l.length), (∀ i, i < 11 → w.cell? ⟨b, o + j * 12 + i, none⟩ = l[j].cells[i]?) ∧ ∃ q : Bool, w.cell? ⟨b, o + j * 12 + 11, none⟩ = some (.bool q)

theorem madCells {w wr : World} {b o k : Nat} {l : List Ent} (h : Mads w b o l) (f : Fr [] w wr) (hk : k < l.length) {e : Ent} (he : l[k] = e) :
    ∃ q : Bool, wr.cell? ⟨b, o + k * 12, none⟩ = some (.int .u64 e.term) ∧ wr.cell? ⟨b, o + k * 12 + 1, none⟩ = some (.int .u64 e.index) ∧ wr.cell? ⟨b, o + k * 12 + 2, none⟩ = some (.int .i64 e.kind) ∧ wr.cell? ⟨b, o + k * 12 + 3, none⟩ = some (.int .u64 e.client) ∧ wr.cell? ⟨b, o + k * 12 + 4, none⟩ = some (.int .u64 e.seq) ∧ wr.cell? ⟨b, o + k * 12 + 5, none⟩ = some (.int .u64 e.block) ∧ wr.cell? ⟨b, o + k * 12 + 6, none⟩ = some (.int .u64 e.many) ∧ wr.cell? ⟨b, o + k * 12 + 7, none⟩ = some (.int .i64 e.node) ∧ wr.cell? ⟨b, o + k * 12 + 8, none⟩ = some (.int .i64 e.level) ∧ wr.cell? ⟨b, o + k * 12 + 9, none⟩ = some (.string e.data) ∧ wr.cell? ⟨b, o + k * 12 + 10, none⟩ = some (.string e.old) ∧ wr.cell? ⟨b, o + k * 12 + 11, none⟩ = some (.bool q) := by
  subst he
  obtain ⟨h1, q, h2⟩ := h k hk
  have hb : b < w.heap.size := World.block_lt_of_cell? w _ h2
  have hk2 : ∀ off, wr.cell? ⟨b, off, none⟩ = w.cell? ⟨b, off, none⟩ := fun off => World.cell?_of_block (w := w) (f.block b hb (by simp))
  refine ⟨q, ?_, ?_, ?_, ?_, ?_, ?_, ?_, ?_, ?_, ?_, ?_, ?_⟩
  · rw [hk2]; exact h1 0 (by decide)
  · rw [hk2]; exact h1 1 (by decide)
  · rw [hk2]; exact h1 2 (by decide)
  · rw [hk2]; exact h1 3 (by decide)
  · rw [hk2]; exact h1 4 (by decide)
  · rw [hk2]; exact h1 5 (by decide)
  · rw [hk2]; exact h1 6 (by decide)
  · rw [hk2]; exact h1 7 (by decide)
  · rw [hk2]; exact h1 8 (by decide)
  · rw [hk2]; exact h1 9 (by decide)
  · rw [hk2]; exact h1 10 (by decide)
  · rw [hk2]; exact h2

theorem entNew (w : World) (t : TypeId) (x : Ent) (j : Nat) (u : Value) (h : x.cells.toList[j]? = some u) : (w.alloc (.cells x.cells t)).cell? ((⟨w.heap.size, 0, none⟩ : Addr).add j) = some u := by
  have hB := (Blk.new w x.cells t).cellAt (i := j) (v := u) (by simpa using h)
  rw [← hB]
  unfold Addr.add
  split
  · rename_i e; subst e; rfl
  · simp
theorem entOne (x : Ent) (u : Value) (h : u ∈ x.cells.toList) : u.oneCell' = true := by
  unfold Ent.cells at h
  simp at h
  rcases h with rfl | rfl | rfl | rfl | rfl | rfl | rfl | rfl | rfl | rfl | rfl <;> rfl
theorem own_slice {w : World} {base : Nat} {e : TypeId} {size : Nat} {v : Value} {n : Nat} {xs : List Value} (h : w.ownsRow base e size v n xs) : ∃ a c, v = .slice a n c := by
  rcases h.2 with ⟨rfl, h3⟩ | ⟨g, cap, cur, rfl, _⟩
  · exact ⟨none, 0, by rw [h3]⟩
  · exact ⟨_, _, rfl⟩

/-- One more entry is laid behind those that were made. -/
theorem noteStep {w2 w5 w6 : World} {bo k : Nat} {v v6 : Value} {o : Obj} {xs : List Value} {T : TypeId} (out : Value → Array Value) (hset : ∀ a b, (out a).setIfInBounds 9 b = out b) (B5 : Blk w5 bo (out v) T) (F5 : Fr [] w2 w5) (hb : w2.heap.size = bo)
    (RX : ∀ x, x ∈ v.ownBlock.toList → w2.heap.size < x) (H1 : w6.ownsRow 0 24 11 v6 (k + 1) xs) (H2 : Fr v.ownBlock.toList (w5.alloc o) w6) (H3 : ∀ x, x ∈ v6.ownBlock.toList → x ∈ v.ownBlock.toList ∨ (w5.alloc o).heap.size ≤ x) :
    Blk (w6.setCell ⟨bo, 9, none⟩ v6) bo (out v6) T ∧ (w6.setCell ⟨bo, 9, none⟩ v6).ownsRow 0 24 11 v6 (k + 1) xs ∧ Fr [] w2 (w6.setCell ⟨bo, 9, none⟩ v6) ∧ ∀ x, x ∈ v6.ownBlock.toList → w2.heap.size < x := by
  have hlt := B5.lt
  have hX : ∀ x, x ∈ v6.ownBlock.toList → w2.heap.size < x := fun x hx => by
    rcases H3 x hx with h | h
    · exact RX x h
    · simp at h; omega
  have hbn : bo ∉ v.ownBlock.toList := fun h => by have := RX bo h; omega
  refine ⟨?_, ?_, ?_, hX⟩
  · have := ((B5.alloc o).fr H2 hbn).set 9 v6
    rwa [hset] at this
  · exact ownsRow_fr H1 ((Fr.refl [bo] w6).setCell (p := ⟨bo, 9, none⟩) (.inl (by simp)) v6) (fun x hx e => by simp at e; subst e; have := hX _ hx; omega)
  · exact ((F5.alloc o).trans H2 (fun x hx => .inr (Nat.le_of_lt (RX x hx)))).setCell (.inr (by show w2.heap.size ≤ bo; omega)) _

theorem take_made {l : List Ent} {k : Nat} {e M : Ent} (hk : k < l.length) (he : l[k] = e) (hM : madeOf e = M) : flatE ((l.take k).map madeOf) ++ M.cells.toList = flatE ((l.take (k + 1)).map madeOf) := by
  rw [flatE_one, List.take_succ_eq_append_getElem hk, List.map_append, he]
  simp [hM]

theorem mn10 (n : Nat) : ∃ N, N = min n 10 := ⟨_, rfl⟩
end Go.Proofs.YtnnpjjehecbljaaGreatDoor

namespace Go.Proofs.YtnnpjjehecbljaaGreatDoor
open Go.RowKit

end Go.Proofs.YtnnpjjehecbljaaGreatDoor
