/-
  Items as cells; a slice of items that is owned; a queue in memory.
-/
import Derived.Test.YtbafgheblindmaaFBase
import Derived.Test.YtbafgheblindmaaQHeap
import Derived.Test.YtbafgheblindmaaRows
namespace Go.Proofs.Ytbafgheblindmaa
open Go.RowKit

def Itm.cells (x : Itm) : List Value := [.int .u64 x.time, .int .u64 x.order, .int .i64 x.to, .string x.data]
def flat (L : List Itm) : List Value := L.flatMap Itm.cells
theorem flat_nil : flat [] = [] := rfl
theorem flat_cons (x : Itm) (L : List Itm) : flat (x :: L) = x.cells ++ flat L := rfl
theorem flat_app (L M : List Itm) : flat (L ++ M) = flat L ++ flat M := by simp [flat]
theorem flat_length (L : List Itm) : (flat L).length = L.length * 4 := by
  induction L with
  | nil => rfl
  | cons x L ih => rw [flat_cons, List.length_append, ih]; show 4 + _ = (L.length + 1) * 4; omega
theorem flat_get (L : List Itm) : ∀ j (hj : j < L.length) i, i < 4 → (flat L)[j * 4 + i]? = L[j].cells[i]? := by
  induction L with
  | nil => intro j hj; simp at hj
  | cons x L ih =>
    intro j hj i hi
    have h4 : x.cells.length = 4 := rfl
    rw [flat_cons]
    cases j with
    | zero => rw [List.getElem?_append_left (by omega)]; simp
    | succ j => rw [List.getElem?_append_right (by omega), h4, show (j + 1) * 4 + i - 4 = j * 4 + i from by omega, ih j (by simpa using hj) i hi]; rfl
theorem flat_take (L : List Itm) : ∀ n, flat (L.take n) = (flat L).take (n * 4) := by
  induction L with
  | nil => intro n; simp [flat]
  | cons x L ih =>
    intro n
    have h4 : x.cells.length = 4 := rfl
    cases n with
    | zero => simp [flat]
    | succ n =>
      rw [List.take_succ_cons, flat_cons, flat_cons, ih, List.take_append, h4, show (n + 1) * 4 - 4 = n * 4 from by omega, List.take_of_length_le (l := x.cells) (by omega)]
theorem flat_set (L : List Itm) (j : Nat) (hj : j < L.length) (x : Itm) :
    flat (L.set j x) = ((((flat L).set (j * 4) (.int .u64 x.time)).set (j * 4 + 1) (.int .u64 x.order)).set (j * 4 + 2) (.int .i64 x.to)).set (j * 4 + 3) (.string x.data) := by
  apply List.ext_getElem?
  intro k
  by_cases hk : k < L.length * 4
  · have hq : k = (k / 4) * 4 + k % 4 := by omega
    have h1 : k / 4 < L.length := by omega
    have h2 : k % 4 < 4 := by omega
    rw [hq, flat_get _ _ (by simpa using h1) _ h2]
    simp only [List.getElem?_set, List.getElem_set, List.length_set, flat_length, flat_get L _ h1 _ h2]
    by_cases e : j = k / 4
    · subst e
      rw [if_pos rfl]
      generalize k % 4 = i at *
      have : i = 0 ∨ i = 1 ∨ i = 2 ∨ i = 3 := by omega
      rcases this with rfl | rfl | rfl | rfl
      · rw [if_neg (by omega), if_neg (by omega), if_neg (by omega), if_pos (by omega), if_pos (by omega)]; rfl
      · rw [if_neg (by omega), if_neg (by omega), if_pos rfl, if_pos (by omega)]; rfl
      · rw [if_neg (by omega), if_pos rfl, if_pos (by omega)]; rfl
      · rw [if_pos rfl, if_pos (by omega)]; rfl
    · rw [if_neg e, if_neg (by omega), if_neg (by omega), if_neg (by omega), if_neg (by omega)]
  · rw [List.getElem?_eq_none (by rw [flat_length]; simp; omega), List.getElem?_eq_none (by simp [flat_length]; omega)]

theorem ownsRow_setC {w : World} {base : Nat} {e : TypeId} {size : Nat} {v : Value} {n : Nat} {xs : List Value} (h : w.ownsRow base e size v n xs) {g : Nat} (hg : v.ownBlock = some g) {k : Nat} (_ : k < n * size) (u : Value) :
    (w.setCell ⟨g, k, none⟩ u).ownsRow base e size v n (xs.set k u) := by
  obtain ⟨h1, h2⟩ := h
  refine ⟨by simpa using h1, ?_⟩
  rcases h2 with ⟨rfl, _⟩ | ⟨g', cap, cur, rfl, hb, hh, hn, hm, hs, ht⟩
  · simp [Value.ownBlock] at hg
  · obtain rfl : g' = g := by simpa [Value.ownBlock] using hg
    refine .inr ⟨g', cap, cur.setIfInBounds k u, rfl, hb, ?_, hn, hm, by simpa using hs, ?_⟩
    · simp [World.setCell, Array.getElem?_modify, hh]
    · subst ht
      rw [Array.toList_setIfInBounds, List.take_set]

/-- The same row, cut short. -/
theorem ownsRow_cut {w : World} {base : Nat} {e : TypeId} {size : Nat} {g n cap : Nat} {xs : List Value} (h : w.ownsRow base e size (.slice (some ⟨g, 0, none⟩) n cap) n xs) {m : Nat} (hm : m ≤ n) :
    w.ownsRow base e size (.slice (some ⟨g, 0, none⟩) m cap) m (xs.take (m * size)) := by
  obtain ⟨h1, h2⟩ := h
  have hle : m * size ≤ n * size := Nat.mul_le_mul_right _ hm
  refine ⟨by rw [List.length_take, h1]; omega, ?_⟩
  rcases h2 with ⟨h, _⟩ | ⟨g', cap', cur, hv, hb, hh, hn, hm', hs, ht⟩
  · cases h
  · cases hv
    refine .inr ⟨_, _, cur, rfl, hb, hh, by omega, hm', hs, ?_⟩
    rw [← ht, List.take_take, Nat.min_eq_left hle]

/-- A slice of items that nobody else has. -/
def Its (w : World) (v : Value) (L : List Itm) : Prop := w.ownsRow 0 31 4 v L.length (flat L)

theorem Its.cell {w : World} {v : Value} {L : List Itm} (h : Its w v L) {g : Nat} (hg : v.ownBlock = some g) {j i : Nat} (hj : j < L.length) (hi : i < 4) : w.cell? ⟨g, j * 4 + i, none⟩ = (at' L j).cells[i]? := by
  have h4 : (at' L j).cells.length = 4 := rfl
  have hu : (flat L)[j * 4 + i]? = some ((at' L j).cells[i]'(by omega)) := by
    rw [flat_get L j hj i hi, at_eq hj, List.getElem?_eq_getElem]
  have := World.ownsRow.cells h hg (j * 4 + i) _ hu
  rw [List.getElem?_eq_getElem (by omega), ← this]
  simp only [Addr.add]
  split
  · rename_i e; simp at e; simp [e]
  · simp
theorem Its.cells4 {w : World} {v : Value} {L : List Itm} (h : Its w v L) {g : Nat} (hg : v.ownBlock = some g) {j : Nat} (hj : j < L.length) :
    w.cell? ⟨g, j * 4, none⟩ = some (.int .u64 (at' L j).time) ∧ w.cell? ⟨g, j * 4 + 1, none⟩ = some (.int .u64 (at' L j).order) ∧ w.cell? ⟨g, j * 4 + 2, none⟩ = some (.int .i64 (at' L j).to) ∧ w.cell? ⟨g, j * 4 + 3, none⟩ = some (.string (at' L j).data) :=
  ⟨h.cell hg (i := 0) hj (by omega), h.cell hg (i := 1) hj (by omega), h.cell hg (i := 2) hj (by omega), h.cell hg (i := 3) hj (by omega)⟩
theorem Its.fr {S : List Nat} {w w' : World} {v : Value} {L : List Itm} (h : Its w v L) (hf : Fr S w w') (hn : ∀ x, x ∈ v.ownBlock.toList → x ∉ S) : Its w' v L := ownsRow_fr h hf hn
theorem Its.fr0 {w w' : World} {v : Value} {L : List Itm} (h : Its w v L) (hf : Fr [] w w') : Its w' v L := h.fr hf (fun _ _ => by simp)
theorem Its.shape {w : World} {v : Value} {L : List Itm} (h : Its w v L) : (v = .slice none 0 0 ∧ L = []) ∨ ∃ g cap, v = .slice (some ⟨g, 0, none⟩) L.length cap ∧ g < w.heap.size ∧ L.length ≤ cap ∧ cap ≤ maxLen := by
  have hl := World.ownsRow.lt h
  obtain ⟨h1, h2⟩ := h
  rcases h2 with ⟨rfl, h3⟩ | ⟨g, cap, cur, rfl, hb, hh, hn, hm, r⟩
  · exact .inl ⟨rfl, List.eq_nil_of_length_eq_zero h3⟩
  · exact .inr ⟨g, cap, rfl, (hl g rfl).2, hn, hm⟩
theorem Its.nil (w : World) : Its w (.slice none 0 0) [] := World.ownsRow_nil _ _ _ _
theorem Its.froz {w : World} {v : Value} {L : List Itm} (h : Its w v L) {g : Nat} (hg : v.ownBlock = some g) (i : Nat) : w.frozen? ⟨g, i, none⟩ = false := by
  obtain ⟨h1, h2⟩ := h
  rcases h2 with ⟨rfl, h3⟩ | ⟨g', cap, cur, rfl, hb, hh, hn, hm, r⟩
  · cases hg
  · obtain rfl : g' = g := by simpa [Value.ownBlock] using hg
    exact Blk.froz (t := 31) (cs := cur) hh i

/-- Another item at a place. -/
def put4 (w : World) (g k : Nat) (x : Itm) : World := (((w.setCell ⟨g, k, none⟩ (.int .u64 x.time)).setCell ⟨g, k + 1, none⟩ (.int .u64 x.order)).setCell ⟨g, k + 2, none⟩ (.int .i64 x.to)).setCell ⟨g, k + 3, none⟩ (.string x.data)
theorem Its.put {w : World} {v : Value} {L : List Itm} (h : Its w v L) {g : Nat} (hg : v.ownBlock = some g) {j : Nat} (hj : j < L.length) (x : Itm) : Its (put4 w g (j * 4) x) v (L.set j x) := by
  unfold Its put4
  rw [flat_set L j hj, List.length_set]
  exact ownsRow_setC (ownsRow_setC (ownsRow_setC (ownsRow_setC h hg (by omega) _) hg (by omega) _) hg (by omega) _) hg (by omega) _
theorem put4_fr {a w : World} {S : List Nat} (h : Fr S a w) {g : Nat} (hg : g ∈ S) (k : Nat) (x : Itm) : Fr S a (put4 w g k x) :=
  (((h.setCell (.inl hg) _).setCell (.inl hg) _).setCell (.inl hg) _).setCell (.inl hg) _

/-- What a heap's functions are handed. -/
abbrev rvQ (q : Nat) : Value := .iface 80 (.pointer (some ⟨q, 0, none⟩))

/-- The queue's block, its items. -/
structure QB (w : World) (q : Nat) (v : Value) (L : List Itm) (last : Int) : Prop where
  blk : Blk w q #[v, .int .u64 last] 60
  its : Its w v L
  ne : q ∉ v.ownBlock.toList

theorem QB.fr {S : List Nat} {w w' : World} {q : Nat} {v : Value} {L : List Itm} {last : Int} (h : QB w q v L last) (hf : Fr S w w') (hq : q ∉ S) (hn : ∀ x, x ∈ v.ownBlock.toList → x ∉ S) : QB w' q v L last :=
  ⟨h.blk.fr hf hq, h.its.fr hf hn, h.ne⟩
theorem QB.fr0 {w w' : World} {q : Nat} {v : Value} {L : List Itm} {last : Int} (h : QB w q v L last) (hf : Fr [] w w') : QB w' q v L last := h.fr hf (by simp) (fun _ _ => by simp)

/-- A queue as its items in their order. -/
structure QOk (L S : List Itm) (last : Int) : Prop where
  heap : Heap L.length L
  perm : L.Perm S
  sorted : Sorted S
  bound : ∀ x, x ∈ S → 1 ≤ x.order ∧ x.order ≤ last
  uniq : S.Pairwise (fun a b => a.order ≠ b.order)
  room : L.length ≤ 4096
  last0 : 0 ≤ last
end Go.Proofs.Ytbafgheblindmaa
