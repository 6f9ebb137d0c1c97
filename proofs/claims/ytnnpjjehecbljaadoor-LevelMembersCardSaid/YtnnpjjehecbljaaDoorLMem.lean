/-
  Slices of ints, and configs, in memory.
-/
import Derived.Test.YtnnpjjehecbljaaDoorLEnt
import Derived.Test.YtnnpjjehecbljaaDoorFBase
namespace Go.Proofs.YtnnpjjehecbljaaDoor
open Go.RowKit

/-- A slice of ints from the head of a block that is its own: of these elements. -/
def Iv (w : World) (g cap : Nat) (l : List Int) : Prop :=
  ∃ cur, Blk w g cur 3 ∧ l.length ≤ cap ∧ cap ≤ maxLen ∧ cur.size = cap ∧ cur.toList.take l.length = l.map (Value.int .i64)
/-- The slice's value. -/
def ivV (g n cap : Nat) : Value := .slice (some ⟨g, 0, none⟩) n cap
theorem Iv.lt {w : World} {g cap : Nat} {l : List Int} (h : Iv w g cap l) : g < w.heap.size := by
  obtain ⟨cur, h1, -⟩ := h
  exact h1.lt
theorem Iv.le {w : World} {g cap : Nat} {l : List Int} (h : Iv w g cap l) : l.length ≤ cap ∧ cap ≤ maxLen := by
  obtain ⟨cur, -, h2, h3, -⟩ := h
  exact ⟨h2, h3⟩
theorem Iv.cell {w : World} {g cap : Nat} {l : List Int} (h : Iv w g cap l) : ∀ j, j < l.length → w.cell? ⟨g, 0 + j, none⟩ = some (.int .i64 (l.getD j 0)) := by
  obtain ⟨cur, h1, h2, h3, h4, h5⟩ := h
  intro j hj
  rw [Nat.zero_add, h1.cell]
  have h6 : (cur.toList.take l.length)[j]? = (l.map (Value.int .i64))[j]? := by rw [h5]
  rw [List.getElem?_take_of_lt hj] at h6
  rw [← Array.getElem?_toList, h6]
  simp [List.getD, List.getElem?_eq_getElem hj]
theorem Iv.froz {w : World} {g cap : Nat} {l : List Int} (h : Iv w g cap l) (j : Nat) : w.frozen? ⟨g, j, none⟩ = false := by
  obtain ⟨cur, h1, -⟩ := h
  exact h1.froz j
theorem Iv.owns {w : World} {B g cap : Nat} {l : List Int} (h : Iv w g cap l) (hB : B ≤ g) : w.ownsRow B 3 1 (ivV g l.length cap) l.length (l.map (Value.int .i64)) := by
  obtain ⟨cur, h1, h2, h3, h4, h5⟩ := h
  exact ⟨by simp, Or.inr ⟨g, cap, cur, rfl, hB, h1, h2, h3, by omega, by rw [Nat.mul_one]; exact h5⟩⟩
theorem Iv.of_owns {w : World} {B n : Nat} {v : Value} {l : List Int} (h : w.ownsRow B 3 1 v n (l.map (Value.int .i64))) (hn : v ≠ .slice none 0 0) : ∃ g cap, v = ivV g l.length cap ∧ B ≤ g ∧ n = l.length ∧ Iv w g cap l := by
  obtain ⟨h0, h | ⟨g, cap, cur, rfl, hB, h1, h2, h3, h4, h5⟩⟩ := h
  · exact absurd h.1 hn
  · have hl : n = l.length := by simp at h0; omega
    subst hl
    exact ⟨g, cap, rfl, hB, rfl, cur, h1, h2, h3, by omega, by rw [Nat.mul_one] at h5; exact h5⟩
theorem Iv.fr {S : List Nat} {w w' : World} {g cap : Nat} {l : List Int} (h : Iv w g cap l) (hf : Fr S w w') (hn : g ∉ S) : Iv w' g cap l := by
  obtain ⟨cur, h1, h2⟩ := h
  exact ⟨cur, h1.fr hf hn, h2⟩
theorem Iv.alloc {w : World} {g cap : Nat} {l : List Int} (h : Iv w g cap l) (x : Obj) : Iv (w.alloc x) g cap l := by
  obtain ⟨cur, h1, h2⟩ := h
  exact ⟨cur, h1.alloc x, h2⟩
theorem Iv.drewN {w : World} {g cap : Nat} {l : List Int} (h : Iv w g cap l) (n : Nat) : Iv (w.drewN n) g cap l := h
theorem Iv.drew {w : World} {g cap : Nat} {l : List Int} (h : Iv w g cap l) : Iv w.drew g cap l := h
theorem Iv.far {w : World} {g cap : Nat} {l : List Int} (h : Iv w g cap l) {p : Addr} (hp : g ≠ p.block) (v : Value) : Iv (w.setCell p v) g cap l := by
  obtain ⟨cur, h1, h2⟩ := h
  exact ⟨cur, h1.far hp v, h2⟩
theorem Iv.set {w : World} {g cap : Nat} {l : List Int} (h : Iv w g cap l) (i : Nat) (x : Int) : Iv (w.setCell ⟨g, i, none⟩ (.int .i64 x)) g cap (l.set i x) := by
  obtain ⟨cur, h1, h2, h3, h4, h5⟩ := h
  refine ⟨_, h1.set i _, by rw [List.length_set]; exact h2, h3, by rw [Array.size_setIfInBounds]; exact h4, ?_⟩
  rw [Array.toList_setIfInBounds, List.length_set, List.map_set, ← h5, List.take_set]
theorem Iv.take {w : World} {g cap : Nat} {l : List Int} (h : Iv w g cap l) (n : Nat) : Iv w g cap (l.take n) := by
  obtain ⟨cur, h1, h2, h3, h4, h5⟩ := h
  refine ⟨cur, h1, by rw [List.length_take]; omega, h3, h4, ?_⟩
  rw [List.map_take, ← h5, List.take_take, List.length_take]

/-- A config in memory: two slices of two blocks of their own. -/
def Cf (w : World) (gm cm gh ch : Nat) (c : Cfg) : Prop := Iv w gm cm c.M ∧ Iv w gh ch c.G ∧ gm ≠ gh
/-- The config's cells. -/
def cfC (gm cm gh ch : Nat) (c : Cfg) : Array Value := #[ivV gm c.M.length cm, ivV gh c.G.length ch, .int .i64 c.lvl, .bool c.fin]
theorem Cf.fr {S : List Nat} {w w' : World} {gm cm gh ch : Nat} {c : Cfg} (h : Cf w gm cm gh ch c) (hf : Fr S w w') (h1 : gm ∉ S) (h2 : gh ∉ S) : Cf w' gm cm gh ch c := ⟨h.1.fr hf h1, h.2.1.fr hf h2, h.2.2⟩
end Go.Proofs.YtnnpjjehecbljaaDoor
