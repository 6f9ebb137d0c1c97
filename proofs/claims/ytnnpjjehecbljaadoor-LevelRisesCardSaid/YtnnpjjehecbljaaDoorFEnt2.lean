/-
  entry: Level, and what slices.ContainsFunc says of entries.
-/
import Derived.Test.YtnnpjjehecbljaaDoorFEnt
import Derived.Test.YtnnpjjehecbljaaDoorFShelf
import Derived.Deep.QuietTactic
import Derived.BigQuiet
import Derived.Deep.RegionHeld3
namespace Go.Proofs.YtnnpjjehecbljaaDoor
open Go.RowKit

def Ent.lvl (e : Ent) : Int := if e.kind = 11 then 2 else 1



/-- What a function of entries that answers a bool is worth. -/
def Asks (F : FuncId) (p : Ent → Bool) (l : List Ent) : Prop := ∀ e, e ∈ l → ∀ w, Calls Tryd.prog F #[.agg e.cells] w fun r w' => r = .returned (.bool (p e)) ∧ Fr [] w w'

/-- The function has a body that can be entered. -/
def Goes (F : FuncId) : Prop := ∀ args w, (callFunc F args).run Tryd.prog w = .ok (.enter F args) w

def idxG {α : Type} (p : α → Bool) : List α → Nat → Int
  | [], _ => -1
  | x :: r, k => if p x = true then (k : Int) else idxG p r (k + 1)

theorem idxG_ge {α : Type} (p : α → Bool) (l : List α) : ∀ k, idxG p l k = -1 ∨ (k : Int) ≤ idxG p l k := by
  induction l with
  | nil => intro k; exact .inl rfl
  | cons x r ih =>
    intro k
    rw [idxG]
    split
    · right; omega
    · rcases ih (k + 1) with h | h
      · exact .inl h
      · right; omega

theorem idxG_any {α : Type} (p : α → Bool) (l : List α) : ∀ k, decide (0 ≤ idxG p l k) = l.any p := by
  induction l with
  | nil => intro k; rfl
  | cons x r ih =>
    intro k
    rw [idxG, List.any_cons]
    by_cases h : p x = true
    · simp [h]
    · rw [if_neg h, ih]; simp [h]

theorem idxG_no {α : Type} (p : α → Bool) {l : List α} {k : Nat} (h : k < l.length) (hp : p l[k] = false) : idxG p (l.drop k) k = idxG p (l.drop (k + 1)) (k + 1) := by
  rw [List.drop_eq_getElem_cons h, idxG, if_neg (by simp [hp])]

theorem idxG_yes {α : Type} (p : α → Bool) {l : List α} {k : Nat} (h : k < l.length) (hp : p l[k] = true) : idxG p (l.drop k) k = k := by
  rw [List.drop_eq_getElem_cons h, idxG, if_pos hp]

theorem idxG_end {α : Type} (p : α → Bool) {l : List α} {k : Nat} (h : l.length ≤ k) : idxG p (l.drop k) k = -1 := by
  rw [List.drop_eq_nil_of_le h]; rfl

end Go.Proofs.YtnnpjjehecbljaaDoor
