/-
  The members of a list: what Sorted and Compact answer.
-/
import Derived.Test.YtnnpjjehecbljaaDoorLMem
import Derived.Lib.SlicesCompact
namespace Go.Proofs.YtnnpjjehecbljaaDoor
open Go.RowKit

theorem insS_perm (x : Int) : ∀ l : List Int, (insS x l).Perm (x :: l)
  | [] => List.Perm.refl _
  | y :: l => by
    unfold insS
    split
    · exact List.Perm.refl _
    · exact ((insS_perm x l).cons y).trans (List.Perm.swap x y l)
theorem insS_sorted (x : Int) : ∀ l : List Int, l.Pairwise (· ≤ ·) → (insS x l).Pairwise (· ≤ ·)
  | [], _ => by simp [insS]
  | y :: l, h => by
    unfold insS
    rw [List.pairwise_cons] at h
    split
    · rename_i hxy
      refine List.pairwise_cons.2 ⟨fun z hz => ?_, List.pairwise_cons.2 h⟩
      rcases List.mem_cons.1 hz with rfl | hz
      · exact hxy
      · have := h.1 z hz; omega
    · rename_i hxy
      refine List.pairwise_cons.2 ⟨fun z hz => ?_, insS_sorted x l h.2⟩
      rcases List.mem_cons.1 ((insS_perm x l).mem_iff.1 hz) with rfl | hz
      · omega
      · exact h.1 z hz
theorem isortL_perm : ∀ l : List Int, (isortL l).Perm l
  | [] => List.Perm.refl _
  | x :: l => (insS_perm x _).trans ((isortL_perm l).cons x)
theorem isortL_sorted : ∀ l : List Int, (isortL l).Pairwise (· ≤ ·)
  | [] => List.Pairwise.nil
  | x :: l => insS_sorted x _ (isortL_sorted l)
theorem msort_eq (l : List Int) : l.mergeSort (fun x y => decide (x ≤ y)) = isortL l := by
  have h1 : (l.mergeSort (fun x y => decide (x ≤ y))).Pairwise (fun x y : Int => x ≤ y) := by
    have := List.pairwise_mergeSort (le := fun x y : Int => decide (x ≤ y)) (fun a b c h1 h2 => by simp at *; omega) (fun a b => by simp; omega) l
    exact this.imp (fun h => by simpa using h)
  have h2 := (List.mergeSort_perm l (fun x y : Int => decide (x ≤ y))).trans (isortL_perm l).symm
  exact h2.eq_of_pairwise (fun a b _ _ h1 h2 => by omega) h1 (isortL_sorted l)
end Go.Proofs.YtnnpjjehecbljaaDoor
