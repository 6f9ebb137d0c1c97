/-
  Texts of this seat, joined: FMsg9.
-/
import Derived.Test.YtnnpjjehecbljaaGreatDoorV01
set_option linter.unusedSimpArgs false
set_option linter.unusedVariables false
namespace Go.Proofs.YtnnpjjehecbljaaGreatDoor
open Go.RowKit

def flatF (l : List Fld) : Array Value := (l.flatMap (fun f => f.cells.toList)).toArray

theorem flatF_get (l : List Fld) : ∀ j (hj : j < l.length) i, i < 3 → (l.flatMap (fun f => f.cells.toList))[j * 3 + i]? = l[j].cells[i]? := by
  induction l with
  | nil => intro j hj; simp at hj
  | cons f l ih =>
    intro j hj i hi
    rw [List.flatMap_cons]
    have h3 : f.cells.toList.length = 3 := rfl
    cases j with
    | zero =>
      rw [List.getElem?_append_left (by omega)]
      simp
    | succ j =>
      rw [List.getElem?_append_right (by omega), h3, show (j + 1) * 3 + i - 3 = j * 3 + i from by omega, ih j (by simpa using hj) i hi]
      rfl

theorem Flds.new (w : World) (l : List Fld) (t : TypeId) : Flds (w.alloc (.cells (flatF l) t)) w.heap.size 0 l := by
  refine ⟨by simp, fun j hj i hi => ?_⟩
  rw [(Blk.new w (flatF l) t).cell, ← flatF_get l j hj i hi]
  simp [flatF]


def msg9 : Array Value := #[.int .i64 9, .int .i64 1, .int .i64 2, .int .u64 3, .int .u64 0, .int .u64 0, .int .u64 0, .int .u64 4, .bool false, .slice none 0 0, .string ⟨#[]⟩]
def flds9 : List Fld := [⟨105, false, true⟩, ⟨112, false, true⟩, ⟨116, false, true⟩, ⟨107, true, true⟩, ⟨121, false, true⟩, ⟨101, false, true⟩, ⟨115, false, true⟩]



theorem fit9 (w : World) : Calls Tryz.prog 50 #[.string ⟨#[107]⟩, .slice (some ⟨w.heap.size, 0, none⟩) 7 7] (w.alloc (.cells #[.string ⟨#[105]⟩, .bool false, .bool true, .string ⟨#[112]⟩, .bool false, .bool true, .string ⟨#[116]⟩, .bool false, .bool true, .string ⟨#[107]⟩, .bool true, .bool true, .string ⟨#[121]⟩, .bool false, .bool true, .string ⟨#[101]⟩, .bool false, .bool true, .string ⟨#[115]⟩, .bool false, .bool true] 90))
    fun r w' => r = .returned (.bool true) ∧ Fr [] (w.alloc (.cells #[.string ⟨#[105]⟩, .bool false, .bool true, .string ⟨#[112]⟩, .bool false, .bool true, .string ⟨#[116]⟩, .bool false, .bool true, .string ⟨#[107]⟩, .bool true, .bool true, .string ⟨#[121]⟩, .bool false, .bool true, .string ⟨#[101]⟩, .bool false, .bool true, .string ⟨#[115]⟩, .bool false, .bool true] 90)) w' := by
  have hb : fitB ⟨#[107]⟩ flds9 = true := by decide
  have h := eFit ⟨#[107]⟩ w.heap.size 0 7 flds9 _ (Flds.new w flds9 90) (by decide)
  rw [hb] at h
  exact h

end Go.Proofs.YtnnpjjehecbljaaGreatDoor
