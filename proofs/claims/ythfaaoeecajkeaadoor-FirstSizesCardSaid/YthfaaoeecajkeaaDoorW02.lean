/-
  Texts of this seat, joined: FMsg9.
-/
import Derived.Test.YthfaaoeecajkeaaDoorW01
set_option linter.unusedSimpArgs false
set_option linter.unusedVariables false
namespace Go.Proofs.YthfaaoeecajkeaaDoor
open Go.RowKit

def flatF (l : List Fld) : Array Value := (l.flatMap (fun f => f.cells.toList)).toArray

theorem flatF_get (l : List Fld) : ∀ j (hj : j < l.length) i, i < 3 → (l.flatMap (fun f => f.cells.toList))[j * 3 + i]? = l[j].cells[i]? := by
  induction l with
  | nil => intro j hj; simp at hj
  | cons f l ih =>
    intro j hj i hi
    rw [List.flatMap_cons]
    have h3 : f.cells.toList.length = 3 := rfl
    cases j with
    | zero =>
      rw [List.getElem?_append_left (by omega)]
      simp
    | succ j =>
      rw [List.getElem?_append_right (by omega), h3, show (j + 1) * 3 + i - 3 = j * 3 + i from by omega, ih j (by simpa using hj) i hi]
      rfl

theorem Flds.new (w : World) (l : List Fld) (t : TypeId) : Flds (w.alloc (.cells (flatF l) t)) w.heap.size 0 l := by
  refine ⟨by simp, fun j hj i hi => ?_⟩
  rw [(Blk.new w (flatF l) t).cell, ← flatF_get l j hj i hi]
  simp [flatF]

set_option maxRecDepth 100000 in
theorem goes53 : Goes 70 := fun _ _ => rfl
set_option maxRecDepth 100000 in
theorem goes55 : Goes 49 := fun _ _ => rfl

def msg9 : Array Value := #[.int .i64 9, .int .i64 1, .int .i64 2, .int .u64 3, .int .u64 0, .int .u64 0, .int .u64 0, .int .u64 4, .bool false, .slice none 0 0, .string ⟨#[]⟩]
def flds9 : List Fld := [⟨105, false, true⟩, ⟨112, false, true⟩, ⟨116, false, true⟩, ⟨107, true, true⟩, ⟨121, false, true⟩, ⟨101, false, true⟩, ⟨115, false, true⟩]

theorem blk9 {w' : World} {bx : Nat} (h : Blk w' bx msg9 47) : w'.cell? ⟨bx, 1, none⟩ = some (.int .i64 1) ∧ w'.cell? ⟨bx, 2, none⟩ = some (.int .i64 2) ∧ w'.cell? ⟨bx, 4, none⟩ = some (.int .u64 0) ∧ w'.cell? ⟨bx, 5, none⟩ = some (.int .u64 0) ∧ w'.cell? ⟨bx, 6, none⟩ = some (.int .u64 0) ∧ w'.cell? ⟨bx, 7, none⟩ = some (.int .u64 4) ∧ w'.cell? ⟨bx, 8, none⟩ = some (.bool false) ∧ w'.cell? ⟨bx, 9, none⟩ = some (.slice none 0 0) ∧ w'.cell? ⟨bx, 10, none⟩ = some (.string ⟨#[]⟩) :=
  ⟨h.cellAt rfl, h.cellAt rfl, h.cellAt rfl, h.cellAt rfl, h.cellAt rfl, h.cellAt rfl, h.cellAt rfl, h.cellAt rfl, h.cellAt rfl⟩

theorem noEnt (w : World) : Calls Tryd.prog 48 #[.slice none 0 0, .func (.func 70) #[] #[]] w fun r w' => r = .returned (.bool false) ∧ Fr [] w w' :=
  iContEnt 70 (fun _ => false) [] (.slice none 0 0) w goes53 (fun e he => by cases he) (.inl ⟨rfl, none, 0, rfl⟩) (by decide)

theorem fit9 (w : World) : Calls Tryd.prog 51 #[.string ⟨#[107]⟩, .slice (some ⟨w.heap.size, 0, none⟩) 7 7] (w.alloc (.cells #[.string ⟨#[105]⟩, .bool false, .bool true, .string ⟨#[112]⟩, .bool false, .bool true, .string ⟨#[116]⟩, .bool false, .bool true, .string ⟨#[107]⟩, .bool true, .bool true, .string ⟨#[121]⟩, .bool false, .bool true, .string ⟨#[101]⟩, .bool false, .bool true, .string ⟨#[115]⟩, .bool false, .bool true] 86))
    fun r w' => r = .returned (.bool true) ∧ Fr [] (w.alloc (.cells #[.string ⟨#[105]⟩, .bool false, .bool true, .string ⟨#[112]⟩, .bool false, .bool true, .string ⟨#[116]⟩, .bool false, .bool true, .string ⟨#[107]⟩, .bool true, .bool true, .string ⟨#[121]⟩, .bool false, .bool true, .string ⟨#[101]⟩, .bool false, .bool true, .string ⟨#[115]⟩, .bool false, .bool true] 86)) w' := by
  have hb : fitB ⟨#[107]⟩ flds9 = true := by decide
  have h := eFit ⟨#[107]⟩ w.heap.size 0 7 flds9 _ (Flds.new w flds9 86) (by decide)
  rw [hb] at h
  exact h

set_option maxRecDepth 100000 in
set_option maxHeartbeats 4000000 in
theorem eMsgRight9 (w : World) : Calls Tryd.prog 43 #[.agg msg9] w fun r w' => r = .returned (.bool true) ∧ Fr [] w w' := by
  have HF := Lib.hid (eMsgFields 9)
  have hmay : msgMay 9 = (⟨#[107]⟩, true) := rfl
  rw [hmay] at HF
  clear hmay
  unfold msg9
  go_enter Tryd.func43, Tryd.ntmps43
  go_wp2_with (first | (go_at_call 69; refine (HF.out _).mono ?_; rintro r w2 ⟨rfl, g2⟩))
  have SB := Lib.hid ((Blk.new w msg9 47).fr0 g2)
  have HF0 : Hid (Fr [] w w2) := ((Fr.refl _ _).alloc _).trans0 g2
  generalize w.heap.size = bx at *
  clear g2 HF
  go_region_held3 (fun w' => w'.cell? ⟨bx, 1, none⟩ = some (.int .i64 1) ∧ w'.cell? ⟨bx, 2, none⟩ = some (.int .i64 2) ∧ w'.cell? ⟨bx, 4, none⟩ = some (.int .u64 0) ∧ w'.cell? ⟨bx, 5, none⟩ = some (.int .u64 0) ∧ w'.cell? ⟨bx, 6, none⟩ = some (.int .u64 0) ∧ w'.cell? ⟨bx, 7, none⟩ = some (.int .u64 4) ∧ w'.cell? ⟨bx, 8, none⟩ = some (.bool false) ∧ w'.cell? ⟨bx, 9, none⟩ = some (.slice none 0 0) ∧ w'.cell? ⟨bx, 10, none⟩ = some (.string ⟨#[]⟩))
    (first | exact blk9 SB.out | exact blk9 SB3 | exact blk9 (Blk.alloc SB3 _) | exact blk9 (Blk.drew (Blk.alloc SB3 _)))
    (first | (go_at_call 53; refine (eNode _ _).mono ?_; rintro r w' ⟨rfl, rfl⟩) | (go_at_call 48; refine (noEnt _).mono ?_; rintro r w3 ⟨rfl, g3⟩; have SB3 := Blk.fr0 SB.out.drew g3) | (go_at_call 51; refine (fit9 _).mono ?_; rintro r w4 ⟨rfl, g4⟩; have SB3 := Blk.fr0 (Blk.alloc SB3 _) g4))
  have HF4 : Hid (Fr [] w w4) := ((HF0.out.drew.trans0 g3).alloc _).trans0 g4
  clear HF0 g3 g4 SB SB3
  go_wp2_with fail
  go_ret
  exact ⟨rfl, HF4.out⟩
end Go.Proofs.YthfaaoeecajkeaaDoor
