/-
  Texts of this seat, joined: FMsg9 FRiB.
-/
import Derived.Test.YtacdbglocpaeaaaZFEnt2
import Derived.StillTailTactics
set_option linter.unusedSimpArgs false
set_option linter.unusedVariables false
namespace Go.Proofs.Ytacdbglocpaeaaa
open Go.RowKit

def flatF (l : List Fld) : Array Value := (l.flatMap (fun f => f.cells.toList)).toArray

theorem flatF_get (l : List Fld) : ∀ j (hj : j < l.length) i, i < 3 → (l.flatMap (fun f => f.cells.toList))[j * 3 + i]? = l[j].cells[i]? := by
  induction l with
  | nil => intro j hj; simp at hj
  | cons f l ih =>
    intro j hj i hi
    rw [List.flatMap_cons]
    have h3 : f.cells.toList.length = 3 := rfl
    cases j with
    | zero =>
      rw [List.getElem?_append_left (by omega)]
      simp
    | succ j =>
      rw [List.getElem?_append_right (by omega), h3, show (j + 1) * 3 + i - 3 = j * 3 + i from by omega, ih j (by simpa using hj) i hi]
      rfl

theorem Flds.new (w : World) (l : List Fld) (t : TypeId) : Flds (w.alloc (.cells (flatF l) t)) w.heap.size 0 l := by
  refine ⟨by simp, fun j hj i hi => ?_⟩
  rw [(Blk.new w (flatF l) t).cell, ← flatF_get l j hj i hi]
  simp [flatF]

theorem goes53 : Goes 53 := fun _ _ => rfl
theorem goes55 : Goes 55 := fun _ _ => rfl

def msg9 : Array Value := #[.int .i64 9, .int .i64 1, .int .i64 2, .int .u64 3, .int .u64 0, .int .u64 0, .int .u64 0, .int .u64 4, .bool false, .slice none 0 0, .string ⟨#[]⟩]
def flds9 : List Fld := [⟨105, false, true⟩, ⟨112, false, true⟩, ⟨116, false, true⟩, ⟨107, true, true⟩, ⟨121, false, true⟩, ⟨101, false, true⟩, ⟨115, false, true⟩]

theorem blk9 {w' : World} {bx : Nat} (h : Blk w' bx msg9 35) : w'.cell? ⟨bx, 1, none⟩ = some (.int .i64 1) ∧ w'.cell? ⟨bx, 2, none⟩ = some (.int .i64 2) ∧ w'.cell? ⟨bx, 4, none⟩ = some (.int .u64 0) ∧ w'.cell? ⟨bx, 5, none⟩ = some (.int .u64 0) ∧ w'.cell? ⟨bx, 6, none⟩ = some (.int .u64 0) ∧ w'.cell? ⟨bx, 7, none⟩ = some (.int .u64 4) ∧ w'.cell? ⟨bx, 8, none⟩ = some (.bool false) ∧ w'.cell? ⟨bx, 9, none⟩ = some (.slice none 0 0) ∧ w'.cell? ⟨bx, 10, none⟩ = some (.string ⟨#[]⟩) :=
  ⟨h.cellAt rfl, h.cellAt rfl, h.cellAt rfl, h.cellAt rfl, h.cellAt rfl, h.cellAt rfl, h.cellAt rfl, h.cellAt rfl, h.cellAt rfl⟩

theorem noEnt (w : World) : Calls Try.prog 52 #[.slice none 0 0, .func (.func 53) #[] #[]] w fun r w' => r = .returned (.bool false) ∧ Fr [] w w' :=
  iContEnt 53 (fun _ => false) [] (.slice none 0 0) w goes53 (fun e he => by cases he) (.inl ⟨rfl, none, 0, rfl⟩) (by decide)

theorem fit9 (w : World) : Calls Try.prog 51 #[.string ⟨#[107]⟩, .slice (some ⟨w.heap.size, 0, none⟩) 7 7] (w.alloc (.cells #[.string ⟨#[105]⟩, .bool false, .bool true, .string ⟨#[112]⟩, .bool false, .bool true, .string ⟨#[116]⟩, .bool false, .bool true, .string ⟨#[107]⟩, .bool true, .bool true, .string ⟨#[121]⟩, .bool false, .bool true, .string ⟨#[101]⟩, .bool false, .bool true, .string ⟨#[115]⟩, .bool false, .bool true] 84))
    fun r w' => r = .returned (.bool true) ∧ Fr [] (w.alloc (.cells #[.string ⟨#[105]⟩, .bool false, .bool true, .string ⟨#[112]⟩, .bool false, .bool true, .string ⟨#[116]⟩, .bool false, .bool true, .string ⟨#[107]⟩, .bool true, .bool true, .string ⟨#[121]⟩, .bool false, .bool true, .string ⟨#[101]⟩, .bool false, .bool true, .string ⟨#[115]⟩, .bool false, .bool true] 84)) w' := by
  have hb : fitB ⟨#[107]⟩ flds9 = true := by decide
  have h := eFit ⟨#[107]⟩ w.heap.size 0 7 flds9 _ (Flds.new w flds9 84) (by decide)
  rw [hb] at h
  exact h

set_option maxRecDepth 100000 in
set_option maxHeartbeats 4000000 in
theorem eMsgRight9 (w : World) : Calls Try.prog 38 #[.agg msg9] w fun r w' => r = .returned (.bool true) ∧ Fr [] w w' := by
  have HF := Lib.hid (eMsgFields 9)
  have hmay : msgMay 9 = (⟨#[107]⟩, true) := rfl
  rw [hmay] at HF
  clear hmay
  unfold msg9
  go_enter Try.func38, Try.ntmps38
  go_wp2_with (first | (go_at_call 49; refine (HF.out _).mono ?_; rintro r w2 ⟨rfl, g2⟩))
  have SB := Lib.hid ((Blk.new w msg9 35).fr0 g2)
  have HF0 : Hid (Fr [] w w2) := ((Fr.refl _ _).alloc _).trans0 g2
  generalize w.heap.size = bx at *
  clear g2 HF
  go_region_held3 (fun w' => w'.cell? ⟨bx, 1, none⟩ = some (.int .i64 1) ∧ w'.cell? ⟨bx, 2, none⟩ = some (.int .i64 2) ∧ w'.cell? ⟨bx, 4, none⟩ = some (.int .u64 0) ∧ w'.cell? ⟨bx, 5, none⟩ = some (.int .u64 0) ∧ w'.cell? ⟨bx, 6, none⟩ = some (.int .u64 0) ∧ w'.cell? ⟨bx, 7, none⟩ = some (.int .u64 4) ∧ w'.cell? ⟨bx, 8, none⟩ = some (.bool false) ∧ w'.cell? ⟨bx, 9, none⟩ = some (.slice none 0 0) ∧ w'.cell? ⟨bx, 10, none⟩ = some (.string ⟨#[]⟩))
    (first | exact blk9 SB.out | exact blk9 SB3 | exact blk9 (Blk.alloc SB3 _) | exact blk9 (Blk.drew (Blk.alloc SB3 _)))
    (first | (go_at_call 50; refine (eNode _ _).mono ?_; rintro r w' ⟨rfl, rfl⟩) | (go_at_call 52; refine (noEnt _).mono ?_; rintro r w3 ⟨rfl, g3⟩; have SB3 := Blk.fr0 SB.out.drew g3) | (go_at_call 51; refine (fit9 _).mono ?_; rintro r w4 ⟨rfl, g4⟩; have SB3 := Blk.fr0 (Blk.alloc SB3 _) g4))
  have HF4 : Hid (Fr [] w w4) := ((HF0.out.drew.trans0 g3).alloc _).trans0 g4
  clear HF0 g3 g4 SB SB3
  go_wp2_with fail
  go_ret
  exact ⟨rfl, HF4.out⟩
end Go.Proofs.Ytacdbglocpaeaaa

namespace Go.Proofs.Ytacdbglocpaeaaa
open Go.RowKit

def Ent.flds (e : Ent) : List Fld := [⟨99, decide (0 < e.client) || decide (0 < e.seq), decide (0 < e.client)⟩, ⟨98, decide (0 < e.block), smallB e.block⟩, ⟨109, decide (0 < e.many), smallB e.many⟩,
  ⟨110, e.node != 0, nodeB e.node⟩, ⟨108, e.level != 0, e.level == 1 || e.level == 2⟩, ⟨100, !e.data.toList.isEmpty, decide ((e.data.size : Int) ≤ 64)⟩, ⟨111, !e.old.toList.isEmpty, decide ((e.old.size : Int) ≤ 64)⟩]
def Ent.ok (e : Ent) : Bool := (entMay e.kind).2 && decide (0 < e.term) && decide (0 < e.index) && fitB (entMay e.kind).1 e.flds

theorem entS {w : World} {bx : Nat} {e : Ent} {t : TypeId} (h : Blk w bx #[.int .u64 e.term, .int .u64 e.index, .int .i64 e.kind, .int .u64 e.client, .int .u64 e.seq, .int .u64 e.block, .int .u64 e.many, .int .i64 e.node, .int .i64 e.level, .string e.data, .string e.old] t) :
    w.cell? ⟨bx, 0, none⟩ = some (.int .u64 e.term) ∧ w.cell? ⟨bx, 1, none⟩ = some (.int .u64 e.index) ∧ w.cell? ⟨bx, 3, none⟩ = some (.int .u64 e.client) ∧ w.cell? ⟨bx, 4, none⟩ = some (.int .u64 e.seq) ∧ w.cell? ⟨bx, 5, none⟩ = some (.int .u64 e.block) ∧ w.cell? ⟨bx, 6, none⟩ = some (.int .u64 e.many) ∧ w.cell? ⟨bx, 7, none⟩ = some (.int .i64 e.node) ∧ w.cell? ⟨bx, 8, none⟩ = some (.int .i64 e.level) ∧ w.cell? ⟨bx, 9, none⟩ = some (.string e.data) ∧ w.cell? ⟨bx, 10, none⟩ = some (.string e.old) :=
  ⟨h.cellAt (i := 0) rfl, h.cellAt (i := 1) rfl, h.cellAt (i := 3) rfl, h.cellAt (i := 4) rfl, h.cellAt (i := 5) rfl, h.cellAt (i := 6) rfl, h.cellAt (i := 7) rfl, h.cellAt (i := 8) rfl, h.cellAt (i := 9) rfl, h.cellAt (i := 10) rfl⟩

end Go.Proofs.Ytacdbglocpaeaaa
