/-
  entry.Right: what its contract says, and what its cases stand on.
-/
import Derived.Test.YtnnpjjehecbljaaDoorFMsg9
import Derived.StillTailTactics
namespace Go.Proofs.YtnnpjjehecbljaaDoor
open Go.RowKit

def Ent.flds (e : Ent) : List Fld := [⟨99, decide (0 < e.client) || decide (0 < e.seq), decide (0 < e.client)⟩, ⟨98, decide (0 < e.block), smallB e.block⟩, ⟨109, decide (0 < e.many), smallB e.many⟩,
  ⟨110, e.node != 0, nodeB e.node⟩, ⟨108, e.level != 0, e.level == 1 || e.level == 2⟩, ⟨100, !e.data.toList.isEmpty, decide ((e.data.size : Int) ≤ 64)⟩, ⟨111, !e.old.toList.isEmpty, decide ((e.old.size : Int) ≤ 64)⟩]
def Ent.ok (e : Ent) : Bool := (entMay e.kind).2 && decide (0 < e.term) && decide (0 < e.index) && fitB (entMay e.kind).1 e.flds

theorem entS {w : World} {bx : Nat} {e : Ent} {t : TypeId} (h : Blk w bx #[.int .u64 e.term, .int .u64 e.index, .int .i64 e.kind, .int .u64 e.client, .int .u64 e.seq, .int .u64 e.block, .int .u64 e.many, .int .i64 e.node, .int .i64 e.level, .string e.data, .string e.old] t) :
    w.cell? ⟨bx, 0, none⟩ = some (.int .u64 e.term) ∧ w.cell? ⟨bx, 1, none⟩ = some (.int .u64 e.index) ∧ w.cell? ⟨bx, 3, none⟩ = some (.int .u64 e.client) ∧ w.cell? ⟨bx, 4, none⟩ = some (.int .u64 e.seq) ∧ w.cell? ⟨bx, 5, none⟩ = some (.int .u64 e.block) ∧ w.cell? ⟨bx, 6, none⟩ = some (.int .u64 e.many) ∧ w.cell? ⟨bx, 7, none⟩ = some (.int .i64 e.node) ∧ w.cell? ⟨bx, 8, none⟩ = some (.int .i64 e.level) ∧ w.cell? ⟨bx, 9, none⟩ = some (.string e.data) ∧ w.cell? ⟨bx, 10, none⟩ = some (.string e.old) :=
  ⟨h.cellAt (i := 0) rfl, h.cellAt (i := 1) rfl, h.cellAt (i := 3) rfl, h.cellAt (i := 4) rfl, h.cellAt (i := 5) rfl, h.cellAt (i := 6) rfl, h.cellAt (i := 7) rfl, h.cellAt (i := 8) rfl, h.cellAt (i := 9) rfl, h.cellAt (i := 10) rfl⟩

end Go.Proofs.YtnnpjjehecbljaaDoor
