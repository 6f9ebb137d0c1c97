/-
  Texts of this seat, joined: RRt7 RRt8 RRight RLv RMrB.
-/
import Derived.Test.YtnnpjjehecbljaaGreatDoorV17
import Derived.Test.YtnnpjjehecbljaaGreatDoorV18
import Derived.Test.YtnnpjjehecbljaaGreatDoorV19
set_option linter.unusedSimpArgs false
set_option linter.unusedVariables false
namespace Go.Proofs.YtnnpjjehecbljaaGreatDoor
open Go.RowKit

end Go.Proofs.YtnnpjjehecbljaaGreatDoor

namespace Go.Proofs.YtnnpjjehecbljaaGreatDoor
open Go.RowKit

end Go.Proofs.YtnnpjjehecbljaaGreatDoor

namespace Go.Proofs.YtnnpjjehecbljaaGreatDoor
open Go.RowKit


/-- The program's own answer, by what is in a kind's letters. -/
def okP (bc bb bm bd bo bn bl : Bool) (e : Ent) : Bool :=
  decide (0 < e.term) && decide (0 < e.index) && (if bc then decide (0 < e.client) else !(decide (0 < e.client) || decide (0 < e.seq))) && (if bb then smallB e.block else !decide (0 < e.block)) && (if bm then smallB e.many else !decide (0 < e.many)) &&
  (if bn then nodeB e.node else !(e.node != 0)) && (if bl then e.level == 1 || e.level == 2 else !(e.level != 0)) && (if bd then decide ((e.data.size : Int) ≤ 64) else e.data.toList.isEmpty) && (if bo then decide ((e.old.size : Int) ≤ 64) else e.old.toList.isEmpty)

theorem small_le {n : Int} (h : 0 ≤ n) : smallB n = !decide (4294967296 ≤ n) := by
  unfold smallB
  rw [Bool.eq_iff_iff]; simp; omega

theorem empty_short {s : ByteArray} (h : s.toList.isEmpty = true) : decide ((s.size : Int) ≤ 64) = true := by
  rw [List.isEmpty_iff, Lib.toList_data] at h
  have : s.size = 0 := by rw [Lib.size_eq, h]; rfl
  simp [this]

theorem okRP (bc bb bm bd bo bn bl : Bool) (e : Ent) (he : e.Fits) : okR bc bb bm bd bo bn bl e = okP bc bb bm bd bo bn bl e := by
  have hb := small_le he.block.1
  have hm := small_le he.many.1
  have hb0 := he.block.1
  have hm0 := he.many.1
  have ht : decide (e.term < 1) = !decide (0 < e.term) := by rw [Bool.eq_iff_iff]; simp; omega
  have hi : decide (e.index < 1) = !decide (0 < e.index) := by rw [Bool.eq_iff_iff]; simp; omega
  have hd : decide ((64 : Int) < e.data.size) = !decide ((e.data.size : Int) ≤ 64) := by rw [Bool.eq_iff_iff]; simp
  have ho : decide ((64 : Int) < e.old.size) = !decide ((e.old.size : Int) ≤ 64) := by rw [Bool.eq_iff_iff]; simp
  have hde : e.data.toList.isEmpty = true → decide ((e.data.size : Int) ≤ 64) = true := fun h => by
    exact empty_short h
  have hoe : e.old.toList.isEmpty = true → decide ((e.old.size : Int) ≤ 64) = true := fun h => by
    exact empty_short h
  have hbs : decide (0 < e.block) = false → decide (4294967296 ≤ e.block) = false := by simp; omega
  have hms : decide (0 < e.many) = false → decide (4294967296 ≤ e.many) = false := by simp; omega
  unfold okR okP nodeB
  rw [hb, hm, ht, hi, hd, ho]
  have hnz : (e.node != 0) = !(e.node == 0) := rfl
  have hlz : (e.level != 0) = !(e.level == 0) := rfl
  rw [hnz, hlz]
  clear hb hm ht hi hd ho hnz hlz
  generalize decide (0 < e.term) = a1 at *
  generalize decide (0 < e.index) = a2 at *
  generalize decide ((e.data.size : Int) ≤ 64) = a3 at *
  generalize decide ((e.old.size : Int) ≤ 64) = a4 at *
  generalize decide (4294967296 ≤ e.block) = a5 at *
  generalize decide (4294967296 ≤ e.many) = a6 at *
  generalize decide (0 < e.client) = a7 at *
  generalize decide (0 < e.seq) = a8 at *
  generalize decide (0 < e.block) = a9 at *
  generalize decide (0 < e.many) = b1 at *
  generalize e.data.toList.isEmpty = b2 at *
  generalize e.old.toList.isEmpty = b3 at *
  generalize (decide (1 ≤ e.node) && decide (e.node ≤ 7)) = b4 at *
  generalize (e.node == 0) = b5 at *
  generalize (e.level == 1 || e.level == 2) = b6 at *
  generalize (e.level == 0) = b7 at *
  cases a1 <;> cases a2 <;> cases a3 <;> cases a4 <;> cases a5 <;> cases a6 <;> simp_all <;> (cases bc <;> cases a7 <;> simp_all) <;> (cases bb <;> cases bm <;> cases bd <;> cases bo <;> simp_all) <;> (cases bn <;> cases bl <;> simp_all) <;> grind

def mayOf (k : Int) : ByteArray := (entMay k).1

/-- What is in a kind's letters, for the program's own text. -/
theorem ok_class {e : Ent} {may : ByteArray} {bc bb bm bd bo bn bl : Bool} (hk : entMay e.kind = (may, true)) (hc : hasB may 99 = bc) (hb : hasB may 98 = bb) (hm : hasB may 109 = bm) (hn : hasB may 110 = bn) (hl : hasB may 108 = bl) (hd : hasB may 100 = bd) (ho : hasB may 111 = bo) :
    e.ok = okP bc bb bm bd bo bn bl e := by
  unfold Ent.ok fitB Ent.flds okP
  rw [hk]
  simp only [List.any_cons, List.any_nil, Fld.bad, hc, hb, hm, hn, hl, hd, ho]
  generalize e.data.toList.isEmpty = x1
  generalize e.old.toList.isEmpty = x2
  generalize decide (0 < e.client) = x3
  generalize decide (0 < e.seq) = x4
  generalize decide (0 < e.block) = x5
  generalize decide (0 < e.many) = x6
  generalize smallB e.block = x7
  generalize smallB e.many = x8
  generalize nodeB e.node = x9
  generalize (e.node != 0) = y1
  generalize (e.level != 0) = y2
  generalize (e.level == 1 || e.level == 2) = y3
  generalize decide ((e.data.size : Int) ≤ 64) = y4
  generalize decide ((e.old.size : Int) ≤ 64) = y5
  generalize decide (0 < e.term) = y6
  generalize decide (0 < e.index) = y7
  cases bc <;> cases bb <;> cases bm <;> cases bd <;> cases bo <;> cases bn <;> cases bl <;> simp [Bool.and_assoc, Bool.and_comm, Bool.and_left_comm]

end Go.Proofs.YtnnpjjehecbljaaGreatDoor

namespace Go.Proofs.YtnnpjjehecbljaaGreatDoor
open Go.RowKit


/-- Is one of the entries from k on of level 2? -/
theorem any_step {p : Ent → Bool} {l : List Ent} {k : Nat} (h : k < l.length) : (l.drop k).any p = (p l[k] || (l.drop (k + 1)).any p) := by
  rw [List.drop_eq_getElem_cons h, List.any_cons]

theorem entCells {w : World} {b o k : Nat} {l : List Ent} (h : ∀ j (hj : j < l.length) i, i < 11 → w.cell? ⟨b, o + j * 11 + i, none⟩ = l[j].cells[i]?) (hk : k < l.length) {e : Ent} (he : l[k] = e) :
    w.cell? ⟨b, o + k * 11, none⟩ = some (.int .u64 e.term) ∧ w.cell? ⟨b, o + k * 11 + 1, none⟩ = some (.int .u64 e.index) ∧ w.cell? ⟨b, o + k * 11 + 2, none⟩ = some (.int .i64 e.kind) ∧ w.cell? ⟨b, o + k * 11 + 3, none⟩ = some (.int .u64 e.client) ∧ w.cell? ⟨b, o + k * 11 + 4, none⟩ = some (.int .u64 e.seq) ∧ w.cell? ⟨b, o + k * 11 + 5, none⟩ = some (.int .u64 e.block) ∧ w.cell? ⟨b, o + k * 11 + 6, none⟩ = some (.int .u64 e.many) ∧ w.cell? ⟨b, o + k * 11 + 7, none⟩ = some (.int .i64 e.node) ∧ w.cell? ⟨b, o + k * 11 + 8, none⟩ = some (.int .i64 e.level) ∧ w.cell? ⟨b, o + k * 11 + 9, none⟩ = some (.string e.data) ∧ w.cell? ⟨b, o + k * 11 + 10, none⟩ = some (.string e.old) := by
  subst he
  exact ⟨h k hk 0 (by decide), h k hk 1 (by decide), h k hk 2 (by decide), h k hk 3 (by decide), h k hk 4 (by decide), h k hk 5 (by decide), h k hk 6 (by decide), h k hk 7 (by decide), h k hk 8 (by decide), h k hk 9 (by decide), h k hk 10 (by decide)⟩

theorem Ents.row {w : World} {b o c n : Nat} {l : List Ent} (h : Ents w (.slice (some ⟨b, o, none⟩) n c) l) (hn : l.length = n) (h0 : 0 < n) : b < w.heap.size ∧ ∀ j (hj : j < l.length) i, i < 11 → w.cell? ⟨b, o + j * 11 + i, none⟩ = l[j].cells[i]? := by
  rcases h with ⟨rfl, _⟩ | ⟨b', o', c', e, h1, h2⟩
  · simp at hn; omega
  · injection e with e1 e2 e3
    injection e1 with e1
    injection e1 with e1 e4
    subst e1; subst e4
    exact ⟨h1, h2⟩

end Go.Proofs.YtnnpjjehecbljaaGreatDoor

namespace Go.Proofs.YtnnpjjehecbljaaGreatDoor
open Go.RowKit

/-- The chapter's own answer, by what is in a kind's letters. -/
def okMR (bi bp bt bk by' be bs : Bool) (n : Nat) (bad : Bool) (m : Msg) : Bool :=
  !(decide (m.sent < 1) || decide (7 < m.sent) || decide (m.goal < 1) || decide (7 < m.goal) || decide (64 < n) || decide ((16384 : Int) < m.snap.size)) && !bad &&
  (bi || !decide (0 < m.index)) && (bp || !decide (0 < m.prev)) && (bt || !decide (0 < m.commit)) && (bk || !decide (0 < m.mark)) && (by' || !m.yes) && (be || n == 0) && (bs || m.snap.toList.isEmpty)

theorem msgC {w : World} {bx : Nat} {m : Msg} {v : Value} {t : TypeId} (h : Blk w bx (m.cells v) t) :
    w.cell? ⟨bx, 1, none⟩ = some (.int .i64 m.sent) ∧ w.cell? ⟨bx, 2, none⟩ = some (.int .i64 m.goal) ∧ w.cell? ⟨bx, 4, none⟩ = some (.int .u64 m.index) ∧ w.cell? ⟨bx, 5, none⟩ = some (.int .u64 m.prev) ∧ w.cell? ⟨bx, 6, none⟩ = some (.int .u64 m.commit) ∧ w.cell? ⟨bx, 7, none⟩ = some (.int .u64 m.mark) ∧ w.cell? ⟨bx, 8, none⟩ = some (.bool m.yes) ∧ w.cell? ⟨bx, 9, none⟩ = some v ∧ w.cell? ⟨bx, 10, none⟩ = some (.string m.snap) := msgS h
end Go.Proofs.YtnnpjjehecbljaaGreatDoor
