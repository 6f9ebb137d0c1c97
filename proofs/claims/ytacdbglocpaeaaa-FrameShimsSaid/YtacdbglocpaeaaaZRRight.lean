/-
  Texts of this seat, joined: RRight.
-/
import Derived.Test.YtacdbglocpaeaaaZRRtB
import Derived.Test.YtacdbglocpaeaaaZRRt5
set_option linter.unusedSimpArgs false
set_option linter.unusedVariables false
namespace Go.Proofs.Ytacdbglocpaeaaa
open Go.RowKit

set_option maxRecDepth 100000 in
set_option maxHeartbeats 4000000 in
theorem rRight_bad (e : Ent) (w : World) (hkind : (entMay e.kind).2 = false) : Calls Try.prog 58 #[.agg e.cells] w fun r w' => r = .returned (.bool false) ∧ Fr [] w w' := by
  have HF := Lib.hid (rFields e.kind)
  rw [hkind] at HF
  clear hkind
  generalize (entMay e.kind).1 = may at *
  unfold Ent.cells
  go_enter Try.func58, Try.ntmps58
  go_wp2_with fail
  refine (HF.out _).mono ?_
  rintro r w2 ⟨rfl, g2⟩
  have HF0 : Hid (Fr [] w w2) := ((Fr.refl _ _).alloc _).trans0 g2
  clear g2
  go_wp2_with fail
  go_ret
  exact ⟨rfl, HF0.out⟩

/-- The program's own answer, by what is in a kind's letters. -/
def okP (bc bb bm bd bo bn bl : Bool) (e : Ent) : Bool :=
  decide (0 < e.term) && decide (0 < e.index) && (if bc then decide (0 < e.client) else !(decide (0 < e.client) || decide (0 < e.seq))) && (if bb then smallB e.block else !decide (0 < e.block)) && (if bm then smallB e.many else !decide (0 < e.many)) &&
  (if bn then nodeB e.node else !(e.node != 0)) && (if bl then e.level == 1 || e.level == 2 else !(e.level != 0)) && (if bd then decide ((e.data.size : Int) ≤ 64) else e.data.toList.isEmpty) && (if bo then decide ((e.old.size : Int) ≤ 64) else e.old.toList.isEmpty)

theorem small_le {n : Int} (h : 0 ≤ n) : smallB n = !decide (4294967296 ≤ n) := by
  unfold smallB
  rw [Bool.eq_iff_iff]; simp; omega

theorem empty_short {s : ByteArray} (h : s.toList.isEmpty = true) : decide ((s.size : Int) ≤ 64) = true := by
  rw [List.isEmpty_iff, Lib.toList_data] at h
  have : s.size = 0 := by rw [Lib.size_eq, h]; rfl
  simp [this]

theorem okRP (bc bb bm bd bo bn bl : Bool) (e : Ent) (he : e.Fits) : okR bc bb bm bd bo bn bl e = okP bc bb bm bd bo bn bl e := by
  have hb := small_le he.block.1
  have hm := small_le he.many.1
  have hb0 := he.block.1
  have hm0 := he.many.1
  have ht : decide (e.term < 1) = !decide (0 < e.term) := by rw [Bool.eq_iff_iff]; simp; omega
  have hi : decide (e.index < 1) = !decide (0 < e.index) := by rw [Bool.eq_iff_iff]; simp; omega
  have hd : decide ((64 : Int) < e.data.size) = !decide ((e.data.size : Int) ≤ 64) := by rw [Bool.eq_iff_iff]; simp
  have ho : decide ((64 : Int) < e.old.size) = !decide ((e.old.size : Int) ≤ 64) := by rw [Bool.eq_iff_iff]; simp
  have hde : e.data.toList.isEmpty = true → decide ((e.data.size : Int) ≤ 64) = true := fun h => by
    exact empty_short h
  have hoe : e.old.toList.isEmpty = true → decide ((e.old.size : Int) ≤ 64) = true := fun h => by
    exact empty_short h
  have hbs : decide (0 < e.block) = false → decide (4294967296 ≤ e.block) = false := by simp; omega
  have hms : decide (0 < e.many) = false → decide (4294967296 ≤ e.many) = false := by simp; omega
  unfold okR okP nodeB
  rw [hb, hm, ht, hi, hd, ho]
  have hnz : (e.node != 0) = !(e.node == 0) := rfl
  have hlz : (e.level != 0) = !(e.level == 0) := rfl
  rw [hnz, hlz]
  clear hb hm ht hi hd ho hnz hlz
  generalize decide (0 < e.term) = a1 at *
  generalize decide (0 < e.index) = a2 at *
  generalize decide ((e.data.size : Int) ≤ 64) = a3 at *
  generalize decide ((e.old.size : Int) ≤ 64) = a4 at *
  generalize decide (4294967296 ≤ e.block) = a5 at *
  generalize decide (4294967296 ≤ e.many) = a6 at *
  generalize decide (0 < e.client) = a7 at *
  generalize decide (0 < e.seq) = a8 at *
  generalize decide (0 < e.block) = a9 at *
  generalize decide (0 < e.many) = b1 at *
  generalize e.data.toList.isEmpty = b2 at *
  generalize e.old.toList.isEmpty = b3 at *
  generalize (decide (1 ≤ e.node) && decide (e.node ≤ 7)) = b4 at *
  generalize (e.node == 0) = b5 at *
  generalize (e.level == 1 || e.level == 2) = b6 at *
  generalize (e.level == 0) = b7 at *
  cases a1 <;> cases a2 <;> cases a3 <;> cases a4 <;> cases a5 <;> cases a6 <;> simp_all <;> (cases bc <;> cases a7 <;> simp_all) <;> (cases bb <;> cases bm <;> cases bd <;> cases bo <;> simp_all) <;> (cases bn <;> cases bl <;> simp_all) <;> grind

def mayOf (k : Int) : ByteArray := (entMay k).1

/-- What is in a kind's letters, for the program's own text. -/
theorem ok_class {e : Ent} {may : ByteArray} {bc bb bm bd bo bn bl : Bool} (hk : entMay e.kind = (may, true)) (hc : hasB may 99 = bc) (hb : hasB may 98 = bb) (hm : hasB may 109 = bm) (hn : hasB may 110 = bn) (hl : hasB may 108 = bl) (hd : hasB may 100 = bd) (ho : hasB may 111 = bo) :
    e.ok = okP bc bb bm bd bo bn bl e := by
  unfold Ent.ok fitB Ent.flds okP
  rw [hk]
  simp only [List.any_cons, List.any_nil, Fld.bad, hc, hb, hm, hn, hl, hd, ho]
  generalize e.data.toList.isEmpty = x1
  generalize e.old.toList.isEmpty = x2
  generalize decide (0 < e.client) = x3
  generalize decide (0 < e.seq) = x4
  generalize decide (0 < e.block) = x5
  generalize decide (0 < e.many) = x6
  generalize smallB e.block = x7
  generalize smallB e.many = x8
  generalize nodeB e.node = x9
  generalize (e.node != 0) = y1
  generalize (e.level != 0) = y2
  generalize (e.level == 1 || e.level == 2) = y3
  generalize decide ((e.data.size : Int) ≤ 64) = y4
  generalize decide ((e.old.size : Int) ≤ 64) = y5
  generalize decide (0 < e.term) = y6
  generalize decide (0 < e.index) = y7
  cases bc <;> cases bb <;> cases bm <;> cases bd <;> cases bo <;> cases bn <;> cases bl <;> simp [Bool.and_assoc, Bool.and_comm, Bool.and_left_comm]

theorem rRight (e : Ent) (w : World) (he : e.Fits) : Calls Try.prog 58 #[.agg e.cells] w fun r w' => r = .returned (.bool e.ok) ∧ Fr [] w w' := by
  by_cases h : 0 ≤ e.kind ∧ e.kind ≤ 11
  · have : e.kind = 0 ∨ e.kind = 1 ∨ e.kind = 2 ∨ e.kind = 3 ∨ e.kind = 4 ∨ e.kind = 5 ∨ e.kind = 6 ∨ e.kind = 7 ∨ e.kind = 8 ∨ e.kind = 9 ∨ e.kind = 10 ∨ e.kind = 11 := by omega
    rcases this with hk | hk | hk | hk | hk | hk | hk | hk | hk | hk | hk | hk
    all_goals
      first
        | (have hm : entMay e.kind = (⟨#[]⟩, true) := by (rw [hk]; rfl)
           rw [ok_class hm rfl rfl rfl rfl rfl rfl rfl, ← okRP _ _ _ _ _ _ _ e he]; exact rRight_none e _ w he hm (by decide) rfl rfl rfl rfl rfl rfl rfl)
        | (have hm : entMay e.kind = (⟨#[99, 98, 100]⟩, true) := by (rw [hk]; rfl)
           rw [ok_class hm rfl rfl rfl rfl rfl rfl rfl, ← okRP _ _ _ _ _ _ _ e he]; exact rRight_cbd e _ w he hm (by decide) rfl rfl rfl rfl rfl rfl rfl)
        | (have hm : entMay e.kind = (⟨#[99, 98, 109]⟩, true) := by (rw [hk]; rfl)
           rw [ok_class hm rfl rfl rfl rfl rfl rfl rfl, ← okRP _ _ _ _ _ _ _ e he]; exact rRight_cbm e _ w he hm (by decide) rfl rfl rfl rfl rfl rfl rfl)
        | (have hm : entMay e.kind = (⟨#[99, 109]⟩, true) := by (rw [hk]; rfl)
           rw [ok_class hm rfl rfl rfl rfl rfl rfl rfl, ← okRP _ _ _ _ _ _ _ e he]; exact rRight_cm e _ w he hm (by decide) rfl rfl rfl rfl rfl rfl rfl)
        | (have hm : entMay e.kind = (⟨#[99]⟩, true) := by (rw [hk]; rfl)
           rw [ok_class hm rfl rfl rfl rfl rfl rfl rfl, ← okRP _ _ _ _ _ _ _ e he]; exact rRight_c e _ w he hm (by decide) rfl rfl rfl rfl rfl rfl rfl)
        | (have hm : entMay e.kind = (⟨#[110]⟩, true) := by (rw [hk]; rfl)
           rw [ok_class hm rfl rfl rfl rfl rfl rfl rfl, ← okRP _ _ _ _ _ _ _ e he]; exact rRight_n e _ w he hm (by decide) rfl rfl rfl rfl rfl rfl rfl)
        | (have hm : entMay e.kind = (⟨#[110, 108]⟩, true) := by (rw [hk]; rfl)
           rw [ok_class hm rfl rfl rfl rfl rfl rfl rfl, ← okRP _ _ _ _ _ _ _ e he]; exact rRight_nl e _ w he hm (by decide) rfl rfl rfl rfl rfl rfl rfl)
        | (have hm : entMay e.kind = (⟨#[99, 98, 100, 111]⟩, true) := by (rw [hk]; rfl)
           rw [ok_class hm rfl rfl rfl rfl rfl rfl rfl, ← okRP _ _ _ _ _ _ _ e he]; exact rRight_cbdo e _ w he hm (by decide) rfl rfl rfl rfl rfl rfl rfl)
  · have hn : (entMay e.kind).2 = false := by
      unfold entMay
      repeat rw [if_neg (by omega)]
    have : e.ok = false := by unfold Ent.ok; rw [hn]; rfl
    rw [this]
    exact rRight_bad e w hn
end Go.Proofs.Ytacdbglocpaeaaa
