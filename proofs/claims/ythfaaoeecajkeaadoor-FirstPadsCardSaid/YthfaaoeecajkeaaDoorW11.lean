/-
  Texts of this seat, joined: FRi FMrB.
-/
import Derived.Test.YthfaaoeecajkeaaDoorW04
import Derived.Test.YthfaaoeecajkeaaDoorW05
import Derived.Test.YthfaaoeecajkeaaDoorW06
import Derived.Test.YthfaaoeecajkeaaDoorW07
import Derived.Test.YthfaaoeecajkeaaDoorW08
import Derived.Test.YthfaaoeecajkeaaDoorW09
import Derived.Test.YthfaaoeecajkeaaDoorW10
set_option linter.unusedSimpArgs false
set_option linter.unusedVariables false
namespace Go.Proofs.YthfaaoeecajkeaaDoor
open Go.RowKit

theorem eRight (e : Ent) (w : World) (he : e.Fits) : Calls Tryd.prog 26 #[.agg e.cells] w fun r w' => r = .returned (.bool e.ok) ∧ Fr [] w w' := by
  cases hok : (entMay e.kind).2 with
  | false => exact eRight5 e w he hok
  | true =>
    by_cases h2 : 0 < e.term
    · by_cases h3 : 0 < e.index
      · by_cases hc : 0 < e.client
        · by_cases hl : e.level = 1
          · exact eRight1 e w he hok h2 h3 hc hl
          · exact eRight2 e w he hok h2 h3 hc hl
        · by_cases hl : e.level = 1
          · exact eRight3 e w he hok h2 h3 hc hl
          · exact eRight4 e w he hok h2 h3 hc hl
      · exact eRight7 e w he hok h2 h3
    · exact eRight6 e w he hok h2
end Go.Proofs.YthfaaoeecajkeaaDoor

namespace Go.Proofs.YthfaaoeecajkeaaDoor
open Go.RowKit

/-- A message but for its entries. -/
structure Msg where
  kind : Int
  sent : Int
  goal : Int
  term : Int
  index : Int
  prev : Int
  commit : Int
  mark : Int
  yes : Bool
  ents : List Ent
  snap : ByteArray

def Msg.cells (m : Msg) (v : Value) : Array Value := #[.int .i64 m.kind, .int .i64 m.sent, .int .i64 m.goal, .int .u64 m.term, .int .u64 m.index, .int .u64 m.prev, .int .u64 m.commit, .int .u64 m.mark, .bool m.yes, v, .string m.snap]

structure Msg.Fits (m : Msg) : Prop where
  term : U64 m.term
  index : U64 m.index
  prev : U64 m.prev
  commit : U64 m.commit
  mark : U64 m.mark
  ents : ∀ e, e ∈ m.ents → e.Fits
  many : m.ents.length ≤ maxLen
  snap : m.snap.size ≤ maxLen

def Msg.flds (m : Msg) : List Fld := [⟨105, decide (0 < m.index), true⟩, ⟨112, decide (0 < m.prev), true⟩, ⟨116, decide (0 < m.commit), true⟩, ⟨107, decide (0 < m.mark), true⟩, ⟨121, m.yes, true⟩,
  ⟨101, decide (0 < m.ents.length), decide (m.ents.length ≤ 64) && !(m.ents.any (fun e => !e.ok))⟩, ⟨115, !m.snap.toList.isEmpty, decide ((m.snap.size : Int) ≤ 16384)⟩]
def Msg.ok (m : Msg) : Bool := (msgMay m.kind).2 && nodeB m.sent && nodeB m.goal && fitB (msgMay m.kind).1 m.flds

theorem Ents.shape {w : World} {v : Value} {l : List Ent} (h : Ents w v l) : ∃ a c, v = .slice a l.length c := by
  rcases h with ⟨rfl, a, c, rfl⟩ | ⟨b, o, c, rfl, _⟩
  · exact ⟨a, c, rfl⟩
  · exact ⟨_, c, rfl⟩

set_option maxHeartbeats 400000 in
theorem eMsgRight1 (e : Ent) (w : World) (he : e.Fits) : Calls Tryd.prog 70 #[.agg e.cells] w fun r w' => r = .returned (.bool (!e.ok)) ∧ Fr [] w w' := by
  have h := eRight e
  unfold Ent.cells at *
  go_enter Tryd.func70, Tryd.ntmps70
  go_wp2_with (go_at_call 26; refine (h _ he).mono ?_; rintro e w' ⟨rfl, h1⟩)
  go_ret
  exact ⟨rfl, ((Fr.refl _ _).alloc _).trans0 h1⟩

theorem eAnyBad (m : Msg) (v : Value) (w : World) (hm : m.Fits) (hv : Ents w v m.ents) :
    Calls Tryd.prog 48 #[v, .func (.func 70) #[] #[]] w fun r w' => r = .returned (.bool (m.ents.any (fun e => !e.ok))) ∧ Fr [] w w' :=
  iContEnt 70 (fun e => !e.ok) m.ents v w goes53 (fun e he w => eMsgRight1 e w (hm.ents e he)) hv hm.many

theorem msgS {w : World} {bx : Nat} {m : Msg} {v : Value} {t : TypeId} (h : Blk w bx (m.cells v) t) :
    w.cell? ⟨bx, 1, none⟩ = some (.int .i64 m.sent) ∧ w.cell? ⟨bx, 2, none⟩ = some (.int .i64 m.goal) ∧ w.cell? ⟨bx, 4, none⟩ = some (.int .u64 m.index) ∧ w.cell? ⟨bx, 5, none⟩ = some (.int .u64 m.prev) ∧ w.cell? ⟨bx, 6, none⟩ = some (.int .u64 m.commit) ∧ w.cell? ⟨bx, 7, none⟩ = some (.int .u64 m.mark) ∧ w.cell? ⟨bx, 8, none⟩ = some (.bool m.yes) ∧ w.cell? ⟨bx, 9, none⟩ = some v ∧ w.cell? ⟨bx, 10, none⟩ = some (.string m.snap) :=
  ⟨h.cellAt (i := 1) rfl, h.cellAt (i := 2) rfl, h.cellAt (i := 4) rfl, h.cellAt (i := 5) rfl, h.cellAt (i := 6) rfl, h.cellAt (i := 7) rfl, h.cellAt (i := 8) rfl, h.cellAt (i := 9) rfl, h.cellAt (i := 10) rfl⟩

/-- fit at a message's seven fields, as they were just laid. -/
theorem eFitM (may : ByteArray) (i p t k y n r s z : Bool) (w : World) :
    Calls Tryd.prog 51 #[.string may, .slice (some ⟨w.heap.size, 0, none⟩) 7 7] (w.alloc (.cells #[.string ⟨#[105]⟩, .bool i, .bool true, .string ⟨#[112]⟩, .bool p, .bool true, .string ⟨#[116]⟩, .bool t, .bool true, .string ⟨#[107]⟩, .bool k, .bool true, .string ⟨#[121]⟩, .bool y, .bool true, .string ⟨#[101]⟩, .bool n, .bool r, .string ⟨#[115]⟩, .bool s, .bool z] 86))
    fun e w' => e = .returned (.bool (fitB may [⟨105, i, true⟩, ⟨112, p, true⟩, ⟨116, t, true⟩, ⟨107, k, true⟩, ⟨121, y, true⟩, ⟨101, n, r⟩, ⟨115, s, z⟩])) ∧ Fr [] (w.alloc (.cells #[.string ⟨#[105]⟩, .bool i, .bool true, .string ⟨#[112]⟩, .bool p, .bool true, .string ⟨#[116]⟩, .bool t, .bool true, .string ⟨#[107]⟩, .bool k, .bool true, .string ⟨#[121]⟩, .bool y, .bool true, .string ⟨#[101]⟩, .bool n, .bool r, .string ⟨#[115]⟩, .bool s, .bool z] 86)) w' :=
  eFit may w.heap.size 0 7 [⟨105, i, true⟩, ⟨112, p, true⟩, ⟨116, t, true⟩, ⟨107, k, true⟩, ⟨121, y, true⟩, ⟨101, n, r⟩, ⟨115, s, z⟩] _ (Flds.new w [⟨105, i, true⟩, ⟨112, p, true⟩, ⟨116, t, true⟩, ⟨107, k, true⟩, ⟨121, y, true⟩, ⟨101, n, r⟩, ⟨115, s, z⟩] 86) (show 7 ≤ maxLen by decide)
end Go.Proofs.YthfaaoeecajkeaaDoor
