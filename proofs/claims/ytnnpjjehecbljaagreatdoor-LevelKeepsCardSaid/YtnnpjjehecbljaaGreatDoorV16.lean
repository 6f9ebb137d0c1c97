/-
  Texts of this seat, joined: FMr4 FMr5 FMr FShB FSh1 FSh2 FSh3.
-/
import Derived.Test.YtnnpjjehecbljaaGreatDoorV13
import Derived.StillTailTactics
import Derived.Test.YtnnpjjehecbljaaGreatDoorV14
import Derived.Test.YtnnpjjehecbljaaGreatDoorV15
set_option linter.unusedSimpArgs false
set_option linter.unusedVariables false
namespace Go.Proofs.YtnnpjjehecbljaaGreatDoor
open Go.RowKit

end Go.Proofs.YtnnpjjehecbljaaGreatDoor

namespace Go.Proofs.YtnnpjjehecbljaaGreatDoor
open Go.RowKit

end Go.Proofs.YtnnpjjehecbljaaGreatDoor

namespace Go.Proofs.YtnnpjjehecbljaaGreatDoor
open Go.RowKit


def Msg.lvl (m : Msg) : Int := if m.kind = 9 ∨ m.kind = 10 ∨ m.ents.any (fun e => e.lvl == 2) = true then 2 else 1


end Go.Proofs.YtnnpjjehecbljaaGreatDoor

namespace Go.Proofs.YtnnpjjehecbljaaGreatDoor
open Go.RowKit

def Msg.bare (m : Msg) (k : Int) (yes : Bool) : Msg := ⟨k, m.sent, m.goal, m.term, 0, 0, 0, m.mark, yes, [], ⟨#[]⟩⟩
def msg0 : Msg := ⟨0, 0, 0, 0, 0, 0, 0, 0, false, [], ⟨#[]⟩⟩
def noEnts : Value := .slice none 0 0
/-- What Shim answers: the message, its entries' slice, whether there is one. -/
def shimOf (m : Msg) (v : Value) : Msg × Value × Bool :=
  if m.ok = false then (msg0, noEnts, false) else if m.kind = 9 then (m.bare 5 false, noEnts, true) else if m.kind = 10 then (m.bare 6 true, noEnts, true) else if m.lvl = 2 then (msg0, noEnts, false) else (m, v, true)
theorem Blk.put11 {w : World} {r : Nat} {t : TypeId} {a0 a1 a2 a3 a4 a5 a6 a7 a8 a9 a10 : Value} (h : Blk w r #[a0, a1, a2, a3, a4, a5, a6, a7, a8, a9, a10] t) (b0 b1 b2 b3 b4 b5 b6 b7 b8 b9 b10 : Value) :
    Blk (((((((((((w.setCell ⟨r, 0, none⟩ b0).setCell ⟨r, 1, none⟩ b1).setCell ⟨r, 2, none⟩ b2).setCell ⟨r, 3, none⟩ b3).setCell ⟨r, 4, none⟩ b4).setCell ⟨r, 5, none⟩ b5).setCell ⟨r, 6, none⟩ b6).setCell ⟨r, 7, none⟩ b7).setCell ⟨r, 8, none⟩ b8).setCell ⟨r, 9, none⟩ b9).setCell ⟨r, 10, none⟩ b10) r #[b0, b1, b2, b3, b4, b5, b6, b7, b8, b9, b10] t := by
  have k := ((((((((((h.set 0 b0).set 1 b1).set 2 b2).set 3 b3).set 4 b4).set 5 b5).set 6 b6).set 7 b7).set 8 b8).set 9 b9).set 10 b10
  simp only [List.setIfInBounds_toArray, List.set_cons_zero, List.set_cons_succ] at k
  exact k
theorem Msg.lvl_or (m : Msg) : m.lvl = 1 ∨ m.lvl = 2 := by unfold Msg.lvl; split <;> simp


end Go.Proofs.YtnnpjjehecbljaaGreatDoor

namespace Go.Proofs.YtnnpjjehecbljaaGreatDoor
open Go.RowKit


end Go.Proofs.YtnnpjjehecbljaaGreatDoor

namespace Go.Proofs.YtnnpjjehecbljaaGreatDoor
open Go.RowKit


end Go.Proofs.YtnnpjjehecbljaaGreatDoor

namespace Go.Proofs.YtnnpjjehecbljaaGreatDoor
open Go.RowKit


end Go.Proofs.YtnnpjjehecbljaaGreatDoor
