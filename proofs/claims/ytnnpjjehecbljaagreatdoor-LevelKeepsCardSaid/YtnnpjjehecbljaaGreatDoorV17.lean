/-
  Texts of this seat, joined: FSh4 FSh5 FShim RHas RRtB.
-/
import Derived.Test.YtnnpjjehecbljaaGreatDoorV16
set_option linter.unusedSimpArgs false
set_option linter.unusedVariables false
namespace Go.Proofs.YtnnpjjehecbljaaGreatDoor
open Go.RowKit


end Go.Proofs.YtnnpjjehecbljaaGreatDoor

namespace Go.Proofs.YtnnpjjehecbljaaGreatDoor
open Go.RowKit


end Go.Proofs.YtnnpjjehecbljaaGreatDoor

namespace Go.Proofs.YtnnpjjehecbljaaGreatDoor
open Go.RowKit

end Go.Proofs.YtnnpjjehecbljaaGreatDoor

namespace Go.Proofs.YtnnpjjehecbljaaGreatDoor
open Go.RowKit

def hasI (s : ByteArray) (c : Int) : Bool := s.data.toList.any (fun x => (x.toNat : Int) == c)

theorem hasI_no {s : ByteArray} {c : Int} (h : ∀ k (hk : k < s.size), (s[k].toNat : Int) ≠ c) : hasI s c = false := by
  unfold hasI
  rw [List.any_eq_false]
  intro x hx
  obtain ⟨k, hk, e⟩ := List.getElem_of_mem hx
  have := h k (by simpa using hk)
  subst e
  simp
  exact this
theorem hasI_yes {s : ByteArray} {c : Int} {k : Nat} (hk : k < s.size) (h : (s[k].toNat : Int) = c) : hasI s c = true := by
  unfold hasI
  rw [List.any_eq_true]
  exact ⟨s[k], by show s.data[k] ∈ s.data.toList; simp, by simpa using h⟩


set_option maxHeartbeats 2000000 in
theorem rFields (k : Int) (w : World) : Calls Tryz.prog 22 #[.int .i64 k] w fun e w' => e = .returned (.tuple #[.string (entMay k).1, .bool (entMay k).2]) ∧ Fr [] w w' := by
  by_cases h : 0 ≤ k ∧ k ≤ 11
  · obtain ⟨h0, h1⟩ := h
    have : k = 0 ∨ k = 1 ∨ k = 2 ∨ k = 3 ∨ k = 4 ∨ k = 5 ∨ k = 6 ∨ k = 7 ∨ k = 8 ∨ k = 9 ∨ k = 10 ∨ k = 11 := by omega
    rcases this with rfl | rfl | rfl | rfl | rfl | rfl | rfl | rfl | rfl | rfl | rfl | rfl
    all_goals
      go_enter Tryz.func22, Tryz.ntmps22
      go_wp2
      go_ret2
      exact ⟨rfl, (Fr.refl _ _).alloc _⟩
  · have hn : entMay k = (⟨#[]⟩, false) := by
      unfold entMay
      repeat rw [if_neg (by omega)]
    rw [hn]
    clear hn
    by_cases h2 : k < 0
    · clear h
      go_enter Tryz.func22, Tryz.ntmps22
      go_wp2
      go_ret2
      exact ⟨rfl, Fr.refl _ _⟩
    · have h3 : 11 < k := by omega
      clear h
      go_enter Tryz.func22, Tryz.ntmps22
      go_wp2
      go_ret2
      exact ⟨rfl, Fr.refl _ _⟩

end Go.Proofs.YtnnpjjehecbljaaGreatDoor

namespace Go.Proofs.YtnnpjjehecbljaaGreatDoor
open Go.RowKit

/-- The chapter's own answer, by what is in a kind's letters. -/
def okR (bc bb bm bd bo bn bl : Bool) (e : Ent) : Bool :=
  !(decide (e.term < 1) || decide (e.index < 1) || decide ((64 : Int) < e.data.size) || decide ((64 : Int) < e.old.size) || decide (4294967296 ≤ e.block) || decide (4294967296 ≤ e.many)) &&
  (bc == decide (0 < e.client)) && (bc || !decide (0 < e.seq)) && (bb || !decide (0 < e.block)) && (bm || !decide (0 < e.many)) && (bd || e.data.toList.isEmpty) && (bo || e.old.toList.isEmpty) &&
  (if bn then decide (1 ≤ e.node) && decide (e.node ≤ 7) else e.node == 0) && (if bl then e.level == 1 || e.level == 2 else e.level == 0)
end Go.Proofs.YtnnpjjehecbljaaGreatDoor
