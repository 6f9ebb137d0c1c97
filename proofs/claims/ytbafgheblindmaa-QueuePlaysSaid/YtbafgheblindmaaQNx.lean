/-
  QueueNext: what is told as next is what is popped; nothing is lost by asking; a time that is added ahead comes ahead.
-/
import Derived.Test.YtbafgheblindmaaRows
import Derived.Test.YtbafgheblindmaaQEx
import Derived.Test.YtbafgheblindmaaQAll2
import Derived.Laws.StructEq
import Derived.WalkKit
import Derived.ProofKit
import Derived.OpenShut
import Derived.ShutString
import Derived.ChangeOld
import Derived.Below
import Derived.SizedLaws
import Derived.RegionTactic
import Derived.BigRegion
import Derived.IntWalk
import Derived.StillTailTactics
import Derived.Deep.RegionHeld3
import Derived.Deep.QuietTactic
import Derived.BigQuiet
import Derived.Deep.RegionWith
namespace Go.Proofs.Ytbafgheblindmaa.queueNext
open Go.ChangeShapes Go.WideShapes Go.ChangeAt Go.RowKit Go.Proofs.Ytbafgheblindmaa
open Go.ChangeMaps (open_string shut_string)

/-- What the walk is told of a slice of integers that came in: it is nil, or a row. -/
def IsRow (k : IntKind) (w : World) (a : Option Addr) (len cap : Nat) (zs : List Int) : Prop :=
  (a = none ∧ len = 0 ∧ cap = 0 ∧ zs = []) ∨
  ∃ x, a = some x ∧ len ≤ cap ∧ cap ≤ maxLen ∧ zs.length = cap ∧ (∀ i, i < zs.length → w.cell? (x.add i) = some (.int k (zs.getD i 0))) ∧ ∀ n ∈ zs, (Lit.int k n).wf = true

theorem neqItm (t o d : Int) (s : ByteArray) (w : World) : (binOp .neq 31 (.agg #[.int .u64 t, .int .u64 o, .int .i64 d, .string s]) (.agg #[.int .u64 t, .int .u64 o, .int .i64 d, .string s])).run Try.prog w = .ok (.bool false) w := by
  have u1 := Try.underlying26
  have a1 := Try.isAgg26
  have z1 := Try.sizeOf26
  have u2 := Try.underlying3
  have a2 := Try.isAgg3
  have z2 := Try.sizeOf3
  have u3 := Try.underlying9
  have a3 := Try.isAgg9
  have z3 := Try.sizeOf9
  have hS : Try.prog.underlying 31 = some (.struct (Try.prog.fieldsOf 31)) := by kernel_rfl
  have hp : Try.prog.stoodInHeld 31 = false := by kernel_rfl
  rw [run_neq_struct, show (10000 : Nat) = 9999 + 1 from rfl, run_equalIn_agg w 9999 31 _ _ hS hp]
  simp only [Program.fieldsOf, Try.underlying31]
  go_simp
  try simp

theorem guardItm : Try.prog.eqGuardType Try.prog.depth 31 = false := by kernel_rfl

/-- The state at a round's head. -/
structure R (w1 w : World) (q : Nat) (v : Value) (S : List Itm) (last : Int) (m k : Nat) : Prop where
  qw : QW w1 w q v S last
  len : S.length = m
  le : m ≤ k
  last_le : last ≤ k

theorem cell_keep {w w' : World} {a : Addr} {v : Value} (h : Fr [] w w') (hc : w.cell? a = some v) : w'.cell? a = some v :=
  (World.cell?_of_block (w := w) (h.block _ (World.block_lt_of_cell? w a hc) (by simp))).trans hc

theorem ins_head (y : Itm) (S : List Itm) : ∃ s T, ins y S = s :: T ∧ s.time ≤ y.time := by
  cases S with
  | nil => exact ⟨y, [], rfl, Int.le_refl _⟩
  | cons z S =>
    rw [ins]
    split
    · rename_i h
      exact ⟨z, _, rfl, by unfold Bef at h; omega⟩
    · exact ⟨y, _, rfl, Int.le_refl _⟩
theorem ins_len (y : Itm) (S : List Itm) : (ins y S).length = S.length + 1 := by
  rw [(ins_perm y S).length_eq]; rfl
theorem QW.bound {w0 w : World} {q : Nat} {v : Value} {S : List Itm} {last : Int} (h : QW w0 w q v S last) {x : Itm} (hx : x ∈ S) : 1 ≤ x.order ∧ x.order ≤ last := by
  obtain ⟨L, _, hO⟩ := h.qs
  exact hO.bound x hx
theorem QW.lastPos {w0 w : World} {q : Nat} {v : Value} {S : List Itm} {last : Int} (h : QW w0 w q v S last) : 0 ≤ last := by
  obtain ⟨L, _, hO⟩ := h.qs
  exact hO.last0

theorem wAll (w0 : World) (q : Nat) (v : Value) (S : List Itm) (last : Int) (m : Nat) (w : World) (h : QW w0 w q v S last) (hm : S.length = m) :
    Calls Try.prog 15 #[.pointer (some ⟨q, 0, none⟩)] w fun e w' => ∃ a c, e = .returned (.slice a m c) ∧ Hid (w'.ownsRow w.heap.size 31 4 (.slice a m c) S.length (flat S)) ∧ Hid (QW w0 w' q v S last) ∧ Hid (Fr [] w w') := by
  subst hm
  refine (qAll q v S last w h.qs).mono ?_
  rintro e w' ⟨v', rfl, hr, hf⟩
  rcases hr.2 with ⟨rfl, h3⟩ | ⟨g, cap, cur, rfl, _⟩
  · exact ⟨none, 0, by rw [h3], by rw [h3] at hr ⊢; exact hr, h.fr0 hf, hf⟩
  · exact ⟨_, _, rfl, hr, h.fr0 hf, hf⟩

theorem wAll1 (w0 : World) (q : Nat) (v : Value) (s : Itm) (T : List Itm) (last : Int) (m : Nat) (w : World) (h : QW w0 w q v (s :: T) last) (hm : T.length + 1 = m) :
    Calls Try.prog 15 #[.pointer (some ⟨q, 0, none⟩)] w fun e w' => ∃ g c, e = .returned (.slice (some ⟨g, 0, none⟩) m c) ∧ (w'.cell? ⟨g, 0, none⟩ = some (.int .u64 s.time) ∧ w'.cell? ⟨g, 1, none⟩ = some (.int .u64 s.order) ∧ w'.cell? ⟨g, 2, none⟩ = some (.int .i64 s.to) ∧ w'.cell? ⟨g, 3, none⟩ = some (.string s.data)) ∧ Hid (QW w0 w' q v (s :: T) last) ∧ Hid (Fr [] w w') := by
  subst hm
  refine (qAll q v (s :: T) last w h.qs).mono ?_
  rintro e w' ⟨v', rfl, hr, hf⟩
  have hI : Its w' v' (s :: T) := ownsRow_base hr (Nat.zero_le _)
  rcases hI.shape with ⟨rfl, h3⟩ | ⟨g, cap, rfl, _⟩
  · cases h3
  · have hc := hI.cells4 (g := g) rfl (j := 0) (by simp)
    exact ⟨g, cap, rfl, hc, h.fr0 hf, hf⟩
end Go.Proofs.Ytbafgheblindmaa.queueNext
