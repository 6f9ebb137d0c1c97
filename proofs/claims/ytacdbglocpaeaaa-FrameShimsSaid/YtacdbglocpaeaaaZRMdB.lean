/-
  Texts of this seat, joined: RMdB.
-/
import Derived.Test.YtacdbglocpaeaaaZRMsg
set_option linter.unusedSimpArgs false
set_option linter.unusedVariables false
namespace Go.Proofs.Ytacdbglocpaeaaa
open Go.RowKit

def nodeW (x : Int) : Int := wrap64 (wrap64 ((IntKind.u64.wrap x).tmod 7) + 1)
def levelW (x : Int) : Int := wrap64 (wrap64 ((IntKind.u64.wrap x).tmod 2) + 1)
def cutTo (n : Nat) (s : ByteArray) : ByteArray := s.extract 0 (min s.size n)
def has' (may : ByteArray) (c : Int) (a b : Int) : Int := if hasI may c = true then a else b
/-- What is made of an entry's parts. -/
def madeOf (e : Ent) : Ent :=
  let k := e.kind % 12
  let may := (entMay k).1
  ⟨e.term % 1000 + 1, e.index % 1000 + 1, k, has' may 99 (e.client % 5 + 1) 0, has' may 99 (e.seq % 9) 0, has' may 98 (e.block % 9) 0, has' may 109 (e.many % 9) 0, has' may 110 (nodeW e.node) 0, has' may 108 (levelW e.level) 0,
   if hasI may 100 = true then cutTo 64 e.data else ⟨#[]⟩, if hasI may 111 = true then cutTo 64 e.old else ⟨#[]⟩⟩

theorem rem12 (x r k : Int) (hr : x.tmod 12 = r) (hk : x % 12 = k) : (r < 0 → r + 12 = k) ∧ (0 ≤ r → r = k) ∧ -12 < r ∧ r < 12 := by
  subst hr; subst hk
  rcases Int.le_total 0 x with h | h
  · have h1 := Int.tmod_eq_emod_of_nonneg (b := 12) h
    omega
  · have h1 : x.tmod 12 = -((-x) % 12) := by
      rw [← Int.tmod_eq_emod_of_nonneg (by omega : 0 ≤ -x), Int.neg_tmod, Int.neg_neg]
    omega
theorem mn64 (n : Nat) : mnI (n : Int) 64 = ((min n 64 : Nat) : Int) := by
  unfold mnI
  split <;> omega
set_option maxHeartbeats 1000000 in
theorem made_as (e : Ent) (w : World) : Calls Try.prog 41 #[.agg #[.int .u64 e.term, .int .u64 e.index, .int .i64 e.kind, .int .u64 e.client, .int .u64 e.seq, .int .u64 e.block, .int .u64 e.many, .int .i64 e.node, .int .i64 e.level, .string e.data, .string e.old, .bool false]] w fun r w' => r = .returned (.agg #[.int .u64 e.term, .int .u64 e.index, .int .i64 e.kind, .int .u64 e.client, .int .u64 e.seq, .int .u64 e.block, .int .u64 e.many, .int .i64 e.node, .int .i64 e.level, .string e.data, .string e.old]) ∧ Fr [] w w' := by
  go_enter Try.func41, Try.ntmps41
  go_wp2
  refine bodyPost_ret (v := .agg #[.int .u64 e.term, .int .u64 e.index, .int .i64 e.kind, .int .u64 e.client, .int .u64 e.seq, .int .u64 e.block, .int .u64 e.many, .int .i64 e.node, .int .i64 e.level, .string e.data, .string e.old]) (by simp [results, Try.results41, go_sem]) rfl ⟨rfl, ?_⟩
  exact ((Fr.refl _ _).alloc _).alloc _
end Go.Proofs.Ytacdbglocpaeaaa
