/-
  queue: slices.Values over the items, slices.AppendSeq, slices.Collect: contracts.
-/
import Derived.Test.YtbafgheblindmaaQWrap
import Derived.RangeFuncNested
import Derived.RangeFuncBound
import Derived.RangeFuncCalls
import Derived.RangeFuncLeaves
import Derived.RangeFuncBox
import Derived.Shelf.Abstract
import Derived.Shelf.RegionOpen
import Derived.WalkKit
import Derived.OwnWalkIn
import Derived.TacticsInMore
import Derived.LoopNIn
import Derived.LoopIn
import Derived.Maps.AppendAt
namespace Go.Proofs.Ytbafgheblindmaa
open Go.RowKit Go.Shelf

attribute [local go_sem] Oper.semAt_some

theorem take_at {L : List Itm} {k : Nat} (hk : k < L.length) : L.take (k + 1) = L.take k ++ [at' L k] := by
  rw [List.take_succ_eq_append_getElem hk, at_eq hk]

/-- The items as they lie in memory below a block. -/
def ItsAt (n₀ : Nat) (w : World) (v : Value) (L : List Itm) : Prop :=
  (v = .slice none 0 0 ∧ L = []) ∨ ∃ b cap, v = .slice (some ⟨b, 0, none⟩) L.length cap ∧ b < n₀ ∧ ∀ j, j < L.length → w.cell? ⟨b, j * 4, none⟩ = some (.int .u64 (at' L j).time) ∧ w.cell? ⟨b, j * 4 + 1, none⟩ = some (.int .u64 (at' L j).order) ∧ w.cell? ⟨b, j * 4 + 2, none⟩ = some (.int .i64 (at' L j).to) ∧ w.cell? ⟨b, j * 4 + 3, none⟩ = some (.string (at' L j).data)
theorem Its.at {w : World} {v : Value} {L : List Itm} (h : Its w v L) : ItsAt w.heap.size w v L := by
  rcases h.shape with h1 | ⟨g, cap, rfl, hg, _⟩
  · exact .inl h1
  · exact .inr ⟨g, cap, rfl, hg, fun j hj => h.cells4 rfl hj⟩
theorem ItsAt.below {n₀ : Nat} {w w' : World} {v : Value} {L : List Itm} (h : ItsAt n₀ w v L) (hb : Below n₀ w w') : ItsAt n₀ w' v L := by
  rcases h with h1 | ⟨b, cap, rfl, hl, hc⟩
  · exact .inl h1
  · refine .inr ⟨b, cap, rfl, hl, fun j hj => ?_⟩
    obtain ⟨c0, c1, c2, c3⟩ := hc j hj
    exact ⟨(hb.cell (p := ⟨b, _, none⟩) hl).trans c0, (hb.cell (p := ⟨b, _, none⟩) hl).trans c1, (hb.cell (p := ⟨b, _, none⟩) hl).trans c2, (hb.cell (p := ⟨b, _, none⟩) hl).trans c3⟩

theorem ItsAt.more {n₀ n₁ : Nat} {w : World} {v : Value} {L : List Itm} (h : ItsAt n₀ w v L) (hn : n₀ ≤ n₁) : ItsAt n₁ w v L := by
  rcases h with h1 | ⟨b, cap, rfl, hl, hc⟩
  · exact .inl h1
  · exact .inr ⟨b, cap, rfl, by omega, hc⟩
/-- An item as one value. -/
def Itm.val (x : Itm) : Value := .agg #[.int .u64 x.time, .int .u64 x.order, .int .i64 x.to, .string x.data]

set_option maxRecDepth 100000 in
set_option maxHeartbeats 4000000 in
theorem qVals1 (F : Fence) (n : Nat) (hF : F.fn 40) (hro : F.round = none) (hn : 1 ≤ n) (l Bs n₀ b len cap : Nat) (L : List Itm) (hlen : len = L.length) (h4 : len ≤ 4096) (hb : b < n₀) (J Jx : List Itm → World → Prop)
    (W : World) (hBW : n₀ ≤ W.heap.size) (hJ : AbidesFrom W.heap.size J)
    (hY : ∀ pre x W, J pre W → pre.length < len → YieldAt F (n - 1) Try.prog l #[Itm.val x] W fun e W' =>
      (e = .returned (.bool true) ∧ J (pre ++ [x]) W' ∧ Below n₀ W W') ∨ (e = .returned (.bool false) ∧ Jx (pre ++ [x]) W'))
    (hBs : W.cell? ⟨Bs, 0, none⟩ = some (.slice (some ⟨b, 0, none⟩) len cap)) (hc : ∀ j, j < len → W.cell? ⟨b, j * 4, none⟩ = some (.int .u64 (at' L j).time) ∧ W.cell? ⟨b, j * 4 + 1, none⟩ = some (.int .u64 (at' L j).order) ∧ W.cell? ⟨b, j * 4 + 2, none⟩ = some (.int .i64 (at' L j).to) ∧ W.cell? ⟨b, j * 4 + 3, none⟩ = some (.string (at' L j).data)) (h0 : J [] W) :
    CallsIn F n Try.prog 40 #[.func (.yield l) #[] #[], .pointer (some ⟨Bs, 0, none⟩)] W fun e W' => (∃ v, e = .returned v) ∧
      ((∃ ys, ys = L ∧ J ys W') ∨ (∃ pre, True ∧ Jx pre W')) := by
  have HC := Lib.hid hc
  have HL := Lib.hid hlen
  clear hc hlen
  refine callsIn_of_wp Try.func40 rfl hF ?_ hro
  simp only [Try.ntmps40, List.size_toArray, List.length_cons, List.length_nil, Nat.reduceAdd, Nat.reduceSub, Array.replicate_succ, Array.replicate_zero, List.push_toArray, List.append_toArray, List.nil_append, List.cons_append]
  gi_wp2
  gi_loopw [7] (fun i wr => ∃ k : Nat, k ≤ len ∧ i = .int .i64 k ∧ J (L.take k) wr ∧ Below n₀ W wr)
    (fun i _ => len - (intOf i).toNat)
  case atStart => exact ⟨0, Nat.zero_le _, rfl, by simpa using h0, Below.refl _ _⟩
  case round =>
    obtain ⟨k, hk, rfl, hJs, hnx⟩ := hrel
    by_cases hlt : k < len
    · obtain ⟨c0, c1, c2, c3⟩ := HC.out k hlt
      have d0 := (hnx.cell (p := ⟨b, k * 4, none⟩) hb).trans c0
      have d1 := (hnx.cell (p := ⟨b, k * 4 + 1, none⟩) hb).trans c1
      have d2 := (hnx.cell (p := ⟨b, k * 4 + 2, none⟩) hb).trans c2
      have d3 := (hnx.cell (p := ⟨b, k * 4 + 3, none⟩) hb).trans c3
      have HT := Lib.hid (take_at (L := L) (k := k) (by have := HL.out; omega))
      obtain ⟨x, hx⟩ : ∃ x, at' L k = x := ⟨_, rfl⟩
      rw [hx] at d0 d1 d2 d3 HT
      clear c0 c1 c2 c3 hx
      have hJ2 := hJ _ wr (wr.alloc (.cells #[.int .u64 x.time, .int .u64 x.order, .int .i64 x.to, .string x.data] 31)) none hJs (World.grownBy_alloc wr _ none) (by intro r e; cases e)
      have hB2 : Below n₀ W (wr.alloc (.cells #[.int .u64 x.time, .int .u64 x.order, .int .i64 x.to, .string x.data] 31)) := hnx.alloc (by have := hnx.size; omega) _
      have hlt2 : (L.take k).length < len := by simp; omega
      obtain ⟨fn, tmps, assign, body, hy, hR⟩ := hY _ x _ hJ2 hlt2
      unfold Itm.val at hy
      gi_wp2
      refine hR.mono ?_
      rintro e W3 (⟨rfl, hJ3, hk3⟩ | ⟨rfl, hJx3⟩)
      · gi_wp2
        go_roundw
        case rel => exact ⟨k + 1, by omega, by simp, by rw [HT.out]; exact hJ3, hB2.trans hk3⟩
        case measure => simp [intOf]; omega
      · gi_wp2
        refine bodyPost_ret (results_none rfl _ _ _) rfl ?_
        exact ⟨⟨_, rfl⟩, .inr ⟨_, trivial, hJx3⟩⟩
    · obtain rfl : k = len := by omega
      gi_wp2
      go_end0
      exact ⟨⟨_, rfl⟩, .inl ⟨_, by rw [HL.out]; exact List.take_length, hJs⟩⟩

set_option maxRecDepth 100000 in
set_option maxHeartbeats 1000000 in
theorem qVals0 (F : Fence) (n : Nat) (hF : F.fn 40) (hro : F.round = none) (l Bs : Nat) (J : List Itm → World → Prop) (W : World) (hBs : W.cell? ⟨Bs, 0, none⟩ = some (.slice none 0 0)) (h0 : J [] W) :
    CallsIn F n Try.prog 40 #[.func (.yield l) #[] #[], .pointer (some ⟨Bs, 0, none⟩)] W fun e W' => (∃ v, e = .returned v) ∧ J [] W' := by
  refine callsIn_of_wp Try.func40 rfl hF ?_ hro
  simp only [Try.ntmps40, List.size_toArray, List.length_cons, List.length_nil, Nat.reduceAdd, Nat.reduceSub, Array.replicate_succ, Array.replicate_zero, List.push_toArray, List.append_toArray, List.nil_append, List.cons_append]
  gi_wp2
  gi_loopw [7] (fun i wr => i = .int .i64 0 ∧ J [] wr) (fun _ _ => 0)
  case atStart => exact ⟨rfl, h0⟩
  case round =>
    obtain ⟨rfl, hJs⟩ := hrel
    gi_wp2
    go_end0
    exact ⟨⟨_, rfl⟩, hJs⟩

set_option maxHeartbeats 1000000 in
theorem qValsC (a : Option Addr) (len cap : Nat) (w : World) :
    Calls Try.prog 29 #[.slice a len cap] w fun e w' => e = .returned (.func (.func 40) #[] #[.pointer (some ⟨w.heap.size, 0, none⟩)]) ∧ w' = w.alloc (.cells #[.slice a len cap] 58) := by
  go_enter Try.func29, Try.ntmps29
  go_wp2
  go_ret
  exact ⟨rfl, rfl⟩

theorem qValsStops (F : Fence) (n : Nat) (hF : F.fn 40) (hro : F.round = none) (hn : 1 ≤ n) (Bs n₀ : Nat) (sv : Value) (L : List Itm) (h4 : L.length ≤ 4096) (w : World) (hBs : Bs < w.heap.size) (hn₀ : n₀ ≤ w.heap.size)
    (hc : w.cell? ⟨Bs, 0, none⟩ = some sv) (hI : ItsAt n₀ w sv L) :
    SeqStopsK F n Try.prog 40 #[.pointer (some ⟨Bs, 0, none⟩)] (fun x : Itm => #[Itm.val x]) (Below n₀) (fun ys => ys = L) (fun _ => True) L.length w := fun l J Jx W hW hJ _ hY h0 => by
  have hc' := (hW.cell (p := ⟨Bs, 0, none⟩) hBs).trans hc
  rcases hI.below (hW.mono hn₀) with ⟨rfl, rfl⟩ | ⟨b, cap, rfl, hb, hcs⟩
  · exact (qVals0 F n hF hro l Bs J W hc' h0).mono fun e W' ⟨he, hj⟩ => ⟨he, .inl ⟨_, rfl, hj⟩⟩
  · exact qVals1 F n hF hro hn l Bs n₀ b L.length cap L rfl h4 hb J Jx W (Nat.le_trans hn₀ hW.size) hJ hY hc' hcs h0
end Go.Proofs.Ytbafgheblindmaa
