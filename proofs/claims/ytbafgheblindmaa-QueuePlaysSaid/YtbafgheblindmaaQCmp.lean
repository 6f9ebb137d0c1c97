/-
  cmp.Compare, cmp.Or, queue.order: contracts.
-/
import Derived.Test.YtbafgheblindmaaQBase
import Derived.KernelRfl
import Derived.Deep.QuietTactic
import Derived.BigQuiet
import Derived.Deep.RegionHeld3
namespace Go.Proofs.Ytbafgheblindmaa
open Go.RowKit

def cmpI (x y : Int) : Int := if x < y then -1 else if y < x then 1 else 0

set_option maxHeartbeats 400000 in
theorem cNan (x : Int) (w : World) : Calls Try.prog 46 #[.int .u64 x] w fun e w' => e = .returned (.bool false) ∧ w = w' := by
  go_enter Try.func46, Try.ntmps46
  go_wp2
  go_ret
  exact ⟨by simp, rfl⟩

set_option maxHeartbeats 400000 in
theorem cCompare (x y : Int) (w : World) : Calls Try.prog 42 #[.int .u64 x, .int .u64 y] w fun e w' => e = .returned (.int .i64 (cmpI x y)) ∧ w = w' := by
  unfold cmpI
  by_cases h1 : x < y
  · rw [if_pos h1]
    go_enter Try.func42, Try.ntmps42
    go_wp2_with (go_at_call 46; refine (cNan _ _).mono ?_; rintro e w' ⟨rfl, rfl⟩)
    all_goals go_ret
    all_goals exact ⟨rfl, rfl⟩
  · rw [if_neg h1]
    by_cases h2 : y < x
    · rw [if_pos h2]
      go_enter Try.func42, Try.ntmps42
      go_wp2_with (go_at_call 46; refine (cNan _ _).mono ?_; rintro e w' ⟨rfl, rfl⟩)
      all_goals go_ret
      all_goals exact ⟨rfl, rfl⟩
    · rw [if_neg h2]
      go_enter Try.func42, Try.ntmps42
      go_wp2_with (go_at_call 46; refine (cNan _ _).mono ?_; rintro e w' ⟨rfl, rfl⟩)
      all_goals go_ret
      all_goals exact ⟨rfl, rfl⟩

def orI (x y : Int) : Int := if x = 0 then y else x

set_option maxHeartbeats 400000 in
theorem cOr (x y : Int) (g : Nat) (w : World) (h0 : w.cell? ⟨g, 0, none⟩ = some (.int .i64 x)) (h1 : w.cell? ⟨g, 1, none⟩ = some (.int .i64 y)) :
    Calls Try.prog 41 #[.slice (some ⟨g, 0, none⟩) 2 2] w fun e w' => e = .returned (.int .i64 (orI x y)) ∧ w = w' := by
  unfold orI
  by_cases hx : x = 0
  · rw [if_pos hx]
    by_cases hy : y = 0
    · have hx2 : (x != 0) = false := by simpa using hx
      have hy2 : (y != 0) = false := by simpa using hy
      have HY : Hid (y = 0) := hy
      clear hx hy
      go_enter Try.func41, Try.ntmps41
      go_wp2
      go_loop [5, 8] (fun _ i => ∃ k : Nat, k ≤ 2 ∧ i = .int .i64 k) (fun _ i => 2 - (intOf i).toNat)
      case atStart => exact ⟨0, by omega, rfl⟩
      case round =>
        obtain ⟨k, hk, rfl⟩ := hrel
        have : k = 0 ∨ k = 1 ∨ k = 2 := by omega
        rcases this with rfl | rfl | rfl
        · go_wp2
          go_round
          case rel => exact ⟨1, by omega, rfl⟩
          case measure => simp [intOf]
        · go_wp2
          go_round
          case rel => exact ⟨2, by omega, rfl⟩
          case measure => simp [intOf]
        · go_wp2
          go_ret
          exact ⟨by rw [HY.out]; rfl, rfl⟩
    · have hx2 : (x != 0) = false := by simpa using hx
      have hy2 : (y != 0) = true := by simpa using hy
      clear hx hy
      go_enter Try.func41, Try.ntmps41
      go_wp2
      go_loop [5, 8] (fun _ i => ∃ k : Nat, k ≤ 1 ∧ i = .int .i64 k) (fun _ i => 2 - (intOf i).toNat)
      case atStart => exact ⟨0, by omega, rfl⟩
      case round =>
        obtain ⟨k, hk, rfl⟩ := hrel
        have : k = 0 ∨ k = 1 := by omega
        rcases this with rfl | rfl
        · go_wp2
          go_round
          case rel => exact ⟨1, by omega, rfl⟩
          case measure => simp [intOf]
        · go_wp2
          go_ret
          exact ⟨rfl, rfl⟩
  · rw [if_neg hx]
    have hx2 : (x != 0) = true := by simpa using hx
    clear hx
    go_enter Try.func41, Try.ntmps41
    go_wp2
    go_loop [5, 8] (fun _ i => ∃ k : Nat, k ≤ 0 ∧ i = .int .i64 k) (fun _ i => 2 - (intOf i).toNat)
    case atStart => exact ⟨0, by omega, rfl⟩
    case round =>
      obtain ⟨k, hk, rfl⟩ := hrel
      obtain rfl : k = 0 := by omega
      go_wp2
      go_ret
      exact ⟨rfl, rfl⟩

def ordI (a b : Itm) : Int := orI (cmpI a.time b.time) (cmpI a.order b.order)
theorem ordI_lt (a b : Itm) : decide (ordI a b < 0) = decide (Bef a b) := by
  unfold ordI orI cmpI Bef
  congr 1
  apply propext
  repeat' split
  all_goals omega

set_option maxHeartbeats 2000000 in
theorem qOrder (a b : Itm) (w : World) : Calls Try.prog 30 #[.agg a.cells.toArray, .agg b.cells.toArray] w fun e w' => e = .returned (.int .i64 (ordI a b)) ∧ Fr [] w w' := by
  unfold Itm.cells ordI
  have B1 := Blk.alloc (Blk.new w #[.int .u64 a.time, .int .u64 a.order, .int .i64 a.to, .string a.data] 31) (.cells #[.int .u64 b.time, .int .u64 b.order, .int .i64 b.to, .string b.data] 31)
  have B2 := Blk.new (w.alloc (.cells #[.int .u64 a.time, .int .u64 a.order, .int .i64 a.to, .string a.data] 31)) #[.int .u64 b.time, .int .u64 b.order, .int .i64 b.to, .string b.data] 31
  rw [show (w.alloc (.cells #[.int .u64 a.time, .int .u64 a.order, .int .i64 a.to, .string a.data] 31)).heap.size = w.heap.size + 1 by simp] at B2
  have HF0 : Hid (Fr [] w ((w.alloc (.cells #[.int .u64 a.time, .int .u64 a.order, .int .i64 a.to, .string a.data] 31)).alloc (.cells #[.int .u64 b.time, .int .u64 b.order, .int .i64 b.to, .string b.data] 31))) := ((Fr.refl _ _).alloc _).alloc _
  have SB1 := Lib.hid B1
  have SB2 := Lib.hid B2
  clear B1 B2
  go_enter Try.func30, Try.ntmps30
  go_wp2
  generalize ((w.alloc (.cells #[.int .u64 a.time, .int .u64 a.order, .int .i64 a.to, .string a.data] 31)).alloc (.cells #[.int .u64 b.time, .int .u64 b.order, .int .i64 b.to, .string b.data] 31)) = w2 at *
  generalize w.heap.size = bx at *
  have f0 := SB1.out.cellAt (i := 0) rfl
  have f1 := SB1.out.cellAt (i := 1) rfl
  have g0 := SB2.out.cellAt (i := 0) rfl
  have g1 := SB2.out.cellAt (i := 1) rfl
  go_region_held3 (fun w' => w'.cell? ⟨bx, 0, none⟩ = some (.int .u64 a.time) ∧ w'.cell? ⟨bx, 1, none⟩ = some (.int .u64 a.order) ∧ w'.cell? ⟨bx + 1, 0, none⟩ = some (.int .u64 b.time) ∧ w'.cell? ⟨bx + 1, 1, none⟩ = some (.int .u64 b.order))
    (go_keep)
    (first | (go_at_call 42; refine (cCompare _ _ _).mono ?_; rintro r w' ⟨rfl, rfl⟩) | (go_at_call 41; refine (cOr _ _ _ _ (by first | exact (Blk.new _ _ _).cellAt (i := 0) rfl | exact (Blk.drew (Blk.new _ _ _)).cellAt (i := 0) rfl) (by first | exact (Blk.new _ _ _).cellAt (i := 1) rfl | exact (Blk.drew (Blk.new _ _ _)).cellAt (i := 1) rfl)).mono ?_; rintro r w' ⟨rfl, rfl⟩))
  go_wp2_with fail
  go_ret
  exact ⟨rfl, (HF0.out.drew).alloc _⟩
end Go.Proofs.Ytbafgheblindmaa
