/-
  The examples ahead of each statement are so.
-/
import Derived.Test.YtbafgheblindmaaQWrap
namespace Go.Proofs.Ytbafgheblindmaa
open Go.RowKit

def exA : Itm := ⟨5, 1, 1, ⟨#[97]⟩⟩
def exB : Itm := ⟨3, 2, 2, ⟨#[98]⟩⟩
def exC : Itm := ⟨1, 3, 1, ⟨#[97]⟩⟩
theorem ex1 : ins exA [] = [exA] := rfl
theorem ex2 : ins exB [exA] = [exB, exA] := by simp [ins, Bef, exA, exB]
theorem ex3 : ins exC [exB, exA] = [exC, exB, exA] := by simp [ins, Bef, exC, exB]
theorem ex4 : hasB [exB, exA] 1 = true := by simp [hasB, exA, exB]
theorem ex5 : without [exB, exA] 1 = [exB] := by simp [without, exA, exB]
theorem ex6 : hasB [exB] 1 = false := by simp [hasB, exB]
theorem ex7 : without [exB] 1 = [exB] := by simp [without, exB]

theorem exNext (w : World) (q : Nat) (v : Value) (w4 : World) (h : QW w w4 q v [exB, exA] 2) :
    Calls Try.prog 18 #[.pointer (some ⟨q, 0, none⟩)] w4 fun e w' => e = .returned (.tuple #[.agg #[.int .u64 3, .int .u64 2, .int .i64 2, .string ⟨#[98]⟩], .bool true]) ∧ Hid (QW w w' q v [exB, exA] 2) ∧ Hid (Fr [] w4 w') := wNext1 w q v exB [exA] 2 w4 h
theorem exPop (w : World) (q : Nat) (v : Value) (w4 : World) (h : QW w w4 q v [exC, exB, exA] 3) :
    Calls Try.prog 11 #[.pointer (some ⟨q, 0, none⟩)] w4 fun e w' => e = .returned (.tuple #[.agg #[.int .u64 1, .int .u64 3, .int .i64 1, .string ⟨#[97]⟩], .bool true]) ∧ ∃ v', Hid (QW w w' q v' [exB, exA] 3) ∧ Hid (Kept q v w4 v' w') := wPop w q v exC [exB, exA] 3 w4 h

set_option maxRecDepth 100000 in
set_option maxHeartbeats 4000000 in
theorem fExamples (w : World) : Calls Try.prog 8 #[] w fun e w' => e = .returned (.bool true) ∧ Fr [] w w' := by
  go_enter Try.func8, Try.ntmps8
  go_wp2_with fail
  refine (wNew w).mono ?_
  rintro e w1 ⟨q, rfl, H1⟩
  go_wp2_with fail
  refine (wPop0 w q _ _ _ H1.out).mono ?_
  rintro e w2 ⟨rfl, H2, -⟩
  go_wp2_with fail
  refine (wAdd w q _ [] [exA] 0 1 5 1 ⟨#[97]⟩ _ (H2.out.fr0 ((Fr.refl _ _).alloc _)) (by simp) (by omega) (by omega) ex1).mono ?_
  rintro e w3 ⟨rfl, v3, H3, -⟩
  go_wp2_with fail
  refine (wAdd w q _ [exA] [exB, exA] 1 2 3 2 ⟨#[98]⟩ _ H3.out (by simp) (by omega) (by omega) ex2).mono ?_
  rintro e w4 ⟨rfl, v4, H4, -⟩
  go_wp2_with fail
  refine (exNext w q _ _ H4.out).mono ?_
  rintro e w5 ⟨rfl, H5, -⟩
  go_wp2_with fail
  have BX := Lib.hid (Blk.new w5 #[.int .u64 3, .int .u64 2, .int .i64 2, .string ⟨#[98]⟩] 31)
  have AX := Lib.hid (H5.out.qs.away (w' := w5.alloc (.cells #[.int .u64 3, .int .u64 2, .int .i64 2, .string ⟨#[98]⟩] 31)) (Nat.le_refl _) (by simp))
  refine (wDouble w q _ [exB, exA] [exC, exB, exA] 2 3 1 1 exA _ (H5.out.fr0 ((Fr.refl _ _).alloc _)) (by simp) rfl (by simp) (by omega) (by omega) ex3).mono ?_
  rintro e w6 ⟨rfl, v6, H6, K6⟩
  go_wp2_with fail
  refine (exPop w q _ _ H6.out).mono ?_
  rintro e w7 ⟨rfl, v7, H7, K7⟩
  have BX7 := (AX.out.kept K6.out).blk (AX.out.blk BX.out K6.out) K7.out
  have bx : ∀ o, (w7.alloc o).cell? ⟨w5.heap.size, 3, none⟩ = some (.string ⟨#[98]⟩) := fun o => (BX7.alloc o).cellAt (i := 3) rfl
  clear BX7 BX AX
  go_wp2_with fail
  refine (wDrop w q _ [exB, exA] [exB] true 3 1 _ (H7.out.fr0 ((Fr.refl _ _).alloc _)) ex4 ex5).mono ?_
  rintro e w8 ⟨rfl, v8, H8, -⟩
  go_wp2_with fail
  refine (wDrop w q _ [exB] [exB] false 3 1 _ H8.out ex6 ex7).mono ?_
  rintro e w9 ⟨rfl, v9, H9, -⟩
  go_wp2_with fail
  refine (wLen w q _ [exB] 1 3 _ H9.out rfl).mono ?_
  rintro e w10 ⟨rfl, rfl⟩
  go_wp2_with fail
  go_ret
  exact ⟨rfl, H9.out.fr⟩
end Go.Proofs.Ytbafgheblindmaa
