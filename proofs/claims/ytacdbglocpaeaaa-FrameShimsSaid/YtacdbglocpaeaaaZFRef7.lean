/-
  Texts of this seat, joined: FRef7.
-/
import Derived.Test.YtacdbglocpaeaaaZFFrame
set_option linter.unusedSimpArgs false
set_option linter.unusedVariables false
namespace Go.Proofs.Ytacdbglocpaeaaa
open Go.RowKit

theorem str_one (q : Int) (c : UInt8) (hq : q = (c.toNat : Int)) (w : World) :
    (convert 46 9 (.slice (some ⟨w.heap.size, 0, none⟩) 1 1)).run Try.prog (w.alloc (.cells #[.int .u8 q] 5)) = .ok (.string (bs [c])) (w.alloc (.cells #[.int .u8 q] 5)) := by
  refine run_convert_bytes_back (P := Try.prog) _ 46 9 5 ⟨w.heap.size, 0, none⟩ 1 [c] Try.underlying46 Try.underlying5 Try.underlying9 ?_
  intro j hj
  obtain rfl : j = 0 := by simpa using hj
  rw [show (⟨w.heap.size, 0, none⟩ : Addr).add 0 = ⟨w.heap.size, 0, none⟩ from rfl, (Blk.new w #[.int .u8 q] 5).cell]
  simp [hq]

theorem crcMore_append (x : Nat) (a b : List UInt8) (_hx : x < 4294967296) : crcMore x (a ++ b) = crcMore (crcMore x a) b := by
  have h := crcRun_lt a (x := 4294967295 - x) (by omega)
  unfold crcMore
  have e : crcRun (4294967295 - x) (a ++ b) = crcRun (crcRun (4294967295 - x) a) b := by unfold crcRun; rw [List.foldl_append]
  rw [e, show 4294967295 - (4294967295 - crcRun (4294967295 - x) a) = crcRun (4294967295 - x) a from by omega]

set_option maxRecDepth 100000 in
set_option maxHeartbeats 1000000 in
theorem rfPack (v : Int) (l : List UInt8) (w : World) (hl : l.length ≤ maxLen) :
    Calls Try.prog 10 #[.int .i64 v, .string (bs l)] w fun e w' => e = .returned (.tuple #[.string (bs (packR v l).1), .bool (packR v l).2]) ∧ Fr [] w w' := by
  unfold maxLen at hl
  have hszz := bs_size l
  by_cases hc : (v = 1 ∨ v = 2) ∧ (bs l).size ≤ 1048576
  · have hr : packR v l = (packL v l, true) := by rw [packR, if_pos (by omega)]
    rw [hr]
    obtain ⟨hc, h3⟩ := hc
    clear hr hszz
    rcases hc with rfl | rfl
    · have hstr := fun w => str_one (160 + 1) (UInt8.ofNat (160 + 1)) rfl w
      have hstr2 : ∀ w : World, (convert 46 9 (.slice (some ⟨w.heap.size, 0, none⟩) 1 1)).run Try.prog (w.alloc (.cells #[.int .u8 161] 5)) = .ok (.string (bs [161])) (w.alloc (.cells #[.int .u8 161] 5)) := hstr
      clear hstr
      go_enter Try.func10, Try.ntmps10
      go_wp2_with fail
      refine (rvFixed (bs l).size 4 _ (by decide) (by decide) (by omega) (by omega)).mono ?_
      rintro e w1 ⟨rfl, g1⟩
      have hF := fixL_size (bs l).size 4 (by decide)
      generalize eB : bs (fixL (bs l).size 4) = B at *
      have EB := Lib.hid eB
      clear eB
      generalize eA : bs [161] = A at *
      have EA := Lib.hid eA
      have hA1 : A.size ≤ 1 := by rw [← eA, bs_size]; exact Nat.le_refl _
      clear eA
      have hABl : (A ++ B ++ bs l).size ≤ maxLen := by simp only [ByteArray.size_append]; unfold maxLen; omega
      go_wp2_with fail
      have hc1 := crcMore_lt 0 (A ++ B ++ bs l).data.toList
      (with_reducible refine (rcSum (A ++ B ++ bs l) _ hABl).mono ?_)
      rintro e w4 ⟨rfl, rfl⟩
      generalize eC : crcMore 0 (A ++ B ++ bs l).data.toList = C at *
      have EC := Lib.hid eC
      clear eC
      generalize eq : (C : Int) = q at *
      have EQ := Lib.hid eq
      have hq0 : 0 ≤ q := by omega
      have hq1 : q < 4294967296 := by omega
      clear eq hc1
      go_wp2_with fail
      refine (rvFixed q 4 _ (by decide) (by decide) hq0 (by omega)).mono ?_
      rintro e w5 ⟨rfl, g5⟩
      have hD := fixL_size q 4 (by decide)
      have hD1 : (bs (fixL q 4)).size ≤ 4 := by omega
      clear hD
      generalize eD : bs (fixL q 4) = D at *
      have ED := Lib.hid eD
      clear eD
      go_wp2_with fail
      go_ret2
      refine ⟨?_, (g1.alloc _).trans0 g5⟩
      have e : A ++ B ++ D ++ bs l = bs (packL 1 l) := by
        rw [← ED.out, ← EQ.out, ← EC.out, ← EA.out, ← EB.out]
        simp only [bs_append, bs_list, packL, headL, bs_size]
        rw [crcMore_append 0 _ l (by decide)]
        rfl
      rw [← e]
      simp

    · have hB := lenL_size 2 (bs l).size
      have hstr := fun w => str_one (160 + 2) (UInt8.ofNat (160 + 2)) rfl w
      have hstr2 : ∀ w : World, (convert 46 9 (.slice (some ⟨w.heap.size, 0, none⟩) 1 1)).run Try.prog (w.alloc (.cells #[.int .u8 162] 5)) = .ok (.string (bs [162])) (w.alloc (.cells #[.int .u8 162] 5)) := hstr
      clear hstr
      go_enter Try.func10, Try.ntmps10
      go_wp2_with fail
      refine (rvFixed (bs l).size 4 _ (by decide) (by decide) (by omega) (by omega)).mono ?_
      rintro e w1 ⟨rfl, g1⟩
      have hF := fixL_size (bs l).size 4 (by decide)
      generalize bs (fixL (bs l).size 4) = F at *
      go_wp2_with fail
      refine (rvPut (bs l).size _ (by omega) (by omega)).mono ?_
      rw [Int.toNat_natCast]
      rintro e w2 ⟨rfl, g2⟩
      have hB2 : (bs (putL (bs l).size)).size ≤ 10 := hB
      clear hB
      generalize eB : bs (putL (bs l).size) = B at *
      have EB := Lib.hid eB
      clear eB
      generalize eA : bs [162] = A at *
      have EA := Lib.hid eA
      have hA1 : A.size ≤ 1 := by rw [← eA, bs_size]; exact Nat.le_refl _
      clear eA
      have hABl : (A ++ B ++ bs l).size ≤ maxLen := by simp only [ByteArray.size_append]; unfold maxLen; omega
      go_wp2_with fail
      have hc1 := crcMore_lt 0 (A ++ B ++ bs l).data.toList
      (with_reducible refine (rcSum (A ++ B ++ bs l) _ hABl).mono ?_)
      rintro e w4 ⟨rfl, rfl⟩
      generalize eC : crcMore 0 (A ++ B ++ bs l).data.toList = C at *
      have EC := Lib.hid eC
      clear eC
      generalize eq : (C : Int) = q at *
      have EQ := Lib.hid eq
      have hq0 : 0 ≤ q := by omega
      have hq1 : q < 4294967296 := by omega
      clear eq hc1
      go_wp2_with fail
      refine (rvFixed q 4 _ (by decide) (by decide) hq0 (by omega)).mono ?_
      rintro e w5 ⟨rfl, g5⟩
      have hD := fixL_size q 4 (by decide)
      have hD1 : (bs (fixL q 4)).size ≤ 4 := by omega
      clear hD
      generalize eD : bs (fixL q 4) = D at *
      have ED := Lib.hid eD
      clear eD
      go_wp2_with fail
      go_ret2
      refine ⟨?_, ((g1.trans0 g2).alloc _).trans0 g5⟩
      have e : A ++ B ++ D ++ bs l = bs (packL 2 l) := by
        rw [← ED.out, ← EQ.out, ← EC.out, ← EA.out, ← EB.out]
        simp only [bs_append, bs_list, packL, headL, bs_size]
        rw [crcMore_append 0 _ l (by decide)]
        rfl
      rw [← e]
      simp

  · have hr : packR v l = ([], false) := by rw [packR, if_neg (by omega)]
    rw [hr]
    by_cases h1 : v = 1 ∨ v = 2
    · have h3 : 1048576 < (bs l).size := by omega
      clear hszz hc hr
      rcases h1 with rfl | rfl
      all_goals
        go_enter Try.func10, Try.ntmps10
        go_wp2_with fail
        go_ret2
        exact ⟨rfl, Fr.refl _ _⟩
    · have h2 : (v != 1) = true := by simp; omega
      have h3 : (v != 2) = true := by simp; omega
      clear hszz hc hr h1
      go_enter Try.func10, Try.ntmps10
      go_wp2_with fail
      go_ret2
      exact ⟨rfl, Fr.refl _ _⟩
end Go.Proofs.Ytacdbglocpaeaaa
