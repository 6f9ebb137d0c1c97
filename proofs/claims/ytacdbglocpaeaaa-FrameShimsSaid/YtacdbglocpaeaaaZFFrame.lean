/-
  Texts of this seat, joined: FFrame.
-/
import Derived.Test.YtacdbglocpaeaaaZFCrc
import Derived.Test.YtacdbglocpaeaaaZFRef2
import Derived.Test.YtacdbglocpaeaaaZFMap
set_option linter.unusedSimpArgs false
set_option linter.unusedVariables false
namespace Go.Proofs.Ytacdbglocpaeaaa
open Go.RowKit

def lenL (v : Int) (n : Nat) : List UInt8 := if v = 1 then fixL n 4 else putL n
def headL (v : Int) (n : Nat) : List UInt8 := fixL (160 + v) 1 ++ lenL v n
def packL (v : Int) (l : List UInt8) : List UInt8 := headL v l.length ++ fixL (crcMore (crcMore 0 (headL v l.length)) l : Nat) 4 ++ l
def packR (v : Int) (l : List UInt8) : List UInt8 × Bool := if 1 ≤ v ∧ v ≤ 2 ∧ l.length ≤ 1048576 then (packL v l, true) else ([], false)

set_option maxHeartbeats 1000000 in
theorem fLength (v : Int) (n : Int) (w : World) (hn0 : 0 ≤ n) (hn : n < 9223372036854775808) :
    Calls Try.prog 21 #[.int .i64 v, .int .i64 n] w fun e w' => e = .returned (.string (bs (lenL v n.toNat))) ∧ Fr [] w w' := by
  have en : ((n.toNat : Nat) : Int) = n := by omega
  have Hn := Lib.hid en
  clear en
  have hw : IntKind.u64.wrap n = n := by rw [IntKind.wrap_u64]; omega
  by_cases hv : v = 1
  · subst hv
    go_enter Try.func21, Try.ntmps21
    go_wp2_with (go_at_call 20; refine (vFixed n 4 _ (by decide) (by decide) hn0 (by omega)).mono ?_; rintro e w' ⟨rfl, h1⟩)
    go_ret
    exact ⟨ret_str (by rw [lenL, if_pos rfl, Hn.out]), h1⟩
  · have hv2 : (v == 1) = false := by simpa using hv
    go_enter Try.func21, Try.ntmps21
    go_wp2_with (go_at_call 44; refine (vPut n _ hn0 (by omega)).mono ?_; rintro e w' ⟨rfl, h1⟩)
    go_ret
    exact ⟨ret_str (by rw [lenL, if_neg hv]), h1⟩

theorem fixL_size (n : Int) (k : Nat) (h : k ≤ 8) : (bs (fixL n k)).size = k := by rw [bs_size, fixL_length n k h]
theorem lenL_size (v : Int) (n : Nat) : (bs (lenL v n)).size ≤ 10 := by
  rw [bs_size, lenL]
  split
  · rw [fixL_length _ _ (by decide)]; decide
  · exact putL_length n

set_option maxRecDepth 100000 in
set_option maxHeartbeats 1000000 in
theorem fPack (v : Int) (l : List UInt8) (w : World) (hl : l.length ≤ maxLen) :
    Calls Try.prog 9 #[.int .i64 v, .string (bs l)] w fun e w' => e = .returned (.tuple #[.string (bs (packR v l).1), .bool (packR v l).2]) ∧ Fr [] w w' := by
  unfold maxLen at hl
  by_cases hc : 1 ≤ v ∧ v ≤ 2 ∧ l.length ≤ 1048576
  · have hr : packR v l = (packL v l, true) := by rw [packR, if_pos hc]
    rw [hr]
    obtain ⟨h1, h2, h3⟩ := hc
    have hsz : (bs l).size ≤ 1048576 := by rw [bs_size]; exact h3
    have hsz2 : (bs l).size ≤ maxLen := by unfold maxLen; omega
    have hA := fixL_size (160 + v) 1 (by decide)
    have hB := lenL_size v (bs l).size
    go_enter Try.func9, Try.ntmps9
    go_wp2_with fail
    refine (vFixed (160 + v) 1 _ (by decide) (by decide) (by omega) (by omega)).mono ?_
    rintro e w1 ⟨rfl, g1⟩
    generalize eA : bs (fixL (160 + v) 1) = A at *
    have EA := Lib.hid eA
    clear eA
    go_wp2_with fail
    refine (fLength v (bs l).size _ (by omega) (by omega)).mono ?_
    rw [Int.toNat_natCast]
    rintro e w2 ⟨rfl, g2⟩
    generalize eB : bs (lenL v (bs l).size) = B at *
    have EB := Lib.hid eB
    clear eB
    have hA1 : A.size ≤ 1 := by omega
    clear hA
    have hAB : (A ++ B).size ≤ 11 := by rw [ByteArray.size_append]; omega
    go_wp2_with fail
    refine (cSum (A ++ B) _ (by unfold maxLen; omega)).mono ?_
    rintro e w3 ⟨rfl, g3⟩
    go_wp2_with fail
    have hc1 := crcMore_lt 0 (A.data.toList ++ B.data.toList)
    generalize eC1 : crcMore 0 (A.data.toList ++ B.data.toList) = c1 at *
    have EC1 := Lib.hid eC1
    clear eC1
    (with_reducible refine (cMore c1 (bs l) _ hc1 hsz2).mono ?_)
    rintro e w4 ⟨rfl, g4⟩
    have hcb := crcMore_lt c1 (bs l).data.toList
    generalize eC : crcMore c1 (bs l).data.toList = C at *
    have EC := Lib.hid eC
    clear eC
    generalize eq : (C : Int) = q at *
    have EQ := Lib.hid eq
    have hq0 : 0 ≤ q := by omega
    have hq1 : q < 4294967296 := by omega
    clear eq hcb
    go_wp2_with fail
    refine (vFixed q 4 _ (by decide) (by decide) hq0 (by omega)).mono ?_
    rintro e w5 ⟨rfl, g5⟩
    have hD := fixL_size q 4 (by decide)
    have hD1 : (bs (fixL q 4)).size ≤ 4 := by omega
    clear hD
    generalize eD : bs (fixL q 4) = D at *
    have ED := Lib.hid eD
    clear eD
    go_wp2_with fail
    go_ret2
    refine ⟨?_, ((g1.trans0 g2).trans0 g3).trans0 (g4.trans0 g5)⟩
    have e : A ++ B ++ D ++ bs l = bs (packL v l) := by
      rw [← ED.out, ← EQ.out, ← EC.out, ← EC1.out, ← EA.out, ← EB.out]
      simp only [bs_append, bs_list, packL, headL, bs_size]
    rw [← e]
    simp
  · have hr : packR v l = ([], false) := by rw [packR, if_neg hc]
    rw [hr]
    have hsz := bs_size l
    by_cases h1 : 1 ≤ v
    · by_cases h2 : v ≤ 2
      · have h3 : 1048576 < (bs l).size := by omega
        clear hsz hc hr
        go_enter Try.func9, Try.ntmps9
        go_wp2_with fail
        go_ret2
        exact ⟨rfl, Fr.refl _ _⟩
      · clear hsz hc hr
        go_enter Try.func9, Try.ntmps9
        go_wp2_with fail
        go_ret2
        exact ⟨rfl, Fr.refl _ _⟩
    · clear hsz hc hr
      go_enter Try.func9, Try.ntmps9
      go_wp2_with fail
      go_ret2
      exact ⟨rfl, Fr.refl _ _⟩
end Go.Proofs.Ytacdbglocpaeaaa
