/-
  The examples ahead of each statement are so.
-/
import Derived.Test.YtacdbglocpaeaaaFEx
import Derived.Test.YtacdbglocpaeaaaFLaw2
namespace Go.Proofs.Ytacdbglocpaeaaa
open Go.RowKit

theorem exPack (v : Int) (hv : v = 1 ∨ v = 2) (w : World) : Calls Try.prog 9 #[.int .i64 v, .string ⟨#[104, 105]⟩] w fun e w' => e = .returned (.tuple #[.string (bs (packL v [104, 105])), .bool true]) ∧ Fr [] w w' := by
  have h := fPack v [104, 105] w (by decide)
  rw [show packR v [104, 105] = (packL v [104, 105], true) by rw [packR, if_pos ⟨by omega, by omega, by decide⟩]] at h
  exact h

theorem exUnpack (w : World) : Calls Try.prog 14 #[.string (bs (packL 2 [104, 105]))] w fun e w' => e = .returned (.tuple #[.int .i64 2, .string ⟨#[104, 105]⟩, .bool true]) ∧ Fr [] w w' := by
  have h := fUnpack (bs (packL 2 [104, 105])) w (by rw [bs_size]; decide +kernel)
  have hn := nextS_pack 2 (.inr rfl) [104, 105] [] (by decide)
  rw [List.append_nil] at hn
  rw [show unpackOf (nextS (bs (packL 2 [104, 105]))) (bs (packL 2 [104, 105])).size = (2, bs [104, 105], true) by rw [hn, unpackOf, bs_size, if_neg (by simp)]] at h
  exact h

theorem exNone (w : World) : Calls Try.prog 14 #[.string ⟨#[]⟩] w fun e w' => e = .returned (.tuple #[.int .i64 0, .string ⟨#[]⟩, .bool false]) ∧ Fr [] w w' := by
  have h := fUnpack (bs []) w (by decide)
  rw [show unpackOf (nextS (bs [])) (bs []).size = (0, bs [], false) by decide +kernel] at h
  exact h

set_option maxRecDepth 100000 in
set_option maxHeartbeats 2000000 in
theorem fExamples (w : World) : Calls Try.prog 8 #[] w fun e w' => e = .returned (.bool true) ∧ Fr [] w w' := by
  have hA : (bs (packL 1 [104, 105])).size = 11 := by rw [bs_size]; decide +kernel
  have hB : (bs (packL 2 [104, 105])).size = 8 := by rw [bs_size]; decide +kernel
  have hA0 : ∀ h : 0 < (bs (packL 1 [104, 105])).size, (bs (packL 1 [104, 105]))[0].toNat = 161 := by decide +kernel
  have H1 := Lib.hid (exPack 1 (.inl rfl))
  have H2 := Lib.hid (exPack 2 (.inr rfl))
  have H3 := Lib.hid exUnpack
  have H4 := Lib.hid exNone
  have H5 := Lib.hid fShim9
  generalize bs (packL 1 [104, 105]) = A at *
  generalize bs (packL 2 [104, 105]) = B at *
  unfold msg9 shim9 at H5
  go_enter Try.func8, Try.ntmps8
  go_wp2_with fail
  refine (H1.out _).mono ?_
  rintro e w1 ⟨rfl, g1⟩
  go_wp2_with fail
  refine (H2.out _).mono ?_
  rintro e w2 ⟨rfl, g2⟩
  go_wp2_with fail
  refine (H3.out _).mono ?_
  rintro e w3 ⟨rfl, g3⟩
  go_wp2_with fail
  refine (H4.out _).mono ?_
  rintro e w4 ⟨rfl, g4⟩
  go_wp2_with fail
  refine (H5.out _).mono ?_
  rintro e w5 ⟨rfl, g5⟩
  have hF : Hid (Fr [] w w5) := (((g1.trans0 g2).trans0 g3).trans0 g4).trans0 g5
  clear g1 g2 g3 g4 g5
  go_wp2_with fail
  go_ret; exact ⟨rfl, hF.out.alloc _⟩
end Go.Proofs.Ytacdbglocpaeaaa
