/-
  Texts of this seat, joined: FEx FEx2.
-/
import Derived.Test.YtacdbglocpaeaaaZFMsg9
import Derived.Test.YtacdbglocpaeaaaZFNextQ
import Derived.Test.YtacdbglocpaeaaaZFLaw
set_option linter.unusedSimpArgs false
set_option linter.unusedVariables false
namespace Go.Proofs.Ytacdbglocpaeaaa
open Go.RowKit

def shim9 : Array Value := #[.int .i64 5, .int .i64 1, .int .i64 2, .int .u64 3, .int .u64 0, .int .u64 0, .int .u64 0, .int .u64 4, .bool false, .slice none 0 0, .string ⟨#[]⟩]

set_option maxRecDepth 100000 in
set_option maxHeartbeats 2000000 in
theorem fShim9 (w : World) : Calls Try.prog 16 #[.agg msg9] w fun r w' => r = .returned (.tuple #[.agg shim9, .bool true]) ∧ Fr [] w w' := by
  have HM := Lib.hid eMsgRight9
  unfold msg9 at *
  go_enter Try.func16, Try.ntmps16
  go_wp2_with fail
  refine (HM.out _).mono ?_
  rintro r w2 ⟨rfl, g2⟩
  have B1 := Blk.fr0 ((Blk.new w msg9 35).alloc _) g2
  have B2 := Blk.fr0 (Blk.new (w.alloc (.cells msg9 35)) #[.int .i64 0, .int .i64 0, .int .i64 0, .int .u64 0, .int .u64 0, .int .u64 0, .int .u64 0, .int .u64 0, .bool false, .slice none 0 0, .string ⟨#[]⟩] 35) g2
  have hsz : (w.alloc (.cells msg9 35)).heap.size = w.heap.size + 1 := by simp
  rw [hsz] at B2
  have F2 : Hid (Fr [] w w2) := (((Fr.refl _ _).alloc _).alloc _).trans0 g2
  have hlt := B2.lt
  unfold msg9 at B1 F2
  generalize hX : w.heap.size = bx at *
  have HX := Lib.hid hX
  clear hX
  have HB2 := Lib.hid B2
  have e0 := B1.cellAt (i := 0) rfl
  have e1 := B1.cellAt (i := 1) rfl
  have e2 := B1.cellAt (i := 2) rfl
  have e3 := B1.cellAt (i := 3) rfl
  have e7 := B1.cellAt (i := 7) rfl
  have q0 := B2.cellAt (i := 0) rfl
  have z0 := B2.froz 0
  have q1 := B2.cellAt (i := 1) rfl
  have z1 := B2.froz 1
  have q2 := B2.cellAt (i := 2) rfl
  have z2 := B2.froz 2
  have q3 := B2.cellAt (i := 3) rfl
  have z3 := B2.froz 3
  have q4 := B2.cellAt (i := 4) rfl
  have z4 := B2.froz 4
  have q5 := B2.cellAt (i := 5) rfl
  have z5 := B2.froz 5
  have q6 := B2.cellAt (i := 6) rfl
  have z6 := B2.froz 6
  have q7 := B2.cellAt (i := 7) rfl
  have z7 := B2.froz 7
  have q8 := B2.cellAt (i := 8) rfl
  have z8 := B2.froz 8
  have q9 := B2.cellAt (i := 9) rfl
  have z9 := B2.froz 9
  have q10 := B2.cellAt (i := 10) rfl
  have z10 := B2.froz 10
  have hl1 : bx < w2.heap.size := by omega
  have e0' : ∀ o, (w2.alloc o).cell? ⟨bx, 0, none⟩ = some (.int .i64 9) := fun o => (B1.alloc o).cellAt (i := 0) rfl
  have q0' : ∀ o, (w2.alloc o).cell? ⟨bx + 1, 0, none⟩ = some (.int .i64 0) := fun o => (B2.alloc o).cellAt (i := 0) rfl
  have z0' : ∀ o, (w2.alloc o).frozen? ⟨bx + 1, 0, none⟩ = false := fun o => (B2.alloc o).froz 0
  have q1' : ∀ o, (w2.alloc o).cell? ⟨bx + 1, 1, none⟩ = some (.int .i64 0) := fun o => (B2.alloc o).cellAt (i := 1) rfl
  have z1' : ∀ o, (w2.alloc o).frozen? ⟨bx + 1, 1, none⟩ = false := fun o => (B2.alloc o).froz 1
  have q2' : ∀ o, (w2.alloc o).cell? ⟨bx + 1, 2, none⟩ = some (.int .i64 0) := fun o => (B2.alloc o).cellAt (i := 2) rfl
  have z2' : ∀ o, (w2.alloc o).frozen? ⟨bx + 1, 2, none⟩ = false := fun o => (B2.alloc o).froz 2
  have q3' : ∀ o, (w2.alloc o).cell? ⟨bx + 1, 3, none⟩ = some (.int .u64 0) := fun o => (B2.alloc o).cellAt (i := 3) rfl
  have z3' : ∀ o, (w2.alloc o).frozen? ⟨bx + 1, 3, none⟩ = false := fun o => (B2.alloc o).froz 3
  have q4' : ∀ o, (w2.alloc o).cell? ⟨bx + 1, 4, none⟩ = some (.int .u64 0) := fun o => (B2.alloc o).cellAt (i := 4) rfl
  have z4' : ∀ o, (w2.alloc o).frozen? ⟨bx + 1, 4, none⟩ = false := fun o => (B2.alloc o).froz 4
  have q5' : ∀ o, (w2.alloc o).cell? ⟨bx + 1, 5, none⟩ = some (.int .u64 0) := fun o => (B2.alloc o).cellAt (i := 5) rfl
  have z5' : ∀ o, (w2.alloc o).frozen? ⟨bx + 1, 5, none⟩ = false := fun o => (B2.alloc o).froz 5
  have q6' : ∀ o, (w2.alloc o).cell? ⟨bx + 1, 6, none⟩ = some (.int .u64 0) := fun o => (B2.alloc o).cellAt (i := 6) rfl
  have z6' : ∀ o, (w2.alloc o).frozen? ⟨bx + 1, 6, none⟩ = false := fun o => (B2.alloc o).froz 6
  have q7' : ∀ o, (w2.alloc o).cell? ⟨bx + 1, 7, none⟩ = some (.int .u64 0) := fun o => (B2.alloc o).cellAt (i := 7) rfl
  have z7' : ∀ o, (w2.alloc o).frozen? ⟨bx + 1, 7, none⟩ = false := fun o => (B2.alloc o).froz 7
  have q8' : ∀ o, (w2.alloc o).cell? ⟨bx + 1, 8, none⟩ = some (.bool false) := fun o => (B2.alloc o).cellAt (i := 8) rfl
  have z8' : ∀ o, (w2.alloc o).frozen? ⟨bx + 1, 8, none⟩ = false := fun o => (B2.alloc o).froz 8
  have q9' : ∀ o, (w2.alloc o).cell? ⟨bx + 1, 9, none⟩ = some (.slice none 0 0) := fun o => (B2.alloc o).cellAt (i := 9) rfl
  have z9' : ∀ o, (w2.alloc o).frozen? ⟨bx + 1, 9, none⟩ = false := fun o => (B2.alloc o).froz 9
  have q10' : ∀ o, (w2.alloc o).cell? ⟨bx + 1, 10, none⟩ = some (.string ⟨#[]⟩) := fun o => (B2.alloc o).cellAt (i := 10) rfl
  have z10' : ∀ o, (w2.alloc o).frozen? ⟨bx + 1, 10, none⟩ = false := fun o => (B2.alloc o).froz 10
  clear B1 B2 g2 HM hsz
  go_wp2_with fail
  have BF : Hid (Blk ((((((((((((w2.setCell ⟨bx + 1, 0, none⟩ (.int .i64 5)).setCell ⟨bx + 1, 1, none⟩ (.int .i64 1)).setCell ⟨bx + 1, 2, none⟩ (.int .i64 2)).setCell ⟨bx + 1, 3, none⟩ (.int .u64 3)).setCell ⟨bx + 1, 4, none⟩ (.int .u64 0)).setCell ⟨bx + 1, 5, none⟩ (.int .u64 0)).setCell ⟨bx + 1, 6, none⟩ (.int .u64 0)).setCell ⟨bx + 1, 7, none⟩ (.int .u64 4)).setCell ⟨bx + 1, 8, none⟩ (.bool false)).setCell ⟨bx + 1, 9, none⟩ (.slice none 0 0)).setCell ⟨bx + 1, 10, none⟩ (.string ⟨#[]⟩)).alloc (.cells #[.int .i64 5, .int .i64 1, .int .i64 2, .int .u64 3, .int .u64 0, .int .u64 0, .int .u64 0, .int .u64 4, .bool false, .slice none 0 0, .string ⟨#[]⟩] 35)) (bx + 1) shim9 35) := (Blk.alloc (Blk.set (Blk.set (Blk.set (Blk.set (Blk.set (Blk.set (Blk.set (Blk.set (Blk.set (Blk.set (Blk.set HB2.out 0 (.int .i64 5)) 1 (.int .i64 1)) 2 (.int .i64 2)) 3 (.int .u64 3)) 4 (.int .u64 0)) 5 (.int .u64 0)) 6 (.int .u64 0)) 7 (.int .u64 4)) 8 (.bool false)) 9 (.slice none 0 0)) 10 (.string ⟨#[]⟩)) (.cells #[.int .i64 5, .int .i64 1, .int .i64 2, .int .u64 3, .int .u64 0, .int .u64 0, .int .u64 0, .int .u64 4, .bool false, .slice none 0 0, .string ⟨#[]⟩] 35))
  have FF : Hid (Fr [] w ((((((((((((w2.setCell ⟨bx + 1, 0, none⟩ (.int .i64 5)).setCell ⟨bx + 1, 1, none⟩ (.int .i64 1)).setCell ⟨bx + 1, 2, none⟩ (.int .i64 2)).setCell ⟨bx + 1, 3, none⟩ (.int .u64 3)).setCell ⟨bx + 1, 4, none⟩ (.int .u64 0)).setCell ⟨bx + 1, 5, none⟩ (.int .u64 0)).setCell ⟨bx + 1, 6, none⟩ (.int .u64 0)).setCell ⟨bx + 1, 7, none⟩ (.int .u64 4)).setCell ⟨bx + 1, 8, none⟩ (.bool false)).setCell ⟨bx + 1, 9, none⟩ (.slice none 0 0)).setCell ⟨bx + 1, 10, none⟩ (.string ⟨#[]⟩)).alloc (.cells #[.int .i64 5, .int .i64 1, .int .i64 2, .int .u64 3, .int .u64 0, .int .u64 0, .int .u64 0, .int .u64 4, .bool false, .slice none 0 0, .string ⟨#[]⟩] 35))) := ((((((((((((F2.out.setCell (.inr (by have := HX.out; show w.heap.size ≤ bx + 1; omega)) (.int .i64 5)).setCell (.inr (by have := HX.out; show w.heap.size ≤ bx + 1; omega)) (.int .i64 1)).setCell (.inr (by have := HX.out; show w.heap.size ≤ bx + 1; omega)) (.int .i64 2)).setCell (.inr (by have := HX.out; show w.heap.size ≤ bx + 1; omega)) (.int .u64 3)).setCell (.inr (by have := HX.out; show w.heap.size ≤ bx + 1; omega)) (.int .u64 0)).setCell (.inr (by have := HX.out; show w.heap.size ≤ bx + 1; omega)) (.int .u64 0)).setCell (.inr (by have := HX.out; show w.heap.size ≤ bx + 1; omega)) (.int .u64 0)).setCell (.inr (by have := HX.out; show w.heap.size ≤ bx + 1; omega)) (.int .u64 4)).setCell (.inr (by have := HX.out; show w.heap.size ≤ bx + 1; omega)) (.bool false)).setCell (.inr (by have := HX.out; show w.heap.size ≤ bx + 1; omega)) (.slice none 0 0)).setCell (.inr (by have := HX.out; show w.heap.size ≤ bx + 1; omega)) (.string ⟨#[]⟩)).alloc (.cells #[.int .i64 5, .int .i64 1, .int .i64 2, .int .u64 3, .int .u64 0, .int .u64 0, .int .u64 0, .int .u64 4, .bool false, .slice none 0 0, .string ⟨#[]⟩] 35))
  generalize ((((((((((((w2.setCell ⟨bx + 1, 0, none⟩ (.int .i64 5)).setCell ⟨bx + 1, 1, none⟩ (.int .i64 1)).setCell ⟨bx + 1, 2, none⟩ (.int .i64 2)).setCell ⟨bx + 1, 3, none⟩ (.int .u64 3)).setCell ⟨bx + 1, 4, none⟩ (.int .u64 0)).setCell ⟨bx + 1, 5, none⟩ (.int .u64 0)).setCell ⟨bx + 1, 6, none⟩ (.int .u64 0)).setCell ⟨bx + 1, 7, none⟩ (.int .u64 4)).setCell ⟨bx + 1, 8, none⟩ (.bool false)).setCell ⟨bx + 1, 9, none⟩ (.slice none 0 0)).setCell ⟨bx + 1, 10, none⟩ (.string ⟨#[]⟩)).alloc (.cells #[.int .i64 5, .int .i64 1, .int .i64 2, .int .u64 3, .int .u64 0, .int .u64 0, .int .u64 0, .int .u64 4, .bool false, .slice none 0 0, .string ⟨#[]⟩] 35)) = W at *
  have BF' := BF.out
  unfold shim9 at BF' ⊢
  have y0 := BF'.cellAt (i := 0) rfl
  have y1 := BF'.cellAt (i := 1) rfl
  have y2 := BF'.cellAt (i := 2) rfl
  have y3 := BF'.cellAt (i := 3) rfl
  have y4 := BF'.cellAt (i := 4) rfl
  have y5 := BF'.cellAt (i := 5) rfl
  have y6 := BF'.cellAt (i := 6) rfl
  have y7 := BF'.cellAt (i := 7) rfl
  have y8 := BF'.cellAt (i := 8) rfl
  have y9 := BF'.cellAt (i := 9) rfl
  have y10 := BF'.cellAt (i := 10) rfl
  refine bodyPost_ret (v := .tuple #[.agg #[.int .i64 5, .int .i64 1, .int .i64 2, .int .u64 3, .int .u64 0, .int .u64 0, .int .u64 0, .int .u64 4, .bool false, .slice none 0 0, .string ⟨#[]⟩], .bool true]) ?_ rfl ⟨rfl, FF.out⟩
  simp [results, Try.results16, go_sem, y0, y1, y2, y3, y4, y5, y6, y7, y8, y9, y10]
end Go.Proofs.Ytacdbglocpaeaaa

namespace Go.Proofs.Ytacdbglocpaeaaa
open Go.RowKit

theorem exPack (v : Int) (hv : v = 1 ∨ v = 2) (w : World) : Calls Try.prog 9 #[.int .i64 v, .string ⟨#[104, 105]⟩] w fun e w' => e = .returned (.tuple #[.string (bs (packL v [104, 105])), .bool true]) ∧ Fr [] w w' := by
  have h := fPack v [104, 105] w (by decide)
  rw [show packR v [104, 105] = (packL v [104, 105], true) by rw [packR, if_pos ⟨by omega, by omega, by decide⟩]] at h
  exact h

theorem exUnpack (w : World) : Calls Try.prog 14 #[.string (bs (packL 2 [104, 105]))] w fun e w' => e = .returned (.tuple #[.int .i64 2, .string ⟨#[104, 105]⟩, .bool true]) ∧ Fr [] w w' := by
  have h := fUnpack (bs (packL 2 [104, 105])) w (by rw [bs_size]; decide +kernel)
  have hn := nextS_pack 2 (.inr rfl) [104, 105] [] (by decide)
  rw [List.append_nil] at hn
  rw [show unpackOf (nextS (bs (packL 2 [104, 105]))) (bs (packL 2 [104, 105])).size = (2, bs [104, 105], true) by rw [hn, unpackOf, bs_size, if_neg (by simp)]] at h
  exact h

theorem exNone (w : World) : Calls Try.prog 14 #[.string ⟨#[]⟩] w fun e w' => e = .returned (.tuple #[.int .i64 0, .string ⟨#[]⟩, .bool false]) ∧ Fr [] w w' := by
  have h := fUnpack (bs []) w (by decide)
  rw [show unpackOf (nextS (bs [])) (bs []).size = (0, bs [], false) by decide +kernel] at h
  exact h

set_option maxRecDepth 100000 in
set_option maxHeartbeats 2000000 in
theorem fExamples (w : World) : Calls Try.prog 8 #[] w fun e w' => e = .returned (.bool true) ∧ Fr [] w w' := by
  have hA : (bs (packL 1 [104, 105])).size = 11 := by rw [bs_size]; decide +kernel
  have hB : (bs (packL 2 [104, 105])).size = 8 := by rw [bs_size]; decide +kernel
  have hA0 : ∀ h : 0 < (bs (packL 1 [104, 105])).size, (bs (packL 1 [104, 105]))[0].toNat = 161 := by decide +kernel
  have H1 := Lib.hid (exPack 1 (.inl rfl))
  have H2 := Lib.hid (exPack 2 (.inr rfl))
  have H3 := Lib.hid exUnpack
  have H4 := Lib.hid exNone
  have H5 := Lib.hid fShim9
  generalize bs (packL 1 [104, 105]) = A at *
  generalize bs (packL 2 [104, 105]) = B at *
  unfold msg9 shim9 at H5
  go_enter Try.func8, Try.ntmps8
  go_wp2_with fail
  refine (H1.out _).mono ?_
  rintro e w1 ⟨rfl, g1⟩
  go_wp2_with fail
  refine (H2.out _).mono ?_
  rintro e w2 ⟨rfl, g2⟩
  go_wp2_with fail
  refine (H3.out _).mono ?_
  rintro e w3 ⟨rfl, g3⟩
  go_wp2_with fail
  refine (H4.out _).mono ?_
  rintro e w4 ⟨rfl, g4⟩
  go_wp2_with fail
  refine (H5.out _).mono ?_
  rintro e w5 ⟨rfl, g5⟩
  have hF : Hid (Fr [] w w5) := (((g1.trans0 g2).trans0 g3).trans0 g4).trans0 g5
  clear g1 g2 g3 g4 g5
  go_wp2_with fail
  go_ret; exact ⟨rfl, hF.out.alloc _⟩
end Go.Proofs.Ytacdbglocpaeaaa
