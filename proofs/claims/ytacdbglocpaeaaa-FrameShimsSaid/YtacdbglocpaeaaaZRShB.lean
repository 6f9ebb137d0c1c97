/-
  Texts of this seat, joined: RShB RSh1 RSh2 RSh3.
-/
import Derived.Test.YtacdbglocpaeaaaZRMsg
set_option linter.unusedSimpArgs false
set_option linter.unusedVariables false
namespace Go.Proofs.Ytacdbglocpaeaaa
open Go.RowKit



end Go.Proofs.Ytacdbglocpaeaaa

namespace Go.Proofs.Ytacdbglocpaeaaa
open Go.RowKit

set_option maxRecDepth 100000 in
set_option maxHeartbeats 4000000 in
theorem rShimNo (m : Msg) (ad : Option Addr) (n cp : Nat) (w : World) (hf : m.Fits) (hv : Ents w (.slice ad n cp) m.ents) (hok : m.ok = false) : Calls Try.prog 18 #[.agg #[.int .i64 m.kind, .int .i64 m.sent, .int .i64 m.goal, .int .u64 m.term, .int .u64 m.index, .int .u64 m.prev, .int .u64 m.commit, .int .u64 m.mark, .bool m.yes, .slice ad n cp, .string m.snap]] w fun r w' => r = .returned (.tuple #[.agg #[.int .i64 0, .int .i64 0, .int .i64 0, .int .u64 0, .int .u64 0, .int .u64 0, .int .u64 0, .int .u64 0, .bool false, .slice none 0 0, .string ⟨#[]⟩], .bool false]) ∧ Fr [] w w' := by
  have HM := Lib.hid (fun w' (hv : Ents w' (.slice ad n cp) m.ents) => rMsgRight m (.slice ad n cp) w' hf hv)
  have HL := Lib.hid (fun w' (hv : Ents w' (.slice ad n cp) m.ents) => rMsgLevel m (.slice ad n cp) w' hf hv)
  have HV := Lib.hid hv
  clear hv hf
  unfold Msg.cells at HM HL
  rw [hok] at HM
  go_enter Try.func18, Try.ntmps18
  go_wp2_with fail
  refine (HM.out _ (HV.out.fr0 (((Fr.refl _ _).alloc _).alloc _))).mono ?_
  rintro r w2 ⟨rfl, g2⟩
  have B1 := Blk.fr0 ((Blk.new w #[.int .i64 m.kind, .int .i64 m.sent, .int .i64 m.goal, .int .u64 m.term, .int .u64 m.index, .int .u64 m.prev, .int .u64 m.commit, .int .u64 m.mark, .bool m.yes, .slice ad n cp, .string m.snap] 35).alloc _) g2
  have B2 := Blk.fr0 (Blk.new (w.alloc (.cells #[.int .i64 m.kind, .int .i64 m.sent, .int .i64 m.goal, .int .u64 m.term, .int .u64 m.index, .int .u64 m.prev, .int .u64 m.commit, .int .u64 m.mark, .bool m.yes, .slice ad n cp, .string m.snap] 35)) #[.int .i64 0, .int .i64 0, .int .i64 0, .int .u64 0, .int .u64 0, .int .u64 0, .int .u64 0, .int .u64 0, .bool false, .slice none 0 0, .string ⟨#[]⟩] 35) g2
  have hsz : (w.alloc (.cells #[.int .i64 m.kind, .int .i64 m.sent, .int .i64 m.goal, .int .u64 m.term, .int .u64 m.index, .int .u64 m.prev, .int .u64 m.commit, .int .u64 m.mark, .bool m.yes, .slice ad n cp, .string m.snap] 35)).heap.size = w.heap.size + 1 := by simp
  rw [hsz] at B2
  have F2 : Hid (Fr [] w w2) := (((Fr.refl _ _).alloc _).alloc _).trans0 g2
  have hlt := B2.lt
  generalize hX : w.heap.size = bx at *
  have HX := Lib.hid hX
  clear hX
  have HB2 := Lib.hid B2
  have HB1 := Lib.hid B1
  have e0 : w2.cell? ⟨bx, 0, none⟩ = some (.int .i64 m.kind) := B1.cellAt (i := 0) rfl
  have e0' : ∀ o, (w2.alloc o).cell? ⟨bx, 0, none⟩ = some (.int .i64 m.kind) := fun o => (B1.alloc o).cellAt (i := 0) rfl
  have q0 : w2.cell? ⟨bx + 1, 0, none⟩ = some (.int .i64 0) := B2.cellAt (i := 0) rfl
  have z0 := B2.froz 0
  have q0' : ∀ o, (w2.alloc o).cell? ⟨bx + 1, 0, none⟩ = some (.int .i64 0) := fun o => (B2.alloc o).cellAt (i := 0) rfl
  have z0' : ∀ o, (w2.alloc o).frozen? ⟨bx + 1, 0, none⟩ = false := fun o => (B2.alloc o).froz 0
  have e1 : w2.cell? ⟨bx, 1, none⟩ = some (.int .i64 m.sent) := B1.cellAt (i := 1) rfl
  have e1' : ∀ o, (w2.alloc o).cell? ⟨bx, 1, none⟩ = some (.int .i64 m.sent) := fun o => (B1.alloc o).cellAt (i := 1) rfl
  have q1 : w2.cell? ⟨bx + 1, 1, none⟩ = some (.int .i64 0) := B2.cellAt (i := 1) rfl
  have z1 := B2.froz 1
  have q1' : ∀ o, (w2.alloc o).cell? ⟨bx + 1, 1, none⟩ = some (.int .i64 0) := fun o => (B2.alloc o).cellAt (i := 1) rfl
  have z1' : ∀ o, (w2.alloc o).frozen? ⟨bx + 1, 1, none⟩ = false := fun o => (B2.alloc o).froz 1
  have e2 : w2.cell? ⟨bx, 2, none⟩ = some (.int .i64 m.goal) := B1.cellAt (i := 2) rfl
  have e2' : ∀ o, (w2.alloc o).cell? ⟨bx, 2, none⟩ = some (.int .i64 m.goal) := fun o => (B1.alloc o).cellAt (i := 2) rfl
  have q2 : w2.cell? ⟨bx + 1, 2, none⟩ = some (.int .i64 0) := B2.cellAt (i := 2) rfl
  have z2 := B2.froz 2
  have q2' : ∀ o, (w2.alloc o).cell? ⟨bx + 1, 2, none⟩ = some (.int .i64 0) := fun o => (B2.alloc o).cellAt (i := 2) rfl
  have z2' : ∀ o, (w2.alloc o).frozen? ⟨bx + 1, 2, none⟩ = false := fun o => (B2.alloc o).froz 2
  have e3 : w2.cell? ⟨bx, 3, none⟩ = some (.int .u64 m.term) := B1.cellAt (i := 3) rfl
  have e3' : ∀ o, (w2.alloc o).cell? ⟨bx, 3, none⟩ = some (.int .u64 m.term) := fun o => (B1.alloc o).cellAt (i := 3) rfl
  have q3 : w2.cell? ⟨bx + 1, 3, none⟩ = some (.int .u64 0) := B2.cellAt (i := 3) rfl
  have z3 := B2.froz 3
  have q3' : ∀ o, (w2.alloc o).cell? ⟨bx + 1, 3, none⟩ = some (.int .u64 0) := fun o => (B2.alloc o).cellAt (i := 3) rfl
  have z3' : ∀ o, (w2.alloc o).frozen? ⟨bx + 1, 3, none⟩ = false := fun o => (B2.alloc o).froz 3
  have e4 : w2.cell? ⟨bx, 4, none⟩ = some (.int .u64 m.index) := B1.cellAt (i := 4) rfl
  have e4' : ∀ o, (w2.alloc o).cell? ⟨bx, 4, none⟩ = some (.int .u64 m.index) := fun o => (B1.alloc o).cellAt (i := 4) rfl
  have q4 : w2.cell? ⟨bx + 1, 4, none⟩ = some (.int .u64 0) := B2.cellAt (i := 4) rfl
  have z4 := B2.froz 4
  have q4' : ∀ o, (w2.alloc o).cell? ⟨bx + 1, 4, none⟩ = some (.int .u64 0) := fun o => (B2.alloc o).cellAt (i := 4) rfl
  have z4' : ∀ o, (w2.alloc o).frozen? ⟨bx + 1, 4, none⟩ = false := fun o => (B2.alloc o).froz 4
  have e5 : w2.cell? ⟨bx, 5, none⟩ = some (.int .u64 m.prev) := B1.cellAt (i := 5) rfl
  have e5' : ∀ o, (w2.alloc o).cell? ⟨bx, 5, none⟩ = some (.int .u64 m.prev) := fun o => (B1.alloc o).cellAt (i := 5) rfl
  have q5 : w2.cell? ⟨bx + 1, 5, none⟩ = some (.int .u64 0) := B2.cellAt (i := 5) rfl
  have z5 := B2.froz 5
  have q5' : ∀ o, (w2.alloc o).cell? ⟨bx + 1, 5, none⟩ = some (.int .u64 0) := fun o => (B2.alloc o).cellAt (i := 5) rfl
  have z5' : ∀ o, (w2.alloc o).frozen? ⟨bx + 1, 5, none⟩ = false := fun o => (B2.alloc o).froz 5
  have e6 : w2.cell? ⟨bx, 6, none⟩ = some (.int .u64 m.commit) := B1.cellAt (i := 6) rfl
  have e6' : ∀ o, (w2.alloc o).cell? ⟨bx, 6, none⟩ = some (.int .u64 m.commit) := fun o => (B1.alloc o).cellAt (i := 6) rfl
  have q6 : w2.cell? ⟨bx + 1, 6, none⟩ = some (.int .u64 0) := B2.cellAt (i := 6) rfl
  have z6 := B2.froz 6
  have q6' : ∀ o, (w2.alloc o).cell? ⟨bx + 1, 6, none⟩ = some (.int .u64 0) := fun o => (B2.alloc o).cellAt (i := 6) rfl
  have z6' : ∀ o, (w2.alloc o).frozen? ⟨bx + 1, 6, none⟩ = false := fun o => (B2.alloc o).froz 6
  have e7 : w2.cell? ⟨bx, 7, none⟩ = some (.int .u64 m.mark) := B1.cellAt (i := 7) rfl
  have e7' : ∀ o, (w2.alloc o).cell? ⟨bx, 7, none⟩ = some (.int .u64 m.mark) := fun o => (B1.alloc o).cellAt (i := 7) rfl
  have q7 : w2.cell? ⟨bx + 1, 7, none⟩ = some (.int .u64 0) := B2.cellAt (i := 7) rfl
  have z7 := B2.froz 7
  have q7' : ∀ o, (w2.alloc o).cell? ⟨bx + 1, 7, none⟩ = some (.int .u64 0) := fun o => (B2.alloc o).cellAt (i := 7) rfl
  have z7' : ∀ o, (w2.alloc o).frozen? ⟨bx + 1, 7, none⟩ = false := fun o => (B2.alloc o).froz 7
  have e8 : w2.cell? ⟨bx, 8, none⟩ = some (.bool m.yes) := B1.cellAt (i := 8) rfl
  have e8' : ∀ o, (w2.alloc o).cell? ⟨bx, 8, none⟩ = some (.bool m.yes) := fun o => (B1.alloc o).cellAt (i := 8) rfl
  have q8 : w2.cell? ⟨bx + 1, 8, none⟩ = some (.bool false) := B2.cellAt (i := 8) rfl
  have z8 := B2.froz 8
  have q8' : ∀ o, (w2.alloc o).cell? ⟨bx + 1, 8, none⟩ = some (.bool false) := fun o => (B2.alloc o).cellAt (i := 8) rfl
  have z8' : ∀ o, (w2.alloc o).frozen? ⟨bx + 1, 8, none⟩ = false := fun o => (B2.alloc o).froz 8
  have e9 : w2.cell? ⟨bx, 9, none⟩ = some (.slice ad n cp) := B1.cellAt (i := 9) rfl
  have e9' : ∀ o, (w2.alloc o).cell? ⟨bx, 9, none⟩ = some (.slice ad n cp) := fun o => (B1.alloc o).cellAt (i := 9) rfl
  have q9 : w2.cell? ⟨bx + 1, 9, none⟩ = some (.slice none 0 0) := B2.cellAt (i := 9) rfl
  have z9 := B2.froz 9
  have q9' : ∀ o, (w2.alloc o).cell? ⟨bx + 1, 9, none⟩ = some (.slice none 0 0) := fun o => (B2.alloc o).cellAt (i := 9) rfl
  have z9' : ∀ o, (w2.alloc o).frozen? ⟨bx + 1, 9, none⟩ = false := fun o => (B2.alloc o).froz 9
  have e10 : w2.cell? ⟨bx, 10, none⟩ = some (.string m.snap) := B1.cellAt (i := 10) rfl
  have e10' : ∀ o, (w2.alloc o).cell? ⟨bx, 10, none⟩ = some (.string m.snap) := fun o => (B1.alloc o).cellAt (i := 10) rfl
  have q10 : w2.cell? ⟨bx + 1, 10, none⟩ = some (.string ⟨#[]⟩) := B2.cellAt (i := 10) rfl
  have z10 := B2.froz 10
  have q10' : ∀ o, (w2.alloc o).cell? ⟨bx + 1, 10, none⟩ = some (.string ⟨#[]⟩) := fun o => (B2.alloc o).cellAt (i := 10) rfl
  have z10' : ∀ o, (w2.alloc o).frozen? ⟨bx + 1, 10, none⟩ = false := fun o => (B2.alloc o).froz 10
  have hl1 : bx < w2.heap.size := by omega
  clear B1 B2 g2 HM HL hsz
  go_wp2_with fail
  have BF : Hid (Blk (((((((((((w2.setCell ⟨bx + 1, 0, none⟩ (.int .i64 0)).setCell ⟨bx + 1, 1, none⟩ (.int .i64 0)).setCell ⟨bx + 1, 2, none⟩ (.int .i64 0)).setCell ⟨bx + 1, 3, none⟩ (.int .u64 0)).setCell ⟨bx + 1, 4, none⟩ (.int .u64 0)).setCell ⟨bx + 1, 5, none⟩ (.int .u64 0)).setCell ⟨bx + 1, 6, none⟩ (.int .u64 0)).setCell ⟨bx + 1, 7, none⟩ (.int .u64 0)).setCell ⟨bx + 1, 8, none⟩ (.bool false)).setCell ⟨bx + 1, 9, none⟩ (.slice none 0 0)).setCell ⟨bx + 1, 10, none⟩ (.string ⟨#[]⟩)) (bx + 1) #[.int .i64 0, .int .i64 0, .int .i64 0, .int .u64 0, .int .u64 0, .int .u64 0, .int .u64 0, .int .u64 0, .bool false, .slice none 0 0, .string ⟨#[]⟩] 35) := (Blk.put11 HB2.out (.int .i64 0) (.int .i64 0) (.int .i64 0) (.int .u64 0) (.int .u64 0) (.int .u64 0) (.int .u64 0) (.int .u64 0) (.bool false) (.slice none 0 0) (.string ⟨#[]⟩))
  have FF : Hid (Fr [] w (((((((((((w2.setCell ⟨bx + 1, 0, none⟩ (.int .i64 0)).setCell ⟨bx + 1, 1, none⟩ (.int .i64 0)).setCell ⟨bx + 1, 2, none⟩ (.int .i64 0)).setCell ⟨bx + 1, 3, none⟩ (.int .u64 0)).setCell ⟨bx + 1, 4, none⟩ (.int .u64 0)).setCell ⟨bx + 1, 5, none⟩ (.int .u64 0)).setCell ⟨bx + 1, 6, none⟩ (.int .u64 0)).setCell ⟨bx + 1, 7, none⟩ (.int .u64 0)).setCell ⟨bx + 1, 8, none⟩ (.bool false)).setCell ⟨bx + 1, 9, none⟩ (.slice none 0 0)).setCell ⟨bx + 1, 10, none⟩ (.string ⟨#[]⟩))) := (((((((((((F2.out.setCell (.inr (by have := HX.out; show w.heap.size ≤ bx + 1; omega)) (.int .i64 0)).setCell (.inr (by have := HX.out; show w.heap.size ≤ bx + 1; omega)) (.int .i64 0)).setCell (.inr (by have := HX.out; show w.heap.size ≤ bx + 1; omega)) (.int .i64 0)).setCell (.inr (by have := HX.out; show w.heap.size ≤ bx + 1; omega)) (.int .u64 0)).setCell (.inr (by have := HX.out; show w.heap.size ≤ bx + 1; omega)) (.int .u64 0)).setCell (.inr (by have := HX.out; show w.heap.size ≤ bx + 1; omega)) (.int .u64 0)).setCell (.inr (by have := HX.out; show w.heap.size ≤ bx + 1; omega)) (.int .u64 0)).setCell (.inr (by have := HX.out; show w.heap.size ≤ bx + 1; omega)) (.int .u64 0)).setCell (.inr (by have := HX.out; show w.heap.size ≤ bx + 1; omega)) (.bool false)).setCell (.inr (by have := HX.out; show w.heap.size ≤ bx + 1; omega)) (.slice none 0 0)).setCell (.inr (by have := HX.out; show w.heap.size ≤ bx + 1; omega)) (.string ⟨#[]⟩))
  clear e0 e0' q0 z0 q0' z0'
  clear e1 e1' q1 z1 q1' z1'
  clear e2 e2' q2 z2 q2' z2'
  clear e3 e3' q3 z3 q3' z3'
  clear e4 e4' q4 z4 q4' z4'
  clear e5 e5' q5 z5 q5' z5'
  clear e6 e6' q6 z6 q6' z6'
  clear e7 e7' q7 z7 q7' z7'
  clear e8 e8' q8 z8 q8' z8'
  clear e9 e9' q9 z9 q9' z9'
  clear e10 e10' q10 z10 q10' z10'
  generalize (((((((((((w2.setCell ⟨bx + 1, 0, none⟩ (.int .i64 0)).setCell ⟨bx + 1, 1, none⟩ (.int .i64 0)).setCell ⟨bx + 1, 2, none⟩ (.int .i64 0)).setCell ⟨bx + 1, 3, none⟩ (.int .u64 0)).setCell ⟨bx + 1, 4, none⟩ (.int .u64 0)).setCell ⟨bx + 1, 5, none⟩ (.int .u64 0)).setCell ⟨bx + 1, 6, none⟩ (.int .u64 0)).setCell ⟨bx + 1, 7, none⟩ (.int .u64 0)).setCell ⟨bx + 1, 8, none⟩ (.bool false)).setCell ⟨bx + 1, 9, none⟩ (.slice none 0 0)).setCell ⟨bx + 1, 10, none⟩ (.string ⟨#[]⟩)) = W at *
  have BF' := BF.out
  have y0 : W.cell? ⟨bx + 1, 0, none⟩ = some (.int .i64 0) := BF'.cellAt (i := 0) rfl
  have y1 : W.cell? ⟨bx + 1, 1, none⟩ = some (.int .i64 0) := BF'.cellAt (i := 1) rfl
  have y2 : W.cell? ⟨bx + 1, 2, none⟩ = some (.int .i64 0) := BF'.cellAt (i := 2) rfl
  have y3 : W.cell? ⟨bx + 1, 3, none⟩ = some (.int .u64 0) := BF'.cellAt (i := 3) rfl
  have y4 : W.cell? ⟨bx + 1, 4, none⟩ = some (.int .u64 0) := BF'.cellAt (i := 4) rfl
  have y5 : W.cell? ⟨bx + 1, 5, none⟩ = some (.int .u64 0) := BF'.cellAt (i := 5) rfl
  have y6 : W.cell? ⟨bx + 1, 6, none⟩ = some (.int .u64 0) := BF'.cellAt (i := 6) rfl
  have y7 : W.cell? ⟨bx + 1, 7, none⟩ = some (.int .u64 0) := BF'.cellAt (i := 7) rfl
  have y8 : W.cell? ⟨bx + 1, 8, none⟩ = some (.bool false) := BF'.cellAt (i := 8) rfl
  have y9 : W.cell? ⟨bx + 1, 9, none⟩ = some (.slice none 0 0) := BF'.cellAt (i := 9) rfl
  have y10 : W.cell? ⟨bx + 1, 10, none⟩ = some (.string ⟨#[]⟩) := BF'.cellAt (i := 10) rfl
  refine bodyPost_ret (v := .tuple #[.agg #[.int .i64 0, .int .i64 0, .int .i64 0, .int .u64 0, .int .u64 0, .int .u64 0, .int .u64 0, .int .u64 0, .bool false, .slice none 0 0, .string ⟨#[]⟩], .bool false]) ?_ rfl ⟨rfl, FF.out⟩
  simp [results, Try.results18, go_sem, y0, y1, y2, y3, y4, y5, y6, y7, y8, y9, y10]

end Go.Proofs.Ytacdbglocpaeaaa

namespace Go.Proofs.Ytacdbglocpaeaaa
open Go.RowKit

set_option maxRecDepth 100000 in
set_option maxHeartbeats 4000000 in
theorem rShimP (m : Msg) (ad : Option Addr) (n cp : Nat) (w : World) (hf : m.Fits) (hv : Ents w (.slice ad n cp) m.ents) (hok : m.ok = true) (h9 : m.kind = 9) : Calls Try.prog 18 #[.agg #[.int .i64 m.kind, .int .i64 m.sent, .int .i64 m.goal, .int .u64 m.term, .int .u64 m.index, .int .u64 m.prev, .int .u64 m.commit, .int .u64 m.mark, .bool m.yes, .slice ad n cp, .string m.snap]] w fun r w' => r = .returned (.tuple #[.agg #[.int .i64 5, .int .i64 m.sent, .int .i64 m.goal, .int .u64 m.term, .int .u64 0, .int .u64 0, .int .u64 0, .int .u64 m.mark, .bool false, .slice none 0 0, .string ⟨#[]⟩], .bool true]) ∧ Fr [] w w' := by
  have HM := Lib.hid (fun w' (hv : Ents w' (.slice ad n cp) m.ents) => rMsgRight m (.slice ad n cp) w' hf hv)
  have HL := Lib.hid (fun w' (hv : Ents w' (.slice ad n cp) m.ents) => rMsgLevel m (.slice ad n cp) w' hf hv)
  have HV := Lib.hid hv
  clear hv hf
  unfold Msg.cells at HM HL
  rw [hok] at HM
  have k9 : (m.kind == 9) = true := by simpa using h9
  clear h9
  go_enter Try.func18, Try.ntmps18
  go_wp2_with fail
  refine (HM.out _ (HV.out.fr0 (((Fr.refl _ _).alloc _).alloc _))).mono ?_
  rintro r w2 ⟨rfl, g2⟩
  have B1 := Blk.fr0 ((Blk.new w #[.int .i64 m.kind, .int .i64 m.sent, .int .i64 m.goal, .int .u64 m.term, .int .u64 m.index, .int .u64 m.prev, .int .u64 m.commit, .int .u64 m.mark, .bool m.yes, .slice ad n cp, .string m.snap] 35).alloc _) g2
  have B2 := Blk.fr0 (Blk.new (w.alloc (.cells #[.int .i64 m.kind, .int .i64 m.sent, .int .i64 m.goal, .int .u64 m.term, .int .u64 m.index, .int .u64 m.prev, .int .u64 m.commit, .int .u64 m.mark, .bool m.yes, .slice ad n cp, .string m.snap] 35)) #[.int .i64 0, .int .i64 0, .int .i64 0, .int .u64 0, .int .u64 0, .int .u64 0, .int .u64 0, .int .u64 0, .bool false, .slice none 0 0, .string ⟨#[]⟩] 35) g2
  have hsz : (w.alloc (.cells #[.int .i64 m.kind, .int .i64 m.sent, .int .i64 m.goal, .int .u64 m.term, .int .u64 m.index, .int .u64 m.prev, .int .u64 m.commit, .int .u64 m.mark, .bool m.yes, .slice ad n cp, .string m.snap] 35)).heap.size = w.heap.size + 1 := by simp
  rw [hsz] at B2
  have F2 : Hid (Fr [] w w2) := (((Fr.refl _ _).alloc _).alloc _).trans0 g2
  have hlt := B2.lt
  generalize hX : w.heap.size = bx at *
  have HX := Lib.hid hX
  clear hX
  have HB2 := Lib.hid B2
  have HB1 := Lib.hid B1
  have e0 : w2.cell? ⟨bx, 0, none⟩ = some (.int .i64 m.kind) := B1.cellAt (i := 0) rfl
  have e0' : ∀ o, (w2.alloc o).cell? ⟨bx, 0, none⟩ = some (.int .i64 m.kind) := fun o => (B1.alloc o).cellAt (i := 0) rfl
  have q0 : w2.cell? ⟨bx + 1, 0, none⟩ = some (.int .i64 0) := B2.cellAt (i := 0) rfl
  have z0 := B2.froz 0
  have q0' : ∀ o, (w2.alloc o).cell? ⟨bx + 1, 0, none⟩ = some (.int .i64 0) := fun o => (B2.alloc o).cellAt (i := 0) rfl
  have z0' : ∀ o, (w2.alloc o).frozen? ⟨bx + 1, 0, none⟩ = false := fun o => (B2.alloc o).froz 0
  have e1 : w2.cell? ⟨bx, 1, none⟩ = some (.int .i64 m.sent) := B1.cellAt (i := 1) rfl
  have e1' : ∀ o, (w2.alloc o).cell? ⟨bx, 1, none⟩ = some (.int .i64 m.sent) := fun o => (B1.alloc o).cellAt (i := 1) rfl
  have q1 : w2.cell? ⟨bx + 1, 1, none⟩ = some (.int .i64 0) := B2.cellAt (i := 1) rfl
  have z1 := B2.froz 1
  have q1' : ∀ o, (w2.alloc o).cell? ⟨bx + 1, 1, none⟩ = some (.int .i64 0) := fun o => (B2.alloc o).cellAt (i := 1) rfl
  have z1' : ∀ o, (w2.alloc o).frozen? ⟨bx + 1, 1, none⟩ = false := fun o => (B2.alloc o).froz 1
  have e2 : w2.cell? ⟨bx, 2, none⟩ = some (.int .i64 m.goal) := B1.cellAt (i := 2) rfl
  have e2' : ∀ o, (w2.alloc o).cell? ⟨bx, 2, none⟩ = some (.int .i64 m.goal) := fun o => (B1.alloc o).cellAt (i := 2) rfl
  have q2 : w2.cell? ⟨bx + 1, 2, none⟩ = some (.int .i64 0) := B2.cellAt (i := 2) rfl
  have z2 := B2.froz 2
  have q2' : ∀ o, (w2.alloc o).cell? ⟨bx + 1, 2, none⟩ = some (.int .i64 0) := fun o => (B2.alloc o).cellAt (i := 2) rfl
  have z2' : ∀ o, (w2.alloc o).frozen? ⟨bx + 1, 2, none⟩ = false := fun o => (B2.alloc o).froz 2
  have e3 : w2.cell? ⟨bx, 3, none⟩ = some (.int .u64 m.term) := B1.cellAt (i := 3) rfl
  have e3' : ∀ o, (w2.alloc o).cell? ⟨bx, 3, none⟩ = some (.int .u64 m.term) := fun o => (B1.alloc o).cellAt (i := 3) rfl
  have q3 : w2.cell? ⟨bx + 1, 3, none⟩ = some (.int .u64 0) := B2.cellAt (i := 3) rfl
  have z3 := B2.froz 3
  have q3' : ∀ o, (w2.alloc o).cell? ⟨bx + 1, 3, none⟩ = some (.int .u64 0) := fun o => (B2.alloc o).cellAt (i := 3) rfl
  have z3' : ∀ o, (w2.alloc o).frozen? ⟨bx + 1, 3, none⟩ = false := fun o => (B2.alloc o).froz 3
  have e4 : w2.cell? ⟨bx, 4, none⟩ = some (.int .u64 m.index) := B1.cellAt (i := 4) rfl
  have e4' : ∀ o, (w2.alloc o).cell? ⟨bx, 4, none⟩ = some (.int .u64 m.index) := fun o => (B1.alloc o).cellAt (i := 4) rfl
  have q4 : w2.cell? ⟨bx + 1, 4, none⟩ = some (.int .u64 0) := B2.cellAt (i := 4) rfl
  have z4 := B2.froz 4
  have q4' : ∀ o, (w2.alloc o).cell? ⟨bx + 1, 4, none⟩ = some (.int .u64 0) := fun o => (B2.alloc o).cellAt (i := 4) rfl
  have z4' : ∀ o, (w2.alloc o).frozen? ⟨bx + 1, 4, none⟩ = false := fun o => (B2.alloc o).froz 4
  have e5 : w2.cell? ⟨bx, 5, none⟩ = some (.int .u64 m.prev) := B1.cellAt (i := 5) rfl
  have e5' : ∀ o, (w2.alloc o).cell? ⟨bx, 5, none⟩ = some (.int .u64 m.prev) := fun o => (B1.alloc o).cellAt (i := 5) rfl
  have q5 : w2.cell? ⟨bx + 1, 5, none⟩ = some (.int .u64 0) := B2.cellAt (i := 5) rfl
  have z5 := B2.froz 5
  have q5' : ∀ o, (w2.alloc o).cell? ⟨bx + 1, 5, none⟩ = some (.int .u64 0) := fun o => (B2.alloc o).cellAt (i := 5) rfl
  have z5' : ∀ o, (w2.alloc o).frozen? ⟨bx + 1, 5, none⟩ = false := fun o => (B2.alloc o).froz 5
  have e6 : w2.cell? ⟨bx, 6, none⟩ = some (.int .u64 m.commit) := B1.cellAt (i := 6) rfl
  have e6' : ∀ o, (w2.alloc o).cell? ⟨bx, 6, none⟩ = some (.int .u64 m.commit) := fun o => (B1.alloc o).cellAt (i := 6) rfl
  have q6 : w2.cell? ⟨bx + 1, 6, none⟩ = some (.int .u64 0) := B2.cellAt (i := 6) rfl
  have z6 := B2.froz 6
  have q6' : ∀ o, (w2.alloc o).cell? ⟨bx + 1, 6, none⟩ = some (.int .u64 0) := fun o => (B2.alloc o).cellAt (i := 6) rfl
  have z6' : ∀ o, (w2.alloc o).frozen? ⟨bx + 1, 6, none⟩ = false := fun o => (B2.alloc o).froz 6
  have e7 : w2.cell? ⟨bx, 7, none⟩ = some (.int .u64 m.mark) := B1.cellAt (i := 7) rfl
  have e7' : ∀ o, (w2.alloc o).cell? ⟨bx, 7, none⟩ = some (.int .u64 m.mark) := fun o => (B1.alloc o).cellAt (i := 7) rfl
  have q7 : w2.cell? ⟨bx + 1, 7, none⟩ = some (.int .u64 0) := B2.cellAt (i := 7) rfl
  have z7 := B2.froz 7
  have q7' : ∀ o, (w2.alloc o).cell? ⟨bx + 1, 7, none⟩ = some (.int .u64 0) := fun o => (B2.alloc o).cellAt (i := 7) rfl
  have z7' : ∀ o, (w2.alloc o).frozen? ⟨bx + 1, 7, none⟩ = false := fun o => (B2.alloc o).froz 7
  have e8 : w2.cell? ⟨bx, 8, none⟩ = some (.bool m.yes) := B1.cellAt (i := 8) rfl
  have e8' : ∀ o, (w2.alloc o).cell? ⟨bx, 8, none⟩ = some (.bool m.yes) := fun o => (B1.alloc o).cellAt (i := 8) rfl
  have q8 : w2.cell? ⟨bx + 1, 8, none⟩ = some (.bool false) := B2.cellAt (i := 8) rfl
  have z8 := B2.froz 8
  have q8' : ∀ o, (w2.alloc o).cell? ⟨bx + 1, 8, none⟩ = some (.bool false) := fun o => (B2.alloc o).cellAt (i := 8) rfl
  have z8' : ∀ o, (w2.alloc o).frozen? ⟨bx + 1, 8, none⟩ = false := fun o => (B2.alloc o).froz 8
  have e9 : w2.cell? ⟨bx, 9, none⟩ = some (.slice ad n cp) := B1.cellAt (i := 9) rfl
  have e9' : ∀ o, (w2.alloc o).cell? ⟨bx, 9, none⟩ = some (.slice ad n cp) := fun o => (B1.alloc o).cellAt (i := 9) rfl
  have q9 : w2.cell? ⟨bx + 1, 9, none⟩ = some (.slice none 0 0) := B2.cellAt (i := 9) rfl
  have z9 := B2.froz 9
  have q9' : ∀ o, (w2.alloc o).cell? ⟨bx + 1, 9, none⟩ = some (.slice none 0 0) := fun o => (B2.alloc o).cellAt (i := 9) rfl
  have z9' : ∀ o, (w2.alloc o).frozen? ⟨bx + 1, 9, none⟩ = false := fun o => (B2.alloc o).froz 9
  have e10 : w2.cell? ⟨bx, 10, none⟩ = some (.string m.snap) := B1.cellAt (i := 10) rfl
  have e10' : ∀ o, (w2.alloc o).cell? ⟨bx, 10, none⟩ = some (.string m.snap) := fun o => (B1.alloc o).cellAt (i := 10) rfl
  have q10 : w2.cell? ⟨bx + 1, 10, none⟩ = some (.string ⟨#[]⟩) := B2.cellAt (i := 10) rfl
  have z10 := B2.froz 10
  have q10' : ∀ o, (w2.alloc o).cell? ⟨bx + 1, 10, none⟩ = some (.string ⟨#[]⟩) := fun o => (B2.alloc o).cellAt (i := 10) rfl
  have z10' : ∀ o, (w2.alloc o).frozen? ⟨bx + 1, 10, none⟩ = false := fun o => (B2.alloc o).froz 10
  have hl1 : bx < w2.heap.size := by omega
  clear B1 B2 g2 HM HL hsz
  go_wp2_with fail
  have BF : Hid (Blk (((((((((((w2.setCell ⟨bx + 1, 0, none⟩ (.int .i64 5)).setCell ⟨bx + 1, 1, none⟩ (.int .i64 m.sent)).setCell ⟨bx + 1, 2, none⟩ (.int .i64 m.goal)).setCell ⟨bx + 1, 3, none⟩ (.int .u64 m.term)).setCell ⟨bx + 1, 4, none⟩ (.int .u64 0)).setCell ⟨bx + 1, 5, none⟩ (.int .u64 0)).setCell ⟨bx + 1, 6, none⟩ (.int .u64 0)).setCell ⟨bx + 1, 7, none⟩ (.int .u64 m.mark)).setCell ⟨bx + 1, 8, none⟩ (.bool false)).setCell ⟨bx + 1, 9, none⟩ (.slice none 0 0)).setCell ⟨bx + 1, 10, none⟩ (.string ⟨#[]⟩)) (bx + 1) #[.int .i64 5, .int .i64 m.sent, .int .i64 m.goal, .int .u64 m.term, .int .u64 0, .int .u64 0, .int .u64 0, .int .u64 m.mark, .bool false, .slice none 0 0, .string ⟨#[]⟩] 35) := (Blk.put11 HB2.out (.int .i64 5) (.int .i64 m.sent) (.int .i64 m.goal) (.int .u64 m.term) (.int .u64 0) (.int .u64 0) (.int .u64 0) (.int .u64 m.mark) (.bool false) (.slice none 0 0) (.string ⟨#[]⟩))
  have FF : Hid (Fr [] w (((((((((((w2.setCell ⟨bx + 1, 0, none⟩ (.int .i64 5)).setCell ⟨bx + 1, 1, none⟩ (.int .i64 m.sent)).setCell ⟨bx + 1, 2, none⟩ (.int .i64 m.goal)).setCell ⟨bx + 1, 3, none⟩ (.int .u64 m.term)).setCell ⟨bx + 1, 4, none⟩ (.int .u64 0)).setCell ⟨bx + 1, 5, none⟩ (.int .u64 0)).setCell ⟨bx + 1, 6, none⟩ (.int .u64 0)).setCell ⟨bx + 1, 7, none⟩ (.int .u64 m.mark)).setCell ⟨bx + 1, 8, none⟩ (.bool false)).setCell ⟨bx + 1, 9, none⟩ (.slice none 0 0)).setCell ⟨bx + 1, 10, none⟩ (.string ⟨#[]⟩))) := (((((((((((F2.out.setCell (.inr (by have := HX.out; show w.heap.size ≤ bx + 1; omega)) (.int .i64 5)).setCell (.inr (by have := HX.out; show w.heap.size ≤ bx + 1; omega)) (.int .i64 m.sent)).setCell (.inr (by have := HX.out; show w.heap.size ≤ bx + 1; omega)) (.int .i64 m.goal)).setCell (.inr (by have := HX.out; show w.heap.size ≤ bx + 1; omega)) (.int .u64 m.term)).setCell (.inr (by have := HX.out; show w.heap.size ≤ bx + 1; omega)) (.int .u64 0)).setCell (.inr (by have := HX.out; show w.heap.size ≤ bx + 1; omega)) (.int .u64 0)).setCell (.inr (by have := HX.out; show w.heap.size ≤ bx + 1; omega)) (.int .u64 0)).setCell (.inr (by have := HX.out; show w.heap.size ≤ bx + 1; omega)) (.int .u64 m.mark)).setCell (.inr (by have := HX.out; show w.heap.size ≤ bx + 1; omega)) (.bool false)).setCell (.inr (by have := HX.out; show w.heap.size ≤ bx + 1; omega)) (.slice none 0 0)).setCell (.inr (by have := HX.out; show w.heap.size ≤ bx + 1; omega)) (.string ⟨#[]⟩))
  clear e0 e0' q0 z0 q0' z0'
  clear e1 e1' q1 z1 q1' z1'
  clear e2 e2' q2 z2 q2' z2'
  clear e3 e3' q3 z3 q3' z3'
  clear e4 e4' q4 z4 q4' z4'
  clear e5 e5' q5 z5 q5' z5'
  clear e6 e6' q6 z6 q6' z6'
  clear e7 e7' q7 z7 q7' z7'
  clear e8 e8' q8 z8 q8' z8'
  clear e9 e9' q9 z9 q9' z9'
  clear e10 e10' q10 z10 q10' z10'
  generalize (((((((((((w2.setCell ⟨bx + 1, 0, none⟩ (.int .i64 5)).setCell ⟨bx + 1, 1, none⟩ (.int .i64 m.sent)).setCell ⟨bx + 1, 2, none⟩ (.int .i64 m.goal)).setCell ⟨bx + 1, 3, none⟩ (.int .u64 m.term)).setCell ⟨bx + 1, 4, none⟩ (.int .u64 0)).setCell ⟨bx + 1, 5, none⟩ (.int .u64 0)).setCell ⟨bx + 1, 6, none⟩ (.int .u64 0)).setCell ⟨bx + 1, 7, none⟩ (.int .u64 m.mark)).setCell ⟨bx + 1, 8, none⟩ (.bool false)).setCell ⟨bx + 1, 9, none⟩ (.slice none 0 0)).setCell ⟨bx + 1, 10, none⟩ (.string ⟨#[]⟩)) = W at *
  have BF' := BF.out
  have y0 : W.cell? ⟨bx + 1, 0, none⟩ = some (.int .i64 5) := BF'.cellAt (i := 0) rfl
  have y1 : W.cell? ⟨bx + 1, 1, none⟩ = some (.int .i64 m.sent) := BF'.cellAt (i := 1) rfl
  have y2 : W.cell? ⟨bx + 1, 2, none⟩ = some (.int .i64 m.goal) := BF'.cellAt (i := 2) rfl
  have y3 : W.cell? ⟨bx + 1, 3, none⟩ = some (.int .u64 m.term) := BF'.cellAt (i := 3) rfl
  have y4 : W.cell? ⟨bx + 1, 4, none⟩ = some (.int .u64 0) := BF'.cellAt (i := 4) rfl
  have y5 : W.cell? ⟨bx + 1, 5, none⟩ = some (.int .u64 0) := BF'.cellAt (i := 5) rfl
  have y6 : W.cell? ⟨bx + 1, 6, none⟩ = some (.int .u64 0) := BF'.cellAt (i := 6) rfl
  have y7 : W.cell? ⟨bx + 1, 7, none⟩ = some (.int .u64 m.mark) := BF'.cellAt (i := 7) rfl
  have y8 : W.cell? ⟨bx + 1, 8, none⟩ = some (.bool false) := BF'.cellAt (i := 8) rfl
  have y9 : W.cell? ⟨bx + 1, 9, none⟩ = some (.slice none 0 0) := BF'.cellAt (i := 9) rfl
  have y10 : W.cell? ⟨bx + 1, 10, none⟩ = some (.string ⟨#[]⟩) := BF'.cellAt (i := 10) rfl
  refine bodyPost_ret (v := .tuple #[.agg #[.int .i64 5, .int .i64 m.sent, .int .i64 m.goal, .int .u64 m.term, .int .u64 0, .int .u64 0, .int .u64 0, .int .u64 m.mark, .bool false, .slice none 0 0, .string ⟨#[]⟩], .bool true]) ?_ rfl ⟨rfl, FF.out⟩
  simp [results, Try.results18, go_sem, y0, y1, y2, y3, y4, y5, y6, y7, y8, y9, y10]

end Go.Proofs.Ytacdbglocpaeaaa

namespace Go.Proofs.Ytacdbglocpaeaaa
open Go.RowKit

set_option maxRecDepth 100000 in
set_option maxHeartbeats 4000000 in
theorem rShimQ (m : Msg) (ad : Option Addr) (n cp : Nat) (w : World) (hf : m.Fits) (hv : Ents w (.slice ad n cp) m.ents) (hok : m.ok = true) (h10 : m.kind = 10) : Calls Try.prog 18 #[.agg #[.int .i64 m.kind, .int .i64 m.sent, .int .i64 m.goal, .int .u64 m.term, .int .u64 m.index, .int .u64 m.prev, .int .u64 m.commit, .int .u64 m.mark, .bool m.yes, .slice ad n cp, .string m.snap]] w fun r w' => r = .returned (.tuple #[.agg #[.int .i64 6, .int .i64 m.sent, .int .i64 m.goal, .int .u64 m.term, .int .u64 0, .int .u64 0, .int .u64 0, .int .u64 m.mark, .bool true, .slice none 0 0, .string ⟨#[]⟩], .bool true]) ∧ Fr [] w w' := by
  have HM := Lib.hid (fun w' (hv : Ents w' (.slice ad n cp) m.ents) => rMsgRight m (.slice ad n cp) w' hf hv)
  have HL := Lib.hid (fun w' (hv : Ents w' (.slice ad n cp) m.ents) => rMsgLevel m (.slice ad n cp) w' hf hv)
  have HV := Lib.hid hv
  clear hv hf
  unfold Msg.cells at HM HL
  rw [hok] at HM
  have k9 : (m.kind == 9) = false := by rw [h10]; rfl
  have k10 : (m.kind == 10) = true := by simpa using h10
  clear h10
  go_enter Try.func18, Try.ntmps18
  go_wp2_with fail
  refine (HM.out _ (HV.out.fr0 (((Fr.refl _ _).alloc _).alloc _))).mono ?_
  rintro r w2 ⟨rfl, g2⟩
  have B1 := Blk.fr0 ((Blk.new w #[.int .i64 m.kind, .int .i64 m.sent, .int .i64 m.goal, .int .u64 m.term, .int .u64 m.index, .int .u64 m.prev, .int .u64 m.commit, .int .u64 m.mark, .bool m.yes, .slice ad n cp, .string m.snap] 35).alloc _) g2
  have B2 := Blk.fr0 (Blk.new (w.alloc (.cells #[.int .i64 m.kind, .int .i64 m.sent, .int .i64 m.goal, .int .u64 m.term, .int .u64 m.index, .int .u64 m.prev, .int .u64 m.commit, .int .u64 m.mark, .bool m.yes, .slice ad n cp, .string m.snap] 35)) #[.int .i64 0, .int .i64 0, .int .i64 0, .int .u64 0, .int .u64 0, .int .u64 0, .int .u64 0, .int .u64 0, .bool false, .slice none 0 0, .string ⟨#[]⟩] 35) g2
  have hsz : (w.alloc (.cells #[.int .i64 m.kind, .int .i64 m.sent, .int .i64 m.goal, .int .u64 m.term, .int .u64 m.index, .int .u64 m.prev, .int .u64 m.commit, .int .u64 m.mark, .bool m.yes, .slice ad n cp, .string m.snap] 35)).heap.size = w.heap.size + 1 := by simp
  rw [hsz] at B2
  have F2 : Hid (Fr [] w w2) := (((Fr.refl _ _).alloc _).alloc _).trans0 g2
  have hlt := B2.lt
  generalize hX : w.heap.size = bx at *
  have HX := Lib.hid hX
  clear hX
  have HB2 := Lib.hid B2
  have HB1 := Lib.hid B1
  have e0 : w2.cell? ⟨bx, 0, none⟩ = some (.int .i64 m.kind) := B1.cellAt (i := 0) rfl
  have e0' : ∀ o, (w2.alloc o).cell? ⟨bx, 0, none⟩ = some (.int .i64 m.kind) := fun o => (B1.alloc o).cellAt (i := 0) rfl
  have q0 : w2.cell? ⟨bx + 1, 0, none⟩ = some (.int .i64 0) := B2.cellAt (i := 0) rfl
  have z0 := B2.froz 0
  have q0' : ∀ o, (w2.alloc o).cell? ⟨bx + 1, 0, none⟩ = some (.int .i64 0) := fun o => (B2.alloc o).cellAt (i := 0) rfl
  have z0' : ∀ o, (w2.alloc o).frozen? ⟨bx + 1, 0, none⟩ = false := fun o => (B2.alloc o).froz 0
  have e1 : w2.cell? ⟨bx, 1, none⟩ = some (.int .i64 m.sent) := B1.cellAt (i := 1) rfl
  have e1' : ∀ o, (w2.alloc o).cell? ⟨bx, 1, none⟩ = some (.int .i64 m.sent) := fun o => (B1.alloc o).cellAt (i := 1) rfl
  have q1 : w2.cell? ⟨bx + 1, 1, none⟩ = some (.int .i64 0) := B2.cellAt (i := 1) rfl
  have z1 := B2.froz 1
  have q1' : ∀ o, (w2.alloc o).cell? ⟨bx + 1, 1, none⟩ = some (.int .i64 0) := fun o => (B2.alloc o).cellAt (i := 1) rfl
  have z1' : ∀ o, (w2.alloc o).frozen? ⟨bx + 1, 1, none⟩ = false := fun o => (B2.alloc o).froz 1
  have e2 : w2.cell? ⟨bx, 2, none⟩ = some (.int .i64 m.goal) := B1.cellAt (i := 2) rfl
  have e2' : ∀ o, (w2.alloc o).cell? ⟨bx, 2, none⟩ = some (.int .i64 m.goal) := fun o => (B1.alloc o).cellAt (i := 2) rfl
  have q2 : w2.cell? ⟨bx + 1, 2, none⟩ = some (.int .i64 0) := B2.cellAt (i := 2) rfl
  have z2 := B2.froz 2
  have q2' : ∀ o, (w2.alloc o).cell? ⟨bx + 1, 2, none⟩ = some (.int .i64 0) := fun o => (B2.alloc o).cellAt (i := 2) rfl
  have z2' : ∀ o, (w2.alloc o).frozen? ⟨bx + 1, 2, none⟩ = false := fun o => (B2.alloc o).froz 2
  have e3 : w2.cell? ⟨bx, 3, none⟩ = some (.int .u64 m.term) := B1.cellAt (i := 3) rfl
  have e3' : ∀ o, (w2.alloc o).cell? ⟨bx, 3, none⟩ = some (.int .u64 m.term) := fun o => (B1.alloc o).cellAt (i := 3) rfl
  have q3 : w2.cell? ⟨bx + 1, 3, none⟩ = some (.int .u64 0) := B2.cellAt (i := 3) rfl
  have z3 := B2.froz 3
  have q3' : ∀ o, (w2.alloc o).cell? ⟨bx + 1, 3, none⟩ = some (.int .u64 0) := fun o => (B2.alloc o).cellAt (i := 3) rfl
  have z3' : ∀ o, (w2.alloc o).frozen? ⟨bx + 1, 3, none⟩ = false := fun o => (B2.alloc o).froz 3
  have e4 : w2.cell? ⟨bx, 4, none⟩ = some (.int .u64 m.index) := B1.cellAt (i := 4) rfl
  have e4' : ∀ o, (w2.alloc o).cell? ⟨bx, 4, none⟩ = some (.int .u64 m.index) := fun o => (B1.alloc o).cellAt (i := 4) rfl
  have q4 : w2.cell? ⟨bx + 1, 4, none⟩ = some (.int .u64 0) := B2.cellAt (i := 4) rfl
  have z4 := B2.froz 4
  have q4' : ∀ o, (w2.alloc o).cell? ⟨bx + 1, 4, none⟩ = some (.int .u64 0) := fun o => (B2.alloc o).cellAt (i := 4) rfl
  have z4' : ∀ o, (w2.alloc o).frozen? ⟨bx + 1, 4, none⟩ = false := fun o => (B2.alloc o).froz 4
  have e5 : w2.cell? ⟨bx, 5, none⟩ = some (.int .u64 m.prev) := B1.cellAt (i := 5) rfl
  have e5' : ∀ o, (w2.alloc o).cell? ⟨bx, 5, none⟩ = some (.int .u64 m.prev) := fun o => (B1.alloc o).cellAt (i := 5) rfl
  have q5 : w2.cell? ⟨bx + 1, 5, none⟩ = some (.int .u64 0) := B2.cellAt (i := 5) rfl
  have z5 := B2.froz 5
  have q5' : ∀ o, (w2.alloc o).cell? ⟨bx + 1, 5, none⟩ = some (.int .u64 0) := fun o => (B2.alloc o).cellAt (i := 5) rfl
  have z5' : ∀ o, (w2.alloc o).frozen? ⟨bx + 1, 5, none⟩ = false := fun o => (B2.alloc o).froz 5
  have e6 : w2.cell? ⟨bx, 6, none⟩ = some (.int .u64 m.commit) := B1.cellAt (i := 6) rfl
  have e6' : ∀ o, (w2.alloc o).cell? ⟨bx, 6, none⟩ = some (.int .u64 m.commit) := fun o => (B1.alloc o).cellAt (i := 6) rfl
  have q6 : w2.cell? ⟨bx + 1, 6, none⟩ = some (.int .u64 0) := B2.cellAt (i := 6) rfl
  have z6 := B2.froz 6
  have q6' : ∀ o, (w2.alloc o).cell? ⟨bx + 1, 6, none⟩ = some (.int .u64 0) := fun o => (B2.alloc o).cellAt (i := 6) rfl
  have z6' : ∀ o, (w2.alloc o).frozen? ⟨bx + 1, 6, none⟩ = false := fun o => (B2.alloc o).froz 6
  have e7 : w2.cell? ⟨bx, 7, none⟩ = some (.int .u64 m.mark) := B1.cellAt (i := 7) rfl
  have e7' : ∀ o, (w2.alloc o).cell? ⟨bx, 7, none⟩ = some (.int .u64 m.mark) := fun o => (B1.alloc o).cellAt (i := 7) rfl
  have q7 : w2.cell? ⟨bx + 1, 7, none⟩ = some (.int .u64 0) := B2.cellAt (i := 7) rfl
  have z7 := B2.froz 7
  have q7' : ∀ o, (w2.alloc o).cell? ⟨bx + 1, 7, none⟩ = some (.int .u64 0) := fun o => (B2.alloc o).cellAt (i := 7) rfl
  have z7' : ∀ o, (w2.alloc o).frozen? ⟨bx + 1, 7, none⟩ = false := fun o => (B2.alloc o).froz 7
  have e8 : w2.cell? ⟨bx, 8, none⟩ = some (.bool m.yes) := B1.cellAt (i := 8) rfl
  have e8' : ∀ o, (w2.alloc o).cell? ⟨bx, 8, none⟩ = some (.bool m.yes) := fun o => (B1.alloc o).cellAt (i := 8) rfl
  have q8 : w2.cell? ⟨bx + 1, 8, none⟩ = some (.bool false) := B2.cellAt (i := 8) rfl
  have z8 := B2.froz 8
  have q8' : ∀ o, (w2.alloc o).cell? ⟨bx + 1, 8, none⟩ = some (.bool false) := fun o => (B2.alloc o).cellAt (i := 8) rfl
  have z8' : ∀ o, (w2.alloc o).frozen? ⟨bx + 1, 8, none⟩ = false := fun o => (B2.alloc o).froz 8
  have e9 : w2.cell? ⟨bx, 9, none⟩ = some (.slice ad n cp) := B1.cellAt (i := 9) rfl
  have e9' : ∀ o, (w2.alloc o).cell? ⟨bx, 9, none⟩ = some (.slice ad n cp) := fun o => (B1.alloc o).cellAt (i := 9) rfl
  have q9 : w2.cell? ⟨bx + 1, 9, none⟩ = some (.slice none 0 0) := B2.cellAt (i := 9) rfl
  have z9 := B2.froz 9
  have q9' : ∀ o, (w2.alloc o).cell? ⟨bx + 1, 9, none⟩ = some (.slice none 0 0) := fun o => (B2.alloc o).cellAt (i := 9) rfl
  have z9' : ∀ o, (w2.alloc o).frozen? ⟨bx + 1, 9, none⟩ = false := fun o => (B2.alloc o).froz 9
  have e10 : w2.cell? ⟨bx, 10, none⟩ = some (.string m.snap) := B1.cellAt (i := 10) rfl
  have e10' : ∀ o, (w2.alloc o).cell? ⟨bx, 10, none⟩ = some (.string m.snap) := fun o => (B1.alloc o).cellAt (i := 10) rfl
  have q10 : w2.cell? ⟨bx + 1, 10, none⟩ = some (.string ⟨#[]⟩) := B2.cellAt (i := 10) rfl
  have z10 := B2.froz 10
  have q10' : ∀ o, (w2.alloc o).cell? ⟨bx + 1, 10, none⟩ = some (.string ⟨#[]⟩) := fun o => (B2.alloc o).cellAt (i := 10) rfl
  have z10' : ∀ o, (w2.alloc o).frozen? ⟨bx + 1, 10, none⟩ = false := fun o => (B2.alloc o).froz 10
  have hl1 : bx < w2.heap.size := by omega
  clear B1 B2 g2 HM HL hsz
  go_wp2_with fail
  have BF : Hid (Blk (((((((((((w2.setCell ⟨bx + 1, 0, none⟩ (.int .i64 6)).setCell ⟨bx + 1, 1, none⟩ (.int .i64 m.sent)).setCell ⟨bx + 1, 2, none⟩ (.int .i64 m.goal)).setCell ⟨bx + 1, 3, none⟩ (.int .u64 m.term)).setCell ⟨bx + 1, 4, none⟩ (.int .u64 0)).setCell ⟨bx + 1, 5, none⟩ (.int .u64 0)).setCell ⟨bx + 1, 6, none⟩ (.int .u64 0)).setCell ⟨bx + 1, 7, none⟩ (.int .u64 m.mark)).setCell ⟨bx + 1, 8, none⟩ (.bool true)).setCell ⟨bx + 1, 9, none⟩ (.slice none 0 0)).setCell ⟨bx + 1, 10, none⟩ (.string ⟨#[]⟩)) (bx + 1) #[.int .i64 6, .int .i64 m.sent, .int .i64 m.goal, .int .u64 m.term, .int .u64 0, .int .u64 0, .int .u64 0, .int .u64 m.mark, .bool true, .slice none 0 0, .string ⟨#[]⟩] 35) := (Blk.put11 HB2.out (.int .i64 6) (.int .i64 m.sent) (.int .i64 m.goal) (.int .u64 m.term) (.int .u64 0) (.int .u64 0) (.int .u64 0) (.int .u64 m.mark) (.bool true) (.slice none 0 0) (.string ⟨#[]⟩))
  have FF : Hid (Fr [] w (((((((((((w2.setCell ⟨bx + 1, 0, none⟩ (.int .i64 6)).setCell ⟨bx + 1, 1, none⟩ (.int .i64 m.sent)).setCell ⟨bx + 1, 2, none⟩ (.int .i64 m.goal)).setCell ⟨bx + 1, 3, none⟩ (.int .u64 m.term)).setCell ⟨bx + 1, 4, none⟩ (.int .u64 0)).setCell ⟨bx + 1, 5, none⟩ (.int .u64 0)).setCell ⟨bx + 1, 6, none⟩ (.int .u64 0)).setCell ⟨bx + 1, 7, none⟩ (.int .u64 m.mark)).setCell ⟨bx + 1, 8, none⟩ (.bool true)).setCell ⟨bx + 1, 9, none⟩ (.slice none 0 0)).setCell ⟨bx + 1, 10, none⟩ (.string ⟨#[]⟩))) := (((((((((((F2.out.setCell (.inr (by have := HX.out; show w.heap.size ≤ bx + 1; omega)) (.int .i64 6)).setCell (.inr (by have := HX.out; show w.heap.size ≤ bx + 1; omega)) (.int .i64 m.sent)).setCell (.inr (by have := HX.out; show w.heap.size ≤ bx + 1; omega)) (.int .i64 m.goal)).setCell (.inr (by have := HX.out; show w.heap.size ≤ bx + 1; omega)) (.int .u64 m.term)).setCell (.inr (by have := HX.out; show w.heap.size ≤ bx + 1; omega)) (.int .u64 0)).setCell (.inr (by have := HX.out; show w.heap.size ≤ bx + 1; omega)) (.int .u64 0)).setCell (.inr (by have := HX.out; show w.heap.size ≤ bx + 1; omega)) (.int .u64 0)).setCell (.inr (by have := HX.out; show w.heap.size ≤ bx + 1; omega)) (.int .u64 m.mark)).setCell (.inr (by have := HX.out; show w.heap.size ≤ bx + 1; omega)) (.bool true)).setCell (.inr (by have := HX.out; show w.heap.size ≤ bx + 1; omega)) (.slice none 0 0)).setCell (.inr (by have := HX.out; show w.heap.size ≤ bx + 1; omega)) (.string ⟨#[]⟩))
  clear e0 e0' q0 z0 q0' z0'
  clear e1 e1' q1 z1 q1' z1'
  clear e2 e2' q2 z2 q2' z2'
  clear e3 e3' q3 z3 q3' z3'
  clear e4 e4' q4 z4 q4' z4'
  clear e5 e5' q5 z5 q5' z5'
  clear e6 e6' q6 z6 q6' z6'
  clear e7 e7' q7 z7 q7' z7'
  clear e8 e8' q8 z8 q8' z8'
  clear e9 e9' q9 z9 q9' z9'
  clear e10 e10' q10 z10 q10' z10'
  generalize (((((((((((w2.setCell ⟨bx + 1, 0, none⟩ (.int .i64 6)).setCell ⟨bx + 1, 1, none⟩ (.int .i64 m.sent)).setCell ⟨bx + 1, 2, none⟩ (.int .i64 m.goal)).setCell ⟨bx + 1, 3, none⟩ (.int .u64 m.term)).setCell ⟨bx + 1, 4, none⟩ (.int .u64 0)).setCell ⟨bx + 1, 5, none⟩ (.int .u64 0)).setCell ⟨bx + 1, 6, none⟩ (.int .u64 0)).setCell ⟨bx + 1, 7, none⟩ (.int .u64 m.mark)).setCell ⟨bx + 1, 8, none⟩ (.bool true)).setCell ⟨bx + 1, 9, none⟩ (.slice none 0 0)).setCell ⟨bx + 1, 10, none⟩ (.string ⟨#[]⟩)) = W at *
  have BF' := BF.out
  have y0 : W.cell? ⟨bx + 1, 0, none⟩ = some (.int .i64 6) := BF'.cellAt (i := 0) rfl
  have y1 : W.cell? ⟨bx + 1, 1, none⟩ = some (.int .i64 m.sent) := BF'.cellAt (i := 1) rfl
  have y2 : W.cell? ⟨bx + 1, 2, none⟩ = some (.int .i64 m.goal) := BF'.cellAt (i := 2) rfl
  have y3 : W.cell? ⟨bx + 1, 3, none⟩ = some (.int .u64 m.term) := BF'.cellAt (i := 3) rfl
  have y4 : W.cell? ⟨bx + 1, 4, none⟩ = some (.int .u64 0) := BF'.cellAt (i := 4) rfl
  have y5 : W.cell? ⟨bx + 1, 5, none⟩ = some (.int .u64 0) := BF'.cellAt (i := 5) rfl
  have y6 : W.cell? ⟨bx + 1, 6, none⟩ = some (.int .u64 0) := BF'.cellAt (i := 6) rfl
  have y7 : W.cell? ⟨bx + 1, 7, none⟩ = some (.int .u64 m.mark) := BF'.cellAt (i := 7) rfl
  have y8 : W.cell? ⟨bx + 1, 8, none⟩ = some (.bool true) := BF'.cellAt (i := 8) rfl
  have y9 : W.cell? ⟨bx + 1, 9, none⟩ = some (.slice none 0 0) := BF'.cellAt (i := 9) rfl
  have y10 : W.cell? ⟨bx + 1, 10, none⟩ = some (.string ⟨#[]⟩) := BF'.cellAt (i := 10) rfl
  refine bodyPost_ret (v := .tuple #[.agg #[.int .i64 6, .int .i64 m.sent, .int .i64 m.goal, .int .u64 m.term, .int .u64 0, .int .u64 0, .int .u64 0, .int .u64 m.mark, .bool true, .slice none 0 0, .string ⟨#[]⟩], .bool true]) ?_ rfl ⟨rfl, FF.out⟩
  simp [results, Try.results18, go_sem, y0, y1, y2, y3, y4, y5, y6, y7, y8, y9, y10]

end Go.Proofs.Ytacdbglocpaeaaa
