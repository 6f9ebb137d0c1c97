/-
  Texts of this seat, joined: RFs.
-/
import Derived.Test.YtacdbglocpaeaaaRows
import Derived.Test.YtacdbglocpaeaaaZFEx
import Derived.Test.YtacdbglocpaeaaaZRNote
import Derived.Test.YtacdbglocpaeaaaZFSh4
import Derived.Test.YtacdbglocpaeaaaZRSh4
import Derived.Test.YtacdbglocpaeaaaZRMsg
set_option linter.unusedSimpArgs false
set_option linter.unusedVariables false
namespace Go.Proofs.Ytacdbglocpaeaaa.frameShims
open Go.RowKit Go.Proofs.Ytacdbglocpaeaaa

def sM (m : Msg) : Msg := (shimOf m noEnts).1
theorem shim_parts (m : Msg) (v : Value) (w : World) (hf : m.Fits) (hv : Ents w v m.ents) : ∃ (vx : Value), shimOf m v = (sM m, vx, (shimOf m noEnts).2.2) ∧ Ents w vx (sM m).ents := by
  have h0 : Ents w noEnts [] := .inl ⟨rfl, none, 0, rfl⟩
  unfold sM shimOf
  by_cases h1 : m.ok = false
  · simp only [if_pos h1]; exact ⟨_, rfl, h0⟩
  · simp only [if_neg h1]
    by_cases h2 : m.kind = 9
    · simp only [if_pos h2]; exact ⟨_, rfl, h0⟩
    · simp only [if_neg h2]
      by_cases h3 : m.kind = 10
      · simp only [if_pos h3]; exact ⟨_, rfl, h0⟩
      · simp only [if_neg h3]
        by_cases h4 : m.lvl = 2
        · simp only [if_pos h4]; exact ⟨_, rfl, h0⟩
        · simp only [if_neg h4]; exact ⟨_, rfl, hv⟩
theorem U64_0 : U64 0 := by unfold U64; omega
theorem shim_fits (m : Msg) (hf : m.Fits) : (sM m).Fits := by
  obtain ⟨h1, h2, h3, h4, h5, h6, h7, h8⟩ := hf
  have hz : msg0.Fits := ⟨U64_0, U64_0, U64_0, U64_0, U64_0, (fun e he => by cases he), Nat.zero_le _, Nat.zero_le _⟩
  have hb : ∀ k b, (m.bare k b).Fits := fun k b => ⟨h1, U64_0, U64_0, U64_0, h5, (fun e he => by cases he), Nat.zero_le _, Nat.zero_le _⟩
  unfold sM shimOf
  repeat' split
  · exact hz
  · exact hb _ _
  · exact hb _ _
  · exact hz
  · exact ⟨h1, h2, h3, h4, h5, h6, h7, h8⟩

theorem fShim' (m : Msg) (v : Value) (w : World) (hf : m.Fits) (hv : Ents w v m.ents) : Calls Try.prog 16 #[.agg (m.cells v)] w fun r w' => ∃ vx, r = .returned (.tuple #[.agg ((sM m).cells vx), .bool (shimOf m noEnts).2.2]) ∧ Hid (Ents w' vx (sM m).ents) ∧ Hid (Fr [] w w') := by
  refine (fShim m v w hf hv).mono ?_
  rintro r w' ⟨rfl, hfr⟩
  obtain ⟨vx, e, hx⟩ := shim_parts m v w hf hv
  rw [e]
  exact ⟨vx, rfl, hx.fr0 hfr, hfr⟩
theorem rShim' (m : Msg) (v : Value) (w : World) (hf : m.Fits) (hv : Ents w v m.ents) : Calls Try.prog 18 #[.agg (m.cells v)] w fun r w' => ∃ vx, r = .returned (.tuple #[.agg ((sM m).cells vx), .bool (shimOf m noEnts).2.2]) ∧ Hid (Ents w' vx (sM m).ents) ∧ Hid (Fr [] w w') := by
  refine (rShim m v w hf hv).mono ?_
  rintro r w' ⟨rfl, hfr⟩
  obtain ⟨vx, e, hx⟩ := shim_parts m v w hf hv
  rw [e]
  exact ⟨vx, rfl, hx.fr0 hfr, hfr⟩

theorem msg11 {w : World} {b : Nat} {m : Msg} {v : Value} {t : TypeId} (h : Blk w b (m.cells v) t) :
    w.cell? ⟨b, 0, none⟩ = some (.int .i64 m.kind) ∧ w.cell? ⟨b, 1, none⟩ = some (.int .i64 m.sent) ∧ w.cell? ⟨b, 2, none⟩ = some (.int .i64 m.goal) ∧ w.cell? ⟨b, 3, none⟩ = some (.int .u64 m.term) ∧ w.cell? ⟨b, 4, none⟩ = some (.int .u64 m.index) ∧ w.cell? ⟨b, 5, none⟩ = some (.int .u64 m.prev) ∧ w.cell? ⟨b, 6, none⟩ = some (.int .u64 m.commit) ∧ w.cell? ⟨b, 7, none⟩ = some (.int .u64 m.mark) ∧ w.cell? ⟨b, 8, none⟩ = some (.bool m.yes) ∧ w.cell? ⟨b, 9, none⟩ = some v ∧ w.cell? ⟨b, 10, none⟩ = some (.string m.snap) :=
  ⟨h.cellAt (i := 0) rfl, h.cellAt (i := 1) rfl, h.cellAt (i := 2) rfl, h.cellAt (i := 3) rfl, h.cellAt (i := 4) rfl, h.cellAt (i := 5) rfl, h.cellAt (i := 6) rfl, h.cellAt (i := 7) rfl, h.cellAt (i := 8) rfl, h.cellAt (i := 9) rfl, h.cellAt (i := 10) rfl⟩

set_option maxRecDepth 100000 in
set_option maxHeartbeats 8000000 in
theorem walk (m : Msg) (own : Bool) (ad : Option Addr) (n cp : Nat) (l : List Ent) (la : Option Addr) (ln lc : Nat) (w : World) (he : m.Fits) (hv : Ents w (.slice ad n cp) m.ents) (hl : Mrow w la ln l) :
    Calls Try.prog 4 #[.agg #[.int .i64 m.kind, .int .i64 m.sent, .int .i64 m.goal, .int .u64 m.term, .int .u64 m.index, .int .u64 m.prev, .int .u64 m.commit, .int .u64 m.mark, .bool m.yes, .slice ad n cp, .string m.snap, .bool own, .slice la ln lc]] w fun e w' => e = .returned (.bool true) ∧ Fr [] w w' := by
  obtain ⟨mo, hmo, hN⟩ := noteAny m own ad n cp l la ln lc w he hv hl
  have HN := Lib.hid hN
  have HMo := Lib.hid hmo
  have HB := Lib.hid (Blk.new w #[.int .i64 m.kind, .int .i64 m.sent, .int .i64 m.goal, .int .u64 m.term, .int .u64 m.index, .int .u64 m.prev, .int .u64 m.commit, .int .u64 m.mark, .bool m.yes, .slice ad n cp, .string m.snap, .bool own, .slice la ln lc] 38)
  have HF0 : Hid (Fr [] w (w.alloc (.cells #[.int .i64 m.kind, .int .i64 m.sent, .int .i64 m.goal, .int .u64 m.term, .int .u64 m.index, .int .u64 m.prev, .int .u64 m.commit, .int .u64 m.mark, .bool m.yes, .slice ad n cp, .string m.snap, .bool own, .slice la ln lc] 38))) := (Fr.refl _ _).alloc _
  clear he hv hl hN hmo
  go_enter Try.func4, Try.ntmps4
  go_wp2_with fail
  refine (fExamples _).mono ?_
  rintro e w1 ⟨rfl, f1⟩
  have HF1 := Lib.hid (HF0.out.trans0 f1)
  have HB1 := Lib.hid (HB.out.fr0 f1)
  clear HF0 HB f1
  generalize w.heap.size = bx at *
  have a0 : w1.cell? ⟨bx, 0, none⟩ = some (.int .i64 m.kind) := HB1.out.cellAt (i := 0) rfl
  have a1 : w1.cell? ⟨bx, 1, none⟩ = some (.int .i64 m.sent) := HB1.out.cellAt (i := 1) rfl
  have a2 : w1.cell? ⟨bx, 2, none⟩ = some (.int .i64 m.goal) := HB1.out.cellAt (i := 2) rfl
  have a3 : w1.cell? ⟨bx, 3, none⟩ = some (.int .u64 m.term) := HB1.out.cellAt (i := 3) rfl
  have a4 : w1.cell? ⟨bx, 4, none⟩ = some (.int .u64 m.index) := HB1.out.cellAt (i := 4) rfl
  have a5 : w1.cell? ⟨bx, 5, none⟩ = some (.int .u64 m.prev) := HB1.out.cellAt (i := 5) rfl
  have a6 : w1.cell? ⟨bx, 6, none⟩ = some (.int .u64 m.commit) := HB1.out.cellAt (i := 6) rfl
  have a7 : w1.cell? ⟨bx, 7, none⟩ = some (.int .u64 m.mark) := HB1.out.cellAt (i := 7) rfl
  have a8 : w1.cell? ⟨bx, 8, none⟩ = some (.bool m.yes) := HB1.out.cellAt (i := 8) rfl
  have a9 : w1.cell? ⟨bx, 9, none⟩ = some (.slice ad n cp) := HB1.out.cellAt (i := 9) rfl
  have a10 : w1.cell? ⟨bx, 10, none⟩ = some (.string m.snap) := HB1.out.cellAt (i := 10) rfl
  have a11 : w1.cell? ⟨bx, 11, none⟩ = some (.bool own) := HB1.out.cellAt (i := 11) rfl
  have a12 : w1.cell? ⟨bx, 12, none⟩ = some (.slice la ln lc) := HB1.out.cellAt (i := 12) rfl
  go_wp2_with fail
  refine (HN.out _ HF1.out).mono ?_
  rintro e w2 ⟨v1, rfl, HE1, F2⟩
  go_wp2_with fail
  refine (fShim' mo v1 _ HMo.out HE1.out).mono ?_
  rintro e w3 ⟨vx, rfl, HEx, F3⟩
  have HF3 := Lib.hid ((HF1.out.trans0 F2.out).trans0 F3.out)
  have HB3 := Lib.hid ((HB1.out.fr0 F2.out).fr0 F3.out)
  have HSm := Lib.hid (shim_fits mo HMo.out)
  obtain ⟨ax, cx, rfl⟩ := HEx.out.shape
  obtain ⟨X, hX⟩ : ∃ X, sM mo = X := ⟨_, rfl⟩
  obtain ⟨ok, hok⟩ : ∃ ok, (shimOf mo noEnts).2.2 = ok := ⟨_, rfl⟩
  have HX := Lib.hid hX
  have HOk := Lib.hid hok
  rw [hX] at HEx HSm ⊢
  rw [hok]
  have HX3 := Lib.hid (Blk.new w3 (X.cells (.slice ax X.ents.length cx)) 35)
  clear hX hok a0 a1 a2 a3 a4 a5 a6 a7 a8 a9 a10 a11 a12 HB1 HE1
  unfold Msg.cells at HX3 ⊢
  have a0 : ∀ o, (w3.alloc o).cell? ⟨bx, 0, none⟩ = some (.int .i64 m.kind) := fun o => (HB3.out.alloc o).cellAt (i := 0) rfl
  have a1 : ∀ o, (w3.alloc o).cell? ⟨bx, 1, none⟩ = some (.int .i64 m.sent) := fun o => (HB3.out.alloc o).cellAt (i := 1) rfl
  have a2 : ∀ o, (w3.alloc o).cell? ⟨bx, 2, none⟩ = some (.int .i64 m.goal) := fun o => (HB3.out.alloc o).cellAt (i := 2) rfl
  have a3 : ∀ o, (w3.alloc o).cell? ⟨bx, 3, none⟩ = some (.int .u64 m.term) := fun o => (HB3.out.alloc o).cellAt (i := 3) rfl
  have a4 : ∀ o, (w3.alloc o).cell? ⟨bx, 4, none⟩ = some (.int .u64 m.index) := fun o => (HB3.out.alloc o).cellAt (i := 4) rfl
  have a5 : ∀ o, (w3.alloc o).cell? ⟨bx, 5, none⟩ = some (.int .u64 m.prev) := fun o => (HB3.out.alloc o).cellAt (i := 5) rfl
  have a6 : ∀ o, (w3.alloc o).cell? ⟨bx, 6, none⟩ = some (.int .u64 m.commit) := fun o => (HB3.out.alloc o).cellAt (i := 6) rfl
  have a7 : ∀ o, (w3.alloc o).cell? ⟨bx, 7, none⟩ = some (.int .u64 m.mark) := fun o => (HB3.out.alloc o).cellAt (i := 7) rfl
  have a8 : ∀ o, (w3.alloc o).cell? ⟨bx, 8, none⟩ = some (.bool m.yes) := fun o => (HB3.out.alloc o).cellAt (i := 8) rfl
  have a9 : ∀ o, (w3.alloc o).cell? ⟨bx, 9, none⟩ = some (.slice ad n cp) := fun o => (HB3.out.alloc o).cellAt (i := 9) rfl
  have a10 : ∀ o, (w3.alloc o).cell? ⟨bx, 10, none⟩ = some (.string m.snap) := fun o => (HB3.out.alloc o).cellAt (i := 10) rfl
  have a11 : ∀ o, (w3.alloc o).cell? ⟨bx, 11, none⟩ = some (.bool own) := fun o => (HB3.out.alloc o).cellAt (i := 11) rfl
  have a12 : ∀ o, (w3.alloc o).cell? ⟨bx, 12, none⟩ = some (.slice la ln lc) := fun o => (HB3.out.alloc o).cellAt (i := 12) rfl
  go_wp2_with fail
  refine (HN.out _ (HF3.out.alloc _)).mono ?_
  rintro e w4 ⟨v2, rfl, HE2, F4⟩
  go_wp2_with fail
  have hrs := rShim' mo v2 _ HMo.out HE2.out
  rw [HX.out, HOk.out] at hrs
  refine hrs.mono ?_
  clear hrs
  rintro e w5 ⟨vy, rfl, HEy, F5⟩
  obtain ⟨ay, cy, rfl⟩ := HEy.out.shape
  have HX5 := Lib.hid ((HX3.out.fr0 F4.out).fr0 F5.out)
  have HF5 := Lib.hid (((HF3.out.alloc (.cells #[.int .i64 X.kind, .int .i64 X.sent, .int .i64 X.goal, .int .u64 X.term, .int .u64 X.index, .int .u64 X.prev, .int .u64 X.commit, .int .u64 X.mark, .bool X.yes, .slice ax X.ents.length cx, .string X.snap] 35)).trans0 F4.out).trans0 F5.out)
  have HEx5 := Lib.hid ((((HEx.out.fr0 ((Fr.refl _ _).alloc (.cells #[.int .i64 X.kind, .int .i64 X.sent, .int .i64 X.goal, .int .u64 X.term, .int .u64 X.index, .int .u64 X.prev, .int .u64 X.commit, .int .u64 X.mark, .bool X.yes, .slice ax X.ents.length cx, .string X.snap] 35))).fr0 F4.out).fr0 F5.out))
  clear a0 a1 a2 a3 a4 a5 a6 a7 a8 a9 a10 a11 a12 HE2 HB3
  unfold Msg.cells
  have b0 : ∀ o, (w5.alloc o).cell? ⟨w3.heap.size, 0, none⟩ = some (.int .i64 X.kind) := fun o => (HX5.out.alloc o).cellAt (i := 0) rfl
  have b1 : ∀ o, (w5.alloc o).cell? ⟨w3.heap.size, 1, none⟩ = some (.int .i64 X.sent) := fun o => (HX5.out.alloc o).cellAt (i := 1) rfl
  have b2 : ∀ o, (w5.alloc o).cell? ⟨w3.heap.size, 2, none⟩ = some (.int .i64 X.goal) := fun o => (HX5.out.alloc o).cellAt (i := 2) rfl
  have b3 : ∀ o, (w5.alloc o).cell? ⟨w3.heap.size, 3, none⟩ = some (.int .u64 X.term) := fun o => (HX5.out.alloc o).cellAt (i := 3) rfl
  have b4 : ∀ o, (w5.alloc o).cell? ⟨w3.heap.size, 4, none⟩ = some (.int .u64 X.index) := fun o => (HX5.out.alloc o).cellAt (i := 4) rfl
  have b5 : ∀ o, (w5.alloc o).cell? ⟨w3.heap.size, 5, none⟩ = some (.int .u64 X.prev) := fun o => (HX5.out.alloc o).cellAt (i := 5) rfl
  have b6 : ∀ o, (w5.alloc o).cell? ⟨w3.heap.size, 6, none⟩ = some (.int .u64 X.commit) := fun o => (HX5.out.alloc o).cellAt (i := 6) rfl
  have b7 : ∀ o, (w5.alloc o).cell? ⟨w3.heap.size, 7, none⟩ = some (.int .u64 X.mark) := fun o => (HX5.out.alloc o).cellAt (i := 7) rfl
  have b8 : ∀ o, (w5.alloc o).cell? ⟨w3.heap.size, 8, none⟩ = some (.bool X.yes) := fun o => (HX5.out.alloc o).cellAt (i := 8) rfl
  have b9 : ∀ o, (w5.alloc o).cell? ⟨w3.heap.size, 9, none⟩ = some (.slice ax X.ents.length cx) := fun o => (HX5.out.alloc o).cellAt (i := 9) rfl
  have b10 : ∀ o, (w5.alloc o).cell? ⟨w3.heap.size, 10, none⟩ = some (.string X.snap) := fun o => (HX5.out.alloc o).cellAt (i := 10) rfl
  go_wp2_with fail
  refine (rMsgSame X (.slice ax X.ents.length cx) (.slice ay X.ents.length cy) _ HSm.out (HEx5.out.fr0 ((Fr.refl _ _).alloc _)) (HEy.out.fr0 ((Fr.refl _ _).alloc _))).mono ?_
  rintro e w6 ⟨rfl, f6⟩
  go_wp2_with fail
  go_ret
  exact ⟨rfl, (HF5.out.alloc _).trans0 f6⟩
end Go.Proofs.Ytacdbglocpaeaaa.frameShims
