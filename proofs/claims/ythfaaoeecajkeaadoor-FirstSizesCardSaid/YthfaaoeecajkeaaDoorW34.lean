/-
  Texts of this seat, joined: RNe4 RNote ROpen GOpen.
-/
import Derived.Test.YthfaaoeecajkeaaDoorW27
import Derived.Deep.RegionWith
import Derived.Test.YthfaaoeecajkeaaDoorWtk
import Derived.Test.YthfaaoeecajkeaaDoorW29
import Derived.Test.YthfaaoeecajkeaaDoorW31
import Derived.Test.YthfaaoeecajkeaaDoorW32
import Derived.Test.YthfaaoeecajkeaaDoorW33
import Derived.OpenShut
import Derived.Deep.Slices
import Derived.Deep.Fields
import Derived.ChangeSame
import Derived.Test.YthfaaoeecajkeaaDoorRows
import Derived.Lay
import Derived.Handed
import Derived.LaidLaws
set_option linter.unusedSimpArgs false
set_option linter.unusedVariables false
namespace Go.Proofs.YthfaaoeecajkeaaDoor
open List renaming getElem?_toArray → lg0, getElem?_cons_succ → lg1, getElem?_cons_zero → lg2, setIfInBounds_toArray → lt0', set_cons_zero → lt1', set_cons_succ → lt2'
open Go.RowKit

set_option maxRecDepth 100000 in
set_option maxHeartbeats 8000000 in
theorem note_ene (m : Msg) (ad : Option Addr) (n cp : Nat) (w : World) (la : Option Addr) (lc : Nat) (he : m.Fits) (kk r : Int) (hr : m.kind.tmod 10 = r) (hneg : r < 0) (hrk : r + 10 = kk) (hk9 : kk < 10) (hk0 : -1 < kk) (hK : m.kind % 10 = kk) (hkind : msgMay (kk + 1) = (⟨#[105, 112, 116, 101, 107]⟩, true)) :
    Calls Tryd.prog 20 #[.agg #[.int .i64 m.kind, .int .i64 m.sent, .int .i64 m.goal, .int .u64 m.term, .int .u64 m.index, .int .u64 m.prev, .int .u64 m.commit, .int .u64 m.mark, .bool m.yes, .slice ad n cp, .string m.snap, .bool true, .slice la 0 lc]] w fun e w' => ∃ v, e = .returned (.agg ((noteOf m []).cells v)) ∧ Hid (Ents w' v []) ∧ Hid (Fr [] w w') := by
  obtain ⟨hT, hI, hP, hC, hKm, _, _, hS⟩ := he
  unfold U64 maxLen at *
  have HRes : Hid (∀ v : Value, (Ending.returned (.agg #[.int .i64 (kk + 1), .int .i64 (wrap64 (wrap64 ((IntKind.u64.wrap m.sent).tmod 7) + 1)), .int .i64 (wrap64 (wrap64 ((IntKind.u64.wrap m.goal).tmod 7) + 1)), .int .u64 m.term, .int .u64 m.index, .int .u64 m.prev, .int .u64 m.commit, .int .u64 m.mark, .bool false, v, .string ⟨#[]⟩]) : Ending) = .returned (.agg ((noteOf m []).cells v))) := by
    intro v
    unfold noteOf Msg.cells has' nodeW
    simp only [hK, hkind]
    rfl
  have HF := Lib.hid (rMsgFields (kk + 1))
  rw [hkind] at HF
  clear hkind hK
  have hr0 : decide (r < 0) = true := by simp; omega
  go_enter Tryd.func20, Tryd.ntmps20
  go_wp2_with fail
  refine (HF.out _).mono ?_
  rintro r' w2 ⟨rfl, g2⟩
  have A1 : Fr [] w (w.alloc (.cells #[.int .i64 m.kind, .int .i64 m.sent, .int .i64 m.goal, .int .u64 m.term, .int .u64 m.index, .int .u64 m.prev, .int .u64 m.commit, .int .u64 m.mark, .bool m.yes, .slice ad n cp, .string m.snap, .bool true, .slice la 0 lc] 50)) := (Fr.refl _ _).alloc _
  have B3 : Blk w2 (w.heap.size + 1 + 1) #[.int .i64 m.kind, .int .i64 m.sent, .int .i64 m.goal, .int .u64 m.term, .int .u64 m.index, .int .u64 m.prev, .int .u64 m.commit, .int .u64 m.mark, .bool m.yes, .slice ad n cp, .string m.snap] 47 := by
    have h := Blk.fr0 (Blk.new ((w.alloc (.cells #[.int .i64 m.kind, .int .i64 m.sent, .int .i64 m.goal, .int .u64 m.term, .int .u64 m.index, .int .u64 m.prev, .int .u64 m.commit, .int .u64 m.mark, .bool m.yes, .slice ad n cp, .string m.snap, .bool true, .slice la 0 lc] 50)).alloc (.cells #[.int .i64 0, .int .i64 0, .int .i64 0, .int .u64 0, .int .u64 0, .int .u64 0, .int .u64 0, .int .u64 0, .bool false, .slice none 0 0, .string ⟨#[]⟩] 47)) #[.int .i64 m.kind, .int .i64 m.sent, .int .i64 m.goal, .int .u64 m.term, .int .u64 m.index, .int .u64 m.prev, .int .u64 m.commit, .int .u64 m.mark, .bool m.yes, .slice ad n cp, .string m.snap] 47) g2
    rw [show ((w.alloc (.cells #[.int .i64 m.kind, .int .i64 m.sent, .int .i64 m.goal, .int .u64 m.term, .int .u64 m.index, .int .u64 m.prev, .int .u64 m.commit, .int .u64 m.mark, .bool m.yes, .slice ad n cp, .string m.snap, .bool true, .slice la 0 lc] 50)).alloc (.cells #[.int .i64 0, .int .i64 0, .int .i64 0, .int .u64 0, .int .u64 0, .int .u64 0, .int .u64 0, .int .u64 0, .bool false, .slice none 0 0, .string ⟨#[]⟩] 47)).heap.size = w.heap.size + 1 + 1 by simp] at h
    exact h
  have BN : Hid (Blk w2 w.heap.size #[.int .i64 m.kind, .int .i64 m.sent, .int .i64 m.goal, .int .u64 m.term, .int .u64 m.index, .int .u64 m.prev, .int .u64 m.commit, .int .u64 m.mark, .bool m.yes, .slice ad n cp, .string m.snap, .bool true, .slice la 0 lc] 50) := Blk.fr0 (((Blk.new w #[.int .i64 m.kind, .int .i64 m.sent, .int .i64 m.goal, .int .u64 m.term, .int .u64 m.index, .int .u64 m.prev, .int .u64 m.commit, .int .u64 m.mark, .bool m.yes, .slice ad n cp, .string m.snap, .bool true, .slice la 0 lc] 50).alloc _).alloc _) g2
  have HB3 := Lib.hid B3
  have B2 : Blk w2 (w.heap.size + 1) #[.int .i64 0, .int .i64 0, .int .i64 0, .int .u64 0, .int .u64 0, .int .u64 0, .int .u64 0, .int .u64 0, .bool false, .slice none 0 0, .string ⟨#[]⟩] 47 := by
    have h := Blk.fr0 (Blk.alloc (Blk.new (w.alloc (.cells #[.int .i64 m.kind, .int .i64 m.sent, .int .i64 m.goal, .int .u64 m.term, .int .u64 m.index, .int .u64 m.prev, .int .u64 m.commit, .int .u64 m.mark, .bool m.yes, .slice ad n cp, .string m.snap, .bool true, .slice la 0 lc] 50)) #[.int .i64 0, .int .i64 0, .int .i64 0, .int .u64 0, .int .u64 0, .int .u64 0, .int .u64 0, .int .u64 0, .bool false, .slice none 0 0, .string ⟨#[]⟩] 47) (.cells #[.int .i64 m.kind, .int .i64 m.sent, .int .i64 m.goal, .int .u64 m.term, .int .u64 m.index, .int .u64 m.prev, .int .u64 m.commit, .int .u64 m.mark, .bool m.yes, .slice ad n cp, .string m.snap] 47)) g2
    rw [show (w.alloc (.cells #[.int .i64 m.kind, .int .i64 m.sent, .int .i64 m.goal, .int .u64 m.term, .int .u64 m.index, .int .u64 m.prev, .int .u64 m.commit, .int .u64 m.mark, .bool m.yes, .slice ad n cp, .string m.snap, .bool true, .slice la 0 lc] 50)).heap.size = w.heap.size + 1 by simp] at h
    exact h
  have HF2 : Hid (Fr [] w w2) := ((A1.alloc _).alloc _).trans0 g2
  have hlt := B3.lt
  clear A1 g2
  generalize hX : w.heap.size = bx at *
  have HX := Lib.hid hX
  clear hX
  have f0 := B3.cellAt (i := 0) rfl
  have f0' := ca B3 0
  have q0 := ca B2 0
  have z0 := za B2 0
  have f1 := B3.cellAt (i := 1) rfl
  have f1' := ca B3 1
  have q1 := ca B2 1
  have z1 := za B2 1
  have f2 := B3.cellAt (i := 2) rfl
  have f2' := ca B3 2
  have q2 := ca B2 2
  have z2 := za B2 2
  have f3 := B3.cellAt (i := 3) rfl
  have f3' := ca B3 3
  have q3 := ca B2 3
  have z3 := za B2 3
  have f4 := B3.cellAt (i := 4) rfl
  have f4' := ca B3 4
  have q4 := ca B2 4
  have z4 := za B2 4
  have f5 := B3.cellAt (i := 5) rfl
  have f5' := ca B3 5
  have q5 := ca B2 5
  have z5 := za B2 5
  have f6 := B3.cellAt (i := 6) rfl
  have f6' := ca B3 6
  have q6 := ca B2 6
  have z6 := za B2 6
  have f7 := B3.cellAt (i := 7) rfl
  have f7' := ca B3 7
  have q7 := ca B2 7
  have z7 := za B2 7
  have f8 := B3.cellAt (i := 8) rfl
  have f8' := ca B3 8
  have q8 := ca B2 8
  have z8 := za B2 8
  have f9 := B3.cellAt (i := 9) rfl
  have f9' := ca B3 9
  have q9 := ca B2 9
  have z9 := za B2 9
  have f10 := B3.cellAt (i := 10) rfl
  have f10' := ca B3 10
  have q10 := ca B2 10
  have z10 := za B2 10
  have HB2 := Lib.hid B2
  clear B2 B3
  go_wp2_with fail
  have HLT : Hid (bx + 1 < w2.heap.size) := HB2.out.lt
  have BxL : w2.cell? ⟨bx, 12, none⟩ = some (.slice la 0 lc) := BN.out.cellAt (i := 12) rfl
  have BxL' := ca BN.out 12
  refine wp_loop_rounds 6 ?_
  rw [rounds_succ]
  go_wp2_with fail
  rw [rounds_succ]
  go_wp2_with fail
  rw [rounds_succ]
  go_wp2_with fail
  rw [rounds_succ]
  go_wp2_with fail
  have BO : Hid (Blk (w2.alloc (.cells #[.int .i64 (kk + 1), .int .i64 (wrap64 (wrap64 ((IntKind.u64.wrap m.sent).tmod 7) + 1)), .int .i64 (wrap64 (wrap64 ((IntKind.u64.wrap m.goal).tmod 7) + 1)), .int .u64 m.term, .int .u64 m.index, .int .u64 m.prev, .int .u64 m.commit, .int .u64 0, .bool false, .slice none 0 0, .string ⟨#[]⟩] 47)) w2.heap.size #[.int .i64 (kk + 1), .int .i64 (wrap64 (wrap64 ((IntKind.u64.wrap m.sent).tmod 7) + 1)), .int .i64 (wrap64 (wrap64 ((IntKind.u64.wrap m.goal).tmod 7) + 1)), .int .u64 m.term, .int .u64 m.index, .int .u64 m.prev, .int .u64 m.commit, .int .u64 0, .bool false, .slice none 0 0, .string ⟨#[]⟩] 47) := Blk.new _ _ _
  have FO : Hid (Fr [] w2 (w2.alloc (.cells #[.int .i64 (kk + 1), .int .i64 (wrap64 (wrap64 ((IntKind.u64.wrap m.sent).tmod 7) + 1)), .int .i64 (wrap64 (wrap64 ((IntKind.u64.wrap m.goal).tmod 7) + 1)), .int .u64 m.term, .int .u64 m.index, .int .u64 m.prev, .int .u64 m.commit, .int .u64 0, .bool false, .slice none 0 0, .string ⟨#[]⟩] 47))) := (Fr.refl _ _).alloc _
  have HBx : Hid (∀ wr, Fr [] w2 wr → wr.cell? ⟨bx, 12, none⟩ = some (.slice la 0 lc)) := fun wr f => (World.cell?_of_block (w := w2) (f.block bx (by omega) (by simp))).trans BxL
  clear BxL BxL' f0 f0' f1 f1' f2 f2' f3 f3' f4 f4' f5 f5' f6 f6' f7 f7' f8 f8' f9 f9' f10 f10'
  generalize (w2.alloc (.cells #[.int .i64 (kk + 1), .int .i64 (wrap64 (wrap64 ((IntKind.u64.wrap m.sent).tmod 7) + 1)), .int .i64 (wrap64 (wrap64 ((IntKind.u64.wrap m.goal).tmod 7) + 1)), .int .u64 m.term, .int .u64 m.index, .int .u64 m.prev, .int .u64 m.commit, .int .u64 0, .bool false, .slice none 0 0, .string ⟨#[]⟩] 47)) = W0 at *
  obtain ⟨bo, hbo⟩ : ∃ bo, w2.heap.size = bo := ⟨_, rfl⟩
  rw [hbo] at BO ⊢
  have HBO := Lib.hid hbo
  clear hbo
  have hcl := HBx.out _ FO.out
  refine wp_loop_rounds 1 ?_
  rw [rounds_succ]
  have RBO : Hid (Blk W0 bo #[.int .i64 (kk + 1), .int .i64 (wrap64 (wrap64 ((IntKind.u64.wrap m.sent).tmod 7) + 1)), .int .i64 (wrap64 (wrap64 ((IntKind.u64.wrap m.goal).tmod 7) + 1)), .int .u64 m.term, .int .u64 m.index, .int .u64 m.prev, .int .u64 m.commit, .int .u64 0, .bool false, .slice none 0 0, .string ⟨#[]⟩] 47) := BO
  have ROO : Hid (W0.ownsRow 0 24 11 (.slice none 0 0) ([] : List Ent).length (flatE [])) := World.ownsRow_nil W0 0 24 11
  have RFF : Hid (Fr [] w2 W0) := FO
  have RXX : Hid (∀ x, x ∈ (Value.slice none 0 0).ownBlock.toList → w2.heap.size < x) := by intro x hx; simp [Value.ownBlock] at hx
  have RB2 := Lib.hid (HB2.out.fr0 FO.out)
  have RB3 := Lib.hid (HB3.out.fr0 FO.out)
  have m7 : W0.cell? ⟨bx + 1 + 1, 7, none⟩ = some (.int .u64 m.mark) := RB3.out.cellAt (i := 7) rfl
  have o7 : W0.cell? ⟨bo, 7, none⟩ = some (.int .u64 0) := RBO.out.cellAt (i := 7) rfl
  have zo7 := RBO.out.froz 7
  go_wp2_with fail
  rw [rounds_succ]
  go_wp2_with fail
  have BO5 : Hid (Blk (W0.setCell ⟨bo, 7, none⟩ (.int .u64 m.mark)) bo #[.int .i64 (kk + 1), .int .i64 (wrap64 (wrap64 ((IntKind.u64.wrap m.sent).tmod 7) + 1)), .int .i64 (wrap64 (wrap64 ((IntKind.u64.wrap m.goal).tmod 7) + 1)), .int .u64 m.term, .int .u64 m.index, .int .u64 m.prev, .int .u64 m.commit, .int .u64 m.mark, .bool false, .slice none 0 0, .string ⟨#[]⟩] 47) := by
    have h := RBO.out.set 7 (.int .u64 m.mark)
    simp only [lt0', lt1', lt2'] at h
    exact h
  have B25 : Hid (Blk (W0.setCell ⟨bo, 7, none⟩ (.int .u64 m.mark)) (bx + 1) #[.int .i64 0, .int .i64 0, .int .i64 0, .int .u64 0, .int .u64 0, .int .u64 0, .int .u64 0, .int .u64 0, .bool false, .slice none 0 0, .string ⟨#[]⟩] 47) := RB2.out.far (p := ⟨bo, 7, none⟩) (by show bx + 1 ≠ bo; have := HBO.out; omega) _
  have O5 : Hid ((W0.setCell ⟨bo, 7, none⟩ (.int .u64 m.mark)).ownsRow 0 24 11 (.slice none 0 0) ([] : List Ent).length (flatE [])) := ownsRow_fr ROO.out ((Fr.refl [bo] _).setCell (p := ⟨bo, 7, none⟩) (.inl (by simp)) _) (fun x hx e => by simp at e; subst e; have := RXX.out _ hx; have := HBO.out; omega)
  have F5 : Hid (Fr [] w2 (W0.setCell ⟨bo, 7, none⟩ (.int .u64 m.mark))) := RFF.out.setCell (p := ⟨bo, 7, none⟩) (.inr (by show w2.heap.size ≤ bo; have := HBO.out; omega)) _
  clear m7 o7 zo7
  generalize (W0.setCell ⟨bo, 7, none⟩ (.int .u64 m.mark)) = W5 at *
  have y0 : W5.cell? ⟨bo, 0, none⟩ = some (.int .i64 (kk + 1)) := BO5.out.cellAt (i := 0) rfl
  have q0 : W5.cell? ⟨bx + 1, 0, none⟩ = some (.int .i64 0) := B25.out.cellAt (i := 0) rfl
  have z0 := B25.out.froz 0
  have y1 : W5.cell? ⟨bo, 1, none⟩ = some (.int .i64 (wrap64 (wrap64 ((IntKind.u64.wrap m.sent).tmod 7) + 1))) := BO5.out.cellAt (i := 1) rfl
  have q1 : W5.cell? ⟨bx + 1, 1, none⟩ = some (.int .i64 0) := B25.out.cellAt (i := 1) rfl
  have z1 := B25.out.froz 1
  have y2 : W5.cell? ⟨bo, 2, none⟩ = some (.int .i64 (wrap64 (wrap64 ((IntKind.u64.wrap m.goal).tmod 7) + 1))) := BO5.out.cellAt (i := 2) rfl
  have q2 : W5.cell? ⟨bx + 1, 2, none⟩ = some (.int .i64 0) := B25.out.cellAt (i := 2) rfl
  have z2 := B25.out.froz 2
  have y3 : W5.cell? ⟨bo, 3, none⟩ = some (.int .u64 m.term) := BO5.out.cellAt (i := 3) rfl
  have q3 : W5.cell? ⟨bx + 1, 3, none⟩ = some (.int .u64 0) := B25.out.cellAt (i := 3) rfl
  have z3 := B25.out.froz 3
  have y4 : W5.cell? ⟨bo, 4, none⟩ = some (.int .u64 m.index) := BO5.out.cellAt (i := 4) rfl
  have q4 : W5.cell? ⟨bx + 1, 4, none⟩ = some (.int .u64 0) := B25.out.cellAt (i := 4) rfl
  have z4 := B25.out.froz 4
  have y5 : W5.cell? ⟨bo, 5, none⟩ = some (.int .u64 m.prev) := BO5.out.cellAt (i := 5) rfl
  have q5 : W5.cell? ⟨bx + 1, 5, none⟩ = some (.int .u64 0) := B25.out.cellAt (i := 5) rfl
  have z5 := B25.out.froz 5
  have y6 : W5.cell? ⟨bo, 6, none⟩ = some (.int .u64 m.commit) := BO5.out.cellAt (i := 6) rfl
  have q6 : W5.cell? ⟨bx + 1, 6, none⟩ = some (.int .u64 0) := B25.out.cellAt (i := 6) rfl
  have z6 := B25.out.froz 6
  have y7 : W5.cell? ⟨bo, 7, none⟩ = some (.int .u64 m.mark) := BO5.out.cellAt (i := 7) rfl
  have q7 : W5.cell? ⟨bx + 1, 7, none⟩ = some (.int .u64 0) := B25.out.cellAt (i := 7) rfl
  have z7 := B25.out.froz 7
  have y8 : W5.cell? ⟨bo, 8, none⟩ = some (.bool false) := BO5.out.cellAt (i := 8) rfl
  have q8 : W5.cell? ⟨bx + 1, 8, none⟩ = some (.bool false) := B25.out.cellAt (i := 8) rfl
  have z8 := B25.out.froz 8
  have y9 : W5.cell? ⟨bo, 9, none⟩ = some (.slice none 0 0) := BO5.out.cellAt (i := 9) rfl
  have q9 : W5.cell? ⟨bx + 1, 9, none⟩ = some (.slice none 0 0) := B25.out.cellAt (i := 9) rfl
  have z9 := B25.out.froz 9
  have y10 : W5.cell? ⟨bo, 10, none⟩ = some (.string ⟨#[]⟩) := BO5.out.cellAt (i := 10) rfl
  have q10 : W5.cell? ⟨bx + 1, 10, none⟩ = some (.string ⟨#[]⟩) := B25.out.cellAt (i := 10) rfl
  have z10 := B25.out.froz 10
  rw [rounds_succ]
  go_wp2_with fail
  have BF : Hid (Blk (((((((((((W5.setCell ⟨bx + 1, 0, none⟩ (.int .i64 (kk + 1))).setCell ⟨bx + 1, 1, none⟩ (.int .i64 (wrap64 (wrap64 ((IntKind.u64.wrap m.sent).tmod 7) + 1)))).setCell ⟨bx + 1, 2, none⟩ (.int .i64 (wrap64 (wrap64 ((IntKind.u64.wrap m.goal).tmod 7) + 1)))).setCell ⟨bx + 1, 3, none⟩ (.int .u64 m.term)).setCell ⟨bx + 1, 4, none⟩ (.int .u64 m.index)).setCell ⟨bx + 1, 5, none⟩ (.int .u64 m.prev)).setCell ⟨bx + 1, 6, none⟩ (.int .u64 m.commit)).setCell ⟨bx + 1, 7, none⟩ (.int .u64 m.mark)).setCell ⟨bx + 1, 8, none⟩ (.bool false)).setCell ⟨bx + 1, 9, none⟩ (.slice none 0 0)).setCell ⟨bx + 1, 10, none⟩ (.string ⟨#[]⟩)) (bx + 1) #[.int .i64 (kk + 1), .int .i64 (wrap64 (wrap64 ((IntKind.u64.wrap m.sent).tmod 7) + 1)), .int .i64 (wrap64 (wrap64 ((IntKind.u64.wrap m.goal).tmod 7) + 1)), .int .u64 m.term, .int .u64 m.index, .int .u64 m.prev, .int .u64 m.commit, .int .u64 m.mark, .bool false, .slice none 0 0, .string ⟨#[]⟩] 47) := Blk.put11 B25.out (.int .i64 (kk + 1)) (.int .i64 (wrap64 (wrap64 ((IntKind.u64.wrap m.sent).tmod 7) + 1))) (.int .i64 (wrap64 (wrap64 ((IntKind.u64.wrap m.goal).tmod 7) + 1))) (.int .u64 m.term) (.int .u64 m.index) (.int .u64 m.prev) (.int .u64 m.commit) (.int .u64 m.mark) (.bool false) (.slice none 0 0) (.string ⟨#[]⟩)
  have FF : Hid (Fr [] w (((((((((((W5.setCell ⟨bx + 1, 0, none⟩ (.int .i64 (kk + 1))).setCell ⟨bx + 1, 1, none⟩ (.int .i64 (wrap64 (wrap64 ((IntKind.u64.wrap m.sent).tmod 7) + 1)))).setCell ⟨bx + 1, 2, none⟩ (.int .i64 (wrap64 (wrap64 ((IntKind.u64.wrap m.goal).tmod 7) + 1)))).setCell ⟨bx + 1, 3, none⟩ (.int .u64 m.term)).setCell ⟨bx + 1, 4, none⟩ (.int .u64 m.index)).setCell ⟨bx + 1, 5, none⟩ (.int .u64 m.prev)).setCell ⟨bx + 1, 6, none⟩ (.int .u64 m.commit)).setCell ⟨bx + 1, 7, none⟩ (.int .u64 m.mark)).setCell ⟨bx + 1, 8, none⟩ (.bool false)).setCell ⟨bx + 1, 9, none⟩ (.slice none 0 0)).setCell ⟨bx + 1, 10, none⟩ (.string ⟨#[]⟩))) := ((((((((((((HF2.out.trans0 F5.out).setCell (.inr (by have := HX.out; show w.heap.size ≤ bx + 1; omega)) _).setCell (.inr (by have := HX.out; show w.heap.size ≤ bx + 1; omega)) _).setCell (.inr (by have := HX.out; show w.heap.size ≤ bx + 1; omega)) _).setCell (.inr (by have := HX.out; show w.heap.size ≤ bx + 1; omega)) _).setCell (.inr (by have := HX.out; show w.heap.size ≤ bx + 1; omega)) _).setCell (.inr (by have := HX.out; show w.heap.size ≤ bx + 1; omega)) _).setCell (.inr (by have := HX.out; show w.heap.size ≤ bx + 1; omega)) _).setCell (.inr (by have := HX.out; show w.heap.size ≤ bx + 1; omega)) _).setCell (.inr (by have := HX.out; show w.heap.size ≤ bx + 1; omega)) _).setCell (.inr (by have := HX.out; show w.heap.size ≤ bx + 1; omega)) _).setCell (.inr (by have := HX.out; show w.heap.size ≤ bx + 1; omega)) _)
  have FO5 : Hid (Fr [bx + 1] W5 (((((((((((W5.setCell ⟨bx + 1, 0, none⟩ (.int .i64 (kk + 1))).setCell ⟨bx + 1, 1, none⟩ (.int .i64 (wrap64 (wrap64 ((IntKind.u64.wrap m.sent).tmod 7) + 1)))).setCell ⟨bx + 1, 2, none⟩ (.int .i64 (wrap64 (wrap64 ((IntKind.u64.wrap m.goal).tmod 7) + 1)))).setCell ⟨bx + 1, 3, none⟩ (.int .u64 m.term)).setCell ⟨bx + 1, 4, none⟩ (.int .u64 m.index)).setCell ⟨bx + 1, 5, none⟩ (.int .u64 m.prev)).setCell ⟨bx + 1, 6, none⟩ (.int .u64 m.commit)).setCell ⟨bx + 1, 7, none⟩ (.int .u64 m.mark)).setCell ⟨bx + 1, 8, none⟩ (.bool false)).setCell ⟨bx + 1, 9, none⟩ (.slice none 0 0)).setCell ⟨bx + 1, 10, none⟩ (.string ⟨#[]⟩))) := ((((((((((((Fr.refl [bx + 1] W5).setCell (.inl (by simp)) _).setCell (.inl (by simp)) _).setCell (.inl (by simp)) _).setCell (.inl (by simp)) _).setCell (.inl (by simp)) _).setCell (.inl (by simp)) _).setCell (.inl (by simp)) _).setCell (.inl (by simp)) _).setCell (.inl (by simp)) _).setCell (.inl (by simp)) _).setCell (.inl (by simp)) _)
  clear y0 q0 z0 y1 q1 z1 y2 q2 z2 y3 q3 z3 y4 q4 z4 y5 q5 z5 y6 q6 z6 y7 q7 z7 y8 q8 z8 y9 q9 z9 y10 q10 z10
  generalize (((((((((((W5.setCell ⟨bx + 1, 0, none⟩ (.int .i64 (kk + 1))).setCell ⟨bx + 1, 1, none⟩ (.int .i64 (wrap64 (wrap64 ((IntKind.u64.wrap m.sent).tmod 7) + 1)))).setCell ⟨bx + 1, 2, none⟩ (.int .i64 (wrap64 (wrap64 ((IntKind.u64.wrap m.goal).tmod 7) + 1)))).setCell ⟨bx + 1, 3, none⟩ (.int .u64 m.term)).setCell ⟨bx + 1, 4, none⟩ (.int .u64 m.index)).setCell ⟨bx + 1, 5, none⟩ (.int .u64 m.prev)).setCell ⟨bx + 1, 6, none⟩ (.int .u64 m.commit)).setCell ⟨bx + 1, 7, none⟩ (.int .u64 m.mark)).setCell ⟨bx + 1, 8, none⟩ (.bool false)).setCell ⟨bx + 1, 9, none⟩ (.slice none 0 0)).setCell ⟨bx + 1, 10, none⟩ (.string ⟨#[]⟩)) = W at *
  have BF' := BF.out
  have y0 : W.cell? ⟨bx + 1, 0, none⟩ = some (.int .i64 (kk + 1)) := BF'.cellAt (i := 0) rfl
  have y1 : W.cell? ⟨bx + 1, 1, none⟩ = some (.int .i64 (wrap64 (wrap64 ((IntKind.u64.wrap m.sent).tmod 7) + 1))) := BF'.cellAt (i := 1) rfl
  have y2 : W.cell? ⟨bx + 1, 2, none⟩ = some (.int .i64 (wrap64 (wrap64 ((IntKind.u64.wrap m.goal).tmod 7) + 1))) := BF'.cellAt (i := 2) rfl
  have y3 : W.cell? ⟨bx + 1, 3, none⟩ = some (.int .u64 m.term) := BF'.cellAt (i := 3) rfl
  have y4 : W.cell? ⟨bx + 1, 4, none⟩ = some (.int .u64 m.index) := BF'.cellAt (i := 4) rfl
  have y5 : W.cell? ⟨bx + 1, 5, none⟩ = some (.int .u64 m.prev) := BF'.cellAt (i := 5) rfl
  have y6 : W.cell? ⟨bx + 1, 6, none⟩ = some (.int .u64 m.commit) := BF'.cellAt (i := 6) rfl
  have y7 : W.cell? ⟨bx + 1, 7, none⟩ = some (.int .u64 m.mark) := BF'.cellAt (i := 7) rfl
  have y8 : W.cell? ⟨bx + 1, 8, none⟩ = some (.bool false) := BF'.cellAt (i := 8) rfl
  have y9 : W.cell? ⟨bx + 1, 9, none⟩ = some (.slice none 0 0) := BF'.cellAt (i := 9) rfl
  have y10 : W.cell? ⟨bx + 1, 10, none⟩ = some (.string ⟨#[]⟩) := BF'.cellAt (i := 10) rfl
  refine bodyPost_ret (v := .agg #[.int .i64 (kk + 1), .int .i64 (wrap64 (wrap64 ((IntKind.u64.wrap m.sent).tmod 7) + 1)), .int .i64 (wrap64 (wrap64 ((IntKind.u64.wrap m.goal).tmod 7) + 1)), .int .u64 m.term, .int .u64 m.index, .int .u64 m.prev, .int .u64 m.commit, .int .u64 m.mark, .bool false, .slice none 0 0, .string ⟨#[]⟩]) ?_ rfl ?_
  · simp [results, Tryd.results20, go_sem, y0, y1, y2, y3, y4, y5, y6, y7, y8, y9, y10]
  · exact ⟨_, HRes.out _, Lib.hid (own_ents (ownsRow_fr O5.out FO5.out (fun x hx e => by simp at e; subst e; have := RXX.out _ hx; have := HLT.out; omega))), FF⟩
end Go.Proofs.YthfaaoeecajkeaaDoor

namespace Go.Proofs.YthfaaoeecajkeaaDoor
open Go.RowKit

/-- The parts of entries that came in. -/
def Mrow (w : World) (la : Option Addr) (ln : Nat) (l : List Ent) : Prop := l.length = ln ∧ (∀ e, e ∈ l → e.Fits) ∧ (ln = 0 ∨ ∃ lb lo, la = some ⟨lb, lo, none⟩ ∧ Mads w lb lo l)
theorem Mads.fr0 {w w' : World} {b o : Nat} {l : List Ent} (h : Mads w b o l) (f : Fr [] w w') : Mads w' b o l := by
  intro j hj
  obtain ⟨h1, q, h2⟩ := h j hj
  have hb : b < w.heap.size := World.block_lt_of_cell? w _ h2
  have hk2 : ∀ off, w'.cell? ⟨b, off, none⟩ = w.cell? ⟨b, off, none⟩ := fun off => World.cell?_of_block (w := w) (f.block b hb (by simp))
  exact ⟨fun i hi => (hk2 _).trans (h1 i hi), q, (hk2 _).trans h2⟩
theorem Mrow.fr0 {w w' : World} {la : Option Addr} {ln : Nat} {l : List Ent} (h : Mrow w la ln l) (f : Fr [] w w') : Mrow w' la ln l := by
  obtain ⟨h1, h2, h3⟩ := h
  refine ⟨h1, h2, ?_⟩
  rcases h3 with h3 | ⟨lb, lo, e, h3⟩
  · exact .inl h3
  · exact .inr ⟨lb, lo, e, h3.fr0 f⟩

/-- What a message is made of: its parts, and at most ten entries. -/
def noteM (m : Msg) (l : List Ent) : Msg := noteOf m ((l.map madeOf).take 10)

theorem noteOf_none {m : Msg} {L : List Ent} {k : Int} (hk : m.kind % 10 = k) (h : hasI (msgMay (k + 1)).1 101 = false) : (noteOf m L).ents = [] := by
  subst hk
  show (if hasI (msgMay (m.kind % 10 + 1)).1 101 = true then L else []) = []
  rw [h]
  rfl
theorem noteOf_some {m : Msg} {L : List Ent} {k : Int} (hk : m.kind % 10 = k) (h : hasI (msgMay (k + 1)).1 101 = true) : (noteOf m L).ents = L := by
  subst hk
  show (if hasI (msgMay (m.kind % 10 + 1)).1 101 = true then L else []) = L
  rw [h]
  rfl

theorem note_plain {m : Msg} {l : List Ent} {k : Int} {a : Value} {w : World} (hk : m.kind % 10 = k) (h : hasI (msgMay (k + 1)).1 101 = false)
    (hc : Calls Tryd.prog 20 #[a] w fun r w' => r = .returned (.agg ((noteOf m ((l.map madeOf).take 10)).cells (.slice none 0 0))) ∧ Fr [] w w') :
    Calls Tryd.prog 20 #[a] w fun e w' => ∃ v, e = .returned (.agg ((noteM m l).cells v)) ∧ Hid (Ents w' v (noteM m l).ents) ∧ Hid (Fr [] w w') :=
  hc.mono fun _ _ ⟨h1, h2⟩ => ⟨_, h1, .inl ⟨noteOf_none hk h, none, 0, rfl⟩, h2⟩

theorem note_own (m : Msg) (ad : Option Addr) (n cp : Nat) (l : List Ent) (la : Option Addr) (ln lc : Nat) (w : World) (he : m.Fits) (hl : Mrow w la ln l) :
    Calls Tryd.prog 20 #[.agg #[.int .i64 m.kind, .int .i64 m.sent, .int .i64 m.goal, .int .u64 m.term, .int .u64 m.index, .int .u64 m.prev, .int .u64 m.commit, .int .u64 m.mark, .bool m.yes, .slice ad n cp, .string m.snap, .bool true, .slice la ln lc]] w
      fun e w' => ∃ v, e = .returned (.agg ((noteM m l).cells v)) ∧ Hid (Ents w' v (noteM m l).ents) ∧ Hid (Fr [] w w') := by
  obtain ⟨k, hk⟩ : ∃ k, m.kind % 10 = k := ⟨_, rfl⟩
  have : k = 0 ∨ k = 1 ∨ k = 2 ∨ k = 3 ∨ k = 4 ∨ k = 5 ∨ k = 6 ∨ k = 7 ∨ k = 8 ∨ k = 9 := by omega
  rcases this with rfl | rfl | rfl | rfl | rfl | rfl | rfl | rfl | rfl | rfl
  · exact note_plain hk (by decide) (note_ip m ad n cp _ _ w he _ hk rfl)
  · exact note_plain hk (by decide) (note_y m ad n cp _ _ w he _ hk rfl)
  · exact note_plain hk (by decide) (note_ip m ad n cp _ _ w he _ hk rfl)
  · exact note_plain hk (by decide) (note_y m ad n cp _ _ w he _ hk rfl)
  · obtain ⟨r, hr⟩ : ∃ r, m.kind.tmod 10 = r := ⟨_, rfl⟩
    obtain ⟨h3, h4, h5, h6⟩ := rem10 m.kind r 4 hr hk
    have hE : ∀ L, (noteOf m L).ents = L := fun L => noteOf_some hk (by decide)
    unfold noteM
    rw [hE]
    obtain ⟨hl1, hl2, hl3⟩ := hl
    rcases hl3 with h0 | ⟨lb, lo, rfl, hm⟩
    · subst h0
      have hl0 : l = [] := List.eq_nil_of_length_eq_zero hl1
      subst hl0
      by_cases hneg : r < 0
      · exact note_ene m ad n cp w la lc he 4 r hr hneg (h3 hneg) (by omega) (by omega) hk rfl
      · have hr4 : r = 4 := h4 (by omega)
        subst hr4
        exact note_epe m ad n cp w la lc he _ hr (by omega) (by omega) hk rfl
    · by_cases hneg : r < 0
      · exact note_enr m ad n cp w l lb lo ln lc hl1 hm hl2 he 4 r hr hneg (h3 hneg) (by omega) (by omega) hk rfl
      · have hr4 : r = 4 := h4 (by omega)
        subst hr4
        exact note_epr m ad n cp w l lb lo ln lc hl1 hm hl2 he _ hr (by omega) (by omega) hk rfl
  · exact note_plain hk (by decide) (note_iyk m ad n cp _ _ w he _ hk rfl)
  · exact note_plain hk (by decide) (note_ips m ad n cp _ _ w he _ hk rfl)
  · exact note_plain hk (by decide) (note_i m ad n cp _ _ w he _ hk rfl)
  · exact note_plain hk (by decide) (note_k m ad n cp _ _ w he _ hk rfl)
  · exact note_plain hk (by decide) (note_k m ad n cp _ _ w he _ hk rfl)

theorem cutTo_size (n : Nat) (s : ByteArray) (h : s.size ≤ maxLen) : (cutTo n s).size ≤ maxLen := by
  unfold cutTo
  rw [ByteArray.size_extract]
  omega
theorem has_u64 {may : ByteArray} {c a : Int} (h : U64 a) : U64 (has' may c a 0) := by
  unfold has'
  split
  · exact h
  · unfold U64; omega
theorem nodeW_any (a : Int) (h : 0 ≤ a ∧ a < 18446744073709551616) (k : Int) (hk : 0 < k ∧ k < 10000) : U64 (a % k) := by
  unfold U64
  have := Int.emod_nonneg a (b := k) (by omega)
  have := Int.emod_lt_of_pos a (b := k) (by omega)
  omega
theorem nodeW_any1 (a : Int) (k : Int) (hk : 0 < k ∧ k < 10000) : U64 (a % k + 1) := by
  unfold U64
  have := Int.emod_nonneg a (b := k) (by omega)
  have := Int.emod_lt_of_pos a (b := k) (by omega)
  omega

theorem madeOf_fits (e : Ent) (h : e.Fits) : (madeOf e).Fits := by
  obtain ⟨h1, h2, h3, h4, h5, h6, h7, h8⟩ := h
  refine ⟨nodeW_any1 _ 1000 (by omega), nodeW_any1 _ 1000 (by omega), has_u64 (nodeW_any1 _ 5 (by omega)), has_u64 (nodeW_any _ h4 9 (by omega)), has_u64 (nodeW_any _ h5 9 (by omega)), has_u64 (nodeW_any _ h6 9 (by omega)), ?_, ?_⟩
  · show (if hasI _ 100 = true then cutTo 64 e.data else ⟨#[]⟩ : ByteArray).size ≤ maxLen
    split
    · exact cutTo_size 64 _ h7
    · exact Nat.zero_le _
  · show (if hasI _ 111 = true then cutTo 64 e.old else ⟨#[]⟩ : ByteArray).size ≤ maxLen
    split
    · exact cutTo_size 64 _ h8
    · exact Nat.zero_le _

theorem noteM_fits (m : Msg) (l : List Ent) (h : m.Fits) (hl : ∀ e, e ∈ l → e.Fits) : (noteM m l).Fits := by
  obtain ⟨h1, h2, h3, h4, h5, h6, h7, h8⟩ := h
  have hL : ∀ e, e ∈ (l.map madeOf).take 10 → e.Fits := fun e he => by
    obtain ⟨x, hx, rfl⟩ := List.mem_map.1 (List.mem_of_mem_take he)
    exact madeOf_fits x (hl x hx)
  refine ⟨h1, has_u64 h2, has_u64 h3, has_u64 h4, has_u64 h5, ?_, ?_, ?_⟩
  · show ∀ e, e ∈ (if hasI _ 101 = true then (l.map madeOf).take 10 else []) → e.Fits
    split
    · exact hL
    · intro e he; cases he
  · show (if hasI _ 101 = true then (l.map madeOf).take 10 else []).length ≤ maxLen
    split
    · rw [List.length_take]; unfold maxLen; omega
    · exact Nat.zero_le _
  · show (if hasI _ 115 = true then cutTo 200 m.snap else ⟨#[]⟩ : ByteArray).size ≤ maxLen
    split
    · exact cutTo_size 200 _ h8
    · exact Nat.zero_le _

/-- note, whatever it is handed: always the same message. -/
theorem noteAny (m : Msg) (own : Bool) (ad : Option Addr) (n cp : Nat) (l : List Ent) (la : Option Addr) (ln lc : Nat) (w : World) (he : m.Fits) (hv : Ents w (.slice ad n cp) m.ents) (hl : Mrow w la ln l) :
    ∃ mo : Msg, mo.Fits ∧ ∀ w1, Fr [] w w1 → Calls Tryd.prog 20 #[.agg #[.int .i64 m.kind, .int .i64 m.sent, .int .i64 m.goal, .int .u64 m.term, .int .u64 m.index, .int .u64 m.prev, .int .u64 m.commit, .int .u64 m.mark, .bool m.yes, .slice ad n cp, .string m.snap, .bool own, .slice la ln lc]] w1
      fun e w' => ∃ v, e = .returned (.agg (mo.cells v)) ∧ Hid (Ents w' v mo.ents) ∧ Hid (Fr [] w1 w') := by
  cases own with
  | true => exact ⟨noteM m l, noteM_fits m l he hl.2.1, fun w1 f => note_own m ad n cp l la ln lc w1 he (hl.fr0 f)⟩
  | false => exact ⟨m, he, fun w1 f => (note_as m ad n cp (.slice la ln lc) w1).mono fun e w' ⟨h1, h2⟩ => ⟨_, h1, (hv.fr0 f).fr0 h2, h2⟩⟩
end Go.Proofs.YthfaaoeecajkeaaDoor

namespace Go.Proofs.YthfaaoeecajkeaaDoor
open Go.ChangeShapes Go.WideShapes Go.RowKit Go.Deep
set_option maxRecDepth 100000

section
variable {H : Type} {enc : TypeId × Value → H} {w : World} {base : Nat} {spare : Nat → Bool} {held : Bool}

theorem one_u64 (hc : Tryd.prog.cellsOf 22 = 1) {n : Nat} {L : List Value} {v : Value} (hL : L.take 1 = [v]) {y : Option (DataW H × List MemPlace)} (hy : ∃ z, y = some z) (h : DataW.trod enc Tryd.prog w base spare held n 22 (List.take (Tryd.prog.cellsOf 22) L) = y) : ∃ x : Int, v = .int .u64 x ∧ U64 x := by
  obtain ⟨z, rfl⟩ := hy
  rw [hc, hL] at h
  obtain ⟨x, e, -, wf⟩ := DataW.trod_int Tryd.underlying22 h
  simp at e
  have := bounds_u64 wf
  exact ⟨x, e, by unfold U64; omega⟩
theorem one_i64 (hc : Tryd.prog.cellsOf 3 = 1) {n : Nat} {L : List Value} {v : Value} (hL : L.take 1 = [v]) {y : Option (DataW H × List MemPlace)} (hy : ∃ z, y = some z) (h : DataW.trod enc Tryd.prog w base spare held n 3 (List.take (Tryd.prog.cellsOf 3) L) = y) : ∃ x : Int, v = .int .i64 x ∧ -9223372036854775808 ≤ x ∧ x ≤ 9223372036854775807 := by
  obtain ⟨z, rfl⟩ := hy
  rw [hc, hL] at h
  obtain ⟨x, e, -, wf⟩ := DataW.trod_int Tryd.underlying3 h
  simp at e
  exact ⟨x, e, bounds_i64 wf⟩
theorem one_str (hc : Tryd.prog.cellsOf 9 = 1) {n : Nat} {L : List Value} {v : Value} (hL : L.take 1 = [v]) {y : Option (DataW H × List MemPlace)} (hy : ∃ z, y = some z) (h : DataW.trod enc Tryd.prog w base spare held n 9 (List.take (Tryd.prog.cellsOf 9) L) = y) : ∃ x : ByteArray, v = .string x ∧ x.size ≤ maxLen := by
  obtain ⟨z, rfl⟩ := hy
  rw [hc, hL] at h
  obtain ⟨x, e, -, wf⟩ := DataW.trod_string Tryd.underlying9 h
  simp at e
  exact ⟨x, e, wf⟩
theorem one_bool (hc : Tryd.prog.cellsOf 4 = 1) {n : Nat} {L : List Value} {v : Value} (hL : L.take 1 = [v]) {y : Option (DataW H × List MemPlace)} (hy : ∃ z, y = some z) (h : DataW.trod enc Tryd.prog w base spare held n 4 (List.take (Tryd.prog.cellsOf 4) L) = y) : ∃ x : Bool, v = .bool x := by
  obtain ⟨z, rfl⟩ := hy
  rw [hc, hL] at h
  obtain ⟨x, e, -⟩ := DataW.trod_bool Tryd.underlying4 h
  simp at e
  exact ⟨x, e⟩
theorem c_u64 : Tryd.prog.cellsOf 22 = 1 := by kernel_rfl
theorem c_i64 : Tryd.prog.cellsOf 3 = 1 := by kernel_rfl
theorem c_str : Tryd.prog.cellsOf 9 = 1 := by kernel_rfl
theorem c_bool : Tryd.prog.cellsOf 4 = 1 := by kernel_rfl
theorem c_ent : Tryd.prog.cellsOf 24 = 11 := by kernel_rfl
theorem c_made : Tryd.prog.cellsOf 26 = 12 := by kernel_rfl
theorem c_msg : Tryd.prog.cellsOf 47 = 11 := by kernel_rfl
theorem c_note : Tryd.prog.cellsOf 50 = 13 := by kernel_rfl
theorem c_ents : Tryd.prog.cellsOf 45 = 1 := by kernel_rfl
theorem c_mades : Tryd.prog.cellsOf 48 = 1 := by kernel_rfl

theorem some_at {α : Type} {xs : List α} {n i : Nat} (h : xs.length = n) (hi : i < n) : ∃ z, xs[i]? = some z := ⟨_, List.getElem?_eq_getElem (by omega)⟩

theorem ent_of {n : Nat} {cs : List Value} {y : DataW H × List MemPlace} (h : DataW.trod enc Tryd.prog w base spare held n 24 cs = some y) : ∃ e : Ent, e.Fits ∧ cs = e.cells.toList := by
  obtain ⟨xs, m, _, _, hlen, hx, hf⟩ := DataW.trod_struct Tryd.underlying24 h
  rw [c_ent] at hlen
  have hx' : xs.length = 11 := hx
  match cs, hlen with
  | [c0, c1, c2, c3, c4, c5, c6, c7, c8, c9, c10], _ =>
    obtain ⟨t, rfl, ft⟩ := one_u64 c_u64 (L := ([c0, c1, c2, c3, c4, c5, c6, c7, c8, c9, c10] : List Value)) (v := c0) rfl (some_at hx' (i := 0) (by decide)) (hf 0 _ rfl)
    obtain ⟨ix, rfl, fi⟩ := one_u64 c_u64 (L := ([c1, c2, c3, c4, c5, c6, c7, c8, c9, c10] : List Value)) (v := c1) rfl (some_at hx' (i := 1) (by decide)) (hf 1 _ rfl)
    obtain ⟨k, rfl, fk⟩ := one_i64 c_i64 (L := ([c2, c3, c4, c5, c6, c7, c8, c9, c10] : List Value)) (v := c2) rfl (some_at hx' (i := 2) (by decide)) (hf 2 _ rfl)
    obtain ⟨cl, rfl, fcl⟩ := one_u64 c_u64 (L := ([c3, c4, c5, c6, c7, c8, c9, c10] : List Value)) (v := c3) rfl (some_at hx' (i := 3) (by decide)) (hf 3 _ rfl)
    obtain ⟨sq, rfl, fsq⟩ := one_u64 c_u64 (L := ([c4, c5, c6, c7, c8, c9, c10] : List Value)) (v := c4) rfl (some_at hx' (i := 4) (by decide)) (hf 4 _ rfl)
    obtain ⟨bl, rfl, fbl⟩ := one_u64 c_u64 (L := ([c5, c6, c7, c8, c9, c10] : List Value)) (v := c5) rfl (some_at hx' (i := 5) (by decide)) (hf 5 _ rfl)
    obtain ⟨mn, rfl, fmn⟩ := one_u64 c_u64 (L := ([c6, c7, c8, c9, c10] : List Value)) (v := c6) rfl (some_at hx' (i := 6) (by decide)) (hf 6 _ rfl)
    obtain ⟨nd, rfl, fnd⟩ := one_i64 c_i64 (L := ([c7, c8, c9, c10] : List Value)) (v := c7) rfl (some_at hx' (i := 7) (by decide)) (hf 7 _ rfl)
    obtain ⟨lv, rfl, flv⟩ := one_i64 c_i64 (L := ([c8, c9, c10] : List Value)) (v := c8) rfl (some_at hx' (i := 8) (by decide)) (hf 8 _ rfl)
    obtain ⟨da, rfl, fda⟩ := one_str c_str (L := ([c9, c10] : List Value)) (v := c9) rfl (some_at hx' (i := 9) (by decide)) (hf 9 _ rfl)
    obtain ⟨ol, rfl, fol⟩ := one_str c_str (L := ([c10] : List Value)) (v := c10) rfl (some_at hx' (i := 10) (by decide)) (hf 10 _ rfl)
    exact ⟨⟨t, ix, k, cl, sq, bl, mn, nd, lv, da, ol⟩, ⟨ft, fi, fcl, fsq, fbl, fmn, fda, fol⟩, rfl⟩

theorem made_of {n : Nat} {cs : List Value} {y : DataW H × List MemPlace} (h : DataW.trod enc Tryd.prog w base spare held n 26 cs = some y) : ∃ (e : Ent) (q : Bool), e.Fits ∧ cs = e.cells.toList ++ [.bool q] := by
  obtain ⟨xs, m, _, _, hlen, hx, hf⟩ := DataW.trod_struct Tryd.underlying26 h
  rw [c_made] at hlen
  have hx' : xs.length = 2 := hx
  match cs, hlen with
  | [c0, c1, c2, c3, c4, c5, c6, c7, c8, c9, c10, c11], _ =>
    obtain ⟨z, hz⟩ := some_at hx' (i := 0) (by decide)
    have h0 : DataW.trod enc Tryd.prog w base spare held m 24 (List.take (Tryd.prog.cellsOf 24) [c0, c1, c2, c3, c4, c5, c6, c7, c8, c9, c10, c11]) = xs[0]? := hf 0 _ rfl
    rw [hz, c_ent] at h0
    obtain ⟨e, fe, he⟩ := ent_of h0
    obtain ⟨q, rfl⟩ := one_bool c_bool (L := ([c11] : List Value)) (v := c11) rfl (some_at hx' (i := 1) (by decide)) (hf 1 _ rfl)
    refine ⟨e, q, fe, ?_⟩
    rw [← he]
    rfl

/-- A list of what is there at each place. -/
theorem list_of {α : Type} {p : Nat → α → Prop} : ∀ {n : Nat}, (∀ i, i < n → ∃ x, p i x) → ∃ l : List α, l.length = n ∧ ∀ i (hi : i < l.length), p i l[i] := by
  intro n
  induction n with
  | zero => intro _; exact ⟨[], rfl, fun i hi => by simp at hi⟩
  | succ n ih =>
    intro h
    obtain ⟨l, h1, h2⟩ := ih (fun i hi => h i (by omega))
    obtain ⟨x, hx⟩ := h n (by omega)
    refine ⟨l ++ [x], by simp [h1], fun i hi => ?_⟩
    rw [List.getElem_append]
    split
    · rename_i h3; exact h2 i h3
    · rename_i h3
      have : i = n := by simp at hi; omega
      subst this
      simpa [h1] using hx

theorem add_plain (b o k : Nat) : (⟨b, o, none⟩ : Addr).add k = ⟨b, o + k, none⟩ := by
  unfold Addr.add
  split
  · rename_i h; subst h; rfl
  · rfl
theorem addr_plain {a : Addr} {v : Value} (h : w.cell? a = some v) : ∃ b o, a = ⟨b, o, none⟩ := by
  obtain ⟨b, o, sp⟩ := a
  cases sp with
  | none => exact ⟨b, o, rfl⟩
  | some z =>
    exfalso
    unfold World.cell? at h
    split at h <;> simp at h

theorem ents_of {n : Nat} {cs : List Value} {y : DataW H × List MemPlace} (h : DataW.trod enc Tryd.prog w base spare held n 45 cs = some y) :
    ∃ (a : Option Addr) (len cap : Nat) (l : List Ent), cs = [.slice a len cap] ∧ len ≤ maxLen ∧ l.length = len ∧ (∀ e, e ∈ l → e.Fits) ∧ Ents w (.slice a len cap) l := by
  rcases open_slice Tryd.underlying45 h with h0 | ⟨a, len, cap, m, n', D, Pl, hcs, hb, hl, hm, hmm, hx, hi⟩
  · exact ⟨none, 0, 0, [], h0.1, by unfold maxLen; omega, rfl, fun e he => (by cases he), .inl ⟨rfl, none, 0, rfl⟩⟩
  · have hlm : len ≤ m := by rw [hmm]; split <;> omega
    obtain ⟨l, hll, hlp⟩ := list_of (p := fun i (e : Ent) => e.Fits ∧ ∀ j, j < 11 → w.cell? (a.add (i * 11 + j)) = e.cells[j]?) (n := len) (fun i hil => by
      obtain ⟨cs', hc, ht'⟩ := hi i (by omega)
      rw [c_ent] at hc
      obtain ⟨e, fe, rfl⟩ := ent_of ht'
      obtain ⟨_, _, hat⟩ := World.cells?_some hc
      refine ⟨e, fe, fun j hj => ?_⟩
      have := hat j hj
      rw [Go.Deep.add_add] at this
      rw [this]
      simp)
    have hfit : ∀ e, e ∈ l → e.Fits := fun e he => by
      obtain ⟨i, hi', rfl⟩ := List.getElem_of_mem he
      exact (hlp i hi').1
    refine ⟨some a, len, cap, l, hcs, by omega, hll, hfit, ?_⟩
    rcases Nat.eq_zero_or_pos len with h0 | h0
    · subst h0
      exact .inl ⟨List.eq_nil_of_length_eq_zero hll, some a, cap, rfl⟩
    · have h1 := (hlp 0 (by omega)).2 0 (by decide)
      have h2 : (l[0]'(by omega)).cells[0]? = some (.int .u64 (l[0]'(by omega)).term) := rfl
      rw [h2] at h1
      have h3 : a.add (0 * 11 + 0) = a := rfl
      rw [h3] at h1
      obtain ⟨b, o, rfl⟩ := addr_plain h1
      refine .inr ⟨b, o, cap, by rw [hll], World.block_lt_of_cell? w _ h1, fun j hj i hi' => ?_⟩
      have := (hlp j hj).2 i hi'
      rw [add_plain] at this
      rw [Nat.add_assoc]
      exact this

theorem mades_of {n : Nat} {cs : List Value} {y : DataW H × List MemPlace} (h : DataW.trod enc Tryd.prog w base spare held n 48 cs = some y) :
    ∃ (a : Option Addr) (len cap : Nat) (l : List Ent), cs = [.slice a len cap] ∧ len ≤ maxLen ∧ Mrow w a len l := by
  rcases open_slice Tryd.underlying48 h with h0 | ⟨a, len, cap, m, n', D, Pl, hcs, hb, hl, hm, hmm, hx, hi⟩
  · exact ⟨none, 0, 0, [], h0.1, by unfold maxLen; omega, rfl, fun e he => (by cases he), .inl rfl⟩
  · have hlm : len ≤ m := by rw [hmm]; split <;> omega
    obtain ⟨l, hll, hlp⟩ := list_of (p := fun i (e : Ent) => e.Fits ∧ (∀ j, j < 11 → w.cell? (a.add (i * 12 + j)) = e.cells[j]?) ∧ ∃ q, w.cell? (a.add (i * 12 + 11)) = some (.bool q)) (n := len) (fun i hil => by
      obtain ⟨cs', hc, ht'⟩ := hi i (by omega)
      rw [c_made] at hc
      obtain ⟨e, q, fe, rfl⟩ := made_of ht'
      obtain ⟨_, _, hat⟩ := World.cells?_some hc
      have h11 : e.cells.toList.length = 11 := rfl
      refine ⟨e, fe, fun j hj => ?_, q, ?_⟩
      · have := hat j (by omega)
        rw [Go.Deep.add_add] at this
        rw [this, List.getElem?_append_left (by omega)]
        simp
      · have := hat 11 (by omega)
        rw [Go.Deep.add_add] at this
        rw [this, List.getElem?_append_right (by omega), h11]
        rfl)
    have hfit : ∀ e, e ∈ l → e.Fits := fun e he => by
      obtain ⟨i, hi', rfl⟩ := List.getElem_of_mem he
      exact (hlp i hi').1
    refine ⟨some a, len, cap, l, hcs, by omega, hll, hfit, ?_⟩
    rcases Nat.eq_zero_or_pos len with h0 | h0
    · exact .inl h0
    · have h1 := (hlp 0 (by omega)).2.1 0 (by decide)
      have h2 : (l[0]'(by omega)).cells[0]? = some (.int .u64 (l[0]'(by omega)).term) := rfl
      rw [h2] at h1
      have h3 : a.add (0 * 12 + 0) = a := rfl
      rw [h3] at h1
      obtain ⟨b, o, rfl⟩ := addr_plain h1
      refine .inr ⟨b, o, rfl, fun j hj => ⟨fun i hi' => ?_, ?_⟩⟩
      · have := (hlp j hj).2.1 i hi'
        rw [add_plain] at this
        rw [Nat.add_assoc]
        exact this
      · obtain ⟨q, hq⟩ := (hlp j hj).2.2
        rw [add_plain] at hq
        exact ⟨q, by rw [Nat.add_assoc]; exact hq⟩

theorem msg_of {n : Nat} {cs : List Value} {y : DataW H × List MemPlace} (h : DataW.trod enc Tryd.prog w base spare held n 47 cs = some y) :
    ∃ (m : Msg) (ad : Option Addr) (len cap : Nat), m.Fits ∧ cs = (m.cells (.slice ad len cap)).toList ∧ Ents w (.slice ad len cap) m.ents := by
  obtain ⟨xs, k, _, _, hlen, hx, hf⟩ := DataW.trod_struct Tryd.underlying47 h
  rw [c_msg] at hlen
  have hx' : xs.length = 11 := hx
  match cs, hlen with
  | [c0, c1, c2, c3, c4, c5, c6, c7, c8, c9, c10], _ =>
    obtain ⟨kd, rfl, fkd⟩ := one_i64 c_i64 (L := ([c0, c1, c2, c3, c4, c5, c6, c7, c8, c9, c10] : List Value)) (v := c0) rfl (some_at hx' (i := 0) (by decide)) (hf 0 _ rfl)
    obtain ⟨se, rfl, fse⟩ := one_i64 c_i64 (L := ([c1, c2, c3, c4, c5, c6, c7, c8, c9, c10] : List Value)) (v := c1) rfl (some_at hx' (i := 1) (by decide)) (hf 1 _ rfl)
    obtain ⟨go', rfl, fgo⟩ := one_i64 c_i64 (L := ([c2, c3, c4, c5, c6, c7, c8, c9, c10] : List Value)) (v := c2) rfl (some_at hx' (i := 2) (by decide)) (hf 2 _ rfl)
    obtain ⟨te, rfl, fte⟩ := one_u64 c_u64 (L := ([c3, c4, c5, c6, c7, c8, c9, c10] : List Value)) (v := c3) rfl (some_at hx' (i := 3) (by decide)) (hf 3 _ rfl)
    obtain ⟨ix, rfl, fix⟩ := one_u64 c_u64 (L := ([c4, c5, c6, c7, c8, c9, c10] : List Value)) (v := c4) rfl (some_at hx' (i := 4) (by decide)) (hf 4 _ rfl)
    obtain ⟨pr, rfl, fpr⟩ := one_u64 c_u64 (L := ([c5, c6, c7, c8, c9, c10] : List Value)) (v := c5) rfl (some_at hx' (i := 5) (by decide)) (hf 5 _ rfl)
    obtain ⟨co, rfl, fco⟩ := one_u64 c_u64 (L := ([c6, c7, c8, c9, c10] : List Value)) (v := c6) rfl (some_at hx' (i := 6) (by decide)) (hf 6 _ rfl)
    obtain ⟨ma, rfl, fma⟩ := one_u64 c_u64 (L := ([c7, c8, c9, c10] : List Value)) (v := c7) rfl (some_at hx' (i := 7) (by decide)) (hf 7 _ rfl)
    obtain ⟨ye, rfl⟩ := one_bool c_bool (L := ([c8, c9, c10] : List Value)) (v := c8) rfl (some_at hx' (i := 8) (by decide)) (hf 8 _ rfl)
    obtain ⟨z, hz⟩ := some_at hx' (i := 9) (by decide)
    have h9 : DataW.trod enc Tryd.prog w base spare held k 45 (List.take (Tryd.prog.cellsOf 45) [c9, c10]) = xs[9]? := hf 9 _ rfl
    rw [hz, c_ents] at h9
    obtain ⟨ad, len, cap, l, he, hlm, hll, hlf, hle⟩ := ents_of h9
    have he' : c9 = .slice ad len cap := by simpa using he
    subst he'
    obtain ⟨sn, rfl, fsn⟩ := one_str c_str (L := ([c10] : List Value)) (v := c10) rfl (some_at hx' (i := 10) (by decide)) (hf 10 _ rfl)
    exact ⟨⟨kd, se, go', te, ix, pr, co, ma, ye, l, sn⟩, ad, len, cap, ⟨fte, fix, fpr, fco, fma, hlf, by show l.length ≤ maxLen; omega, fsn⟩, rfl, hle⟩

theorem note_of {r : Reach} {b0 : Nat} {v : Value} {d : DataW H} {p : List MemPlace} (hv : Value.okWide Tryd.prog w r b0 50 v) (h : DataW.Trod enc Tryd.prog w base spare held 50 v d p) :
    ∃ (m : Msg) (own : Bool) (ad : Option Addr) (n cp : Nat) (l : List Ent) (la : Option Addr) (ln lc : Nat), v = .agg #[.int .i64 m.kind, .int .i64 m.sent, .int .i64 m.goal, .int .u64 m.term, .int .u64 m.index, .int .u64 m.prev, .int .u64 m.commit, .int .u64 m.mark, .bool m.yes, .slice ad n cp, .string m.snap, .bool own, .slice la ln lc] ∧
      m.Fits ∧ Ents w (.slice ad n cp) m.ents ∧ ln ≤ maxLen ∧ Mrow w la ln l := by
  obtain ⟨cs, rfl, hsz⟩ := okWide_struct Tryd.underlying50 hv
  obtain ⟨cs⟩ := cs
  obtain ⟨fuel, hf0⟩ := h
  have hf1 : DataW.trod enc Tryd.prog w base spare held fuel 50 cs = some (d, p) := hf0
  obtain ⟨xs, k, _, _, hlen, hx, hf⟩ := DataW.trod_struct Tryd.underlying50 hf1
  rw [c_note] at hlen
  have hx' : xs.length = 3 := hx
  match cs, hlen with
  | [c0, c1, c2, c3, c4, c5, c6, c7, c8, c9, c10, c11, c12], _ =>
    obtain ⟨z, hz⟩ := some_at hx' (i := 0) (by decide)
    have h0 : DataW.trod enc Tryd.prog w base spare held k 47 (List.take (Tryd.prog.cellsOf 47) [c0, c1, c2, c3, c4, c5, c6, c7, c8, c9, c10, c11, c12]) = xs[0]? := hf 0 _ rfl
    rw [hz, c_msg] at h0
    obtain ⟨m, ad, n, cp, fm, hm, hE⟩ := msg_of h0
    obtain ⟨own, rfl⟩ := one_bool c_bool (L := ([c11, c12] : List Value)) (v := c11) rfl (some_at hx' (i := 1) (by decide)) (hf 1 _ rfl)
    obtain ⟨z2, hz2⟩ := some_at hx' (i := 2) (by decide)
    have h2 : DataW.trod enc Tryd.prog w base spare held k 48 (List.take (Tryd.prog.cellsOf 48) [c12]) = xs[2]? := hf 2 _ rfl
    rw [hz2, c_mades] at h2
    obtain ⟨la, ln, lc, l, he, hlm, hl⟩ := mades_of h2
    have he' : c12 = .slice la ln lc := by simpa using he
    subst he'
    have hm' : [c0, c1, c2, c3, c4, c5, c6, c7, c8, c9, c10] = (m.cells (.slice ad n cp)).toList := hm
    unfold Msg.cells at hm'
    simp only [List.cons.injEq, and_true] at hm'
    obtain ⟨rfl, rfl, rfl, rfl, rfl, rfl, rfl, rfl, rfl, rfl, rfl⟩ := hm'
    exact ⟨m, own, ad, n, cp, l, la, ln, lc, rfl, fm, hE, hlm, hl⟩
end
end Go.Proofs.YthfaaoeecajkeaaDoor

namespace Go.Proofs.YthfaaoeecajkeaaDoor
open Go.ChangeShapes Go.WideShapes Go.RowKit Go.Deep
set_option maxRecDepth 100000

theorem made_arg {H : Type} {enc : TypeId × Value → H} {w : World} {base : Nat} {spare : Nat → Bool} {held : Bool} {r : Reach} {b0 : Nat} {v : Value} {d : DataW H} {p : List MemPlace} (hv : Value.okWide Tryd.prog w r b0 26 v) (h : DataW.Trod enc Tryd.prog w base spare held 26 v d p) :
    ∃ (e : Ent) (q : Bool), v = .agg #[.int .u64 e.term, .int .u64 e.index, .int .i64 e.kind, .int .u64 e.client, .int .u64 e.seq, .int .u64 e.block, .int .u64 e.many, .int .i64 e.node, .int .i64 e.level, .string e.data, .string e.old, .bool q] ∧ e.Fits := by
  obtain ⟨cs, rfl, hsz⟩ := okWide_struct Tryd.underlying26 hv
  obtain ⟨cs⟩ := cs
  obtain ⟨fuel, hf0⟩ := h
  have hf1 : DataW.trod enc Tryd.prog w base spare held fuel 26 cs = some (d, p) := hf0
  obtain ⟨e, q, fe, he⟩ := made_of hf1
  exact ⟨e, q, by rw [he]; rfl, fe⟩

/-- What the rows list. -/
def laidL : List (String × DataW Unit) := [("unicode/utf8.acceptRanges", Rows.laid_unicode_utf8_acceptRanges), ("unicode/utf8.first", Rows.laid_unicode_utf8_first)]
end Go.Proofs.YthfaaoeecajkeaaDoor
