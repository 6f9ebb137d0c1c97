/-
  Texts of this seat, joined: RNe2 RNe3.
-/
import Derived.Test.YthfaaoeecajkeaaDoorW27
import Derived.Deep.RegionWith
import Derived.Test.YthfaaoeecajkeaaDoorWtk
set_option linter.unusedSimpArgs false
set_option linter.unusedVariables false
namespace Go.Proofs.YthfaaoeecajkeaaDoor
open List renaming getElem?_toArray → lg0, getElem?_cons_succ → lg1, getElem?_cons_zero → lg2, setIfInBounds_toArray → lt0', set_cons_zero → lt1', set_cons_succ → lt2'
open Go.RowKit

set_option maxRecDepth 100000 in
set_option maxHeartbeats 8000000 in
theorem note_enr (m : Msg) (ad : Option Addr) (n cp : Nat) (w : World) (l : List Ent) (lb lo ln lc : Nat) (hlen : l.length = ln) (hmad : Mads w lb lo l) (hfits : ∀ e, e ∈ l → e.Fits) (he : m.Fits) (kk r : Int) (hr : m.kind.tmod 10 = r) (hneg : r < 0) (hrk : r + 10 = kk) (hk9 : kk < 10) (hk0 : -1 < kk) (hK : m.kind % 10 = kk) (hkind : msgMay (kk + 1) = (⟨#[105, 112, 116, 101, 107]⟩, true)) :
    Calls Tryd.prog 20 #[.agg #[.int .i64 m.kind, .int .i64 m.sent, .int .i64 m.goal, .int .u64 m.term, .int .u64 m.index, .int .u64 m.prev, .int .u64 m.commit, .int .u64 m.mark, .bool m.yes, .slice ad n cp, .string m.snap, .bool true, .slice (some ⟨lb, lo, none⟩) ln lc]] w fun e w' => ∃ v, e = .returned (.agg ((noteOf m ((l.map madeOf).take 10)).cells v)) ∧ Hid (Ents w' v ((l.map madeOf).take 10)) ∧ Hid (Fr [] w w') := by
  obtain ⟨hT, hI, hP, hC, hKm, _, _, hS⟩ := he
  unfold U64 maxLen at *
  have HRes : Hid (∀ v : Value, (Ending.returned (.agg #[.int .i64 (kk + 1), .int .i64 (wrap64 (wrap64 ((IntKind.u64.wrap m.sent).tmod 7) + 1)), .int .i64 (wrap64 (wrap64 ((IntKind.u64.wrap m.goal).tmod 7) + 1)), .int .u64 m.term, .int .u64 m.index, .int .u64 m.prev, .int .u64 m.commit, .int .u64 m.mark, .bool false, v, .string ⟨#[]⟩]) : Ending) = .returned (.agg ((noteOf m ((l.map madeOf).take 10)).cells v))) := by
    intro v
    unfold noteOf Msg.cells has' nodeW
    simp only [hK, hkind]
    rfl
  have HF := Lib.hid (rMsgFields (kk + 1))
  rw [hkind] at HF
  clear hkind hK
  have HLl := Lib.hid hlen
  have HMads := Lib.hid hmad
  have HFits := Lib.hid hfits
  clear hlen hmad hfits
  have hr0 : decide (r < 0) = true := by simp; omega
  go_enter Tryd.func20, Tryd.ntmps20
  go_wp2_with fail
  refine (HF.out _).mono ?_
  rintro r' w2 ⟨rfl, g2⟩
  have A1 : Fr [] w (w.alloc (.cells #[.int .i64 m.kind, .int .i64 m.sent, .int .i64 m.goal, .int .u64 m.term, .int .u64 m.index, .int .u64 m.prev, .int .u64 m.commit, .int .u64 m.mark, .bool m.yes, .slice ad n cp, .string m.snap, .bool true, .slice (some ⟨lb, lo, none⟩) ln lc] 50)) := (Fr.refl _ _).alloc _
  have B3 : Blk w2 (w.heap.size + 1 + 1) #[.int .i64 m.kind, .int .i64 m.sent, .int .i64 m.goal, .int .u64 m.term, .int .u64 m.index, .int .u64 m.prev, .int .u64 m.commit, .int .u64 m.mark, .bool m.yes, .slice ad n cp, .string m.snap] 47 := by
    have h := Blk.fr0 (Blk.new ((w.alloc (.cells #[.int .i64 m.kind, .int .i64 m.sent, .int .i64 m.goal, .int .u64 m.term, .int .u64 m.index, .int .u64 m.prev, .int .u64 m.commit, .int .u64 m.mark, .bool m.yes, .slice ad n cp, .string m.snap, .bool true, .slice (some ⟨lb, lo, none⟩) ln lc] 50)).alloc (.cells #[.int .i64 0, .int .i64 0, .int .i64 0, .int .u64 0, .int .u64 0, .int .u64 0, .int .u64 0, .int .u64 0, .bool false, .slice none 0 0, .string ⟨#[]⟩] 47)) #[.int .i64 m.kind, .int .i64 m.sent, .int .i64 m.goal, .int .u64 m.term, .int .u64 m.index, .int .u64 m.prev, .int .u64 m.commit, .int .u64 m.mark, .bool m.yes, .slice ad n cp, .string m.snap] 47) g2
    rw [show ((w.alloc (.cells #[.int .i64 m.kind, .int .i64 m.sent, .int .i64 m.goal, .int .u64 m.term, .int .u64 m.index, .int .u64 m.prev, .int .u64 m.commit, .int .u64 m.mark, .bool m.yes, .slice ad n cp, .string m.snap, .bool true, .slice (some ⟨lb, lo, none⟩) ln lc] 50)).alloc (.cells #[.int .i64 0, .int .i64 0, .int .i64 0, .int .u64 0, .int .u64 0, .int .u64 0, .int .u64 0, .int .u64 0, .bool false, .slice none 0 0, .string ⟨#[]⟩] 47)).heap.size = w.heap.size + 1 + 1 by simp] at h
    exact h
  have BN : Hid (Blk w2 w.heap.size #[.int .i64 m.kind, .int .i64 m.sent, .int .i64 m.goal, .int .u64 m.term, .int .u64 m.index, .int .u64 m.prev, .int .u64 m.commit, .int .u64 m.mark, .bool m.yes, .slice ad n cp, .string m.snap, .bool true, .slice (some ⟨lb, lo, none⟩) ln lc] 50) := Blk.fr0 (((Blk.new w #[.int .i64 m.kind, .int .i64 m.sent, .int .i64 m.goal, .int .u64 m.term, .int .u64 m.index, .int .u64 m.prev, .int .u64 m.commit, .int .u64 m.mark, .bool m.yes, .slice ad n cp, .string m.snap, .bool true, .slice (some ⟨lb, lo, none⟩) ln lc] 50).alloc _).alloc _) g2
  have HB3 := Lib.hid B3
  have B2 : Blk w2 (w.heap.size + 1) #[.int .i64 0, .int .i64 0, .int .i64 0, .int .u64 0, .int .u64 0, .int .u64 0, .int .u64 0, .int .u64 0, .bool false, .slice none 0 0, .string ⟨#[]⟩] 47 := by
    have h := Blk.fr0 (Blk.alloc (Blk.new (w.alloc (.cells #[.int .i64 m.kind, .int .i64 m.sent, .int .i64 m.goal, .int .u64 m.term, .int .u64 m.index, .int .u64 m.prev, .int .u64 m.commit, .int .u64 m.mark, .bool m.yes, .slice ad n cp, .string m.snap, .bool true, .slice (some ⟨lb, lo, none⟩) ln lc] 50)) #[.int .i64 0, .int .i64 0, .int .i64 0, .int .u64 0, .int .u64 0, .int .u64 0, .int .u64 0, .int .u64 0, .bool false, .slice none 0 0, .string ⟨#[]⟩] 47) (.cells #[.int .i64 m.kind, .int .i64 m.sent, .int .i64 m.goal, .int .u64 m.term, .int .u64 m.index, .int .u64 m.prev, .int .u64 m.commit, .int .u64 m.mark, .bool m.yes, .slice ad n cp, .string m.snap] 47)) g2
    rw [show (w.alloc (.cells #[.int .i64 m.kind, .int .i64 m.sent, .int .i64 m.goal, .int .u64 m.term, .int .u64 m.index, .int .u64 m.prev, .int .u64 m.commit, .int .u64 m.mark, .bool m.yes, .slice ad n cp, .string m.snap, .bool true, .slice (some ⟨lb, lo, none⟩) ln lc] 50)).heap.size = w.heap.size + 1 by simp] at h
    exact h
  have HF2 : Hid (Fr [] w w2) := ((A1.alloc _).alloc _).trans0 g2
  have hlt := B3.lt
  clear A1 g2
  generalize hX : w.heap.size = bx at *
  have HX := Lib.hid hX
  clear hX
  have f0 := B3.cellAt (i := 0) rfl
  have f0' := ca B3 0
  have q0 := ca B2 0
  have z0 := za B2 0
  have f1 := B3.cellAt (i := 1) rfl
  have f1' := ca B3 1
  have q1 := ca B2 1
  have z1 := za B2 1
  have f2 := B3.cellAt (i := 2) rfl
  have f2' := ca B3 2
  have q2 := ca B2 2
  have z2 := za B2 2
  have f3 := B3.cellAt (i := 3) rfl
  have f3' := ca B3 3
  have q3 := ca B2 3
  have z3 := za B2 3
  have f4 := B3.cellAt (i := 4) rfl
  have f4' := ca B3 4
  have q4 := ca B2 4
  have z4 := za B2 4
  have f5 := B3.cellAt (i := 5) rfl
  have f5' := ca B3 5
  have q5 := ca B2 5
  have z5 := za B2 5
  have f6 := B3.cellAt (i := 6) rfl
  have f6' := ca B3 6
  have q6 := ca B2 6
  have z6 := za B2 6
  have f7 := B3.cellAt (i := 7) rfl
  have f7' := ca B3 7
  have q7 := ca B2 7
  have z7 := za B2 7
  have f8 := B3.cellAt (i := 8) rfl
  have f8' := ca B3 8
  have q8 := ca B2 8
  have z8 := za B2 8
  have f9 := B3.cellAt (i := 9) rfl
  have f9' := ca B3 9
  have q9 := ca B2 9
  have z9 := za B2 9
  have f10 := B3.cellAt (i := 10) rfl
  have f10' := ca B3 10
  have q10 := ca B2 10
  have z10 := za B2 10
  have HB2 := Lib.hid B2
  clear B2 B3
  go_wp2_with fail
  have HLT : Hid (bx + 1 < w2.heap.size) := HB2.out.lt
  have BxL : w2.cell? ⟨bx, 12, none⟩ = some (.slice (some ⟨lb, lo, none⟩) ln lc) := BN.out.cellAt (i := 12) rfl
  have BxL' := ca BN.out 12
  refine wp_loop_rounds 6 ?_
  rw [rounds_succ]
  go_wp2_with fail
  rw [rounds_succ]
  go_wp2_with fail
  rw [rounds_succ]
  go_wp2_with fail
  rw [rounds_succ]
  go_wp2_with fail
  have BO : Hid (Blk (w2.alloc (.cells #[.int .i64 (kk + 1), .int .i64 (wrap64 (wrap64 ((IntKind.u64.wrap m.sent).tmod 7) + 1)), .int .i64 (wrap64 (wrap64 ((IntKind.u64.wrap m.goal).tmod 7) + 1)), .int .u64 m.term, .int .u64 m.index, .int .u64 m.prev, .int .u64 m.commit, .int .u64 0, .bool false, .slice none 0 0, .string ⟨#[]⟩] 47)) w2.heap.size #[.int .i64 (kk + 1), .int .i64 (wrap64 (wrap64 ((IntKind.u64.wrap m.sent).tmod 7) + 1)), .int .i64 (wrap64 (wrap64 ((IntKind.u64.wrap m.goal).tmod 7) + 1)), .int .u64 m.term, .int .u64 m.index, .int .u64 m.prev, .int .u64 m.commit, .int .u64 0, .bool false, .slice none 0 0, .string ⟨#[]⟩] 47) := Blk.new _ _ _
  have FO : Hid (Fr [] w2 (w2.alloc (.cells #[.int .i64 (kk + 1), .int .i64 (wrap64 (wrap64 ((IntKind.u64.wrap m.sent).tmod 7) + 1)), .int .i64 (wrap64 (wrap64 ((IntKind.u64.wrap m.goal).tmod 7) + 1)), .int .u64 m.term, .int .u64 m.index, .int .u64 m.prev, .int .u64 m.commit, .int .u64 0, .bool false, .slice none 0 0, .string ⟨#[]⟩] 47))) := (Fr.refl _ _).alloc _
  have HLn : Hid ((some ⟨lb, lo, none⟩ : Option Addr) = some ⟨lb, lo, none⟩ ∨ ln = 0) := Or.inl rfl
  have HBx : Hid (∀ wr, Fr [] w2 wr → wr.cell? ⟨bx, 12, none⟩ = some (.slice (some ⟨lb, lo, none⟩) ln lc)) := fun wr f => (World.cell?_of_block (w := w2) (f.block bx (by omega) (by simp))).trans BxL
  clear BxL BxL' f0 f0' f1 f1' f2 f2' f3 f3' f4 f4' f5 f5' f6 f6' f7 f7' f8 f8' f9 f9' f10 f10'
  generalize (w2.alloc (.cells #[.int .i64 (kk + 1), .int .i64 (wrap64 (wrap64 ((IntKind.u64.wrap m.sent).tmod 7) + 1)), .int .i64 (wrap64 (wrap64 ((IntKind.u64.wrap m.goal).tmod 7) + 1)), .int .u64 m.term, .int .u64 m.index, .int .u64 m.prev, .int .u64 m.commit, .int .u64 0, .bool false, .slice none 0 0, .string ⟨#[]⟩] 47)) = W0 at *
  obtain ⟨bo, hbo⟩ : ∃ bo, w2.heap.size = bo := ⟨_, rfl⟩
  rw [hbo] at BO ⊢
  have HBO := Lib.hid hbo
  clear hbo
  go_loopw [9, 10] (fun iv _ wr => ∃ (k : Nat) (v : Value), k ≤ ln ∧ k ≤ 10 ∧ iv = .int .i64 k ∧ Hid (Blk wr bo #[.int .i64 (kk + 1), .int .i64 (wrap64 (wrap64 ((IntKind.u64.wrap m.sent).tmod 7) + 1)), .int .i64 (wrap64 (wrap64 ((IntKind.u64.wrap m.goal).tmod 7) + 1)), .int .u64 m.term, .int .u64 m.index, .int .u64 m.prev, .int .u64 m.commit, .int .u64 0, .bool false, v, .string ⟨#[]⟩] 47) ∧ Hid (wr.ownsRow 0 24 11 v k (flatE ((l.take k).map madeOf))) ∧ Hid (Fr [] w2 wr) ∧ Hid (∀ x, x ∈ v.ownBlock.toList → w2.heap.size < x)) (fun iv _ _ => 10 - (intOf iv).toNat)
  case atStart => exact ⟨0, .slice none 0 0, by omega, by omega, rfl, BO, World.ownsRow_nil W0 0 24 11, FO, by show ∀ x, x ∈ (Value.slice none 0 0).ownBlock.toList → _; simp [Value.ownBlock]⟩
  case round =>
    obtain ⟨k, v, hk1, hk2, rfl, RB, RO, RF, RX⟩ := hrel
    have hcl := HBx.out _ RF.out
    by_cases hlt : k < ln ∧ k < 10
    · obtain ⟨hlt1, hlt2⟩ := hlt
      rcases HLn.out with h0 | h0
      · obtain ⟨e, he⟩ : ∃ e, l[k]'(by have := HLl.out; omega) = e := ⟨_, rfl⟩
        obtain ⟨qb, d0, d1, d2, d3, d4, d5, d6, d7, d8, d9, d10, d11⟩ := madCells HMads.out (HF2.out.trans0 RF.out) (by have := HLl.out; omega) he
        have HMd := Lib.hid (fun w => made_own e w (HFits.out e (by rw [← he]; exact List.getElem_mem _)))
        have HE := Lib.hid he
        obtain ⟨M, hM⟩ : ∃ M, madeOf e = M := ⟨_, rfl⟩
        rw [hM] at HMd
        have HMM := Lib.hid hM
        unfold Ent.cells at HMd
        obtain ⟨av, cv, rfl⟩ := own_slice RO.out
        have c9 : wr.cell? ⟨bo, 9, none⟩ = some (.slice av k cv) := RB.out.cellAt (i := 9) rfl
        have c9' := ca RB.out 9
        clear he hM
        go_wp2_with fail
        have BT : Blk (wr.alloc (.cells #[.int .u64 e.term, .int .u64 e.index, .int .i64 e.kind, .int .u64 e.client, .int .u64 e.seq, .int .u64 e.block, .int .u64 e.many, .int .i64 e.node, .int .i64 e.level, .string e.data, .string e.old, .bool true] 26)) wr.heap.size #[.int .u64 e.term, .int .u64 e.index, .int .i64 e.kind, .int .u64 e.client, .int .u64 e.seq, .int .u64 e.block, .int .u64 e.many, .int .i64 e.node, .int .i64 e.level, .string e.data, .string e.old, .bool true] 26 := Blk.new _ _ _
        have B4 : Hid (Blk (wr.alloc (.cells #[.int .u64 e.term, .int .u64 e.index, .int .i64 e.kind, .int .u64 e.client, .int .u64 e.seq, .int .u64 e.block, .int .u64 e.many, .int .i64 e.node, .int .i64 e.level, .string e.data, .string e.old, .bool true] 26)) bo #[.int .i64 (kk + 1), .int .i64 (wrap64 (wrap64 ((IntKind.u64.wrap m.sent).tmod 7) + 1)), .int .i64 (wrap64 (wrap64 ((IntKind.u64.wrap m.goal).tmod 7) + 1)), .int .u64 m.term, .int .u64 m.index, .int .u64 m.prev, .int .u64 m.commit, .int .u64 0, .bool false, .slice av k cv, .string ⟨#[]⟩] 47) := RB.out.alloc _
        have O4 : Hid ((wr.alloc (.cells #[.int .u64 e.term, .int .u64 e.index, .int .i64 e.kind, .int .u64 e.client, .int .u64 e.seq, .int .u64 e.block, .int .u64 e.many, .int .i64 e.node, .int .i64 e.level, .string e.data, .string e.old, .bool true] 26)).ownsRow 0 24 11 (.slice av k cv) k (flatE ((l.take k).map madeOf))) := World.ownsRow.alloc RO.out _
        have RO4lt : Hid (∀ x, x ∈ (Value.slice av k cv).ownBlock.toList → x < wr.heap.size) := fun x hx => (World.ownsRow.lt RO.out x (by simpa using hx)).2
        have hbolt := RB.out.lt
        have HB10 : Hid (bo < wr.heap.size ∧ ∀ x, x ∈ (Value.slice av k cv).ownBlock.toList → x < wr.heap.size) := ⟨RB.out.lt, RO4lt.out⟩
        clear RO4lt hbolt
        have F4 : Hid (Fr [] w2 (wr.alloc (.cells #[.int .u64 e.term, .int .u64 e.index, .int .i64 e.kind, .int .u64 e.client, .int .u64 e.seq, .int .u64 e.block, .int .u64 e.many, .int .i64 e.node, .int .i64 e.level, .string e.data, .string e.old, .bool true] 26))) := RF.out.alloc _
        clear c9 c9' d0 d1 d2 d3 d4 d5 d6 d7 d8 d9 d10 d11 RB RO RF hcl
        generalize (wr.alloc (.cells #[.int .u64 e.term, .int .u64 e.index, .int .i64 e.kind, .int .u64 e.client, .int .u64 e.seq, .int .u64 e.block, .int .u64 e.many, .int .i64 e.node, .int .i64 e.level, .string e.data, .string e.old, .bool true] 26)) = w4 at *
        generalize wr.heap.size = b10 at *
        have c9 : w4.cell? ⟨bo, 9, none⟩ = some (.slice av k cv) := B4.out.cellAt (i := 9) rfl
        have hbn2 : Hid (b10 ∉ (Value.slice av k cv).ownBlock.toList) := fun hx => by have h1 := HB10.out.2 b10 hx; omega
        have hbn : Hid (bo ∉ (Value.slice av k cv).ownBlock.toList) := fun hx => by have := RX.out bo hx; have := HBO.out; omega
        have hne1 : ¬ bo = b10 := by have h1 := HB10.out.1; omega
        have hne2 : ¬ b10 = bo := fun h => hne1 h.symm
        have HTS : Hid (∀ w', Blk w' b10 #[.int .u64 e.term, .int .u64 e.index, .int .i64 e.kind, .int .u64 e.client, .int .u64 e.seq, .int .u64 e.block, .int .u64 e.many, .int .i64 e.node, .int .i64 e.level, .string e.data, .string e.old, .bool true] 26 → w'.cell? ⟨b10, 0, none⟩ = some (.int .u64 e.term) ∧ w'.cell? ⟨b10, 1, none⟩ = some (.int .u64 e.index) ∧ w'.cell? ⟨b10, 2, none⟩ = some (.int .i64 e.kind) ∧ w'.cell? ⟨b10, 3, none⟩ = some (.int .u64 e.client) ∧ w'.cell? ⟨b10, 4, none⟩ = some (.int .u64 e.seq) ∧ w'.cell? ⟨b10, 5, none⟩ = some (.int .u64 e.block) ∧ w'.cell? ⟨b10, 6, none⟩ = some (.int .u64 e.many) ∧ w'.cell? ⟨b10, 7, none⟩ = some (.int .i64 e.node) ∧ w'.cell? ⟨b10, 8, none⟩ = some (.int .i64 e.level) ∧ w'.cell? ⟨b10, 9, none⟩ = some (.string e.data) ∧ w'.cell? ⟨b10, 10, none⟩ = some (.string e.old) ∧ w'.cell? ⟨b10, 11, none⟩ = some (.bool true)) := fun w' h => ⟨h.cellAt (i := 0) rfl, h.cellAt (i := 1) rfl, h.cellAt (i := 2) rfl, h.cellAt (i := 3) rfl, h.cellAt (i := 4) rfl, h.cellAt (i := 5) rfl, h.cellAt (i := 6) rfl, h.cellAt (i := 7) rfl, h.cellAt (i := 8) rfl, h.cellAt (i := 9) rfl, h.cellAt (i := 10) rfl, h.cellAt (i := 11) rfl⟩
        have HBT := Lib.hid BT
        obtain ⟨t0, t1, t2, t3, t4, t5, t6, t7, t8, t9, t10, t11⟩ := HTS.out _ BT
        clear BT
        refine wp_region_any (by kernel_rfl) ?_
        try (change wpAny _ _ _ _ _ _ _ (World.drew _))
        refine wpAny_take (i := 0) (v := ?_) rfl (by kernel_rfl) (by kernel_rfl) (by kernel_rfl) (fun _ _ _ h => h) (Or.inl ⟨by rfl, ?_⟩) ?_
        rotate_left 1
        · (intro w; go_simp; first | done | with_reducible rfl)
        refine wpAny_ready (rs := [1, 2]) (by kernel_rfl) (by simp) ?_
        refine AllReady.cons rfl (fun K hK => ?_) ?_
        · go_simp
          refine hK _ _ ?_
          clear hK K
          refine wpAny_ready (rs := [2]) (by kernel_rfl) (by simp) ?_
          refine AllReady.cons rfl (fun K hK => ?_) ?_
          · go_simp
            refine hK _ _ ?_
            clear hK K
            refine wpAny_ready (rs := [3]) (by kernel_rfl) (by simp) ?_
            refine AllReady.cons rfl (fun K hK => ?_) ?_
            · go_simp
              (go_at_call 9; refine (HMd.out _).mono ?_; rintro r' w5 ⟨rfl, f5⟩; (have B5 := Lib.hid (B4.out.drew.fr0 f5)); (have O5 := Lib.hid (ownsRow_fr O4.out ((Fr.refl _ _).drew.trans0 f5) (fun _ _ => List.not_mem_nil))); (have F5 := Lib.hid ((F4.out.drew).trans0 f5)); (have c95 : w5.cell? ⟨bo, 9, none⟩ = some (.slice av k cv) := B5.out.cellAt (i := 9) rfl); (have c95' : ∀ o, (w5.alloc o).cell? ⟨bo, 9, none⟩ = some (.slice av k cv) := fun o => (B5.out.alloc o).cellAt (i := 9) rfl))
              refine hK _ _ ?_
              clear hK K
              refine wpAny_ready (rs := [4]) (by kernel_rfl) (by simp) ?_
              refine AllReady.cons rfl (fun K hK => ?_) ?_
              · go_simp
                refine hK _ _ ?_
                clear hK K
                refine wpAny_ready (rs := [5]) (by kernel_rfl) (by simp) ?_
                refine AllReady.cons rfl (fun K hK => ?_) ?_
                · (refine step_app_own rfl (.tmp 102) (.tmp 105) 45 rfl entT (.slice av k cv) k (flatE ((l.take k).map madeOf)) (by simp [Act.eval]) (World.ownsRow.alloc O5.out _) ⟨w5.heap.size, 0, none⟩ 1 1 M.cells.toList (by simp [Act.eval]) rfl (fun j u hu => entNew w5 _ M j u hu) (entOne M) (by simp [maxLen]; omega) (by omega) ?_; intro v6 w6 H1 H2 H3; (obtain ⟨a6, c6, rfl⟩ := own_slice H1.out); (have B6 := Lib.hid ((B5.out.alloc _).fr H2.out hbn.out)); (have c96 : w6.cell? ⟨bo, 9, none⟩ = some (.slice av k cv) := B6.out.cellAt (i := 9) rfl); (have z96 := B6.out.froz 9))
                  refine hK _ _ ?_
                  clear hK K
                  refine wpAny_take (i := 6) (v := ?_) rfl (by kernel_rfl) (by kernel_rfl) (by kernel_rfl) (fun _ _ _ h => h) (Or.inl ⟨by rfl, ?_⟩) ?_
                  rotate_left 1
                  · (intro w; go_simp; first | done | with_reducible rfl)
                  refine wpAny_ready (rs := [7]) (by kernel_rfl) (by simp) ?_
                  refine AllReady.cons rfl (fun K hK => ?_) ?_
                  · go_simp
                    refine hK _ _ ?_
                    clear hK K
                    refine wpAny_done (by kernel_rfl) ?_ _
                    have HST := Lib.hid (noteStep (fun a => #[.int .i64 (kk + 1), .int .i64 (wrap64 (wrap64 ((IntKind.u64.wrap m.sent).tmod 7) + 1)), .int .i64 (wrap64 (wrap64 ((IntKind.u64.wrap m.goal).tmod 7) + 1)), .int .u64 m.term, .int .u64 m.index, .int .u64 m.prev, .int .u64 m.commit, .int .u64 0, .bool false, a, .string ⟨#[]⟩]) (fun a b => by simp only [lt0', lt1', lt2']) B5.out F5.out HBO.out RX.out (by have h := H1.out; rwa [take_made (by have := HLl.out; omega) HE.out HMM.out] at h) H2.out H3.out)
                    go_wp2_with fail
                    go_roundw
                    case rel => first | exact ⟨k + 1, _, by omega, by omega, by go_num, HST.out.1, HST.out.2.1, HST.out.2.2.1, HST.out.2.2.2⟩ | ((repeat apply Exists.intro); exact ⟨⟨k + 1, _, by omega, by omega, by go_num, HST.out.1, HST.out.2.1, HST.out.2.2.1, HST.out.2.2.2⟩, rfl⟩)
                    case measure => simp [intOf]; omega
                  exact AllReady.nil
                exact AllReady.nil
              exact AllReady.nil
            exact AllReady.nil
          exact AllReady.nil
        refine AllReady.cons rfl (fun K hK => ?_) ?_
        · go_simp
          refine hK _ _ ?_
          clear hK K
          refine wpAny_ready (rs := [1, 3]) (by kernel_rfl) (by simp) ?_
          refine AllReady.cons rfl (fun K hK => ?_) ?_
          · go_simp
            refine hK _ _ ?_
            clear hK K
            refine wpAny_ready (rs := [3]) (by kernel_rfl) (by simp) ?_
            refine AllReady.cons rfl (fun K hK => ?_) ?_
            · go_simp
              (go_at_call 9; refine (HMd.out _).mono ?_; rintro r' w5 ⟨rfl, f5⟩; (have B5 := Lib.hid (B4.out.drew.fr0 f5)); (have O5 := Lib.hid (ownsRow_fr O4.out ((Fr.refl _ _).drew.trans0 f5) (fun _ _ => List.not_mem_nil))); (have F5 := Lib.hid ((F4.out.drew).trans0 f5)); (have c95 : w5.cell? ⟨bo, 9, none⟩ = some (.slice av k cv) := B5.out.cellAt (i := 9) rfl); (have c95' : ∀ o, (w5.alloc o).cell? ⟨bo, 9, none⟩ = some (.slice av k cv) := fun o => (B5.out.alloc o).cellAt (i := 9) rfl))
              refine hK _ _ ?_
              clear hK K
              refine wpAny_ready (rs := [4]) (by kernel_rfl) (by simp) ?_
              refine AllReady.cons rfl (fun K hK => ?_) ?_
              · go_simp
                refine hK _ _ ?_
                clear hK K
                refine wpAny_ready (rs := [5]) (by kernel_rfl) (by simp) ?_
                refine AllReady.cons rfl (fun K hK => ?_) ?_
                · (refine step_app_own rfl (.tmp 102) (.tmp 105) 45 rfl entT (.slice av k cv) k (flatE ((l.take k).map madeOf)) (by simp [Act.eval]) (World.ownsRow.alloc O5.out _) ⟨w5.heap.size, 0, none⟩ 1 1 M.cells.toList (by simp [Act.eval]) rfl (fun j u hu => entNew w5 _ M j u hu) (entOne M) (by simp [maxLen]; omega) (by omega) ?_; intro v6 w6 H1 H2 H3; (obtain ⟨a6, c6, rfl⟩ := own_slice H1.out); (have B6 := Lib.hid ((B5.out.alloc _).fr H2.out hbn.out)); (have c96 : w6.cell? ⟨bo, 9, none⟩ = some (.slice av k cv) := B6.out.cellAt (i := 9) rfl); (have z96 := B6.out.froz 9))
                  refine hK _ _ ?_
                  clear hK K
                  refine wpAny_take (i := 6) (v := ?_) rfl (by kernel_rfl) (by kernel_rfl) (by kernel_rfl) (fun _ _ _ h => h) (Or.inl ⟨by rfl, ?_⟩) ?_
                  rotate_left 1
                  · (intro w; go_simp; first | done | with_reducible rfl)
                  refine wpAny_ready (rs := [7]) (by kernel_rfl) (by simp) ?_
                  refine AllReady.cons rfl (fun K hK => ?_) ?_
                  · go_simp
                    refine hK _ _ ?_
                    clear hK K
                    refine wpAny_done (by kernel_rfl) ?_ _
                    have HST := Lib.hid (noteStep (fun a => #[.int .i64 (kk + 1), .int .i64 (wrap64 (wrap64 ((IntKind.u64.wrap m.sent).tmod 7) + 1)), .int .i64 (wrap64 (wrap64 ((IntKind.u64.wrap m.goal).tmod 7) + 1)), .int .u64 m.term, .int .u64 m.index, .int .u64 m.prev, .int .u64 m.commit, .int .u64 0, .bool false, a, .string ⟨#[]⟩]) (fun a b => by simp only [lt0', lt1', lt2']) B5.out F5.out HBO.out RX.out (by have h := H1.out; rwa [take_made (by have := HLl.out; omega) HE.out HMM.out] at h) H2.out H3.out)
                    go_wp2_with fail
                    go_roundw
                    case rel => first | exact ⟨k + 1, _, by omega, by omega, by go_num, HST.out.1, HST.out.2.1, HST.out.2.2.1, HST.out.2.2.2⟩ | ((repeat apply Exists.intro); exact ⟨⟨k + 1, _, by omega, by omega, by go_num, HST.out.1, HST.out.2.1, HST.out.2.2.1, HST.out.2.2.2⟩, rfl⟩)
                    case measure => simp [intOf]; omega
                  exact AllReady.nil
                exact AllReady.nil
              exact AllReady.nil
            exact AllReady.nil
          refine AllReady.cons rfl (fun K hK => ?_) ?_
          · go_simp
            (go_at_call 9; refine (HMd.out _).mono ?_; rintro r' w5 ⟨rfl, f5⟩; (have B5 := Lib.hid (B4.out.drew.fr0 f5)); (have O5 := Lib.hid (ownsRow_fr O4.out ((Fr.refl _ _).drew.trans0 f5) (fun _ _ => List.not_mem_nil))); (have F5 := Lib.hid ((F4.out.drew).trans0 f5)); (have c95 : w5.cell? ⟨bo, 9, none⟩ = some (.slice av k cv) := B5.out.cellAt (i := 9) rfl); (have c95' : ∀ o, (w5.alloc o).cell? ⟨bo, 9, none⟩ = some (.slice av k cv) := fun o => (B5.out.alloc o).cellAt (i := 9) rfl))
            refine hK _ _ ?_
            clear hK K
            refine wpAny_ready (rs := [1, 4]) (by kernel_rfl) (by simp) ?_
            refine AllReady.cons rfl (fun K hK => ?_) ?_
            · go_simp
              refine hK _ _ ?_
              clear hK K
              refine wpAny_ready (rs := [4]) (by kernel_rfl) (by simp) ?_
              refine AllReady.cons rfl (fun K hK => ?_) ?_
              · go_simp
                refine hK _ _ ?_
                clear hK K
                refine wpAny_ready (rs := [5]) (by kernel_rfl) (by simp) ?_
                refine AllReady.cons rfl (fun K hK => ?_) ?_
                · (refine step_app_own rfl (.tmp 102) (.tmp 105) 45 rfl entT (.slice av k cv) k (flatE ((l.take k).map madeOf)) (by simp [Act.eval]) (World.ownsRow.alloc O5.out _) ⟨w5.heap.size, 0, none⟩ 1 1 M.cells.toList (by simp [Act.eval]) rfl (fun j u hu => entNew w5 _ M j u hu) (entOne M) (by simp [maxLen]; omega) (by omega) ?_; intro v6 w6 H1 H2 H3; (obtain ⟨a6, c6, rfl⟩ := own_slice H1.out); (have B6 := Lib.hid ((B5.out.alloc _).fr H2.out hbn.out)); (have c96 : w6.cell? ⟨bo, 9, none⟩ = some (.slice av k cv) := B6.out.cellAt (i := 9) rfl); (have z96 := B6.out.froz 9))
                  refine hK _ _ ?_
                  clear hK K
                  refine wpAny_take (i := 6) (v := ?_) rfl (by kernel_rfl) (by kernel_rfl) (by kernel_rfl) (fun _ _ _ h => h) (Or.inl ⟨by rfl, ?_⟩) ?_
                  rotate_left 1
                  · (intro w; go_simp; first | done | with_reducible rfl)
                  refine wpAny_ready (rs := [7]) (by kernel_rfl) (by simp) ?_
                  refine AllReady.cons rfl (fun K hK => ?_) ?_
                  · go_simp
                    refine hK _ _ ?_
                    clear hK K
                    refine wpAny_done (by kernel_rfl) ?_ _
                    have HST := Lib.hid (noteStep (fun a => #[.int .i64 (kk + 1), .int .i64 (wrap64 (wrap64 ((IntKind.u64.wrap m.sent).tmod 7) + 1)), .int .i64 (wrap64 (wrap64 ((IntKind.u64.wrap m.goal).tmod 7) + 1)), .int .u64 m.term, .int .u64 m.index, .int .u64 m.prev, .int .u64 m.commit, .int .u64 0, .bool false, a, .string ⟨#[]⟩]) (fun a b => by simp only [lt0', lt1', lt2']) B5.out F5.out HBO.out RX.out (by have h := H1.out; rwa [take_made (by have := HLl.out; omega) HE.out HMM.out] at h) H2.out H3.out)
                    go_wp2_with fail
                    go_roundw
                    case rel => first | exact ⟨k + 1, _, by omega, by omega, by go_num, HST.out.1, HST.out.2.1, HST.out.2.2.1, HST.out.2.2.2⟩ | ((repeat apply Exists.intro); exact ⟨⟨k + 1, _, by omega, by omega, by go_num, HST.out.1, HST.out.2.1, HST.out.2.2.1, HST.out.2.2.2⟩, rfl⟩)
                    case measure => simp [intOf]; omega
                  exact AllReady.nil
                exact AllReady.nil
              exact AllReady.nil
            refine AllReady.cons rfl (fun K hK => ?_) ?_
            · go_simp
              refine hK _ _ ?_
              clear hK K
              refine wpAny_ready (rs := [1]) (by kernel_rfl) (by simp) ?_
              refine AllReady.cons rfl (fun K hK => ?_) ?_
              · go_simp
                refine hK _ _ ?_
                clear hK K
                refine wpAny_ready (rs := [5]) (by kernel_rfl) (by simp) ?_
                refine AllReady.cons rfl (fun K hK => ?_) ?_
                · (refine step_app_own rfl (.tmp 102) (.tmp 105) 45 rfl entT (.slice av k cv) k (flatE ((l.take k).map madeOf)) (by simp [Act.eval]) (World.ownsRow.alloc O5.out _) ⟨w5.heap.size, 0, none⟩ 1 1 M.cells.toList (by simp [Act.eval]) rfl (fun j u hu => entNew w5 _ M j u hu) (entOne M) (by simp [maxLen]; omega) (by omega) ?_; intro v6 w6 H1 H2 H3; (obtain ⟨a6, c6, rfl⟩ := own_slice H1.out); (have B6 := Lib.hid ((B5.out.alloc _).fr H2.out hbn.out)); (have c96 : w6.cell? ⟨bo, 9, none⟩ = some (.slice av k cv) := B6.out.cellAt (i := 9) rfl); (have z96 := B6.out.froz 9))
                  refine hK _ _ ?_
                  clear hK K
                  refine wpAny_take (i := 6) (v := ?_) rfl (by kernel_rfl) (by kernel_rfl) (by kernel_rfl) (fun _ _ _ h => h) (Or.inl ⟨by rfl, ?_⟩) ?_
                  rotate_left 1
                  · (intro w; go_simp; first | done | with_reducible rfl)
                  refine wpAny_ready (rs := [7]) (by kernel_rfl) (by simp) ?_
                  refine AllReady.cons rfl (fun K hK => ?_) ?_
                  · go_simp
                    refine hK _ _ ?_
                    clear hK K
                    refine wpAny_done (by kernel_rfl) ?_ _
                    have HST := Lib.hid (noteStep (fun a => #[.int .i64 (kk + 1), .int .i64 (wrap64 (wrap64 ((IntKind.u64.wrap m.sent).tmod 7) + 1)), .int .i64 (wrap64 (wrap64 ((IntKind.u64.wrap m.goal).tmod 7) + 1)), .int .u64 m.term, .int .u64 m.index, .int .u64 m.prev, .int .u64 m.commit, .int .u64 0, .bool false, a, .string ⟨#[]⟩]) (fun a b => by simp only [lt0', lt1', lt2']) B5.out F5.out HBO.out RX.out (by have h := H1.out; rwa [take_made (by have := HLl.out; omega) HE.out HMM.out] at h) H2.out H3.out)
                    go_wp2_with fail
                    go_roundw
                    case rel => first | exact ⟨k + 1, _, by omega, by omega, by go_num, HST.out.1, HST.out.2.1, HST.out.2.2.1, HST.out.2.2.2⟩ | ((repeat apply Exists.intro); exact ⟨⟨k + 1, _, by omega, by omega, by go_num, HST.out.1, HST.out.2.1, HST.out.2.2.1, HST.out.2.2.2⟩, rfl⟩)
                    case measure => simp [intOf]; omega
                  exact AllReady.nil
                exact AllReady.nil
              exact AllReady.nil
            exact AllReady.nil
          exact AllReady.nil
        exact AllReady.nil
      · omega
    · obtain ⟨av, cv, rfl⟩ := own_slice RO.out
      have hLe : (l.take k).map madeOf = (l.map madeOf).take 10 := by
        have h1 := HLl.out
        by_cases h2 : k = 10
        · subst h2; exact List.map_take
        · have h3 : k = l.length := by omega
          rw [h3, List.take_length, List.take_of_length_le (by simp; omega)]
      have hLn : ((l.map madeOf).take 10).length = k := by
        have h1 := HLl.out
        rw [← hLe]
        simp
        omega
      have RBO := RB
      have ROO : Hid (wr.ownsRow 0 24 11 (.slice av k cv) ((l.map madeOf).take 10).length (flatE ((l.map madeOf).take 10))) := by
        have h1 := RO.out
        rw [hLe] at h1
        show wr.ownsRow _ _ _ _ _ _
        rw [hLn]
        exact h1
      have RFF := RF
      have RXX := RX
      have RB2 := Lib.hid (HB2.out.fr0 RF.out)
      have RB3 := Lib.hid (HB3.out.fr0 RF.out)
      have m7 : wr.cell? ⟨bx + 1 + 1, 7, none⟩ = some (.int .u64 m.mark) := RB3.out.cellAt (i := 7) rfl
      have o7 : wr.cell? ⟨bo, 7, none⟩ = some (.int .u64 0) := RBO.out.cellAt (i := 7) rfl
      have zo7 := RBO.out.froz 7
      clear hLe hLn RB RO RF RX
      by_cases h1 : k < ln
      · have h2 : ¬ k < 10 := fun h => hlt ⟨h1, h⟩
        clear hlt
        go_wp2_with fail
        rw [rounds_succ]
        go_wp2_with fail
        have BO5 : Hid (Blk (wr.setCell ⟨bo, 7, none⟩ (.int .u64 m.mark)) bo #[.int .i64 (kk + 1), .int .i64 (wrap64 (wrap64 ((IntKind.u64.wrap m.sent).tmod 7) + 1)), .int .i64 (wrap64 (wrap64 ((IntKind.u64.wrap m.goal).tmod 7) + 1)), .int .u64 m.term, .int .u64 m.index, .int .u64 m.prev, .int .u64 m.commit, .int .u64 m.mark, .bool false, .slice av k cv, .string ⟨#[]⟩] 47) := by
          have h := RBO.out.set 7 (.int .u64 m.mark)
          simp only [lt0', lt1', lt2'] at h
          exact h
        have B25 : Hid (Blk (wr.setCell ⟨bo, 7, none⟩ (.int .u64 m.mark)) (bx + 1) #[.int .i64 0, .int .i64 0, .int .i64 0, .int .u64 0, .int .u64 0, .int .u64 0, .int .u64 0, .int .u64 0, .bool false, .slice none 0 0, .string ⟨#[]⟩] 47) := RB2.out.far (p := ⟨bo, 7, none⟩) (by show bx + 1 ≠ bo; have := HBO.out; omega) _
        have O5 : Hid ((wr.setCell ⟨bo, 7, none⟩ (.int .u64 m.mark)).ownsRow 0 24 11 (.slice av k cv) ((l.map madeOf).take 10).length (flatE ((l.map madeOf).take 10))) := ownsRow_fr ROO.out ((Fr.refl [bo] _).setCell (p := ⟨bo, 7, none⟩) (.inl (by simp)) _) (fun x hx e => by simp at e; subst e; have := RXX.out _ hx; have := HBO.out; omega)
        have F5 : Hid (Fr [] w2 (wr.setCell ⟨bo, 7, none⟩ (.int .u64 m.mark))) := RFF.out.setCell (p := ⟨bo, 7, none⟩) (.inr (by show w2.heap.size ≤ bo; have := HBO.out; omega)) _
        clear m7 o7 zo7
        generalize (wr.setCell ⟨bo, 7, none⟩ (.int .u64 m.mark)) = W5 at *
        have y0 : W5.cell? ⟨bo, 0, none⟩ = some (.int .i64 (kk + 1)) := BO5.out.cellAt (i := 0) rfl
        have q0 : W5.cell? ⟨bx + 1, 0, none⟩ = some (.int .i64 0) := B25.out.cellAt (i := 0) rfl
        have z0 := B25.out.froz 0
        have y1 : W5.cell? ⟨bo, 1, none⟩ = some (.int .i64 (wrap64 (wrap64 ((IntKind.u64.wrap m.sent).tmod 7) + 1))) := BO5.out.cellAt (i := 1) rfl
        have q1 : W5.cell? ⟨bx + 1, 1, none⟩ = some (.int .i64 0) := B25.out.cellAt (i := 1) rfl
        have z1 := B25.out.froz 1
        have y2 : W5.cell? ⟨bo, 2, none⟩ = some (.int .i64 (wrap64 (wrap64 ((IntKind.u64.wrap m.goal).tmod 7) + 1))) := BO5.out.cellAt (i := 2) rfl
        have q2 : W5.cell? ⟨bx + 1, 2, none⟩ = some (.int .i64 0) := B25.out.cellAt (i := 2) rfl
        have z2 := B25.out.froz 2
        have y3 : W5.cell? ⟨bo, 3, none⟩ = some (.int .u64 m.term) := BO5.out.cellAt (i := 3) rfl
        have q3 : W5.cell? ⟨bx + 1, 3, none⟩ = some (.int .u64 0) := B25.out.cellAt (i := 3) rfl
        have z3 := B25.out.froz 3
        have y4 : W5.cell? ⟨bo, 4, none⟩ = some (.int .u64 m.index) := BO5.out.cellAt (i := 4) rfl
        have q4 : W5.cell? ⟨bx + 1, 4, none⟩ = some (.int .u64 0) := B25.out.cellAt (i := 4) rfl
        have z4 := B25.out.froz 4
        have y5 : W5.cell? ⟨bo, 5, none⟩ = some (.int .u64 m.prev) := BO5.out.cellAt (i := 5) rfl
        have q5 : W5.cell? ⟨bx + 1, 5, none⟩ = some (.int .u64 0) := B25.out.cellAt (i := 5) rfl
        have z5 := B25.out.froz 5
        have y6 : W5.cell? ⟨bo, 6, none⟩ = some (.int .u64 m.commit) := BO5.out.cellAt (i := 6) rfl
        have q6 : W5.cell? ⟨bx + 1, 6, none⟩ = some (.int .u64 0) := B25.out.cellAt (i := 6) rfl
        have z6 := B25.out.froz 6
        have y7 : W5.cell? ⟨bo, 7, none⟩ = some (.int .u64 m.mark) := BO5.out.cellAt (i := 7) rfl
        have q7 : W5.cell? ⟨bx + 1, 7, none⟩ = some (.int .u64 0) := B25.out.cellAt (i := 7) rfl
        have z7 := B25.out.froz 7
        have y8 : W5.cell? ⟨bo, 8, none⟩ = some (.bool false) := BO5.out.cellAt (i := 8) rfl
        have q8 : W5.cell? ⟨bx + 1, 8, none⟩ = some (.bool false) := B25.out.cellAt (i := 8) rfl
        have z8 := B25.out.froz 8
        have y9 : W5.cell? ⟨bo, 9, none⟩ = some (.slice av k cv) := BO5.out.cellAt (i := 9) rfl
        have q9 : W5.cell? ⟨bx + 1, 9, none⟩ = some (.slice none 0 0) := B25.out.cellAt (i := 9) rfl
        have z9 := B25.out.froz 9
        have y10 : W5.cell? ⟨bo, 10, none⟩ = some (.string ⟨#[]⟩) := BO5.out.cellAt (i := 10) rfl
        have q10 : W5.cell? ⟨bx + 1, 10, none⟩ = some (.string ⟨#[]⟩) := B25.out.cellAt (i := 10) rfl
        have z10 := B25.out.froz 10
        rw [rounds_succ]
        go_wp2_with fail
        have BF : Hid (Blk (((((((((((W5.setCell ⟨bx + 1, 0, none⟩ (.int .i64 (kk + 1))).setCell ⟨bx + 1, 1, none⟩ (.int .i64 (wrap64 (wrap64 ((IntKind.u64.wrap m.sent).tmod 7) + 1)))).setCell ⟨bx + 1, 2, none⟩ (.int .i64 (wrap64 (wrap64 ((IntKind.u64.wrap m.goal).tmod 7) + 1)))).setCell ⟨bx + 1, 3, none⟩ (.int .u64 m.term)).setCell ⟨bx + 1, 4, none⟩ (.int .u64 m.index)).setCell ⟨bx + 1, 5, none⟩ (.int .u64 m.prev)).setCell ⟨bx + 1, 6, none⟩ (.int .u64 m.commit)).setCell ⟨bx + 1, 7, none⟩ (.int .u64 m.mark)).setCell ⟨bx + 1, 8, none⟩ (.bool false)).setCell ⟨bx + 1, 9, none⟩ (.slice av k cv)).setCell ⟨bx + 1, 10, none⟩ (.string ⟨#[]⟩)) (bx + 1) #[.int .i64 (kk + 1), .int .i64 (wrap64 (wrap64 ((IntKind.u64.wrap m.sent).tmod 7) + 1)), .int .i64 (wrap64 (wrap64 ((IntKind.u64.wrap m.goal).tmod 7) + 1)), .int .u64 m.term, .int .u64 m.index, .int .u64 m.prev, .int .u64 m.commit, .int .u64 m.mark, .bool false, .slice av k cv, .string ⟨#[]⟩] 47) := Blk.put11 B25.out (.int .i64 (kk + 1)) (.int .i64 (wrap64 (wrap64 ((IntKind.u64.wrap m.sent).tmod 7) + 1))) (.int .i64 (wrap64 (wrap64 ((IntKind.u64.wrap m.goal).tmod 7) + 1))) (.int .u64 m.term) (.int .u64 m.index) (.int .u64 m.prev) (.int .u64 m.commit) (.int .u64 m.mark) (.bool false) (.slice av k cv) (.string ⟨#[]⟩)
        have FF : Hid (Fr [] w (((((((((((W5.setCell ⟨bx + 1, 0, none⟩ (.int .i64 (kk + 1))).setCell ⟨bx + 1, 1, none⟩ (.int .i64 (wrap64 (wrap64 ((IntKind.u64.wrap m.sent).tmod 7) + 1)))).setCell ⟨bx + 1, 2, none⟩ (.int .i64 (wrap64 (wrap64 ((IntKind.u64.wrap m.goal).tmod 7) + 1)))).setCell ⟨bx + 1, 3, none⟩ (.int .u64 m.term)).setCell ⟨bx + 1, 4, none⟩ (.int .u64 m.index)).setCell ⟨bx + 1, 5, none⟩ (.int .u64 m.prev)).setCell ⟨bx + 1, 6, none⟩ (.int .u64 m.commit)).setCell ⟨bx + 1, 7, none⟩ (.int .u64 m.mark)).setCell ⟨bx + 1, 8, none⟩ (.bool false)).setCell ⟨bx + 1, 9, none⟩ (.slice av k cv)).setCell ⟨bx + 1, 10, none⟩ (.string ⟨#[]⟩))) := ((((((((((((HF2.out.trans0 F5.out).setCell (.inr (by have := HX.out; show w.heap.size ≤ bx + 1; omega)) _).setCell (.inr (by have := HX.out; show w.heap.size ≤ bx + 1; omega)) _).setCell (.inr (by have := HX.out; show w.heap.size ≤ bx + 1; omega)) _).setCell (.inr (by have := HX.out; show w.heap.size ≤ bx + 1; omega)) _).setCell (.inr (by have := HX.out; show w.heap.size ≤ bx + 1; omega)) _).setCell (.inr (by have := HX.out; show w.heap.size ≤ bx + 1; omega)) _).setCell (.inr (by have := HX.out; show w.heap.size ≤ bx + 1; omega)) _).setCell (.inr (by have := HX.out; show w.heap.size ≤ bx + 1; omega)) _).setCell (.inr (by have := HX.out; show w.heap.size ≤ bx + 1; omega)) _).setCell (.inr (by have := HX.out; show w.heap.size ≤ bx + 1; omega)) _).setCell (.inr (by have := HX.out; show w.heap.size ≤ bx + 1; omega)) _)
        have FO5 : Hid (Fr [bx + 1] W5 (((((((((((W5.setCell ⟨bx + 1, 0, none⟩ (.int .i64 (kk + 1))).setCell ⟨bx + 1, 1, none⟩ (.int .i64 (wrap64 (wrap64 ((IntKind.u64.wrap m.sent).tmod 7) + 1)))).setCell ⟨bx + 1, 2, none⟩ (.int .i64 (wrap64 (wrap64 ((IntKind.u64.wrap m.goal).tmod 7) + 1)))).setCell ⟨bx + 1, 3, none⟩ (.int .u64 m.term)).setCell ⟨bx + 1, 4, none⟩ (.int .u64 m.index)).setCell ⟨bx + 1, 5, none⟩ (.int .u64 m.prev)).setCell ⟨bx + 1, 6, none⟩ (.int .u64 m.commit)).setCell ⟨bx + 1, 7, none⟩ (.int .u64 m.mark)).setCell ⟨bx + 1, 8, none⟩ (.bool false)).setCell ⟨bx + 1, 9, none⟩ (.slice av k cv)).setCell ⟨bx + 1, 10, none⟩ (.string ⟨#[]⟩))) := ((((((((((((Fr.refl [bx + 1] W5).setCell (.inl (by simp)) _).setCell (.inl (by simp)) _).setCell (.inl (by simp)) _).setCell (.inl (by simp)) _).setCell (.inl (by simp)) _).setCell (.inl (by simp)) _).setCell (.inl (by simp)) _).setCell (.inl (by simp)) _).setCell (.inl (by simp)) _).setCell (.inl (by simp)) _).setCell (.inl (by simp)) _)
        clear y0 q0 z0 y1 q1 z1 y2 q2 z2 y3 q3 z3 y4 q4 z4 y5 q5 z5 y6 q6 z6 y7 q7 z7 y8 q8 z8 y9 q9 z9 y10 q10 z10
        generalize (((((((((((W5.setCell ⟨bx + 1, 0, none⟩ (.int .i64 (kk + 1))).setCell ⟨bx + 1, 1, none⟩ (.int .i64 (wrap64 (wrap64 ((IntKind.u64.wrap m.sent).tmod 7) + 1)))).setCell ⟨bx + 1, 2, none⟩ (.int .i64 (wrap64 (wrap64 ((IntKind.u64.wrap m.goal).tmod 7) + 1)))).setCell ⟨bx + 1, 3, none⟩ (.int .u64 m.term)).setCell ⟨bx + 1, 4, none⟩ (.int .u64 m.index)).setCell ⟨bx + 1, 5, none⟩ (.int .u64 m.prev)).setCell ⟨bx + 1, 6, none⟩ (.int .u64 m.commit)).setCell ⟨bx + 1, 7, none⟩ (.int .u64 m.mark)).setCell ⟨bx + 1, 8, none⟩ (.bool false)).setCell ⟨bx + 1, 9, none⟩ (.slice av k cv)).setCell ⟨bx + 1, 10, none⟩ (.string ⟨#[]⟩)) = W at *
        have BF' := BF.out
        have y0 : W.cell? ⟨bx + 1, 0, none⟩ = some (.int .i64 (kk + 1)) := BF'.cellAt (i := 0) rfl
        have y1 : W.cell? ⟨bx + 1, 1, none⟩ = some (.int .i64 (wrap64 (wrap64 ((IntKind.u64.wrap m.sent).tmod 7) + 1))) := BF'.cellAt (i := 1) rfl
        have y2 : W.cell? ⟨bx + 1, 2, none⟩ = some (.int .i64 (wrap64 (wrap64 ((IntKind.u64.wrap m.goal).tmod 7) + 1))) := BF'.cellAt (i := 2) rfl
        have y3 : W.cell? ⟨bx + 1, 3, none⟩ = some (.int .u64 m.term) := BF'.cellAt (i := 3) rfl
        have y4 : W.cell? ⟨bx + 1, 4, none⟩ = some (.int .u64 m.index) := BF'.cellAt (i := 4) rfl
        have y5 : W.cell? ⟨bx + 1, 5, none⟩ = some (.int .u64 m.prev) := BF'.cellAt (i := 5) rfl
        have y6 : W.cell? ⟨bx + 1, 6, none⟩ = some (.int .u64 m.commit) := BF'.cellAt (i := 6) rfl
        have y7 : W.cell? ⟨bx + 1, 7, none⟩ = some (.int .u64 m.mark) := BF'.cellAt (i := 7) rfl
        have y8 : W.cell? ⟨bx + 1, 8, none⟩ = some (.bool false) := BF'.cellAt (i := 8) rfl
        have y9 : W.cell? ⟨bx + 1, 9, none⟩ = some (.slice av k cv) := BF'.cellAt (i := 9) rfl
        have y10 : W.cell? ⟨bx + 1, 10, none⟩ = some (.string ⟨#[]⟩) := BF'.cellAt (i := 10) rfl
        refine bodyPost_ret (v := .agg #[.int .i64 (kk + 1), .int .i64 (wrap64 (wrap64 ((IntKind.u64.wrap m.sent).tmod 7) + 1)), .int .i64 (wrap64 (wrap64 ((IntKind.u64.wrap m.goal).tmod 7) + 1)), .int .u64 m.term, .int .u64 m.index, .int .u64 m.prev, .int .u64 m.commit, .int .u64 m.mark, .bool false, .slice av k cv, .string ⟨#[]⟩]) ?_ rfl ?_
        · simp [results, Tryd.results20, go_sem, y0, y1, y2, y3, y4, y5, y6, y7, y8, y9, y10]
        · exact ⟨_, HRes.out _, Lib.hid (own_ents (ownsRow_fr O5.out FO5.out (fun x hx e => by simp at e; subst e; have := RXX.out _ hx; have := HLT.out; omega))), FF⟩
      · clear hlt
        go_wp2_with fail
        rw [rounds_succ]
        go_wp2_with fail
        have BO5 : Hid (Blk (wr.setCell ⟨bo, 7, none⟩ (.int .u64 m.mark)) bo #[.int .i64 (kk + 1), .int .i64 (wrap64 (wrap64 ((IntKind.u64.wrap m.sent).tmod 7) + 1)), .int .i64 (wrap64 (wrap64 ((IntKind.u64.wrap m.goal).tmod 7) + 1)), .int .u64 m.term, .int .u64 m.index, .int .u64 m.prev, .int .u64 m.commit, .int .u64 m.mark, .bool false, .slice av k cv, .string ⟨#[]⟩] 47) := by
          have h := RBO.out.set 7 (.int .u64 m.mark)
          simp only [lt0', lt1', lt2'] at h
          exact h
        have B25 : Hid (Blk (wr.setCell ⟨bo, 7, none⟩ (.int .u64 m.mark)) (bx + 1) #[.int .i64 0, .int .i64 0, .int .i64 0, .int .u64 0, .int .u64 0, .int .u64 0, .int .u64 0, .int .u64 0, .bool false, .slice none 0 0, .string ⟨#[]⟩] 47) := RB2.out.far (p := ⟨bo, 7, none⟩) (by show bx + 1 ≠ bo; have := HBO.out; omega) _
        have O5 : Hid ((wr.setCell ⟨bo, 7, none⟩ (.int .u64 m.mark)).ownsRow 0 24 11 (.slice av k cv) ((l.map madeOf).take 10).length (flatE ((l.map madeOf).take 10))) := ownsRow_fr ROO.out ((Fr.refl [bo] _).setCell (p := ⟨bo, 7, none⟩) (.inl (by simp)) _) (fun x hx e => by simp at e; subst e; have := RXX.out _ hx; have := HBO.out; omega)
        have F5 : Hid (Fr [] w2 (wr.setCell ⟨bo, 7, none⟩ (.int .u64 m.mark))) := RFF.out.setCell (p := ⟨bo, 7, none⟩) (.inr (by show w2.heap.size ≤ bo; have := HBO.out; omega)) _
        clear m7 o7 zo7
        generalize (wr.setCell ⟨bo, 7, none⟩ (.int .u64 m.mark)) = W5 at *
        have y0 : W5.cell? ⟨bo, 0, none⟩ = some (.int .i64 (kk + 1)) := BO5.out.cellAt (i := 0) rfl
        have q0 : W5.cell? ⟨bx + 1, 0, none⟩ = some (.int .i64 0) := B25.out.cellAt (i := 0) rfl
        have z0 := B25.out.froz 0
        have y1 : W5.cell? ⟨bo, 1, none⟩ = some (.int .i64 (wrap64 (wrap64 ((IntKind.u64.wrap m.sent).tmod 7) + 1))) := BO5.out.cellAt (i := 1) rfl
        have q1 : W5.cell? ⟨bx + 1, 1, none⟩ = some (.int .i64 0) := B25.out.cellAt (i := 1) rfl
        have z1 := B25.out.froz 1
        have y2 : W5.cell? ⟨bo, 2, none⟩ = some (.int .i64 (wrap64 (wrap64 ((IntKind.u64.wrap m.goal).tmod 7) + 1))) := BO5.out.cellAt (i := 2) rfl
        have q2 : W5.cell? ⟨bx + 1, 2, none⟩ = some (.int .i64 0) := B25.out.cellAt (i := 2) rfl
        have z2 := B25.out.froz 2
        have y3 : W5.cell? ⟨bo, 3, none⟩ = some (.int .u64 m.term) := BO5.out.cellAt (i := 3) rfl
        have q3 : W5.cell? ⟨bx + 1, 3, none⟩ = some (.int .u64 0) := B25.out.cellAt (i := 3) rfl
        have z3 := B25.out.froz 3
        have y4 : W5.cell? ⟨bo, 4, none⟩ = some (.int .u64 m.index) := BO5.out.cellAt (i := 4) rfl
        have q4 : W5.cell? ⟨bx + 1, 4, none⟩ = some (.int .u64 0) := B25.out.cellAt (i := 4) rfl
        have z4 := B25.out.froz 4
        have y5 : W5.cell? ⟨bo, 5, none⟩ = some (.int .u64 m.prev) := BO5.out.cellAt (i := 5) rfl
        have q5 : W5.cell? ⟨bx + 1, 5, none⟩ = some (.int .u64 0) := B25.out.cellAt (i := 5) rfl
        have z5 := B25.out.froz 5
        have y6 : W5.cell? ⟨bo, 6, none⟩ = some (.int .u64 m.commit) := BO5.out.cellAt (i := 6) rfl
        have q6 : W5.cell? ⟨bx + 1, 6, none⟩ = some (.int .u64 0) := B25.out.cellAt (i := 6) rfl
        have z6 := B25.out.froz 6
        have y7 : W5.cell? ⟨bo, 7, none⟩ = some (.int .u64 m.mark) := BO5.out.cellAt (i := 7) rfl
        have q7 : W5.cell? ⟨bx + 1, 7, none⟩ = some (.int .u64 0) := B25.out.cellAt (i := 7) rfl
        have z7 := B25.out.froz 7
        have y8 : W5.cell? ⟨bo, 8, none⟩ = some (.bool false) := BO5.out.cellAt (i := 8) rfl
        have q8 : W5.cell? ⟨bx + 1, 8, none⟩ = some (.bool false) := B25.out.cellAt (i := 8) rfl
        have z8 := B25.out.froz 8
        have y9 : W5.cell? ⟨bo, 9, none⟩ = some (.slice av k cv) := BO5.out.cellAt (i := 9) rfl
        have q9 : W5.cell? ⟨bx + 1, 9, none⟩ = some (.slice none 0 0) := B25.out.cellAt (i := 9) rfl
        have z9 := B25.out.froz 9
        have y10 : W5.cell? ⟨bo, 10, none⟩ = some (.string ⟨#[]⟩) := BO5.out.cellAt (i := 10) rfl
        have q10 : W5.cell? ⟨bx + 1, 10, none⟩ = some (.string ⟨#[]⟩) := B25.out.cellAt (i := 10) rfl
        have z10 := B25.out.froz 10
        rw [rounds_succ]
        go_wp2_with fail
        have BF : Hid (Blk (((((((((((W5.setCell ⟨bx + 1, 0, none⟩ (.int .i64 (kk + 1))).setCell ⟨bx + 1, 1, none⟩ (.int .i64 (wrap64 (wrap64 ((IntKind.u64.wrap m.sent).tmod 7) + 1)))).setCell ⟨bx + 1, 2, none⟩ (.int .i64 (wrap64 (wrap64 ((IntKind.u64.wrap m.goal).tmod 7) + 1)))).setCell ⟨bx + 1, 3, none⟩ (.int .u64 m.term)).setCell ⟨bx + 1, 4, none⟩ (.int .u64 m.index)).setCell ⟨bx + 1, 5, none⟩ (.int .u64 m.prev)).setCell ⟨bx + 1, 6, none⟩ (.int .u64 m.commit)).setCell ⟨bx + 1, 7, none⟩ (.int .u64 m.mark)).setCell ⟨bx + 1, 8, none⟩ (.bool false)).setCell ⟨bx + 1, 9, none⟩ (.slice av k cv)).setCell ⟨bx + 1, 10, none⟩ (.string ⟨#[]⟩)) (bx + 1) #[.int .i64 (kk + 1), .int .i64 (wrap64 (wrap64 ((IntKind.u64.wrap m.sent).tmod 7) + 1)), .int .i64 (wrap64 (wrap64 ((IntKind.u64.wrap m.goal).tmod 7) + 1)), .int .u64 m.term, .int .u64 m.index, .int .u64 m.prev, .int .u64 m.commit, .int .u64 m.mark, .bool false, .slice av k cv, .string ⟨#[]⟩] 47) := Blk.put11 B25.out (.int .i64 (kk + 1)) (.int .i64 (wrap64 (wrap64 ((IntKind.u64.wrap m.sent).tmod 7) + 1))) (.int .i64 (wrap64 (wrap64 ((IntKind.u64.wrap m.goal).tmod 7) + 1))) (.int .u64 m.term) (.int .u64 m.index) (.int .u64 m.prev) (.int .u64 m.commit) (.int .u64 m.mark) (.bool false) (.slice av k cv) (.string ⟨#[]⟩)
        have FF : Hid (Fr [] w (((((((((((W5.setCell ⟨bx + 1, 0, none⟩ (.int .i64 (kk + 1))).setCell ⟨bx + 1, 1, none⟩ (.int .i64 (wrap64 (wrap64 ((IntKind.u64.wrap m.sent).tmod 7) + 1)))).setCell ⟨bx + 1, 2, none⟩ (.int .i64 (wrap64 (wrap64 ((IntKind.u64.wrap m.goal).tmod 7) + 1)))).setCell ⟨bx + 1, 3, none⟩ (.int .u64 m.term)).setCell ⟨bx + 1, 4, none⟩ (.int .u64 m.index)).setCell ⟨bx + 1, 5, none⟩ (.int .u64 m.prev)).setCell ⟨bx + 1, 6, none⟩ (.int .u64 m.commit)).setCell ⟨bx + 1, 7, none⟩ (.int .u64 m.mark)).setCell ⟨bx + 1, 8, none⟩ (.bool false)).setCell ⟨bx + 1, 9, none⟩ (.slice av k cv)).setCell ⟨bx + 1, 10, none⟩ (.string ⟨#[]⟩))) := ((((((((((((HF2.out.trans0 F5.out).setCell (.inr (by have := HX.out; show w.heap.size ≤ bx + 1; omega)) _).setCell (.inr (by have := HX.out; show w.heap.size ≤ bx + 1; omega)) _).setCell (.inr (by have := HX.out; show w.heap.size ≤ bx + 1; omega)) _).setCell (.inr (by have := HX.out; show w.heap.size ≤ bx + 1; omega)) _).setCell (.inr (by have := HX.out; show w.heap.size ≤ bx + 1; omega)) _).setCell (.inr (by have := HX.out; show w.heap.size ≤ bx + 1; omega)) _).setCell (.inr (by have := HX.out; show w.heap.size ≤ bx + 1; omega)) _).setCell (.inr (by have := HX.out; show w.heap.size ≤ bx + 1; omega)) _).setCell (.inr (by have := HX.out; show w.heap.size ≤ bx + 1; omega)) _).setCell (.inr (by have := HX.out; show w.heap.size ≤ bx + 1; omega)) _).setCell (.inr (by have := HX.out; show w.heap.size ≤ bx + 1; omega)) _)
        have FO5 : Hid (Fr [bx + 1] W5 (((((((((((W5.setCell ⟨bx + 1, 0, none⟩ (.int .i64 (kk + 1))).setCell ⟨bx + 1, 1, none⟩ (.int .i64 (wrap64 (wrap64 ((IntKind.u64.wrap m.sent).tmod 7) + 1)))).setCell ⟨bx + 1, 2, none⟩ (.int .i64 (wrap64 (wrap64 ((IntKind.u64.wrap m.goal).tmod 7) + 1)))).setCell ⟨bx + 1, 3, none⟩ (.int .u64 m.term)).setCell ⟨bx + 1, 4, none⟩ (.int .u64 m.index)).setCell ⟨bx + 1, 5, none⟩ (.int .u64 m.prev)).setCell ⟨bx + 1, 6, none⟩ (.int .u64 m.commit)).setCell ⟨bx + 1, 7, none⟩ (.int .u64 m.mark)).setCell ⟨bx + 1, 8, none⟩ (.bool false)).setCell ⟨bx + 1, 9, none⟩ (.slice av k cv)).setCell ⟨bx + 1, 10, none⟩ (.string ⟨#[]⟩))) := ((((((((((((Fr.refl [bx + 1] W5).setCell (.inl (by simp)) _).setCell (.inl (by simp)) _).setCell (.inl (by simp)) _).setCell (.inl (by simp)) _).setCell (.inl (by simp)) _).setCell (.inl (by simp)) _).setCell (.inl (by simp)) _).setCell (.inl (by simp)) _).setCell (.inl (by simp)) _).setCell (.inl (by simp)) _).setCell (.inl (by simp)) _)
        clear y0 q0 z0 y1 q1 z1 y2 q2 z2 y3 q3 z3 y4 q4 z4 y5 q5 z5 y6 q6 z6 y7 q7 z7 y8 q8 z8 y9 q9 z9 y10 q10 z10
        generalize (((((((((((W5.setCell ⟨bx + 1, 0, none⟩ (.int .i64 (kk + 1))).setCell ⟨bx + 1, 1, none⟩ (.int .i64 (wrap64 (wrap64 ((IntKind.u64.wrap m.sent).tmod 7) + 1)))).setCell ⟨bx + 1, 2, none⟩ (.int .i64 (wrap64 (wrap64 ((IntKind.u64.wrap m.goal).tmod 7) + 1)))).setCell ⟨bx + 1, 3, none⟩ (.int .u64 m.term)).setCell ⟨bx + 1, 4, none⟩ (.int .u64 m.index)).setCell ⟨bx + 1, 5, none⟩ (.int .u64 m.prev)).setCell ⟨bx + 1, 6, none⟩ (.int .u64 m.commit)).setCell ⟨bx + 1, 7, none⟩ (.int .u64 m.mark)).setCell ⟨bx + 1, 8, none⟩ (.bool false)).setCell ⟨bx + 1, 9, none⟩ (.slice av k cv)).setCell ⟨bx + 1, 10, none⟩ (.string ⟨#[]⟩)) = W at *
        have BF' := BF.out
        have y0 : W.cell? ⟨bx + 1, 0, none⟩ = some (.int .i64 (kk + 1)) := BF'.cellAt (i := 0) rfl
        have y1 : W.cell? ⟨bx + 1, 1, none⟩ = some (.int .i64 (wrap64 (wrap64 ((IntKind.u64.wrap m.sent).tmod 7) + 1))) := BF'.cellAt (i := 1) rfl
        have y2 : W.cell? ⟨bx + 1, 2, none⟩ = some (.int .i64 (wrap64 (wrap64 ((IntKind.u64.wrap m.goal).tmod 7) + 1))) := BF'.cellAt (i := 2) rfl
        have y3 : W.cell? ⟨bx + 1, 3, none⟩ = some (.int .u64 m.term) := BF'.cellAt (i := 3) rfl
        have y4 : W.cell? ⟨bx + 1, 4, none⟩ = some (.int .u64 m.index) := BF'.cellAt (i := 4) rfl
        have y5 : W.cell? ⟨bx + 1, 5, none⟩ = some (.int .u64 m.prev) := BF'.cellAt (i := 5) rfl
        have y6 : W.cell? ⟨bx + 1, 6, none⟩ = some (.int .u64 m.commit) := BF'.cellAt (i := 6) rfl
        have y7 : W.cell? ⟨bx + 1, 7, none⟩ = some (.int .u64 m.mark) := BF'.cellAt (i := 7) rfl
        have y8 : W.cell? ⟨bx + 1, 8, none⟩ = some (.bool false) := BF'.cellAt (i := 8) rfl
        have y9 : W.cell? ⟨bx + 1, 9, none⟩ = some (.slice av k cv) := BF'.cellAt (i := 9) rfl
        have y10 : W.cell? ⟨bx + 1, 10, none⟩ = some (.string ⟨#[]⟩) := BF'.cellAt (i := 10) rfl
        refine bodyPost_ret (v := .agg #[.int .i64 (kk + 1), .int .i64 (wrap64 (wrap64 ((IntKind.u64.wrap m.sent).tmod 7) + 1)), .int .i64 (wrap64 (wrap64 ((IntKind.u64.wrap m.goal).tmod 7) + 1)), .int .u64 m.term, .int .u64 m.index, .int .u64 m.prev, .int .u64 m.commit, .int .u64 m.mark, .bool false, .slice av k cv, .string ⟨#[]⟩]) ?_ rfl ?_
        · simp [results, Tryd.results20, go_sem, y0, y1, y2, y3, y4, y5, y6, y7, y8, y9, y10]
        · exact ⟨_, HRes.out _, Lib.hid (own_ents (ownsRow_fr O5.out FO5.out (fun x hx e => by simp at e; subst e; have := RXX.out _ hx; have := HLT.out; omega))), FF⟩
end Go.Proofs.YthfaaoeecajkeaaDoor

namespace Go.Proofs.YthfaaoeecajkeaaDoor
open List renaming getElem?_toArray → lg0, getElem?_cons_succ → lg1, getElem?_cons_zero → lg2, setIfInBounds_toArray → lt0', set_cons_zero → lt1', set_cons_succ → lt2'
open Go.RowKit

set_option maxRecDepth 100000 in
set_option maxHeartbeats 8000000 in
theorem note_epe (m : Msg) (ad : Option Addr) (n cp : Nat) (w : World) (la : Option Addr) (lc : Nat) (he : m.Fits) (r : Int) (hr : m.kind.tmod 10 = r) (hneg' : 0 ≤ r) (hr6 : r < 10) (hK : m.kind % 10 = r) (hkind : msgMay (r + 1) = (⟨#[105, 112, 116, 101, 107]⟩, true)) :
    Calls Tryd.prog 20 #[.agg #[.int .i64 m.kind, .int .i64 m.sent, .int .i64 m.goal, .int .u64 m.term, .int .u64 m.index, .int .u64 m.prev, .int .u64 m.commit, .int .u64 m.mark, .bool m.yes, .slice ad n cp, .string m.snap, .bool true, .slice la 0 lc]] w fun e w' => ∃ v, e = .returned (.agg ((noteOf m []).cells v)) ∧ Hid (Ents w' v []) ∧ Hid (Fr [] w w') := by
  obtain ⟨hT, hI, hP, hC, hKm, _, _, hS⟩ := he
  unfold U64 maxLen at *
  have HRes : Hid (∀ v : Value, (Ending.returned (.agg #[.int .i64 (r + 1), .int .i64 (wrap64 (wrap64 ((IntKind.u64.wrap m.sent).tmod 7) + 1)), .int .i64 (wrap64 (wrap64 ((IntKind.u64.wrap m.goal).tmod 7) + 1)), .int .u64 m.term, .int .u64 m.index, .int .u64 m.prev, .int .u64 m.commit, .int .u64 m.mark, .bool false, v, .string ⟨#[]⟩]) : Ending) = .returned (.agg ((noteOf m []).cells v))) := by
    intro v
    unfold noteOf Msg.cells has' nodeW
    simp only [hK, hkind]
    rfl
  have HF := Lib.hid (rMsgFields (r + 1))
  rw [hkind] at HF
  clear hkind hK
  have hr0 : decide (r < 0) = false := by simp; omega
  go_enter Tryd.func20, Tryd.ntmps20
  go_wp2_with fail
  refine (HF.out _).mono ?_
  rintro r' w2 ⟨rfl, g2⟩
  have A1 : Fr [] w (w.alloc (.cells #[.int .i64 m.kind, .int .i64 m.sent, .int .i64 m.goal, .int .u64 m.term, .int .u64 m.index, .int .u64 m.prev, .int .u64 m.commit, .int .u64 m.mark, .bool m.yes, .slice ad n cp, .string m.snap, .bool true, .slice la 0 lc] 50)) := (Fr.refl _ _).alloc _
  have B3 : Blk w2 (w.heap.size + 1 + 1) #[.int .i64 m.kind, .int .i64 m.sent, .int .i64 m.goal, .int .u64 m.term, .int .u64 m.index, .int .u64 m.prev, .int .u64 m.commit, .int .u64 m.mark, .bool m.yes, .slice ad n cp, .string m.snap] 47 := by
    have h := Blk.fr0 (Blk.new ((w.alloc (.cells #[.int .i64 m.kind, .int .i64 m.sent, .int .i64 m.goal, .int .u64 m.term, .int .u64 m.index, .int .u64 m.prev, .int .u64 m.commit, .int .u64 m.mark, .bool m.yes, .slice ad n cp, .string m.snap, .bool true, .slice la 0 lc] 50)).alloc (.cells #[.int .i64 0, .int .i64 0, .int .i64 0, .int .u64 0, .int .u64 0, .int .u64 0, .int .u64 0, .int .u64 0, .bool false, .slice none 0 0, .string ⟨#[]⟩] 47)) #[.int .i64 m.kind, .int .i64 m.sent, .int .i64 m.goal, .int .u64 m.term, .int .u64 m.index, .int .u64 m.prev, .int .u64 m.commit, .int .u64 m.mark, .bool m.yes, .slice ad n cp, .string m.snap] 47) g2
    rw [show ((w.alloc (.cells #[.int .i64 m.kind, .int .i64 m.sent, .int .i64 m.goal, .int .u64 m.term, .int .u64 m.index, .int .u64 m.prev, .int .u64 m.commit, .int .u64 m.mark, .bool m.yes, .slice ad n cp, .string m.snap, .bool true, .slice la 0 lc] 50)).alloc (.cells #[.int .i64 0, .int .i64 0, .int .i64 0, .int .u64 0, .int .u64 0, .int .u64 0, .int .u64 0, .int .u64 0, .bool false, .slice none 0 0, .string ⟨#[]⟩] 47)).heap.size = w.heap.size + 1 + 1 by simp] at h
    exact h
  have BN : Hid (Blk w2 w.heap.size #[.int .i64 m.kind, .int .i64 m.sent, .int .i64 m.goal, .int .u64 m.term, .int .u64 m.index, .int .u64 m.prev, .int .u64 m.commit, .int .u64 m.mark, .bool m.yes, .slice ad n cp, .string m.snap, .bool true, .slice la 0 lc] 50) := Blk.fr0 (((Blk.new w #[.int .i64 m.kind, .int .i64 m.sent, .int .i64 m.goal, .int .u64 m.term, .int .u64 m.index, .int .u64 m.prev, .int .u64 m.commit, .int .u64 m.mark, .bool m.yes, .slice ad n cp, .string m.snap, .bool true, .slice la 0 lc] 50).alloc _).alloc _) g2
  have HB3 := Lib.hid B3
  have B2 : Blk w2 (w.heap.size + 1) #[.int .i64 0, .int .i64 0, .int .i64 0, .int .u64 0, .int .u64 0, .int .u64 0, .int .u64 0, .int .u64 0, .bool false, .slice none 0 0, .string ⟨#[]⟩] 47 := by
    have h := Blk.fr0 (Blk.alloc (Blk.new (w.alloc (.cells #[.int .i64 m.kind, .int .i64 m.sent, .int .i64 m.goal, .int .u64 m.term, .int .u64 m.index, .int .u64 m.prev, .int .u64 m.commit, .int .u64 m.mark, .bool m.yes, .slice ad n cp, .string m.snap, .bool true, .slice la 0 lc] 50)) #[.int .i64 0, .int .i64 0, .int .i64 0, .int .u64 0, .int .u64 0, .int .u64 0, .int .u64 0, .int .u64 0, .bool false, .slice none 0 0, .string ⟨#[]⟩] 47) (.cells #[.int .i64 m.kind, .int .i64 m.sent, .int .i64 m.goal, .int .u64 m.term, .int .u64 m.index, .int .u64 m.prev, .int .u64 m.commit, .int .u64 m.mark, .bool m.yes, .slice ad n cp, .string m.snap] 47)) g2
    rw [show (w.alloc (.cells #[.int .i64 m.kind, .int .i64 m.sent, .int .i64 m.goal, .int .u64 m.term, .int .u64 m.index, .int .u64 m.prev, .int .u64 m.commit, .int .u64 m.mark, .bool m.yes, .slice ad n cp, .string m.snap, .bool true, .slice la 0 lc] 50)).heap.size = w.heap.size + 1 by simp] at h
    exact h
  have HF2 : Hid (Fr [] w w2) := ((A1.alloc _).alloc _).trans0 g2
  have hlt := B3.lt
  clear A1 g2
  generalize hX : w.heap.size = bx at *
  have HX := Lib.hid hX
  clear hX
  have f0 := B3.cellAt (i := 0) rfl
  have f0' := ca B3 0
  have q0 := ca B2 0
  have z0 := za B2 0
  have f1 := B3.cellAt (i := 1) rfl
  have f1' := ca B3 1
  have q1 := ca B2 1
  have z1 := za B2 1
  have f2 := B3.cellAt (i := 2) rfl
  have f2' := ca B3 2
  have q2 := ca B2 2
  have z2 := za B2 2
  have f3 := B3.cellAt (i := 3) rfl
  have f3' := ca B3 3
  have q3 := ca B2 3
  have z3 := za B2 3
  have f4 := B3.cellAt (i := 4) rfl
  have f4' := ca B3 4
  have q4 := ca B2 4
  have z4 := za B2 4
  have f5 := B3.cellAt (i := 5) rfl
  have f5' := ca B3 5
  have q5 := ca B2 5
  have z5 := za B2 5
  have f6 := B3.cellAt (i := 6) rfl
  have f6' := ca B3 6
  have q6 := ca B2 6
  have z6 := za B2 6
  have f7 := B3.cellAt (i := 7) rfl
  have f7' := ca B3 7
  have q7 := ca B2 7
  have z7 := za B2 7
  have f8 := B3.cellAt (i := 8) rfl
  have f8' := ca B3 8
  have q8 := ca B2 8
  have z8 := za B2 8
  have f9 := B3.cellAt (i := 9) rfl
  have f9' := ca B3 9
  have q9 := ca B2 9
  have z9 := za B2 9
  have f10 := B3.cellAt (i := 10) rfl
  have f10' := ca B3 10
  have q10 := ca B2 10
  have z10 := za B2 10
  have HB2 := Lib.hid B2
  clear B2 B3
  go_wp2_with fail
  have HLT : Hid (bx + 1 < w2.heap.size) := HB2.out.lt
  have BxL : w2.cell? ⟨bx, 12, none⟩ = some (.slice la 0 lc) := BN.out.cellAt (i := 12) rfl
  have BxL' := ca BN.out 12
  refine wp_loop_rounds 6 ?_
  rw [rounds_succ]
  go_wp2_with fail
  rw [rounds_succ]
  go_wp2_with fail
  rw [rounds_succ]
  go_wp2_with fail
  rw [rounds_succ]
  go_wp2_with fail
  have BO : Hid (Blk (w2.alloc (.cells #[.int .i64 (r + 1), .int .i64 (wrap64 (wrap64 ((IntKind.u64.wrap m.sent).tmod 7) + 1)), .int .i64 (wrap64 (wrap64 ((IntKind.u64.wrap m.goal).tmod 7) + 1)), .int .u64 m.term, .int .u64 m.index, .int .u64 m.prev, .int .u64 m.commit, .int .u64 0, .bool false, .slice none 0 0, .string ⟨#[]⟩] 47)) w2.heap.size #[.int .i64 (r + 1), .int .i64 (wrap64 (wrap64 ((IntKind.u64.wrap m.sent).tmod 7) + 1)), .int .i64 (wrap64 (wrap64 ((IntKind.u64.wrap m.goal).tmod 7) + 1)), .int .u64 m.term, .int .u64 m.index, .int .u64 m.prev, .int .u64 m.commit, .int .u64 0, .bool false, .slice none 0 0, .string ⟨#[]⟩] 47) := Blk.new _ _ _
  have FO : Hid (Fr [] w2 (w2.alloc (.cells #[.int .i64 (r + 1), .int .i64 (wrap64 (wrap64 ((IntKind.u64.wrap m.sent).tmod 7) + 1)), .int .i64 (wrap64 (wrap64 ((IntKind.u64.wrap m.goal).tmod 7) + 1)), .int .u64 m.term, .int .u64 m.index, .int .u64 m.prev, .int .u64 m.commit, .int .u64 0, .bool false, .slice none 0 0, .string ⟨#[]⟩] 47))) := (Fr.refl _ _).alloc _
  have HBx : Hid (∀ wr, Fr [] w2 wr → wr.cell? ⟨bx, 12, none⟩ = some (.slice la 0 lc)) := fun wr f => (World.cell?_of_block (w := w2) (f.block bx (by omega) (by simp))).trans BxL
  clear BxL BxL' f0 f0' f1 f1' f2 f2' f3 f3' f4 f4' f5 f5' f6 f6' f7 f7' f8 f8' f9 f9' f10 f10'
  generalize (w2.alloc (.cells #[.int .i64 (r + 1), .int .i64 (wrap64 (wrap64 ((IntKind.u64.wrap m.sent).tmod 7) + 1)), .int .i64 (wrap64 (wrap64 ((IntKind.u64.wrap m.goal).tmod 7) + 1)), .int .u64 m.term, .int .u64 m.index, .int .u64 m.prev, .int .u64 m.commit, .int .u64 0, .bool false, .slice none 0 0, .string ⟨#[]⟩] 47)) = W0 at *
  obtain ⟨bo, hbo⟩ : ∃ bo, w2.heap.size = bo := ⟨_, rfl⟩
  rw [hbo] at BO ⊢
  have HBO := Lib.hid hbo
  clear hbo
  have hcl := HBx.out _ FO.out
  refine wp_loop_rounds 1 ?_
  rw [rounds_succ]
  have RBO : Hid (Blk W0 bo #[.int .i64 (r + 1), .int .i64 (wrap64 (wrap64 ((IntKind.u64.wrap m.sent).tmod 7) + 1)), .int .i64 (wrap64 (wrap64 ((IntKind.u64.wrap m.goal).tmod 7) + 1)), .int .u64 m.term, .int .u64 m.index, .int .u64 m.prev, .int .u64 m.commit, .int .u64 0, .bool false, .slice none 0 0, .string ⟨#[]⟩] 47) := BO
  have ROO : Hid (W0.ownsRow 0 24 11 (.slice none 0 0) ([] : List Ent).length (flatE [])) := World.ownsRow_nil W0 0 24 11
  have RFF : Hid (Fr [] w2 W0) := FO
  have RXX : Hid (∀ x, x ∈ (Value.slice none 0 0).ownBlock.toList → w2.heap.size < x) := by intro x hx; simp [Value.ownBlock] at hx
  have RB2 := Lib.hid (HB2.out.fr0 FO.out)
  have RB3 := Lib.hid (HB3.out.fr0 FO.out)
  have m7 : W0.cell? ⟨bx + 1 + 1, 7, none⟩ = some (.int .u64 m.mark) := RB3.out.cellAt (i := 7) rfl
  have o7 : W0.cell? ⟨bo, 7, none⟩ = some (.int .u64 0) := RBO.out.cellAt (i := 7) rfl
  have zo7 := RBO.out.froz 7
  go_wp2_with fail
  rw [rounds_succ]
  go_wp2_with fail
  have BO5 : Hid (Blk (W0.setCell ⟨bo, 7, none⟩ (.int .u64 m.mark)) bo #[.int .i64 (r + 1), .int .i64 (wrap64 (wrap64 ((IntKind.u64.wrap m.sent).tmod 7) + 1)), .int .i64 (wrap64 (wrap64 ((IntKind.u64.wrap m.goal).tmod 7) + 1)), .int .u64 m.term, .int .u64 m.index, .int .u64 m.prev, .int .u64 m.commit, .int .u64 m.mark, .bool false, .slice none 0 0, .string ⟨#[]⟩] 47) := by
    have h := RBO.out.set 7 (.int .u64 m.mark)
    simp only [lt0', lt1', lt2'] at h
    exact h
  have B25 : Hid (Blk (W0.setCell ⟨bo, 7, none⟩ (.int .u64 m.mark)) (bx + 1) #[.int .i64 0, .int .i64 0, .int .i64 0, .int .u64 0, .int .u64 0, .int .u64 0, .int .u64 0, .int .u64 0, .bool false, .slice none 0 0, .string ⟨#[]⟩] 47) := RB2.out.far (p := ⟨bo, 7, none⟩) (by show bx + 1 ≠ bo; have := HBO.out; omega) _
  have O5 : Hid ((W0.setCell ⟨bo, 7, none⟩ (.int .u64 m.mark)).ownsRow 0 24 11 (.slice none 0 0) ([] : List Ent).length (flatE [])) := ownsRow_fr ROO.out ((Fr.refl [bo] _).setCell (p := ⟨bo, 7, none⟩) (.inl (by simp)) _) (fun x hx e => by simp at e; subst e; have := RXX.out _ hx; have := HBO.out; omega)
  have F5 : Hid (Fr [] w2 (W0.setCell ⟨bo, 7, none⟩ (.int .u64 m.mark))) := RFF.out.setCell (p := ⟨bo, 7, none⟩) (.inr (by show w2.heap.size ≤ bo; have := HBO.out; omega)) _
  clear m7 o7 zo7
  generalize (W0.setCell ⟨bo, 7, none⟩ (.int .u64 m.mark)) = W5 at *
  have y0 : W5.cell? ⟨bo, 0, none⟩ = some (.int .i64 (r + 1)) := BO5.out.cellAt (i := 0) rfl
  have q0 : W5.cell? ⟨bx + 1, 0, none⟩ = some (.int .i64 0) := B25.out.cellAt (i := 0) rfl
  have z0 := B25.out.froz 0
  have y1 : W5.cell? ⟨bo, 1, none⟩ = some (.int .i64 (wrap64 (wrap64 ((IntKind.u64.wrap m.sent).tmod 7) + 1))) := BO5.out.cellAt (i := 1) rfl
  have q1 : W5.cell? ⟨bx + 1, 1, none⟩ = some (.int .i64 0) := B25.out.cellAt (i := 1) rfl
  have z1 := B25.out.froz 1
  have y2 : W5.cell? ⟨bo, 2, none⟩ = some (.int .i64 (wrap64 (wrap64 ((IntKind.u64.wrap m.goal).tmod 7) + 1))) := BO5.out.cellAt (i := 2) rfl
  have q2 : W5.cell? ⟨bx + 1, 2, none⟩ = some (.int .i64 0) := B25.out.cellAt (i := 2) rfl
  have z2 := B25.out.froz 2
  have y3 : W5.cell? ⟨bo, 3, none⟩ = some (.int .u64 m.term) := BO5.out.cellAt (i := 3) rfl
  have q3 : W5.cell? ⟨bx + 1, 3, none⟩ = some (.int .u64 0) := B25.out.cellAt (i := 3) rfl
  have z3 := B25.out.froz 3
  have y4 : W5.cell? ⟨bo, 4, none⟩ = some (.int .u64 m.index) := BO5.out.cellAt (i := 4) rfl
  have q4 : W5.cell? ⟨bx + 1, 4, none⟩ = some (.int .u64 0) := B25.out.cellAt (i := 4) rfl
  have z4 := B25.out.froz 4
  have y5 : W5.cell? ⟨bo, 5, none⟩ = some (.int .u64 m.prev) := BO5.out.cellAt (i := 5) rfl
  have q5 : W5.cell? ⟨bx + 1, 5, none⟩ = some (.int .u64 0) := B25.out.cellAt (i := 5) rfl
  have z5 := B25.out.froz 5
  have y6 : W5.cell? ⟨bo, 6, none⟩ = some (.int .u64 m.commit) := BO5.out.cellAt (i := 6) rfl
  have q6 : W5.cell? ⟨bx + 1, 6, none⟩ = some (.int .u64 0) := B25.out.cellAt (i := 6) rfl
  have z6 := B25.out.froz 6
  have y7 : W5.cell? ⟨bo, 7, none⟩ = some (.int .u64 m.mark) := BO5.out.cellAt (i := 7) rfl
  have q7 : W5.cell? ⟨bx + 1, 7, none⟩ = some (.int .u64 0) := B25.out.cellAt (i := 7) rfl
  have z7 := B25.out.froz 7
  have y8 : W5.cell? ⟨bo, 8, none⟩ = some (.bool false) := BO5.out.cellAt (i := 8) rfl
  have q8 : W5.cell? ⟨bx + 1, 8, none⟩ = some (.bool false) := B25.out.cellAt (i := 8) rfl
  have z8 := B25.out.froz 8
  have y9 : W5.cell? ⟨bo, 9, none⟩ = some (.slice none 0 0) := BO5.out.cellAt (i := 9) rfl
  have q9 : W5.cell? ⟨bx + 1, 9, none⟩ = some (.slice none 0 0) := B25.out.cellAt (i := 9) rfl
  have z9 := B25.out.froz 9
  have y10 : W5.cell? ⟨bo, 10, none⟩ = some (.string ⟨#[]⟩) := BO5.out.cellAt (i := 10) rfl
  have q10 : W5.cell? ⟨bx + 1, 10, none⟩ = some (.string ⟨#[]⟩) := B25.out.cellAt (i := 10) rfl
  have z10 := B25.out.froz 10
  rw [rounds_succ]
  go_wp2_with fail
  have BF : Hid (Blk (((((((((((W5.setCell ⟨bx + 1, 0, none⟩ (.int .i64 (r + 1))).setCell ⟨bx + 1, 1, none⟩ (.int .i64 (wrap64 (wrap64 ((IntKind.u64.wrap m.sent).tmod 7) + 1)))).setCell ⟨bx + 1, 2, none⟩ (.int .i64 (wrap64 (wrap64 ((IntKind.u64.wrap m.goal).tmod 7) + 1)))).setCell ⟨bx + 1, 3, none⟩ (.int .u64 m.term)).setCell ⟨bx + 1, 4, none⟩ (.int .u64 m.index)).setCell ⟨bx + 1, 5, none⟩ (.int .u64 m.prev)).setCell ⟨bx + 1, 6, none⟩ (.int .u64 m.commit)).setCell ⟨bx + 1, 7, none⟩ (.int .u64 m.mark)).setCell ⟨bx + 1, 8, none⟩ (.bool false)).setCell ⟨bx + 1, 9, none⟩ (.slice none 0 0)).setCell ⟨bx + 1, 10, none⟩ (.string ⟨#[]⟩)) (bx + 1) #[.int .i64 (r + 1), .int .i64 (wrap64 (wrap64 ((IntKind.u64.wrap m.sent).tmod 7) + 1)), .int .i64 (wrap64 (wrap64 ((IntKind.u64.wrap m.goal).tmod 7) + 1)), .int .u64 m.term, .int .u64 m.index, .int .u64 m.prev, .int .u64 m.commit, .int .u64 m.mark, .bool false, .slice none 0 0, .string ⟨#[]⟩] 47) := Blk.put11 B25.out (.int .i64 (r + 1)) (.int .i64 (wrap64 (wrap64 ((IntKind.u64.wrap m.sent).tmod 7) + 1))) (.int .i64 (wrap64 (wrap64 ((IntKind.u64.wrap m.goal).tmod 7) + 1))) (.int .u64 m.term) (.int .u64 m.index) (.int .u64 m.prev) (.int .u64 m.commit) (.int .u64 m.mark) (.bool false) (.slice none 0 0) (.string ⟨#[]⟩)
  have FF : Hid (Fr [] w (((((((((((W5.setCell ⟨bx + 1, 0, none⟩ (.int .i64 (r + 1))).setCell ⟨bx + 1, 1, none⟩ (.int .i64 (wrap64 (wrap64 ((IntKind.u64.wrap m.sent).tmod 7) + 1)))).setCell ⟨bx + 1, 2, none⟩ (.int .i64 (wrap64 (wrap64 ((IntKind.u64.wrap m.goal).tmod 7) + 1)))).setCell ⟨bx + 1, 3, none⟩ (.int .u64 m.term)).setCell ⟨bx + 1, 4, none⟩ (.int .u64 m.index)).setCell ⟨bx + 1, 5, none⟩ (.int .u64 m.prev)).setCell ⟨bx + 1, 6, none⟩ (.int .u64 m.commit)).setCell ⟨bx + 1, 7, none⟩ (.int .u64 m.mark)).setCell ⟨bx + 1, 8, none⟩ (.bool false)).setCell ⟨bx + 1, 9, none⟩ (.slice none 0 0)).setCell ⟨bx + 1, 10, none⟩ (.string ⟨#[]⟩))) := ((((((((((((HF2.out.trans0 F5.out).setCell (.inr (by have := HX.out; show w.heap.size ≤ bx + 1; omega)) _).setCell (.inr (by have := HX.out; show w.heap.size ≤ bx + 1; omega)) _).setCell (.inr (by have := HX.out; show w.heap.size ≤ bx + 1; omega)) _).setCell (.inr (by have := HX.out; show w.heap.size ≤ bx + 1; omega)) _).setCell (.inr (by have := HX.out; show w.heap.size ≤ bx + 1; omega)) _).setCell (.inr (by have := HX.out; show w.heap.size ≤ bx + 1; omega)) _).setCell (.inr (by have := HX.out; show w.heap.size ≤ bx + 1; omega)) _).setCell (.inr (by have := HX.out; show w.heap.size ≤ bx + 1; omega)) _).setCell (.inr (by have := HX.out; show w.heap.size ≤ bx + 1; omega)) _).setCell (.inr (by have := HX.out; show w.heap.size ≤ bx + 1; omega)) _).setCell (.inr (by have := HX.out; show w.heap.size ≤ bx + 1; omega)) _)
  have FO5 : Hid (Fr [bx + 1] W5 (((((((((((W5.setCell ⟨bx + 1, 0, none⟩ (.int .i64 (r + 1))).setCell ⟨bx + 1, 1, none⟩ (.int .i64 (wrap64 (wrap64 ((IntKind.u64.wrap m.sent).tmod 7) + 1)))).setCell ⟨bx + 1, 2, none⟩ (.int .i64 (wrap64 (wrap64 ((IntKind.u64.wrap m.goal).tmod 7) + 1)))).setCell ⟨bx + 1, 3, none⟩ (.int .u64 m.term)).setCell ⟨bx + 1, 4, none⟩ (.int .u64 m.index)).setCell ⟨bx + 1, 5, none⟩ (.int .u64 m.prev)).setCell ⟨bx + 1, 6, none⟩ (.int .u64 m.commit)).setCell ⟨bx + 1, 7, none⟩ (.int .u64 m.mark)).setCell ⟨bx + 1, 8, none⟩ (.bool false)).setCell ⟨bx + 1, 9, none⟩ (.slice none 0 0)).setCell ⟨bx + 1, 10, none⟩ (.string ⟨#[]⟩))) := ((((((((((((Fr.refl [bx + 1] W5).setCell (.inl (by simp)) _).setCell (.inl (by simp)) _).setCell (.inl (by simp)) _).setCell (.inl (by simp)) _).setCell (.inl (by simp)) _).setCell (.inl (by simp)) _).setCell (.inl (by simp)) _).setCell (.inl (by simp)) _).setCell (.inl (by simp)) _).setCell (.inl (by simp)) _).setCell (.inl (by simp)) _)
  clear y0 q0 z0 y1 q1 z1 y2 q2 z2 y3 q3 z3 y4 q4 z4 y5 q5 z5 y6 q6 z6 y7 q7 z7 y8 q8 z8 y9 q9 z9 y10 q10 z10
  generalize (((((((((((W5.setCell ⟨bx + 1, 0, none⟩ (.int .i64 (r + 1))).setCell ⟨bx + 1, 1, none⟩ (.int .i64 (wrap64 (wrap64 ((IntKind.u64.wrap m.sent).tmod 7) + 1)))).setCell ⟨bx + 1, 2, none⟩ (.int .i64 (wrap64 (wrap64 ((IntKind.u64.wrap m.goal).tmod 7) + 1)))).setCell ⟨bx + 1, 3, none⟩ (.int .u64 m.term)).setCell ⟨bx + 1, 4, none⟩ (.int .u64 m.index)).setCell ⟨bx + 1, 5, none⟩ (.int .u64 m.prev)).setCell ⟨bx + 1, 6, none⟩ (.int .u64 m.commit)).setCell ⟨bx + 1, 7, none⟩ (.int .u64 m.mark)).setCell ⟨bx + 1, 8, none⟩ (.bool false)).setCell ⟨bx + 1, 9, none⟩ (.slice none 0 0)).setCell ⟨bx + 1, 10, none⟩ (.string ⟨#[]⟩)) = W at *
  have BF' := BF.out
  have y0 : W.cell? ⟨bx + 1, 0, none⟩ = some (.int .i64 (r + 1)) := BF'.cellAt (i := 0) rfl
  have y1 : W.cell? ⟨bx + 1, 1, none⟩ = some (.int .i64 (wrap64 (wrap64 ((IntKind.u64.wrap m.sent).tmod 7) + 1))) := BF'.cellAt (i := 1) rfl
  have y2 : W.cell? ⟨bx + 1, 2, none⟩ = some (.int .i64 (wrap64 (wrap64 ((IntKind.u64.wrap m.goal).tmod 7) + 1))) := BF'.cellAt (i := 2) rfl
  have y3 : W.cell? ⟨bx + 1, 3, none⟩ = some (.int .u64 m.term) := BF'.cellAt (i := 3) rfl
  have y4 : W.cell? ⟨bx + 1, 4, none⟩ = some (.int .u64 m.index) := BF'.cellAt (i := 4) rfl
  have y5 : W.cell? ⟨bx + 1, 5, none⟩ = some (.int .u64 m.prev) := BF'.cellAt (i := 5) rfl
  have y6 : W.cell? ⟨bx + 1, 6, none⟩ = some (.int .u64 m.commit) := BF'.cellAt (i := 6) rfl
  have y7 : W.cell? ⟨bx + 1, 7, none⟩ = some (.int .u64 m.mark) := BF'.cellAt (i := 7) rfl
  have y8 : W.cell? ⟨bx + 1, 8, none⟩ = some (.bool false) := BF'.cellAt (i := 8) rfl
  have y9 : W.cell? ⟨bx + 1, 9, none⟩ = some (.slice none 0 0) := BF'.cellAt (i := 9) rfl
  have y10 : W.cell? ⟨bx + 1, 10, none⟩ = some (.string ⟨#[]⟩) := BF'.cellAt (i := 10) rfl
  refine bodyPost_ret (v := .agg #[.int .i64 (r + 1), .int .i64 (wrap64 (wrap64 ((IntKind.u64.wrap m.sent).tmod 7) + 1)), .int .i64 (wrap64 (wrap64 ((IntKind.u64.wrap m.goal).tmod 7) + 1)), .int .u64 m.term, .int .u64 m.index, .int .u64 m.prev, .int .u64 m.commit, .int .u64 m.mark, .bool false, .slice none 0 0, .string ⟨#[]⟩]) ?_ rfl ?_
  · simp [results, Tryd.results20, go_sem, y0, y1, y2, y3, y4, y5, y6, y7, y8, y9, y10]
  · exact ⟨_, HRes.out _, Lib.hid (own_ents (ownsRow_fr O5.out FO5.out (fun x hx e => by simp at e; subst e; have := RXX.out _ hx; have := HLT.out; omega))), FF⟩
end Go.Proofs.YthfaaoeecajkeaaDoor
