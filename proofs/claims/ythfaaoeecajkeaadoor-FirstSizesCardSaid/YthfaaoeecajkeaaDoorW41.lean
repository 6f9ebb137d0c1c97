/-
  Texts of this seat, joined: GFs.
-/
import Derived.Test.YthfaaoeecajkeaaDoorRows
import Derived.Test.YthfaaoeecajkeaaDoorW29
import Derived.Test.YthfaaoeecajkeaaDoorW40
import Derived.Test.YthfaaoeecajkeaaDoorW34
set_option linter.unusedSimpArgs false
set_option linter.unusedVariables false
namespace Go.Proofs.YthfaaoeecajkeaaDoor.firstSizes
open Go.RowKit Go.Proofs.YthfaaoeecajkeaaDoor

theorem size_ok (e : Ent) (k : Bool) (h : (e.ok && decide (e.lvl ≤ 1)) = k) : k = true → (bs (put5R e)).size = 110 := by
  intro hk
  rw [hk] at h
  unfold put5R
  rw [h, if_pos rfl, bs_size]
  simp only [Bool.and_eq_true] at h
  exact put5_length e (by have := ok_data e h.1; omega)
theorem sizeM_ok (m : Msg) (k : Bool) (h : (m.ok && decide (m.lvl ≤ 1)) = k) : k = true → ((bs (putM5R m)).size : Int) = 49 + 110 * (m.ents.length : Int) + (m.snap.size : Int) ∧ m.ents.length ≤ 64 ∧ m.snap.size ≤ 16384 := by
  intro hk
  rw [hk] at h
  unfold putM5R
  rw [h, if_pos rfl, bs_size]
  simp only [Bool.and_eq_true, decide_eq_true_eq] at h
  obtain ⟨_, _, _, hn, hall, hs⟩ := okM_small m h.1
  have hf := flat_length m.ents (fun e he => by have := ok_data e (hall e he); omega)
  have hz : m.snap.data.toList.length = m.snap.size := rfl
  refine ⟨?_, hn, hs⟩
  unfold putM5
  simp only [List.length_append, fixL_length _ 1 (by decide), fixL_length _ 8 (by decide), fixL_length _ 4 (by decide), hf, hz]
  omega

set_option maxRecDepth 100000 in
set_option maxHeartbeats 8000000 in
theorem walk (a : Ent) (qa : Bool) (b : Ent) (qb : Bool) (m : Msg) (own : Bool) (ad : Option Addr) (n cp : Nat) (l : List Ent) (la : Option Addr) (ln lc : Nat) (w : World) (ha : a.Fits) (hb : b.Fits) (he : m.Fits) (hv : Ents w (.slice ad n cp) m.ents) (hl : Mrow w la ln l) :
    Calls Tryd.prog 6 #[.agg #[.int .u64 a.term, .int .u64 a.index, .int .i64 a.kind, .int .u64 a.client, .int .u64 a.seq, .int .u64 a.block, .int .u64 a.many, .int .i64 a.node, .int .i64 a.level, .string a.data, .string a.old, .bool qa], .agg #[.int .u64 b.term, .int .u64 b.index, .int .i64 b.kind, .int .u64 b.client, .int .u64 b.seq, .int .u64 b.block, .int .u64 b.many, .int .i64 b.node, .int .i64 b.level, .string b.data, .string b.old, .bool qb], .agg #[.int .i64 m.kind, .int .i64 m.sent, .int .i64 m.goal, .int .u64 m.term, .int .u64 m.index, .int .u64 m.prev, .int .u64 m.commit, .int .u64 m.mark, .bool m.yes, .slice ad n cp, .string m.snap, .bool own, .slice la ln lc]] w fun e w' => e = .returned (.bool true) ∧ Fr [] w w' := by
  have HMa := Lib.hid (fun w => made_own a w ha)
  have HMb := Lib.hid (fun w => made_own b w hb)
  have HN := Lib.hid (fun w1 (f : Fr [] w w1) => note_own m ad n cp l la ln lc w1 he (hl.fr0 f))
  have hXf := noteM_fits m l he hl.2.1
  have hXo := noteM_ok m l
  obtain ⟨A, hA⟩ : ∃ A, madeOf a = A := ⟨_, rfl⟩
  obtain ⟨B, hB⟩ : ∃ B, madeOf b = B := ⟨_, rfl⟩
  obtain ⟨X, hX⟩ : ∃ X, noteM m l = X := ⟨_, rfl⟩
  have hAf := madeOf_fits a ha
  have hBf := madeOf_fits b hb
  rw [hA] at HMa hAf
  rw [hB] at HMb hBf
  rw [hX] at HN hXf hXo
  have HPa := Lib.hid (fun w => pPut A w hAf)
  have HPb := Lib.hid (fun w => pPut B w hBf)
  have HPm := Lib.hid (fun w v (h : Ents w v X.ents) => pPutM X v w hXf h)
  have HLm := Lib.hid (fun w v (h : Ents w v X.ents) => eMsgLevel X v w hXf h)
  obtain ⟨ka, hka⟩ : ∃ k, (A.ok && decide (A.lvl ≤ 1)) = k := ⟨_, rfl⟩
  obtain ⟨kb, hkb⟩ : ∃ k, (B.ok && decide (B.lvl ≤ 1)) = k := ⟨_, rfl⟩
  have hsa := size_ok A ka hka
  have hsb := size_ok B kb hkb
  have hsm := sizeM_ok X _ rfl
  have hkm : (X.ok && decide (X.lvl ≤ 1)) = decide (X.lvl = 1) := by
    rw [hXo, Bool.true_and]
    rcases Msg.lvl_or X with h | h <;> rw [h] <;> rfl
  rw [hka] at HPa
  rw [hkb] at HPb
  rw [hkm] at HPm hsm
  obtain ⟨SA, hSA⟩ : ∃ S, bs (put5R A) = S := ⟨_, rfl⟩
  obtain ⟨SB, hSB⟩ : ∃ S, bs (put5R B) = S := ⟨_, rfl⟩
  obtain ⟨SM, hSM⟩ : ∃ S, bs (putM5R X) = S := ⟨_, rfl⟩
  rw [hSA] at HPa hsa
  rw [hSB] at HPb hsb
  rw [hSM] at HPm hsm
  have HSA := Lib.hid hsa
  have HSB := Lib.hid hsb
  have HSM := Lib.hid hsm
  have HLo := Lib.hid (Msg.lvl_or X)
  have HF0 : Hid (Fr [] w w) := Fr.refl _ _
  clear ha hb he hv hl hXf hXo hA hB hX hAf hBf hka hkb hsa hsb hsm hkm hSA hSB hSM
  unfold Ent.cells at HMa HMb HPa HPb
  go_enter Tryd.func6, Tryd.ntmps6
  have HBa := Lib.hid (((Blk.new w #[.int .u64 a.term, .int .u64 a.index, .int .i64 a.kind, .int .u64 a.client, .int .u64 a.seq, .int .u64 a.block, .int .u64 a.many, .int .i64 a.node, .int .i64 a.level, .string a.data, .string a.old, .bool qa] 26).alloc (.cells #[.int .u64 b.term, .int .u64 b.index, .int .i64 b.kind, .int .u64 b.client, .int .u64 b.seq, .int .u64 b.block, .int .u64 b.many, .int .i64 b.node, .int .i64 b.level, .string b.data, .string b.old, .bool qb] 26)).alloc (.cells #[.int .i64 m.kind, .int .i64 m.sent, .int .i64 m.goal, .int .u64 m.term, .int .u64 m.index, .int .u64 m.prev, .int .u64 m.commit, .int .u64 m.mark, .bool m.yes, .slice ad n cp, .string m.snap, .bool own, .slice la ln lc] 50))
  have HBb : Hid (Blk (((w.alloc (.cells #[.int .u64 a.term, .int .u64 a.index, .int .i64 a.kind, .int .u64 a.client, .int .u64 a.seq, .int .u64 a.block, .int .u64 a.many, .int .i64 a.node, .int .i64 a.level, .string a.data, .string a.old, .bool qa] 26)).alloc (.cells #[.int .u64 b.term, .int .u64 b.index, .int .i64 b.kind, .int .u64 b.client, .int .u64 b.seq, .int .u64 b.block, .int .u64 b.many, .int .i64 b.node, .int .i64 b.level, .string b.data, .string b.old, .bool qb] 26)).alloc (.cells #[.int .i64 m.kind, .int .i64 m.sent, .int .i64 m.goal, .int .u64 m.term, .int .u64 m.index, .int .u64 m.prev, .int .u64 m.commit, .int .u64 m.mark, .bool m.yes, .slice ad n cp, .string m.snap, .bool own, .slice la ln lc] 50)) (w.heap.size + 1) #[.int .u64 b.term, .int .u64 b.index, .int .i64 b.kind, .int .u64 b.client, .int .u64 b.seq, .int .u64 b.block, .int .u64 b.many, .int .i64 b.node, .int .i64 b.level, .string b.data, .string b.old, .bool qb] 26) := by
    have h := (Blk.new (w.alloc (.cells #[.int .u64 a.term, .int .u64 a.index, .int .i64 a.kind, .int .u64 a.client, .int .u64 a.seq, .int .u64 a.block, .int .u64 a.many, .int .i64 a.node, .int .i64 a.level, .string a.data, .string a.old, .bool qa] 26)) #[.int .u64 b.term, .int .u64 b.index, .int .i64 b.kind, .int .u64 b.client, .int .u64 b.seq, .int .u64 b.block, .int .u64 b.many, .int .i64 b.node, .int .i64 b.level, .string b.data, .string b.old, .bool qb] 26).alloc (.cells #[.int .i64 m.kind, .int .i64 m.sent, .int .i64 m.goal, .int .u64 m.term, .int .u64 m.index, .int .u64 m.prev, .int .u64 m.commit, .int .u64 m.mark, .bool m.yes, .slice ad n cp, .string m.snap, .bool own, .slice la ln lc] 50)
    rw [show (w.alloc (.cells #[.int .u64 a.term, .int .u64 a.index, .int .i64 a.kind, .int .u64 a.client, .int .u64 a.seq, .int .u64 a.block, .int .u64 a.many, .int .i64 a.node, .int .i64 a.level, .string a.data, .string a.old, .bool qa] 26)).heap.size = w.heap.size + 1 by simp] at h
    exact h
  have HBn : Hid (Blk (((w.alloc (.cells #[.int .u64 a.term, .int .u64 a.index, .int .i64 a.kind, .int .u64 a.client, .int .u64 a.seq, .int .u64 a.block, .int .u64 a.many, .int .i64 a.node, .int .i64 a.level, .string a.data, .string a.old, .bool qa] 26)).alloc (.cells #[.int .u64 b.term, .int .u64 b.index, .int .i64 b.kind, .int .u64 b.client, .int .u64 b.seq, .int .u64 b.block, .int .u64 b.many, .int .i64 b.node, .int .i64 b.level, .string b.data, .string b.old, .bool qb] 26)).alloc (.cells #[.int .i64 m.kind, .int .i64 m.sent, .int .i64 m.goal, .int .u64 m.term, .int .u64 m.index, .int .u64 m.prev, .int .u64 m.commit, .int .u64 m.mark, .bool m.yes, .slice ad n cp, .string m.snap, .bool own, .slice la ln lc] 50)) (w.heap.size + 1 + 1) #[.int .i64 m.kind, .int .i64 m.sent, .int .i64 m.goal, .int .u64 m.term, .int .u64 m.index, .int .u64 m.prev, .int .u64 m.commit, .int .u64 m.mark, .bool m.yes, .slice ad n cp, .string m.snap, .bool own, .slice la ln lc] 50) := by
    have h := Blk.new ((w.alloc (.cells #[.int .u64 a.term, .int .u64 a.index, .int .i64 a.kind, .int .u64 a.client, .int .u64 a.seq, .int .u64 a.block, .int .u64 a.many, .int .i64 a.node, .int .i64 a.level, .string a.data, .string a.old, .bool qa] 26)).alloc (.cells #[.int .u64 b.term, .int .u64 b.index, .int .i64 b.kind, .int .u64 b.client, .int .u64 b.seq, .int .u64 b.block, .int .u64 b.many, .int .i64 b.node, .int .i64 b.level, .string b.data, .string b.old, .bool qb] 26)) #[.int .i64 m.kind, .int .i64 m.sent, .int .i64 m.goal, .int .u64 m.term, .int .u64 m.index, .int .u64 m.prev, .int .u64 m.commit, .int .u64 m.mark, .bool m.yes, .slice ad n cp, .string m.snap, .bool own, .slice la ln lc] 50
    rw [show ((w.alloc (.cells #[.int .u64 a.term, .int .u64 a.index, .int .i64 a.kind, .int .u64 a.client, .int .u64 a.seq, .int .u64 a.block, .int .u64 a.many, .int .i64 a.node, .int .i64 a.level, .string a.data, .string a.old, .bool qa] 26)).alloc (.cells #[.int .u64 b.term, .int .u64 b.index, .int .i64 b.kind, .int .u64 b.client, .int .u64 b.seq, .int .u64 b.block, .int .u64 b.many, .int .i64 b.node, .int .i64 b.level, .string b.data, .string b.old, .bool qb] 26)).heap.size = w.heap.size + 1 + 1 by simp] at h
    exact h
  have HFv := Lib.hid (((HF0.out.alloc (.cells #[.int .u64 a.term, .int .u64 a.index, .int .i64 a.kind, .int .u64 a.client, .int .u64 a.seq, .int .u64 a.block, .int .u64 a.many, .int .i64 a.node, .int .i64 a.level, .string a.data, .string a.old, .bool qa] 26)).alloc (.cells #[.int .u64 b.term, .int .u64 b.index, .int .i64 b.kind, .int .u64 b.client, .int .u64 b.seq, .int .u64 b.block, .int .u64 b.many, .int .i64 b.node, .int .i64 b.level, .string b.data, .string b.old, .bool qb] 26)).alloc (.cells #[.int .i64 m.kind, .int .i64 m.sent, .int .i64 m.goal, .int .u64 m.term, .int .u64 m.index, .int .u64 m.prev, .int .u64 m.commit, .int .u64 m.mark, .bool m.yes, .slice ad n cp, .string m.snap, .bool own, .slice la ln lc] 50))
  go_wp2_with fail
  generalize ((w.alloc (.cells #[.int .u64 a.term, .int .u64 a.index, .int .i64 a.kind, .int .u64 a.client, .int .u64 a.seq, .int .u64 a.block, .int .u64 a.many, .int .i64 a.node, .int .i64 a.level, .string a.data, .string a.old, .bool qa] 26)).alloc (.cells #[.int .u64 b.term, .int .u64 b.index, .int .i64 b.kind, .int .u64 b.client, .int .u64 b.seq, .int .u64 b.block, .int .u64 b.many, .int .i64 b.node, .int .i64 b.level, .string b.data, .string b.old, .bool qb] 26)).alloc (.cells #[.int .i64 m.kind, .int .i64 m.sent, .int .i64 m.goal, .int .u64 m.term, .int .u64 m.index, .int .u64 m.prev, .int .u64 m.commit, .int .u64 m.mark, .bool m.yes, .slice ad n cp, .string m.snap, .bool own, .slice la ln lc] 50) = V at *
  generalize hp : w.heap.size = p at *
  have Hp := Lib.hid hp
  clear hp HF0
  refine (gExamples _).mono ?_
  rintro x w1 ⟨rfl, f1⟩
  have HBa1 := Lib.hid (HBa.out.fr0 f1)
  have HBb1 := Lib.hid (HBb.out.fr0 f1)
  have HBn1 := Lib.hid (HBn.out.fr0 f1)
  have HF1 := Lib.hid (HFv.out.trans0 f1)
  clear f1 HBa HBb HBn HFv
  have a0 : w1.cell? ⟨p, 0, none⟩ = some (.int .u64 a.term) := HBa1.out.cellAt (i := 0) rfl
  have a1 : w1.cell? ⟨p, 1, none⟩ = some (.int .u64 a.index) := HBa1.out.cellAt (i := 1) rfl
  have a2 : w1.cell? ⟨p, 2, none⟩ = some (.int .i64 a.kind) := HBa1.out.cellAt (i := 2) rfl
  have a3 : w1.cell? ⟨p, 3, none⟩ = some (.int .u64 a.client) := HBa1.out.cellAt (i := 3) rfl
  have a4 : w1.cell? ⟨p, 4, none⟩ = some (.int .u64 a.seq) := HBa1.out.cellAt (i := 4) rfl
  have a5 : w1.cell? ⟨p, 5, none⟩ = some (.int .u64 a.block) := HBa1.out.cellAt (i := 5) rfl
  have a6 : w1.cell? ⟨p, 6, none⟩ = some (.int .u64 a.many) := HBa1.out.cellAt (i := 6) rfl
  have a7 : w1.cell? ⟨p, 7, none⟩ = some (.int .i64 a.node) := HBa1.out.cellAt (i := 7) rfl
  have a8 : w1.cell? ⟨p, 8, none⟩ = some (.int .i64 a.level) := HBa1.out.cellAt (i := 8) rfl
  have a9 : w1.cell? ⟨p, 9, none⟩ = some (.string a.data) := HBa1.out.cellAt (i := 9) rfl
  have a10 : w1.cell? ⟨p, 10, none⟩ = some (.string a.old) := HBa1.out.cellAt (i := 10) rfl
  have a11 : w1.cell? ⟨p, 11, none⟩ = some (.bool qa) := HBa1.out.cellAt (i := 11) rfl
  have b0 : w1.cell? ⟨p + 1, 0, none⟩ = some (.int .u64 b.term) := HBb1.out.cellAt (i := 0) rfl
  have b1 : w1.cell? ⟨p + 1, 1, none⟩ = some (.int .u64 b.index) := HBb1.out.cellAt (i := 1) rfl
  have b2 : w1.cell? ⟨p + 1, 2, none⟩ = some (.int .i64 b.kind) := HBb1.out.cellAt (i := 2) rfl
  have b3 : w1.cell? ⟨p + 1, 3, none⟩ = some (.int .u64 b.client) := HBb1.out.cellAt (i := 3) rfl
  have b4 : w1.cell? ⟨p + 1, 4, none⟩ = some (.int .u64 b.seq) := HBb1.out.cellAt (i := 4) rfl
  have b5 : w1.cell? ⟨p + 1, 5, none⟩ = some (.int .u64 b.block) := HBb1.out.cellAt (i := 5) rfl
  have b6 : w1.cell? ⟨p + 1, 6, none⟩ = some (.int .u64 b.many) := HBb1.out.cellAt (i := 6) rfl
  have b7 : w1.cell? ⟨p + 1, 7, none⟩ = some (.int .i64 b.node) := HBb1.out.cellAt (i := 7) rfl
  have b8 : w1.cell? ⟨p + 1, 8, none⟩ = some (.int .i64 b.level) := HBb1.out.cellAt (i := 8) rfl
  have b9 : w1.cell? ⟨p + 1, 9, none⟩ = some (.string b.data) := HBb1.out.cellAt (i := 9) rfl
  have b10 : w1.cell? ⟨p + 1, 10, none⟩ = some (.string b.old) := HBb1.out.cellAt (i := 10) rfl
  have b11 : w1.cell? ⟨p + 1, 11, none⟩ = some (.bool qb) := HBb1.out.cellAt (i := 11) rfl
  have za := HBa1.out.froz 11
  have zb := HBb1.out.froz 11
  have HBa2 : Hid (Blk ((w1.setCell ⟨p, 11, none⟩ (.bool true)).setCell ⟨p + 1, 11, none⟩ (.bool true)) p #[.int .u64 a.term, .int .u64 a.index, .int .i64 a.kind, .int .u64 a.client, .int .u64 a.seq, .int .u64 a.block, .int .u64 a.many, .int .i64 a.node, .int .i64 a.level, .string a.data, .string a.old, .bool true] 26) := (HBa1.out.set 11 (.bool true)).far (by simp) _
  have HBb2 : Hid (Blk ((w1.setCell ⟨p, 11, none⟩ (.bool true)).setCell ⟨p + 1, 11, none⟩ (.bool true)) (p + 1) #[.int .u64 b.term, .int .u64 b.index, .int .i64 b.kind, .int .u64 b.client, .int .u64 b.seq, .int .u64 b.block, .int .u64 b.many, .int .i64 b.node, .int .i64 b.level, .string b.data, .string b.old, .bool true] 26) := (HBb1.out.far (p := ⟨p, 11, none⟩) (by simp) (.bool true)).set 11 (.bool true)
  have HBn2 : Hid (Blk ((w1.setCell ⟨p, 11, none⟩ (.bool true)).setCell ⟨p + 1, 11, none⟩ (.bool true)) (p + 1 + 1) #[.int .i64 m.kind, .int .i64 m.sent, .int .i64 m.goal, .int .u64 m.term, .int .u64 m.index, .int .u64 m.prev, .int .u64 m.commit, .int .u64 m.mark, .bool m.yes, .slice ad n cp, .string m.snap, .bool own, .slice la ln lc] 50) := (HBn1.out.far (p := ⟨p, 11, none⟩) (by simp; omega) (.bool true)).far (by simp) _
  have HF2 : Hid (Fr [] w ((w1.setCell ⟨p, 11, none⟩ (.bool true)).setCell ⟨p + 1, 11, none⟩ (.bool true))) := (HF1.out.setCell (.inr (by have := Hp.out; simp; omega)) _).setCell (.inr (by have := Hp.out; simp; omega)) _
  go_wp2_with fail
  generalize (w1.setCell ⟨p, 11, none⟩ (.bool true)).setCell ⟨p + 1, 11, none⟩ (.bool true) = w2 at *
  clear za zb HBa1 HBb1 HBn1 HF1 a0 a1 a2 a3 a4 a5 a6 a7 a8 a9 a10 a11 b0 b1 b2 b3 b4 b5 b6 b7 b8 b9 b10 b11
  refine (HMa.out _).mono ?_
  rintro x w3 ⟨rfl, f3⟩
  have HBb3 := Lib.hid ((HBb2.out.fr0 f3).alloc (.cells #[.int .u64 A.term, .int .u64 A.index, .int .i64 A.kind, .int .u64 A.client, .int .u64 A.seq, .int .u64 A.block, .int .u64 A.many, .int .i64 A.node, .int .i64 A.level, .string A.data, .string A.old] 24))
  have HBn3 := Lib.hid ((HBn2.out.fr0 f3).alloc (.cells #[.int .u64 A.term, .int .u64 A.index, .int .i64 A.kind, .int .u64 A.client, .int .u64 A.seq, .int .u64 A.block, .int .u64 A.many, .int .i64 A.node, .int .i64 A.level, .string A.data, .string A.old] 24))
  have HF3 := Lib.hid ((HF2.out.trans0 f3).alloc (.cells #[.int .u64 A.term, .int .u64 A.index, .int .i64 A.kind, .int .u64 A.client, .int .u64 A.seq, .int .u64 A.block, .int .u64 A.many, .int .i64 A.node, .int .i64 A.level, .string A.data, .string A.old] 24))
  have HXa3 := Lib.hid (Blk.new w3 #[.int .u64 A.term, .int .u64 A.index, .int .i64 A.kind, .int .u64 A.client, .int .u64 A.seq, .int .u64 A.block, .int .u64 A.many, .int .i64 A.node, .int .i64 A.level, .string A.data, .string A.old] 24)
  obtain ⟨w4, hw4⟩ : ∃ w4, w3.alloc (.cells #[.int .u64 A.term, .int .u64 A.index, .int .i64 A.kind, .int .u64 A.client, .int .u64 A.seq, .int .u64 A.block, .int .u64 A.many, .int .i64 A.node, .int .i64 A.level, .string A.data, .string A.old] 24) = w4 := ⟨_, rfl⟩
  obtain ⟨xa, hxa⟩ : ∃ xa, w3.heap.size = xa := ⟨_, rfl⟩
  rw [hw4] at HBb3 HBn3 HF3 HXa3
  rw [hxa] at HXa3
  have b0 : w4.cell? ⟨p + 1, 0, none⟩ = some (.int .u64 b.term) := HBb3.out.cellAt (i := 0) rfl
  have b1 : w4.cell? ⟨p + 1, 1, none⟩ = some (.int .u64 b.index) := HBb3.out.cellAt (i := 1) rfl
  have b2 : w4.cell? ⟨p + 1, 2, none⟩ = some (.int .i64 b.kind) := HBb3.out.cellAt (i := 2) rfl
  have b3 : w4.cell? ⟨p + 1, 3, none⟩ = some (.int .u64 b.client) := HBb3.out.cellAt (i := 3) rfl
  have b4 : w4.cell? ⟨p + 1, 4, none⟩ = some (.int .u64 b.seq) := HBb3.out.cellAt (i := 4) rfl
  have b5 : w4.cell? ⟨p + 1, 5, none⟩ = some (.int .u64 b.block) := HBb3.out.cellAt (i := 5) rfl
  have b6 : w4.cell? ⟨p + 1, 6, none⟩ = some (.int .u64 b.many) := HBb3.out.cellAt (i := 6) rfl
  have b7 : w4.cell? ⟨p + 1, 7, none⟩ = some (.int .i64 b.node) := HBb3.out.cellAt (i := 7) rfl
  have b8 : w4.cell? ⟨p + 1, 8, none⟩ = some (.int .i64 b.level) := HBb3.out.cellAt (i := 8) rfl
  have b9 : w4.cell? ⟨p + 1, 9, none⟩ = some (.string b.data) := HBb3.out.cellAt (i := 9) rfl
  have b10 : w4.cell? ⟨p + 1, 10, none⟩ = some (.string b.old) := HBb3.out.cellAt (i := 10) rfl
  have b11 : w4.cell? ⟨p + 1, 11, none⟩ = some (.bool true) := HBb3.out.cellAt (i := 11) rfl
  clear f3 HBa2 HBb2 HBn2 HF2
  go_wp2_with fail
  clear hw4 hxa b0 b1 b2 b3 b4 b5 b6 b7 b8 b9 b10 b11
  refine (HMb.out _).mono ?_
  rintro x w5 ⟨rfl, f5⟩
  have HBn5 := Lib.hid ((HBn3.out.fr0 f5).alloc (.cells #[.int .u64 B.term, .int .u64 B.index, .int .i64 B.kind, .int .u64 B.client, .int .u64 B.seq, .int .u64 B.block, .int .u64 B.many, .int .i64 B.node, .int .i64 B.level, .string B.data, .string B.old] 24))
  have HF5 := Lib.hid ((HF3.out.trans0 f5).alloc (.cells #[.int .u64 B.term, .int .u64 B.index, .int .i64 B.kind, .int .u64 B.client, .int .u64 B.seq, .int .u64 B.block, .int .u64 B.many, .int .i64 B.node, .int .i64 B.level, .string B.data, .string B.old] 24))
  have HXa5 := Lib.hid ((HXa3.out.fr0 f5).alloc (.cells #[.int .u64 B.term, .int .u64 B.index, .int .i64 B.kind, .int .u64 B.client, .int .u64 B.seq, .int .u64 B.block, .int .u64 B.many, .int .i64 B.node, .int .i64 B.level, .string B.data, .string B.old] 24))
  have HXb5 := Lib.hid (Blk.new w5 #[.int .u64 B.term, .int .u64 B.index, .int .i64 B.kind, .int .u64 B.client, .int .u64 B.seq, .int .u64 B.block, .int .u64 B.many, .int .i64 B.node, .int .i64 B.level, .string B.data, .string B.old] 24)
  obtain ⟨w6, hw6⟩ : ∃ w6, w5.alloc (.cells #[.int .u64 B.term, .int .u64 B.index, .int .i64 B.kind, .int .u64 B.client, .int .u64 B.seq, .int .u64 B.block, .int .u64 B.many, .int .i64 B.node, .int .i64 B.level, .string B.data, .string B.old] 24) = w6 := ⟨_, rfl⟩
  obtain ⟨xb, hxb⟩ : ∃ xb, w5.heap.size = xb := ⟨_, rfl⟩
  rw [hw6] at HBn5 HF5 HXa5 HXb5
  rw [hxb] at HXb5
  have a0 : w6.cell? ⟨xa, 0, none⟩ = some (.int .u64 A.term) := HXa5.out.cellAt (i := 0) rfl
  have a1 : w6.cell? ⟨xa, 1, none⟩ = some (.int .u64 A.index) := HXa5.out.cellAt (i := 1) rfl
  have a2 : w6.cell? ⟨xa, 2, none⟩ = some (.int .i64 A.kind) := HXa5.out.cellAt (i := 2) rfl
  have a3 : w6.cell? ⟨xa, 3, none⟩ = some (.int .u64 A.client) := HXa5.out.cellAt (i := 3) rfl
  have a4 : w6.cell? ⟨xa, 4, none⟩ = some (.int .u64 A.seq) := HXa5.out.cellAt (i := 4) rfl
  have a5 : w6.cell? ⟨xa, 5, none⟩ = some (.int .u64 A.block) := HXa5.out.cellAt (i := 5) rfl
  have a6 : w6.cell? ⟨xa, 6, none⟩ = some (.int .u64 A.many) := HXa5.out.cellAt (i := 6) rfl
  have a7 : w6.cell? ⟨xa, 7, none⟩ = some (.int .i64 A.node) := HXa5.out.cellAt (i := 7) rfl
  have a8 : w6.cell? ⟨xa, 8, none⟩ = some (.int .i64 A.level) := HXa5.out.cellAt (i := 8) rfl
  have a9 : w6.cell? ⟨xa, 9, none⟩ = some (.string A.data) := HXa5.out.cellAt (i := 9) rfl
  have a10 : w6.cell? ⟨xa, 10, none⟩ = some (.string A.old) := HXa5.out.cellAt (i := 10) rfl
  clear f5 HBb3 HBn3 HF3 HXa3
  go_wp2_with fail
  clear hw6 hxb a0 a1 a2 a3 a4 a5 a6 a7 a8 a9 a10
  refine (HPa.out _).mono ?_
  rintro x w7 ⟨rfl, f7⟩
  have HBn7 := Lib.hid (HBn5.out.fr0 f7)
  have HF7 := Lib.hid (HF5.out.trans0 f7)
  have HXb7 := Lib.hid (HXb5.out.fr0 f7)
  have b0 : w7.cell? ⟨xb, 0, none⟩ = some (.int .u64 B.term) := HXb7.out.cellAt (i := 0) rfl
  have b1 : w7.cell? ⟨xb, 1, none⟩ = some (.int .u64 B.index) := HXb7.out.cellAt (i := 1) rfl
  have b2 : w7.cell? ⟨xb, 2, none⟩ = some (.int .i64 B.kind) := HXb7.out.cellAt (i := 2) rfl
  have b3 : w7.cell? ⟨xb, 3, none⟩ = some (.int .u64 B.client) := HXb7.out.cellAt (i := 3) rfl
  have b4 : w7.cell? ⟨xb, 4, none⟩ = some (.int .u64 B.seq) := HXb7.out.cellAt (i := 4) rfl
  have b5 : w7.cell? ⟨xb, 5, none⟩ = some (.int .u64 B.block) := HXb7.out.cellAt (i := 5) rfl
  have b6 : w7.cell? ⟨xb, 6, none⟩ = some (.int .u64 B.many) := HXb7.out.cellAt (i := 6) rfl
  have b7 : w7.cell? ⟨xb, 7, none⟩ = some (.int .i64 B.node) := HXb7.out.cellAt (i := 7) rfl
  have b8 : w7.cell? ⟨xb, 8, none⟩ = some (.int .i64 B.level) := HXb7.out.cellAt (i := 8) rfl
  have b9 : w7.cell? ⟨xb, 9, none⟩ = some (.string B.data) := HXb7.out.cellAt (i := 9) rfl
  have b10 : w7.cell? ⟨xb, 10, none⟩ = some (.string B.old) := HXb7.out.cellAt (i := 10) rfl
  clear f7 HBn5 HF5 HXa5 HXb5
  go_wp2_with fail
  clear b0 b1 b2 b3 b4 b5 b6 b7 b8 b9 b10
  refine (HPb.out _).mono ?_
  rintro x w8 ⟨rfl, f8⟩
  have HBn8 := Lib.hid (HBn7.out.fr0 f8)
  have HF8 := Lib.hid (HF7.out.trans0 f8)
  have c0 : w8.cell? ⟨p + 1 + 1, 0, none⟩ = some (.int .i64 m.kind) := HBn8.out.cellAt (i := 0) rfl
  have c1 : w8.cell? ⟨p + 1 + 1, 1, none⟩ = some (.int .i64 m.sent) := HBn8.out.cellAt (i := 1) rfl
  have c2 : w8.cell? ⟨p + 1 + 1, 2, none⟩ = some (.int .i64 m.goal) := HBn8.out.cellAt (i := 2) rfl
  have c3 : w8.cell? ⟨p + 1 + 1, 3, none⟩ = some (.int .u64 m.term) := HBn8.out.cellAt (i := 3) rfl
  have c4 : w8.cell? ⟨p + 1 + 1, 4, none⟩ = some (.int .u64 m.index) := HBn8.out.cellAt (i := 4) rfl
  have c5 : w8.cell? ⟨p + 1 + 1, 5, none⟩ = some (.int .u64 m.prev) := HBn8.out.cellAt (i := 5) rfl
  have c6 : w8.cell? ⟨p + 1 + 1, 6, none⟩ = some (.int .u64 m.commit) := HBn8.out.cellAt (i := 6) rfl
  have c7 : w8.cell? ⟨p + 1 + 1, 7, none⟩ = some (.int .u64 m.mark) := HBn8.out.cellAt (i := 7) rfl
  have c8 : w8.cell? ⟨p + 1 + 1, 8, none⟩ = some (.bool m.yes) := HBn8.out.cellAt (i := 8) rfl
  have c9 : w8.cell? ⟨p + 1 + 1, 9, none⟩ = some (.slice ad n cp) := HBn8.out.cellAt (i := 9) rfl
  have c10 : w8.cell? ⟨p + 1 + 1, 10, none⟩ = some (.string m.snap) := HBn8.out.cellAt (i := 10) rfl
  have c11 : w8.cell? ⟨p + 1 + 1, 11, none⟩ = some (.bool own) := HBn8.out.cellAt (i := 11) rfl
  have c12 : w8.cell? ⟨p + 1 + 1, 12, none⟩ = some (.slice la ln lc) := HBn8.out.cellAt (i := 12) rfl
  have zn := HBn8.out.froz 11
  have HF9 : Hid (Fr [] w (w8.setCell ⟨p + 1 + 1, 11, none⟩ (.bool true))) := HF8.out.setCell (.inr (by have := Hp.out; simp; omega)) _
  clear f8 HBn7 HF7 HXb7
  go_wp2_with fail
  generalize w8.setCell ⟨p + 1 + 1, 11, none⟩ (.bool true) = w9 at *
  clear zn c0 c1 c2 c3 c4 c5 c6 c7 c8 c9 c10 c11 c12 HBn8 HF8
  refine (HN.out _ HF9.out).mono ?_
  rintro x w10 ⟨v, rfl, hE, f10⟩
  obtain ⟨ax, cx, rfl⟩ := hE.out.shape
  have HF11 := Lib.hid ((HF9.out.trans0 f10.out).alloc (.cells (X.cells (.slice ax X.ents.length cx)) 47))
  have HX11 := Lib.hid (Blk.new w10 (X.cells (.slice ax X.ents.length cx)) 47)
  have HE11 := Lib.hid (hE.out.fr0 ((Fr.refl [] w10).alloc (.cells (X.cells (.slice ax X.ents.length cx)) 47)))
  obtain ⟨w11, hw11⟩ : ∃ w11, w10.alloc (.cells (X.cells (.slice ax X.ents.length cx)) 47) = w11 := ⟨_, rfl⟩
  obtain ⟨xm, hxm⟩ : ∃ xm, w10.heap.size = xm := ⟨_, rfl⟩
  rw [hw11] at HF11 HX11 HE11
  rw [hxm] at HX11
  unfold Msg.cells at HX11 hw11 HPm HLm ⊢
  generalize hnl : X.ents.length = nl at *
  have Hnl := Lib.hid hnl
  clear f10 hE HF9 hnl
  have d0 : w11.cell? ⟨xm, 0, none⟩ = some (.int .i64 X.kind) := HX11.out.cellAt (i := 0) rfl
  have d1 : w11.cell? ⟨xm, 1, none⟩ = some (.int .i64 X.sent) := HX11.out.cellAt (i := 1) rfl
  have d2 : w11.cell? ⟨xm, 2, none⟩ = some (.int .i64 X.goal) := HX11.out.cellAt (i := 2) rfl
  have d3 : w11.cell? ⟨xm, 3, none⟩ = some (.int .u64 X.term) := HX11.out.cellAt (i := 3) rfl
  have d4 : w11.cell? ⟨xm, 4, none⟩ = some (.int .u64 X.index) := HX11.out.cellAt (i := 4) rfl
  have d5 : w11.cell? ⟨xm, 5, none⟩ = some (.int .u64 X.prev) := HX11.out.cellAt (i := 5) rfl
  have d6 : w11.cell? ⟨xm, 6, none⟩ = some (.int .u64 X.commit) := HX11.out.cellAt (i := 6) rfl
  have d7 : w11.cell? ⟨xm, 7, none⟩ = some (.int .u64 X.mark) := HX11.out.cellAt (i := 7) rfl
  have d8 : w11.cell? ⟨xm, 8, none⟩ = some (.bool X.yes) := HX11.out.cellAt (i := 8) rfl
  have d9 : w11.cell? ⟨xm, 9, none⟩ = some (.slice ax nl cx) := HX11.out.cellAt (i := 9) rfl
  have d10 : w11.cell? ⟨xm, 10, none⟩ = some (.string X.snap) := HX11.out.cellAt (i := 10) rfl
  go_wp2_with fail
  clear hw11 hxm d0 d1 d2 d3 d4 d5 d6 d7 d8 d9 d10
  refine (HPm.out _ _ HE11.out).mono ?_
  rintro x w12 ⟨rfl, f12⟩
  have HF12 := Lib.hid (HF11.out.trans0 f12)
  have HX12 := Lib.hid (HX11.out.fr0 f12)
  have HE12 := Lib.hid (HE11.out.fr0 f12)
  have d0 : w12.cell? ⟨xm, 0, none⟩ = some (.int .i64 X.kind) := HX12.out.cellAt (i := 0) rfl
  have d1 : w12.cell? ⟨xm, 1, none⟩ = some (.int .i64 X.sent) := HX12.out.cellAt (i := 1) rfl
  have d2 : w12.cell? ⟨xm, 2, none⟩ = some (.int .i64 X.goal) := HX12.out.cellAt (i := 2) rfl
  have d3 : w12.cell? ⟨xm, 3, none⟩ = some (.int .u64 X.term) := HX12.out.cellAt (i := 3) rfl
  have d4 : w12.cell? ⟨xm, 4, none⟩ = some (.int .u64 X.index) := HX12.out.cellAt (i := 4) rfl
  have d5 : w12.cell? ⟨xm, 5, none⟩ = some (.int .u64 X.prev) := HX12.out.cellAt (i := 5) rfl
  have d6 : w12.cell? ⟨xm, 6, none⟩ = some (.int .u64 X.commit) := HX12.out.cellAt (i := 6) rfl
  have d7 : w12.cell? ⟨xm, 7, none⟩ = some (.int .u64 X.mark) := HX12.out.cellAt (i := 7) rfl
  have d8 : w12.cell? ⟨xm, 8, none⟩ = some (.bool X.yes) := HX12.out.cellAt (i := 8) rfl
  have d9 : w12.cell? ⟨xm, 9, none⟩ = some (.slice ax nl cx) := HX12.out.cellAt (i := 9) rfl
  have d10 : w12.cell? ⟨xm, 10, none⟩ = some (.string X.snap) := HX12.out.cellAt (i := 10) rfl
  clear f12 HF11 HX11 HE11
  go_wp2_with fail
  refine (HLm.out _ _ HE12.out).mono ?_
  rintro x w13 ⟨rfl, f13⟩
  have HF13 := Lib.hid (HF12.out.trans0 f13)
  have HX13 := Lib.hid (HX12.out.fr0 f13)
  clear f13 HF12 HX12 HE12 d0 d1 d2 d3 d4 d5 d6 d7 d8 d9 d10
  have d9 : w13.cell? ⟨xm, 9, none⟩ = some (.slice ax nl cx) := HX13.out.cellAt (i := 9) rfl
  have d10 : w13.cell? ⟨xm, 10, none⟩ = some (.string X.snap) := HX13.out.cellAt (i := 10) rfl
  have hsa := HSA.out
  have hsb := HSB.out
  have hsm := HSM.out
  rcases HLo.out with hlo | hlo
  all_goals
    rw [hlo] at hsm ⊢
    rcases ka with _ | _
    all_goals
      rcases kb with _ | _
      all_goals
        try (have ga := hsa rfl)
        try (have gb := hsb rfl)
        try (obtain ⟨gm, gn, gs⟩ := hsm rfl)
        clear hsa hsb hsm
        try (have i1 : wrap64 (110 * (nl : Int)) = 110 * (nl : Int) := IntWalk.wrap64_in _ (by omega))
        try (have i2 : wrap64 (49 + 110 * (nl : Int)) = 49 + 110 * (nl : Int) := IntWalk.wrap64_in _ (by omega))
        try (have i3 : wrap64 (49 + 110 * (nl : Int) + (X.snap.size : Int)) = 49 + 110 * (nl : Int) + (X.snap.size : Int) := IntWalk.wrap64_in _ (by omega))
        go_wp2_with fail
        go_ret
        exact ⟨rfl, HF13.out⟩
end Go.Proofs.YthfaaoeecajkeaaDoor.firstSizes
