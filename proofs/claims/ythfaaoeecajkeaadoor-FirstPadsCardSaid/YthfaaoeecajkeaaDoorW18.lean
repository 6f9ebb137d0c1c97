/-
  Texts of this seat, joined: GPutM RRtB RRt1.
-/
import Derived.Test.YthfaaoeecajkeaaDoorW15
import Derived.Test.YthfaaoeecajkeaaDoorW14
import Derived.Test.YthfaaoeecajkeaaDoorW17
import Derived.Test.YthfaaoeecajkeaaDoorWtk
set_option linter.unusedSimpArgs false
set_option linter.unusedVariables false
namespace Go.Proofs.YthfaaoeecajkeaaDoor
open List renaming getElem?_toArray → lg0, getElem?_cons_succ → lg1, getElem?_cons_zero → lg2, setIfInBounds_toArray → lt0', set_cons_zero → lt1', set_cons_succ → lt2'
open Go.RowKit

theorem Ents.wk {B b : Nat} {w w' : World} {v : Value} {l : List Ent} (h : Ents w v l) (hw : Wk B b w w') (hB : ∀ g, v.ownBlock = some g → g < B ∧ g ≠ b) : Ents w' v l := by
  rcases h with h | ⟨g, o, c, rfl, hb, h⟩
  · exact .inl h
  · obtain ⟨h1, h2⟩ := hB g (by simp [Value.ownBlock])
    refine .inr ⟨g, o, c, rfl, Nat.lt_of_lt_of_le hb hw.size, fun j hj i hi => ?_⟩
    rw [← h j hj i hi]
    exact World.cell?_of_block (w := w) (hw.block g hb h2 (.inl h1))
theorem Ents.lt {w : World} {v : Value} {l : List Ent} (h : Ents w v l) (h0 : l ≠ []) : ∀ g, v.ownBlock = some g → g < w.heap.size := by
  rcases h with ⟨h, _⟩ | ⟨g, o, c, rfl, hb, h⟩
  · exact absurd h h0
  · intro x hx
    simp [Value.ownBlock] at hx
    subst hx
    exact hb

/-- What is right has small parts. -/
theorem okM_small (m : Msg) (h : m.ok = true) : (1 ≤ m.kind ∧ m.kind ≤ 10) ∧ (1 ≤ m.sent ∧ m.sent ≤ 7) ∧ (1 ≤ m.goal ∧ m.goal ≤ 7) ∧ m.ents.length ≤ 64 ∧ (∀ e, e ∈ m.ents → e.ok = true) ∧ m.snap.size ≤ 16384 := by
  unfold Msg.ok at h
  simp only [Bool.and_eq_true] at h
  obtain ⟨⟨⟨h1, h2⟩, h3⟩, hf⟩ := h
  unfold nodeB at h2 h3
  simp at h2 h3
  have hE := fit_mem hf ⟨101, decide (0 < m.ents.length), decide (m.ents.length ≤ 64) && !(m.ents.any (fun e => !e.ok))⟩ (by simp [Msg.flds])
  have hS := fit_mem hf ⟨115, !m.snap.toList.isEmpty, decide ((m.snap.size : Int) ≤ 16384)⟩ (by simp [Msg.flds])
  refine ⟨?_, h2, h3, ?_, ?_, ?_⟩
  · refine Decidable.byContradiction fun hc => ?_
    have : (msgMay m.kind).2 = false := by
      unfold msgMay
      repeat rw [if_neg (by omega)]
    rw [this] at h1
    cases h1
  · unfold Fld.bad at hE
    split at hE
    · simp at hE; omega
    · simp at hE; rw [hE]; exact Nat.zero_le _
  · unfold Fld.bad at hE
    split at hE
    · simp at hE; exact hE.2
    · simp at hE
      intro e he
      rw [hE] at he
      cases he
  · unfold Fld.bad at hS
    split at hS
    · simp at hS; omega
    · simp at hS
      rw [Lib.toList_data] at hS
      have : m.snap.size = m.snap.data.toList.length := rfl
      rw [this, hS]; simp
theorem lvlM_one (m : Msg) (h : m.lvl ≤ 1) : m.lvl = 1 ∧ ∀ e, e ∈ m.ents → e.lvl ≤ 1 := by
  unfold Msg.lvl at h ⊢
  split at h
  · omega
  · rename_i hc
    rw [if_neg hc]
    refine ⟨rfl, fun e he => ?_⟩
    have h2 : e.lvl ≠ 2 := fun h2 => hc (.inr (.inr (by rw [List.any_eq_true]; exact ⟨e, he, by simp [h2]⟩)))
    unfold Ent.lvl at h2 ⊢
    split
    · rename_i h3; rw [if_pos h3] at h2; exact absurd rfl h2
    · omega
theorem put5R_yes (e : Ent) (h : e.ok = true) (hl : e.lvl ≤ 1) : put5R e = put5 e := by
  unfold put5R
  rw [h, decide_eq_true hl]
  rfl
theorem flat_step (l : List Ent) (k : Nat) (e : Ent) (hk : k < l.length) (he : l[k] = e) : (l.take (k + 1)).flatMap put5 = (l.take k).flatMap put5 ++ put5 e := by
  rw [List.take_add_one, List.getElem?_eq_getElem hk, he, List.flatMap_append]
  simp
theorem flat_length (l : List Ent) (h : ∀ e, e ∈ l → e.data.size ≤ 66) : (l.flatMap put5).length = 110 * l.length := by
  induction l with
  | nil => rfl
  | cons a l ih =>
    rw [List.flatMap_cons, List.length_append, put5_length a (h a (by simp)), ih (fun e he => h e (by simp [he])), List.length_cons]
    omega

def putM5R (m : Msg) : List UInt8 := if m.ok && decide (m.lvl ≤ 1) then putM5 m else []

set_option maxRecDepth 100000 in
set_option maxHeartbeats 8000000 in
theorem pPutM_true (m : Msg) (v : Value) (w : World) (hf : m.Fits) (hv : Ents w v m.ents) (hok : m.ok = true) (hl : m.lvl ≤ 1) (hy : m.yes = true) :
    Calls Tryd.prog 19 #[.agg (m.cells v)] w fun r w' => r = .returned (.tuple #[.string (bs (putM5 m)), .bool true]) ∧ Fr [] w w' := by
  obtain ⟨hk, hs, hg, hn64, hall, hsn⟩ := okM_small m hok
  obtain ⟨hlv, hone⟩ := lvlM_one m hl
  obtain ⟨ad, cp, rfl⟩ := hv.shape
  have HR := Lib.hid (fun w (hv : Ents w (.slice ad m.ents.length cp) m.ents) => eMsgRight m _ w hf hv)
  have HLv := Lib.hid (fun w (hv : Ents w (.slice ad m.ents.length cp) m.ents) => eMsgLevel m _ w hf hv)
  rw [hok] at HR
  rw [hlv] at HLv
  have HFE := Lib.hid hf.ents
  obtain ⟨hT, hI, hP, hC, hM, _, _, hS⟩ := hf
  have HV0 := Lib.hid (hv.fr0 ((Fr.refl [] w).alloc (.cells (m.cells (.slice ad m.ents.length cp)) 47)))
  have HVlt : Hid (∀ g, (Value.slice ad m.ents.length cp).ownBlock = some g → m.ents ≠ [] → g < w.heap.size) := fun g hg h0 => hv.lt h0 g hg
  have HAll := Lib.hid hall
  have HOne := Lib.hid hone
  have HD : Hid (∀ e, e ∈ m.ents → e.data.size ≤ 64) := fun e he => ok_data e (hall e he)
  unfold U64 at *
  unfold maxLen at hS
  have kk : IntKind.u64.wrap m.kind = m.kind := by rw [IntKind.wrap_u64]; omega
  have ks : IntKind.u64.wrap m.sent = m.sent := by rw [IntKind.wrap_u64]; omega
  have kg : IntKind.u64.wrap m.goal = m.goal := by rw [IntKind.wrap_u64]; omega
  have kn : IntKind.u64.wrap (m.ents.length : Nat) = (m.ents.length : Nat) := by rw [IntKind.wrap_u64]; omega
  have kz : IntKind.u64.wrap (m.snap.size : Nat) = (m.snap.size : Nat) := by rw [IntKind.wrap_u64]; omega
  have HP5 : Hid (putM5 m = fixL m.kind 1 ++ fixL m.sent 1 ++ fixL m.goal 1 ++ fixL m.term 8 ++ fixL m.index 8 ++ fixL m.prev 8 ++ fixL m.commit 8 ++ fixL m.mark 8 ++ fixL (yesN m.yes) 1 ++ fixL (m.ents.length : Nat) 1 ++ m.ents.flatMap put5 ++ fixL (m.snap.size : Nat) 4 ++ m.snap.data.toList) := by
    unfold putM5
    simp only [List.append_assoc]
    exact trivial
  unfold Msg.cells at *
  rw [hy] at HP5 HR HLv HV0 ⊢
  rw [show yesN true = 1 from rfl] at HP5
  clear hok hl hlv hv hall hone hy
  generalize hn : m.ents.length = n at *
  have HNn := Lib.hid hn
  clear hn
  go_enter Tryd.func19, Tryd.ntmps19
  go_wp2_with fail
  refine (HR.out _ HV0.out).mono ?_
  rintro r w1 ⟨rfl, f1⟩
  have HB1 := Lib.hid ((Blk.new w #[.int .i64 m.kind, .int .i64 m.sent, .int .i64 m.goal, .int .u64 m.term, .int .u64 m.index, .int .u64 m.prev, .int .u64 m.commit, .int .u64 m.mark, .bool true, .slice ad n cp, .string m.snap] 47).fr0 f1)
  have HV1 := Lib.hid (HV0.out.fr0 f1)
  have HF1 : Hid (Fr [] w w1) := ((Fr.refl [] w).alloc _).trans0 f1
  generalize hbx : w.heap.size = bx at *
  have Hbx := Lib.hid hbx
  clear f1 hbx
  have c0 : w1.cell? ⟨bx, 0, none⟩ = some (.int .i64 m.kind) := HB1.out.cellAt (i := 0) rfl
  have c1 : w1.cell? ⟨bx, 1, none⟩ = some (.int .i64 m.sent) := HB1.out.cellAt (i := 1) rfl
  have c2 : w1.cell? ⟨bx, 2, none⟩ = some (.int .i64 m.goal) := HB1.out.cellAt (i := 2) rfl
  have c3 : w1.cell? ⟨bx, 3, none⟩ = some (.int .u64 m.term) := HB1.out.cellAt (i := 3) rfl
  have c4 : w1.cell? ⟨bx, 4, none⟩ = some (.int .u64 m.index) := HB1.out.cellAt (i := 4) rfl
  have c5 : w1.cell? ⟨bx, 5, none⟩ = some (.int .u64 m.prev) := HB1.out.cellAt (i := 5) rfl
  have c6 : w1.cell? ⟨bx, 6, none⟩ = some (.int .u64 m.commit) := HB1.out.cellAt (i := 6) rfl
  have c7 : w1.cell? ⟨bx, 7, none⟩ = some (.int .u64 m.mark) := HB1.out.cellAt (i := 7) rfl
  have c8 : w1.cell? ⟨bx, 8, none⟩ = some (.bool true) := HB1.out.cellAt (i := 8) rfl
  have c9 : w1.cell? ⟨bx, 9, none⟩ = some (.slice ad n cp) := HB1.out.cellAt (i := 9) rfl
  have c10 : w1.cell? ⟨bx, 10, none⟩ = some (.string m.snap) := HB1.out.cellAt (i := 10) rfl
  go_wp2_with fail
  refine (HLv.out _ HV1.out).mono ?_
  rintro r w2 ⟨rfl, f2⟩
  have HB2 := Lib.hid (HB1.out.fr0 f2)
  have HV2 := Lib.hid (HV1.out.fr0 f2)
  have HF2 := Lib.hid (HF1.out.trans0 f2)
  clear f2 HB1 HF1 HV1 HV0 c0 c1 c2 c3 c4 c5 c6 c7 c8 c9 c10
  generalize w2 = wx at *
  have c8 : wx.cell? ⟨bx, 8, none⟩ = some (.bool true) := HB2.out.cellAt (i := 8) rfl
  have HW0 := Lib.hid (Wrt.new wx.heap.size wx)
  have HBa := Lib.hid (HB2.out.alloc (.cells #[.pointer none, .slice none 0 0] 64))
  have HVa := Lib.hid (HV2.out.fr0 ((Fr.refl [] wx).alloc (.cells #[.pointer none, .slice none 0 0] 64)))
  have HVB : Hid (m.ents ≠ [] → ∀ g, (Value.slice ad n cp).ownBlock = some g → g < wx.heap.size ∧ g ≠ wx.heap.size) := fun h0 g hg => by have h1 := HVlt.out g hg h0; have h2 := HF2.out.size; have h3 := Hbx.out; omega
  have Hne : Hid (bx ≠ wx.heap.size) := Nat.ne_of_lt HB2.out.lt
  have Hb1 : Hid (w.heap.size ≤ wx.heap.size) := HF2.out.size
  have HFa := Lib.hid (HF2.out.alloc (.cells #[.pointer none, .slice none 0 0] 64))
  have HSz : Hid (wx.heap.size ≤ (wx.alloc (.cells #[.pointer none, .slice none 0 0] 64)).heap.size) := by show _ ≤ _; simp
  have e0 := ca HB2.out 0
  have e1 := ca HB2.out 1
  have e2 := ca HB2.out 2
  obtain ⟨v0, hv0⟩ : ∃ v0, wx.alloc (.cells #[.pointer none, .slice none 0 0] 64) = v0 := ⟨_, rfl⟩
  obtain ⟨b, hb⟩ : ∃ b, wx.heap.size = b := ⟨_, rfl⟩
  have HLL0 : Hid (([] : List UInt8).length = 0) := rfl
  have HK0 : Hid (Wk b b v0 v0) := Wk.refl _ _ _
  rw [hb] at HW0 HVB Hne Hb1 HSz
  rw [hv0] at HW0 HBa HVa HFa HSz
  have HV0e := Lib.hid hv0
  have HBe := Lib.hid hb
  clear HB2 HV2 hv0 hb
  have HW1 := Lib.hid (HW0.out.fr0 ((Fr.refl [] _).alloc (.cells #[.int .i64 m.kind, .int .i64 m.sent, .int .i64 m.goal] 3)))
  have HK1 := Lib.hid (HK0.out.alloc (.cells #[.int .i64 m.kind, .int .i64 m.sent, .int .i64 m.goal] 3))
  have HX1 := Lib.hid (HBa.out.alloc (.cells #[.int .i64 m.kind, .int .i64 m.sent, .int .i64 m.goal] 3))
  have HVV1 : Hid (m.ents ≠ [] → Ents (v0.alloc (.cells #[.int .i64 m.kind, .int .i64 m.sent, .int .i64 m.goal] 3)) (.slice ad n cp) m.ents) := fun h0 => (HVa.out).fr0 ((Fr.refl [] _).alloc _)
  have HS1 : Hid (b ≤ (v0.alloc (.cells #[.int .i64 m.kind, .int .i64 m.sent, .int .i64 m.goal] 3)).heap.size) := Nat.le_trans HSz.out (by simp)
  have HA1 := Lib.hid (Blk.new v0 #[.int .i64 m.kind, .int .i64 m.sent, .int .i64 m.goal] 3)
  have Hna : Hid (v0.heap.size ≠ b) := Nat.ne_of_gt (by have := HW0.out; rcases this with h | h <;> exact h.lt)
  clear HBa HW0 HK0 HSz HVa
  go_wp2_with fail
  rw [HV0e.out, HBe.out]
  have hv1 : v0.heap.size = b + 1 := by rw [← HV0e.out, ← HBe.out]; simp
  rw [hv1] at HA1 Hna
  clear hv1
  clear e0 e1 e2 c8 HV0e HBe
  generalize v0.alloc (.cells #[.int .i64 m.kind, .int .i64 m.sent, .int .i64 m.goal] 3) = u1 at *
  generalize b + 1 = ar at *
  refine wp_loop_rounds 4 ?_
  rw [rounds_succ]
  have a0 : u1.cell? ⟨ar, 0, none⟩ = some (.int .i64 m.kind) := HA1.out.cellAt (i := 0) rfl
  have a1 : u1.cell? ⟨ar, 1, none⟩ = some (.int .i64 m.sent) := HA1.out.cellAt (i := 1) rfl
  have a2 : u1.cell? ⟨ar, 2, none⟩ = some (.int .i64 m.goal) := HA1.out.cellAt (i := 2) rfl
  go_wp2_with fail
  clear a0 a1 a2
  refine (wPut _ _ _ _ (m.kind) 1 HW1.out (by decide) (by decide) (by omega) (by omega) (by have := HLL0.out; omega) HS1.out).mono ?_
  rintro r u2 ⟨rfl, h, k⟩
  have HW2 := Lib.hid h
  have HK2 := Lib.hid (HK1.out.trans k)
  have HX2 := Lib.hid (HX1.out.wk k Hne.out (by decide))
  have HVV2 : Hid (m.ents ≠ [] → Ents u2 (.slice ad n cp) m.ents) := fun h0 => (HVV1.out h0).wk k (HVB.out h0)
  have HS2 : Hid (b ≤ u2.heap.size) := Nat.le_trans HS1.out k.size
  have HN2 := Lib.hid (len_put (n := m.kind) (size := 1) HLL0.out (by decide))
  have HA2 := Lib.hid (HA1.out.wk k Hna.out (by decide))
  clear h k HX1 HW1 HK1 HS1 HLL0 HVV1 HA1
  go_wp2_with fail
  rw [rounds_succ]
  have a0 : u2.cell? ⟨ar, 0, none⟩ = some (.int .i64 m.kind) := HA2.out.cellAt (i := 0) rfl
  have a1 : u2.cell? ⟨ar, 1, none⟩ = some (.int .i64 m.sent) := HA2.out.cellAt (i := 1) rfl
  have a2 : u2.cell? ⟨ar, 2, none⟩ = some (.int .i64 m.goal) := HA2.out.cellAt (i := 2) rfl
  go_wp2_with fail
  clear a0 a1 a2
  refine (wPut _ _ _ _ (m.sent) 1 HW2.out (by decide) (by decide) (by omega) (by omega) (by have := HN2.out; omega) HS2.out).mono ?_
  rintro r u3 ⟨rfl, h, k⟩
  have HW3 := Lib.hid h
  have HK3 := Lib.hid (HK2.out.trans k)
  have HX3 := Lib.hid (HX2.out.wk k Hne.out (by decide))
  have HVV3 : Hid (m.ents ≠ [] → Ents u3 (.slice ad n cp) m.ents) := fun h0 => (HVV2.out h0).wk k (HVB.out h0)
  have HS3 : Hid (b ≤ u3.heap.size) := Nat.le_trans HS2.out k.size
  have HN3 := Lib.hid (len_put (n := m.sent) (size := 1) HN2.out (by decide))
  have HA3 := Lib.hid (HA2.out.wk k Hna.out (by decide))
  clear h k HX2 HW2 HK2 HS2 HN2 HVV2 HA2
  go_wp2_with fail
  rw [rounds_succ]
  have a0 : u3.cell? ⟨ar, 0, none⟩ = some (.int .i64 m.kind) := HA3.out.cellAt (i := 0) rfl
  have a1 : u3.cell? ⟨ar, 1, none⟩ = some (.int .i64 m.sent) := HA3.out.cellAt (i := 1) rfl
  have a2 : u3.cell? ⟨ar, 2, none⟩ = some (.int .i64 m.goal) := HA3.out.cellAt (i := 2) rfl
  go_wp2_with fail
  clear a0 a1 a2
  refine (wPut _ _ _ _ (m.goal) 1 HW3.out (by decide) (by decide) (by omega) (by omega) (by have := HN3.out; omega) HS3.out).mono ?_
  rintro r u4 ⟨rfl, h, k⟩
  have HW4 := Lib.hid h
  have HK4 := Lib.hid (HK3.out.trans k)
  have HX4 := Lib.hid (HX3.out.wk k Hne.out (by decide))
  have HVV4 : Hid (m.ents ≠ [] → Ents u4 (.slice ad n cp) m.ents) := fun h0 => (HVV3.out h0).wk k (HVB.out h0)
  have HS4 : Hid (b ≤ u4.heap.size) := Nat.le_trans HS3.out k.size
  have HN4 := Lib.hid (len_put (n := m.goal) (size := 1) HN3.out (by decide))
  have HA4 := Lib.hid (HA3.out.wk k Hna.out (by decide))
  clear h k HX3 HW3 HK3 HS3 HN3 HVV3 HA3
  go_wp2_with fail
  rw [rounds_succ]
  clear Hna HA4
  have c0 : u4.cell? ⟨bx, 0, none⟩ = some (.int .i64 m.kind) := HX4.out.cellAt (i := 0) rfl
  have c1 : u4.cell? ⟨bx, 1, none⟩ = some (.int .i64 m.sent) := HX4.out.cellAt (i := 1) rfl
  have c2 : u4.cell? ⟨bx, 2, none⟩ = some (.int .i64 m.goal) := HX4.out.cellAt (i := 2) rfl
  have c3 : u4.cell? ⟨bx, 3, none⟩ = some (.int .u64 m.term) := HX4.out.cellAt (i := 3) rfl
  have c4 : u4.cell? ⟨bx, 4, none⟩ = some (.int .u64 m.index) := HX4.out.cellAt (i := 4) rfl
  have c5 : u4.cell? ⟨bx, 5, none⟩ = some (.int .u64 m.prev) := HX4.out.cellAt (i := 5) rfl
  have c6 : u4.cell? ⟨bx, 6, none⟩ = some (.int .u64 m.commit) := HX4.out.cellAt (i := 6) rfl
  have c7 : u4.cell? ⟨bx, 7, none⟩ = some (.int .u64 m.mark) := HX4.out.cellAt (i := 7) rfl
  have c8 : u4.cell? ⟨bx, 8, none⟩ = some (.bool true) := HX4.out.cellAt (i := 8) rfl
  have c9 : u4.cell? ⟨bx, 9, none⟩ = some (.slice ad n cp) := HX4.out.cellAt (i := 9) rfl
  have c10 : u4.cell? ⟨bx, 10, none⟩ = some (.string m.snap) := HX4.out.cellAt (i := 10) rfl
  have HW5 := Lib.hid (HW4.out.fr0 ((Fr.refl [] _).alloc (.cells #[.int .u64 m.term, .int .u64 m.index, .int .u64 m.prev, .int .u64 m.commit, .int .u64 m.mark] 22)))
  have HK5 := Lib.hid (HK4.out.alloc (.cells #[.int .u64 m.term, .int .u64 m.index, .int .u64 m.prev, .int .u64 m.commit, .int .u64 m.mark] 22))
  have HX5 := Lib.hid (HX4.out.alloc (.cells #[.int .u64 m.term, .int .u64 m.index, .int .u64 m.prev, .int .u64 m.commit, .int .u64 m.mark] 22))
  have HVV5 : Hid (m.ents ≠ [] → Ents (u4.alloc (.cells #[.int .u64 m.term, .int .u64 m.index, .int .u64 m.prev, .int .u64 m.commit, .int .u64 m.mark] 22)) (.slice ad n cp) m.ents) := fun h0 => (HVV4.out h0).fr0 ((Fr.refl [] _).alloc _)
  have HS5 : Hid (b ≤ (u4.alloc (.cells #[.int .u64 m.term, .int .u64 m.index, .int .u64 m.prev, .int .u64 m.commit, .int .u64 m.mark] 22)).heap.size) := Nat.le_trans HS4.out (by simp)
  have HA5 := Lib.hid (Blk.new u4 #[.int .u64 m.term, .int .u64 m.index, .int .u64 m.prev, .int .u64 m.commit, .int .u64 m.mark] 22)
  have Hna : Hid (u4.heap.size ≠ b) := Nat.ne_of_gt (by have := HW4.out; rcases this with h | h <;> exact h.lt)
  clear HX4 HW4 HK4 HS4 HVV4
  go_wp2_with fail
  clear c0 c1 c2 c3 c4 c5 c6 c7 c8 c9 c10
  generalize u4.alloc (.cells #[.int .u64 m.term, .int .u64 m.index, .int .u64 m.prev, .int .u64 m.commit, .int .u64 m.mark] 22) = u5 at *
  generalize u4.heap.size = ar at *
  refine wp_loop_rounds 6 ?_
  rw [rounds_succ]
  have a0 : u5.cell? ⟨ar, 0, none⟩ = some (.int .u64 m.term) := HA5.out.cellAt (i := 0) rfl
  have a1 : u5.cell? ⟨ar, 1, none⟩ = some (.int .u64 m.index) := HA5.out.cellAt (i := 1) rfl
  have a2 : u5.cell? ⟨ar, 2, none⟩ = some (.int .u64 m.prev) := HA5.out.cellAt (i := 2) rfl
  have a3 : u5.cell? ⟨ar, 3, none⟩ = some (.int .u64 m.commit) := HA5.out.cellAt (i := 3) rfl
  have a4 : u5.cell? ⟨ar, 4, none⟩ = some (.int .u64 m.mark) := HA5.out.cellAt (i := 4) rfl
  go_wp2_with fail
  clear a0 a1 a2 a3 a4
  refine (wPut _ _ _ _ (m.term) 8 HW5.out (by decide) (by decide) hT.1 hT.2 (by have := HN4.out; omega) HS5.out).mono ?_
  rintro r u6 ⟨rfl, h, k⟩
  have HW6 := Lib.hid h
  have HK6 := Lib.hid (HK5.out.trans k)
  have HX6 := Lib.hid (HX5.out.wk k Hne.out (by decide))
  have HVV6 : Hid (m.ents ≠ [] → Ents u6 (.slice ad n cp) m.ents) := fun h0 => (HVV5.out h0).wk k (HVB.out h0)
  have HS6 : Hid (b ≤ u6.heap.size) := Nat.le_trans HS5.out k.size
  have HN6 := Lib.hid (len_put (n := m.term) (size := 8) HN4.out (by decide))
  have HA6 := Lib.hid (HA5.out.wk k Hna.out (by decide))
  clear h k HX5 HW5 HK5 HS5 HN4 HVV5 HA5
  go_wp2_with fail
  rw [rounds_succ]
  have a0 : u6.cell? ⟨ar, 0, none⟩ = some (.int .u64 m.term) := HA6.out.cellAt (i := 0) rfl
  have a1 : u6.cell? ⟨ar, 1, none⟩ = some (.int .u64 m.index) := HA6.out.cellAt (i := 1) rfl
  have a2 : u6.cell? ⟨ar, 2, none⟩ = some (.int .u64 m.prev) := HA6.out.cellAt (i := 2) rfl
  have a3 : u6.cell? ⟨ar, 3, none⟩ = some (.int .u64 m.commit) := HA6.out.cellAt (i := 3) rfl
  have a4 : u6.cell? ⟨ar, 4, none⟩ = some (.int .u64 m.mark) := HA6.out.cellAt (i := 4) rfl
  go_wp2_with fail
  clear a0 a1 a2 a3 a4
  refine (wPut _ _ _ _ (m.index) 8 HW6.out (by decide) (by decide) hI.1 hI.2 (by have := HN6.out; omega) HS6.out).mono ?_
  rintro r u7 ⟨rfl, h, k⟩
  have HW7 := Lib.hid h
  have HK7 := Lib.hid (HK6.out.trans k)
  have HX7 := Lib.hid (HX6.out.wk k Hne.out (by decide))
  have HVV7 : Hid (m.ents ≠ [] → Ents u7 (.slice ad n cp) m.ents) := fun h0 => (HVV6.out h0).wk k (HVB.out h0)
  have HS7 : Hid (b ≤ u7.heap.size) := Nat.le_trans HS6.out k.size
  have HN7 := Lib.hid (len_put (n := m.index) (size := 8) HN6.out (by decide))
  have HA7 := Lib.hid (HA6.out.wk k Hna.out (by decide))
  clear h k HX6 HW6 HK6 HS6 HN6 HVV6 HA6
  go_wp2_with fail
  rw [rounds_succ]
  have a0 : u7.cell? ⟨ar, 0, none⟩ = some (.int .u64 m.term) := HA7.out.cellAt (i := 0) rfl
  have a1 : u7.cell? ⟨ar, 1, none⟩ = some (.int .u64 m.index) := HA7.out.cellAt (i := 1) rfl
  have a2 : u7.cell? ⟨ar, 2, none⟩ = some (.int .u64 m.prev) := HA7.out.cellAt (i := 2) rfl
  have a3 : u7.cell? ⟨ar, 3, none⟩ = some (.int .u64 m.commit) := HA7.out.cellAt (i := 3) rfl
  have a4 : u7.cell? ⟨ar, 4, none⟩ = some (.int .u64 m.mark) := HA7.out.cellAt (i := 4) rfl
  go_wp2_with fail
  clear a0 a1 a2 a3 a4
  refine (wPut _ _ _ _ (m.prev) 8 HW7.out (by decide) (by decide) hP.1 hP.2 (by have := HN7.out; omega) HS7.out).mono ?_
  rintro r u8 ⟨rfl, h, k⟩
  have HW8 := Lib.hid h
  have HK8 := Lib.hid (HK7.out.trans k)
  have HX8 := Lib.hid (HX7.out.wk k Hne.out (by decide))
  have HVV8 : Hid (m.ents ≠ [] → Ents u8 (.slice ad n cp) m.ents) := fun h0 => (HVV7.out h0).wk k (HVB.out h0)
  have HS8 : Hid (b ≤ u8.heap.size) := Nat.le_trans HS7.out k.size
  have HN8 := Lib.hid (len_put (n := m.prev) (size := 8) HN7.out (by decide))
  have HA8 := Lib.hid (HA7.out.wk k Hna.out (by decide))
  clear h k HX7 HW7 HK7 HS7 HN7 HVV7 HA7
  go_wp2_with fail
  rw [rounds_succ]
  have a0 : u8.cell? ⟨ar, 0, none⟩ = some (.int .u64 m.term) := HA8.out.cellAt (i := 0) rfl
  have a1 : u8.cell? ⟨ar, 1, none⟩ = some (.int .u64 m.index) := HA8.out.cellAt (i := 1) rfl
  have a2 : u8.cell? ⟨ar, 2, none⟩ = some (.int .u64 m.prev) := HA8.out.cellAt (i := 2) rfl
  have a3 : u8.cell? ⟨ar, 3, none⟩ = some (.int .u64 m.commit) := HA8.out.cellAt (i := 3) rfl
  have a4 : u8.cell? ⟨ar, 4, none⟩ = some (.int .u64 m.mark) := HA8.out.cellAt (i := 4) rfl
  go_wp2_with fail
  clear a0 a1 a2 a3 a4
  refine (wPut _ _ _ _ (m.commit) 8 HW8.out (by decide) (by decide) hC.1 hC.2 (by have := HN8.out; omega) HS8.out).mono ?_
  rintro r u9 ⟨rfl, h, k⟩
  have HW9 := Lib.hid h
  have HK9 := Lib.hid (HK8.out.trans k)
  have HX9 := Lib.hid (HX8.out.wk k Hne.out (by decide))
  have HVV9 : Hid (m.ents ≠ [] → Ents u9 (.slice ad n cp) m.ents) := fun h0 => (HVV8.out h0).wk k (HVB.out h0)
  have HS9 : Hid (b ≤ u9.heap.size) := Nat.le_trans HS8.out k.size
  have HN9 := Lib.hid (len_put (n := m.commit) (size := 8) HN8.out (by decide))
  have HA9 := Lib.hid (HA8.out.wk k Hna.out (by decide))
  clear h k HX8 HW8 HK8 HS8 HN8 HVV8 HA8
  go_wp2_with fail
  rw [rounds_succ]
  have a0 : u9.cell? ⟨ar, 0, none⟩ = some (.int .u64 m.term) := HA9.out.cellAt (i := 0) rfl
  have a1 : u9.cell? ⟨ar, 1, none⟩ = some (.int .u64 m.index) := HA9.out.cellAt (i := 1) rfl
  have a2 : u9.cell? ⟨ar, 2, none⟩ = some (.int .u64 m.prev) := HA9.out.cellAt (i := 2) rfl
  have a3 : u9.cell? ⟨ar, 3, none⟩ = some (.int .u64 m.commit) := HA9.out.cellAt (i := 3) rfl
  have a4 : u9.cell? ⟨ar, 4, none⟩ = some (.int .u64 m.mark) := HA9.out.cellAt (i := 4) rfl
  go_wp2_with fail
  clear a0 a1 a2 a3 a4
  refine (wPut _ _ _ _ (m.mark) 8 HW9.out (by decide) (by decide) hM.1 hM.2 (by have := HN9.out; omega) HS9.out).mono ?_
  rintro r u10 ⟨rfl, h, k⟩
  have HW10 := Lib.hid h
  have HK10 := Lib.hid (HK9.out.trans k)
  have HX10 := Lib.hid (HX9.out.wk k Hne.out (by decide))
  have HVV10 : Hid (m.ents ≠ [] → Ents u10 (.slice ad n cp) m.ents) := fun h0 => (HVV9.out h0).wk k (HVB.out h0)
  have HS10 : Hid (b ≤ u10.heap.size) := Nat.le_trans HS9.out k.size
  have HN10 := Lib.hid (len_put (n := m.mark) (size := 8) HN9.out (by decide))
  have HA10 := Lib.hid (HA9.out.wk k Hna.out (by decide))
  clear h k HX9 HW9 HK9 HS9 HN9 HVV9 HA9
  go_wp2_with fail
  rw [rounds_succ]
  clear Hna HA10
  have c0 : u10.cell? ⟨bx, 0, none⟩ = some (.int .i64 m.kind) := HX10.out.cellAt (i := 0) rfl
  have c1 : u10.cell? ⟨bx, 1, none⟩ = some (.int .i64 m.sent) := HX10.out.cellAt (i := 1) rfl
  have c2 : u10.cell? ⟨bx, 2, none⟩ = some (.int .i64 m.goal) := HX10.out.cellAt (i := 2) rfl
  have c3 : u10.cell? ⟨bx, 3, none⟩ = some (.int .u64 m.term) := HX10.out.cellAt (i := 3) rfl
  have c4 : u10.cell? ⟨bx, 4, none⟩ = some (.int .u64 m.index) := HX10.out.cellAt (i := 4) rfl
  have c5 : u10.cell? ⟨bx, 5, none⟩ = some (.int .u64 m.prev) := HX10.out.cellAt (i := 5) rfl
  have c6 : u10.cell? ⟨bx, 6, none⟩ = some (.int .u64 m.commit) := HX10.out.cellAt (i := 6) rfl
  have c7 : u10.cell? ⟨bx, 7, none⟩ = some (.int .u64 m.mark) := HX10.out.cellAt (i := 7) rfl
  have c8 : u10.cell? ⟨bx, 8, none⟩ = some (.bool true) := HX10.out.cellAt (i := 8) rfl
  have c9 : u10.cell? ⟨bx, 9, none⟩ = some (.slice ad n cp) := HX10.out.cellAt (i := 9) rfl
  have c10 : u10.cell? ⟨bx, 10, none⟩ = some (.string m.snap) := HX10.out.cellAt (i := 10) rfl
  go_wp2_with fail
  refine (wPut _ _ _ _ (1) 1 HW10.out (by decide) (by decide) (by decide) (by decide) (by have := HN10.out; omega) HS10.out).mono ?_
  rintro r u11 ⟨rfl, h, k⟩
  have HW11 := Lib.hid h
  have HK11 := Lib.hid (HK10.out.trans k)
  have HX11 := Lib.hid (HX10.out.wk k Hne.out (by decide))
  have HVV11 : Hid (m.ents ≠ [] → Ents u11 (.slice ad n cp) m.ents) := fun h0 => (HVV10.out h0).wk k (HVB.out h0)
  have HS11 : Hid (b ≤ u11.heap.size) := Nat.le_trans HS10.out k.size
  have HN11 := Lib.hid (len_put (n := 1) (size := 1) HN10.out (by decide))
  clear h k HX10 HW10 HK10 HS10 HN10 HVV10 c0 c1 c2 c3 c4 c5 c6 c7 c8 c9 c10
  have c0 : u11.cell? ⟨bx, 0, none⟩ = some (.int .i64 m.kind) := HX11.out.cellAt (i := 0) rfl
  have c1 : u11.cell? ⟨bx, 1, none⟩ = some (.int .i64 m.sent) := HX11.out.cellAt (i := 1) rfl
  have c2 : u11.cell? ⟨bx, 2, none⟩ = some (.int .i64 m.goal) := HX11.out.cellAt (i := 2) rfl
  have c3 : u11.cell? ⟨bx, 3, none⟩ = some (.int .u64 m.term) := HX11.out.cellAt (i := 3) rfl
  have c4 : u11.cell? ⟨bx, 4, none⟩ = some (.int .u64 m.index) := HX11.out.cellAt (i := 4) rfl
  have c5 : u11.cell? ⟨bx, 5, none⟩ = some (.int .u64 m.prev) := HX11.out.cellAt (i := 5) rfl
  have c6 : u11.cell? ⟨bx, 6, none⟩ = some (.int .u64 m.commit) := HX11.out.cellAt (i := 6) rfl
  have c7 : u11.cell? ⟨bx, 7, none⟩ = some (.int .u64 m.mark) := HX11.out.cellAt (i := 7) rfl
  have c8 : u11.cell? ⟨bx, 8, none⟩ = some (.bool true) := HX11.out.cellAt (i := 8) rfl
  have c9 : u11.cell? ⟨bx, 9, none⟩ = some (.slice ad n cp) := HX11.out.cellAt (i := 9) rfl
  have c10 : u11.cell? ⟨bx, 10, none⟩ = some (.string m.snap) := HX11.out.cellAt (i := 10) rfl
  go_wp2_with fail
  refine (wPut _ _ _ _ ((n : Nat)) 1 HW11.out (by decide) (by decide) (by omega) (by omega) (by have := HN11.out; omega) HS11.out).mono ?_
  rintro r u12 ⟨rfl, h, k⟩
  have HW12 := Lib.hid h
  have HK12 := Lib.hid (HK11.out.trans k)
  have HX12 := Lib.hid (HX11.out.wk k Hne.out (by decide))
  have HVV12 : Hid (m.ents ≠ [] → Ents u12 (.slice ad n cp) m.ents) := fun h0 => (HVV11.out h0).wk k (HVB.out h0)
  have HS12 : Hid (b ≤ u12.heap.size) := Nat.le_trans HS11.out k.size
  have HN12 := Lib.hid (len_put (n := (n : Nat)) (size := 1) HN11.out (by decide))
  clear h k HX11 HW11 HK11 HS11 HN11 HVV11 c0 c1 c2 c3 c4 c5 c6 c7 c8 c9 c10
  have c0 : u12.cell? ⟨bx, 0, none⟩ = some (.int .i64 m.kind) := HX12.out.cellAt (i := 0) rfl
  have c1 : u12.cell? ⟨bx, 1, none⟩ = some (.int .i64 m.sent) := HX12.out.cellAt (i := 1) rfl
  have c2 : u12.cell? ⟨bx, 2, none⟩ = some (.int .i64 m.goal) := HX12.out.cellAt (i := 2) rfl
  have c3 : u12.cell? ⟨bx, 3, none⟩ = some (.int .u64 m.term) := HX12.out.cellAt (i := 3) rfl
  have c4 : u12.cell? ⟨bx, 4, none⟩ = some (.int .u64 m.index) := HX12.out.cellAt (i := 4) rfl
  have c5 : u12.cell? ⟨bx, 5, none⟩ = some (.int .u64 m.prev) := HX12.out.cellAt (i := 5) rfl
  have c6 : u12.cell? ⟨bx, 6, none⟩ = some (.int .u64 m.commit) := HX12.out.cellAt (i := 6) rfl
  have c7 : u12.cell? ⟨bx, 7, none⟩ = some (.int .u64 m.mark) := HX12.out.cellAt (i := 7) rfl
  have c8 : u12.cell? ⟨bx, 8, none⟩ = some (.bool true) := HX12.out.cellAt (i := 8) rfl
  have c9 : u12.cell? ⟨bx, 9, none⟩ = some (.slice ad n cp) := HX12.out.cellAt (i := 9) rfl
  have c10 : u12.cell? ⟨bx, 10, none⟩ = some (.string m.snap) := HX12.out.cellAt (i := 10) rfl
  go_wp2_with fail
  clear c0 c1 c2 c3 c4 c5 c6 c7 c8 c9 c10
  have hlen45 := HN12.out
  have hWr := HW12.out
  generalize hLL : [] ++ fixL m.kind 1 ++ fixL m.sent 1 ++ fixL m.goal 1 ++ fixL m.term 8 ++ fixL m.index 8 ++ fixL m.prev 8 ++ fixL m.commit 8 ++ fixL m.mark 8 ++ fixL 1 1 ++ fixL (n : Nat) 1 = LL at *
  have HLe := Lib.hid hLL
  have HL45 : Hid (LL.length = 45) := hlen45
  have HWr := Lib.hid hWr
  clear hLL hlen45 hWr HW12 HN12
  go_loopw [69] (fun i wr => ∃ k : Nat, k ≤ n ∧ i = .int .i64 k ∧ Hid (Wrt wr b b (LL ++ (m.ents.take k).flatMap put5)) ∧ Hid (Wk b b u12 wr)) (fun i _ => n - (intOf i).toNat)
  case atStart => exact ⟨0, by omega, rfl, by show Wrt _ _ _ _; rw [List.take_zero, List.flatMap_nil, List.append_nil]; exact HWr.out, Wk.refl _ _ _⟩
  case round =>
    obtain ⟨k, hk, rfl, RW, RK⟩ := hrel
    by_cases hlt : k < n
    · have hlk : k < m.ents.length := by have := HNn.out; omega
      have hne0 : m.ents ≠ [] := by intro h0; rw [h0] at hlk; simp at hlk
      obtain ⟨gb, go, had⟩ : ∃ b o, ad = some ⟨b, o, none⟩ := by
        rcases HVV12.out hne0 with ⟨h1, _⟩ | ⟨b, o, c, h1, _⟩
        · exact absurd h1 hne0
        · injection h1 with h1; exact ⟨b, o, h1⟩
      subst had
      have hrow := ((HVV12.out hne0).wk RK.out (HVB.out hne0)).row HNn.out (by omega)
      obtain ⟨e, he⟩ : ∃ e, m.ents[k] = e := ⟨_, rfl⟩
      obtain ⟨d0, d1, d2, d3, d4, d5, d6, d7, d8, d9, d10⟩ := entCells hrow.2 hlk he
      have hmem : e ∈ m.ents := by rw [← he]; exact List.getElem_mem _
      have HPt := Lib.hid (fun w => pPut e w (HFE.out e hmem))
      rw [put5R_yes e (HAll.out e hmem) (HOne.out e hmem), HAll.out e hmem, decide_eq_true (HOne.out e hmem)] at HPt
      have HSt : Hid (LL ++ (m.ents.take k).flatMap put5 ++ put5 e = LL ++ (m.ents.take (k + 1)).flatMap put5) := by show _ = _; rw [flat_step _ _ _ hlk he, List.append_assoc]
      have HLn : Hid ((LL ++ (m.ents.take k).flatMap put5).length + (put5 e).length ≤ 140737488355328) := by
        show _ ≤ _
        rw [List.length_append, HL45.out, put5_length e (by have := HD.out e hmem; omega), flat_length _ (fun x hx => by have := HD.out x (List.mem_of_mem_take hx); omega), List.length_take]
        omega
      unfold Ent.cells at HPt
      clear he hrow hlk hmem hne0
      have hRs := RW.out
      go_wp2_with fail
      refine (HPt.out _).mono ?_
      rintro r w5 ⟨rfl, f5⟩
      have HW5 := Lib.hid (RW.out.fr0 (((Fr.refl [] wr).alloc _).trans0 f5))
      have HK5 := Lib.hid ((RK.out.alloc _).trans (Wk.ofFr f5))
      clear f5 d0 d1 d2 d3 d4 d5 d6 d7 d8 d9 d10 hRs
      go_wp2_with fail
      refine (bWrite _ b b _ _ HW5.out HLn.out (Nat.le_trans HS12.out HK5.out.size)).mono ?_
      rintro r w6 ⟨rfl, h6, k6⟩
      have HW6 : Hid (Wrt w6 b b (LL ++ (m.ents.take (k + 1)).flatMap put5)) := by show Wrt _ _ _ _; rw [← HSt.out]; exact h6
      have HK6 := Lib.hid (HK5.out.trans k6)
      clear h6 k6
      go_wp2_with fail
      go_roundw
      case rel => exact ⟨k + 1, by omega, by go_num, HW6.out, HK6.out⟩
      case measure => simp [intOf]; omega
    · have hkn : k = n := by omega
      have htk : m.ents.take k = m.ents := List.take_of_length_le (by have := HNn.out; omega)
      have HWe : Hid (Wrt wr b b (LL ++ m.ents.flatMap put5)) := by have := RW.out; rwa [htk] at this
      have HLf : Hid ((LL ++ m.ents.flatMap put5).length = 45 + 110 * n) := by
        show _ = _
        rw [List.length_append, HL45.out, flat_length _ (fun x hx => by have := HD.out x hx; omega), HNn.out]
      have HXe := Lib.hid (HX12.out.wk RK.out Hne.out (by decide))
      have HSe : Hid (b ≤ wr.heap.size) := Nat.le_trans HS12.out RK.out.size
      have HKe := Lib.hid (HK12.out.trans RK.out)
      clear htk RW RK
      have c0 : wr.cell? ⟨bx, 0, none⟩ = some (.int .i64 m.kind) := HXe.out.cellAt (i := 0) rfl
      have c1 : wr.cell? ⟨bx, 1, none⟩ = some (.int .i64 m.sent) := HXe.out.cellAt (i := 1) rfl
      have c2 : wr.cell? ⟨bx, 2, none⟩ = some (.int .i64 m.goal) := HXe.out.cellAt (i := 2) rfl
      have c3 : wr.cell? ⟨bx, 3, none⟩ = some (.int .u64 m.term) := HXe.out.cellAt (i := 3) rfl
      have c4 : wr.cell? ⟨bx, 4, none⟩ = some (.int .u64 m.index) := HXe.out.cellAt (i := 4) rfl
      have c5 : wr.cell? ⟨bx, 5, none⟩ = some (.int .u64 m.prev) := HXe.out.cellAt (i := 5) rfl
      have c6 : wr.cell? ⟨bx, 6, none⟩ = some (.int .u64 m.commit) := HXe.out.cellAt (i := 6) rfl
      have c7 : wr.cell? ⟨bx, 7, none⟩ = some (.int .u64 m.mark) := HXe.out.cellAt (i := 7) rfl
      have c8 : wr.cell? ⟨bx, 8, none⟩ = some (.bool true) := HXe.out.cellAt (i := 8) rfl
      have c9 : wr.cell? ⟨bx, 9, none⟩ = some (.slice ad n cp) := HXe.out.cellAt (i := 9) rfl
      have c10 : wr.cell? ⟨bx, 10, none⟩ = some (.string m.snap) := HXe.out.cellAt (i := 10) rfl
      go_wp2_with fail
      refine (wPut _ _ _ _ (m.snap.size : Nat) 4 HWe.out (by decide) (by decide) (by omega) (by omega) (by have := HLf.out; omega) HSe.out).mono ?_
      rintro r y1 ⟨rfl, h, k1⟩
      have HWy := Lib.hid h
      have HKy := Lib.hid (HKe.out.trans k1)
      have HXy := Lib.hid (HXe.out.wk k1 Hne.out (by decide))
      have HSy : Hid (b ≤ y1.heap.size) := Nat.le_trans HSe.out k1.size
      have HNy := Lib.hid (len_put (n := (m.snap.size : Nat)) (size := 4) HLf.out (by decide))
      clear h k1 HXe HWe HKe HSe HLf c0 c1 c2 c3 c4 c5 c6 c7 c8 c9 c10
      have c0 : y1.cell? ⟨bx, 0, none⟩ = some (.int .i64 m.kind) := HXy.out.cellAt (i := 0) rfl
      have c1 : y1.cell? ⟨bx, 1, none⟩ = some (.int .i64 m.sent) := HXy.out.cellAt (i := 1) rfl
      have c2 : y1.cell? ⟨bx, 2, none⟩ = some (.int .i64 m.goal) := HXy.out.cellAt (i := 2) rfl
      have c3 : y1.cell? ⟨bx, 3, none⟩ = some (.int .u64 m.term) := HXy.out.cellAt (i := 3) rfl
      have c4 : y1.cell? ⟨bx, 4, none⟩ = some (.int .u64 m.index) := HXy.out.cellAt (i := 4) rfl
      have c5 : y1.cell? ⟨bx, 5, none⟩ = some (.int .u64 m.prev) := HXy.out.cellAt (i := 5) rfl
      have c6 : y1.cell? ⟨bx, 6, none⟩ = some (.int .u64 m.commit) := HXy.out.cellAt (i := 6) rfl
      have c7 : y1.cell? ⟨bx, 7, none⟩ = some (.int .u64 m.mark) := HXy.out.cellAt (i := 7) rfl
      have c8 : y1.cell? ⟨bx, 8, none⟩ = some (.bool true) := HXy.out.cellAt (i := 8) rfl
      have c9 : y1.cell? ⟨bx, 9, none⟩ = some (.slice ad n cp) := HXy.out.cellAt (i := 9) rfl
      have c10 : y1.cell? ⟨bx, 10, none⟩ = some (.string m.snap) := HXy.out.cellAt (i := 10) rfl
      go_wp2_with fail
      have hsnl : m.snap = bs m.snap.data.toList := (bs_of m.snap).symm
      rw [hsnl]
      refine (bWrite _ b b _ _ HWy.out (by rw [HNy.out, show m.snap.data.toList.length = m.snap.size from rfl]; omega) HSy.out).mono ?_
      rintro r y2 ⟨rfl, h, k1⟩
      have HWz := Lib.hid h
      have HKz := Lib.hid (HKy.out.trans k1)
      have HNE : Hid (LL ++ m.ents.flatMap put5 ++ fixL (m.snap.size : Nat) 4 ++ m.snap.data.toList ≠ []) := by rw [List.append_assoc, List.append_assoc]; exact app_ne HL45.out (by decide)
      clear h k1 hsnl c0 c1 c2 c3 c4 c5 c6 c7 c8 c9 c10
      go_wp2_with fail
      refine (bString _ _ _ _ HWz.out HNE.out).mono ?_
      rintro r y3 ⟨rfl, k1⟩
      have HRes : Hid (LL ++ m.ents.flatMap put5 ++ fixL (m.snap.size : Nat) 4 ++ m.snap.data.toList = putM5 m) := by show _ = _; rw [HP5.out, ← HLe.out]; rfl
      go_wp2_with fail
      go_ret2
      exact ⟨by rw [← HRes.out, List.append_assoc, List.append_assoc]; rfl, HFa.out.wk (HKz.out.trans k1) Hb1.out Hb1.out⟩

set_option maxRecDepth 100000 in
set_option maxHeartbeats 8000000 in
theorem pPutM_false (m : Msg) (v : Value) (w : World) (hf : m.Fits) (hv : Ents w v m.ents) (hok : m.ok = true) (hl : m.lvl ≤ 1) (hy : m.yes = false) :
    Calls Tryd.prog 19 #[.agg (m.cells v)] w fun r w' => r = .returned (.tuple #[.string (bs (putM5 m)), .bool true]) ∧ Fr [] w w' := by
  obtain ⟨hk, hs, hg, hn64, hall, hsn⟩ := okM_small m hok
  obtain ⟨hlv, hone⟩ := lvlM_one m hl
  obtain ⟨ad, cp, rfl⟩ := hv.shape
  have HR := Lib.hid (fun w (hv : Ents w (.slice ad m.ents.length cp) m.ents) => eMsgRight m _ w hf hv)
  have HLv := Lib.hid (fun w (hv : Ents w (.slice ad m.ents.length cp) m.ents) => eMsgLevel m _ w hf hv)
  rw [hok] at HR
  rw [hlv] at HLv
  have HFE := Lib.hid hf.ents
  obtain ⟨hT, hI, hP, hC, hM, _, _, hS⟩ := hf
  have HV0 := Lib.hid (hv.fr0 ((Fr.refl [] w).alloc (.cells (m.cells (.slice ad m.ents.length cp)) 47)))
  have HVlt : Hid (∀ g, (Value.slice ad m.ents.length cp).ownBlock = some g → m.ents ≠ [] → g < w.heap.size) := fun g hg h0 => hv.lt h0 g hg
  have HAll := Lib.hid hall
  have HOne := Lib.hid hone
  have HD : Hid (∀ e, e ∈ m.ents → e.data.size ≤ 64) := fun e he => ok_data e (hall e he)
  unfold U64 at *
  unfold maxLen at hS
  have kk : IntKind.u64.wrap m.kind = m.kind := by rw [IntKind.wrap_u64]; omega
  have ks : IntKind.u64.wrap m.sent = m.sent := by rw [IntKind.wrap_u64]; omega
  have kg : IntKind.u64.wrap m.goal = m.goal := by rw [IntKind.wrap_u64]; omega
  have kn : IntKind.u64.wrap (m.ents.length : Nat) = (m.ents.length : Nat) := by rw [IntKind.wrap_u64]; omega
  have kz : IntKind.u64.wrap (m.snap.size : Nat) = (m.snap.size : Nat) := by rw [IntKind.wrap_u64]; omega
  have HP5 : Hid (putM5 m = fixL m.kind 1 ++ fixL m.sent 1 ++ fixL m.goal 1 ++ fixL m.term 8 ++ fixL m.index 8 ++ fixL m.prev 8 ++ fixL m.commit 8 ++ fixL m.mark 8 ++ fixL (yesN m.yes) 1 ++ fixL (m.ents.length : Nat) 1 ++ m.ents.flatMap put5 ++ fixL (m.snap.size : Nat) 4 ++ m.snap.data.toList) := by
    unfold putM5
    simp only [List.append_assoc]
    exact trivial
  unfold Msg.cells at *
  rw [hy] at HP5 HR HLv HV0 ⊢
  rw [show yesN false = 0 from rfl] at HP5
  clear hok hl hlv hv hall hone hy
  generalize hn : m.ents.length = n at *
  have HNn := Lib.hid hn
  clear hn
  go_enter Tryd.func19, Tryd.ntmps19
  go_wp2_with fail
  refine (HR.out _ HV0.out).mono ?_
  rintro r w1 ⟨rfl, f1⟩
  have HB1 := Lib.hid ((Blk.new w #[.int .i64 m.kind, .int .i64 m.sent, .int .i64 m.goal, .int .u64 m.term, .int .u64 m.index, .int .u64 m.prev, .int .u64 m.commit, .int .u64 m.mark, .bool false, .slice ad n cp, .string m.snap] 47).fr0 f1)
  have HV1 := Lib.hid (HV0.out.fr0 f1)
  have HF1 : Hid (Fr [] w w1) := ((Fr.refl [] w).alloc _).trans0 f1
  generalize hbx : w.heap.size = bx at *
  have Hbx := Lib.hid hbx
  clear f1 hbx
  have c0 : w1.cell? ⟨bx, 0, none⟩ = some (.int .i64 m.kind) := HB1.out.cellAt (i := 0) rfl
  have c1 : w1.cell? ⟨bx, 1, none⟩ = some (.int .i64 m.sent) := HB1.out.cellAt (i := 1) rfl
  have c2 : w1.cell? ⟨bx, 2, none⟩ = some (.int .i64 m.goal) := HB1.out.cellAt (i := 2) rfl
  have c3 : w1.cell? ⟨bx, 3, none⟩ = some (.int .u64 m.term) := HB1.out.cellAt (i := 3) rfl
  have c4 : w1.cell? ⟨bx, 4, none⟩ = some (.int .u64 m.index) := HB1.out.cellAt (i := 4) rfl
  have c5 : w1.cell? ⟨bx, 5, none⟩ = some (.int .u64 m.prev) := HB1.out.cellAt (i := 5) rfl
  have c6 : w1.cell? ⟨bx, 6, none⟩ = some (.int .u64 m.commit) := HB1.out.cellAt (i := 6) rfl
  have c7 : w1.cell? ⟨bx, 7, none⟩ = some (.int .u64 m.mark) := HB1.out.cellAt (i := 7) rfl
  have c8 : w1.cell? ⟨bx, 8, none⟩ = some (.bool false) := HB1.out.cellAt (i := 8) rfl
  have c9 : w1.cell? ⟨bx, 9, none⟩ = some (.slice ad n cp) := HB1.out.cellAt (i := 9) rfl
  have c10 : w1.cell? ⟨bx, 10, none⟩ = some (.string m.snap) := HB1.out.cellAt (i := 10) rfl
  go_wp2_with fail
  refine (HLv.out _ HV1.out).mono ?_
  rintro r w2 ⟨rfl, f2⟩
  have HB2 := Lib.hid (HB1.out.fr0 f2)
  have HV2 := Lib.hid (HV1.out.fr0 f2)
  have HF2 := Lib.hid (HF1.out.trans0 f2)
  clear f2 HB1 HF1 HV1 HV0 c0 c1 c2 c3 c4 c5 c6 c7 c8 c9 c10
  generalize w2 = wx at *
  have c8 : wx.cell? ⟨bx, 8, none⟩ = some (.bool false) := HB2.out.cellAt (i := 8) rfl
  have HW0 := Lib.hid (Wrt.new wx.heap.size wx)
  have HBa := Lib.hid (HB2.out.alloc (.cells #[.pointer none, .slice none 0 0] 64))
  have HVa := Lib.hid (HV2.out.fr0 ((Fr.refl [] wx).alloc (.cells #[.pointer none, .slice none 0 0] 64)))
  have HVB : Hid (m.ents ≠ [] → ∀ g, (Value.slice ad n cp).ownBlock = some g → g < wx.heap.size ∧ g ≠ wx.heap.size) := fun h0 g hg => by have h1 := HVlt.out g hg h0; have h2 := HF2.out.size; have h3 := Hbx.out; omega
  have Hne : Hid (bx ≠ wx.heap.size) := Nat.ne_of_lt HB2.out.lt
  have Hb1 : Hid (w.heap.size ≤ wx.heap.size) := HF2.out.size
  have HFa := Lib.hid (HF2.out.alloc (.cells #[.pointer none, .slice none 0 0] 64))
  have HSz : Hid (wx.heap.size ≤ (wx.alloc (.cells #[.pointer none, .slice none 0 0] 64)).heap.size) := by show _ ≤ _; simp
  have e0 := ca HB2.out 0
  have e1 := ca HB2.out 1
  have e2 := ca HB2.out 2
  obtain ⟨v0, hv0⟩ : ∃ v0, wx.alloc (.cells #[.pointer none, .slice none 0 0] 64) = v0 := ⟨_, rfl⟩
  obtain ⟨b, hb⟩ : ∃ b, wx.heap.size = b := ⟨_, rfl⟩
  have HLL0 : Hid (([] : List UInt8).length = 0) := rfl
  have HK0 : Hid (Wk b b v0 v0) := Wk.refl _ _ _
  rw [hb] at HW0 HVB Hne Hb1 HSz
  rw [hv0] at HW0 HBa HVa HFa HSz
  have HV0e := Lib.hid hv0
  have HBe := Lib.hid hb
  clear HB2 HV2 hv0 hb
  have HW1 := Lib.hid (HW0.out.fr0 ((Fr.refl [] _).alloc (.cells #[.int .i64 m.kind, .int .i64 m.sent, .int .i64 m.goal] 3)))
  have HK1 := Lib.hid (HK0.out.alloc (.cells #[.int .i64 m.kind, .int .i64 m.sent, .int .i64 m.goal] 3))
  have HX1 := Lib.hid (HBa.out.alloc (.cells #[.int .i64 m.kind, .int .i64 m.sent, .int .i64 m.goal] 3))
  have HVV1 : Hid (m.ents ≠ [] → Ents (v0.alloc (.cells #[.int .i64 m.kind, .int .i64 m.sent, .int .i64 m.goal] 3)) (.slice ad n cp) m.ents) := fun h0 => (HVa.out).fr0 ((Fr.refl [] _).alloc _)
  have HS1 : Hid (b ≤ (v0.alloc (.cells #[.int .i64 m.kind, .int .i64 m.sent, .int .i64 m.goal] 3)).heap.size) := Nat.le_trans HSz.out (by simp)
  have HA1 := Lib.hid (Blk.new v0 #[.int .i64 m.kind, .int .i64 m.sent, .int .i64 m.goal] 3)
  have Hna : Hid (v0.heap.size ≠ b) := Nat.ne_of_gt (by have := HW0.out; rcases this with h | h <;> exact h.lt)
  clear HBa HW0 HK0 HSz HVa
  go_wp2_with fail
  rw [HV0e.out, HBe.out]
  have hv1 : v0.heap.size = b + 1 := by rw [← HV0e.out, ← HBe.out]; simp
  rw [hv1] at HA1 Hna
  clear hv1
  clear e0 e1 e2 c8 HV0e HBe
  generalize v0.alloc (.cells #[.int .i64 m.kind, .int .i64 m.sent, .int .i64 m.goal] 3) = u1 at *
  generalize b + 1 = ar at *
  refine wp_loop_rounds 4 ?_
  rw [rounds_succ]
  have a0 : u1.cell? ⟨ar, 0, none⟩ = some (.int .i64 m.kind) := HA1.out.cellAt (i := 0) rfl
  have a1 : u1.cell? ⟨ar, 1, none⟩ = some (.int .i64 m.sent) := HA1.out.cellAt (i := 1) rfl
  have a2 : u1.cell? ⟨ar, 2, none⟩ = some (.int .i64 m.goal) := HA1.out.cellAt (i := 2) rfl
  go_wp2_with fail
  clear a0 a1 a2
  refine (wPut _ _ _ _ (m.kind) 1 HW1.out (by decide) (by decide) (by omega) (by omega) (by have := HLL0.out; omega) HS1.out).mono ?_
  rintro r u2 ⟨rfl, h, k⟩
  have HW2 := Lib.hid h
  have HK2 := Lib.hid (HK1.out.trans k)
  have HX2 := Lib.hid (HX1.out.wk k Hne.out (by decide))
  have HVV2 : Hid (m.ents ≠ [] → Ents u2 (.slice ad n cp) m.ents) := fun h0 => (HVV1.out h0).wk k (HVB.out h0)
  have HS2 : Hid (b ≤ u2.heap.size) := Nat.le_trans HS1.out k.size
  have HN2 := Lib.hid (len_put (n := m.kind) (size := 1) HLL0.out (by decide))
  have HA2 := Lib.hid (HA1.out.wk k Hna.out (by decide))
  clear h k HX1 HW1 HK1 HS1 HLL0 HVV1 HA1
  go_wp2_with fail
  rw [rounds_succ]
  have a0 : u2.cell? ⟨ar, 0, none⟩ = some (.int .i64 m.kind) := HA2.out.cellAt (i := 0) rfl
  have a1 : u2.cell? ⟨ar, 1, none⟩ = some (.int .i64 m.sent) := HA2.out.cellAt (i := 1) rfl
  have a2 : u2.cell? ⟨ar, 2, none⟩ = some (.int .i64 m.goal) := HA2.out.cellAt (i := 2) rfl
  go_wp2_with fail
  clear a0 a1 a2
  refine (wPut _ _ _ _ (m.sent) 1 HW2.out (by decide) (by decide) (by omega) (by omega) (by have := HN2.out; omega) HS2.out).mono ?_
  rintro r u3 ⟨rfl, h, k⟩
  have HW3 := Lib.hid h
  have HK3 := Lib.hid (HK2.out.trans k)
  have HX3 := Lib.hid (HX2.out.wk k Hne.out (by decide))
  have HVV3 : Hid (m.ents ≠ [] → Ents u3 (.slice ad n cp) m.ents) := fun h0 => (HVV2.out h0).wk k (HVB.out h0)
  have HS3 : Hid (b ≤ u3.heap.size) := Nat.le_trans HS2.out k.size
  have HN3 := Lib.hid (len_put (n := m.sent) (size := 1) HN2.out (by decide))
  have HA3 := Lib.hid (HA2.out.wk k Hna.out (by decide))
  clear h k HX2 HW2 HK2 HS2 HN2 HVV2 HA2
  go_wp2_with fail
  rw [rounds_succ]
  have a0 : u3.cell? ⟨ar, 0, none⟩ = some (.int .i64 m.kind) := HA3.out.cellAt (i := 0) rfl
  have a1 : u3.cell? ⟨ar, 1, none⟩ = some (.int .i64 m.sent) := HA3.out.cellAt (i := 1) rfl
  have a2 : u3.cell? ⟨ar, 2, none⟩ = some (.int .i64 m.goal) := HA3.out.cellAt (i := 2) rfl
  go_wp2_with fail
  clear a0 a1 a2
  refine (wPut _ _ _ _ (m.goal) 1 HW3.out (by decide) (by decide) (by omega) (by omega) (by have := HN3.out; omega) HS3.out).mono ?_
  rintro r u4 ⟨rfl, h, k⟩
  have HW4 := Lib.hid h
  have HK4 := Lib.hid (HK3.out.trans k)
  have HX4 := Lib.hid (HX3.out.wk k Hne.out (by decide))
  have HVV4 : Hid (m.ents ≠ [] → Ents u4 (.slice ad n cp) m.ents) := fun h0 => (HVV3.out h0).wk k (HVB.out h0)
  have HS4 : Hid (b ≤ u4.heap.size) := Nat.le_trans HS3.out k.size
  have HN4 := Lib.hid (len_put (n := m.goal) (size := 1) HN3.out (by decide))
  have HA4 := Lib.hid (HA3.out.wk k Hna.out (by decide))
  clear h k HX3 HW3 HK3 HS3 HN3 HVV3 HA3
  go_wp2_with fail
  rw [rounds_succ]
  clear Hna HA4
  have c0 : u4.cell? ⟨bx, 0, none⟩ = some (.int .i64 m.kind) := HX4.out.cellAt (i := 0) rfl
  have c1 : u4.cell? ⟨bx, 1, none⟩ = some (.int .i64 m.sent) := HX4.out.cellAt (i := 1) rfl
  have c2 : u4.cell? ⟨bx, 2, none⟩ = some (.int .i64 m.goal) := HX4.out.cellAt (i := 2) rfl
  have c3 : u4.cell? ⟨bx, 3, none⟩ = some (.int .u64 m.term) := HX4.out.cellAt (i := 3) rfl
  have c4 : u4.cell? ⟨bx, 4, none⟩ = some (.int .u64 m.index) := HX4.out.cellAt (i := 4) rfl
  have c5 : u4.cell? ⟨bx, 5, none⟩ = some (.int .u64 m.prev) := HX4.out.cellAt (i := 5) rfl
  have c6 : u4.cell? ⟨bx, 6, none⟩ = some (.int .u64 m.commit) := HX4.out.cellAt (i := 6) rfl
  have c7 : u4.cell? ⟨bx, 7, none⟩ = some (.int .u64 m.mark) := HX4.out.cellAt (i := 7) rfl
  have c8 : u4.cell? ⟨bx, 8, none⟩ = some (.bool false) := HX4.out.cellAt (i := 8) rfl
  have c9 : u4.cell? ⟨bx, 9, none⟩ = some (.slice ad n cp) := HX4.out.cellAt (i := 9) rfl
  have c10 : u4.cell? ⟨bx, 10, none⟩ = some (.string m.snap) := HX4.out.cellAt (i := 10) rfl
  have HW5 := Lib.hid (HW4.out.fr0 ((Fr.refl [] _).alloc (.cells #[.int .u64 m.term, .int .u64 m.index, .int .u64 m.prev, .int .u64 m.commit, .int .u64 m.mark] 22)))
  have HK5 := Lib.hid (HK4.out.alloc (.cells #[.int .u64 m.term, .int .u64 m.index, .int .u64 m.prev, .int .u64 m.commit, .int .u64 m.mark] 22))
  have HX5 := Lib.hid (HX4.out.alloc (.cells #[.int .u64 m.term, .int .u64 m.index, .int .u64 m.prev, .int .u64 m.commit, .int .u64 m.mark] 22))
  have HVV5 : Hid (m.ents ≠ [] → Ents (u4.alloc (.cells #[.int .u64 m.term, .int .u64 m.index, .int .u64 m.prev, .int .u64 m.commit, .int .u64 m.mark] 22)) (.slice ad n cp) m.ents) := fun h0 => (HVV4.out h0).fr0 ((Fr.refl [] _).alloc _)
  have HS5 : Hid (b ≤ (u4.alloc (.cells #[.int .u64 m.term, .int .u64 m.index, .int .u64 m.prev, .int .u64 m.commit, .int .u64 m.mark] 22)).heap.size) := Nat.le_trans HS4.out (by simp)
  have HA5 := Lib.hid (Blk.new u4 #[.int .u64 m.term, .int .u64 m.index, .int .u64 m.prev, .int .u64 m.commit, .int .u64 m.mark] 22)
  have Hna : Hid (u4.heap.size ≠ b) := Nat.ne_of_gt (by have := HW4.out; rcases this with h | h <;> exact h.lt)
  clear HX4 HW4 HK4 HS4 HVV4
  go_wp2_with fail
  clear c0 c1 c2 c3 c4 c5 c6 c7 c8 c9 c10
  generalize u4.alloc (.cells #[.int .u64 m.term, .int .u64 m.index, .int .u64 m.prev, .int .u64 m.commit, .int .u64 m.mark] 22) = u5 at *
  generalize u4.heap.size = ar at *
  refine wp_loop_rounds 6 ?_
  rw [rounds_succ]
  have a0 : u5.cell? ⟨ar, 0, none⟩ = some (.int .u64 m.term) := HA5.out.cellAt (i := 0) rfl
  have a1 : u5.cell? ⟨ar, 1, none⟩ = some (.int .u64 m.index) := HA5.out.cellAt (i := 1) rfl
  have a2 : u5.cell? ⟨ar, 2, none⟩ = some (.int .u64 m.prev) := HA5.out.cellAt (i := 2) rfl
  have a3 : u5.cell? ⟨ar, 3, none⟩ = some (.int .u64 m.commit) := HA5.out.cellAt (i := 3) rfl
  have a4 : u5.cell? ⟨ar, 4, none⟩ = some (.int .u64 m.mark) := HA5.out.cellAt (i := 4) rfl
  go_wp2_with fail
  clear a0 a1 a2 a3 a4
  refine (wPut _ _ _ _ (m.term) 8 HW5.out (by decide) (by decide) hT.1 hT.2 (by have := HN4.out; omega) HS5.out).mono ?_
  rintro r u6 ⟨rfl, h, k⟩
  have HW6 := Lib.hid h
  have HK6 := Lib.hid (HK5.out.trans k)
  have HX6 := Lib.hid (HX5.out.wk k Hne.out (by decide))
  have HVV6 : Hid (m.ents ≠ [] → Ents u6 (.slice ad n cp) m.ents) := fun h0 => (HVV5.out h0).wk k (HVB.out h0)
  have HS6 : Hid (b ≤ u6.heap.size) := Nat.le_trans HS5.out k.size
  have HN6 := Lib.hid (len_put (n := m.term) (size := 8) HN4.out (by decide))
  have HA6 := Lib.hid (HA5.out.wk k Hna.out (by decide))
  clear h k HX5 HW5 HK5 HS5 HN4 HVV5 HA5
  go_wp2_with fail
  rw [rounds_succ]
  have a0 : u6.cell? ⟨ar, 0, none⟩ = some (.int .u64 m.term) := HA6.out.cellAt (i := 0) rfl
  have a1 : u6.cell? ⟨ar, 1, none⟩ = some (.int .u64 m.index) := HA6.out.cellAt (i := 1) rfl
  have a2 : u6.cell? ⟨ar, 2, none⟩ = some (.int .u64 m.prev) := HA6.out.cellAt (i := 2) rfl
  have a3 : u6.cell? ⟨ar, 3, none⟩ = some (.int .u64 m.commit) := HA6.out.cellAt (i := 3) rfl
  have a4 : u6.cell? ⟨ar, 4, none⟩ = some (.int .u64 m.mark) := HA6.out.cellAt (i := 4) rfl
  go_wp2_with fail
  clear a0 a1 a2 a3 a4
  refine (wPut _ _ _ _ (m.index) 8 HW6.out (by decide) (by decide) hI.1 hI.2 (by have := HN6.out; omega) HS6.out).mono ?_
  rintro r u7 ⟨rfl, h, k⟩
  have HW7 := Lib.hid h
  have HK7 := Lib.hid (HK6.out.trans k)
  have HX7 := Lib.hid (HX6.out.wk k Hne.out (by decide))
  have HVV7 : Hid (m.ents ≠ [] → Ents u7 (.slice ad n cp) m.ents) := fun h0 => (HVV6.out h0).wk k (HVB.out h0)
  have HS7 : Hid (b ≤ u7.heap.size) := Nat.le_trans HS6.out k.size
  have HN7 := Lib.hid (len_put (n := m.index) (size := 8) HN6.out (by decide))
  have HA7 := Lib.hid (HA6.out.wk k Hna.out (by decide))
  clear h k HX6 HW6 HK6 HS6 HN6 HVV6 HA6
  go_wp2_with fail
  rw [rounds_succ]
  have a0 : u7.cell? ⟨ar, 0, none⟩ = some (.int .u64 m.term) := HA7.out.cellAt (i := 0) rfl
  have a1 : u7.cell? ⟨ar, 1, none⟩ = some (.int .u64 m.index) := HA7.out.cellAt (i := 1) rfl
  have a2 : u7.cell? ⟨ar, 2, none⟩ = some (.int .u64 m.prev) := HA7.out.cellAt (i := 2) rfl
  have a3 : u7.cell? ⟨ar, 3, none⟩ = some (.int .u64 m.commit) := HA7.out.cellAt (i := 3) rfl
  have a4 : u7.cell? ⟨ar, 4, none⟩ = some (.int .u64 m.mark) := HA7.out.cellAt (i := 4) rfl
  go_wp2_with fail
  clear a0 a1 a2 a3 a4
  refine (wPut _ _ _ _ (m.prev) 8 HW7.out (by decide) (by decide) hP.1 hP.2 (by have := HN7.out; omega) HS7.out).mono ?_
  rintro r u8 ⟨rfl, h, k⟩
  have HW8 := Lib.hid h
  have HK8 := Lib.hid (HK7.out.trans k)
  have HX8 := Lib.hid (HX7.out.wk k Hne.out (by decide))
  have HVV8 : Hid (m.ents ≠ [] → Ents u8 (.slice ad n cp) m.ents) := fun h0 => (HVV7.out h0).wk k (HVB.out h0)
  have HS8 : Hid (b ≤ u8.heap.size) := Nat.le_trans HS7.out k.size
  have HN8 := Lib.hid (len_put (n := m.prev) (size := 8) HN7.out (by decide))
  have HA8 := Lib.hid (HA7.out.wk k Hna.out (by decide))
  clear h k HX7 HW7 HK7 HS7 HN7 HVV7 HA7
  go_wp2_with fail
  rw [rounds_succ]
  have a0 : u8.cell? ⟨ar, 0, none⟩ = some (.int .u64 m.term) := HA8.out.cellAt (i := 0) rfl
  have a1 : u8.cell? ⟨ar, 1, none⟩ = some (.int .u64 m.index) := HA8.out.cellAt (i := 1) rfl
  have a2 : u8.cell? ⟨ar, 2, none⟩ = some (.int .u64 m.prev) := HA8.out.cellAt (i := 2) rfl
  have a3 : u8.cell? ⟨ar, 3, none⟩ = some (.int .u64 m.commit) := HA8.out.cellAt (i := 3) rfl
  have a4 : u8.cell? ⟨ar, 4, none⟩ = some (.int .u64 m.mark) := HA8.out.cellAt (i := 4) rfl
  go_wp2_with fail
  clear a0 a1 a2 a3 a4
  refine (wPut _ _ _ _ (m.commit) 8 HW8.out (by decide) (by decide) hC.1 hC.2 (by have := HN8.out; omega) HS8.out).mono ?_
  rintro r u9 ⟨rfl, h, k⟩
  have HW9 := Lib.hid h
  have HK9 := Lib.hid (HK8.out.trans k)
  have HX9 := Lib.hid (HX8.out.wk k Hne.out (by decide))
  have HVV9 : Hid (m.ents ≠ [] → Ents u9 (.slice ad n cp) m.ents) := fun h0 => (HVV8.out h0).wk k (HVB.out h0)
  have HS9 : Hid (b ≤ u9.heap.size) := Nat.le_trans HS8.out k.size
  have HN9 := Lib.hid (len_put (n := m.commit) (size := 8) HN8.out (by decide))
  have HA9 := Lib.hid (HA8.out.wk k Hna.out (by decide))
  clear h k HX8 HW8 HK8 HS8 HN8 HVV8 HA8
  go_wp2_with fail
  rw [rounds_succ]
  have a0 : u9.cell? ⟨ar, 0, none⟩ = some (.int .u64 m.term) := HA9.out.cellAt (i := 0) rfl
  have a1 : u9.cell? ⟨ar, 1, none⟩ = some (.int .u64 m.index) := HA9.out.cellAt (i := 1) rfl
  have a2 : u9.cell? ⟨ar, 2, none⟩ = some (.int .u64 m.prev) := HA9.out.cellAt (i := 2) rfl
  have a3 : u9.cell? ⟨ar, 3, none⟩ = some (.int .u64 m.commit) := HA9.out.cellAt (i := 3) rfl
  have a4 : u9.cell? ⟨ar, 4, none⟩ = some (.int .u64 m.mark) := HA9.out.cellAt (i := 4) rfl
  go_wp2_with fail
  clear a0 a1 a2 a3 a4
  refine (wPut _ _ _ _ (m.mark) 8 HW9.out (by decide) (by decide) hM.1 hM.2 (by have := HN9.out; omega) HS9.out).mono ?_
  rintro r u10 ⟨rfl, h, k⟩
  have HW10 := Lib.hid h
  have HK10 := Lib.hid (HK9.out.trans k)
  have HX10 := Lib.hid (HX9.out.wk k Hne.out (by decide))
  have HVV10 : Hid (m.ents ≠ [] → Ents u10 (.slice ad n cp) m.ents) := fun h0 => (HVV9.out h0).wk k (HVB.out h0)
  have HS10 : Hid (b ≤ u10.heap.size) := Nat.le_trans HS9.out k.size
  have HN10 := Lib.hid (len_put (n := m.mark) (size := 8) HN9.out (by decide))
  have HA10 := Lib.hid (HA9.out.wk k Hna.out (by decide))
  clear h k HX9 HW9 HK9 HS9 HN9 HVV9 HA9
  go_wp2_with fail
  rw [rounds_succ]
  clear Hna HA10
  have c0 : u10.cell? ⟨bx, 0, none⟩ = some (.int .i64 m.kind) := HX10.out.cellAt (i := 0) rfl
  have c1 : u10.cell? ⟨bx, 1, none⟩ = some (.int .i64 m.sent) := HX10.out.cellAt (i := 1) rfl
  have c2 : u10.cell? ⟨bx, 2, none⟩ = some (.int .i64 m.goal) := HX10.out.cellAt (i := 2) rfl
  have c3 : u10.cell? ⟨bx, 3, none⟩ = some (.int .u64 m.term) := HX10.out.cellAt (i := 3) rfl
  have c4 : u10.cell? ⟨bx, 4, none⟩ = some (.int .u64 m.index) := HX10.out.cellAt (i := 4) rfl
  have c5 : u10.cell? ⟨bx, 5, none⟩ = some (.int .u64 m.prev) := HX10.out.cellAt (i := 5) rfl
  have c6 : u10.cell? ⟨bx, 6, none⟩ = some (.int .u64 m.commit) := HX10.out.cellAt (i := 6) rfl
  have c7 : u10.cell? ⟨bx, 7, none⟩ = some (.int .u64 m.mark) := HX10.out.cellAt (i := 7) rfl
  have c8 : u10.cell? ⟨bx, 8, none⟩ = some (.bool false) := HX10.out.cellAt (i := 8) rfl
  have c9 : u10.cell? ⟨bx, 9, none⟩ = some (.slice ad n cp) := HX10.out.cellAt (i := 9) rfl
  have c10 : u10.cell? ⟨bx, 10, none⟩ = some (.string m.snap) := HX10.out.cellAt (i := 10) rfl
  go_wp2_with fail
  refine (wPut _ _ _ _ (0) 1 HW10.out (by decide) (by decide) (by decide) (by decide) (by have := HN10.out; omega) HS10.out).mono ?_
  rintro r u11 ⟨rfl, h, k⟩
  have HW11 := Lib.hid h
  have HK11 := Lib.hid (HK10.out.trans k)
  have HX11 := Lib.hid (HX10.out.wk k Hne.out (by decide))
  have HVV11 : Hid (m.ents ≠ [] → Ents u11 (.slice ad n cp) m.ents) := fun h0 => (HVV10.out h0).wk k (HVB.out h0)
  have HS11 : Hid (b ≤ u11.heap.size) := Nat.le_trans HS10.out k.size
  have HN11 := Lib.hid (len_put (n := 0) (size := 1) HN10.out (by decide))
  clear h k HX10 HW10 HK10 HS10 HN10 HVV10 c0 c1 c2 c3 c4 c5 c6 c7 c8 c9 c10
  have c0 : u11.cell? ⟨bx, 0, none⟩ = some (.int .i64 m.kind) := HX11.out.cellAt (i := 0) rfl
  have c1 : u11.cell? ⟨bx, 1, none⟩ = some (.int .i64 m.sent) := HX11.out.cellAt (i := 1) rfl
  have c2 : u11.cell? ⟨bx, 2, none⟩ = some (.int .i64 m.goal) := HX11.out.cellAt (i := 2) rfl
  have c3 : u11.cell? ⟨bx, 3, none⟩ = some (.int .u64 m.term) := HX11.out.cellAt (i := 3) rfl
  have c4 : u11.cell? ⟨bx, 4, none⟩ = some (.int .u64 m.index) := HX11.out.cellAt (i := 4) rfl
  have c5 : u11.cell? ⟨bx, 5, none⟩ = some (.int .u64 m.prev) := HX11.out.cellAt (i := 5) rfl
  have c6 : u11.cell? ⟨bx, 6, none⟩ = some (.int .u64 m.commit) := HX11.out.cellAt (i := 6) rfl
  have c7 : u11.cell? ⟨bx, 7, none⟩ = some (.int .u64 m.mark) := HX11.out.cellAt (i := 7) rfl
  have c8 : u11.cell? ⟨bx, 8, none⟩ = some (.bool false) := HX11.out.cellAt (i := 8) rfl
  have c9 : u11.cell? ⟨bx, 9, none⟩ = some (.slice ad n cp) := HX11.out.cellAt (i := 9) rfl
  have c10 : u11.cell? ⟨bx, 10, none⟩ = some (.string m.snap) := HX11.out.cellAt (i := 10) rfl
  go_wp2_with fail
  refine (wPut _ _ _ _ ((n : Nat)) 1 HW11.out (by decide) (by decide) (by omega) (by omega) (by have := HN11.out; omega) HS11.out).mono ?_
  rintro r u12 ⟨rfl, h, k⟩
  have HW12 := Lib.hid h
  have HK12 := Lib.hid (HK11.out.trans k)
  have HX12 := Lib.hid (HX11.out.wk k Hne.out (by decide))
  have HVV12 : Hid (m.ents ≠ [] → Ents u12 (.slice ad n cp) m.ents) := fun h0 => (HVV11.out h0).wk k (HVB.out h0)
  have HS12 : Hid (b ≤ u12.heap.size) := Nat.le_trans HS11.out k.size
  have HN12 := Lib.hid (len_put (n := (n : Nat)) (size := 1) HN11.out (by decide))
  clear h k HX11 HW11 HK11 HS11 HN11 HVV11 c0 c1 c2 c3 c4 c5 c6 c7 c8 c9 c10
  have c0 : u12.cell? ⟨bx, 0, none⟩ = some (.int .i64 m.kind) := HX12.out.cellAt (i := 0) rfl
  have c1 : u12.cell? ⟨bx, 1, none⟩ = some (.int .i64 m.sent) := HX12.out.cellAt (i := 1) rfl
  have c2 : u12.cell? ⟨bx, 2, none⟩ = some (.int .i64 m.goal) := HX12.out.cellAt (i := 2) rfl
  have c3 : u12.cell? ⟨bx, 3, none⟩ = some (.int .u64 m.term) := HX12.out.cellAt (i := 3) rfl
  have c4 : u12.cell? ⟨bx, 4, none⟩ = some (.int .u64 m.index) := HX12.out.cellAt (i := 4) rfl
  have c5 : u12.cell? ⟨bx, 5, none⟩ = some (.int .u64 m.prev) := HX12.out.cellAt (i := 5) rfl
  have c6 : u12.cell? ⟨bx, 6, none⟩ = some (.int .u64 m.commit) := HX12.out.cellAt (i := 6) rfl
  have c7 : u12.cell? ⟨bx, 7, none⟩ = some (.int .u64 m.mark) := HX12.out.cellAt (i := 7) rfl
  have c8 : u12.cell? ⟨bx, 8, none⟩ = some (.bool false) := HX12.out.cellAt (i := 8) rfl
  have c9 : u12.cell? ⟨bx, 9, none⟩ = some (.slice ad n cp) := HX12.out.cellAt (i := 9) rfl
  have c10 : u12.cell? ⟨bx, 10, none⟩ = some (.string m.snap) := HX12.out.cellAt (i := 10) rfl
  go_wp2_with fail
  clear c0 c1 c2 c3 c4 c5 c6 c7 c8 c9 c10
  have hlen45 := HN12.out
  have hWr := HW12.out
  generalize hLL : [] ++ fixL m.kind 1 ++ fixL m.sent 1 ++ fixL m.goal 1 ++ fixL m.term 8 ++ fixL m.index 8 ++ fixL m.prev 8 ++ fixL m.commit 8 ++ fixL m.mark 8 ++ fixL 0 1 ++ fixL (n : Nat) 1 = LL at *
  have HLe := Lib.hid hLL
  have HL45 : Hid (LL.length = 45) := hlen45
  have HWr := Lib.hid hWr
  clear hLL hlen45 hWr HW12 HN12
  go_loopw [69] (fun i wr => ∃ k : Nat, k ≤ n ∧ i = .int .i64 k ∧ Hid (Wrt wr b b (LL ++ (m.ents.take k).flatMap put5)) ∧ Hid (Wk b b u12 wr)) (fun i _ => n - (intOf i).toNat)
  case atStart => exact ⟨0, by omega, rfl, by show Wrt _ _ _ _; rw [List.take_zero, List.flatMap_nil, List.append_nil]; exact HWr.out, Wk.refl _ _ _⟩
  case round =>
    obtain ⟨k, hk, rfl, RW, RK⟩ := hrel
    by_cases hlt : k < n
    · have hlk : k < m.ents.length := by have := HNn.out; omega
      have hne0 : m.ents ≠ [] := by intro h0; rw [h0] at hlk; simp at hlk
      obtain ⟨gb, go, had⟩ : ∃ b o, ad = some ⟨b, o, none⟩ := by
        rcases HVV12.out hne0 with ⟨h1, _⟩ | ⟨b, o, c, h1, _⟩
        · exact absurd h1 hne0
        · injection h1 with h1; exact ⟨b, o, h1⟩
      subst had
      have hrow := ((HVV12.out hne0).wk RK.out (HVB.out hne0)).row HNn.out (by omega)
      obtain ⟨e, he⟩ : ∃ e, m.ents[k] = e := ⟨_, rfl⟩
      obtain ⟨d0, d1, d2, d3, d4, d5, d6, d7, d8, d9, d10⟩ := entCells hrow.2 hlk he
      have hmem : e ∈ m.ents := by rw [← he]; exact List.getElem_mem _
      have HPt := Lib.hid (fun w => pPut e w (HFE.out e hmem))
      rw [put5R_yes e (HAll.out e hmem) (HOne.out e hmem), HAll.out e hmem, decide_eq_true (HOne.out e hmem)] at HPt
      have HSt : Hid (LL ++ (m.ents.take k).flatMap put5 ++ put5 e = LL ++ (m.ents.take (k + 1)).flatMap put5) := by show _ = _; rw [flat_step _ _ _ hlk he, List.append_assoc]
      have HLn : Hid ((LL ++ (m.ents.take k).flatMap put5).length + (put5 e).length ≤ 140737488355328) := by
        show _ ≤ _
        rw [List.length_append, HL45.out, put5_length e (by have := HD.out e hmem; omega), flat_length _ (fun x hx => by have := HD.out x (List.mem_of_mem_take hx); omega), List.length_take]
        omega
      unfold Ent.cells at HPt
      clear he hrow hlk hmem hne0
      have hRs := RW.out
      go_wp2_with fail
      refine (HPt.out _).mono ?_
      rintro r w5 ⟨rfl, f5⟩
      have HW5 := Lib.hid (RW.out.fr0 (((Fr.refl [] wr).alloc _).trans0 f5))
      have HK5 := Lib.hid ((RK.out.alloc _).trans (Wk.ofFr f5))
      clear f5 d0 d1 d2 d3 d4 d5 d6 d7 d8 d9 d10 hRs
      go_wp2_with fail
      refine (bWrite _ b b _ _ HW5.out HLn.out (Nat.le_trans HS12.out HK5.out.size)).mono ?_
      rintro r w6 ⟨rfl, h6, k6⟩
      have HW6 : Hid (Wrt w6 b b (LL ++ (m.ents.take (k + 1)).flatMap put5)) := by show Wrt _ _ _ _; rw [← HSt.out]; exact h6
      have HK6 := Lib.hid (HK5.out.trans k6)
      clear h6 k6
      go_wp2_with fail
      go_roundw
      case rel => exact ⟨k + 1, by omega, by go_num, HW6.out, HK6.out⟩
      case measure => simp [intOf]; omega
    · have hkn : k = n := by omega
      have htk : m.ents.take k = m.ents := List.take_of_length_le (by have := HNn.out; omega)
      have HWe : Hid (Wrt wr b b (LL ++ m.ents.flatMap put5)) := by have := RW.out; rwa [htk] at this
      have HLf : Hid ((LL ++ m.ents.flatMap put5).length = 45 + 110 * n) := by
        show _ = _
        rw [List.length_append, HL45.out, flat_length _ (fun x hx => by have := HD.out x hx; omega), HNn.out]
      have HXe := Lib.hid (HX12.out.wk RK.out Hne.out (by decide))
      have HSe : Hid (b ≤ wr.heap.size) := Nat.le_trans HS12.out RK.out.size
      have HKe := Lib.hid (HK12.out.trans RK.out)
      clear htk RW RK
      have c0 : wr.cell? ⟨bx, 0, none⟩ = some (.int .i64 m.kind) := HXe.out.cellAt (i := 0) rfl
      have c1 : wr.cell? ⟨bx, 1, none⟩ = some (.int .i64 m.sent) := HXe.out.cellAt (i := 1) rfl
      have c2 : wr.cell? ⟨bx, 2, none⟩ = some (.int .i64 m.goal) := HXe.out.cellAt (i := 2) rfl
      have c3 : wr.cell? ⟨bx, 3, none⟩ = some (.int .u64 m.term) := HXe.out.cellAt (i := 3) rfl
      have c4 : wr.cell? ⟨bx, 4, none⟩ = some (.int .u64 m.index) := HXe.out.cellAt (i := 4) rfl
      have c5 : wr.cell? ⟨bx, 5, none⟩ = some (.int .u64 m.prev) := HXe.out.cellAt (i := 5) rfl
      have c6 : wr.cell? ⟨bx, 6, none⟩ = some (.int .u64 m.commit) := HXe.out.cellAt (i := 6) rfl
      have c7 : wr.cell? ⟨bx, 7, none⟩ = some (.int .u64 m.mark) := HXe.out.cellAt (i := 7) rfl
      have c8 : wr.cell? ⟨bx, 8, none⟩ = some (.bool false) := HXe.out.cellAt (i := 8) rfl
      have c9 : wr.cell? ⟨bx, 9, none⟩ = some (.slice ad n cp) := HXe.out.cellAt (i := 9) rfl
      have c10 : wr.cell? ⟨bx, 10, none⟩ = some (.string m.snap) := HXe.out.cellAt (i := 10) rfl
      go_wp2_with fail
      refine (wPut _ _ _ _ (m.snap.size : Nat) 4 HWe.out (by decide) (by decide) (by omega) (by omega) (by have := HLf.out; omega) HSe.out).mono ?_
      rintro r y1 ⟨rfl, h, k1⟩
      have HWy := Lib.hid h
      have HKy := Lib.hid (HKe.out.trans k1)
      have HXy := Lib.hid (HXe.out.wk k1 Hne.out (by decide))
      have HSy : Hid (b ≤ y1.heap.size) := Nat.le_trans HSe.out k1.size
      have HNy := Lib.hid (len_put (n := (m.snap.size : Nat)) (size := 4) HLf.out (by decide))
      clear h k1 HXe HWe HKe HSe HLf c0 c1 c2 c3 c4 c5 c6 c7 c8 c9 c10
      have c0 : y1.cell? ⟨bx, 0, none⟩ = some (.int .i64 m.kind) := HXy.out.cellAt (i := 0) rfl
      have c1 : y1.cell? ⟨bx, 1, none⟩ = some (.int .i64 m.sent) := HXy.out.cellAt (i := 1) rfl
      have c2 : y1.cell? ⟨bx, 2, none⟩ = some (.int .i64 m.goal) := HXy.out.cellAt (i := 2) rfl
      have c3 : y1.cell? ⟨bx, 3, none⟩ = some (.int .u64 m.term) := HXy.out.cellAt (i := 3) rfl
      have c4 : y1.cell? ⟨bx, 4, none⟩ = some (.int .u64 m.index) := HXy.out.cellAt (i := 4) rfl
      have c5 : y1.cell? ⟨bx, 5, none⟩ = some (.int .u64 m.prev) := HXy.out.cellAt (i := 5) rfl
      have c6 : y1.cell? ⟨bx, 6, none⟩ = some (.int .u64 m.commit) := HXy.out.cellAt (i := 6) rfl
      have c7 : y1.cell? ⟨bx, 7, none⟩ = some (.int .u64 m.mark) := HXy.out.cellAt (i := 7) rfl
      have c8 : y1.cell? ⟨bx, 8, none⟩ = some (.bool false) := HXy.out.cellAt (i := 8) rfl
      have c9 : y1.cell? ⟨bx, 9, none⟩ = some (.slice ad n cp) := HXy.out.cellAt (i := 9) rfl
      have c10 : y1.cell? ⟨bx, 10, none⟩ = some (.string m.snap) := HXy.out.cellAt (i := 10) rfl
      go_wp2_with fail
      have hsnl : m.snap = bs m.snap.data.toList := (bs_of m.snap).symm
      rw [hsnl]
      refine (bWrite _ b b _ _ HWy.out (by rw [HNy.out, show m.snap.data.toList.length = m.snap.size from rfl]; omega) HSy.out).mono ?_
      rintro r y2 ⟨rfl, h, k1⟩
      have HWz := Lib.hid h
      have HKz := Lib.hid (HKy.out.trans k1)
      have HNE : Hid (LL ++ m.ents.flatMap put5 ++ fixL (m.snap.size : Nat) 4 ++ m.snap.data.toList ≠ []) := by rw [List.append_assoc, List.append_assoc]; exact app_ne HL45.out (by decide)
      clear h k1 hsnl c0 c1 c2 c3 c4 c5 c6 c7 c8 c9 c10
      go_wp2_with fail
      refine (bString _ _ _ _ HWz.out HNE.out).mono ?_
      rintro r y3 ⟨rfl, k1⟩
      have HRes : Hid (LL ++ m.ents.flatMap put5 ++ fixL (m.snap.size : Nat) 4 ++ m.snap.data.toList = putM5 m) := by show _ = _; rw [HP5.out, ← HLe.out]; rfl
      go_wp2_with fail
      go_ret2
      exact ⟨by rw [← HRes.out, List.append_assoc, List.append_assoc]; rfl, HFa.out.wk (HKz.out.trans k1) Hb1.out Hb1.out⟩

set_option maxRecDepth 100000 in
set_option maxHeartbeats 4000000 in
theorem pPutM_bad (m : Msg) (v : Value) (w : World) (hf : m.Fits) (hv : Ents w v m.ents) (hok : m.ok = false) :
    Calls Tryd.prog 19 #[.agg (m.cells v)] w fun r w' => r = .returned (.tuple #[.string (bs []), .bool false]) ∧ Fr [] w w' := by
  have HR := Lib.hid (fun w (hv : Ents w v m.ents) => eMsgRight m _ w hf hv)
  rw [hok] at HR
  have HV0 := Lib.hid (hv.fr0 ((Fr.refl [] w).alloc (.cells (m.cells v) 47)))
  clear hok
  unfold Msg.cells at *
  go_enter Tryd.func19, Tryd.ntmps19
  go_wp2_with fail
  refine (HR.out _ HV0.out).mono ?_
  rintro r w1 ⟨rfl, f1⟩
  have HF1 : Hid (Fr [] w w1) := ((Fr.refl [] w).alloc _).trans0 f1
  clear f1
  go_wp2_with fail
  go_ret2
  exact ⟨rfl, HF1.out⟩

set_option maxRecDepth 100000 in
set_option maxHeartbeats 4000000 in
theorem pPutM_two (m : Msg) (v : Value) (w : World) (hf : m.Fits) (hv : Ents w v m.ents) (hok : m.ok = true) (hl : m.lvl = 2) :
    Calls Tryd.prog 19 #[.agg (m.cells v)] w fun r w' => r = .returned (.tuple #[.string (bs []), .bool false]) ∧ Fr [] w w' := by
  have HR := Lib.hid (fun w (hv : Ents w v m.ents) => eMsgRight m _ w hf hv)
  have HLv := Lib.hid (fun w (hv : Ents w v m.ents) => eMsgLevel m _ w hf hv)
  rw [hok] at HR
  rw [hl] at HLv
  have HV0 := Lib.hid (hv.fr0 ((Fr.refl [] w).alloc (.cells (m.cells v) 47)))
  clear hok hl
  unfold Msg.cells at *
  go_enter Tryd.func19, Tryd.ntmps19
  go_wp2_with fail
  refine (HR.out _ HV0.out).mono ?_
  rintro r w1 ⟨rfl, f1⟩
  have HB1 := Lib.hid ((Blk.new w #[.int .i64 m.kind, .int .i64 m.sent, .int .i64 m.goal, .int .u64 m.term, .int .u64 m.index, .int .u64 m.prev, .int .u64 m.commit, .int .u64 m.mark, .bool m.yes, v, .string m.snap] 47).fr0 f1)
  have HF1 : Hid (Fr [] w w1) := ((Fr.refl [] w).alloc _).trans0 f1
  have HV1 := Lib.hid (HV0.out.fr0 f1)
  generalize w.heap.size = bx at *
  clear f1
  have c0 : w1.cell? ⟨bx, 0, none⟩ = some (.int .i64 m.kind) := HB1.out.cellAt (i := 0) rfl
  have c1 : w1.cell? ⟨bx, 1, none⟩ = some (.int .i64 m.sent) := HB1.out.cellAt (i := 1) rfl
  have c2 : w1.cell? ⟨bx, 2, none⟩ = some (.int .i64 m.goal) := HB1.out.cellAt (i := 2) rfl
  have c3 : w1.cell? ⟨bx, 3, none⟩ = some (.int .u64 m.term) := HB1.out.cellAt (i := 3) rfl
  have c4 : w1.cell? ⟨bx, 4, none⟩ = some (.int .u64 m.index) := HB1.out.cellAt (i := 4) rfl
  have c5 : w1.cell? ⟨bx, 5, none⟩ = some (.int .u64 m.prev) := HB1.out.cellAt (i := 5) rfl
  have c6 : w1.cell? ⟨bx, 6, none⟩ = some (.int .u64 m.commit) := HB1.out.cellAt (i := 6) rfl
  have c7 : w1.cell? ⟨bx, 7, none⟩ = some (.int .u64 m.mark) := HB1.out.cellAt (i := 7) rfl
  have c8 : w1.cell? ⟨bx, 8, none⟩ = some (.bool m.yes) := HB1.out.cellAt (i := 8) rfl
  have c9 : w1.cell? ⟨bx, 9, none⟩ = some (v) := HB1.out.cellAt (i := 9) rfl
  have c10 : w1.cell? ⟨bx, 10, none⟩ = some (.string m.snap) := HB1.out.cellAt (i := 10) rfl
  go_wp2_with fail
  refine (HLv.out _ HV1.out).mono ?_
  rintro r w2 ⟨rfl, f2⟩
  have HF2 := Lib.hid (HF1.out.trans0 f2)
  clear f2 c0 c1 c2 c3 c4 c5 c6 c7 c8 c9 c10
  go_wp2_with fail
  go_ret2
  exact ⟨rfl, HF2.out⟩

theorem pPutM (m : Msg) (v : Value) (w : World) (hf : m.Fits) (hv : Ents w v m.ents) :
    Calls Tryd.prog 19 #[.agg (m.cells v)] w fun r w' => r = .returned (.tuple #[.string (bs (putM5R m)), .bool (m.ok && decide (m.lvl ≤ 1))]) ∧ Fr [] w w' := by
  unfold putM5R
  cases hok : m.ok with
  | false => exact pPutM_bad m v w hf hv hok
  | true =>
    by_cases hl : m.lvl ≤ 1
    · rw [decide_eq_true hl]
      cases hy : m.yes with
      | true => exact pPutM_true m v w hf hv hok hl hy
      | false => exact pPutM_false m v w hf hv hok hl hy
    · rw [decide_eq_false hl]
      exact pPutM_two m v w hf hv hok (by unfold Msg.lvl at hl ⊢; split at hl <;> simp_all)
end Go.Proofs.YthfaaoeecajkeaaDoor

namespace Go.Proofs.YthfaaoeecajkeaaDoor
open Go.RowKit

/-- The chapter's own answer, by what is in a kind's letters. -/
def okR (bc bb bm bd bo bn bl : Bool) (e : Ent) : Bool :=
  !(decide (e.term < 1) || decide (e.index < 1) || decide ((64 : Int) < e.data.size) || decide ((64 : Int) < e.old.size) || decide (4294967296 ≤ e.block) || decide (4294967296 ≤ e.many)) &&
  (bc == decide (0 < e.client)) && (bc || !decide (0 < e.seq)) && (bb || !decide (0 < e.block)) && (bm || !decide (0 < e.many)) && (bd || e.data.toList.isEmpty) && (bo || e.old.toList.isEmpty) &&
  (if bn then decide (1 ≤ e.node) && decide (e.node ≤ 7) else e.node == 0) && (if bl then e.level == 1 || e.level == 2 else e.level == 0)
end Go.Proofs.YthfaaoeecajkeaaDoor

namespace Go.Proofs.YthfaaoeecajkeaaDoor
open Go.RowKit

set_option maxRecDepth 100000 in
set_option maxHeartbeats 8000000 in
theorem rRight_none (e : Ent) (may : ByteArray) (w : World) (he : e.Fits) (hkind : entMay e.kind = (may, true)) (hs : may.size ≤ maxLen) (hc : hasI may 99 = false) (hb : hasI may 98 = false) (hm : hasI may 109 = false) (hd : hasI may 100 = false) (ho : hasI may 111 = false) (hn : hasI may 110 = false) (hl : hasI may 108 = false) :
    Calls Tryd.prog 32 #[.agg e.cells] w fun r w' => r = .returned (.bool (okR false false false false false false false e)) ∧ Fr [] w w' := by
  obtain ⟨hT, hI, hC, hS, hB, hM, hD, hO⟩ := he
  unfold U64 maxLen at *
  have HF := Lib.hid (rFields e.kind)
  rw [hkind] at HF
  clear hkind
  have HH := Lib.hid (fun c w => rHas may c w hs)
  unfold Ent.cells
  go_enter Tryd.func32, Tryd.ntmps32
  go_wp2_with fail
  refine (HF.out _).mono ?_
  rintro r w2 ⟨rfl, g2⟩
  have SB := Lib.hid ((Blk.new w #[.int .u64 e.term, .int .u64 e.index, .int .i64 e.kind, .int .u64 e.client, .int .u64 e.seq, .int .u64 e.block, .int .u64 e.many, .int .i64 e.node, .int .i64 e.level, .string e.data, .string e.old] 24).fr0 g2)
  have HF0 : Hid (Fr [] w w2) := ((Fr.refl _ _).alloc _).trans0 g2
  generalize w.heap.size = bx at *
  clear g2 HF
  have f0 := SB.out.cellAt (i := 0) rfl
  have f1 := SB.out.cellAt (i := 1) rfl
  have f3 := SB.out.cellAt (i := 3) rfl
  have f4 := SB.out.cellAt (i := 4) rfl
  have f5 := SB.out.cellAt (i := 5) rfl
  have f6 := SB.out.cellAt (i := 6) rfl
  have f7 := SB.out.cellAt (i := 7) rfl
  have f8 := SB.out.cellAt (i := 8) rfl
  have f9 := SB.out.cellAt (i := 9) rfl
  have f10 := SB.out.cellAt (i := 10) rfl
  go_wp2_with fail
  all_goals first
    | (go_ret; refine ⟨?_, HF0.out⟩; refine ret_bool ?_; clear SB HF0 HH; symm; unfold okR; simp; omega)
    | skip
  by_cases hcl : 0 < e.client
  all_goals
    have hx1 : (true != decide (0 < e.client)) = !decide (0 < e.client) := by simp
    have hx2 : (false != decide (0 < e.client)) = decide (0 < e.client) := by simp
  · have hy1 : decide (0 < e.client) = true := by simp [hcl]
    rw [hy1] at hx1 hx2
    have HCL := Lib.hid hcl
    clear hcl
    go_quiet ((go_at_call 60; exact Calls.quiet_of_same ((HH.out _ _).mono fun _ _ h => ⟨h.1, h.2.symm⟩)))
    go_wp2_with (go_at_call 60; refine (HH.out _ _).mono ?_; rintro r w' ⟨rfl, rfl⟩)
    all_goals go_ret
    all_goals refine ⟨?_, by first | exact HF0.out | exact HF0.out.drew | exact HF0.out.drewN _⟩
    all_goals refine ret_bool ?_
    all_goals have hcl := HCL.out
    all_goals clear SB HF0 HH HCL hx1 hx2
    all_goals symm
    all_goals unfold okR
    all_goals clear f0 f1 f3 f4 f5 f6 f7 f8 f9 f10 hs hc hb hm hd ho hn hl
    all_goals first | (simp [*]; done) | (simp; omega) | (simp [*]; omega) | grind | (rw [Bool.eq_iff_iff]; simp [List.isEmpty_iff] at *; grind) | skip
  · have hy1 : decide (0 < e.client) = false := by simpa using hcl
    rw [hy1] at hx1 hx2
    have HCL := Lib.hid hcl
    clear hcl
    go_quiet ((go_at_call 60; exact Calls.quiet_of_same ((HH.out _ _).mono fun _ _ h => ⟨h.1, h.2.symm⟩)))
    go_wp2_with (go_at_call 60; refine (HH.out _ _).mono ?_; rintro r w' ⟨rfl, rfl⟩)
    all_goals go_ret
    all_goals refine ⟨?_, by first | exact HF0.out | exact HF0.out.drew | exact HF0.out.drewN _⟩
    all_goals refine ret_bool ?_
    all_goals have hcl := HCL.out
    all_goals clear SB HF0 HH HCL hx1 hx2
    all_goals symm
    all_goals unfold okR
    all_goals clear f0 f1 f3 f4 f5 f6 f7 f8 f9 f10 hs hc hb hm hd ho hn hl
    all_goals first | (simp [*]; done) | (simp; omega) | (simp [*]; omega) | grind | (rw [Bool.eq_iff_iff]; simp [List.isEmpty_iff] at *; grind) | skip
end Go.Proofs.YthfaaoeecajkeaaDoor
