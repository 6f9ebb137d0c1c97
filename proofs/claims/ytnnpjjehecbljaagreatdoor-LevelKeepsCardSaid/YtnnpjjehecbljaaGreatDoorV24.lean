/-
  Texts of this seat, joined: RMd2 RMd3 RMd4.
-/
import Derived.Test.YtnnpjjehecbljaaGreatDoorV23
import Derived.Test.YtnnpjjehecbljaaGreatDoorVtk
set_option linter.unusedSimpArgs false
set_option linter.unusedVariables false
namespace Go.Proofs.YtnnpjjehecbljaaGreatDoor
open List renaming getElem?_toArray → lg0, getElem?_cons_succ → lg1, getElem?_cons_zero → lg2, setIfInBounds_toArray → lt0', set_cons_zero → lt1', set_cons_succ → lt2'
open Go.RowKit

set_option maxRecDepth 100000 in
set_option maxHeartbeats 8000000 in
theorem made_cbd (e : Ent) (w : World) (he : e.Fits) (k : Int) (hk : e.kind % 12 = k) (hkind : entMay k = (⟨#[99, 98, 100]⟩, true)) :
    Calls Tryz.prog 9 #[.agg #[.int .u64 e.term, .int .u64 e.index, .int .i64 e.kind, .int .u64 e.client, .int .u64 e.seq, .int .u64 e.block, .int .u64 e.many, .int .i64 e.node, .int .i64 e.level, .string e.data, .string e.old, .bool true]] w fun r w' => r = .returned (.agg (madeOf e).cells) ∧ Fr [] w w' := by
  obtain ⟨hT, hI, hC, hS, hB, hM, hD, hO⟩ := he
  unfold U64 maxLen at *
  obtain ⟨dn, hdn⟩ : ∃ dn, min e.data.size 64 = dn := ⟨_, rfl⟩
  obtain ⟨on, hon⟩ : ∃ on, min e.old.size 64 = on := ⟨_, rfl⟩
  have HRes : Hid ((Ending.returned (.agg #[.int .u64 (e.term % 1000 + 1), .int .u64 (e.index % 1000 + 1), .int .i64 k, .int .u64 (e.client % 5 + 1), .int .u64 (e.seq % 9), .int .u64 (e.block % 9), .int .u64 0, .int .i64 0, .int .i64 0, .string (e.data.extract 0 dn), .string ⟨#[]⟩]) : Ending) = .returned (.agg (madeOf e).cells)) := by
    unfold madeOf Ent.cells has' cutTo nodeW levelW
    simp only [hk, hkind, hdn, hon]
    rfl
  have md := mn64 e.data.size
  have mo := mn64 e.old.size
  rw [hdn] at md
  rw [hon] at mo
  have hdl : dn ≤ e.data.size := by omega
  have hol : on ≤ e.old.size := by omega
  have HF := Lib.hid (rFields k)
  rw [hkind] at HF
  clear hkind hdn hon
  generalize (madeOf e).cells = RES at *
  obtain ⟨r, hr⟩ : ∃ r, e.kind.tmod 12 = r := ⟨_, rfl⟩
  obtain ⟨hr3, hr4, hr5, hr6⟩ := rem12 e.kind r k hr hk
  by_cases hneg : r < 0
  · have hrk := hr3 hneg
    clear hr3 hr4 hk
    go_enter Tryz.func9, Tryz.ntmps9
    go_wp2_with fail
    refine (HF.out _).mono ?_
    rintro r' w2 ⟨rfl, g2⟩
    have A1 : Fr [] w (w.alloc (.cells #[.int .u64 e.term, .int .u64 e.index, .int .i64 e.kind, .int .u64 e.client, .int .u64 e.seq, .int .u64 e.block, .int .u64 e.many, .int .i64 e.node, .int .i64 e.level, .string e.data, .string e.old, .bool true] 26)) := (Fr.refl _ _).alloc _
    have B3 : Blk w2 (w.heap.size + 1 + 1) e.cells 24 := by
      have h := Blk.fr0 (Blk.new ((w.alloc (.cells #[.int .u64 e.term, .int .u64 e.index, .int .i64 e.kind, .int .u64 e.client, .int .u64 e.seq, .int .u64 e.block, .int .u64 e.many, .int .i64 e.node, .int .i64 e.level, .string e.data, .string e.old, .bool true] 26)).alloc (.cells #[.int .u64 0, .int .u64 0, .int .i64 0, .int .u64 0, .int .u64 0, .int .u64 0, .int .u64 0, .int .i64 0, .int .i64 0, .string ⟨#[]⟩, .string ⟨#[]⟩] 24)) e.cells 24) g2
      rw [show ((w.alloc (.cells #[.int .u64 e.term, .int .u64 e.index, .int .i64 e.kind, .int .u64 e.client, .int .u64 e.seq, .int .u64 e.block, .int .u64 e.many, .int .i64 e.node, .int .i64 e.level, .string e.data, .string e.old, .bool true] 26)).alloc (.cells #[.int .u64 0, .int .u64 0, .int .i64 0, .int .u64 0, .int .u64 0, .int .u64 0, .int .u64 0, .int .i64 0, .int .i64 0, .string ⟨#[]⟩, .string ⟨#[]⟩] 24)).heap.size = w.heap.size + 1 + 1 by simp] at h
      exact h
    have B2 : Blk w2 (w.heap.size + 1) #[.int .u64 0, .int .u64 0, .int .i64 0, .int .u64 0, .int .u64 0, .int .u64 0, .int .u64 0, .int .i64 0, .int .i64 0, .string ⟨#[]⟩, .string ⟨#[]⟩] 24 := by
      have h := Blk.fr0 (Blk.alloc (Blk.new (w.alloc (.cells #[.int .u64 e.term, .int .u64 e.index, .int .i64 e.kind, .int .u64 e.client, .int .u64 e.seq, .int .u64 e.block, .int .u64 e.many, .int .i64 e.node, .int .i64 e.level, .string e.data, .string e.old, .bool true] 26)) #[.int .u64 0, .int .u64 0, .int .i64 0, .int .u64 0, .int .u64 0, .int .u64 0, .int .u64 0, .int .i64 0, .int .i64 0, .string ⟨#[]⟩, .string ⟨#[]⟩] 24) (.cells e.cells 24)) g2
      rw [show (w.alloc (.cells #[.int .u64 e.term, .int .u64 e.index, .int .i64 e.kind, .int .u64 e.client, .int .u64 e.seq, .int .u64 e.block, .int .u64 e.many, .int .i64 e.node, .int .i64 e.level, .string e.data, .string e.old, .bool true] 26)).heap.size = w.heap.size + 1 by simp] at h
      exact h
    have HF2 : Hid (Fr [] w w2) := ((A1.alloc _).alloc _).trans0 g2
    have hlt := B3.lt
    unfold Ent.cells at B3
    clear A1 g2
    generalize hX : w.heap.size = bx at *
    have HX := Lib.hid hX
    clear hX
    have f0 := B3.cellAt (i := 0) rfl
    have f0' := ca B3 0
    have q0 := ca B2 0
    have z0 := za B2 0
    have f1 := B3.cellAt (i := 1) rfl
    have f1' := ca B3 1
    have q1 := ca B2 1
    have z1 := za B2 1
    have f2 := B3.cellAt (i := 2) rfl
    have f2' := ca B3 2
    have q2 := ca B2 2
    have z2 := za B2 2
    have f3 := B3.cellAt (i := 3) rfl
    have f3' := ca B3 3
    have q3 := ca B2 3
    have z3 := za B2 3
    have f4 := B3.cellAt (i := 4) rfl
    have f4' := ca B3 4
    have q4 := ca B2 4
    have z4 := za B2 4
    have f5 := B3.cellAt (i := 5) rfl
    have f5' := ca B3 5
    have q5 := ca B2 5
    have z5 := za B2 5
    have f6 := B3.cellAt (i := 6) rfl
    have f6' := ca B3 6
    have q6 := ca B2 6
    have z6 := za B2 6
    have f7 := B3.cellAt (i := 7) rfl
    have f7' := ca B3 7
    have q7 := ca B2 7
    have z7 := za B2 7
    have f8 := B3.cellAt (i := 8) rfl
    have f8' := ca B3 8
    have q8 := ca B2 8
    have z8 := za B2 8
    have f9 := B3.cellAt (i := 9) rfl
    have f9' := ca B3 9
    have q9 := ca B2 9
    have z9 := za B2 9
    have f10 := B3.cellAt (i := 10) rfl
    have f10' := ca B3 10
    have q10 := ca B2 10
    have z10 := za B2 10
    have HB2 := Lib.hid B2
    clear B2 B3
    go_wp2_with fail
    refine wp_loop_rounds 4 ?_
    rw [rounds_succ]
    go_wp2_with fail
    rw [rounds_succ]
    go_wp2_with fail
    rw [rounds_succ]
    go_wp2_with fail
    rw [rounds_succ]
    go_wp2_with fail
    have BF : Hid (Blk ((((((((((((w2.alloc (.cells #[.int .u64 (e.term % 1000 + 1), .int .u64 (e.index % 1000 + 1), .int .i64 k, .int .u64 (e.client % 5 + 1), .int .u64 (e.seq % 9), .int .u64 (e.block % 9), .int .u64 0, .int .i64 0, .int .i64 0, .string (e.data.extract 0 dn), .string ⟨#[]⟩] 24)).setCell ⟨bx + 1, 0, none⟩ (.int .u64 (e.term % 1000 + 1))).setCell ⟨bx + 1, 1, none⟩ (.int .u64 (e.index % 1000 + 1))).setCell ⟨bx + 1, 2, none⟩ (.int .i64 k)).setCell ⟨bx + 1, 3, none⟩ (.int .u64 (e.client % 5 + 1))).setCell ⟨bx + 1, 4, none⟩ (.int .u64 (e.seq % 9))).setCell ⟨bx + 1, 5, none⟩ (.int .u64 (e.block % 9))).setCell ⟨bx + 1, 6, none⟩ (.int .u64 0)).setCell ⟨bx + 1, 7, none⟩ (.int .i64 0)).setCell ⟨bx + 1, 8, none⟩ (.int .i64 0)).setCell ⟨bx + 1, 9, none⟩ (.string (e.data.extract 0 dn))).setCell ⟨bx + 1, 10, none⟩ (.string ⟨#[]⟩)) (bx + 1) #[.int .u64 (e.term % 1000 + 1), .int .u64 (e.index % 1000 + 1), .int .i64 k, .int .u64 (e.client % 5 + 1), .int .u64 (e.seq % 9), .int .u64 (e.block % 9), .int .u64 0, .int .i64 0, .int .i64 0, .string (e.data.extract 0 dn), .string ⟨#[]⟩] 24) := Blk.put11 (HB2.out.alloc (.cells #[.int .u64 (e.term % 1000 + 1), .int .u64 (e.index % 1000 + 1), .int .i64 k, .int .u64 (e.client % 5 + 1), .int .u64 (e.seq % 9), .int .u64 (e.block % 9), .int .u64 0, .int .i64 0, .int .i64 0, .string (e.data.extract 0 dn), .string ⟨#[]⟩] 24)) (.int .u64 (e.term % 1000 + 1)) (.int .u64 (e.index % 1000 + 1)) (.int .i64 k) (.int .u64 (e.client % 5 + 1)) (.int .u64 (e.seq % 9)) (.int .u64 (e.block % 9)) (.int .u64 0) (.int .i64 0) (.int .i64 0) (.string (e.data.extract 0 dn)) (.string ⟨#[]⟩)
    have FF : Hid (Fr [] w ((((((((((((w2.alloc (.cells #[.int .u64 (e.term % 1000 + 1), .int .u64 (e.index % 1000 + 1), .int .i64 k, .int .u64 (e.client % 5 + 1), .int .u64 (e.seq % 9), .int .u64 (e.block % 9), .int .u64 0, .int .i64 0, .int .i64 0, .string (e.data.extract 0 dn), .string ⟨#[]⟩] 24)).setCell ⟨bx + 1, 0, none⟩ (.int .u64 (e.term % 1000 + 1))).setCell ⟨bx + 1, 1, none⟩ (.int .u64 (e.index % 1000 + 1))).setCell ⟨bx + 1, 2, none⟩ (.int .i64 k)).setCell ⟨bx + 1, 3, none⟩ (.int .u64 (e.client % 5 + 1))).setCell ⟨bx + 1, 4, none⟩ (.int .u64 (e.seq % 9))).setCell ⟨bx + 1, 5, none⟩ (.int .u64 (e.block % 9))).setCell ⟨bx + 1, 6, none⟩ (.int .u64 0)).setCell ⟨bx + 1, 7, none⟩ (.int .i64 0)).setCell ⟨bx + 1, 8, none⟩ (.int .i64 0)).setCell ⟨bx + 1, 9, none⟩ (.string (e.data.extract 0 dn))).setCell ⟨bx + 1, 10, none⟩ (.string ⟨#[]⟩))) := ((((((((((((HF2.out.alloc _).setCell (.inr (by have := HX.out; show w.heap.size ≤ bx + 1; omega)) _).setCell (.inr (by have := HX.out; show w.heap.size ≤ bx + 1; omega)) _).setCell (.inr (by have := HX.out; show w.heap.size ≤ bx + 1; omega)) _).setCell (.inr (by have := HX.out; show w.heap.size ≤ bx + 1; omega)) _).setCell (.inr (by have := HX.out; show w.heap.size ≤ bx + 1; omega)) _).setCell (.inr (by have := HX.out; show w.heap.size ≤ bx + 1; omega)) _).setCell (.inr (by have := HX.out; show w.heap.size ≤ bx + 1; omega)) _).setCell (.inr (by have := HX.out; show w.heap.size ≤ bx + 1; omega)) _).setCell (.inr (by have := HX.out; show w.heap.size ≤ bx + 1; omega)) _).setCell (.inr (by have := HX.out; show w.heap.size ≤ bx + 1; omega)) _).setCell (.inr (by have := HX.out; show w.heap.size ≤ bx + 1; omega)) _)
    clear f0 f0' q0 z0 f1 f1' q1 z1 f2 f2' q2 z2 f3 f3' q3 z3 f4 f4' q4 z4 f5 f5' q5 z5 f6 f6' q6 z6 f7 f7' q7 z7 f8 f8' q8 z8 f9 f9' q9 z9 f10 f10' q10 z10
    generalize ((((((((((((w2.alloc (.cells #[.int .u64 (e.term % 1000 + 1), .int .u64 (e.index % 1000 + 1), .int .i64 k, .int .u64 (e.client % 5 + 1), .int .u64 (e.seq % 9), .int .u64 (e.block % 9), .int .u64 0, .int .i64 0, .int .i64 0, .string (e.data.extract 0 dn), .string ⟨#[]⟩] 24)).setCell ⟨bx + 1, 0, none⟩ (.int .u64 (e.term % 1000 + 1))).setCell ⟨bx + 1, 1, none⟩ (.int .u64 (e.index % 1000 + 1))).setCell ⟨bx + 1, 2, none⟩ (.int .i64 k)).setCell ⟨bx + 1, 3, none⟩ (.int .u64 (e.client % 5 + 1))).setCell ⟨bx + 1, 4, none⟩ (.int .u64 (e.seq % 9))).setCell ⟨bx + 1, 5, none⟩ (.int .u64 (e.block % 9))).setCell ⟨bx + 1, 6, none⟩ (.int .u64 0)).setCell ⟨bx + 1, 7, none⟩ (.int .i64 0)).setCell ⟨bx + 1, 8, none⟩ (.int .i64 0)).setCell ⟨bx + 1, 9, none⟩ (.string (e.data.extract 0 dn))).setCell ⟨bx + 1, 10, none⟩ (.string ⟨#[]⟩)) = W at *
    have BF' := BF.out
    have y0 : W.cell? ⟨bx + 1, 0, none⟩ = some (.int .u64 (e.term % 1000 + 1)) := BF'.cellAt (i := 0) rfl
    have y1 : W.cell? ⟨bx + 1, 1, none⟩ = some (.int .u64 (e.index % 1000 + 1)) := BF'.cellAt (i := 1) rfl
    have y2 : W.cell? ⟨bx + 1, 2, none⟩ = some (.int .i64 k) := BF'.cellAt (i := 2) rfl
    have y3 : W.cell? ⟨bx + 1, 3, none⟩ = some (.int .u64 (e.client % 5 + 1)) := BF'.cellAt (i := 3) rfl
    have y4 : W.cell? ⟨bx + 1, 4, none⟩ = some (.int .u64 (e.seq % 9)) := BF'.cellAt (i := 4) rfl
    have y5 : W.cell? ⟨bx + 1, 5, none⟩ = some (.int .u64 (e.block % 9)) := BF'.cellAt (i := 5) rfl
    have y6 : W.cell? ⟨bx + 1, 6, none⟩ = some (.int .u64 0) := BF'.cellAt (i := 6) rfl
    have y7 : W.cell? ⟨bx + 1, 7, none⟩ = some (.int .i64 0) := BF'.cellAt (i := 7) rfl
    have y8 : W.cell? ⟨bx + 1, 8, none⟩ = some (.int .i64 0) := BF'.cellAt (i := 8) rfl
    have y9 : W.cell? ⟨bx + 1, 9, none⟩ = some (.string (e.data.extract 0 dn)) := BF'.cellAt (i := 9) rfl
    have y10 : W.cell? ⟨bx + 1, 10, none⟩ = some (.string ⟨#[]⟩) := BF'.cellAt (i := 10) rfl
    refine bodyPost_ret (v := .agg #[.int .u64 (e.term % 1000 + 1), .int .u64 (e.index % 1000 + 1), .int .i64 k, .int .u64 (e.client % 5 + 1), .int .u64 (e.seq % 9), .int .u64 (e.block % 9), .int .u64 0, .int .i64 0, .int .i64 0, .string (e.data.extract 0 dn), .string ⟨#[]⟩]) ?_ rfl ⟨?_, FF.out⟩
    · simp [results, Tryz.results9, go_sem, y0, y1, y2, y3, y4, y5, y6, y7, y8, y9, y10]
    · exact HRes.out
  · have hrk := hr4 (by omega)
    have hneg' : 0 ≤ r := by omega
    obtain rfl := hrk
    clear hr3 hr4 hneg hk
    go_enter Tryz.func9, Tryz.ntmps9
    go_wp2_with fail
    refine (HF.out _).mono ?_
    rintro r' w2 ⟨rfl, g2⟩
    have A1 : Fr [] w (w.alloc (.cells #[.int .u64 e.term, .int .u64 e.index, .int .i64 e.kind, .int .u64 e.client, .int .u64 e.seq, .int .u64 e.block, .int .u64 e.many, .int .i64 e.node, .int .i64 e.level, .string e.data, .string e.old, .bool true] 26)) := (Fr.refl _ _).alloc _
    have B3 : Blk w2 (w.heap.size + 1 + 1) e.cells 24 := by
      have h := Blk.fr0 (Blk.new ((w.alloc (.cells #[.int .u64 e.term, .int .u64 e.index, .int .i64 e.kind, .int .u64 e.client, .int .u64 e.seq, .int .u64 e.block, .int .u64 e.many, .int .i64 e.node, .int .i64 e.level, .string e.data, .string e.old, .bool true] 26)).alloc (.cells #[.int .u64 0, .int .u64 0, .int .i64 0, .int .u64 0, .int .u64 0, .int .u64 0, .int .u64 0, .int .i64 0, .int .i64 0, .string ⟨#[]⟩, .string ⟨#[]⟩] 24)) e.cells 24) g2
      rw [show ((w.alloc (.cells #[.int .u64 e.term, .int .u64 e.index, .int .i64 e.kind, .int .u64 e.client, .int .u64 e.seq, .int .u64 e.block, .int .u64 e.many, .int .i64 e.node, .int .i64 e.level, .string e.data, .string e.old, .bool true] 26)).alloc (.cells #[.int .u64 0, .int .u64 0, .int .i64 0, .int .u64 0, .int .u64 0, .int .u64 0, .int .u64 0, .int .i64 0, .int .i64 0, .string ⟨#[]⟩, .string ⟨#[]⟩] 24)).heap.size = w.heap.size + 1 + 1 by simp] at h
      exact h
    have B2 : Blk w2 (w.heap.size + 1) #[.int .u64 0, .int .u64 0, .int .i64 0, .int .u64 0, .int .u64 0, .int .u64 0, .int .u64 0, .int .i64 0, .int .i64 0, .string ⟨#[]⟩, .string ⟨#[]⟩] 24 := by
      have h := Blk.fr0 (Blk.alloc (Blk.new (w.alloc (.cells #[.int .u64 e.term, .int .u64 e.index, .int .i64 e.kind, .int .u64 e.client, .int .u64 e.seq, .int .u64 e.block, .int .u64 e.many, .int .i64 e.node, .int .i64 e.level, .string e.data, .string e.old, .bool true] 26)) #[.int .u64 0, .int .u64 0, .int .i64 0, .int .u64 0, .int .u64 0, .int .u64 0, .int .u64 0, .int .i64 0, .int .i64 0, .string ⟨#[]⟩, .string ⟨#[]⟩] 24) (.cells e.cells 24)) g2
      rw [show (w.alloc (.cells #[.int .u64 e.term, .int .u64 e.index, .int .i64 e.kind, .int .u64 e.client, .int .u64 e.seq, .int .u64 e.block, .int .u64 e.many, .int .i64 e.node, .int .i64 e.level, .string e.data, .string e.old, .bool true] 26)).heap.size = w.heap.size + 1 by simp] at h
      exact h
    have HF2 : Hid (Fr [] w w2) := ((A1.alloc _).alloc _).trans0 g2
    have hlt := B3.lt
    unfold Ent.cells at B3
    clear A1 g2
    generalize hX : w.heap.size = bx at *
    have HX := Lib.hid hX
    clear hX
    have f0 := B3.cellAt (i := 0) rfl
    have f0' := ca B3 0
    have q0 := ca B2 0
    have z0 := za B2 0
    have f1 := B3.cellAt (i := 1) rfl
    have f1' := ca B3 1
    have q1 := ca B2 1
    have z1 := za B2 1
    have f2 := B3.cellAt (i := 2) rfl
    have f2' := ca B3 2
    have q2 := ca B2 2
    have z2 := za B2 2
    have f3 := B3.cellAt (i := 3) rfl
    have f3' := ca B3 3
    have q3 := ca B2 3
    have z3 := za B2 3
    have f4 := B3.cellAt (i := 4) rfl
    have f4' := ca B3 4
    have q4 := ca B2 4
    have z4 := za B2 4
    have f5 := B3.cellAt (i := 5) rfl
    have f5' := ca B3 5
    have q5 := ca B2 5
    have z5 := za B2 5
    have f6 := B3.cellAt (i := 6) rfl
    have f6' := ca B3 6
    have q6 := ca B2 6
    have z6 := za B2 6
    have f7 := B3.cellAt (i := 7) rfl
    have f7' := ca B3 7
    have q7 := ca B2 7
    have z7 := za B2 7
    have f8 := B3.cellAt (i := 8) rfl
    have f8' := ca B3 8
    have q8 := ca B2 8
    have z8 := za B2 8
    have f9 := B3.cellAt (i := 9) rfl
    have f9' := ca B3 9
    have q9 := ca B2 9
    have z9 := za B2 9
    have f10 := B3.cellAt (i := 10) rfl
    have f10' := ca B3 10
    have q10 := ca B2 10
    have z10 := za B2 10
    have HB2 := Lib.hid B2
    clear B2 B3
    go_wp2_with fail
    refine wp_loop_rounds 4 ?_
    rw [rounds_succ]
    go_wp2_with fail
    rw [rounds_succ]
    go_wp2_with fail
    rw [rounds_succ]
    go_wp2_with fail
    rw [rounds_succ]
    go_wp2_with fail
    have BF : Hid (Blk ((((((((((((w2.alloc (.cells #[.int .u64 (e.term % 1000 + 1), .int .u64 (e.index % 1000 + 1), .int .i64 r, .int .u64 (e.client % 5 + 1), .int .u64 (e.seq % 9), .int .u64 (e.block % 9), .int .u64 0, .int .i64 0, .int .i64 0, .string (e.data.extract 0 dn), .string ⟨#[]⟩] 24)).setCell ⟨bx + 1, 0, none⟩ (.int .u64 (e.term % 1000 + 1))).setCell ⟨bx + 1, 1, none⟩ (.int .u64 (e.index % 1000 + 1))).setCell ⟨bx + 1, 2, none⟩ (.int .i64 r)).setCell ⟨bx + 1, 3, none⟩ (.int .u64 (e.client % 5 + 1))).setCell ⟨bx + 1, 4, none⟩ (.int .u64 (e.seq % 9))).setCell ⟨bx + 1, 5, none⟩ (.int .u64 (e.block % 9))).setCell ⟨bx + 1, 6, none⟩ (.int .u64 0)).setCell ⟨bx + 1, 7, none⟩ (.int .i64 0)).setCell ⟨bx + 1, 8, none⟩ (.int .i64 0)).setCell ⟨bx + 1, 9, none⟩ (.string (e.data.extract 0 dn))).setCell ⟨bx + 1, 10, none⟩ (.string ⟨#[]⟩)) (bx + 1) #[.int .u64 (e.term % 1000 + 1), .int .u64 (e.index % 1000 + 1), .int .i64 r, .int .u64 (e.client % 5 + 1), .int .u64 (e.seq % 9), .int .u64 (e.block % 9), .int .u64 0, .int .i64 0, .int .i64 0, .string (e.data.extract 0 dn), .string ⟨#[]⟩] 24) := Blk.put11 (HB2.out.alloc (.cells #[.int .u64 (e.term % 1000 + 1), .int .u64 (e.index % 1000 + 1), .int .i64 r, .int .u64 (e.client % 5 + 1), .int .u64 (e.seq % 9), .int .u64 (e.block % 9), .int .u64 0, .int .i64 0, .int .i64 0, .string (e.data.extract 0 dn), .string ⟨#[]⟩] 24)) (.int .u64 (e.term % 1000 + 1)) (.int .u64 (e.index % 1000 + 1)) (.int .i64 r) (.int .u64 (e.client % 5 + 1)) (.int .u64 (e.seq % 9)) (.int .u64 (e.block % 9)) (.int .u64 0) (.int .i64 0) (.int .i64 0) (.string (e.data.extract 0 dn)) (.string ⟨#[]⟩)
    have FF : Hid (Fr [] w ((((((((((((w2.alloc (.cells #[.int .u64 (e.term % 1000 + 1), .int .u64 (e.index % 1000 + 1), .int .i64 r, .int .u64 (e.client % 5 + 1), .int .u64 (e.seq % 9), .int .u64 (e.block % 9), .int .u64 0, .int .i64 0, .int .i64 0, .string (e.data.extract 0 dn), .string ⟨#[]⟩] 24)).setCell ⟨bx + 1, 0, none⟩ (.int .u64 (e.term % 1000 + 1))).setCell ⟨bx + 1, 1, none⟩ (.int .u64 (e.index % 1000 + 1))).setCell ⟨bx + 1, 2, none⟩ (.int .i64 r)).setCell ⟨bx + 1, 3, none⟩ (.int .u64 (e.client % 5 + 1))).setCell ⟨bx + 1, 4, none⟩ (.int .u64 (e.seq % 9))).setCell ⟨bx + 1, 5, none⟩ (.int .u64 (e.block % 9))).setCell ⟨bx + 1, 6, none⟩ (.int .u64 0)).setCell ⟨bx + 1, 7, none⟩ (.int .i64 0)).setCell ⟨bx + 1, 8, none⟩ (.int .i64 0)).setCell ⟨bx + 1, 9, none⟩ (.string (e.data.extract 0 dn))).setCell ⟨bx + 1, 10, none⟩ (.string ⟨#[]⟩))) := ((((((((((((HF2.out.alloc _).setCell (.inr (by have := HX.out; show w.heap.size ≤ bx + 1; omega)) _).setCell (.inr (by have := HX.out; show w.heap.size ≤ bx + 1; omega)) _).setCell (.inr (by have := HX.out; show w.heap.size ≤ bx + 1; omega)) _).setCell (.inr (by have := HX.out; show w.heap.size ≤ bx + 1; omega)) _).setCell (.inr (by have := HX.out; show w.heap.size ≤ bx + 1; omega)) _).setCell (.inr (by have := HX.out; show w.heap.size ≤ bx + 1; omega)) _).setCell (.inr (by have := HX.out; show w.heap.size ≤ bx + 1; omega)) _).setCell (.inr (by have := HX.out; show w.heap.size ≤ bx + 1; omega)) _).setCell (.inr (by have := HX.out; show w.heap.size ≤ bx + 1; omega)) _).setCell (.inr (by have := HX.out; show w.heap.size ≤ bx + 1; omega)) _).setCell (.inr (by have := HX.out; show w.heap.size ≤ bx + 1; omega)) _)
    clear f0 f0' q0 z0 f1 f1' q1 z1 f2 f2' q2 z2 f3 f3' q3 z3 f4 f4' q4 z4 f5 f5' q5 z5 f6 f6' q6 z6 f7 f7' q7 z7 f8 f8' q8 z8 f9 f9' q9 z9 f10 f10' q10 z10
    generalize ((((((((((((w2.alloc (.cells #[.int .u64 (e.term % 1000 + 1), .int .u64 (e.index % 1000 + 1), .int .i64 r, .int .u64 (e.client % 5 + 1), .int .u64 (e.seq % 9), .int .u64 (e.block % 9), .int .u64 0, .int .i64 0, .int .i64 0, .string (e.data.extract 0 dn), .string ⟨#[]⟩] 24)).setCell ⟨bx + 1, 0, none⟩ (.int .u64 (e.term % 1000 + 1))).setCell ⟨bx + 1, 1, none⟩ (.int .u64 (e.index % 1000 + 1))).setCell ⟨bx + 1, 2, none⟩ (.int .i64 r)).setCell ⟨bx + 1, 3, none⟩ (.int .u64 (e.client % 5 + 1))).setCell ⟨bx + 1, 4, none⟩ (.int .u64 (e.seq % 9))).setCell ⟨bx + 1, 5, none⟩ (.int .u64 (e.block % 9))).setCell ⟨bx + 1, 6, none⟩ (.int .u64 0)).setCell ⟨bx + 1, 7, none⟩ (.int .i64 0)).setCell ⟨bx + 1, 8, none⟩ (.int .i64 0)).setCell ⟨bx + 1, 9, none⟩ (.string (e.data.extract 0 dn))).setCell ⟨bx + 1, 10, none⟩ (.string ⟨#[]⟩)) = W at *
    have BF' := BF.out
    have y0 : W.cell? ⟨bx + 1, 0, none⟩ = some (.int .u64 (e.term % 1000 + 1)) := BF'.cellAt (i := 0) rfl
    have y1 : W.cell? ⟨bx + 1, 1, none⟩ = some (.int .u64 (e.index % 1000 + 1)) := BF'.cellAt (i := 1) rfl
    have y2 : W.cell? ⟨bx + 1, 2, none⟩ = some (.int .i64 r) := BF'.cellAt (i := 2) rfl
    have y3 : W.cell? ⟨bx + 1, 3, none⟩ = some (.int .u64 (e.client % 5 + 1)) := BF'.cellAt (i := 3) rfl
    have y4 : W.cell? ⟨bx + 1, 4, none⟩ = some (.int .u64 (e.seq % 9)) := BF'.cellAt (i := 4) rfl
    have y5 : W.cell? ⟨bx + 1, 5, none⟩ = some (.int .u64 (e.block % 9)) := BF'.cellAt (i := 5) rfl
    have y6 : W.cell? ⟨bx + 1, 6, none⟩ = some (.int .u64 0) := BF'.cellAt (i := 6) rfl
    have y7 : W.cell? ⟨bx + 1, 7, none⟩ = some (.int .i64 0) := BF'.cellAt (i := 7) rfl
    have y8 : W.cell? ⟨bx + 1, 8, none⟩ = some (.int .i64 0) := BF'.cellAt (i := 8) rfl
    have y9 : W.cell? ⟨bx + 1, 9, none⟩ = some (.string (e.data.extract 0 dn)) := BF'.cellAt (i := 9) rfl
    have y10 : W.cell? ⟨bx + 1, 10, none⟩ = some (.string ⟨#[]⟩) := BF'.cellAt (i := 10) rfl
    refine bodyPost_ret (v := .agg #[.int .u64 (e.term % 1000 + 1), .int .u64 (e.index % 1000 + 1), .int .i64 r, .int .u64 (e.client % 5 + 1), .int .u64 (e.seq % 9), .int .u64 (e.block % 9), .int .u64 0, .int .i64 0, .int .i64 0, .string (e.data.extract 0 dn), .string ⟨#[]⟩]) ?_ rfl ⟨?_, FF.out⟩
    · simp [results, Tryz.results9, go_sem, y0, y1, y2, y3, y4, y5, y6, y7, y8, y9, y10]
    · exact HRes.out
end Go.Proofs.YtnnpjjehecbljaaGreatDoor

namespace Go.Proofs.YtnnpjjehecbljaaGreatDoor
open List renaming getElem?_toArray → lg0, getElem?_cons_succ → lg1, getElem?_cons_zero → lg2, setIfInBounds_toArray → lt0', set_cons_zero → lt1', set_cons_succ → lt2'
open Go.RowKit

set_option maxRecDepth 100000 in
set_option maxHeartbeats 8000000 in
theorem made_cbm (e : Ent) (w : World) (he : e.Fits) (k : Int) (hk : e.kind % 12 = k) (hkind : entMay k = (⟨#[99, 98, 109]⟩, true)) :
    Calls Tryz.prog 9 #[.agg #[.int .u64 e.term, .int .u64 e.index, .int .i64 e.kind, .int .u64 e.client, .int .u64 e.seq, .int .u64 e.block, .int .u64 e.many, .int .i64 e.node, .int .i64 e.level, .string e.data, .string e.old, .bool true]] w fun r w' => r = .returned (.agg (madeOf e).cells) ∧ Fr [] w w' := by
  obtain ⟨hT, hI, hC, hS, hB, hM, hD, hO⟩ := he
  unfold U64 maxLen at *
  obtain ⟨dn, hdn⟩ : ∃ dn, min e.data.size 64 = dn := ⟨_, rfl⟩
  obtain ⟨on, hon⟩ : ∃ on, min e.old.size 64 = on := ⟨_, rfl⟩
  have HRes : Hid ((Ending.returned (.agg #[.int .u64 (e.term % 1000 + 1), .int .u64 (e.index % 1000 + 1), .int .i64 k, .int .u64 (e.client % 5 + 1), .int .u64 (e.seq % 9), .int .u64 (e.block % 9), .int .u64 (e.many % 9), .int .i64 0, .int .i64 0, .string ⟨#[]⟩, .string ⟨#[]⟩]) : Ending) = .returned (.agg (madeOf e).cells)) := by
    unfold madeOf Ent.cells has' cutTo nodeW levelW
    simp only [hk, hkind, hdn, hon]
    rfl
  have md := mn64 e.data.size
  have mo := mn64 e.old.size
  rw [hdn] at md
  rw [hon] at mo
  have hdl : dn ≤ e.data.size := by omega
  have hol : on ≤ e.old.size := by omega
  have HF := Lib.hid (rFields k)
  rw [hkind] at HF
  clear hkind hdn hon
  generalize (madeOf e).cells = RES at *
  obtain ⟨r, hr⟩ : ∃ r, e.kind.tmod 12 = r := ⟨_, rfl⟩
  obtain ⟨hr3, hr4, hr5, hr6⟩ := rem12 e.kind r k hr hk
  by_cases hneg : r < 0
  · have hrk := hr3 hneg
    clear hr3 hr4 hk
    go_enter Tryz.func9, Tryz.ntmps9
    go_wp2_with fail
    refine (HF.out _).mono ?_
    rintro r' w2 ⟨rfl, g2⟩
    have A1 : Fr [] w (w.alloc (.cells #[.int .u64 e.term, .int .u64 e.index, .int .i64 e.kind, .int .u64 e.client, .int .u64 e.seq, .int .u64 e.block, .int .u64 e.many, .int .i64 e.node, .int .i64 e.level, .string e.data, .string e.old, .bool true] 26)) := (Fr.refl _ _).alloc _
    have B3 : Blk w2 (w.heap.size + 1 + 1) e.cells 24 := by
      have h := Blk.fr0 (Blk.new ((w.alloc (.cells #[.int .u64 e.term, .int .u64 e.index, .int .i64 e.kind, .int .u64 e.client, .int .u64 e.seq, .int .u64 e.block, .int .u64 e.many, .int .i64 e.node, .int .i64 e.level, .string e.data, .string e.old, .bool true] 26)).alloc (.cells #[.int .u64 0, .int .u64 0, .int .i64 0, .int .u64 0, .int .u64 0, .int .u64 0, .int .u64 0, .int .i64 0, .int .i64 0, .string ⟨#[]⟩, .string ⟨#[]⟩] 24)) e.cells 24) g2
      rw [show ((w.alloc (.cells #[.int .u64 e.term, .int .u64 e.index, .int .i64 e.kind, .int .u64 e.client, .int .u64 e.seq, .int .u64 e.block, .int .u64 e.many, .int .i64 e.node, .int .i64 e.level, .string e.data, .string e.old, .bool true] 26)).alloc (.cells #[.int .u64 0, .int .u64 0, .int .i64 0, .int .u64 0, .int .u64 0, .int .u64 0, .int .u64 0, .int .i64 0, .int .i64 0, .string ⟨#[]⟩, .string ⟨#[]⟩] 24)).heap.size = w.heap.size + 1 + 1 by simp] at h
      exact h
    have B2 : Blk w2 (w.heap.size + 1) #[.int .u64 0, .int .u64 0, .int .i64 0, .int .u64 0, .int .u64 0, .int .u64 0, .int .u64 0, .int .i64 0, .int .i64 0, .string ⟨#[]⟩, .string ⟨#[]⟩] 24 := by
      have h := Blk.fr0 (Blk.alloc (Blk.new (w.alloc (.cells #[.int .u64 e.term, .int .u64 e.index, .int .i64 e.kind, .int .u64 e.client, .int .u64 e.seq, .int .u64 e.block, .int .u64 e.many, .int .i64 e.node, .int .i64 e.level, .string e.data, .string e.old, .bool true] 26)) #[.int .u64 0, .int .u64 0, .int .i64 0, .int .u64 0, .int .u64 0, .int .u64 0, .int .u64 0, .int .i64 0, .int .i64 0, .string ⟨#[]⟩, .string ⟨#[]⟩] 24) (.cells e.cells 24)) g2
      rw [show (w.alloc (.cells #[.int .u64 e.term, .int .u64 e.index, .int .i64 e.kind, .int .u64 e.client, .int .u64 e.seq, .int .u64 e.block, .int .u64 e.many, .int .i64 e.node, .int .i64 e.level, .string e.data, .string e.old, .bool true] 26)).heap.size = w.heap.size + 1 by simp] at h
      exact h
    have HF2 : Hid (Fr [] w w2) := ((A1.alloc _).alloc _).trans0 g2
    have hlt := B3.lt
    unfold Ent.cells at B3
    clear A1 g2
    generalize hX : w.heap.size = bx at *
    have HX := Lib.hid hX
    clear hX
    have f0 := B3.cellAt (i := 0) rfl
    have f0' := ca B3 0
    have q0 := ca B2 0
    have z0 := za B2 0
    have f1 := B3.cellAt (i := 1) rfl
    have f1' := ca B3 1
    have q1 := ca B2 1
    have z1 := za B2 1
    have f2 := B3.cellAt (i := 2) rfl
    have f2' := ca B3 2
    have q2 := ca B2 2
    have z2 := za B2 2
    have f3 := B3.cellAt (i := 3) rfl
    have f3' := ca B3 3
    have q3 := ca B2 3
    have z3 := za B2 3
    have f4 := B3.cellAt (i := 4) rfl
    have f4' := ca B3 4
    have q4 := ca B2 4
    have z4 := za B2 4
    have f5 := B3.cellAt (i := 5) rfl
    have f5' := ca B3 5
    have q5 := ca B2 5
    have z5 := za B2 5
    have f6 := B3.cellAt (i := 6) rfl
    have f6' := ca B3 6
    have q6 := ca B2 6
    have z6 := za B2 6
    have f7 := B3.cellAt (i := 7) rfl
    have f7' := ca B3 7
    have q7 := ca B2 7
    have z7 := za B2 7
    have f8 := B3.cellAt (i := 8) rfl
    have f8' := ca B3 8
    have q8 := ca B2 8
    have z8 := za B2 8
    have f9 := B3.cellAt (i := 9) rfl
    have f9' := ca B3 9
    have q9 := ca B2 9
    have z9 := za B2 9
    have f10 := B3.cellAt (i := 10) rfl
    have f10' := ca B3 10
    have q10 := ca B2 10
    have z10 := za B2 10
    have HB2 := Lib.hid B2
    clear B2 B3
    go_wp2_with fail
    refine wp_loop_rounds 4 ?_
    rw [rounds_succ]
    go_wp2_with fail
    rw [rounds_succ]
    go_wp2_with fail
    rw [rounds_succ]
    go_wp2_with fail
    rw [rounds_succ]
    go_wp2_with fail
    have BF : Hid (Blk ((((((((((((w2.alloc (.cells #[.int .u64 (e.term % 1000 + 1), .int .u64 (e.index % 1000 + 1), .int .i64 k, .int .u64 (e.client % 5 + 1), .int .u64 (e.seq % 9), .int .u64 (e.block % 9), .int .u64 (e.many % 9), .int .i64 0, .int .i64 0, .string ⟨#[]⟩, .string ⟨#[]⟩] 24)).setCell ⟨bx + 1, 0, none⟩ (.int .u64 (e.term % 1000 + 1))).setCell ⟨bx + 1, 1, none⟩ (.int .u64 (e.index % 1000 + 1))).setCell ⟨bx + 1, 2, none⟩ (.int .i64 k)).setCell ⟨bx + 1, 3, none⟩ (.int .u64 (e.client % 5 + 1))).setCell ⟨bx + 1, 4, none⟩ (.int .u64 (e.seq % 9))).setCell ⟨bx + 1, 5, none⟩ (.int .u64 (e.block % 9))).setCell ⟨bx + 1, 6, none⟩ (.int .u64 (e.many % 9))).setCell ⟨bx + 1, 7, none⟩ (.int .i64 0)).setCell ⟨bx + 1, 8, none⟩ (.int .i64 0)).setCell ⟨bx + 1, 9, none⟩ (.string ⟨#[]⟩)).setCell ⟨bx + 1, 10, none⟩ (.string ⟨#[]⟩)) (bx + 1) #[.int .u64 (e.term % 1000 + 1), .int .u64 (e.index % 1000 + 1), .int .i64 k, .int .u64 (e.client % 5 + 1), .int .u64 (e.seq % 9), .int .u64 (e.block % 9), .int .u64 (e.many % 9), .int .i64 0, .int .i64 0, .string ⟨#[]⟩, .string ⟨#[]⟩] 24) := Blk.put11 (HB2.out.alloc (.cells #[.int .u64 (e.term % 1000 + 1), .int .u64 (e.index % 1000 + 1), .int .i64 k, .int .u64 (e.client % 5 + 1), .int .u64 (e.seq % 9), .int .u64 (e.block % 9), .int .u64 (e.many % 9), .int .i64 0, .int .i64 0, .string ⟨#[]⟩, .string ⟨#[]⟩] 24)) (.int .u64 (e.term % 1000 + 1)) (.int .u64 (e.index % 1000 + 1)) (.int .i64 k) (.int .u64 (e.client % 5 + 1)) (.int .u64 (e.seq % 9)) (.int .u64 (e.block % 9)) (.int .u64 (e.many % 9)) (.int .i64 0) (.int .i64 0) (.string ⟨#[]⟩) (.string ⟨#[]⟩)
    have FF : Hid (Fr [] w ((((((((((((w2.alloc (.cells #[.int .u64 (e.term % 1000 + 1), .int .u64 (e.index % 1000 + 1), .int .i64 k, .int .u64 (e.client % 5 + 1), .int .u64 (e.seq % 9), .int .u64 (e.block % 9), .int .u64 (e.many % 9), .int .i64 0, .int .i64 0, .string ⟨#[]⟩, .string ⟨#[]⟩] 24)).setCell ⟨bx + 1, 0, none⟩ (.int .u64 (e.term % 1000 + 1))).setCell ⟨bx + 1, 1, none⟩ (.int .u64 (e.index % 1000 + 1))).setCell ⟨bx + 1, 2, none⟩ (.int .i64 k)).setCell ⟨bx + 1, 3, none⟩ (.int .u64 (e.client % 5 + 1))).setCell ⟨bx + 1, 4, none⟩ (.int .u64 (e.seq % 9))).setCell ⟨bx + 1, 5, none⟩ (.int .u64 (e.block % 9))).setCell ⟨bx + 1, 6, none⟩ (.int .u64 (e.many % 9))).setCell ⟨bx + 1, 7, none⟩ (.int .i64 0)).setCell ⟨bx + 1, 8, none⟩ (.int .i64 0)).setCell ⟨bx + 1, 9, none⟩ (.string ⟨#[]⟩)).setCell ⟨bx + 1, 10, none⟩ (.string ⟨#[]⟩))) := ((((((((((((HF2.out.alloc _).setCell (.inr (by have := HX.out; show w.heap.size ≤ bx + 1; omega)) _).setCell (.inr (by have := HX.out; show w.heap.size ≤ bx + 1; omega)) _).setCell (.inr (by have := HX.out; show w.heap.size ≤ bx + 1; omega)) _).setCell (.inr (by have := HX.out; show w.heap.size ≤ bx + 1; omega)) _).setCell (.inr (by have := HX.out; show w.heap.size ≤ bx + 1; omega)) _).setCell (.inr (by have := HX.out; show w.heap.size ≤ bx + 1; omega)) _).setCell (.inr (by have := HX.out; show w.heap.size ≤ bx + 1; omega)) _).setCell (.inr (by have := HX.out; show w.heap.size ≤ bx + 1; omega)) _).setCell (.inr (by have := HX.out; show w.heap.size ≤ bx + 1; omega)) _).setCell (.inr (by have := HX.out; show w.heap.size ≤ bx + 1; omega)) _).setCell (.inr (by have := HX.out; show w.heap.size ≤ bx + 1; omega)) _)
    clear f0 f0' q0 z0 f1 f1' q1 z1 f2 f2' q2 z2 f3 f3' q3 z3 f4 f4' q4 z4 f5 f5' q5 z5 f6 f6' q6 z6 f7 f7' q7 z7 f8 f8' q8 z8 f9 f9' q9 z9 f10 f10' q10 z10
    generalize ((((((((((((w2.alloc (.cells #[.int .u64 (e.term % 1000 + 1), .int .u64 (e.index % 1000 + 1), .int .i64 k, .int .u64 (e.client % 5 + 1), .int .u64 (e.seq % 9), .int .u64 (e.block % 9), .int .u64 (e.many % 9), .int .i64 0, .int .i64 0, .string ⟨#[]⟩, .string ⟨#[]⟩] 24)).setCell ⟨bx + 1, 0, none⟩ (.int .u64 (e.term % 1000 + 1))).setCell ⟨bx + 1, 1, none⟩ (.int .u64 (e.index % 1000 + 1))).setCell ⟨bx + 1, 2, none⟩ (.int .i64 k)).setCell ⟨bx + 1, 3, none⟩ (.int .u64 (e.client % 5 + 1))).setCell ⟨bx + 1, 4, none⟩ (.int .u64 (e.seq % 9))).setCell ⟨bx + 1, 5, none⟩ (.int .u64 (e.block % 9))).setCell ⟨bx + 1, 6, none⟩ (.int .u64 (e.many % 9))).setCell ⟨bx + 1, 7, none⟩ (.int .i64 0)).setCell ⟨bx + 1, 8, none⟩ (.int .i64 0)).setCell ⟨bx + 1, 9, none⟩ (.string ⟨#[]⟩)).setCell ⟨bx + 1, 10, none⟩ (.string ⟨#[]⟩)) = W at *
    have BF' := BF.out
    have y0 : W.cell? ⟨bx + 1, 0, none⟩ = some (.int .u64 (e.term % 1000 + 1)) := BF'.cellAt (i := 0) rfl
    have y1 : W.cell? ⟨bx + 1, 1, none⟩ = some (.int .u64 (e.index % 1000 + 1)) := BF'.cellAt (i := 1) rfl
    have y2 : W.cell? ⟨bx + 1, 2, none⟩ = some (.int .i64 k) := BF'.cellAt (i := 2) rfl
    have y3 : W.cell? ⟨bx + 1, 3, none⟩ = some (.int .u64 (e.client % 5 + 1)) := BF'.cellAt (i := 3) rfl
    have y4 : W.cell? ⟨bx + 1, 4, none⟩ = some (.int .u64 (e.seq % 9)) := BF'.cellAt (i := 4) rfl
    have y5 : W.cell? ⟨bx + 1, 5, none⟩ = some (.int .u64 (e.block % 9)) := BF'.cellAt (i := 5) rfl
    have y6 : W.cell? ⟨bx + 1, 6, none⟩ = some (.int .u64 (e.many % 9)) := BF'.cellAt (i := 6) rfl
    have y7 : W.cell? ⟨bx + 1, 7, none⟩ = some (.int .i64 0) := BF'.cellAt (i := 7) rfl
    have y8 : W.cell? ⟨bx + 1, 8, none⟩ = some (.int .i64 0) := BF'.cellAt (i := 8) rfl
    have y9 : W.cell? ⟨bx + 1, 9, none⟩ = some (.string ⟨#[]⟩) := BF'.cellAt (i := 9) rfl
    have y10 : W.cell? ⟨bx + 1, 10, none⟩ = some (.string ⟨#[]⟩) := BF'.cellAt (i := 10) rfl
    refine bodyPost_ret (v := .agg #[.int .u64 (e.term % 1000 + 1), .int .u64 (e.index % 1000 + 1), .int .i64 k, .int .u64 (e.client % 5 + 1), .int .u64 (e.seq % 9), .int .u64 (e.block % 9), .int .u64 (e.many % 9), .int .i64 0, .int .i64 0, .string ⟨#[]⟩, .string ⟨#[]⟩]) ?_ rfl ⟨?_, FF.out⟩
    · simp [results, Tryz.results9, go_sem, y0, y1, y2, y3, y4, y5, y6, y7, y8, y9, y10]
    · exact HRes.out
  · have hrk := hr4 (by omega)
    have hneg' : 0 ≤ r := by omega
    obtain rfl := hrk
    clear hr3 hr4 hneg hk
    go_enter Tryz.func9, Tryz.ntmps9
    go_wp2_with fail
    refine (HF.out _).mono ?_
    rintro r' w2 ⟨rfl, g2⟩
    have A1 : Fr [] w (w.alloc (.cells #[.int .u64 e.term, .int .u64 e.index, .int .i64 e.kind, .int .u64 e.client, .int .u64 e.seq, .int .u64 e.block, .int .u64 e.many, .int .i64 e.node, .int .i64 e.level, .string e.data, .string e.old, .bool true] 26)) := (Fr.refl _ _).alloc _
    have B3 : Blk w2 (w.heap.size + 1 + 1) e.cells 24 := by
      have h := Blk.fr0 (Blk.new ((w.alloc (.cells #[.int .u64 e.term, .int .u64 e.index, .int .i64 e.kind, .int .u64 e.client, .int .u64 e.seq, .int .u64 e.block, .int .u64 e.many, .int .i64 e.node, .int .i64 e.level, .string e.data, .string e.old, .bool true] 26)).alloc (.cells #[.int .u64 0, .int .u64 0, .int .i64 0, .int .u64 0, .int .u64 0, .int .u64 0, .int .u64 0, .int .i64 0, .int .i64 0, .string ⟨#[]⟩, .string ⟨#[]⟩] 24)) e.cells 24) g2
      rw [show ((w.alloc (.cells #[.int .u64 e.term, .int .u64 e.index, .int .i64 e.kind, .int .u64 e.client, .int .u64 e.seq, .int .u64 e.block, .int .u64 e.many, .int .i64 e.node, .int .i64 e.level, .string e.data, .string e.old, .bool true] 26)).alloc (.cells #[.int .u64 0, .int .u64 0, .int .i64 0, .int .u64 0, .int .u64 0, .int .u64 0, .int .u64 0, .int .i64 0, .int .i64 0, .string ⟨#[]⟩, .string ⟨#[]⟩] 24)).heap.size = w.heap.size + 1 + 1 by simp] at h
      exact h
    have B2 : Blk w2 (w.heap.size + 1) #[.int .u64 0, .int .u64 0, .int .i64 0, .int .u64 0, .int .u64 0, .int .u64 0, .int .u64 0, .int .i64 0, .int .i64 0, .string ⟨#[]⟩, .string ⟨#[]⟩] 24 := by
      have h := Blk.fr0 (Blk.alloc (Blk.new (w.alloc (.cells #[.int .u64 e.term, .int .u64 e.index, .int .i64 e.kind, .int .u64 e.client, .int .u64 e.seq, .int .u64 e.block, .int .u64 e.many, .int .i64 e.node, .int .i64 e.level, .string e.data, .string e.old, .bool true] 26)) #[.int .u64 0, .int .u64 0, .int .i64 0, .int .u64 0, .int .u64 0, .int .u64 0, .int .u64 0, .int .i64 0, .int .i64 0, .string ⟨#[]⟩, .string ⟨#[]⟩] 24) (.cells e.cells 24)) g2
      rw [show (w.alloc (.cells #[.int .u64 e.term, .int .u64 e.index, .int .i64 e.kind, .int .u64 e.client, .int .u64 e.seq, .int .u64 e.block, .int .u64 e.many, .int .i64 e.node, .int .i64 e.level, .string e.data, .string e.old, .bool true] 26)).heap.size = w.heap.size + 1 by simp] at h
      exact h
    have HF2 : Hid (Fr [] w w2) := ((A1.alloc _).alloc _).trans0 g2
    have hlt := B3.lt
    unfold Ent.cells at B3
    clear A1 g2
    generalize hX : w.heap.size = bx at *
    have HX := Lib.hid hX
    clear hX
    have f0 := B3.cellAt (i := 0) rfl
    have f0' := ca B3 0
    have q0 := ca B2 0
    have z0 := za B2 0
    have f1 := B3.cellAt (i := 1) rfl
    have f1' := ca B3 1
    have q1 := ca B2 1
    have z1 := za B2 1
    have f2 := B3.cellAt (i := 2) rfl
    have f2' := ca B3 2
    have q2 := ca B2 2
    have z2 := za B2 2
    have f3 := B3.cellAt (i := 3) rfl
    have f3' := ca B3 3
    have q3 := ca B2 3
    have z3 := za B2 3
    have f4 := B3.cellAt (i := 4) rfl
    have f4' := ca B3 4
    have q4 := ca B2 4
    have z4 := za B2 4
    have f5 := B3.cellAt (i := 5) rfl
    have f5' := ca B3 5
    have q5 := ca B2 5
    have z5 := za B2 5
    have f6 := B3.cellAt (i := 6) rfl
    have f6' := ca B3 6
    have q6 := ca B2 6
    have z6 := za B2 6
    have f7 := B3.cellAt (i := 7) rfl
    have f7' := ca B3 7
    have q7 := ca B2 7
    have z7 := za B2 7
    have f8 := B3.cellAt (i := 8) rfl
    have f8' := ca B3 8
    have q8 := ca B2 8
    have z8 := za B2 8
    have f9 := B3.cellAt (i := 9) rfl
    have f9' := ca B3 9
    have q9 := ca B2 9
    have z9 := za B2 9
    have f10 := B3.cellAt (i := 10) rfl
    have f10' := ca B3 10
    have q10 := ca B2 10
    have z10 := za B2 10
    have HB2 := Lib.hid B2
    clear B2 B3
    go_wp2_with fail
    refine wp_loop_rounds 4 ?_
    rw [rounds_succ]
    go_wp2_with fail
    rw [rounds_succ]
    go_wp2_with fail
    rw [rounds_succ]
    go_wp2_with fail
    rw [rounds_succ]
    go_wp2_with fail
    have BF : Hid (Blk ((((((((((((w2.alloc (.cells #[.int .u64 (e.term % 1000 + 1), .int .u64 (e.index % 1000 + 1), .int .i64 r, .int .u64 (e.client % 5 + 1), .int .u64 (e.seq % 9), .int .u64 (e.block % 9), .int .u64 (e.many % 9), .int .i64 0, .int .i64 0, .string ⟨#[]⟩, .string ⟨#[]⟩] 24)).setCell ⟨bx + 1, 0, none⟩ (.int .u64 (e.term % 1000 + 1))).setCell ⟨bx + 1, 1, none⟩ (.int .u64 (e.index % 1000 + 1))).setCell ⟨bx + 1, 2, none⟩ (.int .i64 r)).setCell ⟨bx + 1, 3, none⟩ (.int .u64 (e.client % 5 + 1))).setCell ⟨bx + 1, 4, none⟩ (.int .u64 (e.seq % 9))).setCell ⟨bx + 1, 5, none⟩ (.int .u64 (e.block % 9))).setCell ⟨bx + 1, 6, none⟩ (.int .u64 (e.many % 9))).setCell ⟨bx + 1, 7, none⟩ (.int .i64 0)).setCell ⟨bx + 1, 8, none⟩ (.int .i64 0)).setCell ⟨bx + 1, 9, none⟩ (.string ⟨#[]⟩)).setCell ⟨bx + 1, 10, none⟩ (.string ⟨#[]⟩)) (bx + 1) #[.int .u64 (e.term % 1000 + 1), .int .u64 (e.index % 1000 + 1), .int .i64 r, .int .u64 (e.client % 5 + 1), .int .u64 (e.seq % 9), .int .u64 (e.block % 9), .int .u64 (e.many % 9), .int .i64 0, .int .i64 0, .string ⟨#[]⟩, .string ⟨#[]⟩] 24) := Blk.put11 (HB2.out.alloc (.cells #[.int .u64 (e.term % 1000 + 1), .int .u64 (e.index % 1000 + 1), .int .i64 r, .int .u64 (e.client % 5 + 1), .int .u64 (e.seq % 9), .int .u64 (e.block % 9), .int .u64 (e.many % 9), .int .i64 0, .int .i64 0, .string ⟨#[]⟩, .string ⟨#[]⟩] 24)) (.int .u64 (e.term % 1000 + 1)) (.int .u64 (e.index % 1000 + 1)) (.int .i64 r) (.int .u64 (e.client % 5 + 1)) (.int .u64 (e.seq % 9)) (.int .u64 (e.block % 9)) (.int .u64 (e.many % 9)) (.int .i64 0) (.int .i64 0) (.string ⟨#[]⟩) (.string ⟨#[]⟩)
    have FF : Hid (Fr [] w ((((((((((((w2.alloc (.cells #[.int .u64 (e.term % 1000 + 1), .int .u64 (e.index % 1000 + 1), .int .i64 r, .int .u64 (e.client % 5 + 1), .int .u64 (e.seq % 9), .int .u64 (e.block % 9), .int .u64 (e.many % 9), .int .i64 0, .int .i64 0, .string ⟨#[]⟩, .string ⟨#[]⟩] 24)).setCell ⟨bx + 1, 0, none⟩ (.int .u64 (e.term % 1000 + 1))).setCell ⟨bx + 1, 1, none⟩ (.int .u64 (e.index % 1000 + 1))).setCell ⟨bx + 1, 2, none⟩ (.int .i64 r)).setCell ⟨bx + 1, 3, none⟩ (.int .u64 (e.client % 5 + 1))).setCell ⟨bx + 1, 4, none⟩ (.int .u64 (e.seq % 9))).setCell ⟨bx + 1, 5, none⟩ (.int .u64 (e.block % 9))).setCell ⟨bx + 1, 6, none⟩ (.int .u64 (e.many % 9))).setCell ⟨bx + 1, 7, none⟩ (.int .i64 0)).setCell ⟨bx + 1, 8, none⟩ (.int .i64 0)).setCell ⟨bx + 1, 9, none⟩ (.string ⟨#[]⟩)).setCell ⟨bx + 1, 10, none⟩ (.string ⟨#[]⟩))) := ((((((((((((HF2.out.alloc _).setCell (.inr (by have := HX.out; show w.heap.size ≤ bx + 1; omega)) _).setCell (.inr (by have := HX.out; show w.heap.size ≤ bx + 1; omega)) _).setCell (.inr (by have := HX.out; show w.heap.size ≤ bx + 1; omega)) _).setCell (.inr (by have := HX.out; show w.heap.size ≤ bx + 1; omega)) _).setCell (.inr (by have := HX.out; show w.heap.size ≤ bx + 1; omega)) _).setCell (.inr (by have := HX.out; show w.heap.size ≤ bx + 1; omega)) _).setCell (.inr (by have := HX.out; show w.heap.size ≤ bx + 1; omega)) _).setCell (.inr (by have := HX.out; show w.heap.size ≤ bx + 1; omega)) _).setCell (.inr (by have := HX.out; show w.heap.size ≤ bx + 1; omega)) _).setCell (.inr (by have := HX.out; show w.heap.size ≤ bx + 1; omega)) _).setCell (.inr (by have := HX.out; show w.heap.size ≤ bx + 1; omega)) _)
    clear f0 f0' q0 z0 f1 f1' q1 z1 f2 f2' q2 z2 f3 f3' q3 z3 f4 f4' q4 z4 f5 f5' q5 z5 f6 f6' q6 z6 f7 f7' q7 z7 f8 f8' q8 z8 f9 f9' q9 z9 f10 f10' q10 z10
    generalize ((((((((((((w2.alloc (.cells #[.int .u64 (e.term % 1000 + 1), .int .u64 (e.index % 1000 + 1), .int .i64 r, .int .u64 (e.client % 5 + 1), .int .u64 (e.seq % 9), .int .u64 (e.block % 9), .int .u64 (e.many % 9), .int .i64 0, .int .i64 0, .string ⟨#[]⟩, .string ⟨#[]⟩] 24)).setCell ⟨bx + 1, 0, none⟩ (.int .u64 (e.term % 1000 + 1))).setCell ⟨bx + 1, 1, none⟩ (.int .u64 (e.index % 1000 + 1))).setCell ⟨bx + 1, 2, none⟩ (.int .i64 r)).setCell ⟨bx + 1, 3, none⟩ (.int .u64 (e.client % 5 + 1))).setCell ⟨bx + 1, 4, none⟩ (.int .u64 (e.seq % 9))).setCell ⟨bx + 1, 5, none⟩ (.int .u64 (e.block % 9))).setCell ⟨bx + 1, 6, none⟩ (.int .u64 (e.many % 9))).setCell ⟨bx + 1, 7, none⟩ (.int .i64 0)).setCell ⟨bx + 1, 8, none⟩ (.int .i64 0)).setCell ⟨bx + 1, 9, none⟩ (.string ⟨#[]⟩)).setCell ⟨bx + 1, 10, none⟩ (.string ⟨#[]⟩)) = W at *
    have BF' := BF.out
    have y0 : W.cell? ⟨bx + 1, 0, none⟩ = some (.int .u64 (e.term % 1000 + 1)) := BF'.cellAt (i := 0) rfl
    have y1 : W.cell? ⟨bx + 1, 1, none⟩ = some (.int .u64 (e.index % 1000 + 1)) := BF'.cellAt (i := 1) rfl
    have y2 : W.cell? ⟨bx + 1, 2, none⟩ = some (.int .i64 r) := BF'.cellAt (i := 2) rfl
    have y3 : W.cell? ⟨bx + 1, 3, none⟩ = some (.int .u64 (e.client % 5 + 1)) := BF'.cellAt (i := 3) rfl
    have y4 : W.cell? ⟨bx + 1, 4, none⟩ = some (.int .u64 (e.seq % 9)) := BF'.cellAt (i := 4) rfl
    have y5 : W.cell? ⟨bx + 1, 5, none⟩ = some (.int .u64 (e.block % 9)) := BF'.cellAt (i := 5) rfl
    have y6 : W.cell? ⟨bx + 1, 6, none⟩ = some (.int .u64 (e.many % 9)) := BF'.cellAt (i := 6) rfl
    have y7 : W.cell? ⟨bx + 1, 7, none⟩ = some (.int .i64 0) := BF'.cellAt (i := 7) rfl
    have y8 : W.cell? ⟨bx + 1, 8, none⟩ = some (.int .i64 0) := BF'.cellAt (i := 8) rfl
    have y9 : W.cell? ⟨bx + 1, 9, none⟩ = some (.string ⟨#[]⟩) := BF'.cellAt (i := 9) rfl
    have y10 : W.cell? ⟨bx + 1, 10, none⟩ = some (.string ⟨#[]⟩) := BF'.cellAt (i := 10) rfl
    refine bodyPost_ret (v := .agg #[.int .u64 (e.term % 1000 + 1), .int .u64 (e.index % 1000 + 1), .int .i64 r, .int .u64 (e.client % 5 + 1), .int .u64 (e.seq % 9), .int .u64 (e.block % 9), .int .u64 (e.many % 9), .int .i64 0, .int .i64 0, .string ⟨#[]⟩, .string ⟨#[]⟩]) ?_ rfl ⟨?_, FF.out⟩
    · simp [results, Tryz.results9, go_sem, y0, y1, y2, y3, y4, y5, y6, y7, y8, y9, y10]
    · exact HRes.out
end Go.Proofs.YtnnpjjehecbljaaGreatDoor

namespace Go.Proofs.YtnnpjjehecbljaaGreatDoor
open List renaming getElem?_toArray → lg0, getElem?_cons_succ → lg1, getElem?_cons_zero → lg2, setIfInBounds_toArray → lt0', set_cons_zero → lt1', set_cons_succ → lt2'
open Go.RowKit

set_option maxRecDepth 100000 in
set_option maxHeartbeats 8000000 in
theorem made_cm (e : Ent) (w : World) (he : e.Fits) (k : Int) (hk : e.kind % 12 = k) (hkind : entMay k = (⟨#[99, 109]⟩, true)) :
    Calls Tryz.prog 9 #[.agg #[.int .u64 e.term, .int .u64 e.index, .int .i64 e.kind, .int .u64 e.client, .int .u64 e.seq, .int .u64 e.block, .int .u64 e.many, .int .i64 e.node, .int .i64 e.level, .string e.data, .string e.old, .bool true]] w fun r w' => r = .returned (.agg (madeOf e).cells) ∧ Fr [] w w' := by
  obtain ⟨hT, hI, hC, hS, hB, hM, hD, hO⟩ := he
  unfold U64 maxLen at *
  obtain ⟨dn, hdn⟩ : ∃ dn, min e.data.size 64 = dn := ⟨_, rfl⟩
  obtain ⟨on, hon⟩ : ∃ on, min e.old.size 64 = on := ⟨_, rfl⟩
  have HRes : Hid ((Ending.returned (.agg #[.int .u64 (e.term % 1000 + 1), .int .u64 (e.index % 1000 + 1), .int .i64 k, .int .u64 (e.client % 5 + 1), .int .u64 (e.seq % 9), .int .u64 0, .int .u64 (e.many % 9), .int .i64 0, .int .i64 0, .string ⟨#[]⟩, .string ⟨#[]⟩]) : Ending) = .returned (.agg (madeOf e).cells)) := by
    unfold madeOf Ent.cells has' cutTo nodeW levelW
    simp only [hk, hkind, hdn, hon]
    rfl
  have md := mn64 e.data.size
  have mo := mn64 e.old.size
  rw [hdn] at md
  rw [hon] at mo
  have hdl : dn ≤ e.data.size := by omega
  have hol : on ≤ e.old.size := by omega
  have HF := Lib.hid (rFields k)
  rw [hkind] at HF
  clear hkind hdn hon
  generalize (madeOf e).cells = RES at *
  obtain ⟨r, hr⟩ : ∃ r, e.kind.tmod 12 = r := ⟨_, rfl⟩
  obtain ⟨hr3, hr4, hr5, hr6⟩ := rem12 e.kind r k hr hk
  by_cases hneg : r < 0
  · have hrk := hr3 hneg
    clear hr3 hr4 hk
    go_enter Tryz.func9, Tryz.ntmps9
    go_wp2_with fail
    refine (HF.out _).mono ?_
    rintro r' w2 ⟨rfl, g2⟩
    have A1 : Fr [] w (w.alloc (.cells #[.int .u64 e.term, .int .u64 e.index, .int .i64 e.kind, .int .u64 e.client, .int .u64 e.seq, .int .u64 e.block, .int .u64 e.many, .int .i64 e.node, .int .i64 e.level, .string e.data, .string e.old, .bool true] 26)) := (Fr.refl _ _).alloc _
    have B3 : Blk w2 (w.heap.size + 1 + 1) e.cells 24 := by
      have h := Blk.fr0 (Blk.new ((w.alloc (.cells #[.int .u64 e.term, .int .u64 e.index, .int .i64 e.kind, .int .u64 e.client, .int .u64 e.seq, .int .u64 e.block, .int .u64 e.many, .int .i64 e.node, .int .i64 e.level, .string e.data, .string e.old, .bool true] 26)).alloc (.cells #[.int .u64 0, .int .u64 0, .int .i64 0, .int .u64 0, .int .u64 0, .int .u64 0, .int .u64 0, .int .i64 0, .int .i64 0, .string ⟨#[]⟩, .string ⟨#[]⟩] 24)) e.cells 24) g2
      rw [show ((w.alloc (.cells #[.int .u64 e.term, .int .u64 e.index, .int .i64 e.kind, .int .u64 e.client, .int .u64 e.seq, .int .u64 e.block, .int .u64 e.many, .int .i64 e.node, .int .i64 e.level, .string e.data, .string e.old, .bool true] 26)).alloc (.cells #[.int .u64 0, .int .u64 0, .int .i64 0, .int .u64 0, .int .u64 0, .int .u64 0, .int .u64 0, .int .i64 0, .int .i64 0, .string ⟨#[]⟩, .string ⟨#[]⟩] 24)).heap.size = w.heap.size + 1 + 1 by simp] at h
      exact h
    have B2 : Blk w2 (w.heap.size + 1) #[.int .u64 0, .int .u64 0, .int .i64 0, .int .u64 0, .int .u64 0, .int .u64 0, .int .u64 0, .int .i64 0, .int .i64 0, .string ⟨#[]⟩, .string ⟨#[]⟩] 24 := by
      have h := Blk.fr0 (Blk.alloc (Blk.new (w.alloc (.cells #[.int .u64 e.term, .int .u64 e.index, .int .i64 e.kind, .int .u64 e.client, .int .u64 e.seq, .int .u64 e.block, .int .u64 e.many, .int .i64 e.node, .int .i64 e.level, .string e.data, .string e.old, .bool true] 26)) #[.int .u64 0, .int .u64 0, .int .i64 0, .int .u64 0, .int .u64 0, .int .u64 0, .int .u64 0, .int .i64 0, .int .i64 0, .string ⟨#[]⟩, .string ⟨#[]⟩] 24) (.cells e.cells 24)) g2
      rw [show (w.alloc (.cells #[.int .u64 e.term, .int .u64 e.index, .int .i64 e.kind, .int .u64 e.client, .int .u64 e.seq, .int .u64 e.block, .int .u64 e.many, .int .i64 e.node, .int .i64 e.level, .string e.data, .string e.old, .bool true] 26)).heap.size = w.heap.size + 1 by simp] at h
      exact h
    have HF2 : Hid (Fr [] w w2) := ((A1.alloc _).alloc _).trans0 g2
    have hlt := B3.lt
    unfold Ent.cells at B3
    clear A1 g2
    generalize hX : w.heap.size = bx at *
    have HX := Lib.hid hX
    clear hX
    have f0 := B3.cellAt (i := 0) rfl
    have f0' := ca B3 0
    have q0 := ca B2 0
    have z0 := za B2 0
    have f1 := B3.cellAt (i := 1) rfl
    have f1' := ca B3 1
    have q1 := ca B2 1
    have z1 := za B2 1
    have f2 := B3.cellAt (i := 2) rfl
    have f2' := ca B3 2
    have q2 := ca B2 2
    have z2 := za B2 2
    have f3 := B3.cellAt (i := 3) rfl
    have f3' := ca B3 3
    have q3 := ca B2 3
    have z3 := za B2 3
    have f4 := B3.cellAt (i := 4) rfl
    have f4' := ca B3 4
    have q4 := ca B2 4
    have z4 := za B2 4
    have f5 := B3.cellAt (i := 5) rfl
    have f5' := ca B3 5
    have q5 := ca B2 5
    have z5 := za B2 5
    have f6 := B3.cellAt (i := 6) rfl
    have f6' := ca B3 6
    have q6 := ca B2 6
    have z6 := za B2 6
    have f7 := B3.cellAt (i := 7) rfl
    have f7' := ca B3 7
    have q7 := ca B2 7
    have z7 := za B2 7
    have f8 := B3.cellAt (i := 8) rfl
    have f8' := ca B3 8
    have q8 := ca B2 8
    have z8 := za B2 8
    have f9 := B3.cellAt (i := 9) rfl
    have f9' := ca B3 9
    have q9 := ca B2 9
    have z9 := za B2 9
    have f10 := B3.cellAt (i := 10) rfl
    have f10' := ca B3 10
    have q10 := ca B2 10
    have z10 := za B2 10
    have HB2 := Lib.hid B2
    clear B2 B3
    go_wp2_with fail
    refine wp_loop_rounds 3 ?_
    rw [rounds_succ]
    go_wp2_with fail
    rw [rounds_succ]
    go_wp2_with fail
    rw [rounds_succ]
    go_wp2_with fail
    have BF : Hid (Blk ((((((((((((w2.alloc (.cells #[.int .u64 (e.term % 1000 + 1), .int .u64 (e.index % 1000 + 1), .int .i64 k, .int .u64 (e.client % 5 + 1), .int .u64 (e.seq % 9), .int .u64 0, .int .u64 (e.many % 9), .int .i64 0, .int .i64 0, .string ⟨#[]⟩, .string ⟨#[]⟩] 24)).setCell ⟨bx + 1, 0, none⟩ (.int .u64 (e.term % 1000 + 1))).setCell ⟨bx + 1, 1, none⟩ (.int .u64 (e.index % 1000 + 1))).setCell ⟨bx + 1, 2, none⟩ (.int .i64 k)).setCell ⟨bx + 1, 3, none⟩ (.int .u64 (e.client % 5 + 1))).setCell ⟨bx + 1, 4, none⟩ (.int .u64 (e.seq % 9))).setCell ⟨bx + 1, 5, none⟩ (.int .u64 0)).setCell ⟨bx + 1, 6, none⟩ (.int .u64 (e.many % 9))).setCell ⟨bx + 1, 7, none⟩ (.int .i64 0)).setCell ⟨bx + 1, 8, none⟩ (.int .i64 0)).setCell ⟨bx + 1, 9, none⟩ (.string ⟨#[]⟩)).setCell ⟨bx + 1, 10, none⟩ (.string ⟨#[]⟩)) (bx + 1) #[.int .u64 (e.term % 1000 + 1), .int .u64 (e.index % 1000 + 1), .int .i64 k, .int .u64 (e.client % 5 + 1), .int .u64 (e.seq % 9), .int .u64 0, .int .u64 (e.many % 9), .int .i64 0, .int .i64 0, .string ⟨#[]⟩, .string ⟨#[]⟩] 24) := Blk.put11 (HB2.out.alloc (.cells #[.int .u64 (e.term % 1000 + 1), .int .u64 (e.index % 1000 + 1), .int .i64 k, .int .u64 (e.client % 5 + 1), .int .u64 (e.seq % 9), .int .u64 0, .int .u64 (e.many % 9), .int .i64 0, .int .i64 0, .string ⟨#[]⟩, .string ⟨#[]⟩] 24)) (.int .u64 (e.term % 1000 + 1)) (.int .u64 (e.index % 1000 + 1)) (.int .i64 k) (.int .u64 (e.client % 5 + 1)) (.int .u64 (e.seq % 9)) (.int .u64 0) (.int .u64 (e.many % 9)) (.int .i64 0) (.int .i64 0) (.string ⟨#[]⟩) (.string ⟨#[]⟩)
    have FF : Hid (Fr [] w ((((((((((((w2.alloc (.cells #[.int .u64 (e.term % 1000 + 1), .int .u64 (e.index % 1000 + 1), .int .i64 k, .int .u64 (e.client % 5 + 1), .int .u64 (e.seq % 9), .int .u64 0, .int .u64 (e.many % 9), .int .i64 0, .int .i64 0, .string ⟨#[]⟩, .string ⟨#[]⟩] 24)).setCell ⟨bx + 1, 0, none⟩ (.int .u64 (e.term % 1000 + 1))).setCell ⟨bx + 1, 1, none⟩ (.int .u64 (e.index % 1000 + 1))).setCell ⟨bx + 1, 2, none⟩ (.int .i64 k)).setCell ⟨bx + 1, 3, none⟩ (.int .u64 (e.client % 5 + 1))).setCell ⟨bx + 1, 4, none⟩ (.int .u64 (e.seq % 9))).setCell ⟨bx + 1, 5, none⟩ (.int .u64 0)).setCell ⟨bx + 1, 6, none⟩ (.int .u64 (e.many % 9))).setCell ⟨bx + 1, 7, none⟩ (.int .i64 0)).setCell ⟨bx + 1, 8, none⟩ (.int .i64 0)).setCell ⟨bx + 1, 9, none⟩ (.string ⟨#[]⟩)).setCell ⟨bx + 1, 10, none⟩ (.string ⟨#[]⟩))) := ((((((((((((HF2.out.alloc _).setCell (.inr (by have := HX.out; show w.heap.size ≤ bx + 1; omega)) _).setCell (.inr (by have := HX.out; show w.heap.size ≤ bx + 1; omega)) _).setCell (.inr (by have := HX.out; show w.heap.size ≤ bx + 1; omega)) _).setCell (.inr (by have := HX.out; show w.heap.size ≤ bx + 1; omega)) _).setCell (.inr (by have := HX.out; show w.heap.size ≤ bx + 1; omega)) _).setCell (.inr (by have := HX.out; show w.heap.size ≤ bx + 1; omega)) _).setCell (.inr (by have := HX.out; show w.heap.size ≤ bx + 1; omega)) _).setCell (.inr (by have := HX.out; show w.heap.size ≤ bx + 1; omega)) _).setCell (.inr (by have := HX.out; show w.heap.size ≤ bx + 1; omega)) _).setCell (.inr (by have := HX.out; show w.heap.size ≤ bx + 1; omega)) _).setCell (.inr (by have := HX.out; show w.heap.size ≤ bx + 1; omega)) _)
    clear f0 f0' q0 z0 f1 f1' q1 z1 f2 f2' q2 z2 f3 f3' q3 z3 f4 f4' q4 z4 f5 f5' q5 z5 f6 f6' q6 z6 f7 f7' q7 z7 f8 f8' q8 z8 f9 f9' q9 z9 f10 f10' q10 z10
    generalize ((((((((((((w2.alloc (.cells #[.int .u64 (e.term % 1000 + 1), .int .u64 (e.index % 1000 + 1), .int .i64 k, .int .u64 (e.client % 5 + 1), .int .u64 (e.seq % 9), .int .u64 0, .int .u64 (e.many % 9), .int .i64 0, .int .i64 0, .string ⟨#[]⟩, .string ⟨#[]⟩] 24)).setCell ⟨bx + 1, 0, none⟩ (.int .u64 (e.term % 1000 + 1))).setCell ⟨bx + 1, 1, none⟩ (.int .u64 (e.index % 1000 + 1))).setCell ⟨bx + 1, 2, none⟩ (.int .i64 k)).setCell ⟨bx + 1, 3, none⟩ (.int .u64 (e.client % 5 + 1))).setCell ⟨bx + 1, 4, none⟩ (.int .u64 (e.seq % 9))).setCell ⟨bx + 1, 5, none⟩ (.int .u64 0)).setCell ⟨bx + 1, 6, none⟩ (.int .u64 (e.many % 9))).setCell ⟨bx + 1, 7, none⟩ (.int .i64 0)).setCell ⟨bx + 1, 8, none⟩ (.int .i64 0)).setCell ⟨bx + 1, 9, none⟩ (.string ⟨#[]⟩)).setCell ⟨bx + 1, 10, none⟩ (.string ⟨#[]⟩)) = W at *
    have BF' := BF.out
    have y0 : W.cell? ⟨bx + 1, 0, none⟩ = some (.int .u64 (e.term % 1000 + 1)) := BF'.cellAt (i := 0) rfl
    have y1 : W.cell? ⟨bx + 1, 1, none⟩ = some (.int .u64 (e.index % 1000 + 1)) := BF'.cellAt (i := 1) rfl
    have y2 : W.cell? ⟨bx + 1, 2, none⟩ = some (.int .i64 k) := BF'.cellAt (i := 2) rfl
    have y3 : W.cell? ⟨bx + 1, 3, none⟩ = some (.int .u64 (e.client % 5 + 1)) := BF'.cellAt (i := 3) rfl
    have y4 : W.cell? ⟨bx + 1, 4, none⟩ = some (.int .u64 (e.seq % 9)) := BF'.cellAt (i := 4) rfl
    have y5 : W.cell? ⟨bx + 1, 5, none⟩ = some (.int .u64 0) := BF'.cellAt (i := 5) rfl
    have y6 : W.cell? ⟨bx + 1, 6, none⟩ = some (.int .u64 (e.many % 9)) := BF'.cellAt (i := 6) rfl
    have y7 : W.cell? ⟨bx + 1, 7, none⟩ = some (.int .i64 0) := BF'.cellAt (i := 7) rfl
    have y8 : W.cell? ⟨bx + 1, 8, none⟩ = some (.int .i64 0) := BF'.cellAt (i := 8) rfl
    have y9 : W.cell? ⟨bx + 1, 9, none⟩ = some (.string ⟨#[]⟩) := BF'.cellAt (i := 9) rfl
    have y10 : W.cell? ⟨bx + 1, 10, none⟩ = some (.string ⟨#[]⟩) := BF'.cellAt (i := 10) rfl
    refine bodyPost_ret (v := .agg #[.int .u64 (e.term % 1000 + 1), .int .u64 (e.index % 1000 + 1), .int .i64 k, .int .u64 (e.client % 5 + 1), .int .u64 (e.seq % 9), .int .u64 0, .int .u64 (e.many % 9), .int .i64 0, .int .i64 0, .string ⟨#[]⟩, .string ⟨#[]⟩]) ?_ rfl ⟨?_, FF.out⟩
    · simp [results, Tryz.results9, go_sem, y0, y1, y2, y3, y4, y5, y6, y7, y8, y9, y10]
    · exact HRes.out
  · have hrk := hr4 (by omega)
    have hneg' : 0 ≤ r := by omega
    obtain rfl := hrk
    clear hr3 hr4 hneg hk
    go_enter Tryz.func9, Tryz.ntmps9
    go_wp2_with fail
    refine (HF.out _).mono ?_
    rintro r' w2 ⟨rfl, g2⟩
    have A1 : Fr [] w (w.alloc (.cells #[.int .u64 e.term, .int .u64 e.index, .int .i64 e.kind, .int .u64 e.client, .int .u64 e.seq, .int .u64 e.block, .int .u64 e.many, .int .i64 e.node, .int .i64 e.level, .string e.data, .string e.old, .bool true] 26)) := (Fr.refl _ _).alloc _
    have B3 : Blk w2 (w.heap.size + 1 + 1) e.cells 24 := by
      have h := Blk.fr0 (Blk.new ((w.alloc (.cells #[.int .u64 e.term, .int .u64 e.index, .int .i64 e.kind, .int .u64 e.client, .int .u64 e.seq, .int .u64 e.block, .int .u64 e.many, .int .i64 e.node, .int .i64 e.level, .string e.data, .string e.old, .bool true] 26)).alloc (.cells #[.int .u64 0, .int .u64 0, .int .i64 0, .int .u64 0, .int .u64 0, .int .u64 0, .int .u64 0, .int .i64 0, .int .i64 0, .string ⟨#[]⟩, .string ⟨#[]⟩] 24)) e.cells 24) g2
      rw [show ((w.alloc (.cells #[.int .u64 e.term, .int .u64 e.index, .int .i64 e.kind, .int .u64 e.client, .int .u64 e.seq, .int .u64 e.block, .int .u64 e.many, .int .i64 e.node, .int .i64 e.level, .string e.data, .string e.old, .bool true] 26)).alloc (.cells #[.int .u64 0, .int .u64 0, .int .i64 0, .int .u64 0, .int .u64 0, .int .u64 0, .int .u64 0, .int .i64 0, .int .i64 0, .string ⟨#[]⟩, .string ⟨#[]⟩] 24)).heap.size = w.heap.size + 1 + 1 by simp] at h
      exact h
    have B2 : Blk w2 (w.heap.size + 1) #[.int .u64 0, .int .u64 0, .int .i64 0, .int .u64 0, .int .u64 0, .int .u64 0, .int .u64 0, .int .i64 0, .int .i64 0, .string ⟨#[]⟩, .string ⟨#[]⟩] 24 := by
      have h := Blk.fr0 (Blk.alloc (Blk.new (w.alloc (.cells #[.int .u64 e.term, .int .u64 e.index, .int .i64 e.kind, .int .u64 e.client, .int .u64 e.seq, .int .u64 e.block, .int .u64 e.many, .int .i64 e.node, .int .i64 e.level, .string e.data, .string e.old, .bool true] 26)) #[.int .u64 0, .int .u64 0, .int .i64 0, .int .u64 0, .int .u64 0, .int .u64 0, .int .u64 0, .int .i64 0, .int .i64 0, .string ⟨#[]⟩, .string ⟨#[]⟩] 24) (.cells e.cells 24)) g2
      rw [show (w.alloc (.cells #[.int .u64 e.term, .int .u64 e.index, .int .i64 e.kind, .int .u64 e.client, .int .u64 e.seq, .int .u64 e.block, .int .u64 e.many, .int .i64 e.node, .int .i64 e.level, .string e.data, .string e.old, .bool true] 26)).heap.size = w.heap.size + 1 by simp] at h
      exact h
    have HF2 : Hid (Fr [] w w2) := ((A1.alloc _).alloc _).trans0 g2
    have hlt := B3.lt
    unfold Ent.cells at B3
    clear A1 g2
    generalize hX : w.heap.size = bx at *
    have HX := Lib.hid hX
    clear hX
    have f0 := B3.cellAt (i := 0) rfl
    have f0' := ca B3 0
    have q0 := ca B2 0
    have z0 := za B2 0
    have f1 := B3.cellAt (i := 1) rfl
    have f1' := ca B3 1
    have q1 := ca B2 1
    have z1 := za B2 1
    have f2 := B3.cellAt (i := 2) rfl
    have f2' := ca B3 2
    have q2 := ca B2 2
    have z2 := za B2 2
    have f3 := B3.cellAt (i := 3) rfl
    have f3' := ca B3 3
    have q3 := ca B2 3
    have z3 := za B2 3
    have f4 := B3.cellAt (i := 4) rfl
    have f4' := ca B3 4
    have q4 := ca B2 4
    have z4 := za B2 4
    have f5 := B3.cellAt (i := 5) rfl
    have f5' := ca B3 5
    have q5 := ca B2 5
    have z5 := za B2 5
    have f6 := B3.cellAt (i := 6) rfl
    have f6' := ca B3 6
    have q6 := ca B2 6
    have z6 := za B2 6
    have f7 := B3.cellAt (i := 7) rfl
    have f7' := ca B3 7
    have q7 := ca B2 7
    have z7 := za B2 7
    have f8 := B3.cellAt (i := 8) rfl
    have f8' := ca B3 8
    have q8 := ca B2 8
    have z8 := za B2 8
    have f9 := B3.cellAt (i := 9) rfl
    have f9' := ca B3 9
    have q9 := ca B2 9
    have z9 := za B2 9
    have f10 := B3.cellAt (i := 10) rfl
    have f10' := ca B3 10
    have q10 := ca B2 10
    have z10 := za B2 10
    have HB2 := Lib.hid B2
    clear B2 B3
    go_wp2_with fail
    refine wp_loop_rounds 3 ?_
    rw [rounds_succ]
    go_wp2_with fail
    rw [rounds_succ]
    go_wp2_with fail
    rw [rounds_succ]
    go_wp2_with fail
    have BF : Hid (Blk ((((((((((((w2.alloc (.cells #[.int .u64 (e.term % 1000 + 1), .int .u64 (e.index % 1000 + 1), .int .i64 r, .int .u64 (e.client % 5 + 1), .int .u64 (e.seq % 9), .int .u64 0, .int .u64 (e.many % 9), .int .i64 0, .int .i64 0, .string ⟨#[]⟩, .string ⟨#[]⟩] 24)).setCell ⟨bx + 1, 0, none⟩ (.int .u64 (e.term % 1000 + 1))).setCell ⟨bx + 1, 1, none⟩ (.int .u64 (e.index % 1000 + 1))).setCell ⟨bx + 1, 2, none⟩ (.int .i64 r)).setCell ⟨bx + 1, 3, none⟩ (.int .u64 (e.client % 5 + 1))).setCell ⟨bx + 1, 4, none⟩ (.int .u64 (e.seq % 9))).setCell ⟨bx + 1, 5, none⟩ (.int .u64 0)).setCell ⟨bx + 1, 6, none⟩ (.int .u64 (e.many % 9))).setCell ⟨bx + 1, 7, none⟩ (.int .i64 0)).setCell ⟨bx + 1, 8, none⟩ (.int .i64 0)).setCell ⟨bx + 1, 9, none⟩ (.string ⟨#[]⟩)).setCell ⟨bx + 1, 10, none⟩ (.string ⟨#[]⟩)) (bx + 1) #[.int .u64 (e.term % 1000 + 1), .int .u64 (e.index % 1000 + 1), .int .i64 r, .int .u64 (e.client % 5 + 1), .int .u64 (e.seq % 9), .int .u64 0, .int .u64 (e.many % 9), .int .i64 0, .int .i64 0, .string ⟨#[]⟩, .string ⟨#[]⟩] 24) := Blk.put11 (HB2.out.alloc (.cells #[.int .u64 (e.term % 1000 + 1), .int .u64 (e.index % 1000 + 1), .int .i64 r, .int .u64 (e.client % 5 + 1), .int .u64 (e.seq % 9), .int .u64 0, .int .u64 (e.many % 9), .int .i64 0, .int .i64 0, .string ⟨#[]⟩, .string ⟨#[]⟩] 24)) (.int .u64 (e.term % 1000 + 1)) (.int .u64 (e.index % 1000 + 1)) (.int .i64 r) (.int .u64 (e.client % 5 + 1)) (.int .u64 (e.seq % 9)) (.int .u64 0) (.int .u64 (e.many % 9)) (.int .i64 0) (.int .i64 0) (.string ⟨#[]⟩) (.string ⟨#[]⟩)
    have FF : Hid (Fr [] w ((((((((((((w2.alloc (.cells #[.int .u64 (e.term % 1000 + 1), .int .u64 (e.index % 1000 + 1), .int .i64 r, .int .u64 (e.client % 5 + 1), .int .u64 (e.seq % 9), .int .u64 0, .int .u64 (e.many % 9), .int .i64 0, .int .i64 0, .string ⟨#[]⟩, .string ⟨#[]⟩] 24)).setCell ⟨bx + 1, 0, none⟩ (.int .u64 (e.term % 1000 + 1))).setCell ⟨bx + 1, 1, none⟩ (.int .u64 (e.index % 1000 + 1))).setCell ⟨bx + 1, 2, none⟩ (.int .i64 r)).setCell ⟨bx + 1, 3, none⟩ (.int .u64 (e.client % 5 + 1))).setCell ⟨bx + 1, 4, none⟩ (.int .u64 (e.seq % 9))).setCell ⟨bx + 1, 5, none⟩ (.int .u64 0)).setCell ⟨bx + 1, 6, none⟩ (.int .u64 (e.many % 9))).setCell ⟨bx + 1, 7, none⟩ (.int .i64 0)).setCell ⟨bx + 1, 8, none⟩ (.int .i64 0)).setCell ⟨bx + 1, 9, none⟩ (.string ⟨#[]⟩)).setCell ⟨bx + 1, 10, none⟩ (.string ⟨#[]⟩))) := ((((((((((((HF2.out.alloc _).setCell (.inr (by have := HX.out; show w.heap.size ≤ bx + 1; omega)) _).setCell (.inr (by have := HX.out; show w.heap.size ≤ bx + 1; omega)) _).setCell (.inr (by have := HX.out; show w.heap.size ≤ bx + 1; omega)) _).setCell (.inr (by have := HX.out; show w.heap.size ≤ bx + 1; omega)) _).setCell (.inr (by have := HX.out; show w.heap.size ≤ bx + 1; omega)) _).setCell (.inr (by have := HX.out; show w.heap.size ≤ bx + 1; omega)) _).setCell (.inr (by have := HX.out; show w.heap.size ≤ bx + 1; omega)) _).setCell (.inr (by have := HX.out; show w.heap.size ≤ bx + 1; omega)) _).setCell (.inr (by have := HX.out; show w.heap.size ≤ bx + 1; omega)) _).setCell (.inr (by have := HX.out; show w.heap.size ≤ bx + 1; omega)) _).setCell (.inr (by have := HX.out; show w.heap.size ≤ bx + 1; omega)) _)
    clear f0 f0' q0 z0 f1 f1' q1 z1 f2 f2' q2 z2 f3 f3' q3 z3 f4 f4' q4 z4 f5 f5' q5 z5 f6 f6' q6 z6 f7 f7' q7 z7 f8 f8' q8 z8 f9 f9' q9 z9 f10 f10' q10 z10
    generalize ((((((((((((w2.alloc (.cells #[.int .u64 (e.term % 1000 + 1), .int .u64 (e.index % 1000 + 1), .int .i64 r, .int .u64 (e.client % 5 + 1), .int .u64 (e.seq % 9), .int .u64 0, .int .u64 (e.many % 9), .int .i64 0, .int .i64 0, .string ⟨#[]⟩, .string ⟨#[]⟩] 24)).setCell ⟨bx + 1, 0, none⟩ (.int .u64 (e.term % 1000 + 1))).setCell ⟨bx + 1, 1, none⟩ (.int .u64 (e.index % 1000 + 1))).setCell ⟨bx + 1, 2, none⟩ (.int .i64 r)).setCell ⟨bx + 1, 3, none⟩ (.int .u64 (e.client % 5 + 1))).setCell ⟨bx + 1, 4, none⟩ (.int .u64 (e.seq % 9))).setCell ⟨bx + 1, 5, none⟩ (.int .u64 0)).setCell ⟨bx + 1, 6, none⟩ (.int .u64 (e.many % 9))).setCell ⟨bx + 1, 7, none⟩ (.int .i64 0)).setCell ⟨bx + 1, 8, none⟩ (.int .i64 0)).setCell ⟨bx + 1, 9, none⟩ (.string ⟨#[]⟩)).setCell ⟨bx + 1, 10, none⟩ (.string ⟨#[]⟩)) = W at *
    have BF' := BF.out
    have y0 : W.cell? ⟨bx + 1, 0, none⟩ = some (.int .u64 (e.term % 1000 + 1)) := BF'.cellAt (i := 0) rfl
    have y1 : W.cell? ⟨bx + 1, 1, none⟩ = some (.int .u64 (e.index % 1000 + 1)) := BF'.cellAt (i := 1) rfl
    have y2 : W.cell? ⟨bx + 1, 2, none⟩ = some (.int .i64 r) := BF'.cellAt (i := 2) rfl
    have y3 : W.cell? ⟨bx + 1, 3, none⟩ = some (.int .u64 (e.client % 5 + 1)) := BF'.cellAt (i := 3) rfl
    have y4 : W.cell? ⟨bx + 1, 4, none⟩ = some (.int .u64 (e.seq % 9)) := BF'.cellAt (i := 4) rfl
    have y5 : W.cell? ⟨bx + 1, 5, none⟩ = some (.int .u64 0) := BF'.cellAt (i := 5) rfl
    have y6 : W.cell? ⟨bx + 1, 6, none⟩ = some (.int .u64 (e.many % 9)) := BF'.cellAt (i := 6) rfl
    have y7 : W.cell? ⟨bx + 1, 7, none⟩ = some (.int .i64 0) := BF'.cellAt (i := 7) rfl
    have y8 : W.cell? ⟨bx + 1, 8, none⟩ = some (.int .i64 0) := BF'.cellAt (i := 8) rfl
    have y9 : W.cell? ⟨bx + 1, 9, none⟩ = some (.string ⟨#[]⟩) := BF'.cellAt (i := 9) rfl
    have y10 : W.cell? ⟨bx + 1, 10, none⟩ = some (.string ⟨#[]⟩) := BF'.cellAt (i := 10) rfl
    refine bodyPost_ret (v := .agg #[.int .u64 (e.term % 1000 + 1), .int .u64 (e.index % 1000 + 1), .int .i64 r, .int .u64 (e.client % 5 + 1), .int .u64 (e.seq % 9), .int .u64 0, .int .u64 (e.many % 9), .int .i64 0, .int .i64 0, .string ⟨#[]⟩, .string ⟨#[]⟩]) ?_ rfl ⟨?_, FF.out⟩
    · simp [results, Tryz.results9, go_sem, y0, y1, y2, y3, y4, y5, y6, y7, y8, y9, y10]
    · exact HRes.out
end Go.Proofs.YtnnpjjehecbljaaGreatDoor
