/-
  Texts of this seat, joined: RRt5 RRt6 RRt7.
-/
import Derived.Test.YthfaaoeecajkeaaDoorW18
set_option linter.unusedSimpArgs false
set_option linter.unusedVariables false
namespace Go.Proofs.YthfaaoeecajkeaaDoor
open Go.RowKit

set_option maxRecDepth 100000 in
set_option maxHeartbeats 8000000 in
theorem rRight_c (e : Ent) (may : ByteArray) (w : World) (he : e.Fits) (hkind : entMay e.kind = (may, true)) (hs : may.size ≤ maxLen) (hc : hasI may 99 = true) (hb : hasI may 98 = false) (hm : hasI may 109 = false) (hd : hasI may 100 = false) (ho : hasI may 111 = false) (hn : hasI may 110 = false) (hl : hasI may 108 = false) :
    Calls Tryd.prog 32 #[.agg e.cells] w fun r w' => r = .returned (.bool (okR true false false false false false false e)) ∧ Fr [] w w' := by
  obtain ⟨hT, hI, hC, hS, hB, hM, hD, hO⟩ := he
  unfold U64 maxLen at *
  have HF := Lib.hid (rFields e.kind)
  rw [hkind] at HF
  clear hkind
  have HH := Lib.hid (fun c w => rHas may c w hs)
  unfold Ent.cells
  go_enter Tryd.func32, Tryd.ntmps32
  go_wp2_with fail
  refine (HF.out _).mono ?_
  rintro r w2 ⟨rfl, g2⟩
  have SB := Lib.hid ((Blk.new w #[.int .u64 e.term, .int .u64 e.index, .int .i64 e.kind, .int .u64 e.client, .int .u64 e.seq, .int .u64 e.block, .int .u64 e.many, .int .i64 e.node, .int .i64 e.level, .string e.data, .string e.old] 24).fr0 g2)
  have HF0 : Hid (Fr [] w w2) := ((Fr.refl _ _).alloc _).trans0 g2
  generalize w.heap.size = bx at *
  clear g2 HF
  have f0 := SB.out.cellAt (i := 0) rfl
  have f1 := SB.out.cellAt (i := 1) rfl
  have f3 := SB.out.cellAt (i := 3) rfl
  have f4 := SB.out.cellAt (i := 4) rfl
  have f5 := SB.out.cellAt (i := 5) rfl
  have f6 := SB.out.cellAt (i := 6) rfl
  have f7 := SB.out.cellAt (i := 7) rfl
  have f8 := SB.out.cellAt (i := 8) rfl
  have f9 := SB.out.cellAt (i := 9) rfl
  have f10 := SB.out.cellAt (i := 10) rfl
  go_wp2_with fail
  all_goals first
    | (go_ret; refine ⟨?_, HF0.out⟩; refine ret_bool ?_; clear SB HF0 HH; symm; unfold okR; simp; omega)
    | skip
  by_cases hcl : 0 < e.client
  all_goals
    have hx1 : (true != decide (0 < e.client)) = !decide (0 < e.client) := by simp
    have hx2 : (false != decide (0 < e.client)) = decide (0 < e.client) := by simp
  · have hy1 : decide (0 < e.client) = true := by simp [hcl]
    rw [hy1] at hx1 hx2
    have HCL := Lib.hid hcl
    clear hcl
    go_quiet ((go_at_call 60; exact Calls.quiet_of_same ((HH.out _ _).mono fun _ _ h => ⟨h.1, h.2.symm⟩)))
    go_wp2_with (go_at_call 60; refine (HH.out _ _).mono ?_; rintro r w' ⟨rfl, rfl⟩)
    all_goals go_ret
    all_goals refine ⟨?_, by first | exact HF0.out | exact HF0.out.drew | exact HF0.out.drewN _⟩
    all_goals refine ret_bool ?_
    all_goals have hcl := HCL.out
    all_goals clear SB HF0 HH HCL hx1 hx2
    all_goals symm
    all_goals unfold okR
    all_goals clear f0 f1 f3 f4 f5 f6 f7 f8 f9 f10 hs hc hb hm hd ho hn hl
    all_goals first | (simp [*]; done) | (simp; omega) | (simp [*]; omega) | grind | (rw [Bool.eq_iff_iff]; simp [List.isEmpty_iff] at *; grind) | skip
  · have hy1 : decide (0 < e.client) = false := by simpa using hcl
    rw [hy1] at hx1 hx2
    have HCL := Lib.hid hcl
    clear hcl
    go_quiet ((go_at_call 60; exact Calls.quiet_of_same ((HH.out _ _).mono fun _ _ h => ⟨h.1, h.2.symm⟩)))
    go_wp2_with (go_at_call 60; refine (HH.out _ _).mono ?_; rintro r w' ⟨rfl, rfl⟩)
    all_goals go_ret
    all_goals refine ⟨?_, by first | exact HF0.out | exact HF0.out.drew | exact HF0.out.drewN _⟩
    all_goals refine ret_bool ?_
    all_goals have hcl := HCL.out
    all_goals clear SB HF0 HH HCL hx1 hx2
    all_goals symm
    all_goals unfold okR
    all_goals clear f0 f1 f3 f4 f5 f6 f7 f8 f9 f10 hs hc hb hm hd ho hn hl
    all_goals first | (simp [*]; done) | (simp; omega) | (simp [*]; omega) | grind | (rw [Bool.eq_iff_iff]; simp [List.isEmpty_iff] at *; grind) | skip
end Go.Proofs.YthfaaoeecajkeaaDoor

namespace Go.Proofs.YthfaaoeecajkeaaDoor
open Go.RowKit

set_option maxRecDepth 100000 in
set_option maxHeartbeats 8000000 in
theorem rRight_n (e : Ent) (may : ByteArray) (w : World) (he : e.Fits) (hkind : entMay e.kind = (may, true)) (hs : may.size ≤ maxLen) (hc : hasI may 99 = false) (hb : hasI may 98 = false) (hm : hasI may 109 = false) (hd : hasI may 100 = false) (ho : hasI may 111 = false) (hn : hasI may 110 = true) (hl : hasI may 108 = false) :
    Calls Tryd.prog 32 #[.agg e.cells] w fun r w' => r = .returned (.bool (okR false false false false false true false e)) ∧ Fr [] w w' := by
  obtain ⟨hT, hI, hC, hS, hB, hM, hD, hO⟩ := he
  unfold U64 maxLen at *
  have HF := Lib.hid (rFields e.kind)
  rw [hkind] at HF
  clear hkind
  have HH := Lib.hid (fun c w => rHas may c w hs)
  unfold Ent.cells
  go_enter Tryd.func32, Tryd.ntmps32
  go_wp2_with fail
  refine (HF.out _).mono ?_
  rintro r w2 ⟨rfl, g2⟩
  have SB := Lib.hid ((Blk.new w #[.int .u64 e.term, .int .u64 e.index, .int .i64 e.kind, .int .u64 e.client, .int .u64 e.seq, .int .u64 e.block, .int .u64 e.many, .int .i64 e.node, .int .i64 e.level, .string e.data, .string e.old] 24).fr0 g2)
  have HF0 : Hid (Fr [] w w2) := ((Fr.refl _ _).alloc _).trans0 g2
  generalize w.heap.size = bx at *
  clear g2 HF
  have f0 := SB.out.cellAt (i := 0) rfl
  have f1 := SB.out.cellAt (i := 1) rfl
  have f3 := SB.out.cellAt (i := 3) rfl
  have f4 := SB.out.cellAt (i := 4) rfl
  have f5 := SB.out.cellAt (i := 5) rfl
  have f6 := SB.out.cellAt (i := 6) rfl
  have f7 := SB.out.cellAt (i := 7) rfl
  have f8 := SB.out.cellAt (i := 8) rfl
  have f9 := SB.out.cellAt (i := 9) rfl
  have f10 := SB.out.cellAt (i := 10) rfl
  go_wp2_with fail
  all_goals first
    | (go_ret; refine ⟨?_, HF0.out⟩; refine ret_bool ?_; clear SB HF0 HH; symm; unfold okR; simp; omega)
    | skip
  by_cases hcl : 0 < e.client
  all_goals
    have hx1 : (true != decide (0 < e.client)) = !decide (0 < e.client) := by simp
    have hx2 : (false != decide (0 < e.client)) = decide (0 < e.client) := by simp
  · have hy1 : decide (0 < e.client) = true := by simp [hcl]
    rw [hy1] at hx1 hx2
    have HCL := Lib.hid hcl
    clear hcl
    go_quiet ((go_at_call 60; exact Calls.quiet_of_same ((HH.out _ _).mono fun _ _ h => ⟨h.1, h.2.symm⟩)))
    go_wp2_with (go_at_call 60; refine (HH.out _ _).mono ?_; rintro r w' ⟨rfl, rfl⟩)
    all_goals go_ret
    all_goals refine ⟨?_, by first | exact HF0.out | exact HF0.out.drew | exact HF0.out.drewN _⟩
    all_goals refine ret_bool ?_
    all_goals have hcl := HCL.out
    all_goals clear SB HF0 HH HCL hx1 hx2
    all_goals symm
    all_goals unfold okR
    all_goals clear f0 f1 f3 f4 f5 f6 f7 f8 f9 f10 hs hc hb hm hd ho hn hl
    all_goals first | (simp [*]; done) | (simp; omega) | (simp [*]; omega) | grind | (rw [Bool.eq_iff_iff]; simp [List.isEmpty_iff] at *; grind) | skip
  · have hy1 : decide (0 < e.client) = false := by simpa using hcl
    rw [hy1] at hx1 hx2
    have HCL := Lib.hid hcl
    clear hcl
    go_quiet ((go_at_call 60; exact Calls.quiet_of_same ((HH.out _ _).mono fun _ _ h => ⟨h.1, h.2.symm⟩)))
    go_wp2_with (go_at_call 60; refine (HH.out _ _).mono ?_; rintro r w' ⟨rfl, rfl⟩)
    all_goals go_ret
    all_goals refine ⟨?_, by first | exact HF0.out | exact HF0.out.drew | exact HF0.out.drewN _⟩
    all_goals refine ret_bool ?_
    all_goals have hcl := HCL.out
    all_goals clear SB HF0 HH HCL hx1 hx2
    all_goals symm
    all_goals unfold okR
    all_goals clear f0 f1 f3 f4 f5 f6 f7 f8 f9 f10 hs hc hb hm hd ho hn hl
    all_goals first | (simp [*]; done) | (simp; omega) | (simp [*]; omega) | grind | (rw [Bool.eq_iff_iff]; simp [List.isEmpty_iff] at *; grind) | skip
end Go.Proofs.YthfaaoeecajkeaaDoor

namespace Go.Proofs.YthfaaoeecajkeaaDoor
open Go.RowKit

set_option maxRecDepth 100000 in
set_option maxHeartbeats 8000000 in
theorem rRight_nl (e : Ent) (may : ByteArray) (w : World) (he : e.Fits) (hkind : entMay e.kind = (may, true)) (hs : may.size ≤ maxLen) (hc : hasI may 99 = false) (hb : hasI may 98 = false) (hm : hasI may 109 = false) (hd : hasI may 100 = false) (ho : hasI may 111 = false) (hn : hasI may 110 = true) (hl : hasI may 108 = true) :
    Calls Tryd.prog 32 #[.agg e.cells] w fun r w' => r = .returned (.bool (okR false false false false false true true e)) ∧ Fr [] w w' := by
  obtain ⟨hT, hI, hC, hS, hB, hM, hD, hO⟩ := he
  unfold U64 maxLen at *
  have HF := Lib.hid (rFields e.kind)
  rw [hkind] at HF
  clear hkind
  have HH := Lib.hid (fun c w => rHas may c w hs)
  unfold Ent.cells
  go_enter Tryd.func32, Tryd.ntmps32
  go_wp2_with fail
  refine (HF.out _).mono ?_
  rintro r w2 ⟨rfl, g2⟩
  have SB := Lib.hid ((Blk.new w #[.int .u64 e.term, .int .u64 e.index, .int .i64 e.kind, .int .u64 e.client, .int .u64 e.seq, .int .u64 e.block, .int .u64 e.many, .int .i64 e.node, .int .i64 e.level, .string e.data, .string e.old] 24).fr0 g2)
  have HF0 : Hid (Fr [] w w2) := ((Fr.refl _ _).alloc _).trans0 g2
  generalize w.heap.size = bx at *
  clear g2 HF
  have f0 := SB.out.cellAt (i := 0) rfl
  have f1 := SB.out.cellAt (i := 1) rfl
  have f3 := SB.out.cellAt (i := 3) rfl
  have f4 := SB.out.cellAt (i := 4) rfl
  have f5 := SB.out.cellAt (i := 5) rfl
  have f6 := SB.out.cellAt (i := 6) rfl
  have f7 := SB.out.cellAt (i := 7) rfl
  have f8 := SB.out.cellAt (i := 8) rfl
  have f9 := SB.out.cellAt (i := 9) rfl
  have f10 := SB.out.cellAt (i := 10) rfl
  go_wp2_with fail
  all_goals first
    | (go_ret; refine ⟨?_, HF0.out⟩; refine ret_bool ?_; clear SB HF0 HH; symm; unfold okR; simp; omega)
    | skip
  by_cases hcl : 0 < e.client
  all_goals
    have hx1 : (true != decide (0 < e.client)) = !decide (0 < e.client) := by simp
    have hx2 : (false != decide (0 < e.client)) = decide (0 < e.client) := by simp
  · have hy1 : decide (0 < e.client) = true := by simp [hcl]
    rw [hy1] at hx1 hx2
    have HCL := Lib.hid hcl
    clear hcl
    go_quiet ((go_at_call 60; exact Calls.quiet_of_same ((HH.out _ _).mono fun _ _ h => ⟨h.1, h.2.symm⟩)))
    go_wp2_with (go_at_call 60; refine (HH.out _ _).mono ?_; rintro r w' ⟨rfl, rfl⟩)
    all_goals go_ret
    all_goals refine ⟨?_, by first | exact HF0.out | exact HF0.out.drew | exact HF0.out.drewN _⟩
    all_goals refine ret_bool ?_
    all_goals have hcl := HCL.out
    all_goals clear SB HF0 HH HCL hx1 hx2
    all_goals symm
    all_goals unfold okR
    all_goals clear f0 f1 f3 f4 f5 f6 f7 f8 f9 f10 hs hc hb hm hd ho hn hl
    all_goals first | (simp [*]; done) | (simp; omega) | (simp [*]; omega) | grind | (rw [Bool.eq_iff_iff]; simp [List.isEmpty_iff] at *; grind) | skip
  · have hy1 : decide (0 < e.client) = false := by simpa using hcl
    rw [hy1] at hx1 hx2
    have HCL := Lib.hid hcl
    clear hcl
    go_quiet ((go_at_call 60; exact Calls.quiet_of_same ((HH.out _ _).mono fun _ _ h => ⟨h.1, h.2.symm⟩)))
    go_wp2_with (go_at_call 60; refine (HH.out _ _).mono ?_; rintro r w' ⟨rfl, rfl⟩)
    all_goals go_ret
    all_goals refine ⟨?_, by first | exact HF0.out | exact HF0.out.drew | exact HF0.out.drewN _⟩
    all_goals refine ret_bool ?_
    all_goals have hcl := HCL.out
    all_goals clear SB HF0 HH HCL hx1 hx2
    all_goals symm
    all_goals unfold okR
    all_goals clear f0 f1 f3 f4 f5 f6 f7 f8 f9 f10 hs hc hb hm hd ho hn hl
    all_goals first | (simp [*]; done) | (simp; omega) | (simp [*]; omega) | grind | (rw [Bool.eq_iff_iff]; simp [List.isEmpty_iff] at *; grind) | skip
end Go.Proofs.YthfaaoeecajkeaaDoor
