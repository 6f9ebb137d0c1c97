/-
  Texts of this seat, joined: GFe.
-/
import Derived.Test.YthfaaoeecajkeaaDoorRows
import Derived.Test.YthfaaoeecajkeaaDoorW29
import Derived.Test.YthfaaoeecajkeaaDoorW30
import Derived.Test.YthfaaoeecajkeaaDoorW26
import Derived.Test.YthfaaoeecajkeaaDoorW34
import Derived.Laws.StructEq
import Derived.Deep.QuietTactic
import Derived.Deep.Cut
import Derived.Deep.CutRange
set_option linter.unusedSimpArgs false
set_option linter.unusedVariables false
namespace Go.Proofs.YthfaaoeecajkeaaDoor
open Go.RowKit

theorem eqlEnt (e : Ent) (w : World) : (binOp .eql 24 (.agg e.cells) (.agg e.cells)).run Tryd.prog w = .ok (.bool true) w := by
  have u1 := Tryd.underlying22
  have a1 := Tryd.isAgg22
  have z1 := Tryd.sizeOf22
  have u2 := Tryd.underlying3
  have a2 := Tryd.isAgg3
  have z2 := Tryd.sizeOf3
  have u3 := Tryd.underlying9
  have a3 := Tryd.isAgg9
  have z3 := Tryd.sizeOf9
  have hS : Tryd.prog.underlying 24 = some (.struct (Tryd.prog.fieldsOf 24)) := by kernel_rfl
  have hp : Tryd.prog.stoodInHeld 24 = false := by kernel_rfl
  unfold Ent.cells
  rw [run_eql_struct, show (10000 : Nat) = 9999 + 1 from rfl, run_equalIn_agg w 9999 24 _ _ hS hp]
  simp only [Program.fieldsOf, Tryd.underlying24]
  go_simp
  try simp
theorem guardEnt : Tryd.prog.eqGuardType Tryd.prog.depth 24 = false := by kernel_rfl
/-- Made.made, of whatever kind: an entry that fits. -/
theorem made_any (e : Ent) (q : Bool) (he : e.Fits) : ∃ E : Ent, E.Fits ∧ ∀ w, Calls Tryd.prog 9 #[.agg #[.int .u64 e.term, .int .u64 e.index, .int .i64 e.kind, .int .u64 e.client, .int .u64 e.seq, .int .u64 e.block, .int .u64 e.many, .int .i64 e.node, .int .i64 e.level, .string e.data, .string e.old, .bool q]] w fun r w' => r = .returned (.agg E.cells) ∧ Fr [] w w' := by
  cases q with
  | true => exact ⟨madeOf e, madeOf_fits e he, fun w => made_own e w he⟩
  | false => exact ⟨e, he, fun w => made_as e w⟩
end Go.Proofs.YthfaaoeecajkeaaDoor
namespace Go.Proofs.YthfaaoeecajkeaaDoor.firstEntries
open Go.RowKit Go.Proofs.YthfaaoeecajkeaaDoor

set_option maxRecDepth 100000 in
set_option maxHeartbeats 8000000 in
theorem walk (e : Ent) (q own : Bool) (s : ByteArray) (at_ by_ : Int) (more : ByteArray) (w : World) (he : e.Fits) (hs : s.size ≤ 140737488351232) (ha0 : -9223372036854775808 ≤ at_) (ha1 : at_ ≤ 9223372036854775807) (hm : more.size ≤ 140737488351232) :
    Calls Tryd.prog 3 #[.agg #[.int .u64 e.term, .int .u64 e.index, .int .i64 e.kind, .int .u64 e.client, .int .u64 e.seq, .int .u64 e.block, .int .u64 e.many, .int .i64 e.node, .int .i64 e.level, .string e.data, .string e.old, .bool q], .string s, .bool own, .int .i64 at_, .int .u8 by_, .string more] w fun e w' => e = .returned (.bool true) ∧ Fr [] w w' := by
  obtain ⟨E, hE, hMd⟩ := made_any e q he
  have HMd := Lib.hid hMd
  have HPp := Lib.hid (fun w => pPut E w hE)
  have HPr := Lib.hid (fun w => rPut5 E w hE)
  have hsz : (bs (put5R E)).size ≤ 110 := by
    rw [bs_size]
    unfold put5R
    split
    · rename_i h
      simp only [Bool.and_eq_true] at h
      rw [put5_length E (by have := ok_data E h.1; omega)]
      exact Nat.le_refl _
    · exact Nat.zero_le _
  obtain ⟨A, hA⟩ : ∃ A, bs (put5R E) = A := ⟨_, rfl⟩
  obtain ⟨kb, hkb⟩ : ∃ b, (E.ok && decide (E.lvl ≤ 1)) = b := ⟨_, rfl⟩
  rw [hA, hkb] at HPp HPr
  rw [hA] at hsz
  have HBd := Lib.hid (fun w => fBend A at_ by_ w (by unfold maxLen; omega) ha0 ha1)
  have HB0 := Lib.hid (Blk.new w #[.int .u64 e.term, .int .u64 e.index, .int .i64 e.kind, .int .u64 e.client, .int .u64 e.seq, .int .u64 e.block, .int .u64 e.many, .int .i64 e.node, .int .i64 e.level, .string e.data, .string e.old, .bool q] 26)
  have HF0 : Hid (Fr [] w (w.alloc (.cells #[.int .u64 e.term, .int .u64 e.index, .int .i64 e.kind, .int .u64 e.client, .int .u64 e.seq, .int .u64 e.block, .int .u64 e.many, .int .i64 e.node, .int .i64 e.level, .string e.data, .string e.old, .bool q] 26))) := (Fr.refl _ _).alloc _
  clear he hMd hE hA hkb
  unfold Ent.cells at HMd HPp HPr
  go_enter Tryd.func3, Tryd.ntmps3
  go_wp2_with fail
  refine (gExamples _).mono ?_
  rintro x w1 ⟨rfl, f1⟩
  have HB1 := Lib.hid (HB0.out.fr0 f1)
  have HF1 := Lib.hid (HF0.out.trans0 f1)
  generalize hbx : w.heap.size = bx at *
  clear f1 HB0 HF0 hbx
  have c0 : w1.cell? ⟨bx, 0, none⟩ = some (.int .u64 e.term) := HB1.out.cellAt (i := 0) rfl
  have c1 : w1.cell? ⟨bx, 1, none⟩ = some (.int .u64 e.index) := HB1.out.cellAt (i := 1) rfl
  have c2 : w1.cell? ⟨bx, 2, none⟩ = some (.int .i64 e.kind) := HB1.out.cellAt (i := 2) rfl
  have c3 : w1.cell? ⟨bx, 3, none⟩ = some (.int .u64 e.client) := HB1.out.cellAt (i := 3) rfl
  have c4 : w1.cell? ⟨bx, 4, none⟩ = some (.int .u64 e.seq) := HB1.out.cellAt (i := 4) rfl
  have c5 : w1.cell? ⟨bx, 5, none⟩ = some (.int .u64 e.block) := HB1.out.cellAt (i := 5) rfl
  have c6 : w1.cell? ⟨bx, 6, none⟩ = some (.int .u64 e.many) := HB1.out.cellAt (i := 6) rfl
  have c7 : w1.cell? ⟨bx, 7, none⟩ = some (.int .i64 e.node) := HB1.out.cellAt (i := 7) rfl
  have c8 : w1.cell? ⟨bx, 8, none⟩ = some (.int .i64 e.level) := HB1.out.cellAt (i := 8) rfl
  have c9 : w1.cell? ⟨bx, 9, none⟩ = some (.string e.data) := HB1.out.cellAt (i := 9) rfl
  have c10 : w1.cell? ⟨bx, 10, none⟩ = some (.string e.old) := HB1.out.cellAt (i := 10) rfl
  have c11 : w1.cell? ⟨bx, 11, none⟩ = some (.bool q) := HB1.out.cellAt (i := 11) rfl
  go_wp2_with fail
  refine (HMd.out _).mono ?_
  rintro x w2 ⟨rfl, f2⟩
  go_wp2_with fail
  refine (HPp.out _).mono ?_
  rintro x w3 ⟨rfl, f3⟩
  have HB3 := Lib.hid ((HB1.out.fr0 f2).fr0 f3)
  have HF3 := Lib.hid ((HF1.out.trans0 f2).trans0 f3)
  clear f2 f3 HB1 HF1
  clear c0 c1 c2 c3 c4 c5 c6 c7 c8 c9 c10 c11
  have c0 : w3.cell? ⟨bx, 0, none⟩ = some (.int .u64 e.term) := HB3.out.cellAt (i := 0) rfl
  have c1 : w3.cell? ⟨bx, 1, none⟩ = some (.int .u64 e.index) := HB3.out.cellAt (i := 1) rfl
  have c2 : w3.cell? ⟨bx, 2, none⟩ = some (.int .i64 e.kind) := HB3.out.cellAt (i := 2) rfl
  have c3 : w3.cell? ⟨bx, 3, none⟩ = some (.int .u64 e.client) := HB3.out.cellAt (i := 3) rfl
  have c4 : w3.cell? ⟨bx, 4, none⟩ = some (.int .u64 e.seq) := HB3.out.cellAt (i := 4) rfl
  have c5 : w3.cell? ⟨bx, 5, none⟩ = some (.int .u64 e.block) := HB3.out.cellAt (i := 5) rfl
  have c6 : w3.cell? ⟨bx, 6, none⟩ = some (.int .u64 e.many) := HB3.out.cellAt (i := 6) rfl
  have c7 : w3.cell? ⟨bx, 7, none⟩ = some (.int .i64 e.node) := HB3.out.cellAt (i := 7) rfl
  have c8 : w3.cell? ⟨bx, 8, none⟩ = some (.int .i64 e.level) := HB3.out.cellAt (i := 8) rfl
  have c9 : w3.cell? ⟨bx, 9, none⟩ = some (.string e.data) := HB3.out.cellAt (i := 9) rfl
  have c10 : w3.cell? ⟨bx, 10, none⟩ = some (.string e.old) := HB3.out.cellAt (i := 10) rfl
  have c11 : w3.cell? ⟨bx, 11, none⟩ = some (.bool q) := HB3.out.cellAt (i := 11) rfl
  go_wp2_with fail
  refine (HMd.out _).mono ?_
  rintro x w4 ⟨rfl, f4⟩
  go_wp2_with fail
  refine (HPr.out _).mono ?_
  rintro x w5 ⟨rfl, f5⟩
  have HF5 := Lib.hid ((HF3.out.trans0 f4).trans0 f5)
  clear f4 f5 HB3 HF3
  clear c0 c1 c2 c3 c4 c5 c6 c7 c8 c9 c10 c11
  go_upto_if 37 with fail
  go_cut [1] from 37 to 43 (fun s1 wx => ∃ T : ByteArray, s1 = .string T ∧ T.size ≤ 150000000000000 ∧ Hid (Fr [] w wx))
  case first =>
    cases own with
    | true =>
      go_wp2_with fail
      refine (HBd.out _).mono ?_
      rintro x w6 ⟨t, rfl, ht, f6⟩
      have HF6 := Lib.hid (HF5.out.trans0 f6)
      have hsum : ¬ 9223372036854775807 < t.size + more.size := by omega
      have hsm : (t ++ more).size ≤ 150000000000000 := by rw [ByteArray.size_append]; omega
      have HSm := Lib.hid hsm
      have HHt := Lib.hid ht
      clear f6 hsm ht
      go_wp2_with fail
      go_meet
      exact ⟨_, rfl, HSm.out, HF6.out⟩
    | false =>
      go_wp2_with fail
      go_meet
      exact ⟨s, rfl, by omega, HF5.out⟩
  case rest =>
  obtain ⟨T, rfl, hT, HFc⟩ := hcut
  obtain ⟨L, hL⟩ : ∃ L : List UInt8, bs L = T := ⟨T.data.toList, bs_of T⟩
  subst hL
  rw [bs_size] at hT
  clear HF5
  go_wp2_with fail
  refine (vNew (bs L) _).mono ?_
  rintro x w6 ⟨rfl, h6, f6⟩
  have HR6 : Hid (RdAt w6 wc.heap.size L 0) := RdAt.start h6
  have HF6 := Lib.hid (HFc.out.trans0 f6)
  have Hrb : Hid (w.heap.size ≤ wc.heap.size) := HFc.out.size
  clear f6 h6 HFc
  generalize wc.heap.size = r at *
  go_wp2_with fail
  refine (rvNew (bs L) _).mono ?_
  rintro x w7 ⟨rfl, h7, f7⟩
  have HZ7 : Hid (RRdAt w7 w6.heap.size L 0) := RRdAt.start h7
  have HR7 := Lib.hid (HR6.out.fr f7 (by simp))
  have HF7 := Lib.hid (HF6.out.trans0 f7)
  have Hzb : Hid (r < w6.heap.size) := HR6.out.lt
  clear f7 h7 HR6 HF6
  generalize w6.heap.size = z at *
  go_wp2_with fail
  have HGp := Lib.hid (fun w (h : RdAt w r L 0) => pGet r L 0 w h)
  have HGr := Lib.hid (fun w (h : RRdAt w z L 0) => rGet5 z L 0 w h)
  obtain ⟨X, hX⟩ : ∃ X, (get5 L 0).1 = X := ⟨_, rfl⟩
  obtain ⟨P, hP⟩ : ∃ P, (get5 L 0).2 = P := ⟨_, rfl⟩
  rw [hX, hP] at HGp HGr
  have HEq := Lib.hid (eqlEnt X)
  clear hX hP
  unfold Ent.cells at HGp HGr HEq
  refine (HGp.out _ HR7.out).mono ?_
  rintro x w8 ⟨rfl, h8, f8⟩
  have HR8 := Lib.hid h8
  have HZ8 := Lib.hid (HZ7.out.fr f8 (by have := Hzb.out; simp; omega))
  have HF8 : Hid (Fr [] w w8) := (HF7.out.trans f8 (fun x hx => by simp at hx; subst hx; right; exact Hrb.out))
  clear h8 f8 HR7 HZ7 HF7
  have HRa := Lib.hid (HR8.out.alloc (.cells #[.int .u64 X.term, .int .u64 X.index, .int .i64 X.kind, .int .u64 X.client, .int .u64 X.seq, .int .u64 X.block, .int .u64 X.many, .int .i64 X.node, .int .i64 X.level, .string X.data, .string X.old] 24))
  have HZa := Lib.hid (HZ8.out.alloc (.cells #[.int .u64 X.term, .int .u64 X.index, .int .i64 X.kind, .int .u64 X.client, .int .u64 X.seq, .int .u64 X.block, .int .u64 X.many, .int .i64 X.node, .int .i64 X.level, .string X.data, .string X.old] 24))
  have HFa := Lib.hid (HF8.out.alloc (.cells #[.int .u64 X.term, .int .u64 X.index, .int .i64 X.kind, .int .u64 X.client, .int .u64 X.seq, .int .u64 X.block, .int .u64 X.many, .int .i64 X.node, .int .i64 X.level, .string X.data, .string X.old] 24))
  have HXa := Lib.hid (Blk.new w8 #[.int .u64 X.term, .int .u64 X.index, .int .i64 X.kind, .int .u64 X.client, .int .u64 X.seq, .int .u64 X.block, .int .u64 X.many, .int .i64 X.node, .int .i64 X.level, .string X.data, .string X.old] 24)
  have Hxb : Hid (z < w8.heap.size) := HZ8.out.lt
  go_wp2_with fail
  generalize w8.alloc (.cells #[.int .u64 X.term, .int .u64 X.index, .int .i64 X.kind, .int .u64 X.client, .int .u64 X.seq, .int .u64 X.block, .int .u64 X.many, .int .i64 X.node, .int .i64 X.level, .string X.data, .string X.old] 24) = wa at *
  generalize w8.heap.size = ba at *
  refine (HGr.out _ HZa.out).mono ?_
  rintro x w9 ⟨rfl, h9, f9⟩
  have HZ9 := Lib.hid h9
  have HR9 := Lib.hid (HRa.out.fr f9 (by have := Hzb.out; simp; omega))
  have HX9 := Lib.hid (HXa.out.fr f9 (by have := Hxb.out; simp; omega))
  have HF9 : Hid (Fr [] w w9) := HFa.out.trans f9 (fun x hx => by simp at hx; subst hx; right; have := Hrb.out; have := Hzb.out; omega)
  clear h9 f9 HRa HZa HFa HXa HR8 HZ8 HF8
  have HZb := Lib.hid (HZ9.out.alloc (.cells #[.int .u64 X.term, .int .u64 X.index, .int .i64 X.kind, .int .u64 X.client, .int .u64 X.seq, .int .u64 X.block, .int .u64 X.many, .int .i64 X.node, .int .i64 X.level, .string X.data, .string X.old] 24))
  have HRb := Lib.hid (HR9.out.alloc (.cells #[.int .u64 X.term, .int .u64 X.index, .int .i64 X.kind, .int .u64 X.client, .int .u64 X.seq, .int .u64 X.block, .int .u64 X.many, .int .i64 X.node, .int .i64 X.level, .string X.data, .string X.old] 24))
  have HXb := Lib.hid (HX9.out.alloc (.cells #[.int .u64 X.term, .int .u64 X.index, .int .i64 X.kind, .int .u64 X.client, .int .u64 X.seq, .int .u64 X.block, .int .u64 X.many, .int .i64 X.node, .int .i64 X.level, .string X.data, .string X.old] 24))
  have HFb := Lib.hid (HF9.out.alloc (.cells #[.int .u64 X.term, .int .u64 X.index, .int .i64 X.kind, .int .u64 X.client, .int .u64 X.seq, .int .u64 X.block, .int .u64 X.many, .int .i64 X.node, .int .i64 X.level, .string X.data, .string X.old] 24))
  have HYb := Lib.hid (Blk.new w9 #[.int .u64 X.term, .int .u64 X.index, .int .i64 X.kind, .int .u64 X.client, .int .u64 X.seq, .int .u64 X.block, .int .u64 X.many, .int .i64 X.node, .int .i64 X.level, .string X.data, .string X.old] 24)
  go_wp2_with fail
  generalize w9.alloc (.cells #[.int .u64 X.term, .int .u64 X.index, .int .i64 X.kind, .int .u64 X.client, .int .u64 X.seq, .int .u64 X.block, .int .u64 X.many, .int .i64 X.node, .int .i64 X.level, .string X.data, .string X.old] 24) = wb at *
  generalize w9.heap.size = bb at *
  clear HZ9 HR9 HX9 HF9
  have HOk := Lib.hid (fun n => vOKAt r L P (wb.drewN n) HRb.out)
  have HLf := Lib.hid (fun n => vLeftAt r L P (wb.drewN n) HRb.out)
  have hz1 := HZb.out.bad
  have hz0 : wb.cell? ⟨z, 0, none⟩ = some (.string (stL L P).1) := Blk.cellAt (i := 0) HZb.out rfl
  have hzs := stL_size L P
  generalize (stL L P).1 = ZS at *
  have heq : ∀ w, (binOp .eql 24 (.agg #[.int .u64 X.term, .int .u64 X.index, .int .i64 X.kind, .int .u64 X.client, .int .u64 X.seq, .int .u64 X.block, .int .u64 X.many, .int .i64 X.node, .int .i64 X.level, .string X.data, .string X.old]) (.agg #[.int .u64 X.term, .int .u64 X.index, .int .i64 X.kind, .int .u64 X.client, .int .u64 X.seq, .int .u64 X.block, .int .u64 X.many, .int .i64 X.node, .int .i64 X.level, .string X.data, .string X.old])).run Tryd.prog w = .ok (.bool true) w := HEq.out
  have hgd := guardEnt
  obtain ⟨pb, hpb⟩ : ∃ pb, decide (P ≤ L.length) = pb := ⟨_, rfl⟩
  rw [hpb] at HOk hz1
  obtain ⟨lf, hlf⟩ : ∃ lf : Nat, L.length - P = lf := ⟨_, rfl⟩
  rw [hlf] at HLf hzs
  clear hpb hlf HEq
  have a0 : wb.cell? ⟨ba, 0, none⟩ = some (.int .u64 X.term) := HXb.out.cellAt (i := 0) rfl
  have a1 : wb.cell? ⟨ba, 1, none⟩ = some (.int .u64 X.index) := HXb.out.cellAt (i := 1) rfl
  have a2 : wb.cell? ⟨ba, 2, none⟩ = some (.int .i64 X.kind) := HXb.out.cellAt (i := 2) rfl
  have a3 : wb.cell? ⟨ba, 3, none⟩ = some (.int .u64 X.client) := HXb.out.cellAt (i := 3) rfl
  have a4 : wb.cell? ⟨ba, 4, none⟩ = some (.int .u64 X.seq) := HXb.out.cellAt (i := 4) rfl
  have a5 : wb.cell? ⟨ba, 5, none⟩ = some (.int .u64 X.block) := HXb.out.cellAt (i := 5) rfl
  have a6 : wb.cell? ⟨ba, 6, none⟩ = some (.int .u64 X.many) := HXb.out.cellAt (i := 6) rfl
  have a7 : wb.cell? ⟨ba, 7, none⟩ = some (.int .i64 X.node) := HXb.out.cellAt (i := 7) rfl
  have a8 : wb.cell? ⟨ba, 8, none⟩ = some (.int .i64 X.level) := HXb.out.cellAt (i := 8) rfl
  have a9 : wb.cell? ⟨ba, 9, none⟩ = some (.string X.data) := HXb.out.cellAt (i := 9) rfl
  have a10 : wb.cell? ⟨ba, 10, none⟩ = some (.string X.old) := HXb.out.cellAt (i := 10) rfl
  have b0 : wb.cell? ⟨bb, 0, none⟩ = some (.int .u64 X.term) := HYb.out.cellAt (i := 0) rfl
  have b1 : wb.cell? ⟨bb, 1, none⟩ = some (.int .u64 X.index) := HYb.out.cellAt (i := 1) rfl
  have b2 : wb.cell? ⟨bb, 2, none⟩ = some (.int .i64 X.kind) := HYb.out.cellAt (i := 2) rfl
  have b3 : wb.cell? ⟨bb, 3, none⟩ = some (.int .u64 X.client) := HYb.out.cellAt (i := 3) rfl
  have b4 : wb.cell? ⟨bb, 4, none⟩ = some (.int .u64 X.seq) := HYb.out.cellAt (i := 4) rfl
  have b5 : wb.cell? ⟨bb, 5, none⟩ = some (.int .u64 X.block) := HYb.out.cellAt (i := 5) rfl
  have b6 : wb.cell? ⟨bb, 6, none⟩ = some (.int .u64 X.many) := HYb.out.cellAt (i := 6) rfl
  have b7 : wb.cell? ⟨bb, 7, none⟩ = some (.int .i64 X.node) := HYb.out.cellAt (i := 7) rfl
  have b8 : wb.cell? ⟨bb, 8, none⟩ = some (.int .i64 X.level) := HYb.out.cellAt (i := 8) rfl
  have b9 : wb.cell? ⟨bb, 9, none⟩ = some (.string X.data) := HYb.out.cellAt (i := 9) rfl
  have b10 : wb.cell? ⟨bb, 10, none⟩ = some (.string X.old) := HYb.out.cellAt (i := 10) rfl
  cases pb
  all_goals
    go_quiet (first | (go_at_call 16; exact Calls.quiet_of_same ((HOk.out _).mono fun _ _ h => ⟨h.1, h.2.symm⟩)) | (go_at_call 17; exact Calls.quiet_of_same ((HLf.out _).mono fun _ _ h => ⟨h.1, h.2.symm⟩)))
    go_wp2_with fail
    go_ret
    exact ⟨rfl, HFb.out.drewN _⟩
end Go.Proofs.YthfaaoeecajkeaaDoor.firstEntries
