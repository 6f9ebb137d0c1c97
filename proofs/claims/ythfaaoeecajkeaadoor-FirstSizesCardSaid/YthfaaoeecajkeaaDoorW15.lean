/-
  Texts of this seat, joined: GWrt GPut FShB GEnt GTrim.
-/
import Derived.Test.YthfaaoeecajkeaaDoorW14
import Derived.Deep.QuietTactic
import Derived.BigQuiet
import Derived.Deep.RegionHeld3
import Derived.Deep.RegionWith
import Derived.Test.YthfaaoeecajkeaaDoorW03
import Derived.IntWalk
import Derived.Test.YthfaaoeecajkeaaDoorW11
import Derived.Test.YthfaaoeecajkeaaDoorWtk
import Derived.Lib.TrimByte
set_option linter.unusedSimpArgs false
set_option linter.unusedVariables false
namespace Go.Proofs.YthfaaoeecajkeaaDoor
open Go.RowKit

set_option maxRecDepth 100000 in
set_option maxHeartbeats 4000000 in
theorem wPut (w : World) (B b : Nat) (l : List UInt8) (n : Int) (size : Nat) (h : Wrt w B b l) (hs : size ≤ 8) (h1 : 1 ≤ size) (h0 : 0 ≤ n) (hn : n < 18446744073709551616) (hlen : l.length ≤ 100000000) (hBw : B ≤ w.heap.size) :
    Calls Tryd.prog 27 #[.pointer (some ⟨b, 0, none⟩), .int .u64 n, .int .i64 size] w fun e w' => e = .returned (.tuple #[]) ∧ Wrt w' B b (l ++ fixL n size) ∧ Wk B b w w' := by
  have HW := Lib.hid h
  have hlt : b < w.heap.size := by rcases h with h | h <;> exact h.lt
  have HL := Lib.hid (show l.length + (fixL n size).length ≤ 140737488355328 by rw [fixL_length n size hs]; omega)
  clear h
  go_enter Tryd.func27, Tryd.ntmps27
  go_wp2_with fail
  go_region_with (first | (go_at_call 54; refine (vFixed n size _ hs h1 h0 hn).mono ?_; rintro e w1 ⟨rfl, f1⟩; have F1 := Lib.hid ((Fr.refl [] w).drew.trans0 f1); clear f1) | (go_at_call 28; refine (bWrite _ B b l _ (HW.out.fr0 F1.out) HL.out (by have := F1.out.size; omega)).mono ?_; rintro e w2 ⟨rfl, W2, K2⟩))
  all_goals (go_wp2_with fail; go_end0; exact ⟨rfl, W2, (Wk.ofFr F1.out).trans K2⟩)
end Go.Proofs.YthfaaoeecajkeaaDoor

namespace Go.Proofs.YthfaaoeecajkeaaDoor
open List renaming getElem?_toArray → lg0, getElem?_cons_succ → lg1, getElem?_cons_zero → lg2, setIfInBounds_toArray → lt0', set_cons_zero → lt1', set_cons_succ → lt2'
open Go.RowKit

theorem fit_mem {may : ByteArray} {l : List Fld} (h : fitB may l = true) (f : Fld) (hf : f ∈ l) : Fld.bad may f = false := by
  unfold fitB at h
  simp only [Bool.not_eq_true', List.any_eq_false] at h
  have := h f hf
  simpa using this
/-- What is right has small numbers. -/
theorem ok_small (e : Ent) (h : e.ok = true) : (0 ≤ e.kind ∧ e.kind ≤ 11) ∧ (0 ≤ e.node ∧ e.node ≤ 7) ∧ (0 ≤ e.level ∧ e.level ≤ 2) := by
  unfold Ent.ok at h
  simp only [Bool.and_eq_true] at h
  obtain ⟨⟨⟨h1, _⟩, _⟩, hf⟩ := h
  refine ⟨?_, ?_, ?_⟩
  · refine Decidable.byContradiction fun hc => ?_
    have : (entMay e.kind).2 = false := by
      unfold entMay
      repeat rw [if_neg (by omega)]
    rw [this] at h1
    cases h1
  · have hb := fit_mem hf ⟨110, e.node != 0, nodeB e.node⟩ (by simp [Ent.flds])
    unfold Fld.bad nodeB at hb
    split at hb
    · simp at hb; omega
    · simp at hb; omega
  · have hb := fit_mem hf ⟨108, e.level != 0, e.level == 1 || e.level == 2⟩ (by simp [Ent.flds])
    unfold Fld.bad at hb
    split at hb
    · simp at hb; omega
    · simp at hb; omega

theorem app_ne {a b : List UInt8} {k : Nat} (h : a.length = k) (hk : 0 < k) : a ++ b ≠ [] := by
  intro h0
  have := congrArg List.length h0
  rw [List.length_append, h] at this
  simp at this
  omega
theorem len_put {l : List UInt8} {n : Int} {size k : Nat} (h : l.length = k) (hs : size ≤ 8) : (l ++ fixL n size).length = k + size := by
  rw [List.length_append, h, fixL_length n size hs]

def put5R (e : Ent) : List UInt8 := if e.ok && decide (e.lvl ≤ 1) then put5 e else []
theorem put5_length (e : Ent) (h : e.data.size ≤ 66) : (put5 e).length = 110 := by
  unfold put5
  simp only [List.length_append, fixL_length _ 1 (by decide), fixL_length _ 8 (by decide), fixL_length _ 4 (by decide), List.length_replicate]
  have : e.data.data.toList.length = e.data.size := rfl
  omega

set_option maxRecDepth 100000 in
set_option maxHeartbeats 8000000 in
theorem pPut_yes (e : Ent) (w : World) (he : e.Fits) (hok : e.ok = true) (hl : e.lvl ≤ 1) : Calls Tryd.prog 8 #[.agg e.cells] w fun r w' => r = .returned (.tuple #[.string (bs (put5 e)), .bool true]) ∧ Fr [] w w' := by
  have hmf : ∀ (fn : Fn) (first cap : Array Value) (w : World), (Instr.makeFunc fn first cap).run Tryd.prog w = .ok (.func fn first cap) w := fun _ _ _ _ => rfl
  obtain ⟨hk, hn, hv⟩ := ok_small e hok
  have hd := ok_data e hok
  have HR := Lib.hid (fun w => eRight e w he)
  have HLv := Lib.hid (fun w => eLevel e w)
  rw [hok] at HR
  have hlv : e.lvl = 1 := by unfold Ent.lvl at hl ⊢; split at hl <;> simp_all
  rw [hlv] at HLv
  obtain ⟨hT, hI, hC, hS, hB, hM, hD, hO⟩ := he
  unfold U64 at *
  unfold maxLen at hD hO
  have kk : IntKind.u64.wrap e.kind = e.kind := by rw [IntKind.wrap_u64]; omega
  have kn : IntKind.u64.wrap e.node = e.node := by rw [IntKind.wrap_u64]; omega
  have kv : IntKind.u64.wrap e.level = e.level := by rw [IntKind.wrap_u64]; omega
  have HP5 : Hid (put5 e = fixL e.kind 1 ++ fixL e.term 8 ++ fixL e.index 8 ++ fixL e.client 8 ++ fixL e.seq 8 ++ fixL e.block 4 ++ fixL e.many 4 ++ fixL e.node 1 ++ fixL e.level 1 ++ fixL (e.data.size : Nat) 1 ++ (e.data.data.toList ++ List.replicate (66 - e.data.size) 0)) := by
    unfold put5
    simp only [List.append_assoc]
    exact trivial
  unfold Ent.cells at HR HLv ⊢
  clear hok hl hlv
  obtain ⟨q, hq⟩ : ∃ q : Nat, 66 - e.data.size = q := ⟨_, rfl⟩
  have hq66 : (e.data.size : Int) + (q : Int) = 66 := by omega
  have hsub : wrap64 (66 - (e.data.size : Int)) = (q : Int) := by rw [IntWalk.wrap64_in] <;> omega
  have HSub : Hid (IntKind.i64.wrap (66 - (e.data.size : Int)) = (q : Int)) := by
    show _ = _
    rw [IntWalk.i64_in] <;> omega
  rw [hq] at HP5
  obtain ⟨PAD, hPAD⟩ : ∃ X, bs (List.replicate q 0) = X := ⟨_, rfl⟩
  have hps : PAD.size = q := by rw [← hPAD, bs_size, List.length_replicate]
  have HRep : Hid (∀ w, Calls Tryd.prog 29 #[.string ⟨#[0]⟩, .int .i64 (q : Int)] w fun r w' => r = .returned (.string PAD) ∧ Fr [] w w') := by
    intro w
    refine (Tryd.strings_Repeat ⟨#[0]⟩ q w (by omega) (by show 1 * _ ≤ _; omega)).mono ?_
    rintro r w' ⟨rfl, h⟩
    refine ⟨?_, Fr.ofBelow h⟩
    rw [← hPAD]
    have := Lib.repeatL_replicate 0 1 q
    rw [Nat.mul_one] at this
    exact congrArg (fun l => Ending.returned (.string (bs l))) this
  have HCat : Hid (e.data ++ PAD = bs (e.data.data.toList ++ List.replicate q 0)) := by
    show e.data ++ PAD = _
    rw [← hPAD]
    conv => lhs; lhs; rw [← bs_of e.data]
    rw [bs_append]
  have HLC : Hid ((e.data.data.toList ++ List.replicate q (0 : UInt8)).length = 66) := by
    show _ = _
    rw [List.length_append, List.length_replicate]
    have : e.data.data.toList.length = e.data.size := rfl
    omega
  clear hq
  clear hPAD
  go_enter Tryd.func8, Tryd.ntmps8
  go_wp2_with fail
  refine (HR.out _).mono ?_
  rintro r w1 ⟨rfl, f1⟩
  have HB1 := Lib.hid ((Blk.new w #[.int .u64 e.term, .int .u64 e.index, .int .i64 e.kind, .int .u64 e.client, .int .u64 e.seq, .int .u64 e.block, .int .u64 e.many, .int .i64 e.node, .int .i64 e.level, .string e.data, .string e.old] 24).fr0 f1)
  have HF1 : Hid (Fr [] w w1) := ((Fr.refl [] w).alloc _).trans0 f1
  generalize hbx : w.heap.size = bx at *
  have Hbx := Lib.hid hbx
  clear f1 hbx
  have c0 : w1.cell? ⟨bx, 0, none⟩ = some (.int .u64 e.term) := HB1.out.cellAt (i := 0) rfl
  have c1 : w1.cell? ⟨bx, 1, none⟩ = some (.int .u64 e.index) := HB1.out.cellAt (i := 1) rfl
  have c2 : w1.cell? ⟨bx, 2, none⟩ = some (.int .i64 e.kind) := HB1.out.cellAt (i := 2) rfl
  have c3 : w1.cell? ⟨bx, 3, none⟩ = some (.int .u64 e.client) := HB1.out.cellAt (i := 3) rfl
  have c4 : w1.cell? ⟨bx, 4, none⟩ = some (.int .u64 e.seq) := HB1.out.cellAt (i := 4) rfl
  have c5 : w1.cell? ⟨bx, 5, none⟩ = some (.int .u64 e.block) := HB1.out.cellAt (i := 5) rfl
  have c6 : w1.cell? ⟨bx, 6, none⟩ = some (.int .u64 e.many) := HB1.out.cellAt (i := 6) rfl
  have c7 : w1.cell? ⟨bx, 7, none⟩ = some (.int .i64 e.node) := HB1.out.cellAt (i := 7) rfl
  have c8 : w1.cell? ⟨bx, 8, none⟩ = some (.int .i64 e.level) := HB1.out.cellAt (i := 8) rfl
  have c9 : w1.cell? ⟨bx, 9, none⟩ = some (.string e.data) := HB1.out.cellAt (i := 9) rfl
  have c10 : w1.cell? ⟨bx, 10, none⟩ = some (.string e.old) := HB1.out.cellAt (i := 10) rfl
  go_wp2_with fail
  refine (HLv.out _).mono ?_
  rintro r w2 ⟨rfl, f2⟩
  have HB2 := Lib.hid (HB1.out.fr0 f2)
  have HF2 := Lib.hid (HF1.out.trans0 f2)
  clear f2 HB1 HF1 c0 c1 c2 c3 c4 c5 c6 c7 c8 c9 c10
  have c0 := ca HB2.out 0
  have c1 := ca HB2.out 1
  have c2 := ca HB2.out 2
  have c3 := ca HB2.out 3
  have c4 := ca HB2.out 4
  have c5 := ca HB2.out 5
  have c6 := ca HB2.out 6
  have c7 := ca HB2.out 7
  have c8 := ca HB2.out 8
  have c9 := ca HB2.out 9
  have c10 := ca HB2.out 10
  have HW0 := Lib.hid (Wrt.new w2.heap.size w2)
  have HBa := Lib.hid (HB2.out.alloc (.cells #[.pointer none, .slice none 0 0] 64))
  have Hne : Hid (bx ≠ w2.heap.size) := Nat.ne_of_lt HB2.out.lt
  have Hb1 : Hid (w.heap.size ≤ w2.heap.size) := HF2.out.size
  have HFa := Lib.hid (HF2.out.alloc (.cells #[.pointer none, .slice none 0 0] 64))
  have HSz : Hid (w2.heap.size ≤ (w2.alloc (.cells #[.pointer none, .slice none 0 0] 64)).heap.size) := by show _ ≤ _; simp
  go_wp2_with fail
  generalize w2.alloc (.cells #[.pointer none, .slice none 0 0] 64) = v0 at *
  generalize w2.heap.size = b at *
  have HLL0 : Hid (([] : List UInt8).length = 0) := rfl
  have HK0 : Hid (Wk b b v0 v0) := Wk.refl _ _ _
  clear HB2 c0 c1 c2 c3 c4 c5 c6 c7 c8 c9 c10
  have c0 : v0.cell? ⟨bx, 0, none⟩ = some (.int .u64 e.term) := HBa.out.cellAt (i := 0) rfl
  have c1 : v0.cell? ⟨bx, 1, none⟩ = some (.int .u64 e.index) := HBa.out.cellAt (i := 1) rfl
  have c2 : v0.cell? ⟨bx, 2, none⟩ = some (.int .i64 e.kind) := HBa.out.cellAt (i := 2) rfl
  have c3 : v0.cell? ⟨bx, 3, none⟩ = some (.int .u64 e.client) := HBa.out.cellAt (i := 3) rfl
  have c4 : v0.cell? ⟨bx, 4, none⟩ = some (.int .u64 e.seq) := HBa.out.cellAt (i := 4) rfl
  have c5 : v0.cell? ⟨bx, 5, none⟩ = some (.int .u64 e.block) := HBa.out.cellAt (i := 5) rfl
  have c6 : v0.cell? ⟨bx, 6, none⟩ = some (.int .u64 e.many) := HBa.out.cellAt (i := 6) rfl
  have c7 : v0.cell? ⟨bx, 7, none⟩ = some (.int .i64 e.node) := HBa.out.cellAt (i := 7) rfl
  have c8 : v0.cell? ⟨bx, 8, none⟩ = some (.int .i64 e.level) := HBa.out.cellAt (i := 8) rfl
  have c9 : v0.cell? ⟨bx, 9, none⟩ = some (.string e.data) := HBa.out.cellAt (i := 9) rfl
  have c10 : v0.cell? ⟨bx, 10, none⟩ = some (.string e.old) := HBa.out.cellAt (i := 10) rfl
  clear HLL0; have HLL0 : Hid (([] : List UInt8).length = 0) := rfl
  refine (wPut _ _ _ _ (e.kind) 1 HW0.out (by decide) (by decide) hk.1 (by omega) (by have := HLL0.out; omega) HSz.out).mono ?_
  rintro r u1 ⟨rfl, h, k⟩
  have HW1 := Lib.hid h
  have HK1 := Lib.hid (HK0.out.trans k)
  have HX1 := Lib.hid (HBa.out.wk k Hne.out (by decide))
  have HS1 : Hid (b ≤ u1.heap.size) := Nat.le_trans HSz.out k.size
  have HN1 := Lib.hid (len_put (n := e.kind) (size := 1) HLL0.out (by decide))
  clear h k HBa HW0 HK0 HSz HLL0 c0 c1 c2 c3 c4 c5 c6 c7 c8 c9 c10
  have c0 : u1.cell? ⟨bx, 0, none⟩ = some (.int .u64 e.term) := HX1.out.cellAt (i := 0) rfl
  have c1 : u1.cell? ⟨bx, 1, none⟩ = some (.int .u64 e.index) := HX1.out.cellAt (i := 1) rfl
  have c2 : u1.cell? ⟨bx, 2, none⟩ = some (.int .i64 e.kind) := HX1.out.cellAt (i := 2) rfl
  have c3 : u1.cell? ⟨bx, 3, none⟩ = some (.int .u64 e.client) := HX1.out.cellAt (i := 3) rfl
  have c4 : u1.cell? ⟨bx, 4, none⟩ = some (.int .u64 e.seq) := HX1.out.cellAt (i := 4) rfl
  have c5 : u1.cell? ⟨bx, 5, none⟩ = some (.int .u64 e.block) := HX1.out.cellAt (i := 5) rfl
  have c6 : u1.cell? ⟨bx, 6, none⟩ = some (.int .u64 e.many) := HX1.out.cellAt (i := 6) rfl
  have c7 : u1.cell? ⟨bx, 7, none⟩ = some (.int .i64 e.node) := HX1.out.cellAt (i := 7) rfl
  have c8 : u1.cell? ⟨bx, 8, none⟩ = some (.int .i64 e.level) := HX1.out.cellAt (i := 8) rfl
  have c9 : u1.cell? ⟨bx, 9, none⟩ = some (.string e.data) := HX1.out.cellAt (i := 9) rfl
  have c10 : u1.cell? ⟨bx, 10, none⟩ = some (.string e.old) := HX1.out.cellAt (i := 10) rfl
  have d0 := ca HX1.out 0
  have d1 := ca HX1.out 1
  have d2 := ca HX1.out 2
  have d3 := ca HX1.out 3
  have d4 := ca HX1.out 4
  have d5 := ca HX1.out 5
  have d6 := ca HX1.out 6
  have d7 := ca HX1.out 7
  have d8 := ca HX1.out 8
  have d9 := ca HX1.out 9
  have d10 := ca HX1.out 10
  have HW2 := Lib.hid (HW1.out.fr0 ((Fr.refl [] _).alloc (.cells #[.int .u64 e.term, .int .u64 e.index, .int .u64 e.client, .int .u64 e.seq] 22)))
  have HK2 := Lib.hid (HK1.out.alloc (.cells #[.int .u64 e.term, .int .u64 e.index, .int .u64 e.client, .int .u64 e.seq] 22))
  have HX2 := Lib.hid (HX1.out.alloc (.cells #[.int .u64 e.term, .int .u64 e.index, .int .u64 e.client, .int .u64 e.seq] 22))
  have HS2 : Hid (b ≤ (u1.alloc (.cells #[.int .u64 e.term, .int .u64 e.index, .int .u64 e.client, .int .u64 e.seq] 22)).heap.size) := Nat.le_trans HS1.out (by simp)
  have HA2 := Lib.hid (Blk.new u1 #[.int .u64 e.term, .int .u64 e.index, .int .u64 e.client, .int .u64 e.seq] 22)
  have Hna : Hid (u1.heap.size ≠ b) := Nat.ne_of_gt (by have := HW1.out; rcases this with h | h <;> exact h.lt)
  clear HX1 HW1 HK1 HS1
  go_wp2_with fail
  generalize u1.alloc (.cells #[.int .u64 e.term, .int .u64 e.index, .int .u64 e.client, .int .u64 e.seq] 22) = u2 at *
  generalize u1.heap.size = ar at *
  clear d0 d1 d2 d3 d4 d5 d6 d7 d8 d9 d10
  clear c0 c1 c2 c3 c4 c5 c6 c7 c8 c9 c10
  refine wp_loop_rounds 5 ?_
  rw [rounds_succ]
  have a0 : u2.cell? ⟨ar, 0, none⟩ = some (.int .u64 e.term) := HA2.out.cellAt (i := 0) rfl
  have a1 : u2.cell? ⟨ar, 1, none⟩ = some (.int .u64 e.index) := HA2.out.cellAt (i := 1) rfl
  have a2 : u2.cell? ⟨ar, 2, none⟩ = some (.int .u64 e.client) := HA2.out.cellAt (i := 2) rfl
  have a3 : u2.cell? ⟨ar, 3, none⟩ = some (.int .u64 e.seq) := HA2.out.cellAt (i := 3) rfl
  have c0 : u2.cell? ⟨bx, 0, none⟩ = some (.int .u64 e.term) := HX2.out.cellAt (i := 0) rfl
  have c1 : u2.cell? ⟨bx, 1, none⟩ = some (.int .u64 e.index) := HX2.out.cellAt (i := 1) rfl
  have c2 : u2.cell? ⟨bx, 2, none⟩ = some (.int .i64 e.kind) := HX2.out.cellAt (i := 2) rfl
  have c3 : u2.cell? ⟨bx, 3, none⟩ = some (.int .u64 e.client) := HX2.out.cellAt (i := 3) rfl
  have c4 : u2.cell? ⟨bx, 4, none⟩ = some (.int .u64 e.seq) := HX2.out.cellAt (i := 4) rfl
  have c5 : u2.cell? ⟨bx, 5, none⟩ = some (.int .u64 e.block) := HX2.out.cellAt (i := 5) rfl
  have c6 : u2.cell? ⟨bx, 6, none⟩ = some (.int .u64 e.many) := HX2.out.cellAt (i := 6) rfl
  have c7 : u2.cell? ⟨bx, 7, none⟩ = some (.int .i64 e.node) := HX2.out.cellAt (i := 7) rfl
  have c8 : u2.cell? ⟨bx, 8, none⟩ = some (.int .i64 e.level) := HX2.out.cellAt (i := 8) rfl
  have c9 : u2.cell? ⟨bx, 9, none⟩ = some (.string e.data) := HX2.out.cellAt (i := 9) rfl
  have c10 : u2.cell? ⟨bx, 10, none⟩ = some (.string e.old) := HX2.out.cellAt (i := 10) rfl
  go_wp2_with fail
  clear a0 a1 a2 a3
  refine (wPut _ _ _ _ (e.term) 8 HW2.out (by decide) (by decide) hT.1 hT.2 (by have := HN1.out; omega) HS2.out).mono ?_
  rintro r u3 ⟨rfl, h, k⟩
  have HW3 := Lib.hid h
  have HK3 := Lib.hid (HK2.out.trans k)
  have HX3 := Lib.hid (HX2.out.wk k Hne.out (by decide))
  have HS3 : Hid (b ≤ u3.heap.size) := Nat.le_trans HS2.out k.size
  have HN3 := Lib.hid (len_put (n := e.term) (size := 8) HN1.out (by decide))
  have HA3 := Lib.hid (HA2.out.wk k Hna.out (by decide))
  clear h k HX2 HW2 HK2 HS2 HN1 c0 c1 c2 c3 c4 c5 c6 c7 c8 c9 c10 HA2
  go_wp2_with fail
  rw [rounds_succ]
  have a0 : u3.cell? ⟨ar, 0, none⟩ = some (.int .u64 e.term) := HA3.out.cellAt (i := 0) rfl
  have a1 : u3.cell? ⟨ar, 1, none⟩ = some (.int .u64 e.index) := HA3.out.cellAt (i := 1) rfl
  have a2 : u3.cell? ⟨ar, 2, none⟩ = some (.int .u64 e.client) := HA3.out.cellAt (i := 2) rfl
  have a3 : u3.cell? ⟨ar, 3, none⟩ = some (.int .u64 e.seq) := HA3.out.cellAt (i := 3) rfl
  have c0 : u3.cell? ⟨bx, 0, none⟩ = some (.int .u64 e.term) := HX3.out.cellAt (i := 0) rfl
  have c1 : u3.cell? ⟨bx, 1, none⟩ = some (.int .u64 e.index) := HX3.out.cellAt (i := 1) rfl
  have c2 : u3.cell? ⟨bx, 2, none⟩ = some (.int .i64 e.kind) := HX3.out.cellAt (i := 2) rfl
  have c3 : u3.cell? ⟨bx, 3, none⟩ = some (.int .u64 e.client) := HX3.out.cellAt (i := 3) rfl
  have c4 : u3.cell? ⟨bx, 4, none⟩ = some (.int .u64 e.seq) := HX3.out.cellAt (i := 4) rfl
  have c5 : u3.cell? ⟨bx, 5, none⟩ = some (.int .u64 e.block) := HX3.out.cellAt (i := 5) rfl
  have c6 : u3.cell? ⟨bx, 6, none⟩ = some (.int .u64 e.many) := HX3.out.cellAt (i := 6) rfl
  have c7 : u3.cell? ⟨bx, 7, none⟩ = some (.int .i64 e.node) := HX3.out.cellAt (i := 7) rfl
  have c8 : u3.cell? ⟨bx, 8, none⟩ = some (.int .i64 e.level) := HX3.out.cellAt (i := 8) rfl
  have c9 : u3.cell? ⟨bx, 9, none⟩ = some (.string e.data) := HX3.out.cellAt (i := 9) rfl
  have c10 : u3.cell? ⟨bx, 10, none⟩ = some (.string e.old) := HX3.out.cellAt (i := 10) rfl
  go_wp2_with fail
  clear a0 a1 a2 a3
  refine (wPut _ _ _ _ (e.index) 8 HW3.out (by decide) (by decide) hI.1 hI.2 (by have := HN3.out; omega) HS3.out).mono ?_
  rintro r u4 ⟨rfl, h, k⟩
  have HW4 := Lib.hid h
  have HK4 := Lib.hid (HK3.out.trans k)
  have HX4 := Lib.hid (HX3.out.wk k Hne.out (by decide))
  have HS4 : Hid (b ≤ u4.heap.size) := Nat.le_trans HS3.out k.size
  have HN4 := Lib.hid (len_put (n := e.index) (size := 8) HN3.out (by decide))
  have HA4 := Lib.hid (HA3.out.wk k Hna.out (by decide))
  clear h k HX3 HW3 HK3 HS3 HN3 c0 c1 c2 c3 c4 c5 c6 c7 c8 c9 c10 HA3
  go_wp2_with fail
  rw [rounds_succ]
  have a0 : u4.cell? ⟨ar, 0, none⟩ = some (.int .u64 e.term) := HA4.out.cellAt (i := 0) rfl
  have a1 : u4.cell? ⟨ar, 1, none⟩ = some (.int .u64 e.index) := HA4.out.cellAt (i := 1) rfl
  have a2 : u4.cell? ⟨ar, 2, none⟩ = some (.int .u64 e.client) := HA4.out.cellAt (i := 2) rfl
  have a3 : u4.cell? ⟨ar, 3, none⟩ = some (.int .u64 e.seq) := HA4.out.cellAt (i := 3) rfl
  have c0 : u4.cell? ⟨bx, 0, none⟩ = some (.int .u64 e.term) := HX4.out.cellAt (i := 0) rfl
  have c1 : u4.cell? ⟨bx, 1, none⟩ = some (.int .u64 e.index) := HX4.out.cellAt (i := 1) rfl
  have c2 : u4.cell? ⟨bx, 2, none⟩ = some (.int .i64 e.kind) := HX4.out.cellAt (i := 2) rfl
  have c3 : u4.cell? ⟨bx, 3, none⟩ = some (.int .u64 e.client) := HX4.out.cellAt (i := 3) rfl
  have c4 : u4.cell? ⟨bx, 4, none⟩ = some (.int .u64 e.seq) := HX4.out.cellAt (i := 4) rfl
  have c5 : u4.cell? ⟨bx, 5, none⟩ = some (.int .u64 e.block) := HX4.out.cellAt (i := 5) rfl
  have c6 : u4.cell? ⟨bx, 6, none⟩ = some (.int .u64 e.many) := HX4.out.cellAt (i := 6) rfl
  have c7 : u4.cell? ⟨bx, 7, none⟩ = some (.int .i64 e.node) := HX4.out.cellAt (i := 7) rfl
  have c8 : u4.cell? ⟨bx, 8, none⟩ = some (.int .i64 e.level) := HX4.out.cellAt (i := 8) rfl
  have c9 : u4.cell? ⟨bx, 9, none⟩ = some (.string e.data) := HX4.out.cellAt (i := 9) rfl
  have c10 : u4.cell? ⟨bx, 10, none⟩ = some (.string e.old) := HX4.out.cellAt (i := 10) rfl
  go_wp2_with fail
  clear a0 a1 a2 a3
  refine (wPut _ _ _ _ (e.client) 8 HW4.out (by decide) (by decide) hC.1 hC.2 (by have := HN4.out; omega) HS4.out).mono ?_
  rintro r u5 ⟨rfl, h, k⟩
  have HW5 := Lib.hid h
  have HK5 := Lib.hid (HK4.out.trans k)
  have HX5 := Lib.hid (HX4.out.wk k Hne.out (by decide))
  have HS5 : Hid (b ≤ u5.heap.size) := Nat.le_trans HS4.out k.size
  have HN5 := Lib.hid (len_put (n := e.client) (size := 8) HN4.out (by decide))
  have HA5 := Lib.hid (HA4.out.wk k Hna.out (by decide))
  clear h k HX4 HW4 HK4 HS4 HN4 c0 c1 c2 c3 c4 c5 c6 c7 c8 c9 c10 HA4
  go_wp2_with fail
  rw [rounds_succ]
  have a0 : u5.cell? ⟨ar, 0, none⟩ = some (.int .u64 e.term) := HA5.out.cellAt (i := 0) rfl
  have a1 : u5.cell? ⟨ar, 1, none⟩ = some (.int .u64 e.index) := HA5.out.cellAt (i := 1) rfl
  have a2 : u5.cell? ⟨ar, 2, none⟩ = some (.int .u64 e.client) := HA5.out.cellAt (i := 2) rfl
  have a3 : u5.cell? ⟨ar, 3, none⟩ = some (.int .u64 e.seq) := HA5.out.cellAt (i := 3) rfl
  have c0 : u5.cell? ⟨bx, 0, none⟩ = some (.int .u64 e.term) := HX5.out.cellAt (i := 0) rfl
  have c1 : u5.cell? ⟨bx, 1, none⟩ = some (.int .u64 e.index) := HX5.out.cellAt (i := 1) rfl
  have c2 : u5.cell? ⟨bx, 2, none⟩ = some (.int .i64 e.kind) := HX5.out.cellAt (i := 2) rfl
  have c3 : u5.cell? ⟨bx, 3, none⟩ = some (.int .u64 e.client) := HX5.out.cellAt (i := 3) rfl
  have c4 : u5.cell? ⟨bx, 4, none⟩ = some (.int .u64 e.seq) := HX5.out.cellAt (i := 4) rfl
  have c5 : u5.cell? ⟨bx, 5, none⟩ = some (.int .u64 e.block) := HX5.out.cellAt (i := 5) rfl
  have c6 : u5.cell? ⟨bx, 6, none⟩ = some (.int .u64 e.many) := HX5.out.cellAt (i := 6) rfl
  have c7 : u5.cell? ⟨bx, 7, none⟩ = some (.int .i64 e.node) := HX5.out.cellAt (i := 7) rfl
  have c8 : u5.cell? ⟨bx, 8, none⟩ = some (.int .i64 e.level) := HX5.out.cellAt (i := 8) rfl
  have c9 : u5.cell? ⟨bx, 9, none⟩ = some (.string e.data) := HX5.out.cellAt (i := 9) rfl
  have c10 : u5.cell? ⟨bx, 10, none⟩ = some (.string e.old) := HX5.out.cellAt (i := 10) rfl
  go_wp2_with fail
  clear a0 a1 a2 a3
  refine (wPut _ _ _ _ (e.seq) 8 HW5.out (by decide) (by decide) hS.1 hS.2 (by have := HN5.out; omega) HS5.out).mono ?_
  rintro r u6 ⟨rfl, h, k⟩
  have HW6 := Lib.hid h
  have HK6 := Lib.hid (HK5.out.trans k)
  have HX6 := Lib.hid (HX5.out.wk k Hne.out (by decide))
  have HS6 : Hid (b ≤ u6.heap.size) := Nat.le_trans HS5.out k.size
  have HN6 := Lib.hid (len_put (n := e.seq) (size := 8) HN5.out (by decide))
  have HA6 := Lib.hid (HA5.out.wk k Hna.out (by decide))
  clear h k HX5 HW5 HK5 HS5 HN5 c0 c1 c2 c3 c4 c5 c6 c7 c8 c9 c10 HA5
  go_wp2_with fail
  rw [rounds_succ]
  clear Hna HA6
  have c0 : u6.cell? ⟨bx, 0, none⟩ = some (.int .u64 e.term) := HX6.out.cellAt (i := 0) rfl
  have c1 : u6.cell? ⟨bx, 1, none⟩ = some (.int .u64 e.index) := HX6.out.cellAt (i := 1) rfl
  have c2 : u6.cell? ⟨bx, 2, none⟩ = some (.int .i64 e.kind) := HX6.out.cellAt (i := 2) rfl
  have c3 : u6.cell? ⟨bx, 3, none⟩ = some (.int .u64 e.client) := HX6.out.cellAt (i := 3) rfl
  have c4 : u6.cell? ⟨bx, 4, none⟩ = some (.int .u64 e.seq) := HX6.out.cellAt (i := 4) rfl
  have c5 : u6.cell? ⟨bx, 5, none⟩ = some (.int .u64 e.block) := HX6.out.cellAt (i := 5) rfl
  have c6 : u6.cell? ⟨bx, 6, none⟩ = some (.int .u64 e.many) := HX6.out.cellAt (i := 6) rfl
  have c7 : u6.cell? ⟨bx, 7, none⟩ = some (.int .i64 e.node) := HX6.out.cellAt (i := 7) rfl
  have c8 : u6.cell? ⟨bx, 8, none⟩ = some (.int .i64 e.level) := HX6.out.cellAt (i := 8) rfl
  have c9 : u6.cell? ⟨bx, 9, none⟩ = some (.string e.data) := HX6.out.cellAt (i := 9) rfl
  have c10 : u6.cell? ⟨bx, 10, none⟩ = some (.string e.old) := HX6.out.cellAt (i := 10) rfl
  go_wp2_with fail
  refine (wPut _ _ _ _ (e.block) 4 HW6.out (by decide) (by decide) hB.1 hB.2 (by have := HN6.out; omega) HS6.out).mono ?_
  rintro r u7 ⟨rfl, h, k⟩
  have HW7 := Lib.hid h
  have HK7 := Lib.hid (HK6.out.trans k)
  have HX7 := Lib.hid (HX6.out.wk k Hne.out (by decide))
  have HS7 : Hid (b ≤ u7.heap.size) := Nat.le_trans HS6.out k.size
  have HN7 := Lib.hid (len_put (n := e.block) (size := 4) HN6.out (by decide))
  clear h k HX6 HW6 HK6 HS6 HN6 c0 c1 c2 c3 c4 c5 c6 c7 c8 c9 c10
  have c0 : u7.cell? ⟨bx, 0, none⟩ = some (.int .u64 e.term) := HX7.out.cellAt (i := 0) rfl
  have c1 : u7.cell? ⟨bx, 1, none⟩ = some (.int .u64 e.index) := HX7.out.cellAt (i := 1) rfl
  have c2 : u7.cell? ⟨bx, 2, none⟩ = some (.int .i64 e.kind) := HX7.out.cellAt (i := 2) rfl
  have c3 : u7.cell? ⟨bx, 3, none⟩ = some (.int .u64 e.client) := HX7.out.cellAt (i := 3) rfl
  have c4 : u7.cell? ⟨bx, 4, none⟩ = some (.int .u64 e.seq) := HX7.out.cellAt (i := 4) rfl
  have c5 : u7.cell? ⟨bx, 5, none⟩ = some (.int .u64 e.block) := HX7.out.cellAt (i := 5) rfl
  have c6 : u7.cell? ⟨bx, 6, none⟩ = some (.int .u64 e.many) := HX7.out.cellAt (i := 6) rfl
  have c7 : u7.cell? ⟨bx, 7, none⟩ = some (.int .i64 e.node) := HX7.out.cellAt (i := 7) rfl
  have c8 : u7.cell? ⟨bx, 8, none⟩ = some (.int .i64 e.level) := HX7.out.cellAt (i := 8) rfl
  have c9 : u7.cell? ⟨bx, 9, none⟩ = some (.string e.data) := HX7.out.cellAt (i := 9) rfl
  have c10 : u7.cell? ⟨bx, 10, none⟩ = some (.string e.old) := HX7.out.cellAt (i := 10) rfl
  go_wp2_with fail
  refine (wPut _ _ _ _ (e.many) 4 HW7.out (by decide) (by decide) hM.1 hM.2 (by have := HN7.out; omega) HS7.out).mono ?_
  rintro r u8 ⟨rfl, h, k⟩
  have HW8 := Lib.hid h
  have HK8 := Lib.hid (HK7.out.trans k)
  have HX8 := Lib.hid (HX7.out.wk k Hne.out (by decide))
  have HS8 : Hid (b ≤ u8.heap.size) := Nat.le_trans HS7.out k.size
  have HN8 := Lib.hid (len_put (n := e.many) (size := 4) HN7.out (by decide))
  clear h k HX7 HW7 HK7 HS7 HN7 c0 c1 c2 c3 c4 c5 c6 c7 c8 c9 c10
  have c0 : u8.cell? ⟨bx, 0, none⟩ = some (.int .u64 e.term) := HX8.out.cellAt (i := 0) rfl
  have c1 : u8.cell? ⟨bx, 1, none⟩ = some (.int .u64 e.index) := HX8.out.cellAt (i := 1) rfl
  have c2 : u8.cell? ⟨bx, 2, none⟩ = some (.int .i64 e.kind) := HX8.out.cellAt (i := 2) rfl
  have c3 : u8.cell? ⟨bx, 3, none⟩ = some (.int .u64 e.client) := HX8.out.cellAt (i := 3) rfl
  have c4 : u8.cell? ⟨bx, 4, none⟩ = some (.int .u64 e.seq) := HX8.out.cellAt (i := 4) rfl
  have c5 : u8.cell? ⟨bx, 5, none⟩ = some (.int .u64 e.block) := HX8.out.cellAt (i := 5) rfl
  have c6 : u8.cell? ⟨bx, 6, none⟩ = some (.int .u64 e.many) := HX8.out.cellAt (i := 6) rfl
  have c7 : u8.cell? ⟨bx, 7, none⟩ = some (.int .i64 e.node) := HX8.out.cellAt (i := 7) rfl
  have c8 : u8.cell? ⟨bx, 8, none⟩ = some (.int .i64 e.level) := HX8.out.cellAt (i := 8) rfl
  have c9 : u8.cell? ⟨bx, 9, none⟩ = some (.string e.data) := HX8.out.cellAt (i := 9) rfl
  have c10 : u8.cell? ⟨bx, 10, none⟩ = some (.string e.old) := HX8.out.cellAt (i := 10) rfl
  have d0 := ca HX8.out 0
  have d1 := ca HX8.out 1
  have d2 := ca HX8.out 2
  have d3 := ca HX8.out 3
  have d4 := ca HX8.out 4
  have d5 := ca HX8.out 5
  have d6 := ca HX8.out 6
  have d7 := ca HX8.out 7
  have d8 := ca HX8.out 8
  have d9 := ca HX8.out 9
  have d10 := ca HX8.out 10
  have HW9 := Lib.hid (HW8.out.fr0 ((Fr.refl [] _).alloc (.cells #[.int .i64 e.node, .int .i64 e.level, .int .i64 (e.data.size : Nat)] 3)))
  have HK9 := Lib.hid (HK8.out.alloc (.cells #[.int .i64 e.node, .int .i64 e.level, .int .i64 (e.data.size : Nat)] 3))
  have HX9 := Lib.hid (HX8.out.alloc (.cells #[.int .i64 e.node, .int .i64 e.level, .int .i64 (e.data.size : Nat)] 3))
  have HS9 : Hid (b ≤ (u8.alloc (.cells #[.int .i64 e.node, .int .i64 e.level, .int .i64 (e.data.size : Nat)] 3)).heap.size) := Nat.le_trans HS8.out (by simp)
  have HA9 := Lib.hid (Blk.new u8 #[.int .i64 e.node, .int .i64 e.level, .int .i64 (e.data.size : Nat)] 3)
  have Hna : Hid (u8.heap.size ≠ b) := Nat.ne_of_gt (by have := HW8.out; rcases this with h | h <;> exact h.lt)
  clear HX8 HW8 HK8 HS8
  go_wp2_with fail
  generalize u8.alloc (.cells #[.int .i64 e.node, .int .i64 e.level, .int .i64 (e.data.size : Nat)] 3) = u9 at *
  generalize u8.heap.size = ar at *
  clear d0 d1 d2 d3 d4 d5 d6 d7 d8 d9 d10
  clear c0 c1 c2 c3 c4 c5 c6 c7 c8 c9 c10
  refine wp_loop_rounds 4 ?_
  rw [rounds_succ]
  have a0 : u9.cell? ⟨ar, 0, none⟩ = some (.int .i64 e.node) := HA9.out.cellAt (i := 0) rfl
  have a1 : u9.cell? ⟨ar, 1, none⟩ = some (.int .i64 e.level) := HA9.out.cellAt (i := 1) rfl
  have a2 : u9.cell? ⟨ar, 2, none⟩ = some (.int .i64 (e.data.size : Nat)) := HA9.out.cellAt (i := 2) rfl
  have c0 : u9.cell? ⟨bx, 0, none⟩ = some (.int .u64 e.term) := HX9.out.cellAt (i := 0) rfl
  have c1 : u9.cell? ⟨bx, 1, none⟩ = some (.int .u64 e.index) := HX9.out.cellAt (i := 1) rfl
  have c2 : u9.cell? ⟨bx, 2, none⟩ = some (.int .i64 e.kind) := HX9.out.cellAt (i := 2) rfl
  have c3 : u9.cell? ⟨bx, 3, none⟩ = some (.int .u64 e.client) := HX9.out.cellAt (i := 3) rfl
  have c4 : u9.cell? ⟨bx, 4, none⟩ = some (.int .u64 e.seq) := HX9.out.cellAt (i := 4) rfl
  have c5 : u9.cell? ⟨bx, 5, none⟩ = some (.int .u64 e.block) := HX9.out.cellAt (i := 5) rfl
  have c6 : u9.cell? ⟨bx, 6, none⟩ = some (.int .u64 e.many) := HX9.out.cellAt (i := 6) rfl
  have c7 : u9.cell? ⟨bx, 7, none⟩ = some (.int .i64 e.node) := HX9.out.cellAt (i := 7) rfl
  have c8 : u9.cell? ⟨bx, 8, none⟩ = some (.int .i64 e.level) := HX9.out.cellAt (i := 8) rfl
  have c9 : u9.cell? ⟨bx, 9, none⟩ = some (.string e.data) := HX9.out.cellAt (i := 9) rfl
  have c10 : u9.cell? ⟨bx, 10, none⟩ = some (.string e.old) := HX9.out.cellAt (i := 10) rfl
  go_wp2_with fail
  clear a0 a1 a2
  refine (wPut _ _ _ _ (e.node) 1 HW9.out (by decide) (by decide) hn.1 (by omega) (by have := HN8.out; omega) HS9.out).mono ?_
  rintro r u10 ⟨rfl, h, k⟩
  have HW10 := Lib.hid h
  have HK10 := Lib.hid (HK9.out.trans k)
  have HX10 := Lib.hid (HX9.out.wk k Hne.out (by decide))
  have HS10 : Hid (b ≤ u10.heap.size) := Nat.le_trans HS9.out k.size
  have HN10 := Lib.hid (len_put (n := e.node) (size := 1) HN8.out (by decide))
  have HA10 := Lib.hid (HA9.out.wk k Hna.out (by decide))
  clear h k HX9 HW9 HK9 HS9 HN8 c0 c1 c2 c3 c4 c5 c6 c7 c8 c9 c10 HA9
  go_wp2_with fail
  rw [rounds_succ]
  have a0 : u10.cell? ⟨ar, 0, none⟩ = some (.int .i64 e.node) := HA10.out.cellAt (i := 0) rfl
  have a1 : u10.cell? ⟨ar, 1, none⟩ = some (.int .i64 e.level) := HA10.out.cellAt (i := 1) rfl
  have a2 : u10.cell? ⟨ar, 2, none⟩ = some (.int .i64 (e.data.size : Nat)) := HA10.out.cellAt (i := 2) rfl
  have c0 : u10.cell? ⟨bx, 0, none⟩ = some (.int .u64 e.term) := HX10.out.cellAt (i := 0) rfl
  have c1 : u10.cell? ⟨bx, 1, none⟩ = some (.int .u64 e.index) := HX10.out.cellAt (i := 1) rfl
  have c2 : u10.cell? ⟨bx, 2, none⟩ = some (.int .i64 e.kind) := HX10.out.cellAt (i := 2) rfl
  have c3 : u10.cell? ⟨bx, 3, none⟩ = some (.int .u64 e.client) := HX10.out.cellAt (i := 3) rfl
  have c4 : u10.cell? ⟨bx, 4, none⟩ = some (.int .u64 e.seq) := HX10.out.cellAt (i := 4) rfl
  have c5 : u10.cell? ⟨bx, 5, none⟩ = some (.int .u64 e.block) := HX10.out.cellAt (i := 5) rfl
  have c6 : u10.cell? ⟨bx, 6, none⟩ = some (.int .u64 e.many) := HX10.out.cellAt (i := 6) rfl
  have c7 : u10.cell? ⟨bx, 7, none⟩ = some (.int .i64 e.node) := HX10.out.cellAt (i := 7) rfl
  have c8 : u10.cell? ⟨bx, 8, none⟩ = some (.int .i64 e.level) := HX10.out.cellAt (i := 8) rfl
  have c9 : u10.cell? ⟨bx, 9, none⟩ = some (.string e.data) := HX10.out.cellAt (i := 9) rfl
  have c10 : u10.cell? ⟨bx, 10, none⟩ = some (.string e.old) := HX10.out.cellAt (i := 10) rfl
  go_wp2_with fail
  clear a0 a1 a2
  refine (wPut _ _ _ _ (e.level) 1 HW10.out (by decide) (by decide) hv.1 (by omega) (by have := HN10.out; omega) HS10.out).mono ?_
  rintro r u11 ⟨rfl, h, k⟩
  have HW11 := Lib.hid h
  have HK11 := Lib.hid (HK10.out.trans k)
  have HX11 := Lib.hid (HX10.out.wk k Hne.out (by decide))
  have HS11 : Hid (b ≤ u11.heap.size) := Nat.le_trans HS10.out k.size
  have HN11 := Lib.hid (len_put (n := e.level) (size := 1) HN10.out (by decide))
  have HA11 := Lib.hid (HA10.out.wk k Hna.out (by decide))
  clear h k HX10 HW10 HK10 HS10 HN10 c0 c1 c2 c3 c4 c5 c6 c7 c8 c9 c10 HA10
  go_wp2_with fail
  rw [rounds_succ]
  have a0 : u11.cell? ⟨ar, 0, none⟩ = some (.int .i64 e.node) := HA11.out.cellAt (i := 0) rfl
  have a1 : u11.cell? ⟨ar, 1, none⟩ = some (.int .i64 e.level) := HA11.out.cellAt (i := 1) rfl
  have a2 : u11.cell? ⟨ar, 2, none⟩ = some (.int .i64 (e.data.size : Nat)) := HA11.out.cellAt (i := 2) rfl
  have c0 : u11.cell? ⟨bx, 0, none⟩ = some (.int .u64 e.term) := HX11.out.cellAt (i := 0) rfl
  have c1 : u11.cell? ⟨bx, 1, none⟩ = some (.int .u64 e.index) := HX11.out.cellAt (i := 1) rfl
  have c2 : u11.cell? ⟨bx, 2, none⟩ = some (.int .i64 e.kind) := HX11.out.cellAt (i := 2) rfl
  have c3 : u11.cell? ⟨bx, 3, none⟩ = some (.int .u64 e.client) := HX11.out.cellAt (i := 3) rfl
  have c4 : u11.cell? ⟨bx, 4, none⟩ = some (.int .u64 e.seq) := HX11.out.cellAt (i := 4) rfl
  have c5 : u11.cell? ⟨bx, 5, none⟩ = some (.int .u64 e.block) := HX11.out.cellAt (i := 5) rfl
  have c6 : u11.cell? ⟨bx, 6, none⟩ = some (.int .u64 e.many) := HX11.out.cellAt (i := 6) rfl
  have c7 : u11.cell? ⟨bx, 7, none⟩ = some (.int .i64 e.node) := HX11.out.cellAt (i := 7) rfl
  have c8 : u11.cell? ⟨bx, 8, none⟩ = some (.int .i64 e.level) := HX11.out.cellAt (i := 8) rfl
  have c9 : u11.cell? ⟨bx, 9, none⟩ = some (.string e.data) := HX11.out.cellAt (i := 9) rfl
  have c10 : u11.cell? ⟨bx, 10, none⟩ = some (.string e.old) := HX11.out.cellAt (i := 10) rfl
  go_wp2_with fail
  clear a0 a1 a2
  refine (wPut _ _ _ _ ((e.data.size : Nat)) 1 HW11.out (by decide) (by decide) (by omega) (by omega) (by have := HN11.out; omega) HS11.out).mono ?_
  rintro r u12 ⟨rfl, h, k⟩
  have HW12 := Lib.hid h
  have HK12 := Lib.hid (HK11.out.trans k)
  have HX12 := Lib.hid (HX11.out.wk k Hne.out (by decide))
  have HS12 : Hid (b ≤ u12.heap.size) := Nat.le_trans HS11.out k.size
  have HN12 := Lib.hid (len_put (n := (e.data.size : Nat)) (size := 1) HN11.out (by decide))
  have HA12 := Lib.hid (HA11.out.wk k Hna.out (by decide))
  clear h k HX11 HW11 HK11 HS11 HN11 c0 c1 c2 c3 c4 c5 c6 c7 c8 c9 c10 HA11
  go_wp2_with fail
  rw [rounds_succ]
  clear Hna HA12
  have c0 : u12.cell? ⟨bx, 0, none⟩ = some (.int .u64 e.term) := HX12.out.cellAt (i := 0) rfl
  have c1 : u12.cell? ⟨bx, 1, none⟩ = some (.int .u64 e.index) := HX12.out.cellAt (i := 1) rfl
  have c2 : u12.cell? ⟨bx, 2, none⟩ = some (.int .i64 e.kind) := HX12.out.cellAt (i := 2) rfl
  have c3 : u12.cell? ⟨bx, 3, none⟩ = some (.int .u64 e.client) := HX12.out.cellAt (i := 3) rfl
  have c4 : u12.cell? ⟨bx, 4, none⟩ = some (.int .u64 e.seq) := HX12.out.cellAt (i := 4) rfl
  have c5 : u12.cell? ⟨bx, 5, none⟩ = some (.int .u64 e.block) := HX12.out.cellAt (i := 5) rfl
  have c6 : u12.cell? ⟨bx, 6, none⟩ = some (.int .u64 e.many) := HX12.out.cellAt (i := 6) rfl
  have c7 : u12.cell? ⟨bx, 7, none⟩ = some (.int .i64 e.node) := HX12.out.cellAt (i := 7) rfl
  have c8 : u12.cell? ⟨bx, 8, none⟩ = some (.int .i64 e.level) := HX12.out.cellAt (i := 8) rfl
  have c9 : u12.cell? ⟨bx, 9, none⟩ = some (.string e.data) := HX12.out.cellAt (i := 9) rfl
  have c10 : u12.cell? ⟨bx, 10, none⟩ = some (.string e.old) := HX12.out.cellAt (i := 10) rfl
  have HU : Hid (Fr [] u12 u12) := Fr.refl _ _
  go_wp2_with fail
  have cw9 : u12.drew.cell? ⟨bx, 9, none⟩ = some (.string e.data) := c9
  clear c0 c1 c2 c3 c4 c5 c6 c7 c8 c9 c10
  have hsum : ¬ 9223372036854775807 < e.data.size + q := by omega
  refine wp_region_held_drew (S := fun w' => w'.cell? ⟨bx, 9, none⟩ = some (.string e.data)) (by kernel_rfl) ?_ (fun hHeld => ?_)
  · first | exact cw9 | go_keep
  refine tk 0 ?_
  simp only [Act.put, lt0', lt1', lt2']
  refine tk 1 ?_
  simp only [Act.put, lt0', lt1', lt2']
  refine tk 2 ?_
  simp only [Act.put, lt0', lt1', lt2']
  refine tk 3 ?_
  simp only [Act.put, lt0', lt1', lt2']
  refine tk 4 ?_
  simp only [Act.put, lt0', lt1', lt2']
  refine tk 5 ?_
  simp only [Act.put, lt0', lt1', lt2']
  refine tk 6 ?_
  simp only [Act.put, lt0', lt1', lt2']
  refine wpAnyH_ready (rs := [7]) (by kernel_rfl) (by simp) ?_
  refine AllReadyH.cons (by simp only [lg0, lg1, lg2]; rfl) (fun K hK => ?_) AllReadyH.nil
  go_simp
  (go_at_call 29; rw [HSub.out]; refine (HRep.out _).mono ?_; rintro r wr ⟨rfl, g⟩; have HG := Lib.hid (HU.out.drew.trans0 g); have cr9 : wr.cell? ⟨bx, 9, none⟩ = some (.string e.data) := (HX12.out.fr0 HG.out).cellAt (i := 9) rfl; clear g)
  refine hK.out _ _ ?_ (fun hHeld9 => ?_)
  · exact cr9
  clear hK K
  try simp only [Act.put, lt0', lt1', lt2']
  refine tk 8 ?_
  simp only [Act.put, lt0', lt1', lt2']
  refine wpAnyH_ready (rs := [9]) (by kernel_rfl) (by simp) ?_
  refine AllReadyH.cons (by simp only [lg0, lg1, lg2]; rfl) (fun K hK => ?_) AllReadyH.nil
  go_simp
  (go_at_call 28; rw [HCat.out]; refine (bWrite _ b b _ _ (HW12.out.fr0 HG.out) (by rw [HN12.out, HLC.out]; omega) (Nat.le_trans HS12.out HG.out.size)).mono ?_; rintro r wz ⟨rfl, h, k⟩)
  refine hK.out _ _ ?_ (fun hHeld11 => ?_)
  · exact (HX12.out.wk ((Wk.ofFr HG.out).trans k) Hne.out (by decide)).cellAt (i := 9) rfl
  clear hK K
  try simp only [Act.put, lt0', lt1', lt2']
  refine wpAnyH_done (by kernel_rfl) ?_ _
  have HZ := Lib.hid h
  have HKZ := Lib.hid (HK12.out.trans ((Wk.ofFr HG.out).trans k))
  clear h k cw9 cr9
  go_wp2_with fail
  refine (bString _ _ _ _ HZ.out (app_ne HN12.out (by decide))).mono ?_
  rintro r w' ⟨rfl, k⟩
  go_wp2_with fail
  go_ret2
  exact ⟨by rw [HP5.out]; rfl, HFa.out.wk (HKZ.out.trans k) Hb1.out Hb1.out⟩
set_option maxRecDepth 100000 in
set_option maxHeartbeats 4000000 in
theorem pPut_bad (e : Ent) (w : World) (he : e.Fits) (hok : e.ok = false) : Calls Tryd.prog 8 #[.agg e.cells] w fun r w' => r = .returned (.tuple #[.string (bs []), .bool false]) ∧ Fr [] w w' := by
  have HR := Lib.hid (fun w => eRight e w he)
  rw [hok] at HR
  clear hok
  unfold Ent.cells at HR ⊢
  go_enter Tryd.func8, Tryd.ntmps8
  go_wp2_with fail
  refine (HR.out _).mono ?_
  rintro r w1 ⟨rfl, f1⟩
  have HF1 : Hid (Fr [] w w1) := ((Fr.refl [] w).alloc _).trans0 f1
  clear f1
  go_wp2_with fail
  go_ret2
  exact ⟨rfl, HF1.out⟩

set_option maxRecDepth 100000 in
set_option maxHeartbeats 4000000 in
theorem pPut_two (e : Ent) (w : World) (he : e.Fits) (hok : e.ok = true) (hl : e.lvl = 2) : Calls Tryd.prog 8 #[.agg e.cells] w fun r w' => r = .returned (.tuple #[.string (bs []), .bool false]) ∧ Fr [] w w' := by
  have HR := Lib.hid (fun w => eRight e w he)
  have HLv := Lib.hid (fun w => eLevel e w)
  rw [hok] at HR
  rw [hl] at HLv
  clear hok hl
  unfold Ent.cells at HR HLv ⊢
  go_enter Tryd.func8, Tryd.ntmps8
  go_wp2_with fail
  refine (HR.out _).mono ?_
  rintro r w1 ⟨rfl, f1⟩
  have HB1 := Lib.hid ((Blk.new w #[.int .u64 e.term, .int .u64 e.index, .int .i64 e.kind, .int .u64 e.client, .int .u64 e.seq, .int .u64 e.block, .int .u64 e.many, .int .i64 e.node, .int .i64 e.level, .string e.data, .string e.old] 24).fr0 f1)
  have HF1 : Hid (Fr [] w w1) := ((Fr.refl [] w).alloc _).trans0 f1
  generalize w.heap.size = bx at *
  clear f1
  have c0 : w1.cell? ⟨bx, 0, none⟩ = some (.int .u64 e.term) := HB1.out.cellAt (i := 0) rfl
  have c1 : w1.cell? ⟨bx, 1, none⟩ = some (.int .u64 e.index) := HB1.out.cellAt (i := 1) rfl
  have c2 : w1.cell? ⟨bx, 2, none⟩ = some (.int .i64 e.kind) := HB1.out.cellAt (i := 2) rfl
  have c3 : w1.cell? ⟨bx, 3, none⟩ = some (.int .u64 e.client) := HB1.out.cellAt (i := 3) rfl
  have c4 : w1.cell? ⟨bx, 4, none⟩ = some (.int .u64 e.seq) := HB1.out.cellAt (i := 4) rfl
  have c5 : w1.cell? ⟨bx, 5, none⟩ = some (.int .u64 e.block) := HB1.out.cellAt (i := 5) rfl
  have c6 : w1.cell? ⟨bx, 6, none⟩ = some (.int .u64 e.many) := HB1.out.cellAt (i := 6) rfl
  have c7 : w1.cell? ⟨bx, 7, none⟩ = some (.int .i64 e.node) := HB1.out.cellAt (i := 7) rfl
  have c8 : w1.cell? ⟨bx, 8, none⟩ = some (.int .i64 e.level) := HB1.out.cellAt (i := 8) rfl
  have c9 : w1.cell? ⟨bx, 9, none⟩ = some (.string e.data) := HB1.out.cellAt (i := 9) rfl
  have c10 : w1.cell? ⟨bx, 10, none⟩ = some (.string e.old) := HB1.out.cellAt (i := 10) rfl
  go_wp2_with fail
  refine (HLv.out _).mono ?_
  rintro r w2 ⟨rfl, f2⟩
  have HF2 := Lib.hid (HF1.out.trans0 f2)
  clear f2 c0 c1 c2 c3 c4 c5 c6 c7 c8 c9 c10
  go_wp2_with fail
  go_ret2
  exact ⟨rfl, HF2.out⟩

theorem pPut (e : Ent) (w : World) (he : e.Fits) : Calls Tryd.prog 8 #[.agg e.cells] w fun r w' => r = .returned (.tuple #[.string (bs (put5R e)), .bool (e.ok && decide (e.lvl ≤ 1))]) ∧ Fr [] w w' := by
  unfold put5R
  cases hok : e.ok with
  | false => exact pPut_bad e w he hok
  | true =>
    by_cases hl : e.lvl ≤ 1
    · rw [decide_eq_true hl]
      exact pPut_yes e w he hok hl
    · rw [decide_eq_false hl]
      exact pPut_two e w he hok (by unfold Ent.lvl at hl ⊢; split at hl <;> simp_all)
end Go.Proofs.YthfaaoeecajkeaaDoor

namespace Go.Proofs.YthfaaoeecajkeaaDoor
open Go.RowKit

def Msg.bare (m : Msg) (k : Int) (yes : Bool) : Msg := ⟨k, m.sent, m.goal, m.term, 0, 0, 0, m.mark, yes, [], ⟨#[]⟩⟩
def msg0 : Msg := ⟨0, 0, 0, 0, 0, 0, 0, 0, false, [], ⟨#[]⟩⟩
def noEnts : Value := .slice none 0 0
/-- What Shim answers: the message, its entries' slice, whether there is one. -/
def shimOf (m : Msg) (v : Value) : Msg × Value × Bool :=
  if m.ok = false then (msg0, noEnts, false) else if m.kind = 9 then (m.bare 5 false, noEnts, true) else if m.kind = 10 then (m.bare 6 true, noEnts, true) else if m.lvl = 2 then (msg0, noEnts, false) else (m, v, true)
theorem Blk.put11 {w : World} {r : Nat} {t : TypeId} {a0 a1 a2 a3 a4 a5 a6 a7 a8 a9 a10 : Value} (h : Blk w r #[a0, a1, a2, a3, a4, a5, a6, a7, a8, a9, a10] t) (b0 b1 b2 b3 b4 b5 b6 b7 b8 b9 b10 : Value) :
    Blk (((((((((((w.setCell ⟨r, 0, none⟩ b0).setCell ⟨r, 1, none⟩ b1).setCell ⟨r, 2, none⟩ b2).setCell ⟨r, 3, none⟩ b3).setCell ⟨r, 4, none⟩ b4).setCell ⟨r, 5, none⟩ b5).setCell ⟨r, 6, none⟩ b6).setCell ⟨r, 7, none⟩ b7).setCell ⟨r, 8, none⟩ b8).setCell ⟨r, 9, none⟩ b9).setCell ⟨r, 10, none⟩ b10) r #[b0, b1, b2, b3, b4, b5, b6, b7, b8, b9, b10] t := by
  have k := ((((((((((h.set 0 b0).set 1 b1).set 2 b2).set 3 b3).set 4 b4).set 5 b5).set 6 b6).set 7 b7).set 8 b8).set 9 b9).set 10 b10
  simp only [List.setIfInBounds_toArray, List.set_cons_zero, List.set_cons_succ] at k
  exact k
theorem Msg.lvl_or (m : Msg) : m.lvl = 1 ∨ m.lvl = 2 := by unfold Msg.lvl; split <;> simp


end Go.Proofs.YthfaaoeecajkeaaDoor

namespace Go.Proofs.YthfaaoeecajkeaaDoor
open Go.RowKit

theorem numF_at (L : List UInt8) (o p k : Nat) (h : o + p + k ≤ L.length) : numF L (o + p) k = num (L.drop o) p k := by
  unfold numF
  rw [if_pos h, num_drop]
theorem cut5_at (L : List UInt8) (o cut : Nat) (h : o + 110 ≤ L.length) (hc : mnI (numF L (o + 43) 1) 66 = (cut : Int)) : cut5 (L.drop o) = cut := by
  have hb := num_byte (L.drop o) 43
  rw [numF_at L o 43 1 (by omega)] at hc
  unfold cut5
  have := mnI_le (num (L.drop o) 43 1) 66
  omega
theorem ent5_at (L : List UInt8) (o cut : Nat) (D : ByteArray) (h : o + 110 ≤ L.length) (hD : bs (strF L (o + 44) 66) = D) (hc : mnI (numF L (o + 43) 1) 66 = (cut : Int)) :
    (⟨numF L (o + 1) 8, numF L (o + 9) 8, numF L o 1, numF L (o + 17) 8, numF L (o + 25) 8, numF L (o + 33) 4, numF L (o + 37) 4, numF L (o + 41) 1, numF L (o + 42) 1, D.extract 0 cut, ⟨#[]⟩⟩ : Ent) = ent5 (L.drop o) := by
  have h0 := numF_at L o 0 1 (by omega)
  rw [Nat.add_zero] at h0
  have hs : strF L (o + 44) 66 = seg (L.drop o) 44 66 := by
    unfold strF seg
    rw [if_pos (by omega), List.drop_drop]
  have hx : D.extract 0 cut = bs ((seg (L.drop o) 44 66).take cut) := by
    rw [← hD, hs, bs_extract, List.drop_zero]
  unfold ent5
  rw [hx, h0, cut5_at L o cut h hc, numF_at L o 1 8 (by omega), numF_at L o 9 8 (by omega), numF_at L o 17 8 (by omega), numF_at L o 25 8 (by omega), numF_at L o 33 4 (by omega), numF_at L o 37 4 (by omega), numF_at L o 41 1 (by omega), numF_at L o 42 1 (by omega)]
  rfl
end Go.Proofs.YthfaaoeecajkeaaDoor

namespace Go.Proofs.YthfaaoeecajkeaaDoor

theorem dw_nil (l : List UInt8) : l.dropWhile (· == 0) = [] ↔ ∀ x, x ∈ l → x = 0 := by
  induction l with
  | nil => simp
  | cons a l ih =>
    rw [List.dropWhile_cons]
    by_cases h : a = 0
    · subst h
      simp [ih]
    · simp [h]
theorem dw_head (l : List UInt8) : ∀ a t, l.dropWhile (· == 0) = a :: t → a ≠ 0 := by
  induction l with
  | nil => intro a t h; simp at h
  | cons b l ih =>
    intro a t h
    rw [List.dropWhile_cons] at h
    by_cases hb : b = 0
    · subst hb
      simp at h
      exact ih a t h
    · simp [hb] at h
      rw [← h.1]
      exact hb
theorem trim_nil (l : List UInt8) : Lib.trimB l 0 = [] ↔ ∀ x, x ∈ l → x = 0 := by
  unfold Lib.trimB Lib.trimLeftB Lib.trimRightB
  rw [dw_nil]
  constructor
  · intro h x hx
    have h2 : l.reverse.dropWhile (· == 0) = [] := by
      cases hd : l.reverse.dropWhile (· == 0) with
      | nil => rfl
      | cons a t => exact absurd (h a (by rw [hd]; simp)) (dw_head _ a t hd)
    exact (dw_nil _).1 h2 x (by simpa using hx)
  · intro h x hx
    have h2 : l.reverse.dropWhile (· == 0) = [] := (dw_nil _).2 (fun y hy => h y (by simpa using hy))
    rw [h2] at hx
    simp at hx

theorem cut_pad (L : List UInt8) (o cut : Nat) (D : ByteArray) (h : o + 110 ≤ L.length) (hD : bs (strF L (o + 44) 66) = D) (hc : mnI (numF L (o + 43) 1) 66 = (cut : Int)) :
    (D.extract cut D.size).data.toList = pad5 (L.drop o) := by
  have hs : strF L (o + 44) 66 = seg (L.drop o) 44 66 := by
    unfold strF seg
    rw [if_pos (by omega), List.drop_drop]
  have hl : (seg (L.drop o) 44 66).length = 66 := seg_length _ _ _ (by rw [List.length_drop]; omega)
  rw [← hD, hs, bs_size, hl, bs_extract, bs_list]
  unfold pad5
  rw [cut5_at L o cut h hc, List.take_of_length_le (Nat.le_of_eq hl)]
theorem good5_at (L : List UInt8) (o cut : Nat) (D : ByteArray) (E0 : Ent) (h : o + 110 ≤ L.length) (hD : bs (strF L (o + 44) 66) = D) (hc : mnI (numF L (o + 43) 1) 66 = (cut : Int)) (he : E0 = ent5 (L.drop o)) :
    good5 (L.drop o) = (E0.ok && decide (E0.lvl ≤ 1) && decide (Lib.trimB (D.extract cut D.size).data.toList 0 = [])) := by
  rw [cut_pad L o cut D h hD hc, he]
  unfold good5
  congr 1
  rw [Bool.eq_iff_iff, decide_eq_true_iff, trim_nil, List.all_eq_true]
  simp only [beq_iff_eq]
theorem get5_no (L : List UInt8) (o : Nat) (hg : good5 (L.drop o) = false) : get5 L o = (ent0, L.length + 1) := by
  unfold get5
  rw [if_neg (fun hh => by rw [hg] at hh; exact absurd hh.2 (by decide))]
theorem get5_yes (L : List UInt8) (o : Nat) (E : Ent) (h : o + 110 ≤ L.length) (hg : good5 (L.drop o) = true) (he : E = ent5 (L.drop o)) : get5 L o = (E, o + 110) := by
  unfold get5
  rw [if_pos ⟨h, hg⟩, he]
end Go.Proofs.YthfaaoeecajkeaaDoor
