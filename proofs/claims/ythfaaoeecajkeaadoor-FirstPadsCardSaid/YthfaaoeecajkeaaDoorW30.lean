/-
  Texts of this seat, joined: GRPut GRGet FBend.
-/
import Derived.Test.YthfaaoeecajkeaaDoorW15
import Derived.Test.YthfaaoeecajkeaaDoorW21
import Derived.Test.YthfaaoeecajkeaaDoorW17
import Derived.Deep.RegionHeld3
import Derived.Test.YthfaaoeecajkeaaDoorWtk
import Derived.Test.YthfaaoeecajkeaaDoorW14
import Derived.Test.YthfaaoeecajkeaaDoorW00
import Derived.RegionTactic
import Derived.BigRegion
import Derived.IntWalk
set_option linter.unusedSimpArgs false
set_option linter.unusedVariables false
namespace Go.Proofs.YthfaaoeecajkeaaDoor
open List renaming getElem?_toArray → lg0, getElem?_cons_succ → lg1, getElem?_cons_zero → lg2, setIfInBounds_toArray → lt0', set_cons_zero → lt1', set_cons_succ → lt2'
open Go.RowKit

set_option maxHeartbeats 400000 in
theorem rFixed5 (n : Int) (size : Nat) (w : World) (h : size ≤ 8) (h1 : 1 ≤ size) (hn0 : 0 ≤ n) (hn : n < 18446744073709551616):
    Calls Tryd.prog 34 #[.int .u64 n, .int .i64 size] w fun e w' => e = .returned (.string (bs (fixL n size))) ∧ Fr [] w w' := by
  have HC := Lib.hid (fun w => rvFixed n size w h h1 hn0 hn)
  go_enter Tryd.func34, Tryd.ntmps34
  go_wp2_with fail
  refine (HC.out _).mono ?_
  rintro r w1 ⟨rfl, f1⟩
  go_wp2_with fail
  go_ret
  exact ⟨rfl, f1⟩

theorem made_zeros (q : Nat) (w : World) (h0 : 1 ≤ q) (h : q ≤ 66) : (Instr.makeSlice 43 (.int .i64 (q : Int)) (.int .i64 (q : Int))).run Tryd.prog w = .ok (.slice (some ⟨w.heap.size, 0, none⟩) q q) (w.alloc (.cells (Array.replicate q (.int .u8 0)) 5)) := by
  obtain ⟨i, hi1, hi2, hi3, hi4⟩ := info_parts (show (Tryd.prog.info? 5).map (fun i => (i.zero, i.size, i.bytes)) = some (some (.int .u8 0), 1, 1) by kernel_rfl)
  have hr := run_make (P := Tryd.prog) (w := w) 43 5 i (.int .u8 0) Tryd.underlying43 hi1 hi2 .i64 .i64 q q (by omega) (Int.le_refl _) (by rw [hi4]; omega) (by omega)
  have hcells : madeCells (Value.int .u8 0).cells ((q : Int).toNat * i.size) = Array.replicate q (.int .u8 0) := by
    rw [hi3]
    apply Array.ext
    · simp [madeCells, Value.cells]
    · intro j _ _; simp [madeCells, Nat.mod_one, Value.cells]
  rw [hcells, Int.toNat_natCast] at hr
  exact hr
theorem str_zeros (q : Nat) (w : World) : (convert 43 9 (.slice (some ⟨w.heap.size, 0, none⟩) q q)).run Tryd.prog (w.alloc (.cells (Array.replicate q (.int .u8 0)) 5)) = .ok (.string (bs (List.replicate q 0))) (w.alloc (.cells (Array.replicate q (.int .u8 0)) 5)) := by
  have h := run_convert_bytes_back (P := Tryd.prog) (w.alloc (.cells (Array.replicate q (.int .u8 0)) 5)) 43 9 5 ⟨w.heap.size, 0, none⟩ q (List.replicate q 0) Tryd.underlying43 Tryd.underlying5 Tryd.underlying9
    (fun j hj => by
      have hj' : j < q := by simpa using hj
      have e : (⟨w.heap.size, 0, none⟩ : Addr).add j = ⟨w.heap.size, j, none⟩ := by
        unfold Addr.add
        split
        · subst j; rfl
        · simp
      rw [e, (Blk.new w (Array.replicate q (.int .u8 0)) 5).cell]
      simp [hj'])
  rw [List.length_replicate] at h
  exact h

set_option maxRecDepth 100000 in
set_option maxHeartbeats 8000000 in
theorem rPut_yes (e : Ent) (w : World) (he : e.Fits) (hok : e.ok = true) (hl : e.lvl ≤ 1) : Calls Tryd.prog 10 #[.agg e.cells] w fun r w' => r = .returned (.tuple #[.string (bs (put5 e)), .bool true]) ∧ Fr [] w w' := by
  obtain ⟨hk, hn, hv⟩ := ok_small e hok
  have hd := ok_data e hok
  have HR := Lib.hid (fun w => rRight e w he)
  have HLv := Lib.hid (fun w => rLevel e w)
  rw [hok] at HR
  have hlv : e.lvl = 1 := by unfold Ent.lvl at hl ⊢; split at hl <;> simp_all
  rw [hlv] at HLv
  obtain ⟨hT, hI, hC, hS, hB, hM, hD, hO⟩ := he
  unfold U64 at *
  unfold maxLen at hD hO
  have kk : IntKind.u64.wrap e.kind = e.kind := by rw [IntKind.wrap_u64]; omega
  have kn : IntKind.u64.wrap e.node = e.node := by rw [IntKind.wrap_u64]; omega
  have kv : IntKind.u64.wrap e.level = e.level := by rw [IntKind.wrap_u64]; omega
  have ks : IntKind.u64.wrap (e.data.size : Nat) = (e.data.size : Nat) := by rw [IntKind.wrap_u64]; omega
  have HP5 : Hid (put5 e = fixL e.kind 1 ++ fixL e.term 8 ++ fixL e.index 8 ++ fixL e.client 8 ++ fixL e.seq 8 ++ fixL e.block 4 ++ fixL e.many 4 ++ fixL e.node 1 ++ fixL e.level 1 ++ fixL (e.data.size : Nat) 1 ++ (e.data.data.toList ++ List.replicate (66 - e.data.size) 0)) := by
    unfold put5
    simp only [List.append_assoc]
    exact trivial
  unfold Ent.cells at HR HLv ⊢
  clear hok hl hlv
  obtain ⟨q, hq⟩ : ∃ q : Nat, 66 - e.data.size = q := ⟨_, rfl⟩
  have hq66 : (e.data.size : Int) + (q : Int) = 66 := by omega
  have hsub : wrap64 (66 - (e.data.size : Int)) = (q : Int) := by rw [IntWalk.wrap64_in] <;> omega
  have hsub2 : IntKind.i64.wrap (66 - (e.data.size : Int)) = (q : Int) := by rw [IntWalk.i64_in] <;> omega
  rw [hq] at HP5
  have hmk := fun w => made_zeros q w (by omega) (by omega)
  have hcv : ∀ w : World, (convert 43 9 (.slice (some ⟨w.heap.size, 0, none⟩) q q)).run Tryd.prog (w.alloc (.cells (Array.replicate q (.int .u8 0)) 5)).drew = .ok (.string (bs (List.replicate q 0))) (w.alloc (.cells (Array.replicate q (.int .u8 0)) 5)).drew := fun w => str_zeros q w.drew
  obtain ⟨PAD, hPAD⟩ : ∃ X, bs (List.replicate q 0) = X := ⟨_, rfl⟩
  have hps : PAD.size = q := by rw [← hPAD, bs_size, List.length_replicate]
  rw [hPAD] at hcv
  have HCat : Hid (e.data ++ PAD = bs (e.data.data.toList ++ List.replicate q 0)) := by
    show e.data ++ PAD = _
    rw [← hPAD]
    conv => lhs; lhs; rw [← bs_of e.data]
    rw [bs_append]
  clear hq hPAD
  go_enter Tryd.func10, Tryd.ntmps10
  go_wp2_with fail
  refine (HR.out _).mono ?_
  rintro r w1 ⟨rfl, f1⟩
  have HB1 := Lib.hid ((Blk.new w #[.int .u64 e.term, .int .u64 e.index, .int .i64 e.kind, .int .u64 e.client, .int .u64 e.seq, .int .u64 e.block, .int .u64 e.many, .int .i64 e.node, .int .i64 e.level, .string e.data, .string e.old] 24).fr0 f1)
  have HF1 : Hid (Fr [] w w1) := ((Fr.refl [] w).alloc _).trans0 f1
  generalize hbx : w.heap.size = bx at *
  have Hbx := Lib.hid hbx
  clear f1 hbx
  have c0 : w1.cell? ⟨bx, 0, none⟩ = some (.int .u64 e.term) := HB1.out.cellAt (i := 0) rfl
  have c1 : w1.cell? ⟨bx, 1, none⟩ = some (.int .u64 e.index) := HB1.out.cellAt (i := 1) rfl
  have c2 : w1.cell? ⟨bx, 2, none⟩ = some (.int .i64 e.kind) := HB1.out.cellAt (i := 2) rfl
  have c3 : w1.cell? ⟨bx, 3, none⟩ = some (.int .u64 e.client) := HB1.out.cellAt (i := 3) rfl
  have c4 : w1.cell? ⟨bx, 4, none⟩ = some (.int .u64 e.seq) := HB1.out.cellAt (i := 4) rfl
  have c5 : w1.cell? ⟨bx, 5, none⟩ = some (.int .u64 e.block) := HB1.out.cellAt (i := 5) rfl
  have c6 : w1.cell? ⟨bx, 6, none⟩ = some (.int .u64 e.many) := HB1.out.cellAt (i := 6) rfl
  have c7 : w1.cell? ⟨bx, 7, none⟩ = some (.int .i64 e.node) := HB1.out.cellAt (i := 7) rfl
  have c8 : w1.cell? ⟨bx, 8, none⟩ = some (.int .i64 e.level) := HB1.out.cellAt (i := 8) rfl
  have c9 : w1.cell? ⟨bx, 9, none⟩ = some (.string e.data) := HB1.out.cellAt (i := 9) rfl
  have c10 : w1.cell? ⟨bx, 10, none⟩ = some (.string e.old) := HB1.out.cellAt (i := 10) rfl
  go_wp2_with fail
  refine (HLv.out _).mono ?_
  rintro r w2 ⟨rfl, f2⟩
  have HB2 := Lib.hid (HB1.out.fr0 f2)
  have HF2 := Lib.hid (HF1.out.trans0 f2)
  clear f2 HB1 HF1 c0 c1 c2 c3 c4 c5 c6 c7 c8 c9 c10
  have c9 : w2.cell? ⟨bx, 9, none⟩ = some (.string e.data) := HB2.out.cellAt (i := 9) rfl
  have c9' : w2.drew.cell? ⟨bx, 9, none⟩ = some (.string e.data) := HB2.out.cellAt (i := 9) rfl
  have hsum : ¬ 9223372036854775807 < e.data.size + q := by omega
  go_wp2_with fail
  refine wp_region_held_drew (S := fun w' => w'.cell? ⟨bx, 9, none⟩ = some (.string e.data)) (by kernel_rfl) ?_ (fun hHeld => ?_)
  · exact c9'
  refine tk 0 ?_
  simp only [Act.put, lt0', lt1', lt2']
  refine tk 1 ?_
  simp only [Act.put, lt0', lt1', lt2']
  refine tk 2 ?_
  simp only [Act.put, lt0', lt1', lt2']
  refine tk 3 ?_
  simp only [Act.put, lt0', lt1', lt2']
  refine tk 4 ?_
  simp only [Act.put, lt0', lt1', lt2']
  refine tk 5 ?_
  simp only [Act.put, lt0', lt1', lt2']
  refine wpAnyH_ready (rs := [6]) (by kernel_rfl) (by simp) ?_
  refine AllReadyH.cons (by simp only [lg0, lg1, lg2]; rfl) (fun K hK => ?_) AllReadyH.nil
  go_simp
  refine hK.out _ _ ?_ (fun hHeld6 => ?_)
  · go_keep
  clear hK K
  try simp only [Act.put, lt0', lt1', lt2']
  refine wpAnyH_ready (rs := [7]) (by kernel_rfl) (by simp) ?_
  refine AllReadyH.cons (by simp only [lg0, lg1, lg2]; rfl) (fun K hK => ?_) AllReadyH.nil
  go_simp
  refine hK.out _ _ ?_ (fun hHeld7 => ?_)
  · go_keep
  clear hK K
  try simp only [Act.put, lt0', lt1', lt2']
  refine tk 8 ?_
  simp only [Act.put, lt0', lt1', lt2']
  refine wpAnyH_ready (rs := [9]) (by kernel_rfl) (by simp) ?_
  refine AllReadyH.cons (by simp only [lg0, lg1, lg2]; rfl) (fun K hK => ?_) AllReadyH.nil
  go_simp
  refine hK.out _ _ ?_ (fun hHeld9 => ?_)
  · go_keep
  clear hK K
  try simp only [Act.put, lt0', lt1', lt2']
  refine wpAnyH_done (by kernel_rfl) ?_ _
  have HB3 := Lib.hid ((HB2.out.alloc (.cells (Array.replicate q (.int .u8 0)) 5)).drew)
  have HF3 := Lib.hid ((HF2.out.alloc (.cells (Array.replicate q (.int .u8 0)) 5)).drew)
  clear HB2 HF2 c9 c9' hcv hmk hsub hsub2 hHeld hHeld6 hHeld7 hHeld9 hsum
  generalize w2.heap.size = ba at *
  generalize (w2.alloc (.cells (Array.replicate q (.int .u8 0)) 5)).drew = w3 at *
  obtain ⟨DP, hDP⟩ : ∃ X, e.data ++ PAD = X := ⟨_, rfl⟩
  have hDPs : DP.size = 66 := by rw [← hDP, ByteArray.size_append]; omega
  rw [hDP] at HCat ⊢
  clear hDP
  go_wp2_with fail
  have HB4 : Hid (Blk w3.drew bx #[.int .u64 e.term, .int .u64 e.index, .int .i64 e.kind, .int .u64 e.client, .int .u64 e.seq, .int .u64 e.block, .int .u64 e.many, .int .i64 e.node, .int .i64 e.level, .string e.data, .string e.old] 24) := HB3.out.drew
  have HF4 := Lib.hid HF3.out.drew
  refine wp_region_held_drew (S := fun w' => w'.cell? ⟨bx, 0, none⟩ = some (.int .u64 e.term) ∧ w'.cell? ⟨bx, 1, none⟩ = some (.int .u64 e.index) ∧ w'.cell? ⟨bx, 2, none⟩ = some (.int .i64 e.kind) ∧ w'.cell? ⟨bx, 3, none⟩ = some (.int .u64 e.client) ∧ w'.cell? ⟨bx, 4, none⟩ = some (.int .u64 e.seq) ∧ w'.cell? ⟨bx, 5, none⟩ = some (.int .u64 e.block) ∧ w'.cell? ⟨bx, 6, none⟩ = some (.int .u64 e.many) ∧ w'.cell? ⟨bx, 7, none⟩ = some (.int .i64 e.node) ∧ w'.cell? ⟨bx, 8, none⟩ = some (.int .i64 e.level) ∧ w'.cell? ⟨bx, 9, none⟩ = some (.string e.data)) (by kernel_rfl) ?_ (fun hHeld => ?_)
  · exact ⟨HB4.out.cellAt (i := 0) rfl, HB4.out.cellAt (i := 1) rfl, HB4.out.cellAt (i := 2) rfl, HB4.out.cellAt (i := 3) rfl, HB4.out.cellAt (i := 4) rfl, HB4.out.cellAt (i := 5) rfl, HB4.out.cellAt (i := 6) rfl, HB4.out.cellAt (i := 7) rfl, HB4.out.cellAt (i := 8) rfl, HB4.out.cellAt (i := 9) rfl⟩
  refine tk 0 ?_
  simp only [Act.put, lt0', lt1', lt2']
  refine tk 1 ?_
  simp only [Act.put, lt0', lt1', lt2']
  refine tk 2 ?_
  simp only [Act.put, lt0', lt1', lt2']
  refine tk 4 ?_
  simp only [Act.put, lt0', lt1', lt2']
  refine tk 5 ?_
  simp only [Act.put, lt0', lt1', lt2']
  refine tk 8 ?_
  simp only [Act.put, lt0', lt1', lt2']
  refine tk 9 ?_
  simp only [Act.put, lt0', lt1', lt2']
  refine tk 12 ?_
  simp only [Act.put, lt0', lt1', lt2']
  refine tk 13 ?_
  simp only [Act.put, lt0', lt1', lt2']
  refine tk 16 ?_
  simp only [Act.put, lt0', lt1', lt2']
  refine tk 17 ?_
  simp only [Act.put, lt0', lt1', lt2']
  refine tk 20 ?_
  simp only [Act.put, lt0', lt1', lt2']
  refine tk 21 ?_
  simp only [Act.put, lt0', lt1', lt2']
  refine tk 24 ?_
  simp only [Act.put, lt0', lt1', lt2']
  refine tk 25 ?_
  simp only [Act.put, lt0', lt1', lt2']
  refine tk 28 ?_
  simp only [Act.put, lt0', lt1', lt2']
  refine tk 29 ?_
  simp only [Act.put, lt0', lt1', lt2']
  refine tk 30 ?_
  simp only [Act.put, lt0', lt1', lt2']
  refine tk 33 ?_
  simp only [Act.put, lt0', lt1', lt2']
  refine tk 34 ?_
  simp only [Act.put, lt0', lt1', lt2']
  refine tk 35 ?_
  simp only [Act.put, lt0', lt1', lt2']
  refine tk 38 ?_
  simp only [Act.put, lt0', lt1', lt2']
  refine tk 39 ?_
  simp only [Act.put, lt0', lt1', lt2']
  refine tk 40 ?_
  simp only [Act.put, lt0', lt1', lt2']
  refine tk 41 ?_
  simp only [Act.put, lt0', lt1', lt2']
  refine tk 44 ?_
  simp only [Act.put, lt0', lt1', lt2']
  refine wpAnyH_ready (rs := [3]) (by kernel_rfl) (by simp) ?_
  refine AllReadyH.cons (by simp only [lg0, lg1, lg2]; rfl) (fun K hK => ?_) AllReadyH.nil
  go_simp
  (go_at_call 34; refine (rFixed5 (e.kind) 1 _ (by decide) (by decide) hk.1 (by omega)).mono ?_; rintro r x0 ⟨rfl, g⟩; have HBx0 := Lib.hid (HB4.out.fr0 g); have HFx0 := Lib.hid (HF4.out.trans0 g); clear g)
  refine hK.out _ _ ?_ (fun hHeldc0 => ?_)
  · exact ⟨HBx0.out.cellAt (i := 0) rfl, HBx0.out.cellAt (i := 1) rfl, HBx0.out.cellAt (i := 2) rfl, HBx0.out.cellAt (i := 3) rfl, HBx0.out.cellAt (i := 4) rfl, HBx0.out.cellAt (i := 5) rfl, HBx0.out.cellAt (i := 6) rfl, HBx0.out.cellAt (i := 7) rfl, HBx0.out.cellAt (i := 8) rfl, HBx0.out.cellAt (i := 9) rfl⟩
  clear hK K
  try simp only [Act.put, lt0', lt1', lt2']
  obtain ⟨X0, hX0⟩ : ∃ X, bs (fixL (e.kind) 1) = X := ⟨_, rfl⟩
  have s0 : X0.size = 1 := by rw [← hX0, bs_size, fixL_length _ 1 (by decide)]
  rw [hX0]
  have HX0 := Lib.hid hX0
  clear hX0
  refine wpAnyH_ready (rs := [6]) (by kernel_rfl) (by simp) ?_
  refine AllReadyH.cons (by simp only [lg0, lg1, lg2]; rfl) (fun K hK => ?_) AllReadyH.nil
  go_simp
  (go_at_call 34; refine (rFixed5 (e.term) 8 _ (by decide) (by decide) hT.1 hT.2).mono ?_; rintro r x1 ⟨rfl, g⟩; have HBx1 := Lib.hid (HBx0.out.fr0 g); have HFx1 := Lib.hid (HFx0.out.trans0 g); clear g)
  refine hK.out _ _ ?_ (fun hHeldc1 => ?_)
  · exact ⟨HBx1.out.cellAt (i := 0) rfl, HBx1.out.cellAt (i := 1) rfl, HBx1.out.cellAt (i := 2) rfl, HBx1.out.cellAt (i := 3) rfl, HBx1.out.cellAt (i := 4) rfl, HBx1.out.cellAt (i := 5) rfl, HBx1.out.cellAt (i := 6) rfl, HBx1.out.cellAt (i := 7) rfl, HBx1.out.cellAt (i := 8) rfl, HBx1.out.cellAt (i := 9) rfl⟩
  clear hK K
  try simp only [Act.put, lt0', lt1', lt2']
  obtain ⟨X1, hX1⟩ : ∃ X, bs (fixL (e.term) 8) = X := ⟨_, rfl⟩
  have s1 : X1.size = 8 := by rw [← hX1, bs_size, fixL_length _ 8 (by decide)]
  rw [hX1]
  have HX1 := Lib.hid hX1
  clear hX1
  have hsum : ¬ 9223372036854775807 < X0.size + X1.size := by (try simp only [ByteArray.size_append]); omega
  refine tk 7 ?_
  simp only [Act.put, lt0', lt1', lt2']
  clear hsum
  obtain ⟨Y1, hY1⟩ : ∃ Y, X0 ++ X1 = Y := ⟨_, rfl⟩
  have t1 : Y1.size = 9 := by rw [← hY1, ByteArray.size_append]; omega
  rw [hY1]
  have HY1 := Lib.hid hY1
  clear hY1
  refine wpAnyH_ready (rs := [10]) (by kernel_rfl) (by simp) ?_
  refine AllReadyH.cons (by simp only [lg0, lg1, lg2]; rfl) (fun K hK => ?_) AllReadyH.nil
  go_simp
  (go_at_call 34; refine (rFixed5 (e.index) 8 _ (by decide) (by decide) hI.1 hI.2).mono ?_; rintro r x2 ⟨rfl, g⟩; have HBx2 := Lib.hid (HBx1.out.fr0 g); have HFx2 := Lib.hid (HFx1.out.trans0 g); clear g)
  refine hK.out _ _ ?_ (fun hHeldc2 => ?_)
  · exact ⟨HBx2.out.cellAt (i := 0) rfl, HBx2.out.cellAt (i := 1) rfl, HBx2.out.cellAt (i := 2) rfl, HBx2.out.cellAt (i := 3) rfl, HBx2.out.cellAt (i := 4) rfl, HBx2.out.cellAt (i := 5) rfl, HBx2.out.cellAt (i := 6) rfl, HBx2.out.cellAt (i := 7) rfl, HBx2.out.cellAt (i := 8) rfl, HBx2.out.cellAt (i := 9) rfl⟩
  clear hK K
  try simp only [Act.put, lt0', lt1', lt2']
  obtain ⟨X2, hX2⟩ : ∃ X, bs (fixL (e.index) 8) = X := ⟨_, rfl⟩
  have s2 : X2.size = 8 := by rw [← hX2, bs_size, fixL_length _ 8 (by decide)]
  rw [hX2]
  have HX2 := Lib.hid hX2
  clear hX2
  have hsum : ¬ 9223372036854775807 < Y1.size + X2.size := by (try simp only [ByteArray.size_append]); omega
  refine tk 11 ?_
  simp only [Act.put, lt0', lt1', lt2']
  clear hsum
  obtain ⟨Y2, hY2⟩ : ∃ Y, Y1 ++ X2 = Y := ⟨_, rfl⟩
  have t2 : Y2.size = 17 := by rw [← hY2, ByteArray.size_append]; omega
  rw [hY2]
  have HY2 := Lib.hid hY2
  clear hY2
  refine wpAnyH_ready (rs := [14]) (by kernel_rfl) (by simp) ?_
  refine AllReadyH.cons (by simp only [lg0, lg1, lg2]; rfl) (fun K hK => ?_) AllReadyH.nil
  go_simp
  (go_at_call 34; refine (rFixed5 (e.client) 8 _ (by decide) (by decide) hC.1 hC.2).mono ?_; rintro r x3 ⟨rfl, g⟩; have HBx3 := Lib.hid (HBx2.out.fr0 g); have HFx3 := Lib.hid (HFx2.out.trans0 g); clear g)
  refine hK.out _ _ ?_ (fun hHeldc3 => ?_)
  · exact ⟨HBx3.out.cellAt (i := 0) rfl, HBx3.out.cellAt (i := 1) rfl, HBx3.out.cellAt (i := 2) rfl, HBx3.out.cellAt (i := 3) rfl, HBx3.out.cellAt (i := 4) rfl, HBx3.out.cellAt (i := 5) rfl, HBx3.out.cellAt (i := 6) rfl, HBx3.out.cellAt (i := 7) rfl, HBx3.out.cellAt (i := 8) rfl, HBx3.out.cellAt (i := 9) rfl⟩
  clear hK K
  try simp only [Act.put, lt0', lt1', lt2']
  obtain ⟨X3, hX3⟩ : ∃ X, bs (fixL (e.client) 8) = X := ⟨_, rfl⟩
  have s3 : X3.size = 8 := by rw [← hX3, bs_size, fixL_length _ 8 (by decide)]
  rw [hX3]
  have HX3 := Lib.hid hX3
  clear hX3
  have hsum : ¬ 9223372036854775807 < Y2.size + X3.size := by (try simp only [ByteArray.size_append]); omega
  refine tk 15 ?_
  simp only [Act.put, lt0', lt1', lt2']
  clear hsum
  obtain ⟨Y3, hY3⟩ : ∃ Y, Y2 ++ X3 = Y := ⟨_, rfl⟩
  have t3 : Y3.size = 25 := by rw [← hY3, ByteArray.size_append]; omega
  rw [hY3]
  have HY3 := Lib.hid hY3
  clear hY3
  refine wpAnyH_ready (rs := [18]) (by kernel_rfl) (by simp) ?_
  refine AllReadyH.cons (by simp only [lg0, lg1, lg2]; rfl) (fun K hK => ?_) AllReadyH.nil
  go_simp
  (go_at_call 34; refine (rFixed5 (e.seq) 8 _ (by decide) (by decide) hS.1 hS.2).mono ?_; rintro r x4 ⟨rfl, g⟩; have HBx4 := Lib.hid (HBx3.out.fr0 g); have HFx4 := Lib.hid (HFx3.out.trans0 g); clear g)
  refine hK.out _ _ ?_ (fun hHeldc4 => ?_)
  · exact ⟨HBx4.out.cellAt (i := 0) rfl, HBx4.out.cellAt (i := 1) rfl, HBx4.out.cellAt (i := 2) rfl, HBx4.out.cellAt (i := 3) rfl, HBx4.out.cellAt (i := 4) rfl, HBx4.out.cellAt (i := 5) rfl, HBx4.out.cellAt (i := 6) rfl, HBx4.out.cellAt (i := 7) rfl, HBx4.out.cellAt (i := 8) rfl, HBx4.out.cellAt (i := 9) rfl⟩
  clear hK K
  try simp only [Act.put, lt0', lt1', lt2']
  obtain ⟨X4, hX4⟩ : ∃ X, bs (fixL (e.seq) 8) = X := ⟨_, rfl⟩
  have s4 : X4.size = 8 := by rw [← hX4, bs_size, fixL_length _ 8 (by decide)]
  rw [hX4]
  have HX4 := Lib.hid hX4
  clear hX4
  have hsum : ¬ 9223372036854775807 < Y3.size + X4.size := by (try simp only [ByteArray.size_append]); omega
  refine tk 19 ?_
  simp only [Act.put, lt0', lt1', lt2']
  clear hsum
  obtain ⟨Y4, hY4⟩ : ∃ Y, Y3 ++ X4 = Y := ⟨_, rfl⟩
  have t4 : Y4.size = 33 := by rw [← hY4, ByteArray.size_append]; omega
  rw [hY4]
  have HY4 := Lib.hid hY4
  clear hY4
  refine wpAnyH_ready (rs := [22]) (by kernel_rfl) (by simp) ?_
  refine AllReadyH.cons (by simp only [lg0, lg1, lg2]; rfl) (fun K hK => ?_) AllReadyH.nil
  go_simp
  (go_at_call 34; refine (rFixed5 (e.block) 4 _ (by decide) (by decide) hB.1 hB.2).mono ?_; rintro r x5 ⟨rfl, g⟩; have HBx5 := Lib.hid (HBx4.out.fr0 g); have HFx5 := Lib.hid (HFx4.out.trans0 g); clear g)
  refine hK.out _ _ ?_ (fun hHeldc5 => ?_)
  · exact ⟨HBx5.out.cellAt (i := 0) rfl, HBx5.out.cellAt (i := 1) rfl, HBx5.out.cellAt (i := 2) rfl, HBx5.out.cellAt (i := 3) rfl, HBx5.out.cellAt (i := 4) rfl, HBx5.out.cellAt (i := 5) rfl, HBx5.out.cellAt (i := 6) rfl, HBx5.out.cellAt (i := 7) rfl, HBx5.out.cellAt (i := 8) rfl, HBx5.out.cellAt (i := 9) rfl⟩
  clear hK K
  try simp only [Act.put, lt0', lt1', lt2']
  obtain ⟨X5, hX5⟩ : ∃ X, bs (fixL (e.block) 4) = X := ⟨_, rfl⟩
  have s5 : X5.size = 4 := by rw [← hX5, bs_size, fixL_length _ 4 (by decide)]
  rw [hX5]
  have HX5 := Lib.hid hX5
  clear hX5
  have hsum : ¬ 9223372036854775807 < Y4.size + X5.size := by (try simp only [ByteArray.size_append]); omega
  refine tk 23 ?_
  simp only [Act.put, lt0', lt1', lt2']
  clear hsum
  obtain ⟨Y5, hY5⟩ : ∃ Y, Y4 ++ X5 = Y := ⟨_, rfl⟩
  have t5 : Y5.size = 37 := by rw [← hY5, ByteArray.size_append]; omega
  rw [hY5]
  have HY5 := Lib.hid hY5
  clear hY5
  refine wpAnyH_ready (rs := [26]) (by kernel_rfl) (by simp) ?_
  refine AllReadyH.cons (by simp only [lg0, lg1, lg2]; rfl) (fun K hK => ?_) AllReadyH.nil
  go_simp
  (go_at_call 34; refine (rFixed5 (e.many) 4 _ (by decide) (by decide) hM.1 hM.2).mono ?_; rintro r x6 ⟨rfl, g⟩; have HBx6 := Lib.hid (HBx5.out.fr0 g); have HFx6 := Lib.hid (HFx5.out.trans0 g); clear g)
  refine hK.out _ _ ?_ (fun hHeldc6 => ?_)
  · exact ⟨HBx6.out.cellAt (i := 0) rfl, HBx6.out.cellAt (i := 1) rfl, HBx6.out.cellAt (i := 2) rfl, HBx6.out.cellAt (i := 3) rfl, HBx6.out.cellAt (i := 4) rfl, HBx6.out.cellAt (i := 5) rfl, HBx6.out.cellAt (i := 6) rfl, HBx6.out.cellAt (i := 7) rfl, HBx6.out.cellAt (i := 8) rfl, HBx6.out.cellAt (i := 9) rfl⟩
  clear hK K
  try simp only [Act.put, lt0', lt1', lt2']
  obtain ⟨X6, hX6⟩ : ∃ X, bs (fixL (e.many) 4) = X := ⟨_, rfl⟩
  have s6 : X6.size = 4 := by rw [← hX6, bs_size, fixL_length _ 4 (by decide)]
  rw [hX6]
  have HX6 := Lib.hid hX6
  clear hX6
  have hsum : ¬ 9223372036854775807 < Y5.size + X6.size := by (try simp only [ByteArray.size_append]); omega
  refine tk 27 ?_
  simp only [Act.put, lt0', lt1', lt2']
  clear hsum
  obtain ⟨Y6, hY6⟩ : ∃ Y, Y5 ++ X6 = Y := ⟨_, rfl⟩
  have t6 : Y6.size = 41 := by rw [← hY6, ByteArray.size_append]; omega
  rw [hY6]
  have HY6 := Lib.hid hY6
  clear hY6
  refine wpAnyH_ready (rs := [31]) (by kernel_rfl) (by simp) ?_
  refine AllReadyH.cons (by simp only [lg0, lg1, lg2]; rfl) (fun K hK => ?_) AllReadyH.nil
  go_simp
  (go_at_call 34; refine (rFixed5 (e.node) 1 _ (by decide) (by decide) hn.1 (by omega)).mono ?_; rintro r x7 ⟨rfl, g⟩; have HBx7 := Lib.hid (HBx6.out.fr0 g); have HFx7 := Lib.hid (HFx6.out.trans0 g); clear g)
  refine hK.out _ _ ?_ (fun hHeldc7 => ?_)
  · exact ⟨HBx7.out.cellAt (i := 0) rfl, HBx7.out.cellAt (i := 1) rfl, HBx7.out.cellAt (i := 2) rfl, HBx7.out.cellAt (i := 3) rfl, HBx7.out.cellAt (i := 4) rfl, HBx7.out.cellAt (i := 5) rfl, HBx7.out.cellAt (i := 6) rfl, HBx7.out.cellAt (i := 7) rfl, HBx7.out.cellAt (i := 8) rfl, HBx7.out.cellAt (i := 9) rfl⟩
  clear hK K
  try simp only [Act.put, lt0', lt1', lt2']
  obtain ⟨X7, hX7⟩ : ∃ X, bs (fixL (e.node) 1) = X := ⟨_, rfl⟩
  have s7 : X7.size = 1 := by rw [← hX7, bs_size, fixL_length _ 1 (by decide)]
  rw [hX7]
  have HX7 := Lib.hid hX7
  clear hX7
  have hsum : ¬ 9223372036854775807 < Y6.size + X7.size := by (try simp only [ByteArray.size_append]); omega
  refine tk 32 ?_
  simp only [Act.put, lt0', lt1', lt2']
  clear hsum
  obtain ⟨Y7, hY7⟩ : ∃ Y, Y6 ++ X7 = Y := ⟨_, rfl⟩
  have t7 : Y7.size = 42 := by rw [← hY7, ByteArray.size_append]; omega
  rw [hY7]
  have HY7 := Lib.hid hY7
  clear hY7
  refine wpAnyH_ready (rs := [36]) (by kernel_rfl) (by simp) ?_
  refine AllReadyH.cons (by simp only [lg0, lg1, lg2]; rfl) (fun K hK => ?_) AllReadyH.nil
  go_simp
  (go_at_call 34; refine (rFixed5 (e.level) 1 _ (by decide) (by decide) hv.1 (by omega)).mono ?_; rintro r x8 ⟨rfl, g⟩; have HBx8 := Lib.hid (HBx7.out.fr0 g); have HFx8 := Lib.hid (HFx7.out.trans0 g); clear g)
  refine hK.out _ _ ?_ (fun hHeldc8 => ?_)
  · exact ⟨HBx8.out.cellAt (i := 0) rfl, HBx8.out.cellAt (i := 1) rfl, HBx8.out.cellAt (i := 2) rfl, HBx8.out.cellAt (i := 3) rfl, HBx8.out.cellAt (i := 4) rfl, HBx8.out.cellAt (i := 5) rfl, HBx8.out.cellAt (i := 6) rfl, HBx8.out.cellAt (i := 7) rfl, HBx8.out.cellAt (i := 8) rfl, HBx8.out.cellAt (i := 9) rfl⟩
  clear hK K
  try simp only [Act.put, lt0', lt1', lt2']
  obtain ⟨X8, hX8⟩ : ∃ X, bs (fixL (e.level) 1) = X := ⟨_, rfl⟩
  have s8 : X8.size = 1 := by rw [← hX8, bs_size, fixL_length _ 1 (by decide)]
  rw [hX8]
  have HX8 := Lib.hid hX8
  clear hX8
  have hsum : ¬ 9223372036854775807 < Y7.size + X8.size := by (try simp only [ByteArray.size_append]); omega
  refine tk 37 ?_
  simp only [Act.put, lt0', lt1', lt2']
  clear hsum
  obtain ⟨Y8, hY8⟩ : ∃ Y, Y7 ++ X8 = Y := ⟨_, rfl⟩
  have t8 : Y8.size = 43 := by rw [← hY8, ByteArray.size_append]; omega
  rw [hY8]
  have HY8 := Lib.hid hY8
  clear hY8
  refine wpAnyH_ready (rs := [42]) (by kernel_rfl) (by simp) ?_
  refine AllReadyH.cons (by simp only [lg0, lg1, lg2]; rfl) (fun K hK => ?_) AllReadyH.nil
  go_simp
  (go_at_call 34; refine (rFixed5 ((e.data.size : Nat)) 1 _ (by decide) (by decide) (by omega) (by omega)).mono ?_; rintro r x9 ⟨rfl, g⟩; have HBx9 := Lib.hid (HBx8.out.fr0 g); have HFx9 := Lib.hid (HFx8.out.trans0 g); clear g)
  refine hK.out _ _ ?_ (fun hHeldc9 => ?_)
  · exact ⟨HBx9.out.cellAt (i := 0) rfl, HBx9.out.cellAt (i := 1) rfl, HBx9.out.cellAt (i := 2) rfl, HBx9.out.cellAt (i := 3) rfl, HBx9.out.cellAt (i := 4) rfl, HBx9.out.cellAt (i := 5) rfl, HBx9.out.cellAt (i := 6) rfl, HBx9.out.cellAt (i := 7) rfl, HBx9.out.cellAt (i := 8) rfl, HBx9.out.cellAt (i := 9) rfl⟩
  clear hK K
  try simp only [Act.put, lt0', lt1', lt2']
  obtain ⟨X9, hX9⟩ : ∃ X, bs (fixL ((e.data.size : Nat)) 1) = X := ⟨_, rfl⟩
  have s9 : X9.size = 1 := by rw [← hX9, bs_size, fixL_length _ 1 (by decide)]
  rw [hX9]
  have HX9 := Lib.hid hX9
  clear hX9
  have hsum : ¬ 9223372036854775807 < Y8.size + X9.size := by (try simp only [ByteArray.size_append]); omega
  refine tk 43 ?_
  simp only [Act.put, lt0', lt1', lt2']
  clear hsum
  obtain ⟨Y9, hY9⟩ : ∃ Y, Y8 ++ X9 = Y := ⟨_, rfl⟩
  have t9 : Y9.size = 44 := by rw [← hY9, ByteArray.size_append]; omega
  rw [hY9]
  have HY9 := Lib.hid hY9
  clear hY9
  have hsum : ¬ 9223372036854775807 < Y9.size + DP.size := by omega
  refine tk 45 ?_
  simp only [Act.put, lt0', lt1', lt2']
  refine wpAnyH_ready (rs := [46]) (by kernel_rfl) (by simp) ?_
  refine AllReadyH.cons (by simp only [lg0, lg1, lg2]; rfl) (fun K hK => ?_) AllReadyH.nil
  go_simp
  refine hK.out _ _ ?_ (fun hHelda => ?_)
  · exact ⟨HBx9.out.cellAt (i := 0) rfl, HBx9.out.cellAt (i := 1) rfl, HBx9.out.cellAt (i := 2) rfl, HBx9.out.cellAt (i := 3) rfl, HBx9.out.cellAt (i := 4) rfl, HBx9.out.cellAt (i := 5) rfl, HBx9.out.cellAt (i := 6) rfl, HBx9.out.cellAt (i := 7) rfl, HBx9.out.cellAt (i := 8) rfl, HBx9.out.cellAt (i := 9) rfl⟩
  clear hK K
  try simp only [Act.put, lt0', lt1', lt2']
  refine wpAnyH_ready (rs := [47]) (by kernel_rfl) (by simp) ?_
  refine AllReadyH.cons (by simp only [lg0, lg1, lg2]; rfl) (fun K hK => ?_) AllReadyH.nil
  go_simp
  refine hK.out _ _ ?_ (fun hHeldb => ?_)
  · exact ⟨HBx9.out.cellAt (i := 0) rfl, HBx9.out.cellAt (i := 1) rfl, HBx9.out.cellAt (i := 2) rfl, HBx9.out.cellAt (i := 3) rfl, HBx9.out.cellAt (i := 4) rfl, HBx9.out.cellAt (i := 5) rfl, HBx9.out.cellAt (i := 6) rfl, HBx9.out.cellAt (i := 7) rfl, HBx9.out.cellAt (i := 8) rfl, HBx9.out.cellAt (i := 9) rfl⟩
  clear hK K
  try simp only [Act.put, lt0', lt1', lt2']
  refine wpAnyH_done (by kernel_rfl) ?_ _
  have HRes : Hid (Y9 ++ DP = bs (put5 e)) := by
    show Y9 ++ DP = _
    rw [HP5.out, ← HY9.out, ← HY8.out, ← HY7.out, ← HY6.out, ← HY5.out, ← HY4.out, ← HY3.out, ← HY2.out, ← HY1.out, ← HX0.out, ← HX1.out, ← HX2.out, ← HX3.out, ← HX4.out, ← HX5.out, ← HX6.out, ← HX7.out, ← HX8.out, ← HX9.out, HCat.out]
    simp only [bs_append]
  go_wp2_with fail
  go_ret2
  exact ⟨by rw [← HRes.out]; rfl, HFx9.out⟩

set_option maxRecDepth 100000 in
set_option maxHeartbeats 4000000 in
theorem rPut_bad (e : Ent) (w : World) (he : e.Fits) (hok : e.ok = false) : Calls Tryd.prog 10 #[.agg e.cells] w fun r w' => r = .returned (.tuple #[.string (bs []), .bool false]) ∧ Fr [] w w' := by
  have HR := Lib.hid (fun w => rRight e w he)
  rw [hok] at HR
  clear hok
  unfold Ent.cells at *
  go_enter Tryd.func10, Tryd.ntmps10
  go_wp2_with fail
  refine (HR.out _).mono ?_
  rintro r w1 ⟨rfl, f1⟩
  have HB1 := Lib.hid ((Blk.new w #[.int .u64 e.term, .int .u64 e.index, .int .i64 e.kind, .int .u64 e.client, .int .u64 e.seq, .int .u64 e.block, .int .u64 e.many, .int .i64 e.node, .int .i64 e.level, .string e.data, .string e.old] 24).fr0 f1)
  have HF1 : Hid (Fr [] w w1) := ((Fr.refl [] w).alloc _).trans0 f1
  generalize w.heap.size = bx at *
  clear f1
  go_wp2_with fail
  go_ret2
  exact ⟨rfl, HF1.out⟩

set_option maxRecDepth 100000 in
set_option maxHeartbeats 4000000 in
theorem rPut_two (e : Ent) (w : World) (he : e.Fits) (hok : e.ok = true) (hl : e.lvl = 2) : Calls Tryd.prog 10 #[.agg e.cells] w fun r w' => r = .returned (.tuple #[.string (bs []), .bool false]) ∧ Fr [] w w' := by
  have HR := Lib.hid (fun w => rRight e w he)
  rw [hok] at HR
  have HLv := Lib.hid (fun w => rLevel e w)
  rw [hl] at HLv
  clear hl
  clear hok
  unfold Ent.cells at *
  go_enter Tryd.func10, Tryd.ntmps10
  go_wp2_with fail
  refine (HR.out _).mono ?_
  rintro r w1 ⟨rfl, f1⟩
  have HB1 := Lib.hid ((Blk.new w #[.int .u64 e.term, .int .u64 e.index, .int .i64 e.kind, .int .u64 e.client, .int .u64 e.seq, .int .u64 e.block, .int .u64 e.many, .int .i64 e.node, .int .i64 e.level, .string e.data, .string e.old] 24).fr0 f1)
  have HF1 : Hid (Fr [] w w1) := ((Fr.refl [] w).alloc _).trans0 f1
  generalize w.heap.size = bx at *
  clear f1
  have c0 : w1.cell? ⟨bx, 0, none⟩ = some (.int .u64 e.term) := HB1.out.cellAt (i := 0) rfl
  have c1 : w1.cell? ⟨bx, 1, none⟩ = some (.int .u64 e.index) := HB1.out.cellAt (i := 1) rfl
  have c2 : w1.cell? ⟨bx, 2, none⟩ = some (.int .i64 e.kind) := HB1.out.cellAt (i := 2) rfl
  have c3 : w1.cell? ⟨bx, 3, none⟩ = some (.int .u64 e.client) := HB1.out.cellAt (i := 3) rfl
  have c4 : w1.cell? ⟨bx, 4, none⟩ = some (.int .u64 e.seq) := HB1.out.cellAt (i := 4) rfl
  have c5 : w1.cell? ⟨bx, 5, none⟩ = some (.int .u64 e.block) := HB1.out.cellAt (i := 5) rfl
  have c6 : w1.cell? ⟨bx, 6, none⟩ = some (.int .u64 e.many) := HB1.out.cellAt (i := 6) rfl
  have c7 : w1.cell? ⟨bx, 7, none⟩ = some (.int .i64 e.node) := HB1.out.cellAt (i := 7) rfl
  have c8 : w1.cell? ⟨bx, 8, none⟩ = some (.int .i64 e.level) := HB1.out.cellAt (i := 8) rfl
  have c9 : w1.cell? ⟨bx, 9, none⟩ = some (.string e.data) := HB1.out.cellAt (i := 9) rfl
  have c10 : w1.cell? ⟨bx, 10, none⟩ = some (.string e.old) := HB1.out.cellAt (i := 10) rfl
  go_wp2_with fail
  refine (HLv.out _).mono ?_
  rintro r w2 ⟨rfl, f2⟩
  have HF2 := Lib.hid (HF1.out.trans0 f2)
  clear f2 c0 c1 c2 c3 c4 c5 c6 c7 c8 c9 c10
  go_wp2_with fail
  go_ret2
  exact ⟨rfl, HF2.out⟩

theorem rPut5 (e : Ent) (w : World) (he : e.Fits) : Calls Tryd.prog 10 #[.agg e.cells] w fun r w' => r = .returned (.tuple #[.string (bs (put5R e)), .bool (e.ok && decide (e.lvl ≤ 1))]) ∧ Fr [] w w' := by
  unfold put5R
  cases hok : e.ok with
  | false => exact rPut_bad e w he hok
  | true =>
    by_cases hl : e.lvl ≤ 1
    · rw [decide_eq_true hl]
      exact rPut_yes e w he hok hl
    · rw [decide_eq_false hl]
      exact rPut_two e w he hok (by unfold Ent.lvl at hl ⊢; split at hl <;> simp_all)
end Go.Proofs.YthfaaoeecajkeaaDoor

namespace Go.Proofs.YthfaaoeecajkeaaDoor
open Go.RowKit

/-- pintleref02's reader in the block r: of the list L, at the place o. -/
def RRdAt (w : World) (r : Nat) (L : List UInt8) (o : Nat) : Prop := RRd w r (stL L o).1 (stL L o).2
theorem RRdAt.fr {S : List Nat} {w w' : World} {r o : Nat} {L : List UInt8} (h : RRdAt w r L o) (hf : Fr S w w') (hn : r ∉ S) : RRdAt w' r L o := Blk.fr h hf hn
theorem RRdAt.alloc {w : World} {r o : Nat} {L : List UInt8} (h : RRdAt w r L o) (x : Obj) : RRdAt (w.alloc x) r L o := Blk.alloc h x
theorem RRdAt.lt {w : World} {r o : Nat} {L : List UInt8} (h : RRdAt w r L o) : r < w.heap.size := Blk.lt h
theorem RRdAt.start {w : World} {r : Nat} {L : List UInt8} (h : RRd w r (bs L) false) : RRdAt w r L 0 := by
  unfold RRdAt stL
  rw [if_pos (Nat.zero_le _)]
  exact h
theorem RRdAt.over {w : World} {r o : Nat} {L : List UInt8} (h : RRdAt w r L o) (ho : L.length < o) : RRdAt w r L (L.length + 1) := by
  unfold RRdAt at *
  rw [stL_bad]
  unfold stL at h
  rw [if_neg (by omega)] at h
  exact h
theorem rFixAt (r : Nat) (L : List UInt8) (o k : Nat) (w : World) (h : RRdAt w r L o) (hk : k ≤ 8) :
    Calls Tryd.prog 41 #[.pointer (some ⟨r, 0, none⟩), .int .i64 (k : Nat)] w fun e w' => e = .returned (.int .u64 (numF L o k)) ∧ RRdAt w' r L (o + k) ∧ Fr [r] w w' := by
  refine (rvFixedR r _ _ (k : Int) w h (by omega) (by omega)).mono ?_
  rw [rdBytes_at]
  rintro e w' ⟨rfl, h1, h2⟩
  exact ⟨ret_int (num_str L o k), h1, h2⟩
theorem rBytesAt (r : Nat) (L : List UInt8) (o k : Nat) (w : World) (h : RRdAt w r L o) :
    Calls Tryd.prog 40 #[.pointer (some ⟨r, 0, none⟩), .int .i64 (k : Nat)] w fun e w' => e = .returned (.string (bs (strF L o k))) ∧ RRdAt w' r L (o + k) ∧ Fr [r] w w' := by
  refine (rvBytes r _ _ (k : Int) w h).mono ?_
  rw [rdBytes_at]
  rintro e w' ⟨rfl, h1, h2⟩
  exact ⟨rfl, h1, h2⟩
theorem rFailAt (r : Nat) (L : List UInt8) (o : Nat) (w : World) (h : RRdAt w r L o) :
    Calls Tryd.prog 42 #[.pointer (some ⟨r, 0, none⟩)] w fun e w' => e = .returned (.tuple #[]) ∧ RRdAt w' r L (L.length + 1) ∧ Fr [r] w w' := by
  refine (rvFail r _ _ w h).mono ?_
  rintro e w' ⟨rfl, h1, h2⟩
  refine ⟨rfl, ?_, h2⟩
  unfold RRdAt
  rw [stL_bad]
  exact h1
theorem RRdAt.bad {w : World} {r o : Nat} {L : List UInt8} (h : RRdAt w r L o) : w.cell? ⟨r, 1, none⟩ = some (.bool (!decide (o ≤ L.length))) := by
  rw [← stL_ok, Bool.not_not]
  exact Blk.cellAt (i := 1) h rfl

theorem set11_fr' (u : World) (b : Nat) (a0 a1 a2 a3 a4 a5 a6 a7 a8 a9 a10 : Value) : Fr [b] u ((((((((((((u.setCell ⟨b, 0, none⟩ a0).setCell ⟨b, 1, none⟩ a1).setCell ⟨b, 2, none⟩ a2).setCell ⟨b, 3, none⟩ a3).setCell ⟨b, 4, none⟩ a4).setCell ⟨b, 5, none⟩ a5).setCell ⟨b, 6, none⟩ a6).setCell ⟨b, 7, none⟩ a7).setCell ⟨b, 8, none⟩ a8).setCell ⟨b, 9, none⟩ a9).setCell ⟨b, 10, none⟩ a10)) := by
  have k : ∀ (w : World) (i : Nat) (v : Value), Fr [b] w (w.setCell ⟨b, i, none⟩ v) := fun w i v => (Fr.refl [b] w).setCell (.inl (by simp)) v
  exact ((((((((((k _ _ _).trans1 (k _ _ _)).trans1 (k _ _ _)).trans1 (k _ _ _)).trans1 (k _ _ _)).trans1 (k _ _ _)).trans1 (k _ _ _)).trans1 (k _ _ _)).trans1 (k _ _ _)).trans1 (k _ _ _)).trans1 (k _ _ _)
/-- An entry that was put as it was read is the entry that stands there. -/
theorem good5_back (L : List UInt8) (o : Nat) (M : List UInt8) (E0 : Ent) (h : o + 110 ≤ L.length) (hM : M = (L.drop o).take 110) (he : E0 = ent5 M) :
    E0 = ent5 (L.drop o) ∧ good5 (L.drop o) = (E0.ok && decide (E0.lvl ≤ 1) && decide (put5 E0 = M)) := by
  subst hM
  rw [ent5_take] at he
  refine ⟨he, ?_⟩
  rw [good5_put _ (by rw [List.length_drop]; omega), he]

set_option maxRecDepth 100000 in
set_option maxHeartbeats 16000000 in
theorem rGet5 (r : Nat) (L : List UInt8) (o : Nat) (w : World) (h : RRdAt w r L o) :
    Calls Tryd.prog 15 #[.pointer (some ⟨r, 0, none⟩)] w fun e w' => e = .returned (.agg (get5 L o).1.cells) ∧ RRdAt w' r L (get5 L o).2 ∧ Fr [r] w w' := by
  have HR0 := Lib.hid (h.alloc (.cells #[.int .u64 0, .int .u64 0, .int .i64 0, .int .u64 0, .int .u64 0, .int .u64 0, .int .u64 0, .int .i64 0, .int .i64 0, .string ⟨#[]⟩, .string ⟨#[]⟩] 24))
  have HB0 := Lib.hid (Blk.new w #[.int .u64 0, .int .u64 0, .int .i64 0, .int .u64 0, .int .u64 0, .int .u64 0, .int .u64 0, .int .i64 0, .int .i64 0, .string ⟨#[]⟩, .string ⟨#[]⟩] 24)
  have HF0 : Hid (Fr [r] w (w.alloc (.cells #[.int .u64 0, .int .u64 0, .int .i64 0, .int .u64 0, .int .u64 0, .int .u64 0, .int .u64 0, .int .i64 0, .int .i64 0, .string ⟨#[]⟩, .string ⟨#[]⟩] 24))) := (Fr.refl [r] w).alloc _
  have Hlt := Lib.hid h.lt
  clear h
  go_enter Tryd.func15, Tryd.ntmps15
  go_wp2_with fail
  generalize hbo : w.heap.size = bo at *
  have Hw := Lib.hid hbo
  clear hbo
  refine (rBytesAt r L o 110 _ HR0.out).mono ?_
  rintro q w1 ⟨rfl, h1, f1⟩
  have HR1 := Lib.hid h1
  have HB1 := Lib.hid (HB0.out.fr f1 (by have := Hlt.out; simp; omega))
  have HF1 := Lib.hid (HF0.out.trans1 f1)
  have hbad := h1.bad
  clear h1 f1 HR0 HB0 HF0
  by_cases hle : o + 110 ≤ L.length
  · rw [decide_eq_true hle] at hbad
    have hD : (strF L o 110).length = 110 := by unfold strF; rw [if_pos hle]; exact seg_length _ _ _ (by omega)
    have hMM : strF L o 110 = (L.drop o).take 110 := by unfold strF; rw [if_pos hle]; rfl
    obtain ⟨M, hM⟩ : ∃ M, strF L o 110 = M := ⟨_, rfl⟩
    rw [hM] at hD hMM ⊢
    clear hM
    have HMM := Lib.hid hMM
    have HML := Lib.hid hD
    clear hMM hD
    go_wp2_with fail
    refine (rvNew (bs M) _).mono ?_
    rintro q w2 ⟨rfl, h1, f1⟩
    have HX0 : Hid (RRdAt w2 w1.heap.size M 0) := RRdAt.start h1
    have HR2 := Lib.hid (HR1.out.fr f1 (by simp))
    have HB2 := Lib.hid (HB1.out.fr0 f1)
    have HF2 := Lib.hid (HF1.out.trans0 f1)
    have Hbx : Hid (bo < w1.heap.size) := HB1.out.lt
    clear h1 f1 hbad HR1 HB1 HF1
    generalize w1.heap.size = bx at *
    have k0 : IntKind.i64.wrap (numF M 0 1) = numF M 0 1 := by have := numF_byte M 0; exact IntWalk.i64_in _ (by omega)
    have k41 : IntKind.i64.wrap (numF M 41 1) = numF M 41 1 := by have := numF_byte M 41; exact IntWalk.i64_in _ (by omega)
    have k42 : IntKind.i64.wrap (numF M 42 1) = numF M 42 1 := by have := numF_byte M 42; exact IntWalk.i64_in _ (by omega)
    have k43 : IntKind.i64.wrap (numF M 43 1) = numF M 43 1 := by have := numF_byte M 43; exact IntWalk.i64_in _ (by omega)
    go_wp2_with fail
    refine (rFixAt bx M 0 1 _ HX0.out (by decide)).mono ?_
    rintro q v0 ⟨rfl, h1, f1⟩
    have HXv0 : Hid (RRdAt v0 bx M 1) := h1
    have HRv0 := Lib.hid (HR2.out.fr f1 (by have := Hlt.out; have := Hbx.out; simp; omega))
    have HBv0 := Lib.hid (HB2.out.fr f1 (by have := Hbx.out; simp; omega))
    have HFv0 := Lib.hid (HF2.out.trans f1 (fun x hx => by simp at hx; subst hx; right; have := Hw.out; have := Hbx.out; omega))
    clear h1 f1 HX0 HR2 HB2 HF2
    go_wp2_with fail
    refine (rFixAt bx M 1 8 _ HXv0.out (by decide)).mono ?_
    rintro q v1 ⟨rfl, h1, f1⟩
    have HXv1 : Hid (RRdAt v1 bx M 9) := h1
    have HRv1 := Lib.hid (HRv0.out.fr f1 (by have := Hlt.out; have := Hbx.out; simp; omega))
    have HBv1 := Lib.hid (HBv0.out.fr f1 (by have := Hbx.out; simp; omega))
    have HFv1 := Lib.hid (HFv0.out.trans f1 (fun x hx => by simp at hx; subst hx; right; have := Hw.out; have := Hbx.out; omega))
    clear h1 f1 HXv0 HRv0 HBv0 HFv0
    go_wp2_with fail
    refine (rFixAt bx M 9 8 _ HXv1.out (by decide)).mono ?_
    rintro q v2 ⟨rfl, h1, f1⟩
    have HXv2 : Hid (RRdAt v2 bx M 17) := h1
    have HRv2 := Lib.hid (HRv1.out.fr f1 (by have := Hlt.out; have := Hbx.out; simp; omega))
    have HBv2 := Lib.hid (HBv1.out.fr f1 (by have := Hbx.out; simp; omega))
    have HFv2 := Lib.hid (HFv1.out.trans f1 (fun x hx => by simp at hx; subst hx; right; have := Hw.out; have := Hbx.out; omega))
    clear h1 f1 HXv1 HRv1 HBv1 HFv1
    go_wp2_with fail
    refine (rFixAt bx M 17 8 _ HXv2.out (by decide)).mono ?_
    rintro q v3 ⟨rfl, h1, f1⟩
    have HXv3 : Hid (RRdAt v3 bx M 25) := h1
    have HRv3 := Lib.hid (HRv2.out.fr f1 (by have := Hlt.out; have := Hbx.out; simp; omega))
    have HBv3 := Lib.hid (HBv2.out.fr f1 (by have := Hbx.out; simp; omega))
    have HFv3 := Lib.hid (HFv2.out.trans f1 (fun x hx => by simp at hx; subst hx; right; have := Hw.out; have := Hbx.out; omega))
    clear h1 f1 HXv2 HRv2 HBv2 HFv2
    go_wp2_with fail
    refine (rFixAt bx M 25 8 _ HXv3.out (by decide)).mono ?_
    rintro q v4 ⟨rfl, h1, f1⟩
    have HXv4 : Hid (RRdAt v4 bx M 33) := h1
    have HRv4 := Lib.hid (HRv3.out.fr f1 (by have := Hlt.out; have := Hbx.out; simp; omega))
    have HBv4 := Lib.hid (HBv3.out.fr f1 (by have := Hbx.out; simp; omega))
    have HFv4 := Lib.hid (HFv3.out.trans f1 (fun x hx => by simp at hx; subst hx; right; have := Hw.out; have := Hbx.out; omega))
    clear h1 f1 HXv3 HRv3 HBv3 HFv3
    go_wp2_with fail
    refine (rFixAt bx M 33 4 _ HXv4.out (by decide)).mono ?_
    rintro q v5 ⟨rfl, h1, f1⟩
    have HXv5 : Hid (RRdAt v5 bx M 37) := h1
    have HRv5 := Lib.hid (HRv4.out.fr f1 (by have := Hlt.out; have := Hbx.out; simp; omega))
    have HBv5 := Lib.hid (HBv4.out.fr f1 (by have := Hbx.out; simp; omega))
    have HFv5 := Lib.hid (HFv4.out.trans f1 (fun x hx => by simp at hx; subst hx; right; have := Hw.out; have := Hbx.out; omega))
    clear h1 f1 HXv4 HRv4 HBv4 HFv4
    go_wp2_with fail
    refine (rFixAt bx M 37 4 _ HXv5.out (by decide)).mono ?_
    rintro q v6 ⟨rfl, h1, f1⟩
    have HXv6 : Hid (RRdAt v6 bx M 41) := h1
    have HRv6 := Lib.hid (HRv5.out.fr f1 (by have := Hlt.out; have := Hbx.out; simp; omega))
    have HBv6 := Lib.hid (HBv5.out.fr f1 (by have := Hbx.out; simp; omega))
    have HFv6 := Lib.hid (HFv5.out.trans f1 (fun x hx => by simp at hx; subst hx; right; have := Hw.out; have := Hbx.out; omega))
    clear h1 f1 HXv5 HRv5 HBv5 HFv5
    go_wp2_with fail
    refine (rFixAt bx M 41 1 _ HXv6.out (by decide)).mono ?_
    rintro q v7 ⟨rfl, h1, f1⟩
    have HXv7 : Hid (RRdAt v7 bx M 42) := h1
    have HRv7 := Lib.hid (HRv6.out.fr f1 (by have := Hlt.out; have := Hbx.out; simp; omega))
    have HBv7 := Lib.hid (HBv6.out.fr f1 (by have := Hbx.out; simp; omega))
    have HFv7 := Lib.hid (HFv6.out.trans f1 (fun x hx => by simp at hx; subst hx; right; have := Hw.out; have := Hbx.out; omega))
    clear h1 f1 HXv6 HRv6 HBv6 HFv6
    go_wp2_with fail
    refine (rFixAt bx M 42 1 _ HXv7.out (by decide)).mono ?_
    rintro q v8 ⟨rfl, h1, f1⟩
    have HXv8 : Hid (RRdAt v8 bx M 43) := h1
    have HRv8 := Lib.hid (HRv7.out.fr f1 (by have := Hlt.out; have := Hbx.out; simp; omega))
    have HBv8 := Lib.hid (HBv7.out.fr f1 (by have := Hbx.out; simp; omega))
    have HFv8 := Lib.hid (HFv7.out.trans f1 (fun x hx => by simp at hx; subst hx; right; have := Hw.out; have := Hbx.out; omega))
    clear h1 f1 HXv7 HRv7 HBv7 HFv7
    have HXa := Lib.hid (HXv8.out.alloc (.cells #[.int .u64 (numF M 1 8), .int .u64 (numF M 9 8), .int .i64 (numF M 0 1), .int .u64 (numF M 17 8), .int .u64 (numF M 25 8), .int .u64 (numF M 33 4), .int .u64 (numF M 37 4), .int .i64 (numF M 41 1), .int .i64 (numF M 42 1), .string ⟨#[]⟩, .string ⟨#[]⟩] 24))
    have HRa := Lib.hid (HRv8.out.alloc (.cells #[.int .u64 (numF M 1 8), .int .u64 (numF M 9 8), .int .i64 (numF M 0 1), .int .u64 (numF M 17 8), .int .u64 (numF M 25 8), .int .u64 (numF M 33 4), .int .u64 (numF M 37 4), .int .i64 (numF M 41 1), .int .i64 (numF M 42 1), .string ⟨#[]⟩, .string ⟨#[]⟩] 24))
    have HBa := Lib.hid (HBv8.out.alloc (.cells #[.int .u64 (numF M 1 8), .int .u64 (numF M 9 8), .int .i64 (numF M 0 1), .int .u64 (numF M 17 8), .int .u64 (numF M 25 8), .int .u64 (numF M 33 4), .int .u64 (numF M 37 4), .int .i64 (numF M 41 1), .int .i64 (numF M 42 1), .string ⟨#[]⟩, .string ⟨#[]⟩] 24))
    have HFa := Lib.hid (HFv8.out.alloc (.cells #[.int .u64 (numF M 1 8), .int .u64 (numF M 9 8), .int .i64 (numF M 0 1), .int .u64 (numF M 17 8), .int .u64 (numF M 25 8), .int .u64 (numF M 33 4), .int .u64 (numF M 37 4), .int .i64 (numF M 41 1), .int .i64 (numF M 42 1), .string ⟨#[]⟩, .string ⟨#[]⟩] 24))
    have HEa := Lib.hid (Blk.new v8 #[.int .u64 (numF M 1 8), .int .u64 (numF M 9 8), .int .i64 (numF M 0 1), .int .u64 (numF M 17 8), .int .u64 (numF M 25 8), .int .u64 (numF M 33 4), .int .u64 (numF M 37 4), .int .i64 (numF M 41 1), .int .i64 (numF M 42 1), .string ⟨#[]⟩, .string ⟨#[]⟩] 24)
    have Hbe : Hid (bx < v8.heap.size) := HXv8.out.lt
    go_wp2_with fail
    generalize v8.alloc (.cells #[.int .u64 (numF M 1 8), .int .u64 (numF M 9 8), .int .i64 (numF M 0 1), .int .u64 (numF M 17 8), .int .u64 (numF M 25 8), .int .u64 (numF M 33 4), .int .u64 (numF M 37 4), .int .i64 (numF M 41 1), .int .i64 (numF M 42 1), .string ⟨#[]⟩, .string ⟨#[]⟩] 24) = va at *
    generalize v8.heap.size = b5 at *
    clear HXv8 HRv8 HBv8 HFv8
    refine (rFixAt bx M 43 1 _ HXa.out (by decide)).mono ?_
    rintro q v9 ⟨rfl, h1, f1⟩
    have HXv9 : Hid (RRdAt v9 bx M 44) := h1
    have HRv9 := Lib.hid (HRa.out.fr f1 (by have := Hlt.out; have := Hbx.out; simp; omega))
    have HBv9 := Lib.hid (HBa.out.fr f1 (by have := Hbx.out; simp; omega))
    have HFv9 := Lib.hid (HFa.out.trans f1 (fun x hx => by simp at hx; subst hx; right; have := Hw.out; have := Hbx.out; omega))
    have HEv9 := Lib.hid (HEa.out.fr f1 (by have := Hbe.out; simp; omega))
    clear h1 f1 HXa HRa HBa HFa HEa
    go_wp2_with fail
    refine (rBytesAt bx M 44 66 _ HXv9.out).mono ?_
    rintro q va ⟨rfl, h1, f1⟩
    have HRv := Lib.hid (HRv9.out.fr f1 (by have := Hlt.out; have := Hbx.out; simp; omega))
    have HBv := Lib.hid (HBv9.out.fr f1 (by have := Hbx.out; simp; omega))
    have HFv := Lib.hid (HFv9.out.trans f1 (fun x hx => by simp at hx; subst hx; right; have := Hw.out; have := Hbx.out; omega))
    have HEv := Lib.hid (HEv9.out.fr f1 (by have := Hbe.out; simp; omega))
    clear h1 f1 HXv9 HRv9 HBv9 HFv9 HEv9
    have hD : (strF M 44 66).length = 66 := by unfold strF; rw [if_pos (by have := HML.out; omega)]; exact seg_length _ _ _ (by have := HML.out; omega)
    have hn := numF_byte M 43
    have hm := mnI_le (numF M 43 1) 66
    obtain ⟨D, hDD⟩ : ∃ D, bs (strF M 44 66) = D := ⟨_, rfl⟩
    obtain ⟨cut, hcutn⟩ : ∃ c : Nat, mnI (numF M 43 1) 66 = (c : Int) := ⟨(mnI (numF M 43 1) 66).toNat, by omega⟩
    have hDs : D.size = 66 := by rw [← hDD, bs_size]; exact hD
    have hc66 : (cut : Int) ≤ 66 := by omega
    have hE0 := ent5_at M 0 cut D (by have := HML.out; omega) hDD hcutn
    rw [hDD]
    clear hDD hD hm
    obtain ⟨E0, hEE⟩ : ∃ E : Ent, (⟨numF M 1 8, numF M 9 8, numF M 0 1, numF M 17 8, numF M 25 8, numF M 33 4, numF M 37 4, numF M 41 1, numF M 42 1, D.extract 0 cut, ⟨#[]⟩⟩ : Ent) = E := ⟨_, rfl⟩
    have hEM : E0 = ent5 M := hEE.symm.trans hE0
    clear hE0
    have HEf : Hid E0.Fits := by show E0.Fits; rw [hEM]; exact ent5_fits _
    obtain ⟨hb1, hb2⟩ := good5_back L o M E0 hle HMM.out hEM
    have HEe := Lib.hid hb1
    have HGo := Lib.hid hb2
    have hcE : E0.cells = #[.int .u64 (numF M 1 8), .int .u64 (numF M 9 8), .int .i64 (numF M 0 1), .int .u64 (numF M 17 8), .int .u64 (numF M 25 8), .int .u64 (numF M 33 4), .int .u64 (numF M 37 4), .int .i64 (numF M 41 1), .int .i64 (numF M 42 1), .string (D.extract 0 cut), .string ⟨#[]⟩] := by rw [← hEE]; rfl
    have HPt := Lib.hid (fun w => rPut5 E0 w HEf.out)
    rw [hcE] at HPt
    have HcE := Lib.hid hcE
    clear hEE hEM hcE hb1 hb2
    have c0 : va.cell? ⟨b5, 0, none⟩ = some (.int .u64 (numF M 1 8)) := HEv.out.cellAt (i := 0) rfl
    have c1 : va.cell? ⟨b5, 1, none⟩ = some (.int .u64 (numF M 9 8)) := HEv.out.cellAt (i := 1) rfl
    have c2 : va.cell? ⟨b5, 2, none⟩ = some (.int .i64 (numF M 0 1)) := HEv.out.cellAt (i := 2) rfl
    have c3 : va.cell? ⟨b5, 3, none⟩ = some (.int .u64 (numF M 17 8)) := HEv.out.cellAt (i := 3) rfl
    have c4 : va.cell? ⟨b5, 4, none⟩ = some (.int .u64 (numF M 25 8)) := HEv.out.cellAt (i := 4) rfl
    have c5 : va.cell? ⟨b5, 5, none⟩ = some (.int .u64 (numF M 33 4)) := HEv.out.cellAt (i := 5) rfl
    have c6 : va.cell? ⟨b5, 6, none⟩ = some (.int .u64 (numF M 37 4)) := HEv.out.cellAt (i := 6) rfl
    have c7 : va.cell? ⟨b5, 7, none⟩ = some (.int .i64 (numF M 41 1)) := HEv.out.cellAt (i := 7) rfl
    have c8 : va.cell? ⟨b5, 8, none⟩ = some (.int .i64 (numF M 42 1)) := HEv.out.cellAt (i := 8) rfl
    have c9 : va.cell? ⟨b5, 9, none⟩ = some (.string ⟨#[]⟩) := HEv.out.cellAt (i := 9) rfl
    have c10 : va.cell? ⟨b5, 10, none⟩ = some (.string ⟨#[]⟩) := HEv.out.cellAt (i := 10) rfl
    have z9 := HEv.out.froz 9
    have HX9 : Hid (Fr [b5] va (va.setCell ⟨b5, 9, none⟩ (.string (D.extract 0 cut)))) := (Fr.refl [b5] va).setCell (.inl (by simp)) _
    go_wp2_with fail
    refine (HPt.out _).mono ?_
    rintro q v4 ⟨rfl, f4⟩
    have HE3 := Lib.hid (HEv.out.set 9 (.string (D.extract 0 cut)))
    have HR4 := Lib.hid ((HRv.out.fr HX9.out (by have := Hlt.out; have := Hbx.out; have := Hbe.out; simp; omega)).fr f4 (by simp))
    have HB4 := Lib.hid ((HBv.out.fr HX9.out (by have := Hbx.out; have := Hbe.out; simp; omega)).fr0 f4)
    have HF4 := Lib.hid ((HFv.out.trans HX9.out (fun x hx => by simp at hx; subst hx; right; have := Hw.out; have := Hbx.out; have := Hbe.out; omega)).trans0 f4)
    have HE4 := Lib.hid (HE3.out.fr0 f4)
    clear HX9 HE3 HEv HRv HBv HFv f4 z9 c0 c1 c2 c3 c4 c5 c6 c7 c8 c9 c10
    have hE4 : ∀ j, v4.cell? ⟨b5, j, none⟩ = (#[.int .u64 (numF M 1 8), .int .u64 (numF M 9 8), .int .i64 (numF M 0 1), .int .u64 (numF M 17 8), .int .u64 (numF M 25 8), .int .u64 (numF M 33 4), .int .u64 (numF M 37 4), .int .i64 (numF M 41 1), .int .i64 (numF M 42 1), .string (D.extract 0 cut), .string ⟨#[]⟩] : Array Value)[j]? := fun j => HE4.out.cell j
    have HC4 := Lib.hid hE4
    clear hE4
    rcases hok : (E0.ok && decide (E0.lvl ≤ 1)) with _ | _
    · have HGt : Hid (get5 L o = (ent0, L.length + 1)) := get5_no L o (by rw [HGo.out, hok]; rfl)
      clear HGo
      go_wp2_with fail
      refine (rFailAt r L (o + 110) _ HR4.out).mono ?_
      rintro q v5 ⟨rfl, h9, f9⟩
      have HRx0 := Lib.hid h9
      have HBx := Lib.hid (HB4.out.fr f9 (by have := Hlt.out; simp; omega))
      have HFx := Lib.hid (HF4.out.trans1 f9)
      clear h9 f9
      have q0 : v5.cell? ⟨bo, 0, none⟩ = some (.int .u64 0) := HBx.out.cellAt (i := 0) rfl
      have z0 := HBx.out.froz 0
      have q1 : v5.cell? ⟨bo, 1, none⟩ = some (.int .u64 0) := HBx.out.cellAt (i := 1) rfl
      have z1 := HBx.out.froz 1
      have q2 : v5.cell? ⟨bo, 2, none⟩ = some (.int .i64 0) := HBx.out.cellAt (i := 2) rfl
      have z2 := HBx.out.froz 2
      have q3 : v5.cell? ⟨bo, 3, none⟩ = some (.int .u64 0) := HBx.out.cellAt (i := 3) rfl
      have z3 := HBx.out.froz 3
      have q4 : v5.cell? ⟨bo, 4, none⟩ = some (.int .u64 0) := HBx.out.cellAt (i := 4) rfl
      have z4 := HBx.out.froz 4
      have q5 : v5.cell? ⟨bo, 5, none⟩ = some (.int .u64 0) := HBx.out.cellAt (i := 5) rfl
      have z5 := HBx.out.froz 5
      have q6 : v5.cell? ⟨bo, 6, none⟩ = some (.int .u64 0) := HBx.out.cellAt (i := 6) rfl
      have z6 := HBx.out.froz 6
      have q7 : v5.cell? ⟨bo, 7, none⟩ = some (.int .i64 0) := HBx.out.cellAt (i := 7) rfl
      have z7 := HBx.out.froz 7
      have q8 : v5.cell? ⟨bo, 8, none⟩ = some (.int .i64 0) := HBx.out.cellAt (i := 8) rfl
      have z8 := HBx.out.froz 8
      have q9 : v5.cell? ⟨bo, 9, none⟩ = some (.string ⟨#[]⟩) := HBx.out.cellAt (i := 9) rfl
      have z9 := HBx.out.froz 9
      have q10 : v5.cell? ⟨bo, 10, none⟩ = some (.string ⟨#[]⟩) := HBx.out.cellAt (i := 10) rfl
      have z10 := HBx.out.froz 10
      have HX := Lib.hid (set11_fr' v5 bo (.int .u64 0) (.int .u64 0) (.int .i64 0) (.int .u64 0) (.int .u64 0) (.int .u64 0) (.int .u64 0) (.int .i64 0) (.int .i64 0) (.string ⟨#[]⟩) (.string ⟨#[]⟩))
      have HY : Hid (Blk (((((((((((v5.setCell ⟨bo, 0, none⟩ (.int .u64 0)).setCell ⟨bo, 1, none⟩ (.int .u64 0)).setCell ⟨bo, 2, none⟩ (.int .i64 0)).setCell ⟨bo, 3, none⟩ (.int .u64 0)).setCell ⟨bo, 4, none⟩ (.int .u64 0)).setCell ⟨bo, 5, none⟩ (.int .u64 0)).setCell ⟨bo, 6, none⟩ (.int .u64 0)).setCell ⟨bo, 7, none⟩ (.int .i64 0)).setCell ⟨bo, 8, none⟩ (.int .i64 0)).setCell ⟨bo, 9, none⟩ (.string ⟨#[]⟩)).setCell ⟨bo, 10, none⟩ (.string ⟨#[]⟩)) bo #[.int .u64 0, .int .u64 0, .int .i64 0, .int .u64 0, .int .u64 0, .int .u64 0, .int .u64 0, .int .i64 0, .int .i64 0, .string ⟨#[]⟩, .string ⟨#[]⟩] 24) := HBx.out.put11 _ _ _ _ _ _ _ _ _ _ _
      have HRx := Lib.hid (HRx0.out.fr HX.out (by have := Hlt.out; simp; omega))
      go_wp2_with fail
      generalize (((((((((((v5.setCell ⟨bo, 0, none⟩ (.int .u64 0)).setCell ⟨bo, 1, none⟩ (.int .u64 0)).setCell ⟨bo, 2, none⟩ (.int .i64 0)).setCell ⟨bo, 3, none⟩ (.int .u64 0)).setCell ⟨bo, 4, none⟩ (.int .u64 0)).setCell ⟨bo, 5, none⟩ (.int .u64 0)).setCell ⟨bo, 6, none⟩ (.int .u64 0)).setCell ⟨bo, 7, none⟩ (.int .i64 0)).setCell ⟨bo, 8, none⟩ (.int .i64 0)).setCell ⟨bo, 9, none⟩ (.string ⟨#[]⟩)).setCell ⟨bo, 10, none⟩ (.string ⟨#[]⟩)) = X at *
      have y0 : X.cell? ⟨bo, 0, none⟩ = some (.int .u64 0) := HY.out.cellAt (i := 0) rfl
      have y1 : X.cell? ⟨bo, 1, none⟩ = some (.int .u64 0) := HY.out.cellAt (i := 1) rfl
      have y2 : X.cell? ⟨bo, 2, none⟩ = some (.int .i64 0) := HY.out.cellAt (i := 2) rfl
      have y3 : X.cell? ⟨bo, 3, none⟩ = some (.int .u64 0) := HY.out.cellAt (i := 3) rfl
      have y4 : X.cell? ⟨bo, 4, none⟩ = some (.int .u64 0) := HY.out.cellAt (i := 4) rfl
      have y5 : X.cell? ⟨bo, 5, none⟩ = some (.int .u64 0) := HY.out.cellAt (i := 5) rfl
      have y6 : X.cell? ⟨bo, 6, none⟩ = some (.int .u64 0) := HY.out.cellAt (i := 6) rfl
      have y7 : X.cell? ⟨bo, 7, none⟩ = some (.int .i64 0) := HY.out.cellAt (i := 7) rfl
      have y8 : X.cell? ⟨bo, 8, none⟩ = some (.int .i64 0) := HY.out.cellAt (i := 8) rfl
      have y9 : X.cell? ⟨bo, 9, none⟩ = some (.string ⟨#[]⟩) := HY.out.cellAt (i := 9) rfl
      have y10 : X.cell? ⟨bo, 10, none⟩ = some (.string ⟨#[]⟩) := HY.out.cellAt (i := 10) rfl
      clear q0 z0 q1 z1 q2 z2 q3 z3 q4 z4 q5 z5 q6 z6 q7 z7 q8 z8 q9 z9 q10 z10
      refine bodyPost_ret (v := .agg #[.int .u64 0, .int .u64 0, .int .i64 0, .int .u64 0, .int .u64 0, .int .u64 0, .int .u64 0, .int .i64 0, .int .i64 0, .string ⟨#[]⟩, .string ⟨#[]⟩]) (by simp [results, Tryd.results15, go_sem, y0, y1, y2, y3, y4, y5, y6, y7, y8, y9, y10]) rfl ?_
      rw [HGt.out]
      exact ⟨rfl, HRx.out, HFx.out.trans HX.out (fun x hx => by simp at hx; subst hx; right; have h9 := Hw.out; omega)⟩
    · have hp : put5R E0 = put5 E0 := by unfold put5R; rw [hok]; rfl
      rw [hp]
      rw [hok] at HGo
      obtain ⟨TT, hTT⟩ : ∃ T, bs (put5 E0) = T := ⟨_, rfl⟩
      obtain ⟨SS, hSS⟩ : ∃ S, bs M = S := ⟨_, rfl⟩
      rw [hTT]
      try rw [hSS]
      have HTT := Lib.hid hTT
      have HSS := Lib.hid hSS
      by_cases hts : put5 E0 = M
      · have HGt : Hid (get5 L o = (E0, o + 110)) := get5_yes L o E0 hle (by rw [HGo.out, decide_eq_true hts]; rfl) HEe.out
        obtain rfl : TT = SS := by rw [← hTT, ← hSS, hts]
        clear hTT hSS hts hp HTT HSS HGo
        have c0 : v4.cell? ⟨b5, 0, none⟩ = some (.int .u64 (numF M 1 8)) := (HC4.out 0).trans rfl
        have c1 : v4.cell? ⟨b5, 1, none⟩ = some (.int .u64 (numF M 9 8)) := (HC4.out 1).trans rfl
        have c2 : v4.cell? ⟨b5, 2, none⟩ = some (.int .i64 (numF M 0 1)) := (HC4.out 2).trans rfl
        have c3 : v4.cell? ⟨b5, 3, none⟩ = some (.int .u64 (numF M 17 8)) := (HC4.out 3).trans rfl
        have c4 : v4.cell? ⟨b5, 4, none⟩ = some (.int .u64 (numF M 25 8)) := (HC4.out 4).trans rfl
        have c5 : v4.cell? ⟨b5, 5, none⟩ = some (.int .u64 (numF M 33 4)) := (HC4.out 5).trans rfl
        have c6 : v4.cell? ⟨b5, 6, none⟩ = some (.int .u64 (numF M 37 4)) := (HC4.out 6).trans rfl
        have c7 : v4.cell? ⟨b5, 7, none⟩ = some (.int .i64 (numF M 41 1)) := (HC4.out 7).trans rfl
        have c8 : v4.cell? ⟨b5, 8, none⟩ = some (.int .i64 (numF M 42 1)) := (HC4.out 8).trans rfl
        have c9 : v4.cell? ⟨b5, 9, none⟩ = some (.string (D.extract 0 cut)) := (HC4.out 9).trans rfl
        have c10 : v4.cell? ⟨b5, 10, none⟩ = some (.string ⟨#[]⟩) := (HC4.out 10).trans rfl
        have q0 : v4.cell? ⟨bo, 0, none⟩ = some (.int .u64 0) := HB4.out.cellAt (i := 0) rfl
        have z0 := HB4.out.froz 0
        have q1 : v4.cell? ⟨bo, 1, none⟩ = some (.int .u64 0) := HB4.out.cellAt (i := 1) rfl
        have z1 := HB4.out.froz 1
        have q2 : v4.cell? ⟨bo, 2, none⟩ = some (.int .i64 0) := HB4.out.cellAt (i := 2) rfl
        have z2 := HB4.out.froz 2
        have q3 : v4.cell? ⟨bo, 3, none⟩ = some (.int .u64 0) := HB4.out.cellAt (i := 3) rfl
        have z3 := HB4.out.froz 3
        have q4 : v4.cell? ⟨bo, 4, none⟩ = some (.int .u64 0) := HB4.out.cellAt (i := 4) rfl
        have z4 := HB4.out.froz 4
        have q5 : v4.cell? ⟨bo, 5, none⟩ = some (.int .u64 0) := HB4.out.cellAt (i := 5) rfl
        have z5 := HB4.out.froz 5
        have q6 : v4.cell? ⟨bo, 6, none⟩ = some (.int .u64 0) := HB4.out.cellAt (i := 6) rfl
        have z6 := HB4.out.froz 6
        have q7 : v4.cell? ⟨bo, 7, none⟩ = some (.int .i64 0) := HB4.out.cellAt (i := 7) rfl
        have z7 := HB4.out.froz 7
        have q8 : v4.cell? ⟨bo, 8, none⟩ = some (.int .i64 0) := HB4.out.cellAt (i := 8) rfl
        have z8 := HB4.out.froz 8
        have q9 : v4.cell? ⟨bo, 9, none⟩ = some (.string ⟨#[]⟩) := HB4.out.cellAt (i := 9) rfl
        have z9 := HB4.out.froz 9
        have q10 : v4.cell? ⟨bo, 10, none⟩ = some (.string ⟨#[]⟩) := HB4.out.cellAt (i := 10) rfl
        have z10 := HB4.out.froz 10
        have HX := Lib.hid (set11_fr' v4 bo (.int .u64 (numF M 1 8)) (.int .u64 (numF M 9 8)) (.int .i64 (numF M 0 1)) (.int .u64 (numF M 17 8)) (.int .u64 (numF M 25 8)) (.int .u64 (numF M 33 4)) (.int .u64 (numF M 37 4)) (.int .i64 (numF M 41 1)) (.int .i64 (numF M 42 1)) (.string (D.extract 0 cut)) (.string ⟨#[]⟩))
        have HY : Hid (Blk (((((((((((v4.setCell ⟨bo, 0, none⟩ (.int .u64 (numF M 1 8))).setCell ⟨bo, 1, none⟩ (.int .u64 (numF M 9 8))).setCell ⟨bo, 2, none⟩ (.int .i64 (numF M 0 1))).setCell ⟨bo, 3, none⟩ (.int .u64 (numF M 17 8))).setCell ⟨bo, 4, none⟩ (.int .u64 (numF M 25 8))).setCell ⟨bo, 5, none⟩ (.int .u64 (numF M 33 4))).setCell ⟨bo, 6, none⟩ (.int .u64 (numF M 37 4))).setCell ⟨bo, 7, none⟩ (.int .i64 (numF M 41 1))).setCell ⟨bo, 8, none⟩ (.int .i64 (numF M 42 1))).setCell ⟨bo, 9, none⟩ (.string (D.extract 0 cut))).setCell ⟨bo, 10, none⟩ (.string ⟨#[]⟩)) bo #[.int .u64 (numF M 1 8), .int .u64 (numF M 9 8), .int .i64 (numF M 0 1), .int .u64 (numF M 17 8), .int .u64 (numF M 25 8), .int .u64 (numF M 33 4), .int .u64 (numF M 37 4), .int .i64 (numF M 41 1), .int .i64 (numF M 42 1), .string (D.extract 0 cut), .string ⟨#[]⟩] 24) := HB4.out.put11 _ _ _ _ _ _ _ _ _ _ _
        have HRx := Lib.hid (HR4.out.fr HX.out (by have := Hlt.out; simp; omega))
        go_wp2_with fail
        generalize (((((((((((v4.setCell ⟨bo, 0, none⟩ (.int .u64 (numF M 1 8))).setCell ⟨bo, 1, none⟩ (.int .u64 (numF M 9 8))).setCell ⟨bo, 2, none⟩ (.int .i64 (numF M 0 1))).setCell ⟨bo, 3, none⟩ (.int .u64 (numF M 17 8))).setCell ⟨bo, 4, none⟩ (.int .u64 (numF M 25 8))).setCell ⟨bo, 5, none⟩ (.int .u64 (numF M 33 4))).setCell ⟨bo, 6, none⟩ (.int .u64 (numF M 37 4))).setCell ⟨bo, 7, none⟩ (.int .i64 (numF M 41 1))).setCell ⟨bo, 8, none⟩ (.int .i64 (numF M 42 1))).setCell ⟨bo, 9, none⟩ (.string (D.extract 0 cut))).setCell ⟨bo, 10, none⟩ (.string ⟨#[]⟩)) = X at *
        have y0 : X.cell? ⟨bo, 0, none⟩ = some (.int .u64 (numF M 1 8)) := HY.out.cellAt (i := 0) rfl
        have y1 : X.cell? ⟨bo, 1, none⟩ = some (.int .u64 (numF M 9 8)) := HY.out.cellAt (i := 1) rfl
        have y2 : X.cell? ⟨bo, 2, none⟩ = some (.int .i64 (numF M 0 1)) := HY.out.cellAt (i := 2) rfl
        have y3 : X.cell? ⟨bo, 3, none⟩ = some (.int .u64 (numF M 17 8)) := HY.out.cellAt (i := 3) rfl
        have y4 : X.cell? ⟨bo, 4, none⟩ = some (.int .u64 (numF M 25 8)) := HY.out.cellAt (i := 4) rfl
        have y5 : X.cell? ⟨bo, 5, none⟩ = some (.int .u64 (numF M 33 4)) := HY.out.cellAt (i := 5) rfl
        have y6 : X.cell? ⟨bo, 6, none⟩ = some (.int .u64 (numF M 37 4)) := HY.out.cellAt (i := 6) rfl
        have y7 : X.cell? ⟨bo, 7, none⟩ = some (.int .i64 (numF M 41 1)) := HY.out.cellAt (i := 7) rfl
        have y8 : X.cell? ⟨bo, 8, none⟩ = some (.int .i64 (numF M 42 1)) := HY.out.cellAt (i := 8) rfl
        have y9 : X.cell? ⟨bo, 9, none⟩ = some (.string (D.extract 0 cut)) := HY.out.cellAt (i := 9) rfl
        have y10 : X.cell? ⟨bo, 10, none⟩ = some (.string ⟨#[]⟩) := HY.out.cellAt (i := 10) rfl
        clear q0 z0 q1 z1 q2 z2 q3 z3 q4 z4 q5 z5 q6 z6 q7 z7 q8 z8 q9 z9 q10 z10
        refine bodyPost_ret (v := .agg #[.int .u64 (numF M 1 8), .int .u64 (numF M 9 8), .int .i64 (numF M 0 1), .int .u64 (numF M 17 8), .int .u64 (numF M 25 8), .int .u64 (numF M 33 4), .int .u64 (numF M 37 4), .int .i64 (numF M 41 1), .int .i64 (numF M 42 1), .string (D.extract 0 cut), .string ⟨#[]⟩]) (by simp [results, Tryd.results15, go_sem, y0, y1, y2, y3, y4, y5, y6, y7, y8, y9, y10]) rfl ?_
        rw [HGt.out]
        exact ⟨congrArg (fun c => Ending.returned (.agg c)) HcE.out.symm, HRx.out, HF4.out.trans HX.out (fun x hx => by simp at hx; subst hx; right; have h9 := Hw.out; omega)⟩
      · have HGt : Hid (get5 L o = (ent0, L.length + 1)) := get5_no L o (by rw [HGo.out, decide_eq_false hts]; rfl)
        have hne : (TT.toList == SS.toList) = false := by rw [← hTT, ← hSS, Lib.toList_data, Lib.toList_data, bs_list, bs_list]; simpa using hts
        clear hTT hSS hts hp HTT HSS HGo
        go_wp2_with fail
        refine (rFailAt r L (o + 110) _ HR4.out).mono ?_
        rintro q v5 ⟨rfl, h9, f9⟩
        have HRx0 := Lib.hid h9
        have HBx := Lib.hid (HB4.out.fr f9 (by have := Hlt.out; simp; omega))
        have HFx := Lib.hid (HF4.out.trans1 f9)
        clear h9 f9
        have q0 : v5.cell? ⟨bo, 0, none⟩ = some (.int .u64 0) := HBx.out.cellAt (i := 0) rfl
        have z0 := HBx.out.froz 0
        have q1 : v5.cell? ⟨bo, 1, none⟩ = some (.int .u64 0) := HBx.out.cellAt (i := 1) rfl
        have z1 := HBx.out.froz 1
        have q2 : v5.cell? ⟨bo, 2, none⟩ = some (.int .i64 0) := HBx.out.cellAt (i := 2) rfl
        have z2 := HBx.out.froz 2
        have q3 : v5.cell? ⟨bo, 3, none⟩ = some (.int .u64 0) := HBx.out.cellAt (i := 3) rfl
        have z3 := HBx.out.froz 3
        have q4 : v5.cell? ⟨bo, 4, none⟩ = some (.int .u64 0) := HBx.out.cellAt (i := 4) rfl
        have z4 := HBx.out.froz 4
        have q5 : v5.cell? ⟨bo, 5, none⟩ = some (.int .u64 0) := HBx.out.cellAt (i := 5) rfl
        have z5 := HBx.out.froz 5
        have q6 : v5.cell? ⟨bo, 6, none⟩ = some (.int .u64 0) := HBx.out.cellAt (i := 6) rfl
        have z6 := HBx.out.froz 6
        have q7 : v5.cell? ⟨bo, 7, none⟩ = some (.int .i64 0) := HBx.out.cellAt (i := 7) rfl
        have z7 := HBx.out.froz 7
        have q8 : v5.cell? ⟨bo, 8, none⟩ = some (.int .i64 0) := HBx.out.cellAt (i := 8) rfl
        have z8 := HBx.out.froz 8
        have q9 : v5.cell? ⟨bo, 9, none⟩ = some (.string ⟨#[]⟩) := HBx.out.cellAt (i := 9) rfl
        have z9 := HBx.out.froz 9
        have q10 : v5.cell? ⟨bo, 10, none⟩ = some (.string ⟨#[]⟩) := HBx.out.cellAt (i := 10) rfl
        have z10 := HBx.out.froz 10
        have HX := Lib.hid (set11_fr' v5 bo (.int .u64 0) (.int .u64 0) (.int .i64 0) (.int .u64 0) (.int .u64 0) (.int .u64 0) (.int .u64 0) (.int .i64 0) (.int .i64 0) (.string ⟨#[]⟩) (.string ⟨#[]⟩))
        have HY : Hid (Blk (((((((((((v5.setCell ⟨bo, 0, none⟩ (.int .u64 0)).setCell ⟨bo, 1, none⟩ (.int .u64 0)).setCell ⟨bo, 2, none⟩ (.int .i64 0)).setCell ⟨bo, 3, none⟩ (.int .u64 0)).setCell ⟨bo, 4, none⟩ (.int .u64 0)).setCell ⟨bo, 5, none⟩ (.int .u64 0)).setCell ⟨bo, 6, none⟩ (.int .u64 0)).setCell ⟨bo, 7, none⟩ (.int .i64 0)).setCell ⟨bo, 8, none⟩ (.int .i64 0)).setCell ⟨bo, 9, none⟩ (.string ⟨#[]⟩)).setCell ⟨bo, 10, none⟩ (.string ⟨#[]⟩)) bo #[.int .u64 0, .int .u64 0, .int .i64 0, .int .u64 0, .int .u64 0, .int .u64 0, .int .u64 0, .int .i64 0, .int .i64 0, .string ⟨#[]⟩, .string ⟨#[]⟩] 24) := HBx.out.put11 _ _ _ _ _ _ _ _ _ _ _
        have HRx := Lib.hid (HRx0.out.fr HX.out (by have := Hlt.out; simp; omega))
        go_wp2_with fail
        generalize (((((((((((v5.setCell ⟨bo, 0, none⟩ (.int .u64 0)).setCell ⟨bo, 1, none⟩ (.int .u64 0)).setCell ⟨bo, 2, none⟩ (.int .i64 0)).setCell ⟨bo, 3, none⟩ (.int .u64 0)).setCell ⟨bo, 4, none⟩ (.int .u64 0)).setCell ⟨bo, 5, none⟩ (.int .u64 0)).setCell ⟨bo, 6, none⟩ (.int .u64 0)).setCell ⟨bo, 7, none⟩ (.int .i64 0)).setCell ⟨bo, 8, none⟩ (.int .i64 0)).setCell ⟨bo, 9, none⟩ (.string ⟨#[]⟩)).setCell ⟨bo, 10, none⟩ (.string ⟨#[]⟩)) = X at *
        have y0 : X.cell? ⟨bo, 0, none⟩ = some (.int .u64 0) := HY.out.cellAt (i := 0) rfl
        have y1 : X.cell? ⟨bo, 1, none⟩ = some (.int .u64 0) := HY.out.cellAt (i := 1) rfl
        have y2 : X.cell? ⟨bo, 2, none⟩ = some (.int .i64 0) := HY.out.cellAt (i := 2) rfl
        have y3 : X.cell? ⟨bo, 3, none⟩ = some (.int .u64 0) := HY.out.cellAt (i := 3) rfl
        have y4 : X.cell? ⟨bo, 4, none⟩ = some (.int .u64 0) := HY.out.cellAt (i := 4) rfl
        have y5 : X.cell? ⟨bo, 5, none⟩ = some (.int .u64 0) := HY.out.cellAt (i := 5) rfl
        have y6 : X.cell? ⟨bo, 6, none⟩ = some (.int .u64 0) := HY.out.cellAt (i := 6) rfl
        have y7 : X.cell? ⟨bo, 7, none⟩ = some (.int .i64 0) := HY.out.cellAt (i := 7) rfl
        have y8 : X.cell? ⟨bo, 8, none⟩ = some (.int .i64 0) := HY.out.cellAt (i := 8) rfl
        have y9 : X.cell? ⟨bo, 9, none⟩ = some (.string ⟨#[]⟩) := HY.out.cellAt (i := 9) rfl
        have y10 : X.cell? ⟨bo, 10, none⟩ = some (.string ⟨#[]⟩) := HY.out.cellAt (i := 10) rfl
        clear q0 z0 q1 z1 q2 z2 q3 z3 q4 z4 q5 z5 q6 z6 q7 z7 q8 z8 q9 z9 q10 z10
        refine bodyPost_ret (v := .agg #[.int .u64 0, .int .u64 0, .int .i64 0, .int .u64 0, .int .u64 0, .int .u64 0, .int .u64 0, .int .i64 0, .int .i64 0, .string ⟨#[]⟩, .string ⟨#[]⟩]) (by simp [results, Tryd.results15, go_sem, y0, y1, y2, y3, y4, y5, y6, y7, y8, y9, y10]) rfl ?_
        rw [HGt.out]
        exact ⟨rfl, HRx.out, HFx.out.trans HX.out (fun x hx => by simp at hx; subst hx; right; have h9 := Hw.out; omega)⟩
  · rw [decide_eq_false hle] at hbad
    have HGt : Hid (get5 L o = (ent0, L.length + 1)) := by show _ = _; unfold get5; rw [if_neg (fun hh => hle hh.1)]
    have HRx0 := Lib.hid (HR1.out.over (by omega))
    have q0 : w1.cell? ⟨bo, 0, none⟩ = some (.int .u64 0) := HB1.out.cellAt (i := 0) rfl
    have z0 := HB1.out.froz 0
    have q1 : w1.cell? ⟨bo, 1, none⟩ = some (.int .u64 0) := HB1.out.cellAt (i := 1) rfl
    have z1 := HB1.out.froz 1
    have q2 : w1.cell? ⟨bo, 2, none⟩ = some (.int .i64 0) := HB1.out.cellAt (i := 2) rfl
    have z2 := HB1.out.froz 2
    have q3 : w1.cell? ⟨bo, 3, none⟩ = some (.int .u64 0) := HB1.out.cellAt (i := 3) rfl
    have z3 := HB1.out.froz 3
    have q4 : w1.cell? ⟨bo, 4, none⟩ = some (.int .u64 0) := HB1.out.cellAt (i := 4) rfl
    have z4 := HB1.out.froz 4
    have q5 : w1.cell? ⟨bo, 5, none⟩ = some (.int .u64 0) := HB1.out.cellAt (i := 5) rfl
    have z5 := HB1.out.froz 5
    have q6 : w1.cell? ⟨bo, 6, none⟩ = some (.int .u64 0) := HB1.out.cellAt (i := 6) rfl
    have z6 := HB1.out.froz 6
    have q7 : w1.cell? ⟨bo, 7, none⟩ = some (.int .i64 0) := HB1.out.cellAt (i := 7) rfl
    have z7 := HB1.out.froz 7
    have q8 : w1.cell? ⟨bo, 8, none⟩ = some (.int .i64 0) := HB1.out.cellAt (i := 8) rfl
    have z8 := HB1.out.froz 8
    have q9 : w1.cell? ⟨bo, 9, none⟩ = some (.string ⟨#[]⟩) := HB1.out.cellAt (i := 9) rfl
    have z9 := HB1.out.froz 9
    have q10 : w1.cell? ⟨bo, 10, none⟩ = some (.string ⟨#[]⟩) := HB1.out.cellAt (i := 10) rfl
    have z10 := HB1.out.froz 10
    have HX := Lib.hid (set11_fr' w1 bo (.int .u64 0) (.int .u64 0) (.int .i64 0) (.int .u64 0) (.int .u64 0) (.int .u64 0) (.int .u64 0) (.int .i64 0) (.int .i64 0) (.string ⟨#[]⟩) (.string ⟨#[]⟩))
    have HY : Hid (Blk (((((((((((w1.setCell ⟨bo, 0, none⟩ (.int .u64 0)).setCell ⟨bo, 1, none⟩ (.int .u64 0)).setCell ⟨bo, 2, none⟩ (.int .i64 0)).setCell ⟨bo, 3, none⟩ (.int .u64 0)).setCell ⟨bo, 4, none⟩ (.int .u64 0)).setCell ⟨bo, 5, none⟩ (.int .u64 0)).setCell ⟨bo, 6, none⟩ (.int .u64 0)).setCell ⟨bo, 7, none⟩ (.int .i64 0)).setCell ⟨bo, 8, none⟩ (.int .i64 0)).setCell ⟨bo, 9, none⟩ (.string ⟨#[]⟩)).setCell ⟨bo, 10, none⟩ (.string ⟨#[]⟩)) bo #[.int .u64 0, .int .u64 0, .int .i64 0, .int .u64 0, .int .u64 0, .int .u64 0, .int .u64 0, .int .i64 0, .int .i64 0, .string ⟨#[]⟩, .string ⟨#[]⟩] 24) := HB1.out.put11 _ _ _ _ _ _ _ _ _ _ _
    have HRx := Lib.hid (HRx0.out.fr HX.out (by have := Hlt.out; simp; omega))
    go_wp2_with fail
    generalize (((((((((((w1.setCell ⟨bo, 0, none⟩ (.int .u64 0)).setCell ⟨bo, 1, none⟩ (.int .u64 0)).setCell ⟨bo, 2, none⟩ (.int .i64 0)).setCell ⟨bo, 3, none⟩ (.int .u64 0)).setCell ⟨bo, 4, none⟩ (.int .u64 0)).setCell ⟨bo, 5, none⟩ (.int .u64 0)).setCell ⟨bo, 6, none⟩ (.int .u64 0)).setCell ⟨bo, 7, none⟩ (.int .i64 0)).setCell ⟨bo, 8, none⟩ (.int .i64 0)).setCell ⟨bo, 9, none⟩ (.string ⟨#[]⟩)).setCell ⟨bo, 10, none⟩ (.string ⟨#[]⟩)) = X at *
    have y0 : X.cell? ⟨bo, 0, none⟩ = some (.int .u64 0) := HY.out.cellAt (i := 0) rfl
    have y1 : X.cell? ⟨bo, 1, none⟩ = some (.int .u64 0) := HY.out.cellAt (i := 1) rfl
    have y2 : X.cell? ⟨bo, 2, none⟩ = some (.int .i64 0) := HY.out.cellAt (i := 2) rfl
    have y3 : X.cell? ⟨bo, 3, none⟩ = some (.int .u64 0) := HY.out.cellAt (i := 3) rfl
    have y4 : X.cell? ⟨bo, 4, none⟩ = some (.int .u64 0) := HY.out.cellAt (i := 4) rfl
    have y5 : X.cell? ⟨bo, 5, none⟩ = some (.int .u64 0) := HY.out.cellAt (i := 5) rfl
    have y6 : X.cell? ⟨bo, 6, none⟩ = some (.int .u64 0) := HY.out.cellAt (i := 6) rfl
    have y7 : X.cell? ⟨bo, 7, none⟩ = some (.int .i64 0) := HY.out.cellAt (i := 7) rfl
    have y8 : X.cell? ⟨bo, 8, none⟩ = some (.int .i64 0) := HY.out.cellAt (i := 8) rfl
    have y9 : X.cell? ⟨bo, 9, none⟩ = some (.string ⟨#[]⟩) := HY.out.cellAt (i := 9) rfl
    have y10 : X.cell? ⟨bo, 10, none⟩ = some (.string ⟨#[]⟩) := HY.out.cellAt (i := 10) rfl
    clear q0 z0 q1 z1 q2 z2 q3 z3 q4 z4 q5 z5 q6 z6 q7 z7 q8 z8 q9 z9 q10 z10
    refine bodyPost_ret (v := .agg #[.int .u64 0, .int .u64 0, .int .i64 0, .int .u64 0, .int .u64 0, .int .u64 0, .int .u64 0, .int .i64 0, .int .i64 0, .string ⟨#[]⟩, .string ⟨#[]⟩]) (by simp [results, Tryd.results15, go_sem, y0, y1, y2, y3, y4, y5, y6, y7, y8, y9, y10]) rfl ?_
    rw [HGt.out]
    exact ⟨rfl, HRx.out, HF1.out.trans HX.out (fun x hx => by simp at hx; subst hx; right; have h9 := Hw.out; omega)⟩
end Go.Proofs.YthfaaoeecajkeaaDoor

namespace Go.Proofs.YthfaaoeecajkeaaDoor
open Go.RowKit

def SomeStr (n : Nat) (w : World) (e : Ending) (w' : World) : Prop := ∃ t : ByteArray, e = .returned (.string t) ∧ t.size = n ∧ Fr [] w w'

set_option maxRecDepth 100000 in
set_option maxHeartbeats 2000000 in
theorem fBend (s : ByteArray) (at_ : Int) (by_ : Int) (w : World) (hs : s.size ≤ maxLen) (ha0 : -9223372036854775808 ≤ at_) (ha1 : at_ ≤ 9223372036854775807) :
    Calls Tryd.prog 11 #[.string s, .int .i64 at_, .int .u8 by_] w (SomeStr s.size w) := by
  unfold maxLen at hs
  by_cases h0 : s.size = 0
  · have he : s.toList.isEmpty = true := by
      rw [Lib.toList_data]
      have : s.data.toList = [] := List.eq_nil_of_length_eq_zero h0
      simp [this]
    go_enter Tryd.func11, Tryd.ntmps11
    go_wp2_with fail
    go_ret
    exact ⟨s, rfl, rfl, Fr.refl _ _⟩
  · have he : s.toList.isEmpty = false := by
      rw [Lib.toList_data]
      cases h : s.data.toList with
      | nil => exact absurd (show s.data.toList.length = 0 by rw [h]; rfl) h0
      | cons _ _ => rfl
    have hpos : 0 < s.size := by omega
    by_cases hn : at_ < 0
    · have hm0 : 0 ≤ -(at_ + 1) := by omega
      have ht : (at_ + 1).tmod (s.size : Int) = -((-(at_ + 1)) % (s.size : Int)) := by
        have h1 : (-(at_ + 1)).tmod (s.size : Int) = -(at_ + 1).tmod (s.size : Int) := Int.neg_tmod _ _
        rw [Int.tmod_eq_emod_of_nonneg hm0] at h1
        omega
      have hk0 : 0 ≤ (-(at_ + 1)) % (s.size : Int) := Int.emod_nonneg _ (by omega)
      have hk1 : (-(at_ + 1)) % (s.size : Int) < s.size := Int.emod_lt_of_pos _ (by omega)
      have hj0 : (at_ + 1).tmod (s.size : Int) ≤ 0 := by omega
      have hj1 : -(at_ + 1).tmod (s.size : Int) < s.size := by omega
      clear ht hk0 hk1
      go_enter Tryd.func11, Tryd.ntmps11
      go_wp2_with (refine wpList_bytes 9 43 5 _ Tryd.underlying9 Tryd.underlying43 Tryd.underlying5 _ rfl ?_; intro g cap w2 hg hB hF)
      obtain ⟨j, hj⟩ : ∃ j : Nat, -(at_ + 1).tmod (s.size : Int) = j := ⟨(-(at_ + 1).tmod (s.size : Int)).toNat, by omega⟩
      have hc := hB.out.cell (j := j) (by omega)
      have hfz : w2.frozen? ⟨g, j, none⟩ = false := hB.out.froz (by omega)
      go_region
      have hq0 := bits_lo_u8 .xor (((s.data[j]?.getD 0).toNat : Nat) : Int) by_
      have hq1 := bits_hi_u8 .xor (((s.data[j]?.getD 0).toNat : Nat) : Int) by_
      generalize bits BinOp.xor IntKind.u8 (((s.data[j]?.getD 0).toNat : Nat) : Int) by_ = q at *
      have HB2 : Hid (Byts ((w2.setCell ⟨g, j, none⟩ (.int .u8 q)).drew) g s.size) := hB.out.some.set j q hq0 hq1
      have HF2 : Hid (Fr [] w ((w2.setCell ⟨g, j, none⟩ (.int .u8 q)).drew)) := (hF.out.setCell (.inr (Nat.le_of_eq hg.out.symm)) _).drew
      obtain ⟨l, hl, hcv⟩ := HB2.out.str Tryd.underlying43 Tryd.underlying5 Tryd.underlying9 cap
      have Hl := Lib.hid hl
      clear hl hc hfz hj
      generalize (w2.setCell ⟨g, j, none⟩ (.int .u8 q)).drew = w3 at *
      go_wp2_with fail
      go_ret
      exact ⟨_, rfl, (show l.toArray.size = s.size by rw [List.size_toArray]; exact Hl.out), HF2.out⟩
    · have hm0 : 0 ≤ at_ := by omega
      have hj0 : 0 ≤ at_ % (s.size : Int) := Int.emod_nonneg _ (by omega)
      have hj1 : at_ % (s.size : Int) < s.size := Int.emod_lt_of_pos _ (by omega)
      go_enter Tryd.func11, Tryd.ntmps11
      go_wp2_with (refine wpList_bytes 9 43 5 _ Tryd.underlying9 Tryd.underlying43 Tryd.underlying5 _ rfl ?_; intro g cap w2 hg hB hF)
      obtain ⟨j, hj⟩ : ∃ j : Nat, at_ % (s.size : Int) = j := ⟨(at_ % (s.size : Int)).toNat, by omega⟩
      have hc := hB.out.cell (j := j) (by omega)
      have hfz : w2.frozen? ⟨g, j, none⟩ = false := hB.out.froz (by omega)
      go_region
      have hq0 := bits_lo_u8 .xor (((s.data[j]?.getD 0).toNat : Nat) : Int) by_
      have hq1 := bits_hi_u8 .xor (((s.data[j]?.getD 0).toNat : Nat) : Int) by_
      generalize bits BinOp.xor IntKind.u8 (((s.data[j]?.getD 0).toNat : Nat) : Int) by_ = q at *
      have HB2 : Hid (Byts ((w2.setCell ⟨g, j, none⟩ (.int .u8 q)).drew) g s.size) := hB.out.some.set j q hq0 hq1
      have HF2 : Hid (Fr [] w ((w2.setCell ⟨g, j, none⟩ (.int .u8 q)).drew)) := (hF.out.setCell (.inr (Nat.le_of_eq hg.out.symm)) _).drew
      obtain ⟨l, hl, hcv⟩ := HB2.out.str Tryd.underlying43 Tryd.underlying5 Tryd.underlying9 cap
      have Hl := Lib.hid hl
      clear hl hc hfz hj
      generalize (w2.setCell ⟨g, j, none⟩ (.int .u8 q)).drew = w3 at *
      go_wp2_with fail
      go_ret
      exact ⟨_, rfl, (show l.toArray.size = s.size by rw [List.size_toArray]; exact Hl.out), HF2.out⟩
end Go.Proofs.YthfaaoeecajkeaaDoor
