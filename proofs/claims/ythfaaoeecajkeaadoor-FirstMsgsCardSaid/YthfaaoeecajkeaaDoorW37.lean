/-
  Texts of this seat, joined: GRPutM GRGetM.
-/
import Derived.Test.YthfaaoeecajkeaaDoorW18
import Derived.Test.YthfaaoeecajkeaaDoorW30
import Derived.Test.YthfaaoeecajkeaaDoorW23
import Derived.Test.YthfaaoeecajkeaaDoorWtk
import Derived.Test.YthfaaoeecajkeaaDoorW27
set_option linter.unusedSimpArgs false
set_option linter.unusedVariables false
namespace Go.Proofs.YthfaaoeecajkeaaDoor
open List renaming getElem?_toArray → lg0, getElem?_cons_succ → lg1, getElem?_cons_zero → lg2, setIfInBounds_toArray → lt0', set_cons_zero → lt1', set_cons_succ → lt2'
open Go.RowKit

set_option maxRecDepth 100000 in
set_option maxHeartbeats 8000000 in
theorem rPutM_true (m : Msg) (v : Value) (w : World) (hf : m.Fits) (hv : Ents w v m.ents) (hok : m.ok = true) (hl : m.lvl ≤ 1) (hy : m.yes = true) :
    Calls Tryd.prog 21 #[.agg (m.cells v)] w fun r w' => r = .returned (.tuple #[.string (bs (putM5 m)), .bool true]) ∧ Fr [] w w' := by
  obtain ⟨hk, hs, hg, hn64, hall, hsn⟩ := okM_small m hok
  obtain ⟨hlv, hone⟩ := lvlM_one m hl
  obtain ⟨ad, cp, rfl⟩ := hv.shape
  have HR := Lib.hid (fun w (hv : Ents w (.slice ad m.ents.length cp) m.ents) => rMsgRight m _ w hf hv)
  have HLv := Lib.hid (fun w (hv : Ents w (.slice ad m.ents.length cp) m.ents) => rMsgLevel m _ w hf hv)
  rw [hok] at HR
  rw [hlv] at HLv
  have HFE := Lib.hid hf.ents
  obtain ⟨hT, hI, hP, hC, hM, _, _, hS⟩ := hf
  have HV0 := Lib.hid (hv.fr0 ((Fr.refl [] w).alloc (.cells (m.cells (.slice ad m.ents.length cp)) 47)))
  have HAll := Lib.hid hall
  have HOne := Lib.hid hone
  have HD : Hid (∀ e, e ∈ m.ents → e.data.size ≤ 64) := fun e he => ok_data e (hall e he)
  unfold U64 at *
  unfold maxLen at hS
  have kk : IntKind.u64.wrap m.kind = m.kind := by rw [IntKind.wrap_u64]; omega
  have ks : IntKind.u64.wrap m.sent = m.sent := by rw [IntKind.wrap_u64]; omega
  have kg : IntKind.u64.wrap m.goal = m.goal := by rw [IntKind.wrap_u64]; omega
  have kn : IntKind.u64.wrap (m.ents.length : Nat) = (m.ents.length : Nat) := by rw [IntKind.wrap_u64]; omega
  have kz : IntKind.u64.wrap (m.snap.size : Nat) = (m.snap.size : Nat) := by rw [IntKind.wrap_u64]; omega
  have HP5 : Hid (putM5 m = fixL m.kind 1 ++ fixL m.sent 1 ++ fixL m.goal 1 ++ fixL m.term 8 ++ fixL m.index 8 ++ fixL m.prev 8 ++ fixL m.commit 8 ++ fixL m.mark 8 ++ fixL (yesN m.yes) 1 ++ fixL (m.ents.length : Nat) 1 ++ m.ents.flatMap put5 ++ fixL (m.snap.size : Nat) 4 ++ m.snap.data.toList) := by
    unfold putM5
    simp only [List.append_assoc]
    exact trivial
  unfold Msg.cells at *
  rw [hy] at HP5 HR HLv HV0 ⊢
  rw [show yesN true = 1 from rfl] at HP5
  clear hok hl hlv hv hall hone hy
  generalize hn : m.ents.length = n at *
  have HNn := Lib.hid hn
  clear hn
  go_enter Tryd.func21, Tryd.ntmps21
  go_wp2_with fail
  refine (HR.out _ HV0.out).mono ?_
  rintro r w1 ⟨rfl, f1⟩
  have HB1 := Lib.hid ((Blk.new w #[.int .i64 m.kind, .int .i64 m.sent, .int .i64 m.goal, .int .u64 m.term, .int .u64 m.index, .int .u64 m.prev, .int .u64 m.commit, .int .u64 m.mark, .bool true, .slice ad n cp, .string m.snap] 47).fr0 f1)
  have HV1 := Lib.hid (HV0.out.fr0 f1)
  have HF1 : Hid (Fr [] w w1) := ((Fr.refl [] w).alloc _).trans0 f1
  generalize hbx : w.heap.size = bx at *
  have Hbx := Lib.hid hbx
  clear f1 hbx
  have c0 : w1.cell? ⟨bx, 0, none⟩ = some (.int .i64 m.kind) := HB1.out.cellAt (i := 0) rfl
  have c1 : w1.cell? ⟨bx, 1, none⟩ = some (.int .i64 m.sent) := HB1.out.cellAt (i := 1) rfl
  have c2 : w1.cell? ⟨bx, 2, none⟩ = some (.int .i64 m.goal) := HB1.out.cellAt (i := 2) rfl
  have c3 : w1.cell? ⟨bx, 3, none⟩ = some (.int .u64 m.term) := HB1.out.cellAt (i := 3) rfl
  have c4 : w1.cell? ⟨bx, 4, none⟩ = some (.int .u64 m.index) := HB1.out.cellAt (i := 4) rfl
  have c5 : w1.cell? ⟨bx, 5, none⟩ = some (.int .u64 m.prev) := HB1.out.cellAt (i := 5) rfl
  have c6 : w1.cell? ⟨bx, 6, none⟩ = some (.int .u64 m.commit) := HB1.out.cellAt (i := 6) rfl
  have c7 : w1.cell? ⟨bx, 7, none⟩ = some (.int .u64 m.mark) := HB1.out.cellAt (i := 7) rfl
  have c8 : w1.cell? ⟨bx, 8, none⟩ = some (.bool true) := HB1.out.cellAt (i := 8) rfl
  have c9 : w1.cell? ⟨bx, 9, none⟩ = some (.slice ad n cp) := HB1.out.cellAt (i := 9) rfl
  have c10 : w1.cell? ⟨bx, 10, none⟩ = some (.string m.snap) := HB1.out.cellAt (i := 10) rfl
  go_wp2_with fail
  refine (HLv.out _ HV1.out).mono ?_
  rintro r w2 ⟨rfl, f2⟩
  have HB2 := Lib.hid (HB1.out.fr0 f2)
  have HV2 := Lib.hid (HV1.out.fr0 f2)
  have HF2 := Lib.hid (HF1.out.trans0 f2)
  clear f2 HB1 HF1 HV1 HV0 c0 c1 c2 c3 c4 c5 c6 c7 c8 c9 c10
  have c8 : w2.cell? ⟨bx, 8, none⟩ = some (.bool true) := HB2.out.cellAt (i := 8) rfl
  go_wp2_with fail
  clear c8
  have HB4 : Hid (Blk w2.drew bx #[.int .i64 m.kind, .int .i64 m.sent, .int .i64 m.goal, .int .u64 m.term, .int .u64 m.index, .int .u64 m.prev, .int .u64 m.commit, .int .u64 m.mark, .bool true, .slice ad n cp, .string m.snap] 47) := HB2.out.drew
  have HF4 := Lib.hid HF2.out.drew
  have HV4 : Hid (Ents w2.drew (.slice ad n cp) m.ents) := HV2.out
  refine wp_region_held_drew (S := fun w' => w'.cell? ⟨bx, 0, none⟩ = some (.int .i64 m.kind) ∧ w'.cell? ⟨bx, 1, none⟩ = some (.int .i64 m.sent) ∧ w'.cell? ⟨bx, 2, none⟩ = some (.int .i64 m.goal) ∧ w'.cell? ⟨bx, 3, none⟩ = some (.int .u64 m.term) ∧ w'.cell? ⟨bx, 4, none⟩ = some (.int .u64 m.index) ∧ w'.cell? ⟨bx, 5, none⟩ = some (.int .u64 m.prev) ∧ w'.cell? ⟨bx, 6, none⟩ = some (.int .u64 m.commit) ∧ w'.cell? ⟨bx, 7, none⟩ = some (.int .u64 m.mark) ∧ w'.cell? ⟨bx, 9, none⟩ = some (.slice ad n cp)) (by kernel_rfl) ?_ (fun hHeld => ?_)
  · exact ⟨HB4.out.cellAt (i := 0) rfl, HB4.out.cellAt (i := 1) rfl, HB4.out.cellAt (i := 2) rfl, HB4.out.cellAt (i := 3) rfl, HB4.out.cellAt (i := 4) rfl, HB4.out.cellAt (i := 5) rfl, HB4.out.cellAt (i := 6) rfl, HB4.out.cellAt (i := 7) rfl, HB4.out.cellAt (i := 9) rfl⟩
  refine tk 0 ?_
  simp only [Act.put, lt0', lt1', lt2']
  refine tk 1 ?_
  simp only [Act.put, lt0', lt1', lt2']
  refine tk 2 ?_
  simp only [Act.put, lt0', lt1', lt2']
  refine tk 4 ?_
  simp only [Act.put, lt0', lt1', lt2']
  refine tk 5 ?_
  simp only [Act.put, lt0', lt1', lt2']
  refine tk 6 ?_
  simp only [Act.put, lt0', lt1', lt2']
  refine tk 9 ?_
  simp only [Act.put, lt0', lt1', lt2']
  refine tk 10 ?_
  simp only [Act.put, lt0', lt1', lt2']
  refine tk 11 ?_
  simp only [Act.put, lt0', lt1', lt2']
  refine tk 14 ?_
  simp only [Act.put, lt0', lt1', lt2']
  refine tk 15 ?_
  simp only [Act.put, lt0', lt1', lt2']
  refine tk 18 ?_
  simp only [Act.put, lt0', lt1', lt2']
  refine tk 19 ?_
  simp only [Act.put, lt0', lt1', lt2']
  refine tk 22 ?_
  simp only [Act.put, lt0', lt1', lt2']
  refine tk 23 ?_
  simp only [Act.put, lt0', lt1', lt2']
  refine tk 26 ?_
  simp only [Act.put, lt0', lt1', lt2']
  refine tk 27 ?_
  simp only [Act.put, lt0', lt1', lt2']
  refine tk 30 ?_
  simp only [Act.put, lt0', lt1', lt2']
  refine tk 31 ?_
  simp only [Act.put, lt0', lt1', lt2']
  refine tk 34 ?_
  simp only [Act.put, lt0', lt1', lt2']
  refine tk 37 ?_
  simp only [Act.put, lt0', lt1', lt2']
  refine tk 38 ?_
  simp only [Act.put, lt0', lt1', lt2']
  refine tk 39 ?_
  simp only [Act.put, lt0', lt1', lt2']
  refine tk 40 ?_
  simp only [Act.put, lt0', lt1', lt2']
  refine wpAnyH_ready (rs := [3]) (by kernel_rfl) (by simp) ?_
  refine AllReadyH.cons (by simp only [lg0, lg1, lg2]; rfl) (fun K hK => ?_) AllReadyH.nil
  go_simp
  (go_at_call 34; refine (rFixed5 (m.kind) 1 _ (by decide) (by decide) (by omega) (by omega)).mono ?_; rintro r x0 ⟨rfl, g⟩; have HBx0 := Lib.hid (HB4.out.fr0 g); have HFx0 := Lib.hid (HF4.out.trans0 g); have HVx0 := Lib.hid (HV4.out.fr0 g); clear g)
  refine hK.out _ _ ?_ (fun hHeldc0 => ?_)
  · exact ⟨HBx0.out.cellAt (i := 0) rfl, HBx0.out.cellAt (i := 1) rfl, HBx0.out.cellAt (i := 2) rfl, HBx0.out.cellAt (i := 3) rfl, HBx0.out.cellAt (i := 4) rfl, HBx0.out.cellAt (i := 5) rfl, HBx0.out.cellAt (i := 6) rfl, HBx0.out.cellAt (i := 7) rfl, HBx0.out.cellAt (i := 9) rfl⟩
  clear hK K
  try simp only [Act.put, lt0', lt1', lt2']
  obtain ⟨X0, hX0⟩ : ∃ X, bs (fixL (m.kind) 1) = X := ⟨_, rfl⟩
  have s0 : X0.size = 1 := by rw [← hX0, bs_size, fixL_length _ 1 (by decide)]
  rw [hX0]
  have HX0 := Lib.hid hX0
  clear hX0
  refine wpAnyH_ready (rs := [7]) (by kernel_rfl) (by simp) ?_
  refine AllReadyH.cons (by simp only [lg0, lg1, lg2]; rfl) (fun K hK => ?_) AllReadyH.nil
  go_simp
  (go_at_call 34; refine (rFixed5 (m.sent) 1 _ (by decide) (by decide) (by omega) (by omega)).mono ?_; rintro r x1 ⟨rfl, g⟩; have HBx1 := Lib.hid (HBx0.out.fr0 g); have HFx1 := Lib.hid (HFx0.out.trans0 g); have HVx1 := Lib.hid (HVx0.out.fr0 g); clear g)
  refine hK.out _ _ ?_ (fun hHeldc1 => ?_)
  · exact ⟨HBx1.out.cellAt (i := 0) rfl, HBx1.out.cellAt (i := 1) rfl, HBx1.out.cellAt (i := 2) rfl, HBx1.out.cellAt (i := 3) rfl, HBx1.out.cellAt (i := 4) rfl, HBx1.out.cellAt (i := 5) rfl, HBx1.out.cellAt (i := 6) rfl, HBx1.out.cellAt (i := 7) rfl, HBx1.out.cellAt (i := 9) rfl⟩
  clear hK K
  try simp only [Act.put, lt0', lt1', lt2']
  obtain ⟨X1, hX1⟩ : ∃ X, bs (fixL (m.sent) 1) = X := ⟨_, rfl⟩
  have s1 : X1.size = 1 := by rw [← hX1, bs_size, fixL_length _ 1 (by decide)]
  rw [hX1]
  have HX1 := Lib.hid hX1
  clear hX1
  have hsum : ¬ 9223372036854775807 < X0.size + X1.size := by omega
  refine tk 8 ?_
  simp only [Act.put, lt0', lt1', lt2']
  clear hsum
  obtain ⟨Y1, hY1⟩ : ∃ Y, X0 ++ X1 = Y := ⟨_, rfl⟩
  have t1 : Y1.size = 2 := by rw [← hY1, ByteArray.size_append]; omega
  rw [hY1]
  have HY1 := Lib.hid hY1
  clear hY1
  refine wpAnyH_ready (rs := [12]) (by kernel_rfl) (by simp) ?_
  refine AllReadyH.cons (by simp only [lg0, lg1, lg2]; rfl) (fun K hK => ?_) AllReadyH.nil
  go_simp
  (go_at_call 34; refine (rFixed5 (m.goal) 1 _ (by decide) (by decide) (by omega) (by omega)).mono ?_; rintro r x2 ⟨rfl, g⟩; have HBx2 := Lib.hid (HBx1.out.fr0 g); have HFx2 := Lib.hid (HFx1.out.trans0 g); have HVx2 := Lib.hid (HVx1.out.fr0 g); clear g)
  refine hK.out _ _ ?_ (fun hHeldc2 => ?_)
  · exact ⟨HBx2.out.cellAt (i := 0) rfl, HBx2.out.cellAt (i := 1) rfl, HBx2.out.cellAt (i := 2) rfl, HBx2.out.cellAt (i := 3) rfl, HBx2.out.cellAt (i := 4) rfl, HBx2.out.cellAt (i := 5) rfl, HBx2.out.cellAt (i := 6) rfl, HBx2.out.cellAt (i := 7) rfl, HBx2.out.cellAt (i := 9) rfl⟩
  clear hK K
  try simp only [Act.put, lt0', lt1', lt2']
  obtain ⟨X2, hX2⟩ : ∃ X, bs (fixL (m.goal) 1) = X := ⟨_, rfl⟩
  have s2 : X2.size = 1 := by rw [← hX2, bs_size, fixL_length _ 1 (by decide)]
  rw [hX2]
  have HX2 := Lib.hid hX2
  clear hX2
  have hsum : ¬ 9223372036854775807 < Y1.size + X2.size := by omega
  refine tk 13 ?_
  simp only [Act.put, lt0', lt1', lt2']
  clear hsum
  obtain ⟨Y2, hY2⟩ : ∃ Y, Y1 ++ X2 = Y := ⟨_, rfl⟩
  have t2 : Y2.size = 3 := by rw [← hY2, ByteArray.size_append]; omega
  rw [hY2]
  have HY2 := Lib.hid hY2
  clear hY2
  refine wpAnyH_ready (rs := [16]) (by kernel_rfl) (by simp) ?_
  refine AllReadyH.cons (by simp only [lg0, lg1, lg2]; rfl) (fun K hK => ?_) AllReadyH.nil
  go_simp
  (go_at_call 34; refine (rFixed5 (m.term) 8 _ (by decide) (by decide) hT.1 hT.2).mono ?_; rintro r x3 ⟨rfl, g⟩; have HBx3 := Lib.hid (HBx2.out.fr0 g); have HFx3 := Lib.hid (HFx2.out.trans0 g); have HVx3 := Lib.hid (HVx2.out.fr0 g); clear g)
  refine hK.out _ _ ?_ (fun hHeldc3 => ?_)
  · exact ⟨HBx3.out.cellAt (i := 0) rfl, HBx3.out.cellAt (i := 1) rfl, HBx3.out.cellAt (i := 2) rfl, HBx3.out.cellAt (i := 3) rfl, HBx3.out.cellAt (i := 4) rfl, HBx3.out.cellAt (i := 5) rfl, HBx3.out.cellAt (i := 6) rfl, HBx3.out.cellAt (i := 7) rfl, HBx3.out.cellAt (i := 9) rfl⟩
  clear hK K
  try simp only [Act.put, lt0', lt1', lt2']
  obtain ⟨X3, hX3⟩ : ∃ X, bs (fixL (m.term) 8) = X := ⟨_, rfl⟩
  have s3 : X3.size = 8 := by rw [← hX3, bs_size, fixL_length _ 8 (by decide)]
  rw [hX3]
  have HX3 := Lib.hid hX3
  clear hX3
  have hsum : ¬ 9223372036854775807 < Y2.size + X3.size := by omega
  refine tk 17 ?_
  simp only [Act.put, lt0', lt1', lt2']
  clear hsum
  obtain ⟨Y3, hY3⟩ : ∃ Y, Y2 ++ X3 = Y := ⟨_, rfl⟩
  have t3 : Y3.size = 11 := by rw [← hY3, ByteArray.size_append]; omega
  rw [hY3]
  have HY3 := Lib.hid hY3
  clear hY3
  refine wpAnyH_ready (rs := [20]) (by kernel_rfl) (by simp) ?_
  refine AllReadyH.cons (by simp only [lg0, lg1, lg2]; rfl) (fun K hK => ?_) AllReadyH.nil
  go_simp
  (go_at_call 34; refine (rFixed5 (m.index) 8 _ (by decide) (by decide) hI.1 hI.2).mono ?_; rintro r x4 ⟨rfl, g⟩; have HBx4 := Lib.hid (HBx3.out.fr0 g); have HFx4 := Lib.hid (HFx3.out.trans0 g); have HVx4 := Lib.hid (HVx3.out.fr0 g); clear g)
  refine hK.out _ _ ?_ (fun hHeldc4 => ?_)
  · exact ⟨HBx4.out.cellAt (i := 0) rfl, HBx4.out.cellAt (i := 1) rfl, HBx4.out.cellAt (i := 2) rfl, HBx4.out.cellAt (i := 3) rfl, HBx4.out.cellAt (i := 4) rfl, HBx4.out.cellAt (i := 5) rfl, HBx4.out.cellAt (i := 6) rfl, HBx4.out.cellAt (i := 7) rfl, HBx4.out.cellAt (i := 9) rfl⟩
  clear hK K
  try simp only [Act.put, lt0', lt1', lt2']
  obtain ⟨X4, hX4⟩ : ∃ X, bs (fixL (m.index) 8) = X := ⟨_, rfl⟩
  have s4 : X4.size = 8 := by rw [← hX4, bs_size, fixL_length _ 8 (by decide)]
  rw [hX4]
  have HX4 := Lib.hid hX4
  clear hX4
  have hsum : ¬ 9223372036854775807 < Y3.size + X4.size := by omega
  refine tk 21 ?_
  simp only [Act.put, lt0', lt1', lt2']
  clear hsum
  obtain ⟨Y4, hY4⟩ : ∃ Y, Y3 ++ X4 = Y := ⟨_, rfl⟩
  have t4 : Y4.size = 19 := by rw [← hY4, ByteArray.size_append]; omega
  rw [hY4]
  have HY4 := Lib.hid hY4
  clear hY4
  refine wpAnyH_ready (rs := [24]) (by kernel_rfl) (by simp) ?_
  refine AllReadyH.cons (by simp only [lg0, lg1, lg2]; rfl) (fun K hK => ?_) AllReadyH.nil
  go_simp
  (go_at_call 34; refine (rFixed5 (m.prev) 8 _ (by decide) (by decide) hP.1 hP.2).mono ?_; rintro r x5 ⟨rfl, g⟩; have HBx5 := Lib.hid (HBx4.out.fr0 g); have HFx5 := Lib.hid (HFx4.out.trans0 g); have HVx5 := Lib.hid (HVx4.out.fr0 g); clear g)
  refine hK.out _ _ ?_ (fun hHeldc5 => ?_)
  · exact ⟨HBx5.out.cellAt (i := 0) rfl, HBx5.out.cellAt (i := 1) rfl, HBx5.out.cellAt (i := 2) rfl, HBx5.out.cellAt (i := 3) rfl, HBx5.out.cellAt (i := 4) rfl, HBx5.out.cellAt (i := 5) rfl, HBx5.out.cellAt (i := 6) rfl, HBx5.out.cellAt (i := 7) rfl, HBx5.out.cellAt (i := 9) rfl⟩
  clear hK K
  try simp only [Act.put, lt0', lt1', lt2']
  obtain ⟨X5, hX5⟩ : ∃ X, bs (fixL (m.prev) 8) = X := ⟨_, rfl⟩
  have s5 : X5.size = 8 := by rw [← hX5, bs_size, fixL_length _ 8 (by decide)]
  rw [hX5]
  have HX5 := Lib.hid hX5
  clear hX5
  have hsum : ¬ 9223372036854775807 < Y4.size + X5.size := by omega
  refine tk 25 ?_
  simp only [Act.put, lt0', lt1', lt2']
  clear hsum
  obtain ⟨Y5, hY5⟩ : ∃ Y, Y4 ++ X5 = Y := ⟨_, rfl⟩
  have t5 : Y5.size = 27 := by rw [← hY5, ByteArray.size_append]; omega
  rw [hY5]
  have HY5 := Lib.hid hY5
  clear hY5
  refine wpAnyH_ready (rs := [28]) (by kernel_rfl) (by simp) ?_
  refine AllReadyH.cons (by simp only [lg0, lg1, lg2]; rfl) (fun K hK => ?_) AllReadyH.nil
  go_simp
  (go_at_call 34; refine (rFixed5 (m.commit) 8 _ (by decide) (by decide) hC.1 hC.2).mono ?_; rintro r x6 ⟨rfl, g⟩; have HBx6 := Lib.hid (HBx5.out.fr0 g); have HFx6 := Lib.hid (HFx5.out.trans0 g); have HVx6 := Lib.hid (HVx5.out.fr0 g); clear g)
  refine hK.out _ _ ?_ (fun hHeldc6 => ?_)
  · exact ⟨HBx6.out.cellAt (i := 0) rfl, HBx6.out.cellAt (i := 1) rfl, HBx6.out.cellAt (i := 2) rfl, HBx6.out.cellAt (i := 3) rfl, HBx6.out.cellAt (i := 4) rfl, HBx6.out.cellAt (i := 5) rfl, HBx6.out.cellAt (i := 6) rfl, HBx6.out.cellAt (i := 7) rfl, HBx6.out.cellAt (i := 9) rfl⟩
  clear hK K
  try simp only [Act.put, lt0', lt1', lt2']
  obtain ⟨X6, hX6⟩ : ∃ X, bs (fixL (m.commit) 8) = X := ⟨_, rfl⟩
  have s6 : X6.size = 8 := by rw [← hX6, bs_size, fixL_length _ 8 (by decide)]
  rw [hX6]
  have HX6 := Lib.hid hX6
  clear hX6
  have hsum : ¬ 9223372036854775807 < Y5.size + X6.size := by omega
  refine tk 29 ?_
  simp only [Act.put, lt0', lt1', lt2']
  clear hsum
  obtain ⟨Y6, hY6⟩ : ∃ Y, Y5 ++ X6 = Y := ⟨_, rfl⟩
  have t6 : Y6.size = 35 := by rw [← hY6, ByteArray.size_append]; omega
  rw [hY6]
  have HY6 := Lib.hid hY6
  clear hY6
  refine wpAnyH_ready (rs := [32]) (by kernel_rfl) (by simp) ?_
  refine AllReadyH.cons (by simp only [lg0, lg1, lg2]; rfl) (fun K hK => ?_) AllReadyH.nil
  go_simp
  (go_at_call 34; refine (rFixed5 (m.mark) 8 _ (by decide) (by decide) hM.1 hM.2).mono ?_; rintro r x7 ⟨rfl, g⟩; have HBx7 := Lib.hid (HBx6.out.fr0 g); have HFx7 := Lib.hid (HFx6.out.trans0 g); have HVx7 := Lib.hid (HVx6.out.fr0 g); clear g)
  refine hK.out _ _ ?_ (fun hHeldc7 => ?_)
  · exact ⟨HBx7.out.cellAt (i := 0) rfl, HBx7.out.cellAt (i := 1) rfl, HBx7.out.cellAt (i := 2) rfl, HBx7.out.cellAt (i := 3) rfl, HBx7.out.cellAt (i := 4) rfl, HBx7.out.cellAt (i := 5) rfl, HBx7.out.cellAt (i := 6) rfl, HBx7.out.cellAt (i := 7) rfl, HBx7.out.cellAt (i := 9) rfl⟩
  clear hK K
  try simp only [Act.put, lt0', lt1', lt2']
  obtain ⟨X7, hX7⟩ : ∃ X, bs (fixL (m.mark) 8) = X := ⟨_, rfl⟩
  have s7 : X7.size = 8 := by rw [← hX7, bs_size, fixL_length _ 8 (by decide)]
  rw [hX7]
  have HX7 := Lib.hid hX7
  clear hX7
  have hsum : ¬ 9223372036854775807 < Y6.size + X7.size := by omega
  refine tk 33 ?_
  simp only [Act.put, lt0', lt1', lt2']
  clear hsum
  obtain ⟨Y7, hY7⟩ : ∃ Y, Y6 ++ X7 = Y := ⟨_, rfl⟩
  have t7 : Y7.size = 43 := by rw [← hY7, ByteArray.size_append]; omega
  rw [hY7]
  have HY7 := Lib.hid hY7
  clear hY7
  refine wpAnyH_ready (rs := [35]) (by kernel_rfl) (by simp) ?_
  refine AllReadyH.cons (by simp only [lg0, lg1, lg2]; rfl) (fun K hK => ?_) AllReadyH.nil
  go_simp
  (go_at_call 34; refine (rFixed5 (1) 1 _ (by decide) (by decide) (by decide) (by decide)).mono ?_; rintro r x8 ⟨rfl, g⟩; have HBx8 := Lib.hid (HBx7.out.fr0 g); have HFx8 := Lib.hid (HFx7.out.trans0 g); have HVx8 := Lib.hid (HVx7.out.fr0 g); clear g)
  refine hK.out _ _ ?_ (fun hHeldc8 => ?_)
  · exact ⟨HBx8.out.cellAt (i := 0) rfl, HBx8.out.cellAt (i := 1) rfl, HBx8.out.cellAt (i := 2) rfl, HBx8.out.cellAt (i := 3) rfl, HBx8.out.cellAt (i := 4) rfl, HBx8.out.cellAt (i := 5) rfl, HBx8.out.cellAt (i := 6) rfl, HBx8.out.cellAt (i := 7) rfl, HBx8.out.cellAt (i := 9) rfl⟩
  clear hK K
  try simp only [Act.put, lt0', lt1', lt2']
  obtain ⟨X8, hX8⟩ : ∃ X, bs (fixL (1) 1) = X := ⟨_, rfl⟩
  have s8 : X8.size = 1 := by rw [← hX8, bs_size, fixL_length _ 1 (by decide)]
  rw [hX8]
  have HX8 := Lib.hid hX8
  clear hX8
  have hsum : ¬ 9223372036854775807 < Y7.size + X8.size := by omega
  refine tk 36 ?_
  simp only [Act.put, lt0', lt1', lt2']
  clear hsum
  obtain ⟨Y8, hY8⟩ : ∃ Y, Y7 ++ X8 = Y := ⟨_, rfl⟩
  have t8 : Y8.size = 44 := by rw [← hY8, ByteArray.size_append]; omega
  rw [hY8]
  have HY8 := Lib.hid hY8
  clear hY8
  refine wpAnyH_ready (rs := [41]) (by kernel_rfl) (by simp) ?_
  refine AllReadyH.cons (by simp only [lg0, lg1, lg2]; rfl) (fun K hK => ?_) AllReadyH.nil
  go_simp
  (go_at_call 34; refine (rFixed5 ((n : Nat)) 1 _ (by decide) (by decide) (by omega) (by omega)).mono ?_; rintro r x9 ⟨rfl, g⟩; have HBx9 := Lib.hid (HBx8.out.fr0 g); have HFx9 := Lib.hid (HFx8.out.trans0 g); have HVx9 := Lib.hid (HVx8.out.fr0 g); clear g)
  refine hK.out _ _ ?_ (fun hHeldc9 => ?_)
  · exact ⟨HBx9.out.cellAt (i := 0) rfl, HBx9.out.cellAt (i := 1) rfl, HBx9.out.cellAt (i := 2) rfl, HBx9.out.cellAt (i := 3) rfl, HBx9.out.cellAt (i := 4) rfl, HBx9.out.cellAt (i := 5) rfl, HBx9.out.cellAt (i := 6) rfl, HBx9.out.cellAt (i := 7) rfl, HBx9.out.cellAt (i := 9) rfl⟩
  clear hK K
  try simp only [Act.put, lt0', lt1', lt2']
  obtain ⟨X9, hX9⟩ : ∃ X, bs (fixL ((n : Nat)) 1) = X := ⟨_, rfl⟩
  have s9 : X9.size = 1 := by rw [← hX9, bs_size, fixL_length _ 1 (by decide)]
  rw [hX9]
  have HX9 := Lib.hid hX9
  clear hX9
  have hsum : ¬ 9223372036854775807 < Y8.size + X9.size := by omega
  refine tk 42 ?_
  simp only [Act.put, lt0', lt1', lt2']
  clear hsum
  obtain ⟨Y9, hY9⟩ : ∃ Y, Y8 ++ X9 = Y := ⟨_, rfl⟩
  have t9 : Y9.size = 45 := by rw [← hY9, ByteArray.size_append]; omega
  rw [hY9]
  have HY9 := Lib.hid hY9
  clear hY9
  refine wpAnyH_ready (rs := [43]) (by kernel_rfl) (by simp) ?_
  refine AllReadyH.cons (by simp only [lg0, lg1, lg2]; rfl) (fun K hK => ?_) AllReadyH.nil
  go_simp
  refine hK.out _ _ ?_ (fun hHelda => ?_)
  · exact ⟨HBx9.out.cellAt (i := 0) rfl, HBx9.out.cellAt (i := 1) rfl, HBx9.out.cellAt (i := 2) rfl, HBx9.out.cellAt (i := 3) rfl, HBx9.out.cellAt (i := 4) rfl, HBx9.out.cellAt (i := 5) rfl, HBx9.out.cellAt (i := 6) rfl, HBx9.out.cellAt (i := 7) rfl, HBx9.out.cellAt (i := 9) rfl⟩
  clear hK K
  try simp only [Act.put, lt0', lt1', lt2']
  refine wpAnyH_done (by kernel_rfl) ?_ _
  obtain ⟨LL, hLL⟩ : ∃ LL, fixL m.kind 1 ++ fixL m.sent 1 ++ fixL m.goal 1 ++ fixL m.term 8 ++ fixL m.index 8 ++ fixL m.prev 8 ++ fixL m.commit 8 ++ fixL m.mark 8 ++ fixL 1 1 ++ fixL (n : Nat) 1 = LL := ⟨_, rfl⟩
  have HRes : Hid (Y9 = bs LL) := by
    show Y9 = _
    rw [← hLL, ← HY9.out, ← HY8.out, ← HY7.out, ← HY6.out, ← HY5.out, ← HY4.out, ← HY3.out, ← HY2.out, ← HY1.out, ← HX0.out, ← HX1.out, ← HX2.out, ← HX3.out, ← HX4.out, ← HX5.out, ← HX6.out, ← HX7.out, ← HX8.out, ← HX9.out]
    simp only [bs_append]
  have HL45 : Hid (LL.length = 45) := by
    have h1 := congrArg ByteArray.size HRes.out
    rw [t9, bs_size] at h1
    exact h1.symm
  rw [hLL] at HP5
  clear hLL hHeld hHeldc0 hHeldc1 hHeldc2 hHeldc3 hHeldc4 hHeldc5 hHeldc6 hHeldc7 hHeldc8 hHeldc9 hHelda
  clear s0 HX0 s1 HX1 s2 HX2 s3 HX3 s4 HX4 s5 HX5 s6 HX6 s7 HX7 s8 HX8 s9 HX9 t1 HY1 t2 HY2 t3 HY3 t4 HY4 t5 HY5 t6 HY6 t7 HY7 t8 HY8 t9 HY9
  rw [HRes.out]
  have HBq := Lib.hid HBx9.out
  have HFq := Lib.hid HFx9.out
  have HVq := Lib.hid HVx9.out
  clear HRes HB4 HF4 HV4 HB2 HF2 HV2 HBx0 HFx0 HVx0 HBx1 HFx1 HVx1 HBx2 HFx2 HVx2 HBx3 HFx3 HVx3 HBx4 HFx4 HVx4 HBx5 HFx5 HVx5 HBx6 HFx6 HVx6 HBx7 HFx7 HVx7 HBx8 HFx8 HVx8 HBx9 HFx9 HVx9
  generalize x9 = U at *
  go_wp2_with fail
  go_loopw [6, 7] (fun sv i wr => ∃ k : Nat, k ≤ n ∧ i = .int .i64 k ∧ sv = .string (bs (LL ++ (m.ents.take k).flatMap put5)) ∧ Hid (Fr [] U wr)) (fun _ i _ => n - (intOf i).toNat)
  case atStart => exact ⟨0, by omega, rfl, by rw [List.take_zero, List.flatMap_nil, List.append_nil], Fr.refl _ _⟩
  case round =>
    obtain ⟨k, hk, rfl, rfl, RF⟩ := hrel
    have hLsz : Hid ((LL ++ (m.ents.take k).flatMap put5).length = 45 + 110 * k) := by
      show _ = _
      rw [List.length_append, HL45.out, flat_length _ (fun x hx => by have := HD.out x (List.mem_of_mem_take hx); omega), List.length_take, HNn.out]
      omega
    have c9 : wr.cell? ⟨bx, 9, none⟩ = some (.slice ad n cp) := (HBq.out.fr0 RF.out).cellAt (i := 9) rfl
    by_cases hlt : k < n
    · have hlk : k < m.ents.length := by have := HNn.out; omega
      obtain ⟨gb, go, had⟩ : ∃ b o, ad = some ⟨b, o, none⟩ := by
        rcases HVq.out with ⟨h1, _⟩ | ⟨b, o, c, h1, _⟩
        · rw [h1] at hlk; simp at hlk
        · injection h1 with h1; exact ⟨b, o, h1⟩
      subst had
      have hrow := (HVq.out.fr0 RF.out).row HNn.out (by omega)
      obtain ⟨e, he⟩ : ∃ e, m.ents[k] = e := ⟨_, rfl⟩
      obtain ⟨d0, d1, d2, d3, d4, d5, d6, d7, d8, d9, d10⟩ := entCells hrow.2 hlk he
      have hmem : e ∈ m.ents := by rw [← he]; exact List.getElem_mem _
      have HPt := Lib.hid (fun w => rPut5 e w (HFE.out e hmem))
      rw [put5R_yes e (HAll.out e hmem) (HOne.out e hmem), HAll.out e hmem, decide_eq_true (HOne.out e hmem)] at HPt
      have hle := put5_length e (by have := HD.out e hmem; omega)
      obtain ⟨AA, hAA⟩ : ∃ A, bs (LL ++ (m.ents.take k).flatMap put5) = A := ⟨_, rfl⟩
      obtain ⟨BB, hBB⟩ : ∃ B, bs (put5 e) = B := ⟨_, rfl⟩
      have hsum : ¬ 9223372036854775807 < AA.size + BB.size := by rw [← hAA, ← hBB, bs_size, bs_size, hLsz.out, hle]; omega
      have HSt : Hid (AA ++ BB = bs (LL ++ (m.ents.take (k + 1)).flatMap put5)) := by show _ = _; rw [← hAA, ← hBB, bs_append, flat_step _ _ _ hlk he, List.append_assoc]
      rw [hBB] at HPt
      rw [hAA]
      unfold Ent.cells at HPt
      clear he hrow hlk hmem hle hAA hBB hLsz
      go_wp2_with fail
      refine (HPt.out _).mono ?_
      rintro r w5 ⟨rfl, f5⟩
      have HF5 := Lib.hid (RF.out.trans0 f5)
      clear f5 d0 d1 d2 d3 d4 d5 d6 d7 d8 d9 d10 c9
      go_wp2_with fail
      go_roundw
      case rel => exact ⟨k + 1, by omega, by go_num, congrArg Value.string HSt.out, HF5.out⟩
      case measure => simp [intOf]; omega
    · have hkn : k = n := by omega
      have htk : m.ents.take k = m.ents := List.take_of_length_le (by have := HNn.out; omega)
      obtain ⟨AA, hAA⟩ : ∃ A, bs (LL ++ (m.ents.take k).flatMap put5) = A := ⟨_, rfl⟩
      have hAs : AA.size ≤ 7085 := by rw [← hAA, bs_size, hLsz.out]; omega
      rw [hAA]
      rw [htk] at hAA
      have HAA := Lib.hid hAA
      have HBe := Lib.hid (HBq.out.fr0 RF.out).drew
      have HFe := Lib.hid (HFq.out.trans0 RF.out).drew
      clear htk hAA hLsz
      go_wp2_with fail
      clear c9
      refine wp_region_held_drew (S := fun w' => w'.cell? ⟨bx, 10, none⟩ = some (.string m.snap)) (by kernel_rfl) ?_ (fun hHeld => ?_)
      · exact HBe.out.cellAt (i := 10) rfl
      refine tk 0 ?_
      simp only [Act.put, lt0', lt1', lt2']
      refine tk 1 ?_
      simp only [Act.put, lt0', lt1', lt2']
      refine tk 2 ?_
      simp only [Act.put, lt0', lt1', lt2']
      refine tk 3 ?_
      simp only [Act.put, lt0', lt1', lt2']
      refine tk 4 ?_
      simp only [Act.put, lt0', lt1', lt2']
      refine tk 7 ?_
      simp only [Act.put, lt0', lt1', lt2']
      refine tk 8 ?_
      simp only [Act.put, lt0', lt1', lt2']
      refine wpAnyH_ready (rs := [5]) (by kernel_rfl) (by simp) ?_
      refine AllReadyH.cons (by simp only [lg0, lg1, lg2]; rfl) (fun K hK => ?_) AllReadyH.nil
      go_simp
      (go_at_call 34; refine (rFixed5 ((m.snap.size : Nat)) 4 _ (by decide) (by decide) (by omega) (by omega)).mono ?_; rintro r x20 ⟨rfl, g⟩; have HBx20 := Lib.hid (HBe.out.fr0 g); have HFx20 := Lib.hid (HFe.out.trans0 g); clear g)
      refine hK.out _ _ ?_ (fun hHeldc20 => ?_)
      · exact HBx20.out.cellAt (i := 10) rfl
      clear hK K
      try simp only [Act.put, lt0', lt1', lt2']
      obtain ⟨X20, hX20⟩ : ∃ X, bs (fixL ((m.snap.size : Nat)) 4) = X := ⟨_, rfl⟩
      have s20 : X20.size = 4 := by rw [← hX20, bs_size, fixL_length _ 4 (by decide)]
      rw [hX20]
      have HX20 := Lib.hid hX20
      clear hX20
      have hsum : ¬ 9223372036854775807 < AA.size + 4 := by omega
      refine tk 6 ?_
      simp only [Act.put, lt0', lt1', lt2']
      obtain ⟨ZZ, hZZ⟩ : ∃ Z, AA ++ X20 = Z := ⟨_, rfl⟩
      have hZs : ZZ.size ≤ 7089 := by rw [← hZZ, ByteArray.size_append]; omega
      rw [hZZ]
      have HZZ := Lib.hid hZZ
      clear hsum hZZ
      have hsum : ¬ 9223372036854775807 < ZZ.size + m.snap.size := by omega
      refine tk 9 ?_
      simp only [Act.put, lt0', lt1', lt2']
      refine wpAnyH_ready (rs := [10]) (by kernel_rfl) (by simp) ?_
      refine AllReadyH.cons (by simp only [lg0, lg1, lg2]; rfl) (fun K hK => ?_) AllReadyH.nil
      go_simp
      refine hK.out _ _ ?_ (fun hHeldd => ?_)
      · exact HBx20.out.cellAt (i := 10) rfl
      clear hK K
      try simp only [Act.put, lt0', lt1', lt2']
      refine wpAnyH_ready (rs := [11]) (by kernel_rfl) (by simp) ?_
      refine AllReadyH.cons (by simp only [lg0, lg1, lg2]; rfl) (fun K hK => ?_) AllReadyH.nil
      go_simp
      refine hK.out _ _ ?_ (fun hHelde => ?_)
      · exact HBx20.out.cellAt (i := 10) rfl
      clear hK K
      try simp only [Act.put, lt0', lt1', lt2']
      refine wpAnyH_done (by kernel_rfl) ?_ _
      have HRz : Hid (ZZ ++ m.snap = bs (putM5 m)) := by
        show _ = _
        rw [HP5.out, ← HZZ.out, ← HAA.out, ← HX20.out]
        conv => lhs; rhs; rw [← bs_of m.snap]
        simp only [bs_append]
      go_wp2_with fail
      go_ret2
      exact ⟨by rw [← HRz.out]; rfl, HFx20.out⟩

set_option maxRecDepth 100000 in
set_option maxHeartbeats 8000000 in
theorem rPutM_false (m : Msg) (v : Value) (w : World) (hf : m.Fits) (hv : Ents w v m.ents) (hok : m.ok = true) (hl : m.lvl ≤ 1) (hy : m.yes = false) :
    Calls Tryd.prog 21 #[.agg (m.cells v)] w fun r w' => r = .returned (.tuple #[.string (bs (putM5 m)), .bool true]) ∧ Fr [] w w' := by
  obtain ⟨hk, hs, hg, hn64, hall, hsn⟩ := okM_small m hok
  obtain ⟨hlv, hone⟩ := lvlM_one m hl
  obtain ⟨ad, cp, rfl⟩ := hv.shape
  have HR := Lib.hid (fun w (hv : Ents w (.slice ad m.ents.length cp) m.ents) => rMsgRight m _ w hf hv)
  have HLv := Lib.hid (fun w (hv : Ents w (.slice ad m.ents.length cp) m.ents) => rMsgLevel m _ w hf hv)
  rw [hok] at HR
  rw [hlv] at HLv
  have HFE := Lib.hid hf.ents
  obtain ⟨hT, hI, hP, hC, hM, _, _, hS⟩ := hf
  have HV0 := Lib.hid (hv.fr0 ((Fr.refl [] w).alloc (.cells (m.cells (.slice ad m.ents.length cp)) 47)))
  have HAll := Lib.hid hall
  have HOne := Lib.hid hone
  have HD : Hid (∀ e, e ∈ m.ents → e.data.size ≤ 64) := fun e he => ok_data e (hall e he)
  unfold U64 at *
  unfold maxLen at hS
  have kk : IntKind.u64.wrap m.kind = m.kind := by rw [IntKind.wrap_u64]; omega
  have ks : IntKind.u64.wrap m.sent = m.sent := by rw [IntKind.wrap_u64]; omega
  have kg : IntKind.u64.wrap m.goal = m.goal := by rw [IntKind.wrap_u64]; omega
  have kn : IntKind.u64.wrap (m.ents.length : Nat) = (m.ents.length : Nat) := by rw [IntKind.wrap_u64]; omega
  have kz : IntKind.u64.wrap (m.snap.size : Nat) = (m.snap.size : Nat) := by rw [IntKind.wrap_u64]; omega
  have HP5 : Hid (putM5 m = fixL m.kind 1 ++ fixL m.sent 1 ++ fixL m.goal 1 ++ fixL m.term 8 ++ fixL m.index 8 ++ fixL m.prev 8 ++ fixL m.commit 8 ++ fixL m.mark 8 ++ fixL (yesN m.yes) 1 ++ fixL (m.ents.length : Nat) 1 ++ m.ents.flatMap put5 ++ fixL (m.snap.size : Nat) 4 ++ m.snap.data.toList) := by
    unfold putM5
    simp only [List.append_assoc]
    exact trivial
  unfold Msg.cells at *
  rw [hy] at HP5 HR HLv HV0 ⊢
  rw [show yesN false = 0 from rfl] at HP5
  clear hok hl hlv hv hall hone hy
  generalize hn : m.ents.length = n at *
  have HNn := Lib.hid hn
  clear hn
  go_enter Tryd.func21, Tryd.ntmps21
  go_wp2_with fail
  refine (HR.out _ HV0.out).mono ?_
  rintro r w1 ⟨rfl, f1⟩
  have HB1 := Lib.hid ((Blk.new w #[.int .i64 m.kind, .int .i64 m.sent, .int .i64 m.goal, .int .u64 m.term, .int .u64 m.index, .int .u64 m.prev, .int .u64 m.commit, .int .u64 m.mark, .bool false, .slice ad n cp, .string m.snap] 47).fr0 f1)
  have HV1 := Lib.hid (HV0.out.fr0 f1)
  have HF1 : Hid (Fr [] w w1) := ((Fr.refl [] w).alloc _).trans0 f1
  generalize hbx : w.heap.size = bx at *
  have Hbx := Lib.hid hbx
  clear f1 hbx
  have c0 : w1.cell? ⟨bx, 0, none⟩ = some (.int .i64 m.kind) := HB1.out.cellAt (i := 0) rfl
  have c1 : w1.cell? ⟨bx, 1, none⟩ = some (.int .i64 m.sent) := HB1.out.cellAt (i := 1) rfl
  have c2 : w1.cell? ⟨bx, 2, none⟩ = some (.int .i64 m.goal) := HB1.out.cellAt (i := 2) rfl
  have c3 : w1.cell? ⟨bx, 3, none⟩ = some (.int .u64 m.term) := HB1.out.cellAt (i := 3) rfl
  have c4 : w1.cell? ⟨bx, 4, none⟩ = some (.int .u64 m.index) := HB1.out.cellAt (i := 4) rfl
  have c5 : w1.cell? ⟨bx, 5, none⟩ = some (.int .u64 m.prev) := HB1.out.cellAt (i := 5) rfl
  have c6 : w1.cell? ⟨bx, 6, none⟩ = some (.int .u64 m.commit) := HB1.out.cellAt (i := 6) rfl
  have c7 : w1.cell? ⟨bx, 7, none⟩ = some (.int .u64 m.mark) := HB1.out.cellAt (i := 7) rfl
  have c8 : w1.cell? ⟨bx, 8, none⟩ = some (.bool false) := HB1.out.cellAt (i := 8) rfl
  have c9 : w1.cell? ⟨bx, 9, none⟩ = some (.slice ad n cp) := HB1.out.cellAt (i := 9) rfl
  have c10 : w1.cell? ⟨bx, 10, none⟩ = some (.string m.snap) := HB1.out.cellAt (i := 10) rfl
  go_wp2_with fail
  refine (HLv.out _ HV1.out).mono ?_
  rintro r w2 ⟨rfl, f2⟩
  have HB2 := Lib.hid (HB1.out.fr0 f2)
  have HV2 := Lib.hid (HV1.out.fr0 f2)
  have HF2 := Lib.hid (HF1.out.trans0 f2)
  clear f2 HB1 HF1 HV1 HV0 c0 c1 c2 c3 c4 c5 c6 c7 c8 c9 c10
  have c8 : w2.cell? ⟨bx, 8, none⟩ = some (.bool false) := HB2.out.cellAt (i := 8) rfl
  go_wp2_with fail
  clear c8
  have HB4 : Hid (Blk w2.drew bx #[.int .i64 m.kind, .int .i64 m.sent, .int .i64 m.goal, .int .u64 m.term, .int .u64 m.index, .int .u64 m.prev, .int .u64 m.commit, .int .u64 m.mark, .bool false, .slice ad n cp, .string m.snap] 47) := HB2.out.drew
  have HF4 := Lib.hid HF2.out.drew
  have HV4 : Hid (Ents w2.drew (.slice ad n cp) m.ents) := HV2.out
  refine wp_region_held_drew (S := fun w' => w'.cell? ⟨bx, 0, none⟩ = some (.int .i64 m.kind) ∧ w'.cell? ⟨bx, 1, none⟩ = some (.int .i64 m.sent) ∧ w'.cell? ⟨bx, 2, none⟩ = some (.int .i64 m.goal) ∧ w'.cell? ⟨bx, 3, none⟩ = some (.int .u64 m.term) ∧ w'.cell? ⟨bx, 4, none⟩ = some (.int .u64 m.index) ∧ w'.cell? ⟨bx, 5, none⟩ = some (.int .u64 m.prev) ∧ w'.cell? ⟨bx, 6, none⟩ = some (.int .u64 m.commit) ∧ w'.cell? ⟨bx, 7, none⟩ = some (.int .u64 m.mark) ∧ w'.cell? ⟨bx, 9, none⟩ = some (.slice ad n cp)) (by kernel_rfl) ?_ (fun hHeld => ?_)
  · exact ⟨HB4.out.cellAt (i := 0) rfl, HB4.out.cellAt (i := 1) rfl, HB4.out.cellAt (i := 2) rfl, HB4.out.cellAt (i := 3) rfl, HB4.out.cellAt (i := 4) rfl, HB4.out.cellAt (i := 5) rfl, HB4.out.cellAt (i := 6) rfl, HB4.out.cellAt (i := 7) rfl, HB4.out.cellAt (i := 9) rfl⟩
  refine tk 0 ?_
  simp only [Act.put, lt0', lt1', lt2']
  refine tk 1 ?_
  simp only [Act.put, lt0', lt1', lt2']
  refine tk 2 ?_
  simp only [Act.put, lt0', lt1', lt2']
  refine tk 4 ?_
  simp only [Act.put, lt0', lt1', lt2']
  refine tk 5 ?_
  simp only [Act.put, lt0', lt1', lt2']
  refine tk 6 ?_
  simp only [Act.put, lt0', lt1', lt2']
  refine tk 9 ?_
  simp only [Act.put, lt0', lt1', lt2']
  refine tk 10 ?_
  simp only [Act.put, lt0', lt1', lt2']
  refine tk 11 ?_
  simp only [Act.put, lt0', lt1', lt2']
  refine tk 14 ?_
  simp only [Act.put, lt0', lt1', lt2']
  refine tk 15 ?_
  simp only [Act.put, lt0', lt1', lt2']
  refine tk 18 ?_
  simp only [Act.put, lt0', lt1', lt2']
  refine tk 19 ?_
  simp only [Act.put, lt0', lt1', lt2']
  refine tk 22 ?_
  simp only [Act.put, lt0', lt1', lt2']
  refine tk 23 ?_
  simp only [Act.put, lt0', lt1', lt2']
  refine tk 26 ?_
  simp only [Act.put, lt0', lt1', lt2']
  refine tk 27 ?_
  simp only [Act.put, lt0', lt1', lt2']
  refine tk 30 ?_
  simp only [Act.put, lt0', lt1', lt2']
  refine tk 31 ?_
  simp only [Act.put, lt0', lt1', lt2']
  refine tk 34 ?_
  simp only [Act.put, lt0', lt1', lt2']
  refine tk 37 ?_
  simp only [Act.put, lt0', lt1', lt2']
  refine tk 38 ?_
  simp only [Act.put, lt0', lt1', lt2']
  refine tk 39 ?_
  simp only [Act.put, lt0', lt1', lt2']
  refine tk 40 ?_
  simp only [Act.put, lt0', lt1', lt2']
  refine wpAnyH_ready (rs := [3]) (by kernel_rfl) (by simp) ?_
  refine AllReadyH.cons (by simp only [lg0, lg1, lg2]; rfl) (fun K hK => ?_) AllReadyH.nil
  go_simp
  (go_at_call 34; refine (rFixed5 (m.kind) 1 _ (by decide) (by decide) (by omega) (by omega)).mono ?_; rintro r x0 ⟨rfl, g⟩; have HBx0 := Lib.hid (HB4.out.fr0 g); have HFx0 := Lib.hid (HF4.out.trans0 g); have HVx0 := Lib.hid (HV4.out.fr0 g); clear g)
  refine hK.out _ _ ?_ (fun hHeldc0 => ?_)
  · exact ⟨HBx0.out.cellAt (i := 0) rfl, HBx0.out.cellAt (i := 1) rfl, HBx0.out.cellAt (i := 2) rfl, HBx0.out.cellAt (i := 3) rfl, HBx0.out.cellAt (i := 4) rfl, HBx0.out.cellAt (i := 5) rfl, HBx0.out.cellAt (i := 6) rfl, HBx0.out.cellAt (i := 7) rfl, HBx0.out.cellAt (i := 9) rfl⟩
  clear hK K
  try simp only [Act.put, lt0', lt1', lt2']
  obtain ⟨X0, hX0⟩ : ∃ X, bs (fixL (m.kind) 1) = X := ⟨_, rfl⟩
  have s0 : X0.size = 1 := by rw [← hX0, bs_size, fixL_length _ 1 (by decide)]
  rw [hX0]
  have HX0 := Lib.hid hX0
  clear hX0
  refine wpAnyH_ready (rs := [7]) (by kernel_rfl) (by simp) ?_
  refine AllReadyH.cons (by simp only [lg0, lg1, lg2]; rfl) (fun K hK => ?_) AllReadyH.nil
  go_simp
  (go_at_call 34; refine (rFixed5 (m.sent) 1 _ (by decide) (by decide) (by omega) (by omega)).mono ?_; rintro r x1 ⟨rfl, g⟩; have HBx1 := Lib.hid (HBx0.out.fr0 g); have HFx1 := Lib.hid (HFx0.out.trans0 g); have HVx1 := Lib.hid (HVx0.out.fr0 g); clear g)
  refine hK.out _ _ ?_ (fun hHeldc1 => ?_)
  · exact ⟨HBx1.out.cellAt (i := 0) rfl, HBx1.out.cellAt (i := 1) rfl, HBx1.out.cellAt (i := 2) rfl, HBx1.out.cellAt (i := 3) rfl, HBx1.out.cellAt (i := 4) rfl, HBx1.out.cellAt (i := 5) rfl, HBx1.out.cellAt (i := 6) rfl, HBx1.out.cellAt (i := 7) rfl, HBx1.out.cellAt (i := 9) rfl⟩
  clear hK K
  try simp only [Act.put, lt0', lt1', lt2']
  obtain ⟨X1, hX1⟩ : ∃ X, bs (fixL (m.sent) 1) = X := ⟨_, rfl⟩
  have s1 : X1.size = 1 := by rw [← hX1, bs_size, fixL_length _ 1 (by decide)]
  rw [hX1]
  have HX1 := Lib.hid hX1
  clear hX1
  have hsum : ¬ 9223372036854775807 < X0.size + X1.size := by omega
  refine tk 8 ?_
  simp only [Act.put, lt0', lt1', lt2']
  clear hsum
  obtain ⟨Y1, hY1⟩ : ∃ Y, X0 ++ X1 = Y := ⟨_, rfl⟩
  have t1 : Y1.size = 2 := by rw [← hY1, ByteArray.size_append]; omega
  rw [hY1]
  have HY1 := Lib.hid hY1
  clear hY1
  refine wpAnyH_ready (rs := [12]) (by kernel_rfl) (by simp) ?_
  refine AllReadyH.cons (by simp only [lg0, lg1, lg2]; rfl) (fun K hK => ?_) AllReadyH.nil
  go_simp
  (go_at_call 34; refine (rFixed5 (m.goal) 1 _ (by decide) (by decide) (by omega) (by omega)).mono ?_; rintro r x2 ⟨rfl, g⟩; have HBx2 := Lib.hid (HBx1.out.fr0 g); have HFx2 := Lib.hid (HFx1.out.trans0 g); have HVx2 := Lib.hid (HVx1.out.fr0 g); clear g)
  refine hK.out _ _ ?_ (fun hHeldc2 => ?_)
  · exact ⟨HBx2.out.cellAt (i := 0) rfl, HBx2.out.cellAt (i := 1) rfl, HBx2.out.cellAt (i := 2) rfl, HBx2.out.cellAt (i := 3) rfl, HBx2.out.cellAt (i := 4) rfl, HBx2.out.cellAt (i := 5) rfl, HBx2.out.cellAt (i := 6) rfl, HBx2.out.cellAt (i := 7) rfl, HBx2.out.cellAt (i := 9) rfl⟩
  clear hK K
  try simp only [Act.put, lt0', lt1', lt2']
  obtain ⟨X2, hX2⟩ : ∃ X, bs (fixL (m.goal) 1) = X := ⟨_, rfl⟩
  have s2 : X2.size = 1 := by rw [← hX2, bs_size, fixL_length _ 1 (by decide)]
  rw [hX2]
  have HX2 := Lib.hid hX2
  clear hX2
  have hsum : ¬ 9223372036854775807 < Y1.size + X2.size := by omega
  refine tk 13 ?_
  simp only [Act.put, lt0', lt1', lt2']
  clear hsum
  obtain ⟨Y2, hY2⟩ : ∃ Y, Y1 ++ X2 = Y := ⟨_, rfl⟩
  have t2 : Y2.size = 3 := by rw [← hY2, ByteArray.size_append]; omega
  rw [hY2]
  have HY2 := Lib.hid hY2
  clear hY2
  refine wpAnyH_ready (rs := [16]) (by kernel_rfl) (by simp) ?_
  refine AllReadyH.cons (by simp only [lg0, lg1, lg2]; rfl) (fun K hK => ?_) AllReadyH.nil
  go_simp
  (go_at_call 34; refine (rFixed5 (m.term) 8 _ (by decide) (by decide) hT.1 hT.2).mono ?_; rintro r x3 ⟨rfl, g⟩; have HBx3 := Lib.hid (HBx2.out.fr0 g); have HFx3 := Lib.hid (HFx2.out.trans0 g); have HVx3 := Lib.hid (HVx2.out.fr0 g); clear g)
  refine hK.out _ _ ?_ (fun hHeldc3 => ?_)
  · exact ⟨HBx3.out.cellAt (i := 0) rfl, HBx3.out.cellAt (i := 1) rfl, HBx3.out.cellAt (i := 2) rfl, HBx3.out.cellAt (i := 3) rfl, HBx3.out.cellAt (i := 4) rfl, HBx3.out.cellAt (i := 5) rfl, HBx3.out.cellAt (i := 6) rfl, HBx3.out.cellAt (i := 7) rfl, HBx3.out.cellAt (i := 9) rfl⟩
  clear hK K
  try simp only [Act.put, lt0', lt1', lt2']
  obtain ⟨X3, hX3⟩ : ∃ X, bs (fixL (m.term) 8) = X := ⟨_, rfl⟩
  have s3 : X3.size = 8 := by rw [← hX3, bs_size, fixL_length _ 8 (by decide)]
  rw [hX3]
  have HX3 := Lib.hid hX3
  clear hX3
  have hsum : ¬ 9223372036854775807 < Y2.size + X3.size := by omega
  refine tk 17 ?_
  simp only [Act.put, lt0', lt1', lt2']
  clear hsum
  obtain ⟨Y3, hY3⟩ : ∃ Y, Y2 ++ X3 = Y := ⟨_, rfl⟩
  have t3 : Y3.size = 11 := by rw [← hY3, ByteArray.size_append]; omega
  rw [hY3]
  have HY3 := Lib.hid hY3
  clear hY3
  refine wpAnyH_ready (rs := [20]) (by kernel_rfl) (by simp) ?_
  refine AllReadyH.cons (by simp only [lg0, lg1, lg2]; rfl) (fun K hK => ?_) AllReadyH.nil
  go_simp
  (go_at_call 34; refine (rFixed5 (m.index) 8 _ (by decide) (by decide) hI.1 hI.2).mono ?_; rintro r x4 ⟨rfl, g⟩; have HBx4 := Lib.hid (HBx3.out.fr0 g); have HFx4 := Lib.hid (HFx3.out.trans0 g); have HVx4 := Lib.hid (HVx3.out.fr0 g); clear g)
  refine hK.out _ _ ?_ (fun hHeldc4 => ?_)
  · exact ⟨HBx4.out.cellAt (i := 0) rfl, HBx4.out.cellAt (i := 1) rfl, HBx4.out.cellAt (i := 2) rfl, HBx4.out.cellAt (i := 3) rfl, HBx4.out.cellAt (i := 4) rfl, HBx4.out.cellAt (i := 5) rfl, HBx4.out.cellAt (i := 6) rfl, HBx4.out.cellAt (i := 7) rfl, HBx4.out.cellAt (i := 9) rfl⟩
  clear hK K
  try simp only [Act.put, lt0', lt1', lt2']
  obtain ⟨X4, hX4⟩ : ∃ X, bs (fixL (m.index) 8) = X := ⟨_, rfl⟩
  have s4 : X4.size = 8 := by rw [← hX4, bs_size, fixL_length _ 8 (by decide)]
  rw [hX4]
  have HX4 := Lib.hid hX4
  clear hX4
  have hsum : ¬ 9223372036854775807 < Y3.size + X4.size := by omega
  refine tk 21 ?_
  simp only [Act.put, lt0', lt1', lt2']
  clear hsum
  obtain ⟨Y4, hY4⟩ : ∃ Y, Y3 ++ X4 = Y := ⟨_, rfl⟩
  have t4 : Y4.size = 19 := by rw [← hY4, ByteArray.size_append]; omega
  rw [hY4]
  have HY4 := Lib.hid hY4
  clear hY4
  refine wpAnyH_ready (rs := [24]) (by kernel_rfl) (by simp) ?_
  refine AllReadyH.cons (by simp only [lg0, lg1, lg2]; rfl) (fun K hK => ?_) AllReadyH.nil
  go_simp
  (go_at_call 34; refine (rFixed5 (m.prev) 8 _ (by decide) (by decide) hP.1 hP.2).mono ?_; rintro r x5 ⟨rfl, g⟩; have HBx5 := Lib.hid (HBx4.out.fr0 g); have HFx5 := Lib.hid (HFx4.out.trans0 g); have HVx5 := Lib.hid (HVx4.out.fr0 g); clear g)
  refine hK.out _ _ ?_ (fun hHeldc5 => ?_)
  · exact ⟨HBx5.out.cellAt (i := 0) rfl, HBx5.out.cellAt (i := 1) rfl, HBx5.out.cellAt (i := 2) rfl, HBx5.out.cellAt (i := 3) rfl, HBx5.out.cellAt (i := 4) rfl, HBx5.out.cellAt (i := 5) rfl, HBx5.out.cellAt (i := 6) rfl, HBx5.out.cellAt (i := 7) rfl, HBx5.out.cellAt (i := 9) rfl⟩
  clear hK K
  try simp only [Act.put, lt0', lt1', lt2']
  obtain ⟨X5, hX5⟩ : ∃ X, bs (fixL (m.prev) 8) = X := ⟨_, rfl⟩
  have s5 : X5.size = 8 := by rw [← hX5, bs_size, fixL_length _ 8 (by decide)]
  rw [hX5]
  have HX5 := Lib.hid hX5
  clear hX5
  have hsum : ¬ 9223372036854775807 < Y4.size + X5.size := by omega
  refine tk 25 ?_
  simp only [Act.put, lt0', lt1', lt2']
  clear hsum
  obtain ⟨Y5, hY5⟩ : ∃ Y, Y4 ++ X5 = Y := ⟨_, rfl⟩
  have t5 : Y5.size = 27 := by rw [← hY5, ByteArray.size_append]; omega
  rw [hY5]
  have HY5 := Lib.hid hY5
  clear hY5
  refine wpAnyH_ready (rs := [28]) (by kernel_rfl) (by simp) ?_
  refine AllReadyH.cons (by simp only [lg0, lg1, lg2]; rfl) (fun K hK => ?_) AllReadyH.nil
  go_simp
  (go_at_call 34; refine (rFixed5 (m.commit) 8 _ (by decide) (by decide) hC.1 hC.2).mono ?_; rintro r x6 ⟨rfl, g⟩; have HBx6 := Lib.hid (HBx5.out.fr0 g); have HFx6 := Lib.hid (HFx5.out.trans0 g); have HVx6 := Lib.hid (HVx5.out.fr0 g); clear g)
  refine hK.out _ _ ?_ (fun hHeldc6 => ?_)
  · exact ⟨HBx6.out.cellAt (i := 0) rfl, HBx6.out.cellAt (i := 1) rfl, HBx6.out.cellAt (i := 2) rfl, HBx6.out.cellAt (i := 3) rfl, HBx6.out.cellAt (i := 4) rfl, HBx6.out.cellAt (i := 5) rfl, HBx6.out.cellAt (i := 6) rfl, HBx6.out.cellAt (i := 7) rfl, HBx6.out.cellAt (i := 9) rfl⟩
  clear hK K
  try simp only [Act.put, lt0', lt1', lt2']
  obtain ⟨X6, hX6⟩ : ∃ X, bs (fixL (m.commit) 8) = X := ⟨_, rfl⟩
  have s6 : X6.size = 8 := by rw [← hX6, bs_size, fixL_length _ 8 (by decide)]
  rw [hX6]
  have HX6 := Lib.hid hX6
  clear hX6
  have hsum : ¬ 9223372036854775807 < Y5.size + X6.size := by omega
  refine tk 29 ?_
  simp only [Act.put, lt0', lt1', lt2']
  clear hsum
  obtain ⟨Y6, hY6⟩ : ∃ Y, Y5 ++ X6 = Y := ⟨_, rfl⟩
  have t6 : Y6.size = 35 := by rw [← hY6, ByteArray.size_append]; omega
  rw [hY6]
  have HY6 := Lib.hid hY6
  clear hY6
  refine wpAnyH_ready (rs := [32]) (by kernel_rfl) (by simp) ?_
  refine AllReadyH.cons (by simp only [lg0, lg1, lg2]; rfl) (fun K hK => ?_) AllReadyH.nil
  go_simp
  (go_at_call 34; refine (rFixed5 (m.mark) 8 _ (by decide) (by decide) hM.1 hM.2).mono ?_; rintro r x7 ⟨rfl, g⟩; have HBx7 := Lib.hid (HBx6.out.fr0 g); have HFx7 := Lib.hid (HFx6.out.trans0 g); have HVx7 := Lib.hid (HVx6.out.fr0 g); clear g)
  refine hK.out _ _ ?_ (fun hHeldc7 => ?_)
  · exact ⟨HBx7.out.cellAt (i := 0) rfl, HBx7.out.cellAt (i := 1) rfl, HBx7.out.cellAt (i := 2) rfl, HBx7.out.cellAt (i := 3) rfl, HBx7.out.cellAt (i := 4) rfl, HBx7.out.cellAt (i := 5) rfl, HBx7.out.cellAt (i := 6) rfl, HBx7.out.cellAt (i := 7) rfl, HBx7.out.cellAt (i := 9) rfl⟩
  clear hK K
  try simp only [Act.put, lt0', lt1', lt2']
  obtain ⟨X7, hX7⟩ : ∃ X, bs (fixL (m.mark) 8) = X := ⟨_, rfl⟩
  have s7 : X7.size = 8 := by rw [← hX7, bs_size, fixL_length _ 8 (by decide)]
  rw [hX7]
  have HX7 := Lib.hid hX7
  clear hX7
  have hsum : ¬ 9223372036854775807 < Y6.size + X7.size := by omega
  refine tk 33 ?_
  simp only [Act.put, lt0', lt1', lt2']
  clear hsum
  obtain ⟨Y7, hY7⟩ : ∃ Y, Y6 ++ X7 = Y := ⟨_, rfl⟩
  have t7 : Y7.size = 43 := by rw [← hY7, ByteArray.size_append]; omega
  rw [hY7]
  have HY7 := Lib.hid hY7
  clear hY7
  refine wpAnyH_ready (rs := [35]) (by kernel_rfl) (by simp) ?_
  refine AllReadyH.cons (by simp only [lg0, lg1, lg2]; rfl) (fun K hK => ?_) AllReadyH.nil
  go_simp
  (go_at_call 34; refine (rFixed5 (0) 1 _ (by decide) (by decide) (by decide) (by decide)).mono ?_; rintro r x8 ⟨rfl, g⟩; have HBx8 := Lib.hid (HBx7.out.fr0 g); have HFx8 := Lib.hid (HFx7.out.trans0 g); have HVx8 := Lib.hid (HVx7.out.fr0 g); clear g)
  refine hK.out _ _ ?_ (fun hHeldc8 => ?_)
  · exact ⟨HBx8.out.cellAt (i := 0) rfl, HBx8.out.cellAt (i := 1) rfl, HBx8.out.cellAt (i := 2) rfl, HBx8.out.cellAt (i := 3) rfl, HBx8.out.cellAt (i := 4) rfl, HBx8.out.cellAt (i := 5) rfl, HBx8.out.cellAt (i := 6) rfl, HBx8.out.cellAt (i := 7) rfl, HBx8.out.cellAt (i := 9) rfl⟩
  clear hK K
  try simp only [Act.put, lt0', lt1', lt2']
  obtain ⟨X8, hX8⟩ : ∃ X, bs (fixL (0) 1) = X := ⟨_, rfl⟩
  have s8 : X8.size = 1 := by rw [← hX8, bs_size, fixL_length _ 1 (by decide)]
  rw [hX8]
  have HX8 := Lib.hid hX8
  clear hX8
  have hsum : ¬ 9223372036854775807 < Y7.size + X8.size := by omega
  refine tk 36 ?_
  simp only [Act.put, lt0', lt1', lt2']
  clear hsum
  obtain ⟨Y8, hY8⟩ : ∃ Y, Y7 ++ X8 = Y := ⟨_, rfl⟩
  have t8 : Y8.size = 44 := by rw [← hY8, ByteArray.size_append]; omega
  rw [hY8]
  have HY8 := Lib.hid hY8
  clear hY8
  refine wpAnyH_ready (rs := [41]) (by kernel_rfl) (by simp) ?_
  refine AllReadyH.cons (by simp only [lg0, lg1, lg2]; rfl) (fun K hK => ?_) AllReadyH.nil
  go_simp
  (go_at_call 34; refine (rFixed5 ((n : Nat)) 1 _ (by decide) (by decide) (by omega) (by omega)).mono ?_; rintro r x9 ⟨rfl, g⟩; have HBx9 := Lib.hid (HBx8.out.fr0 g); have HFx9 := Lib.hid (HFx8.out.trans0 g); have HVx9 := Lib.hid (HVx8.out.fr0 g); clear g)
  refine hK.out _ _ ?_ (fun hHeldc9 => ?_)
  · exact ⟨HBx9.out.cellAt (i := 0) rfl, HBx9.out.cellAt (i := 1) rfl, HBx9.out.cellAt (i := 2) rfl, HBx9.out.cellAt (i := 3) rfl, HBx9.out.cellAt (i := 4) rfl, HBx9.out.cellAt (i := 5) rfl, HBx9.out.cellAt (i := 6) rfl, HBx9.out.cellAt (i := 7) rfl, HBx9.out.cellAt (i := 9) rfl⟩
  clear hK K
  try simp only [Act.put, lt0', lt1', lt2']
  obtain ⟨X9, hX9⟩ : ∃ X, bs (fixL ((n : Nat)) 1) = X := ⟨_, rfl⟩
  have s9 : X9.size = 1 := by rw [← hX9, bs_size, fixL_length _ 1 (by decide)]
  rw [hX9]
  have HX9 := Lib.hid hX9
  clear hX9
  have hsum : ¬ 9223372036854775807 < Y8.size + X9.size := by omega
  refine tk 42 ?_
  simp only [Act.put, lt0', lt1', lt2']
  clear hsum
  obtain ⟨Y9, hY9⟩ : ∃ Y, Y8 ++ X9 = Y := ⟨_, rfl⟩
  have t9 : Y9.size = 45 := by rw [← hY9, ByteArray.size_append]; omega
  rw [hY9]
  have HY9 := Lib.hid hY9
  clear hY9
  refine wpAnyH_ready (rs := [43]) (by kernel_rfl) (by simp) ?_
  refine AllReadyH.cons (by simp only [lg0, lg1, lg2]; rfl) (fun K hK => ?_) AllReadyH.nil
  go_simp
  refine hK.out _ _ ?_ (fun hHelda => ?_)
  · exact ⟨HBx9.out.cellAt (i := 0) rfl, HBx9.out.cellAt (i := 1) rfl, HBx9.out.cellAt (i := 2) rfl, HBx9.out.cellAt (i := 3) rfl, HBx9.out.cellAt (i := 4) rfl, HBx9.out.cellAt (i := 5) rfl, HBx9.out.cellAt (i := 6) rfl, HBx9.out.cellAt (i := 7) rfl, HBx9.out.cellAt (i := 9) rfl⟩
  clear hK K
  try simp only [Act.put, lt0', lt1', lt2']
  refine wpAnyH_done (by kernel_rfl) ?_ _
  obtain ⟨LL, hLL⟩ : ∃ LL, fixL m.kind 1 ++ fixL m.sent 1 ++ fixL m.goal 1 ++ fixL m.term 8 ++ fixL m.index 8 ++ fixL m.prev 8 ++ fixL m.commit 8 ++ fixL m.mark 8 ++ fixL 0 1 ++ fixL (n : Nat) 1 = LL := ⟨_, rfl⟩
  have HRes : Hid (Y9 = bs LL) := by
    show Y9 = _
    rw [← hLL, ← HY9.out, ← HY8.out, ← HY7.out, ← HY6.out, ← HY5.out, ← HY4.out, ← HY3.out, ← HY2.out, ← HY1.out, ← HX0.out, ← HX1.out, ← HX2.out, ← HX3.out, ← HX4.out, ← HX5.out, ← HX6.out, ← HX7.out, ← HX8.out, ← HX9.out]
    simp only [bs_append]
  have HL45 : Hid (LL.length = 45) := by
    have h1 := congrArg ByteArray.size HRes.out
    rw [t9, bs_size] at h1
    exact h1.symm
  rw [hLL] at HP5
  clear hLL hHeld hHeldc0 hHeldc1 hHeldc2 hHeldc3 hHeldc4 hHeldc5 hHeldc6 hHeldc7 hHeldc8 hHeldc9 hHelda
  clear s0 HX0 s1 HX1 s2 HX2 s3 HX3 s4 HX4 s5 HX5 s6 HX6 s7 HX7 s8 HX8 s9 HX9 t1 HY1 t2 HY2 t3 HY3 t4 HY4 t5 HY5 t6 HY6 t7 HY7 t8 HY8 t9 HY9
  rw [HRes.out]
  have HBq := Lib.hid HBx9.out
  have HFq := Lib.hid HFx9.out
  have HVq := Lib.hid HVx9.out
  clear HRes HB4 HF4 HV4 HB2 HF2 HV2 HBx0 HFx0 HVx0 HBx1 HFx1 HVx1 HBx2 HFx2 HVx2 HBx3 HFx3 HVx3 HBx4 HFx4 HVx4 HBx5 HFx5 HVx5 HBx6 HFx6 HVx6 HBx7 HFx7 HVx7 HBx8 HFx8 HVx8 HBx9 HFx9 HVx9
  generalize x9 = U at *
  go_wp2_with fail
  go_loopw [6, 7] (fun sv i wr => ∃ k : Nat, k ≤ n ∧ i = .int .i64 k ∧ sv = .string (bs (LL ++ (m.ents.take k).flatMap put5)) ∧ Hid (Fr [] U wr)) (fun _ i _ => n - (intOf i).toNat)
  case atStart => exact ⟨0, by omega, rfl, by rw [List.take_zero, List.flatMap_nil, List.append_nil], Fr.refl _ _⟩
  case round =>
    obtain ⟨k, hk, rfl, rfl, RF⟩ := hrel
    have hLsz : Hid ((LL ++ (m.ents.take k).flatMap put5).length = 45 + 110 * k) := by
      show _ = _
      rw [List.length_append, HL45.out, flat_length _ (fun x hx => by have := HD.out x (List.mem_of_mem_take hx); omega), List.length_take, HNn.out]
      omega
    have c9 : wr.cell? ⟨bx, 9, none⟩ = some (.slice ad n cp) := (HBq.out.fr0 RF.out).cellAt (i := 9) rfl
    by_cases hlt : k < n
    · have hlk : k < m.ents.length := by have := HNn.out; omega
      obtain ⟨gb, go, had⟩ : ∃ b o, ad = some ⟨b, o, none⟩ := by
        rcases HVq.out with ⟨h1, _⟩ | ⟨b, o, c, h1, _⟩
        · rw [h1] at hlk; simp at hlk
        · injection h1 with h1; exact ⟨b, o, h1⟩
      subst had
      have hrow := (HVq.out.fr0 RF.out).row HNn.out (by omega)
      obtain ⟨e, he⟩ : ∃ e, m.ents[k] = e := ⟨_, rfl⟩
      obtain ⟨d0, d1, d2, d3, d4, d5, d6, d7, d8, d9, d10⟩ := entCells hrow.2 hlk he
      have hmem : e ∈ m.ents := by rw [← he]; exact List.getElem_mem _
      have HPt := Lib.hid (fun w => rPut5 e w (HFE.out e hmem))
      rw [put5R_yes e (HAll.out e hmem) (HOne.out e hmem), HAll.out e hmem, decide_eq_true (HOne.out e hmem)] at HPt
      have hle := put5_length e (by have := HD.out e hmem; omega)
      obtain ⟨AA, hAA⟩ : ∃ A, bs (LL ++ (m.ents.take k).flatMap put5) = A := ⟨_, rfl⟩
      obtain ⟨BB, hBB⟩ : ∃ B, bs (put5 e) = B := ⟨_, rfl⟩
      have hsum : ¬ 9223372036854775807 < AA.size + BB.size := by rw [← hAA, ← hBB, bs_size, bs_size, hLsz.out, hle]; omega
      have HSt : Hid (AA ++ BB = bs (LL ++ (m.ents.take (k + 1)).flatMap put5)) := by show _ = _; rw [← hAA, ← hBB, bs_append, flat_step _ _ _ hlk he, List.append_assoc]
      rw [hBB] at HPt
      rw [hAA]
      unfold Ent.cells at HPt
      clear he hrow hlk hmem hle hAA hBB hLsz
      go_wp2_with fail
      refine (HPt.out _).mono ?_
      rintro r w5 ⟨rfl, f5⟩
      have HF5 := Lib.hid (RF.out.trans0 f5)
      clear f5 d0 d1 d2 d3 d4 d5 d6 d7 d8 d9 d10 c9
      go_wp2_with fail
      go_roundw
      case rel => exact ⟨k + 1, by omega, by go_num, congrArg Value.string HSt.out, HF5.out⟩
      case measure => simp [intOf]; omega
    · have hkn : k = n := by omega
      have htk : m.ents.take k = m.ents := List.take_of_length_le (by have := HNn.out; omega)
      obtain ⟨AA, hAA⟩ : ∃ A, bs (LL ++ (m.ents.take k).flatMap put5) = A := ⟨_, rfl⟩
      have hAs : AA.size ≤ 7085 := by rw [← hAA, bs_size, hLsz.out]; omega
      rw [hAA]
      rw [htk] at hAA
      have HAA := Lib.hid hAA
      have HBe := Lib.hid (HBq.out.fr0 RF.out).drew
      have HFe := Lib.hid (HFq.out.trans0 RF.out).drew
      clear htk hAA hLsz
      go_wp2_with fail
      clear c9
      refine wp_region_held_drew (S := fun w' => w'.cell? ⟨bx, 10, none⟩ = some (.string m.snap)) (by kernel_rfl) ?_ (fun hHeld => ?_)
      · exact HBe.out.cellAt (i := 10) rfl
      refine tk 0 ?_
      simp only [Act.put, lt0', lt1', lt2']
      refine tk 1 ?_
      simp only [Act.put, lt0', lt1', lt2']
      refine tk 2 ?_
      simp only [Act.put, lt0', lt1', lt2']
      refine tk 3 ?_
      simp only [Act.put, lt0', lt1', lt2']
      refine tk 4 ?_
      simp only [Act.put, lt0', lt1', lt2']
      refine tk 7 ?_
      simp only [Act.put, lt0', lt1', lt2']
      refine tk 8 ?_
      simp only [Act.put, lt0', lt1', lt2']
      refine wpAnyH_ready (rs := [5]) (by kernel_rfl) (by simp) ?_
      refine AllReadyH.cons (by simp only [lg0, lg1, lg2]; rfl) (fun K hK => ?_) AllReadyH.nil
      go_simp
      (go_at_call 34; refine (rFixed5 ((m.snap.size : Nat)) 4 _ (by decide) (by decide) (by omega) (by omega)).mono ?_; rintro r x20 ⟨rfl, g⟩; have HBx20 := Lib.hid (HBe.out.fr0 g); have HFx20 := Lib.hid (HFe.out.trans0 g); clear g)
      refine hK.out _ _ ?_ (fun hHeldc20 => ?_)
      · exact HBx20.out.cellAt (i := 10) rfl
      clear hK K
      try simp only [Act.put, lt0', lt1', lt2']
      obtain ⟨X20, hX20⟩ : ∃ X, bs (fixL ((m.snap.size : Nat)) 4) = X := ⟨_, rfl⟩
      have s20 : X20.size = 4 := by rw [← hX20, bs_size, fixL_length _ 4 (by decide)]
      rw [hX20]
      have HX20 := Lib.hid hX20
      clear hX20
      have hsum : ¬ 9223372036854775807 < AA.size + 4 := by omega
      refine tk 6 ?_
      simp only [Act.put, lt0', lt1', lt2']
      obtain ⟨ZZ, hZZ⟩ : ∃ Z, AA ++ X20 = Z := ⟨_, rfl⟩
      have hZs : ZZ.size ≤ 7089 := by rw [← hZZ, ByteArray.size_append]; omega
      rw [hZZ]
      have HZZ := Lib.hid hZZ
      clear hsum hZZ
      have hsum : ¬ 9223372036854775807 < ZZ.size + m.snap.size := by omega
      refine tk 9 ?_
      simp only [Act.put, lt0', lt1', lt2']
      refine wpAnyH_ready (rs := [10]) (by kernel_rfl) (by simp) ?_
      refine AllReadyH.cons (by simp only [lg0, lg1, lg2]; rfl) (fun K hK => ?_) AllReadyH.nil
      go_simp
      refine hK.out _ _ ?_ (fun hHeldd => ?_)
      · exact HBx20.out.cellAt (i := 10) rfl
      clear hK K
      try simp only [Act.put, lt0', lt1', lt2']
      refine wpAnyH_ready (rs := [11]) (by kernel_rfl) (by simp) ?_
      refine AllReadyH.cons (by simp only [lg0, lg1, lg2]; rfl) (fun K hK => ?_) AllReadyH.nil
      go_simp
      refine hK.out _ _ ?_ (fun hHelde => ?_)
      · exact HBx20.out.cellAt (i := 10) rfl
      clear hK K
      try simp only [Act.put, lt0', lt1', lt2']
      refine wpAnyH_done (by kernel_rfl) ?_ _
      have HRz : Hid (ZZ ++ m.snap = bs (putM5 m)) := by
        show _ = _
        rw [HP5.out, ← HZZ.out, ← HAA.out, ← HX20.out]
        conv => lhs; rhs; rw [← bs_of m.snap]
        simp only [bs_append]
      go_wp2_with fail
      go_ret2
      exact ⟨by rw [← HRz.out]; rfl, HFx20.out⟩

set_option maxRecDepth 100000 in
set_option maxHeartbeats 4000000 in
theorem rPutM_bad (m : Msg) (v : Value) (w : World) (hf : m.Fits) (hv : Ents w v m.ents) (hok : m.ok = false) :
    Calls Tryd.prog 21 #[.agg (m.cells v)] w fun r w' => r = .returned (.tuple #[.string (bs []), .bool false]) ∧ Fr [] w w' := by
  have HR := Lib.hid (fun w (hv : Ents w v m.ents) => rMsgRight m _ w hf hv)
  rw [hok] at HR
  have HV0 := Lib.hid (hv.fr0 ((Fr.refl [] w).alloc (.cells (m.cells v) 47)))
  clear hok
  unfold Msg.cells at *
  go_enter Tryd.func21, Tryd.ntmps21
  go_wp2_with fail
  refine (HR.out _ HV0.out).mono ?_
  rintro r w1 ⟨rfl, f1⟩
  have HF1 : Hid (Fr [] w w1) := ((Fr.refl [] w).alloc _).trans0 f1
  clear f1
  go_wp2_with fail
  go_ret2
  exact ⟨rfl, HF1.out⟩

set_option maxRecDepth 100000 in
set_option maxHeartbeats 4000000 in
theorem rPutM_two (m : Msg) (v : Value) (w : World) (hf : m.Fits) (hv : Ents w v m.ents) (hok : m.ok = true) (hl : m.lvl = 2) :
    Calls Tryd.prog 21 #[.agg (m.cells v)] w fun r w' => r = .returned (.tuple #[.string (bs []), .bool false]) ∧ Fr [] w w' := by
  have HR := Lib.hid (fun w (hv : Ents w v m.ents) => rMsgRight m _ w hf hv)
  have HLv := Lib.hid (fun w (hv : Ents w v m.ents) => rMsgLevel m _ w hf hv)
  rw [hok] at HR
  rw [hl] at HLv
  have HV0 := Lib.hid (hv.fr0 ((Fr.refl [] w).alloc (.cells (m.cells v) 47)))
  clear hok hl
  unfold Msg.cells at *
  go_enter Tryd.func21, Tryd.ntmps21
  go_wp2_with fail
  refine (HR.out _ HV0.out).mono ?_
  rintro r w1 ⟨rfl, f1⟩
  have HB1 := Lib.hid ((Blk.new w #[.int .i64 m.kind, .int .i64 m.sent, .int .i64 m.goal, .int .u64 m.term, .int .u64 m.index, .int .u64 m.prev, .int .u64 m.commit, .int .u64 m.mark, .bool m.yes, v, .string m.snap] 47).fr0 f1)
  have HF1 : Hid (Fr [] w w1) := ((Fr.refl [] w).alloc _).trans0 f1
  have HV1 := Lib.hid (HV0.out.fr0 f1)
  generalize w.heap.size = bx at *
  clear f1
  have c0 : w1.cell? ⟨bx, 0, none⟩ = some (.int .i64 m.kind) := HB1.out.cellAt (i := 0) rfl
  have c1 : w1.cell? ⟨bx, 1, none⟩ = some (.int .i64 m.sent) := HB1.out.cellAt (i := 1) rfl
  have c2 : w1.cell? ⟨bx, 2, none⟩ = some (.int .i64 m.goal) := HB1.out.cellAt (i := 2) rfl
  have c3 : w1.cell? ⟨bx, 3, none⟩ = some (.int .u64 m.term) := HB1.out.cellAt (i := 3) rfl
  have c4 : w1.cell? ⟨bx, 4, none⟩ = some (.int .u64 m.index) := HB1.out.cellAt (i := 4) rfl
  have c5 : w1.cell? ⟨bx, 5, none⟩ = some (.int .u64 m.prev) := HB1.out.cellAt (i := 5) rfl
  have c6 : w1.cell? ⟨bx, 6, none⟩ = some (.int .u64 m.commit) := HB1.out.cellAt (i := 6) rfl
  have c7 : w1.cell? ⟨bx, 7, none⟩ = some (.int .u64 m.mark) := HB1.out.cellAt (i := 7) rfl
  have c8 : w1.cell? ⟨bx, 8, none⟩ = some (.bool m.yes) := HB1.out.cellAt (i := 8) rfl
  have c9 : w1.cell? ⟨bx, 9, none⟩ = some (v) := HB1.out.cellAt (i := 9) rfl
  have c10 : w1.cell? ⟨bx, 10, none⟩ = some (.string m.snap) := HB1.out.cellAt (i := 10) rfl
  go_wp2_with fail
  refine (HLv.out _ HV1.out).mono ?_
  rintro r w2 ⟨rfl, f2⟩
  have HF2 := Lib.hid (HF1.out.trans0 f2)
  clear f2 c0 c1 c2 c3 c4 c5 c6 c7 c8 c9 c10
  go_wp2_with fail
  go_ret2
  exact ⟨rfl, HF2.out⟩

theorem rPutM (m : Msg) (v : Value) (w : World) (hf : m.Fits) (hv : Ents w v m.ents) :
    Calls Tryd.prog 21 #[.agg (m.cells v)] w fun r w' => r = .returned (.tuple #[.string (bs (putM5R m)), .bool (m.ok && decide (m.lvl ≤ 1))]) ∧ Fr [] w w' := by
  unfold putM5R
  cases hok : m.ok with
  | false => exact rPutM_bad m v w hf hv hok
  | true =>
    by_cases hl : m.lvl ≤ 1
    · rw [decide_eq_true hl]
      cases hy : m.yes with
      | true => exact rPutM_true m v w hf hv hok hl hy
      | false => exact rPutM_false m v w hf hv hok hl hy
    · rw [decide_eq_false hl]
      exact rPutM_two m v w hf hv hok (by unfold Msg.lvl at hl ⊢; split at hl <;> simp_all)
end Go.Proofs.YthfaaoeecajkeaaDoor

namespace Go.Proofs.YthfaaoeecajkeaaDoor
open List renaming getElem?_toArray → lg0, getElem?_cons_succ → lg1, getElem?_cons_zero → lg2, setIfInBounds_toArray → lt0', set_cons_zero → lt1', set_cons_succ → lt2'
open Go.RowKit

/-- A message that is put as it was got stands there alone. -/
theorem goodM_back (L : List UInt8) (mm : Msg) (h : msg5 L = mm) (hle : endM L ≤ L.length) : goodM L = (mm.ok && decide (mm.lvl ≤ 1) && decide (putM5 mm = L)) := by
  have h2 := goodM_put L hle
  subst h
  unfold goodM
  rw [Bool.eq_iff_iff]
  simp only [Bool.and_eq_true, decide_eq_true_eq]
  constructor
  · rintro ⟨⟨⟨h3, h4⟩, h5⟩, h6⟩
    exact ⟨⟨h5, h6⟩, h2.1 ⟨h3, h4⟩⟩
  · rintro ⟨⟨h5, h6⟩, h3⟩
    obtain ⟨h7, h8⟩ := h2.2 h3
    exact ⟨⟨⟨h7, h8⟩, h5⟩, h6⟩
theorem goodM_over (L : List UInt8) (h : L.length < endM L) : goodM L = false := by
  unfold goodM
  rw [decide_eq_false (by omega)]
  rfl

set_option maxRecDepth 100000 in
set_option maxHeartbeats 16000000 in
theorem rGetM (L : List UInt8) (w : World) (hL : L.length ≤ maxLen) :
    Calls Tryd.prog 23 #[.string (bs L)] w fun e w' => ∃ v, e = .returned (.tuple #[.agg ((gotM L).1.cells v), .bool (gotM L).2]) ∧ Hid (Ents w' v (gotM L).1.ents) ∧ Hid (Fr [] w w') := by
  have HLen := Lib.hid hL
  clear hL
  have HB0 := Lib.hid (Blk.new w #[.int .i64 0, .int .i64 0, .int .i64 0, .int .u64 0, .int .u64 0, .int .u64 0, .int .u64 0, .int .u64 0, .bool false, .slice none 0 0, .string ⟨#[]⟩] 47)
  have HF0 : Hid (Fr [] w (w.alloc (.cells #[.int .i64 0, .int .i64 0, .int .i64 0, .int .u64 0, .int .u64 0, .int .u64 0, .int .u64 0, .int .u64 0, .bool false, .slice none 0 0, .string ⟨#[]⟩] 47))) := (Fr.refl [] w).alloc _
  go_enter Tryd.func23, Tryd.ntmps23
  go_wp2_with fail
  generalize hbo : w.heap.size = bo at *
  have Hw := Lib.hid hbo
  clear hbo
  refine (rvNew (bs L) _).mono ?_
  rintro q w1 ⟨rfl, h1, f1⟩
  have HR1 : Hid (RRdAt w1 (w.alloc (.cells #[.int .i64 0, .int .i64 0, .int .i64 0, .int .u64 0, .int .u64 0, .int .u64 0, .int .u64 0, .int .u64 0, .bool false, .slice none 0 0, .string ⟨#[]⟩] 47)).heap.size L 0) := RRdAt.start h1
  have HB1 := Lib.hid (HB0.out.fr0 f1)
  have HF1 := Lib.hid ((HF0.out.trans0 f1).wide0 (S := [(w.alloc (.cells #[.int .i64 0, .int .i64 0, .int .i64 0, .int .u64 0, .int .u64 0, .int .u64 0, .int .u64 0, .int .u64 0, .bool false, .slice none 0 0, .string ⟨#[]⟩] 47)).heap.size]))
  have Hbr : Hid (bo < (w.alloc (.cells #[.int .i64 0, .int .i64 0, .int .i64 0, .int .u64 0, .int .u64 0, .int .u64 0, .int .u64 0, .int .u64 0, .bool false, .slice none 0 0, .string ⟨#[]⟩] 47)).heap.size) := HB0.out.lt
  clear h1 f1 HB0 HF0
  generalize (w.alloc (.cells #[.int .i64 0, .int .i64 0, .int .i64 0, .int .u64 0, .int .u64 0, .int .u64 0, .int .u64 0, .int .u64 0, .bool false, .slice none 0 0, .string ⟨#[]⟩] 47)).heap.size = r at *
  have k0 : IntKind.i64.wrap (numF L 0 1) = numF L 0 1 := by have := numF_byte L 0; exact IntWalk.i64_in _ (by omega)
  have k1 : IntKind.i64.wrap (numF L 1 1) = numF L 1 1 := by have := numF_byte L 1; exact IntWalk.i64_in _ (by omega)
  have k2 : IntKind.i64.wrap (numF L 2 1) = numF L 2 1 := by have := numF_byte L 2; exact IntWalk.i64_in _ (by omega)
  go_wp2_with fail
  refine (rFixAt r L 0 1 _ HR1.out (by decide)).mono ?_
  rintro q v0 ⟨rfl, h1, f1⟩
  have HRv0 : Hid (RRdAt v0 r L 1) := h1
  have HBv0 := Lib.hid (HB1.out.fr f1 (by have := Hbr.out; simp; omega))
  have HFv0 := Lib.hid (HF1.out.trans1 f1)
  clear h1 f1 HR1 HB1 HF1
  go_wp2_with fail
  refine (rFixAt r L 1 1 _ HRv0.out (by decide)).mono ?_
  rintro q v1 ⟨rfl, h1, f1⟩
  have HRv1 : Hid (RRdAt v1 r L 2) := h1
  have HBv1 := Lib.hid (HBv0.out.fr f1 (by have := Hbr.out; simp; omega))
  have HFv1 := Lib.hid (HFv0.out.trans1 f1)
  clear h1 f1 HRv0 HBv0 HFv0
  go_wp2_with fail
  refine (rFixAt r L 2 1 _ HRv1.out (by decide)).mono ?_
  rintro q v2 ⟨rfl, h1, f1⟩
  have HRv2 : Hid (RRdAt v2 r L 3) := h1
  have HBv2 := Lib.hid (HBv1.out.fr f1 (by have := Hbr.out; simp; omega))
  have HFv2 := Lib.hid (HFv1.out.trans1 f1)
  clear h1 f1 HRv1 HBv1 HFv1
  go_wp2_with fail
  refine (rFixAt r L 3 8 _ HRv2.out (by decide)).mono ?_
  rintro q v3 ⟨rfl, h1, f1⟩
  have HRv3 : Hid (RRdAt v3 r L 11) := h1
  have HBv3 := Lib.hid (HBv2.out.fr f1 (by have := Hbr.out; simp; omega))
  have HFv3 := Lib.hid (HFv2.out.trans1 f1)
  clear h1 f1 HRv2 HBv2 HFv2
  go_wp2_with fail
  refine (rFixAt r L 11 8 _ HRv3.out (by decide)).mono ?_
  rintro q v4 ⟨rfl, h1, f1⟩
  have HRv4 : Hid (RRdAt v4 r L 19) := h1
  have HBv4 := Lib.hid (HBv3.out.fr f1 (by have := Hbr.out; simp; omega))
  have HFv4 := Lib.hid (HFv3.out.trans1 f1)
  clear h1 f1 HRv3 HBv3 HFv3
  go_wp2_with fail
  refine (rFixAt r L 19 8 _ HRv4.out (by decide)).mono ?_
  rintro q v5 ⟨rfl, h1, f1⟩
  have HRv5 : Hid (RRdAt v5 r L 27) := h1
  have HBv5 := Lib.hid (HBv4.out.fr f1 (by have := Hbr.out; simp; omega))
  have HFv5 := Lib.hid (HFv4.out.trans1 f1)
  clear h1 f1 HRv4 HBv4 HFv4
  go_wp2_with fail
  refine (rFixAt r L 27 8 _ HRv5.out (by decide)).mono ?_
  rintro q v6 ⟨rfl, h1, f1⟩
  have HRv6 : Hid (RRdAt v6 r L 35) := h1
  have HBv6 := Lib.hid (HBv5.out.fr f1 (by have := Hbr.out; simp; omega))
  have HFv6 := Lib.hid (HFv5.out.trans1 f1)
  clear h1 f1 HRv5 HBv5 HFv5
  go_wp2_with fail
  refine (rFixAt r L 35 8 _ HRv6.out (by decide)).mono ?_
  rintro q v7 ⟨rfl, h1, f1⟩
  have HRv7 : Hid (RRdAt v7 r L 43) := h1
  have HBv7 := Lib.hid (HBv6.out.fr f1 (by have := Hbr.out; simp; omega))
  have HFv7 := Lib.hid (HFv6.out.trans1 f1)
  clear h1 f1 HRv6 HBv6 HFv6
  go_wp2_with fail
  refine (rFixAt r L 43 1 _ HRv7.out (by decide)).mono ?_
  rintro q v8 ⟨rfl, h1, f1⟩
  have HRv8 : Hid (RRdAt v8 r L 44) := h1
  have HBv8 := Lib.hid (HBv7.out.fr f1 (by have := Hbr.out; simp; omega))
  have HFv8 := Lib.hid (HFv7.out.trans1 f1)
  clear h1 f1 HRv7 HBv7 HFv7
  obtain ⟨yb, hyb⟩ : ∃ yb, (numF L 43 1 == 1) = yb := ⟨_, rfl⟩
  have hyb2 : decide (numF L 43 1 = 1) = yb := by rw [← hyb]; rfl
  have HRa := Lib.hid (HRv8.out.alloc (.cells #[.int .i64 (numF L 0 1), .int .i64 (numF L 1 1), .int .i64 (numF L 2 1), .int .u64 (numF L 3 8), .int .u64 (numF L 11 8), .int .u64 (numF L 19 8), .int .u64 (numF L 27 8), .int .u64 (numF L 35 8), .bool yb, .slice none 0 0, .string ⟨#[]⟩] 47))
  have HBa := Lib.hid (HBv8.out.alloc (.cells #[.int .i64 (numF L 0 1), .int .i64 (numF L 1 1), .int .i64 (numF L 2 1), .int .u64 (numF L 3 8), .int .u64 (numF L 11 8), .int .u64 (numF L 19 8), .int .u64 (numF L 27 8), .int .u64 (numF L 35 8), .bool yb, .slice none 0 0, .string ⟨#[]⟩] 47))
  have HFa := Lib.hid (HFv8.out.alloc (.cells #[.int .i64 (numF L 0 1), .int .i64 (numF L 1 1), .int .i64 (numF L 2 1), .int .u64 (numF L 3 8), .int .u64 (numF L 11 8), .int .u64 (numF L 19 8), .int .u64 (numF L 27 8), .int .u64 (numF L 35 8), .bool yb, .slice none 0 0, .string ⟨#[]⟩] 47))
  have HEa := Lib.hid (Blk.new v8 #[.int .i64 (numF L 0 1), .int .i64 (numF L 1 1), .int .i64 (numF L 2 1), .int .u64 (numF L 3 8), .int .u64 (numF L 11 8), .int .u64 (numF L 19 8), .int .u64 (numF L 27 8), .int .u64 (numF L 35 8), .bool yb, .slice none 0 0, .string ⟨#[]⟩] 47)
  have HG : Hid (r < v8.heap.size) := HRv8.out.lt
  clear HRv8 HBv8 HFv8
  go_wp2_with fail
  have Hyb := Lib.hid hyb
  clear hyb hyb2
  generalize v8.alloc (.cells #[.int .i64 (numF L 0 1), .int .i64 (numF L 1 1), .int .i64 (numF L 2 1), .int .u64 (numF L 3 8), .int .u64 (numF L 11 8), .int .u64 (numF L 19 8), .int .u64 (numF L 27 8), .int .u64 (numF L 35 8), .bool yb, .slice none 0 0, .string ⟨#[]⟩] 47) = va at *
  generalize v8.heap.size = bm at *
  obtain ⟨nn, hnn⟩ : ∃ nn : Nat, numF L 44 1 = (nn : Int) := ⟨(numF L 44 1).toNat, by have := numF_byte L 44; omega⟩
  have hn256 : nn < 256 := by have := numF_byte L 44; omega
  have knn : IntKind.i64.wrap (nn : Int) = (nn : Int) := IntWalk.i64_in _ (by omega)
  refine (rFixAt r L 44 1 _ HRa.out (by decide)).mono ?_
  rintro q v2 ⟨rfl, h1, f1⟩
  have HRv2 : Hid (RRdAt v2 r L 45) := h1
  have HEv2 := Lib.hid (HEa.out.fr f1 (by have := HG.out; simp; omega))
  have HBv2 := Lib.hid (HBa.out.fr f1 (by have := Hbr.out; simp; omega))
  have HFv2 := Lib.hid (HFa.out.trans1 f1)
  clear h1 f1 HRa HBa HFa HEa
  rw [hnn]
  have Hnn := Lib.hid hnn
  clear hnn
  go_upto_block 0 with fail
  go_cut [7] from 38 to 56 (fun _ wx => ∃ (p : Nat) (acc : List Ent) (v : Value), Hid (entsN L = (acc, p)) ∧ Hid (Blk wx bm #[.int .i64 (numF L 0 1), .int .i64 (numF L 1 1), .int .i64 (numF L 2 1), .int .u64 (numF L 3 8), .int .u64 (numF L 11 8), .int .u64 (numF L 19 8), .int .u64 (numF L 27 8), .int .u64 (numF L 35 8), .bool yb, v, .string ⟨#[]⟩] 47) ∧ Hid (wx.ownsRow 0 24 11 v acc.length (flatE acc)) ∧ Hid (∀ x, x ∈ v.ownBlock.toList → bm < x) ∧ Hid (RRdAt wx r L p) ∧ Hid (Fr [r] w wx) ∧ Hid (Blk wx bo #[.int .i64 0, .int .i64 0, .int .i64 0, .int .u64 0, .int .u64 0, .int .u64 0, .int .u64 0, .int .u64 0, .bool false, .slice none 0 0, .string ⟨#[]⟩] 47))
  case first =>
    have Hbw : Hid (w.heap.size ≤ bm) := by have := Hw.out; have := Hbr.out; have := HG.out; show _ ≤ _; omega
    go_wp2_with fail
    go_loopw [7] (fun i wr => ∃ (k p : Nat) (acc : List Ent) (v : Value), k ≤ nn ∧ i = .int .i64 k ∧ Hid (acc.length = k ∧ getN L nn 45 = (acc ++ (getN L (nn - k) p).1, (getN L (nn - k) p).2)) ∧ Hid (Blk wr bm #[.int .i64 (numF L 0 1), .int .i64 (numF L 1 1), .int .i64 (numF L 2 1), .int .u64 (numF L 3 8), .int .u64 (numF L 11 8), .int .u64 (numF L 19 8), .int .u64 (numF L 27 8), .int .u64 (numF L 35 8), .bool yb, v, .string ⟨#[]⟩] 47) ∧ Hid (wr.ownsRow 0 24 11 v k (flatE acc)) ∧ Hid (∀ x, x ∈ v.ownBlock.toList → bm < x) ∧ Hid (RRdAt wr r L p) ∧ Hid (Fr [r] w wr) ∧ Hid (Blk wr bo #[.int .i64 0, .int .i64 0, .int .i64 0, .int .u64 0, .int .u64 0, .int .u64 0, .int .u64 0, .int .u64 0, .bool false, .slice none 0 0, .string ⟨#[]⟩] 47)) (fun i _ => nn - (intOf i).toNat)
    case atStart => exact ⟨0, 45, [], .slice none 0 0, by omega, rfl, ⟨rfl, by simp⟩, HEv2.out, World.ownsRow_nil _ 0 24 11, by show ∀ x, x ∈ (Value.slice none 0 0).ownBlock.toList → _; simp [Value.ownBlock], HRv2.out, HFv2.out, HBv2.out⟩
    case round =>
      obtain ⟨k, p, acc, v, hk, rfl, RI, RB, RO, RX, RP, RF, RZ⟩ := hrel
      obtain ⟨av, cv, rfl⟩ := own_slice RO.out
      have hbad := RP.out.bad
      by_cases hlt : k < nn
      · by_cases hp : p ≤ L.length
        · obtain ⟨M, hM⟩ : ∃ M, (get5 L p).1 = M := ⟨_, rfl⟩
          obtain ⟨P', hP'⟩ : ∃ P', (get5 L p).2 = P' := ⟨_, rfl⟩
          have HGet := Lib.hid (fun w (h : RRdAt w r L p) => rGet5 r L p w h)
          have hI2 := getN_next hlt hp RI.out.2
          rw [hM, hP'] at HGet hI2
          have HI2 := Lib.hid hI2
          unfold Ent.cells at HGet
          clear hM hP' hI2
          rw [decide_eq_true hp] at hbad
          have c9 : wr.cell? ⟨bm, 9, none⟩ = some (.slice av k cv) := RB.out.cellAt (i := 9) rfl
          have c9d : wr.drew.cell? ⟨bm, 9, none⟩ = some (.slice av k cv) := c9
          have hbn : Hid (bm ∉ (Value.slice av k cv).ownBlock.toList) := fun hx => by have := RX.out bm hx; omega
          have hrn : Hid (r ∉ (Value.slice av k cv).ownBlock.toList) := fun hx => by have := RX.out r hx; have := HG.out; omega
          have hon : Hid (bo ∉ (Value.slice av k cv).ownBlock.toList) := fun hx => by have := RX.out bo hx; have := Hbr.out; have := HG.out; omega
          have hmr : Hid (bm ≠ r ∧ bm ≠ bo ∧ r ≠ bo) := by have := Hbr.out; have := HG.out; exact ⟨by omega, by omega, by omega⟩
          go_wp2_with fail
          clear hbad
          refine wp_region_any (by kernel_rfl) ?_
          try (change wpAny _ _ _ _ _ _ _ (World.drew _))
          refine wpAny_take (i := 0) (v := ?_) rfl (by kernel_rfl) (by kernel_rfl) (by kernel_rfl) (fun _ _ _ h => h) (Or.inl ⟨by rfl, ?_⟩) ?_
          rotate_left 1
          · (intro w; go_simp; first | done | with_reducible rfl)
          refine wpAny_take (i := 2) (v := ?_) rfl (by kernel_rfl) (by kernel_rfl) (by kernel_rfl) (fun _ _ _ h => h) (Or.inl ⟨by rfl, ?_⟩) ?_
          rotate_left 1
          · (intro w; go_simp; first | done | with_reducible rfl)
          refine wpAny_ready (rs := [1, 3]) (by kernel_rfl) (by simp) ?_
          refine AllReady.cons rfl (fun K hK => ?_) ?_
          ·
            go_simp
            refine hK _ _ ?_
            clear hK K
            refine wpAny_ready (rs := [3]) (by kernel_rfl) (by simp) ?_
            refine AllReady.cons rfl (fun K hK => ?_) ?_
            ·
              go_simp
              (go_at_call 15; refine (HGet.out _ (show RRdAt wr.drew r L p from RP.out)).mono ?_; rintro r' w5 ⟨rfl, h5, f5⟩)
              have P5 := Lib.hid h5
              have B5 := Lib.hid ((show Blk wr.drew bm _ _ from RB.out).fr f5 (by have := hmr.out; simp; omega))
              have O5 := Lib.hid (ownsRow_fr (show wr.drew.ownsRow _ _ _ _ _ _ from RO.out) f5 (fun x hx e => by simp at e; subst e; exact hrn.out hx))
              have Z5 := Lib.hid ((show Blk wr.drew bo _ _ from RZ.out).fr f5 (by have := hmr.out; simp; omega))
              have F5 := Lib.hid ((RF.out.drew).trans1 f5)
              have c95 : w5.cell? ⟨bm, 9, none⟩ = some (.slice av k cv) := B5.out.cellAt (i := 9) rfl
              have c95' := ca B5.out 9
              clear h5 f5
              refine hK _ _ ?_
              clear hK K
              refine wpAny_ready (rs := [4]) (by kernel_rfl) (by simp) ?_
              refine AllReady.cons rfl (fun K hK => ?_) ?_
              ·
                go_simp
                refine hK _ _ ?_
                clear hK K
                refine wpAny_ready (rs := [5]) (by kernel_rfl) (by simp) ?_
                refine AllReady.cons rfl (fun K hK => ?_) ?_
                ·
                  (refine step_app_own rfl (.tmp 51) (.tmp 54) 45 rfl entT (.slice av k cv) k (flatE acc) (by simp [Act.eval]) (World.ownsRow.alloc O5.out _) ⟨w5.heap.size, 0, none⟩ 1 1 M.cells.toList (by simp [Act.eval]) rfl (fun j u hu => entNew w5 _ M j u hu) (entOne M) (by simp [maxLen]; omega) (by omega) ?_; intro v6 w6 H1 H2 H3; (obtain ⟨a6, c6, rfl⟩ := own_slice H1.out))
                  have B6 := Lib.hid ((B5.out.alloc (.cells M.cells 24)).fr H2.out hbn.out)
                  have c96 : w6.cell? ⟨bm, 9, none⟩ = some (.slice av k cv) := B6.out.cellAt (i := 9) rfl
                  have z96 := B6.out.froz 9
                  refine hK _ _ ?_
                  clear hK K
                  refine wpAny_take (i := 6) (v := ?_) rfl (by kernel_rfl) (by kernel_rfl) (by kernel_rfl) (fun _ _ _ h => h) (Or.inl ⟨by rfl, ?_⟩) ?_
                  rotate_left 1
                  · (intro w; go_simp; first | done | with_reducible rfl)
                  refine wpAny_ready (rs := [7]) (by kernel_rfl) (by simp) ?_
                  refine AllReady.cons rfl (fun K hK => ?_) ?_
                  ·
                    go_simp
                    refine hK _ _ ?_
                    clear hK K
                    refine wpAny_done (by kernel_rfl) ?_ _
                    have HST := Lib.hid (getStep (fun a => #[.int .i64 (numF L 0 1), .int .i64 (numF L 1 1), .int .i64 (numF L 2 1), .int .u64 (numF L 3 8), .int .u64 (numF L 11 8), .int .u64 (numF L 19 8), .int .u64 (numF L 27 8), .int .u64 (numF L 35 8), .bool yb, a, .string ⟨#[]⟩]) (fun a b => by simp only [lt0', lt1', lt2']) B5.out F5.out Hbw.out RX.out (by have h := H1.out; rwa [flatE_one] at h) H2.out H3.out)
                    have Hx6 := Lib.hid ((Fr.refl [bm] w6).setCell (p := ⟨bm, 9, none⟩) (.inl (by simp)) (.slice a6 (k + 1) c6))
                    have P6 := Lib.hid ((((P5.out.alloc (.cells M.cells 24)).fr H2.out hrn.out)).fr Hx6.out (by have := hmr.out; simp; omega))
                    have Z6 := Lib.hid ((((Z5.out.alloc (.cells M.cells 24)).fr H2.out hon.out)).fr Hx6.out (by have := hmr.out; simp; omega))
                    have HL6 : Hid ((acc ++ [M]).length = k + 1) := by show _ = _; rw [List.length_append, RI.out.1]; rfl
                    go_wp2_with fail
                    go_roundw
                    case rel => first | exact ⟨k + 1, P', acc ++ [M], _, by omega, by go_num, ⟨HL6.out, HI2.out⟩, HST.out.1, HST.out.2.1, HST.out.2.2.2, P6.out, HST.out.2.2.1, Z6.out⟩ | ((repeat apply Exists.intro); exact ⟨⟨k + 1, P', acc ++ [M], _, by omega, by go_num, ⟨HL6.out, HI2.out⟩, HST.out.1, HST.out.2.1, HST.out.2.2.2, P6.out, HST.out.2.2.1, Z6.out⟩, rfl⟩)
                    case measure => simp [intOf]; omega
                  exact AllReady.nil
                exact AllReady.nil
              exact AllReady.nil
            exact AllReady.nil
          refine AllReady.cons rfl (fun K hK => ?_) ?_
          ·
            go_simp
            (go_at_call 15; refine (HGet.out _ (show RRdAt wr.drew r L p from RP.out)).mono ?_; rintro r' w5 ⟨rfl, h5, f5⟩)
            have P5 := Lib.hid h5
            have B5 := Lib.hid ((show Blk wr.drew bm _ _ from RB.out).fr f5 (by have := hmr.out; simp; omega))
            have O5 := Lib.hid (ownsRow_fr (show wr.drew.ownsRow _ _ _ _ _ _ from RO.out) f5 (fun x hx e => by simp at e; subst e; exact hrn.out hx))
            have Z5 := Lib.hid ((show Blk wr.drew bo _ _ from RZ.out).fr f5 (by have := hmr.out; simp; omega))
            have F5 := Lib.hid ((RF.out.drew).trans1 f5)
            have c95 : w5.cell? ⟨bm, 9, none⟩ = some (.slice av k cv) := B5.out.cellAt (i := 9) rfl
            have c95' := ca B5.out 9
            clear h5 f5
            refine hK _ _ ?_
            clear hK K
            refine wpAny_ready (rs := [1, 4]) (by kernel_rfl) (by simp) ?_
            refine AllReady.cons rfl (fun K hK => ?_) ?_
            ·
              go_simp
              refine hK _ _ ?_
              clear hK K
              refine wpAny_ready (rs := [4]) (by kernel_rfl) (by simp) ?_
              refine AllReady.cons rfl (fun K hK => ?_) ?_
              ·
                go_simp
                refine hK _ _ ?_
                clear hK K
                refine wpAny_ready (rs := [5]) (by kernel_rfl) (by simp) ?_
                refine AllReady.cons rfl (fun K hK => ?_) ?_
                ·
                  (refine step_app_own rfl (.tmp 51) (.tmp 54) 45 rfl entT (.slice av k cv) k (flatE acc) (by simp [Act.eval]) (World.ownsRow.alloc O5.out _) ⟨w5.heap.size, 0, none⟩ 1 1 M.cells.toList (by simp [Act.eval]) rfl (fun j u hu => entNew w5 _ M j u hu) (entOne M) (by simp [maxLen]; omega) (by omega) ?_; intro v6 w6 H1 H2 H3; (obtain ⟨a6, c6, rfl⟩ := own_slice H1.out))
                  have B6 := Lib.hid ((B5.out.alloc (.cells M.cells 24)).fr H2.out hbn.out)
                  have c96 : w6.cell? ⟨bm, 9, none⟩ = some (.slice av k cv) := B6.out.cellAt (i := 9) rfl
                  have z96 := B6.out.froz 9
                  refine hK _ _ ?_
                  clear hK K
                  refine wpAny_take (i := 6) (v := ?_) rfl (by kernel_rfl) (by kernel_rfl) (by kernel_rfl) (fun _ _ _ h => h) (Or.inl ⟨by rfl, ?_⟩) ?_
                  rotate_left 1
                  · (intro w; go_simp; first | done | with_reducible rfl)
                  refine wpAny_ready (rs := [7]) (by kernel_rfl) (by simp) ?_
                  refine AllReady.cons rfl (fun K hK => ?_) ?_
                  ·
                    go_simp
                    refine hK _ _ ?_
                    clear hK K
                    refine wpAny_done (by kernel_rfl) ?_ _
                    have HST := Lib.hid (getStep (fun a => #[.int .i64 (numF L 0 1), .int .i64 (numF L 1 1), .int .i64 (numF L 2 1), .int .u64 (numF L 3 8), .int .u64 (numF L 11 8), .int .u64 (numF L 19 8), .int .u64 (numF L 27 8), .int .u64 (numF L 35 8), .bool yb, a, .string ⟨#[]⟩]) (fun a b => by simp only [lt0', lt1', lt2']) B5.out F5.out Hbw.out RX.out (by have h := H1.out; rwa [flatE_one] at h) H2.out H3.out)
                    have Hx6 := Lib.hid ((Fr.refl [bm] w6).setCell (p := ⟨bm, 9, none⟩) (.inl (by simp)) (.slice a6 (k + 1) c6))
                    have P6 := Lib.hid ((((P5.out.alloc (.cells M.cells 24)).fr H2.out hrn.out)).fr Hx6.out (by have := hmr.out; simp; omega))
                    have Z6 := Lib.hid ((((Z5.out.alloc (.cells M.cells 24)).fr H2.out hon.out)).fr Hx6.out (by have := hmr.out; simp; omega))
                    have HL6 : Hid ((acc ++ [M]).length = k + 1) := by show _ = _; rw [List.length_append, RI.out.1]; rfl
                    go_wp2_with fail
                    go_roundw
                    case rel => first | exact ⟨k + 1, P', acc ++ [M], _, by omega, by go_num, ⟨HL6.out, HI2.out⟩, HST.out.1, HST.out.2.1, HST.out.2.2.2, P6.out, HST.out.2.2.1, Z6.out⟩ | ((repeat apply Exists.intro); exact ⟨⟨k + 1, P', acc ++ [M], _, by omega, by go_num, ⟨HL6.out, HI2.out⟩, HST.out.1, HST.out.2.1, HST.out.2.2.2, P6.out, HST.out.2.2.1, Z6.out⟩, rfl⟩)
                    case measure => simp [intOf]; omega
                  exact AllReady.nil
                exact AllReady.nil
              exact AllReady.nil
            refine AllReady.cons rfl (fun K hK => ?_) ?_
            ·
              go_simp
              refine hK _ _ ?_
              clear hK K
              refine wpAny_ready (rs := [1]) (by kernel_rfl) (by simp) ?_
              refine AllReady.cons rfl (fun K hK => ?_) ?_
              ·
                go_simp
                refine hK _ _ ?_
                clear hK K
                refine wpAny_ready (rs := [5]) (by kernel_rfl) (by simp) ?_
                refine AllReady.cons rfl (fun K hK => ?_) ?_
                ·
                  (refine step_app_own rfl (.tmp 51) (.tmp 54) 45 rfl entT (.slice av k cv) k (flatE acc) (by simp [Act.eval]) (World.ownsRow.alloc O5.out _) ⟨w5.heap.size, 0, none⟩ 1 1 M.cells.toList (by simp [Act.eval]) rfl (fun j u hu => entNew w5 _ M j u hu) (entOne M) (by simp [maxLen]; omega) (by omega) ?_; intro v6 w6 H1 H2 H3; (obtain ⟨a6, c6, rfl⟩ := own_slice H1.out))
                  have B6 := Lib.hid ((B5.out.alloc (.cells M.cells 24)).fr H2.out hbn.out)
                  have c96 : w6.cell? ⟨bm, 9, none⟩ = some (.slice av k cv) := B6.out.cellAt (i := 9) rfl
                  have z96 := B6.out.froz 9
                  refine hK _ _ ?_
                  clear hK K
                  refine wpAny_take (i := 6) (v := ?_) rfl (by kernel_rfl) (by kernel_rfl) (by kernel_rfl) (fun _ _ _ h => h) (Or.inl ⟨by rfl, ?_⟩) ?_
                  rotate_left 1
                  · (intro w; go_simp; first | done | with_reducible rfl)
                  refine wpAny_ready (rs := [7]) (by kernel_rfl) (by simp) ?_
                  refine AllReady.cons rfl (fun K hK => ?_) ?_
                  ·
                    go_simp
                    refine hK _ _ ?_
                    clear hK K
                    refine wpAny_done (by kernel_rfl) ?_ _
                    have HST := Lib.hid (getStep (fun a => #[.int .i64 (numF L 0 1), .int .i64 (numF L 1 1), .int .i64 (numF L 2 1), .int .u64 (numF L 3 8), .int .u64 (numF L 11 8), .int .u64 (numF L 19 8), .int .u64 (numF L 27 8), .int .u64 (numF L 35 8), .bool yb, a, .string ⟨#[]⟩]) (fun a b => by simp only [lt0', lt1', lt2']) B5.out F5.out Hbw.out RX.out (by have h := H1.out; rwa [flatE_one] at h) H2.out H3.out)
                    have Hx6 := Lib.hid ((Fr.refl [bm] w6).setCell (p := ⟨bm, 9, none⟩) (.inl (by simp)) (.slice a6 (k + 1) c6))
                    have P6 := Lib.hid ((((P5.out.alloc (.cells M.cells 24)).fr H2.out hrn.out)).fr Hx6.out (by have := hmr.out; simp; omega))
                    have Z6 := Lib.hid ((((Z5.out.alloc (.cells M.cells 24)).fr H2.out hon.out)).fr Hx6.out (by have := hmr.out; simp; omega))
                    have HL6 : Hid ((acc ++ [M]).length = k + 1) := by show _ = _; rw [List.length_append, RI.out.1]; rfl
                    go_wp2_with fail
                    go_roundw
                    case rel => first | exact ⟨k + 1, P', acc ++ [M], _, by omega, by go_num, ⟨HL6.out, HI2.out⟩, HST.out.1, HST.out.2.1, HST.out.2.2.2, P6.out, HST.out.2.2.1, Z6.out⟩ | ((repeat apply Exists.intro); exact ⟨⟨k + 1, P', acc ++ [M], _, by omega, by go_num, ⟨HL6.out, HI2.out⟩, HST.out.1, HST.out.2.1, HST.out.2.2.2, P6.out, HST.out.2.2.1, Z6.out⟩, rfl⟩)
                    case measure => simp [intOf]; omega
                  exact AllReady.nil
                exact AllReady.nil
              exact AllReady.nil
            exact AllReady.nil
          exact AllReady.nil
        · rw [decide_eq_false hp] at hbad
          have HSt : Hid (entsN L = (acc, p)) := by show _ = _; unfold entsN; rw [Hnn.out, Int.toNat_natCast]; exact getN_stop (.inr (by omega)) RI.out.2
          go_wp2_with fail
          go_meet
          case rel => exact ⟨p, acc, _, HSt.out, RB.out, by rw [RI.out.1]; exact RO.out, RX.out, RP.out, RF.out, RZ.out⟩
      · clear hbad
        have HSt : Hid (entsN L = (acc, p)) := by show _ = _; unfold entsN; rw [Hnn.out, Int.toNat_natCast]; exact getN_stop (.inl (by omega)) RI.out.2
        go_wp2_with fail
        go_meet
        case rel => exact ⟨p, acc, _, HSt.out, RB.out, by rw [RI.out.1]; exact RO.out, RX.out, RP.out, RF.out, RZ.out⟩
  case rest =>
    obtain ⟨p, acc, v, HSt, HEc, HOc, HXc, HRc, HFc, HBc⟩ := hcut
    clear HEv2 HRv2 HFv2 HBv2 k0 k1 k2
    generalize hg0 : numF L 0 1 = g0 at *
    have Hg0 := Lib.hid hg0
    clear hg0
    generalize hg1 : numF L 1 1 = g1 at *
    have Hg1 := Lib.hid hg1
    clear hg1
    generalize hg2 : numF L 2 1 = g2 at *
    have Hg2 := Lib.hid hg2
    clear hg2
    generalize hg3 : numF L 3 8 = g3 at *
    have Hg3 := Lib.hid hg3
    clear hg3
    generalize hg4 : numF L 11 8 = g4 at *
    have Hg4 := Lib.hid hg4
    clear hg4
    generalize hg5 : numF L 19 8 = g5 at *
    have Hg5 := Lib.hid hg5
    clear hg5
    generalize hg6 : numF L 27 8 = g6 at *
    have Hg6 := Lib.hid hg6
    clear hg6
    generalize hg7 : numF L 35 8 = g7 at *
    have Hg7 := Lib.hid hg7
    clear hg7
    generalize hg8 : numF L 43 1 = g8 at *
    have Hg8 := Lib.hid hg8
    clear hg8
    obtain ⟨av, cv, rfl⟩ := own_slice HOc.out
    generalize hnl : acc.length = nl at *
    have Hnl := Lib.hid hnl
    clear hnl
    obtain ⟨sk, hsk⟩ : ∃ sk : Nat, numF L p 4 = (sk : Int) := ⟨(numF L p 4).toNat, by have := numF_four L p; omega⟩
    have hsk32 : (sk : Int) < 4294967296 := by have := numF_four L p; omega
    have ksk : IntKind.i64.wrap (sk : Int) = (sk : Int) := IntWalk.i64_in _ (by omega)
    have Hsk := Lib.hid hsk
    have HFx := Lib.hid (fun w (h : RRdAt w r L p) => rFixAt r L p 4 w h (by decide))
    rw [hsk] at HFx
    clear hsk
    go_wp2_with fail
    refine (HFx.out _ HRc.out).mono ?_
    rintro q v3 ⟨rfl, h1, f1⟩
    have HRd : Hid (RRdAt v3 r L (p + 4)) := h1
    have HEd := Lib.hid (HEc.out.fr f1 (by have := HG.out; simp; omega))
    have HBd := Lib.hid (HBc.out.fr f1 (by have := Hbr.out; simp; omega))
    have HFd := Lib.hid (HFc.out.trans1 f1)
    have HOd := Lib.hid (ownsRow_fr HOc.out f1 (fun x hx e => by simp at e; subst e; have := HXc.out _ hx; have := HG.out; omega))
    clear h1 f1 HRc HEc HBc HFc HOc HFx
    go_wp2_with fail
    refine (rBytesAt r L (p + 4) sk _ HRd.out).mono ?_
    rintro q v4 ⟨rfl, h1, f1⟩
    have HRe : Hid (RRdAt v4 r L (p + 4 + sk)) := h1
    have HEe := Lib.hid (HEd.out.fr f1 (by have := HG.out; simp; omega))
    have HBe := Lib.hid (HBd.out.fr f1 (by have := Hbr.out; simp; omega))
    have HFe := Lib.hid (HFd.out.trans1 f1)
    have HOe := Lib.hid (ownsRow_fr HOd.out f1 (fun x hx e => by simp at e; subst e; have := HXc.out _ hx; have := HG.out; omega))
    clear h1 f1 HRd HEd HBd HFd HOd
    obtain ⟨SN, hSN⟩ : ∃ SN, bs (strF L (p + 4) sk) = SN := ⟨_, rfl⟩
    rw [hSN]
    have HSN := Lib.hid hSN
    clear hSN
    have e0 : v4.cell? ⟨bm, 0, none⟩ = some (.int .i64 g0) := HEe.out.cellAt (i := 0) rfl
    have e1 : v4.cell? ⟨bm, 1, none⟩ = some (.int .i64 g1) := HEe.out.cellAt (i := 1) rfl
    have e2 : v4.cell? ⟨bm, 2, none⟩ = some (.int .i64 g2) := HEe.out.cellAt (i := 2) rfl
    have e3 : v4.cell? ⟨bm, 3, none⟩ = some (.int .u64 g3) := HEe.out.cellAt (i := 3) rfl
    have e4 : v4.cell? ⟨bm, 4, none⟩ = some (.int .u64 g4) := HEe.out.cellAt (i := 4) rfl
    have e5 : v4.cell? ⟨bm, 5, none⟩ = some (.int .u64 g5) := HEe.out.cellAt (i := 5) rfl
    have e6 : v4.cell? ⟨bm, 6, none⟩ = some (.int .u64 g6) := HEe.out.cellAt (i := 6) rfl
    have e7 : v4.cell? ⟨bm, 7, none⟩ = some (.int .u64 g7) := HEe.out.cellAt (i := 7) rfl
    have e8 : v4.cell? ⟨bm, 8, none⟩ = some (.bool yb) := HEe.out.cellAt (i := 8) rfl
    have e9 : v4.cell? ⟨bm, 9, none⟩ = some (.slice av nl cv) := HEe.out.cellAt (i := 9) rfl
    have e10 : v4.cell? ⟨bm, 10, none⟩ = some (.string ⟨#[]⟩) := HEe.out.cellAt (i := 10) rfl
    have z10 := HEe.out.froz 10
    have HX8 : Hid (Fr [bm] v4 (v4.setCell ⟨bm, 10, none⟩ (.string SN))) := (Fr.refl [bm] v4).setCell (.inl (by simp)) _
    have HEf : Hid (Blk (v4.setCell ⟨bm, 10, none⟩ (.string SN)) bm #[.int .i64 g0, .int .i64 g1, .int .i64 g2, .int .u64 g3, .int .u64 g4, .int .u64 g5, .int .u64 g6, .int .u64 g7, .bool yb, .slice av nl cv, .string SN] 47) := HEe.out.set 10 (.string SN)
    have HRf := Lib.hid (HRe.out.fr HX8.out (by have := HG.out; simp; omega))
    have HBf := Lib.hid (HBe.out.fr HX8.out (by have := Hbr.out; have := HG.out; simp; omega))
    have HFf := Lib.hid (HFe.out.trans HX8.out (fun x hx => by simp at hx; subst hx; right; have := Hw.out; have := Hbr.out; have := HG.out; omega))
    have HVf : Hid (Ents (v4.setCell ⟨bm, 10, none⟩ (.string SN)) (.slice av nl cv) acc) := own_ents (by rw [Hnl.out]; exact ownsRow_fr HOe.out HX8.out (fun x hx e => by simp at e; subst e; have := HXc.out _ hx; omega))
    have hmm : (⟨g0, g1, g2, g3, g4, g5, g6, g7, yb, acc, SN⟩ : Msg) = msg5 L := by
      unfold msg5 snapN snapO
      rw [HSt.out, ← HSN.out, ← Hyb.out, Hg0.out, Hg1.out, Hg2.out, Hg3.out, Hg4.out, Hg5.out, Hg6.out, Hg7.out, Hg8.out]
      simp only
      rw [Hsk.out, Int.toNat_natCast]
    have hend : endM L = p + 4 + sk := by
      unfold endM snapN snapO
      rw [HSt.out]
      simp only
      rw [Hsk.out, Int.toNat_natCast]
    have HMf : Hid (msg5 L).Fits := msg5_fits L HLen.out
    obtain ⟨mm, hm5⟩ : ∃ mm, msg5 L = mm := ⟨_, rfl⟩
    have HGo : Hid (endM L ≤ L.length → goodM L = (mm.ok && decide (mm.lvl ≤ 1) && decide (putM5 mm = L))) := fun h => goodM_back L mm hm5 h
    have HGn : Hid (L.length < endM L → goodM L = false) := fun h => goodM_over L h
    rw [hend] at HGo HGn
    rw [hm5] at hmm HMf
    have hcm : mm.cells (.slice av nl cv) = #[.int .i64 g0, .int .i64 g1, .int .i64 g2, .int .u64 g3, .int .u64 g4, .int .u64 g5, .int .u64 g6, .int .u64 g7, .bool yb, .slice av nl cv, .string SN] := by rw [← hmm]; rfl
    have hme : mm.ents = acc := by rw [← hmm]
    have HPt := Lib.hid (fun w (h : Ents w (.slice av nl cv) acc) => rPutM mm _ w HMf.out (by rw [hme]; exact h))
    rw [hcm] at HPt
    have Hcm := Lib.hid hcm
    have Hme := Lib.hid hme
    have Hm5 := Lib.hid hm5
    clear hmm hm5 hcm hme hend HEe HRe HBe HFe HOe HX8
    obtain ⟨En, hEn⟩ : ∃ En, p + 4 + sk = En := ⟨_, rfl⟩
    rw [hEn] at HRf HGo HGn
    clear hEn
    go_wp2_with fail
    clear z10 e0 e1 e2 e3 e4 e5 e6 e7 e8 e9 e10
    generalize v4.setCell ⟨bm, 10, none⟩ (.string SN) = X0 at *
    refine (HPt.out _ HVf.out).mono ?_
    rintro q X1 ⟨rfl, f1⟩
    have HEg := Lib.hid (HEf.out.fr0 f1)
    have HBg := Lib.hid (HBf.out.fr0 f1)
    have HFg := Lib.hid (HFf.out.trans0 f1)
    have HVg := Lib.hid (HVf.out.fr0 f1)
    have hbad := (HRf.out.fr f1 (by simp)).bad
    clear f1 HEf HBf HFf HVf HRf
    by_cases hle : En ≤ L.length
    · rw [decide_eq_true hle] at hbad
      have hgd := HGo.out hle
      rcases hok : (mm.ok && decide (mm.lvl ≤ 1)) with _ | _
      · have HGt : Hid (gotM L = (msg0, false)) := gotM_no L (by rw [hgd, hok]; rfl)
        clear hgd
        have q0 : X1.cell? ⟨bo, 0, none⟩ = some (.int .i64 0) := HBg.out.cellAt (i := 0) rfl
        have z0 := HBg.out.froz 0
        have q1 : X1.cell? ⟨bo, 1, none⟩ = some (.int .i64 0) := HBg.out.cellAt (i := 1) rfl
        have z1 := HBg.out.froz 1
        have q2 : X1.cell? ⟨bo, 2, none⟩ = some (.int .i64 0) := HBg.out.cellAt (i := 2) rfl
        have z2 := HBg.out.froz 2
        have q3 : X1.cell? ⟨bo, 3, none⟩ = some (.int .u64 0) := HBg.out.cellAt (i := 3) rfl
        have z3 := HBg.out.froz 3
        have q4 : X1.cell? ⟨bo, 4, none⟩ = some (.int .u64 0) := HBg.out.cellAt (i := 4) rfl
        have z4 := HBg.out.froz 4
        have q5 : X1.cell? ⟨bo, 5, none⟩ = some (.int .u64 0) := HBg.out.cellAt (i := 5) rfl
        have z5 := HBg.out.froz 5
        have q6 : X1.cell? ⟨bo, 6, none⟩ = some (.int .u64 0) := HBg.out.cellAt (i := 6) rfl
        have z6 := HBg.out.froz 6
        have q7 : X1.cell? ⟨bo, 7, none⟩ = some (.int .u64 0) := HBg.out.cellAt (i := 7) rfl
        have z7 := HBg.out.froz 7
        have q8 : X1.cell? ⟨bo, 8, none⟩ = some (.bool false) := HBg.out.cellAt (i := 8) rfl
        have z8 := HBg.out.froz 8
        have q9 : X1.cell? ⟨bo, 9, none⟩ = some (.slice none 0 0) := HBg.out.cellAt (i := 9) rfl
        have z9 := HBg.out.froz 9
        have q10 : X1.cell? ⟨bo, 10, none⟩ = some (.string ⟨#[]⟩) := HBg.out.cellAt (i := 10) rfl
        have z10 := HBg.out.froz 10
        have HX : Hid (Fr [bo] X1 (((((((((((X1.setCell ⟨bo, 0, none⟩ (.int .i64 0)).setCell ⟨bo, 1, none⟩ (.int .i64 0)).setCell ⟨bo, 2, none⟩ (.int .i64 0)).setCell ⟨bo, 3, none⟩ (.int .u64 0)).setCell ⟨bo, 4, none⟩ (.int .u64 0)).setCell ⟨bo, 5, none⟩ (.int .u64 0)).setCell ⟨bo, 6, none⟩ (.int .u64 0)).setCell ⟨bo, 7, none⟩ (.int .u64 0)).setCell ⟨bo, 8, none⟩ (.bool false)).setCell ⟨bo, 9, none⟩ (.slice none 0 0)).setCell ⟨bo, 10, none⟩ (.string ⟨#[]⟩))) := set11_fr X1 bo (.int .i64 0) (.int .i64 0) (.int .i64 0) (.int .u64 0) (.int .u64 0) (.int .u64 0) (.int .u64 0) (.int .u64 0) (.bool false) (.slice none 0 0) (.string ⟨#[]⟩)
        have HY : Hid (Blk (((((((((((X1.setCell ⟨bo, 0, none⟩ (.int .i64 0)).setCell ⟨bo, 1, none⟩ (.int .i64 0)).setCell ⟨bo, 2, none⟩ (.int .i64 0)).setCell ⟨bo, 3, none⟩ (.int .u64 0)).setCell ⟨bo, 4, none⟩ (.int .u64 0)).setCell ⟨bo, 5, none⟩ (.int .u64 0)).setCell ⟨bo, 6, none⟩ (.int .u64 0)).setCell ⟨bo, 7, none⟩ (.int .u64 0)).setCell ⟨bo, 8, none⟩ (.bool false)).setCell ⟨bo, 9, none⟩ (.slice none 0 0)).setCell ⟨bo, 10, none⟩ (.string ⟨#[]⟩)) bo #[.int .i64 0, .int .i64 0, .int .i64 0, .int .u64 0, .int .u64 0, .int .u64 0, .int .u64 0, .int .u64 0, .bool false, .slice none 0 0, .string ⟨#[]⟩] 47) := HBg.out.put11 _ _ _ _ _ _ _ _ _ _ _
        go_wp2_with fail
        generalize (((((((((((X1.setCell ⟨bo, 0, none⟩ (.int .i64 0)).setCell ⟨bo, 1, none⟩ (.int .i64 0)).setCell ⟨bo, 2, none⟩ (.int .i64 0)).setCell ⟨bo, 3, none⟩ (.int .u64 0)).setCell ⟨bo, 4, none⟩ (.int .u64 0)).setCell ⟨bo, 5, none⟩ (.int .u64 0)).setCell ⟨bo, 6, none⟩ (.int .u64 0)).setCell ⟨bo, 7, none⟩ (.int .u64 0)).setCell ⟨bo, 8, none⟩ (.bool false)).setCell ⟨bo, 9, none⟩ (.slice none 0 0)).setCell ⟨bo, 10, none⟩ (.string ⟨#[]⟩)) = X at *
        have y0 : X.cell? ⟨bo, 0, none⟩ = some (.int .i64 0) := HY.out.cellAt (i := 0) rfl
        have y1 : X.cell? ⟨bo, 1, none⟩ = some (.int .i64 0) := HY.out.cellAt (i := 1) rfl
        have y2 : X.cell? ⟨bo, 2, none⟩ = some (.int .i64 0) := HY.out.cellAt (i := 2) rfl
        have y3 : X.cell? ⟨bo, 3, none⟩ = some (.int .u64 0) := HY.out.cellAt (i := 3) rfl
        have y4 : X.cell? ⟨bo, 4, none⟩ = some (.int .u64 0) := HY.out.cellAt (i := 4) rfl
        have y5 : X.cell? ⟨bo, 5, none⟩ = some (.int .u64 0) := HY.out.cellAt (i := 5) rfl
        have y6 : X.cell? ⟨bo, 6, none⟩ = some (.int .u64 0) := HY.out.cellAt (i := 6) rfl
        have y7 : X.cell? ⟨bo, 7, none⟩ = some (.int .u64 0) := HY.out.cellAt (i := 7) rfl
        have y8 : X.cell? ⟨bo, 8, none⟩ = some (.bool false) := HY.out.cellAt (i := 8) rfl
        have y9 : X.cell? ⟨bo, 9, none⟩ = some (.slice none 0 0) := HY.out.cellAt (i := 9) rfl
        have y10 : X.cell? ⟨bo, 10, none⟩ = some (.string ⟨#[]⟩) := HY.out.cellAt (i := 10) rfl
        clear q0 z0 q1 z1 q2 z2 q3 z3 q4 z4 q5 z5 q6 z6 q7 z7 q8 z8 q9 z9 q10 z10
        refine bodyPost_ret (v := .tuple #[.agg #[.int .i64 0, .int .i64 0, .int .i64 0, .int .u64 0, .int .u64 0, .int .u64 0, .int .u64 0, .int .u64 0, .bool false, .slice none 0 0, .string ⟨#[]⟩], .bool false]) (by simp [results, Tryd.results23, go_sem, y0, y1, y2, y3, y4, y5, y6, y7, y8, y9, y10]) rfl ?_
        rw [HGt.out]
        have HFz : Fr [] w X := (HFg.out.trans HX.out (fun x hx => by simp at hx; subst hx; right; have h9 := Hw.out; omega)).shed (fun x hx => by simp at hx; subst hx; have := Hbr.out; have := Hw.out; omega)
        exact ⟨noEnts, rfl, (.inl ⟨rfl, none, 0, rfl⟩), HFz⟩
      · have hp : putM5R mm = putM5 mm := by unfold putM5R; rw [hok]; rfl
        rw [hp]
        rw [hok] at hgd
        obtain ⟨TT, hTT⟩ : ∃ T, bs (putM5 mm) = T := ⟨_, rfl⟩
        obtain ⟨SS, hSS⟩ : ∃ S, bs L = S := ⟨_, rfl⟩
        rw [hTT]
        try rw [hSS]
        by_cases hts : putM5 mm = L
        · have HGt : Hid (gotM L = (mm, true)) := by show _ = _; rw [← Hm5.out]; exact gotM_yes L (by rw [hgd, decide_eq_true hts]; rfl)
          obtain rfl : TT = SS := by rw [← hTT, ← hSS, hts]
          clear hTT hSS hts hp hgd
          have c0 : X1.cell? ⟨bm, 0, none⟩ = some (.int .i64 g0) := HEg.out.cellAt (i := 0) rfl
          have c1 : X1.cell? ⟨bm, 1, none⟩ = some (.int .i64 g1) := HEg.out.cellAt (i := 1) rfl
          have c2 : X1.cell? ⟨bm, 2, none⟩ = some (.int .i64 g2) := HEg.out.cellAt (i := 2) rfl
          have c3 : X1.cell? ⟨bm, 3, none⟩ = some (.int .u64 g3) := HEg.out.cellAt (i := 3) rfl
          have c4 : X1.cell? ⟨bm, 4, none⟩ = some (.int .u64 g4) := HEg.out.cellAt (i := 4) rfl
          have c5 : X1.cell? ⟨bm, 5, none⟩ = some (.int .u64 g5) := HEg.out.cellAt (i := 5) rfl
          have c6 : X1.cell? ⟨bm, 6, none⟩ = some (.int .u64 g6) := HEg.out.cellAt (i := 6) rfl
          have c7 : X1.cell? ⟨bm, 7, none⟩ = some (.int .u64 g7) := HEg.out.cellAt (i := 7) rfl
          have c8 : X1.cell? ⟨bm, 8, none⟩ = some (.bool yb) := HEg.out.cellAt (i := 8) rfl
          have c9 : X1.cell? ⟨bm, 9, none⟩ = some (.slice av nl cv) := HEg.out.cellAt (i := 9) rfl
          have c10 : X1.cell? ⟨bm, 10, none⟩ = some (.string SN) := HEg.out.cellAt (i := 10) rfl
          have q0 : X1.cell? ⟨bo, 0, none⟩ = some (.int .i64 0) := HBg.out.cellAt (i := 0) rfl
          have z0 := HBg.out.froz 0
          have q1 : X1.cell? ⟨bo, 1, none⟩ = some (.int .i64 0) := HBg.out.cellAt (i := 1) rfl
          have z1 := HBg.out.froz 1
          have q2 : X1.cell? ⟨bo, 2, none⟩ = some (.int .i64 0) := HBg.out.cellAt (i := 2) rfl
          have z2 := HBg.out.froz 2
          have q3 : X1.cell? ⟨bo, 3, none⟩ = some (.int .u64 0) := HBg.out.cellAt (i := 3) rfl
          have z3 := HBg.out.froz 3
          have q4 : X1.cell? ⟨bo, 4, none⟩ = some (.int .u64 0) := HBg.out.cellAt (i := 4) rfl
          have z4 := HBg.out.froz 4
          have q5 : X1.cell? ⟨bo, 5, none⟩ = some (.int .u64 0) := HBg.out.cellAt (i := 5) rfl
          have z5 := HBg.out.froz 5
          have q6 : X1.cell? ⟨bo, 6, none⟩ = some (.int .u64 0) := HBg.out.cellAt (i := 6) rfl
          have z6 := HBg.out.froz 6
          have q7 : X1.cell? ⟨bo, 7, none⟩ = some (.int .u64 0) := HBg.out.cellAt (i := 7) rfl
          have z7 := HBg.out.froz 7
          have q8 : X1.cell? ⟨bo, 8, none⟩ = some (.bool false) := HBg.out.cellAt (i := 8) rfl
          have z8 := HBg.out.froz 8
          have q9 : X1.cell? ⟨bo, 9, none⟩ = some (.slice none 0 0) := HBg.out.cellAt (i := 9) rfl
          have z9 := HBg.out.froz 9
          have q10 : X1.cell? ⟨bo, 10, none⟩ = some (.string ⟨#[]⟩) := HBg.out.cellAt (i := 10) rfl
          have z10 := HBg.out.froz 10
          have HX : Hid (Fr [bo] X1 (((((((((((X1.setCell ⟨bo, 0, none⟩ (.int .i64 g0)).setCell ⟨bo, 1, none⟩ (.int .i64 g1)).setCell ⟨bo, 2, none⟩ (.int .i64 g2)).setCell ⟨bo, 3, none⟩ (.int .u64 g3)).setCell ⟨bo, 4, none⟩ (.int .u64 g4)).setCell ⟨bo, 5, none⟩ (.int .u64 g5)).setCell ⟨bo, 6, none⟩ (.int .u64 g6)).setCell ⟨bo, 7, none⟩ (.int .u64 g7)).setCell ⟨bo, 8, none⟩ (.bool yb)).setCell ⟨bo, 9, none⟩ (.slice av nl cv)).setCell ⟨bo, 10, none⟩ (.string SN))) := set11_fr X1 bo (.int .i64 g0) (.int .i64 g1) (.int .i64 g2) (.int .u64 g3) (.int .u64 g4) (.int .u64 g5) (.int .u64 g6) (.int .u64 g7) (.bool yb) (.slice av nl cv) (.string SN)
          have HY : Hid (Blk (((((((((((X1.setCell ⟨bo, 0, none⟩ (.int .i64 g0)).setCell ⟨bo, 1, none⟩ (.int .i64 g1)).setCell ⟨bo, 2, none⟩ (.int .i64 g2)).setCell ⟨bo, 3, none⟩ (.int .u64 g3)).setCell ⟨bo, 4, none⟩ (.int .u64 g4)).setCell ⟨bo, 5, none⟩ (.int .u64 g5)).setCell ⟨bo, 6, none⟩ (.int .u64 g6)).setCell ⟨bo, 7, none⟩ (.int .u64 g7)).setCell ⟨bo, 8, none⟩ (.bool yb)).setCell ⟨bo, 9, none⟩ (.slice av nl cv)).setCell ⟨bo, 10, none⟩ (.string SN)) bo #[.int .i64 g0, .int .i64 g1, .int .i64 g2, .int .u64 g3, .int .u64 g4, .int .u64 g5, .int .u64 g6, .int .u64 g7, .bool yb, .slice av nl cv, .string SN] 47) := HBg.out.put11 _ _ _ _ _ _ _ _ _ _ _
          go_wp2_with fail
          generalize (((((((((((X1.setCell ⟨bo, 0, none⟩ (.int .i64 g0)).setCell ⟨bo, 1, none⟩ (.int .i64 g1)).setCell ⟨bo, 2, none⟩ (.int .i64 g2)).setCell ⟨bo, 3, none⟩ (.int .u64 g3)).setCell ⟨bo, 4, none⟩ (.int .u64 g4)).setCell ⟨bo, 5, none⟩ (.int .u64 g5)).setCell ⟨bo, 6, none⟩ (.int .u64 g6)).setCell ⟨bo, 7, none⟩ (.int .u64 g7)).setCell ⟨bo, 8, none⟩ (.bool yb)).setCell ⟨bo, 9, none⟩ (.slice av nl cv)).setCell ⟨bo, 10, none⟩ (.string SN)) = X at *
          have y0 : X.cell? ⟨bo, 0, none⟩ = some (.int .i64 g0) := HY.out.cellAt (i := 0) rfl
          have y1 : X.cell? ⟨bo, 1, none⟩ = some (.int .i64 g1) := HY.out.cellAt (i := 1) rfl
          have y2 : X.cell? ⟨bo, 2, none⟩ = some (.int .i64 g2) := HY.out.cellAt (i := 2) rfl
          have y3 : X.cell? ⟨bo, 3, none⟩ = some (.int .u64 g3) := HY.out.cellAt (i := 3) rfl
          have y4 : X.cell? ⟨bo, 4, none⟩ = some (.int .u64 g4) := HY.out.cellAt (i := 4) rfl
          have y5 : X.cell? ⟨bo, 5, none⟩ = some (.int .u64 g5) := HY.out.cellAt (i := 5) rfl
          have y6 : X.cell? ⟨bo, 6, none⟩ = some (.int .u64 g6) := HY.out.cellAt (i := 6) rfl
          have y7 : X.cell? ⟨bo, 7, none⟩ = some (.int .u64 g7) := HY.out.cellAt (i := 7) rfl
          have y8 : X.cell? ⟨bo, 8, none⟩ = some (.bool yb) := HY.out.cellAt (i := 8) rfl
          have y9 : X.cell? ⟨bo, 9, none⟩ = some (.slice av nl cv) := HY.out.cellAt (i := 9) rfl
          have y10 : X.cell? ⟨bo, 10, none⟩ = some (.string SN) := HY.out.cellAt (i := 10) rfl
          clear q0 z0 q1 z1 q2 z2 q3 z3 q4 z4 q5 z5 q6 z6 q7 z7 q8 z8 q9 z9 q10 z10
          refine bodyPost_ret (v := .tuple #[.agg #[.int .i64 g0, .int .i64 g1, .int .i64 g2, .int .u64 g3, .int .u64 g4, .int .u64 g5, .int .u64 g6, .int .u64 g7, .bool yb, .slice av nl cv, .string SN], .bool true]) (by simp [results, Tryd.results23, go_sem, y0, y1, y2, y3, y4, y5, y6, y7, y8, y9, y10]) rfl ?_
          rw [HGt.out]
          have HFz : Fr [] w X := (HFg.out.trans HX.out (fun x hx => by simp at hx; subst hx; right; have h9 := Hw.out; omega)).shed (fun x hx => by simp at hx; subst hx; have := Hbr.out; have := Hw.out; omega)
          exact ⟨.slice av nl cv, by rw [Hcm.out], by rw [Hme.out]; exact HVg.out.fr HX.out (fun b hb => by have := HXc.out b (by rw [hb]; simp); have := Hbr.out; have := HG.out; simp; omega), HFz⟩
        · have HGt : Hid (gotM L = (msg0, false)) := gotM_no L (by rw [hgd, decide_eq_false hts]; rfl)
          have hne : (TT.toList == SS.toList) = false := by rw [← hTT, ← hSS, Lib.toList_data, Lib.toList_data, bs_list, bs_list]; simpa using hts
          clear hTT hSS hts hp hgd
          have q0 : X1.cell? ⟨bo, 0, none⟩ = some (.int .i64 0) := HBg.out.cellAt (i := 0) rfl
          have z0 := HBg.out.froz 0
          have q1 : X1.cell? ⟨bo, 1, none⟩ = some (.int .i64 0) := HBg.out.cellAt (i := 1) rfl
          have z1 := HBg.out.froz 1
          have q2 : X1.cell? ⟨bo, 2, none⟩ = some (.int .i64 0) := HBg.out.cellAt (i := 2) rfl
          have z2 := HBg.out.froz 2
          have q3 : X1.cell? ⟨bo, 3, none⟩ = some (.int .u64 0) := HBg.out.cellAt (i := 3) rfl
          have z3 := HBg.out.froz 3
          have q4 : X1.cell? ⟨bo, 4, none⟩ = some (.int .u64 0) := HBg.out.cellAt (i := 4) rfl
          have z4 := HBg.out.froz 4
          have q5 : X1.cell? ⟨bo, 5, none⟩ = some (.int .u64 0) := HBg.out.cellAt (i := 5) rfl
          have z5 := HBg.out.froz 5
          have q6 : X1.cell? ⟨bo, 6, none⟩ = some (.int .u64 0) := HBg.out.cellAt (i := 6) rfl
          have z6 := HBg.out.froz 6
          have q7 : X1.cell? ⟨bo, 7, none⟩ = some (.int .u64 0) := HBg.out.cellAt (i := 7) rfl
          have z7 := HBg.out.froz 7
          have q8 : X1.cell? ⟨bo, 8, none⟩ = some (.bool false) := HBg.out.cellAt (i := 8) rfl
          have z8 := HBg.out.froz 8
          have q9 : X1.cell? ⟨bo, 9, none⟩ = some (.slice none 0 0) := HBg.out.cellAt (i := 9) rfl
          have z9 := HBg.out.froz 9
          have q10 : X1.cell? ⟨bo, 10, none⟩ = some (.string ⟨#[]⟩) := HBg.out.cellAt (i := 10) rfl
          have z10 := HBg.out.froz 10
          have HX : Hid (Fr [bo] X1 (((((((((((X1.setCell ⟨bo, 0, none⟩ (.int .i64 0)).setCell ⟨bo, 1, none⟩ (.int .i64 0)).setCell ⟨bo, 2, none⟩ (.int .i64 0)).setCell ⟨bo, 3, none⟩ (.int .u64 0)).setCell ⟨bo, 4, none⟩ (.int .u64 0)).setCell ⟨bo, 5, none⟩ (.int .u64 0)).setCell ⟨bo, 6, none⟩ (.int .u64 0)).setCell ⟨bo, 7, none⟩ (.int .u64 0)).setCell ⟨bo, 8, none⟩ (.bool false)).setCell ⟨bo, 9, none⟩ (.slice none 0 0)).setCell ⟨bo, 10, none⟩ (.string ⟨#[]⟩))) := set11_fr X1 bo (.int .i64 0) (.int .i64 0) (.int .i64 0) (.int .u64 0) (.int .u64 0) (.int .u64 0) (.int .u64 0) (.int .u64 0) (.bool false) (.slice none 0 0) (.string ⟨#[]⟩)
          have HY : Hid (Blk (((((((((((X1.setCell ⟨bo, 0, none⟩ (.int .i64 0)).setCell ⟨bo, 1, none⟩ (.int .i64 0)).setCell ⟨bo, 2, none⟩ (.int .i64 0)).setCell ⟨bo, 3, none⟩ (.int .u64 0)).setCell ⟨bo, 4, none⟩ (.int .u64 0)).setCell ⟨bo, 5, none⟩ (.int .u64 0)).setCell ⟨bo, 6, none⟩ (.int .u64 0)).setCell ⟨bo, 7, none⟩ (.int .u64 0)).setCell ⟨bo, 8, none⟩ (.bool false)).setCell ⟨bo, 9, none⟩ (.slice none 0 0)).setCell ⟨bo, 10, none⟩ (.string ⟨#[]⟩)) bo #[.int .i64 0, .int .i64 0, .int .i64 0, .int .u64 0, .int .u64 0, .int .u64 0, .int .u64 0, .int .u64 0, .bool false, .slice none 0 0, .string ⟨#[]⟩] 47) := HBg.out.put11 _ _ _ _ _ _ _ _ _ _ _
          go_wp2_with fail
          generalize (((((((((((X1.setCell ⟨bo, 0, none⟩ (.int .i64 0)).setCell ⟨bo, 1, none⟩ (.int .i64 0)).setCell ⟨bo, 2, none⟩ (.int .i64 0)).setCell ⟨bo, 3, none⟩ (.int .u64 0)).setCell ⟨bo, 4, none⟩ (.int .u64 0)).setCell ⟨bo, 5, none⟩ (.int .u64 0)).setCell ⟨bo, 6, none⟩ (.int .u64 0)).setCell ⟨bo, 7, none⟩ (.int .u64 0)).setCell ⟨bo, 8, none⟩ (.bool false)).setCell ⟨bo, 9, none⟩ (.slice none 0 0)).setCell ⟨bo, 10, none⟩ (.string ⟨#[]⟩)) = X at *
          have y0 : X.cell? ⟨bo, 0, none⟩ = some (.int .i64 0) := HY.out.cellAt (i := 0) rfl
          have y1 : X.cell? ⟨bo, 1, none⟩ = some (.int .i64 0) := HY.out.cellAt (i := 1) rfl
          have y2 : X.cell? ⟨bo, 2, none⟩ = some (.int .i64 0) := HY.out.cellAt (i := 2) rfl
          have y3 : X.cell? ⟨bo, 3, none⟩ = some (.int .u64 0) := HY.out.cellAt (i := 3) rfl
          have y4 : X.cell? ⟨bo, 4, none⟩ = some (.int .u64 0) := HY.out.cellAt (i := 4) rfl
          have y5 : X.cell? ⟨bo, 5, none⟩ = some (.int .u64 0) := HY.out.cellAt (i := 5) rfl
          have y6 : X.cell? ⟨bo, 6, none⟩ = some (.int .u64 0) := HY.out.cellAt (i := 6) rfl
          have y7 : X.cell? ⟨bo, 7, none⟩ = some (.int .u64 0) := HY.out.cellAt (i := 7) rfl
          have y8 : X.cell? ⟨bo, 8, none⟩ = some (.bool false) := HY.out.cellAt (i := 8) rfl
          have y9 : X.cell? ⟨bo, 9, none⟩ = some (.slice none 0 0) := HY.out.cellAt (i := 9) rfl
          have y10 : X.cell? ⟨bo, 10, none⟩ = some (.string ⟨#[]⟩) := HY.out.cellAt (i := 10) rfl
          clear q0 z0 q1 z1 q2 z2 q3 z3 q4 z4 q5 z5 q6 z6 q7 z7 q8 z8 q9 z9 q10 z10
          refine bodyPost_ret (v := .tuple #[.agg #[.int .i64 0, .int .i64 0, .int .i64 0, .int .u64 0, .int .u64 0, .int .u64 0, .int .u64 0, .int .u64 0, .bool false, .slice none 0 0, .string ⟨#[]⟩], .bool false]) (by simp [results, Tryd.results23, go_sem, y0, y1, y2, y3, y4, y5, y6, y7, y8, y9, y10]) rfl ?_
          rw [HGt.out]
          have HFz : Fr [] w X := (HFg.out.trans HX.out (fun x hx => by simp at hx; subst hx; right; have h9 := Hw.out; omega)).shed (fun x hx => by simp at hx; subst hx; have := Hbr.out; have := Hw.out; omega)
          exact ⟨noEnts, rfl, (.inl ⟨rfl, none, 0, rfl⟩), HFz⟩
    · rw [decide_eq_false hle] at hbad
      have HGt : Hid (gotM L = (msg0, false)) := gotM_no L (HGn.out (by omega))
      have q0 : X1.cell? ⟨bo, 0, none⟩ = some (.int .i64 0) := HBg.out.cellAt (i := 0) rfl
      have z0 := HBg.out.froz 0
      have q1 : X1.cell? ⟨bo, 1, none⟩ = some (.int .i64 0) := HBg.out.cellAt (i := 1) rfl
      have z1 := HBg.out.froz 1
      have q2 : X1.cell? ⟨bo, 2, none⟩ = some (.int .i64 0) := HBg.out.cellAt (i := 2) rfl
      have z2 := HBg.out.froz 2
      have q3 : X1.cell? ⟨bo, 3, none⟩ = some (.int .u64 0) := HBg.out.cellAt (i := 3) rfl
      have z3 := HBg.out.froz 3
      have q4 : X1.cell? ⟨bo, 4, none⟩ = some (.int .u64 0) := HBg.out.cellAt (i := 4) rfl
      have z4 := HBg.out.froz 4
      have q5 : X1.cell? ⟨bo, 5, none⟩ = some (.int .u64 0) := HBg.out.cellAt (i := 5) rfl
      have z5 := HBg.out.froz 5
      have q6 : X1.cell? ⟨bo, 6, none⟩ = some (.int .u64 0) := HBg.out.cellAt (i := 6) rfl
      have z6 := HBg.out.froz 6
      have q7 : X1.cell? ⟨bo, 7, none⟩ = some (.int .u64 0) := HBg.out.cellAt (i := 7) rfl
      have z7 := HBg.out.froz 7
      have q8 : X1.cell? ⟨bo, 8, none⟩ = some (.bool false) := HBg.out.cellAt (i := 8) rfl
      have z8 := HBg.out.froz 8
      have q9 : X1.cell? ⟨bo, 9, none⟩ = some (.slice none 0 0) := HBg.out.cellAt (i := 9) rfl
      have z9 := HBg.out.froz 9
      have q10 : X1.cell? ⟨bo, 10, none⟩ = some (.string ⟨#[]⟩) := HBg.out.cellAt (i := 10) rfl
      have z10 := HBg.out.froz 10
      have HX : Hid (Fr [bo] X1 (((((((((((X1.setCell ⟨bo, 0, none⟩ (.int .i64 0)).setCell ⟨bo, 1, none⟩ (.int .i64 0)).setCell ⟨bo, 2, none⟩ (.int .i64 0)).setCell ⟨bo, 3, none⟩ (.int .u64 0)).setCell ⟨bo, 4, none⟩ (.int .u64 0)).setCell ⟨bo, 5, none⟩ (.int .u64 0)).setCell ⟨bo, 6, none⟩ (.int .u64 0)).setCell ⟨bo, 7, none⟩ (.int .u64 0)).setCell ⟨bo, 8, none⟩ (.bool false)).setCell ⟨bo, 9, none⟩ (.slice none 0 0)).setCell ⟨bo, 10, none⟩ (.string ⟨#[]⟩))) := set11_fr X1 bo (.int .i64 0) (.int .i64 0) (.int .i64 0) (.int .u64 0) (.int .u64 0) (.int .u64 0) (.int .u64 0) (.int .u64 0) (.bool false) (.slice none 0 0) (.string ⟨#[]⟩)
      have HY : Hid (Blk (((((((((((X1.setCell ⟨bo, 0, none⟩ (.int .i64 0)).setCell ⟨bo, 1, none⟩ (.int .i64 0)).setCell ⟨bo, 2, none⟩ (.int .i64 0)).setCell ⟨bo, 3, none⟩ (.int .u64 0)).setCell ⟨bo, 4, none⟩ (.int .u64 0)).setCell ⟨bo, 5, none⟩ (.int .u64 0)).setCell ⟨bo, 6, none⟩ (.int .u64 0)).setCell ⟨bo, 7, none⟩ (.int .u64 0)).setCell ⟨bo, 8, none⟩ (.bool false)).setCell ⟨bo, 9, none⟩ (.slice none 0 0)).setCell ⟨bo, 10, none⟩ (.string ⟨#[]⟩)) bo #[.int .i64 0, .int .i64 0, .int .i64 0, .int .u64 0, .int .u64 0, .int .u64 0, .int .u64 0, .int .u64 0, .bool false, .slice none 0 0, .string ⟨#[]⟩] 47) := HBg.out.put11 _ _ _ _ _ _ _ _ _ _ _
      go_wp2_with fail
      generalize (((((((((((X1.setCell ⟨bo, 0, none⟩ (.int .i64 0)).setCell ⟨bo, 1, none⟩ (.int .i64 0)).setCell ⟨bo, 2, none⟩ (.int .i64 0)).setCell ⟨bo, 3, none⟩ (.int .u64 0)).setCell ⟨bo, 4, none⟩ (.int .u64 0)).setCell ⟨bo, 5, none⟩ (.int .u64 0)).setCell ⟨bo, 6, none⟩ (.int .u64 0)).setCell ⟨bo, 7, none⟩ (.int .u64 0)).setCell ⟨bo, 8, none⟩ (.bool false)).setCell ⟨bo, 9, none⟩ (.slice none 0 0)).setCell ⟨bo, 10, none⟩ (.string ⟨#[]⟩)) = X at *
      have y0 : X.cell? ⟨bo, 0, none⟩ = some (.int .i64 0) := HY.out.cellAt (i := 0) rfl
      have y1 : X.cell? ⟨bo, 1, none⟩ = some (.int .i64 0) := HY.out.cellAt (i := 1) rfl
      have y2 : X.cell? ⟨bo, 2, none⟩ = some (.int .i64 0) := HY.out.cellAt (i := 2) rfl
      have y3 : X.cell? ⟨bo, 3, none⟩ = some (.int .u64 0) := HY.out.cellAt (i := 3) rfl
      have y4 : X.cell? ⟨bo, 4, none⟩ = some (.int .u64 0) := HY.out.cellAt (i := 4) rfl
      have y5 : X.cell? ⟨bo, 5, none⟩ = some (.int .u64 0) := HY.out.cellAt (i := 5) rfl
      have y6 : X.cell? ⟨bo, 6, none⟩ = some (.int .u64 0) := HY.out.cellAt (i := 6) rfl
      have y7 : X.cell? ⟨bo, 7, none⟩ = some (.int .u64 0) := HY.out.cellAt (i := 7) rfl
      have y8 : X.cell? ⟨bo, 8, none⟩ = some (.bool false) := HY.out.cellAt (i := 8) rfl
      have y9 : X.cell? ⟨bo, 9, none⟩ = some (.slice none 0 0) := HY.out.cellAt (i := 9) rfl
      have y10 : X.cell? ⟨bo, 10, none⟩ = some (.string ⟨#[]⟩) := HY.out.cellAt (i := 10) rfl
      clear q0 z0 q1 z1 q2 z2 q3 z3 q4 z4 q5 z5 q6 z6 q7 z7 q8 z8 q9 z9 q10 z10
      refine bodyPost_ret (v := .tuple #[.agg #[.int .i64 0, .int .i64 0, .int .i64 0, .int .u64 0, .int .u64 0, .int .u64 0, .int .u64 0, .int .u64 0, .bool false, .slice none 0 0, .string ⟨#[]⟩], .bool false]) (by simp [results, Tryd.results23, go_sem, y0, y1, y2, y3, y4, y5, y6, y7, y8, y9, y10]) rfl ?_
      rw [HGt.out]
      have HFz : Fr [] w X := (HFg.out.trans HX.out (fun x hx => by simp at hx; subst hx; right; have h9 := Hw.out; omega)).shed (fun x hx => by simp at hx; subst hx; have := Hbr.out; have := Hw.out; omega)
      exact ⟨noEnts, rfl, (.inl ⟨rfl, none, 0, rfl⟩), HFz⟩
end Go.Proofs.YthfaaoeecajkeaaDoor
