/-
  Texts of this seat, joined: FRi3.
-/
import Derived.Test.YtnnpjjehecbljaaGreatDoorV03
import Derived.StillTailTactics
import Derived.Test.YtnnpjjehecbljaaGreatDoorVtk
set_option linter.unusedSimpArgs false
set_option linter.unusedVariables false
namespace Go.Proofs.YtnnpjjehecbljaaGreatDoor
open List renaming getElem?_toArray → lg0, getElem?_cons_succ → lg1, getElem?_cons_zero → lg2, setIfInBounds_toArray → lt0', set_cons_zero → lt1', set_cons_succ → lt2'
open Go.RowKit

set_option maxRecDepth 100000 in
set_option maxHeartbeats 2000000 in
theorem eRight3 (e : Ent) (w : World) (he : e.Fits) (hok : (entMay e.kind).2 = true) (h2 : 0 < e.term) (h3 : 0 < e.index) (hc : ¬ 0 < e.client) (hl : e.level = 1) : Calls Tryz.prog 24 #[.agg e.cells] w fun r w' => r = .returned (.bool e.ok) ∧ Fr [] w w' := by
  obtain ⟨hT, hI, hC, hS, hB, hM, hD, hO⟩ := he
  unfold U64 at *
  have HF := Lib.hid (eFields e.kind)
  unfold Ent.ok
  have Hf := Lib.hid (fun l => eFit (entMay e.kind).1 l)
  generalize entMay e.kind = x at *
  obtain ⟨may, kok⟩ := x
  dsimp only at Hf hok ⊢
  unfold Ent.cells
  obtain rfl : kok = true := hok
  have hl2 : (e.level == 1) = true := by simpa using hl
  clear hl
  have hc2 : decide (0 < e.client) = false := by simpa using hc
  go_enter Tryz.func24, Tryz.ntmps24
  go_wp2_with (first | (go_at_call 49; refine (HF.out _).mono ?_; rintro r w2 ⟨rfl, g2⟩) | (go_at_call 51; refine (eSmall _ _ hB.1 hB.2).mono ?_; rintro r w' ⟨rfl, rfl⟩) | (go_at_call 51; refine (eSmall _ _ hM.1 hM.2).mono ?_; rintro r w' ⟨rfl, rfl⟩) | (go_at_call 52; refine (eNode _ _).mono ?_; rintro r w' ⟨rfl, rfl⟩))
  have SB := Lib.hid ((Blk.new w #[.int .u64 e.term, .int .u64 e.index, .int .i64 e.kind, .int .u64 e.client, .int .u64 e.seq, .int .u64 e.block, .int .u64 e.many, .int .i64 e.node, .int .i64 e.level, .string e.data, .string e.old] 24).fr0 g2)
  have HF0 : Hid (Fr [] w w2) := ((Fr.refl _ _).alloc _).trans0 g2
  generalize w.heap.size = bx at *
  clear g2 HF
  have f0 := SB.out.cellAt (i := 0) rfl
  have f1 := SB.out.cellAt (i := 1) rfl
  have f2 := SB.out.cellAt (i := 2) rfl
  have f3 := SB.out.cellAt (i := 3) rfl
  have f4 := SB.out.cellAt (i := 4) rfl
  have f5 := SB.out.cellAt (i := 5) rfl
  have f6 := SB.out.cellAt (i := 6) rfl
  have f7 := SB.out.cellAt (i := 7) rfl
  have f8 := SB.out.cellAt (i := 8) rfl
  have f9 := SB.out.cellAt (i := 9) rfl
  have f10 := SB.out.cellAt (i := 10) rfl
  simp only [List.append_eq, List.cons_append, List.nil_append]
  refine wp_region_held_drew (S := (fun w' => w'.cell? ⟨bx, 0, none⟩ = some (.int .u64 e.term) ∧ w'.cell? ⟨bx, 1, none⟩ = some (.int .u64 e.index) ∧ w'.cell? ⟨bx, 3, none⟩ = some (.int .u64 e.client) ∧ w'.cell? ⟨bx, 4, none⟩ = some (.int .u64 e.seq) ∧ w'.cell? ⟨bx, 5, none⟩ = some (.int .u64 e.block) ∧ w'.cell? ⟨bx, 6, none⟩ = some (.int .u64 e.many) ∧ w'.cell? ⟨bx, 7, none⟩ = some (.int .i64 e.node) ∧ w'.cell? ⟨bx, 8, none⟩ = some (.int .i64 e.level) ∧ w'.cell? ⟨bx, 9, none⟩ = some (.string e.data) ∧ w'.cell? ⟨bx, 10, none⟩ = some (.string e.old))) (by kernel_rfl) ?_ (fun hHeld => ?_)
  · go_keep
  refine tk 0 ?_
  simp only [Act.put, lt0', lt1', lt2']
  refine tk 1 ?_
  simp only [Act.put, lt0', lt1', lt2']
  refine tk 2 ?_
  simp only [Act.put, lt0', lt1', lt2']
  refine tk 3 ?_
  simp only [Act.put, lt0', lt1', lt2']
  refine tk 4 ?_
  simp only [Act.put, lt0', lt1', lt2']
  refine tk 5 ?_
  simp only [Act.put, lt0', lt1', lt2']
  refine tk 6 ?_
  simp only [Act.put, lt0', lt1', lt2']
  refine tk 7 ?_
  simp only [Act.put, lt0', lt1', lt2']
  refine tk 8 ?_
  simp only [Act.put, lt0', lt1', lt2']
  refine tk 9 ?_
  simp only [Act.put, lt0', lt1', lt2']
  refine tk 10 ?_
  simp only [Act.put, lt0', lt1', lt2']
  refine tk 11 ?_
  simp only [Act.put, lt0', lt1', lt2']
  refine tk 12 ?_
  simp only [Act.put, lt0', lt1', lt2']
  refine tk 13 ?_
  simp only [Act.put, lt0', lt1', lt2']
  refine tk 14 ?_
  simp only [Act.put, lt0', lt1', lt2']
  refine tk 15 ?_
  simp only [Act.put, lt0', lt1', lt2']
  refine tk 16 ?_
  simp only [Act.put, lt0', lt1', lt2']
  refine tk 17 ?_
  simp only [Act.put, lt0', lt1', lt2']
  refine tk 18 ?_
  simp only [Act.put, lt0', lt1', lt2']
  refine tk 19 ?_
  simp only [Act.put, lt0', lt1', lt2']
  refine tk 20 ?_
  simp only [Act.put, lt0', lt1', lt2']
  refine tk 21 ?_
  simp only [Act.put, lt0', lt1', lt2']
  refine tk 22 ?_
  simp only [Act.put, lt0', lt1', lt2']
  refine tk 23 ?_
  simp only [Act.put, lt0', lt1', lt2']
  refine tk 24 ?_
  simp only [Act.put, lt0', lt1', lt2']
  refine tk 25 ?_
  simp only [Act.put, lt0', lt1', lt2']
  refine tk 26 ?_
  simp only [Act.put, lt0', lt1', lt2']
  refine tk 27 ?_
  simp only [Act.put, lt0', lt1', lt2']
  refine tk 28 ?_
  simp only [Act.put, lt0', lt1', lt2']
  refine tk 29 ?_
  simp only [Act.put, lt0', lt1', lt2']
  refine tk 32 ?_
  simp only [Act.put, lt0', lt1', lt2']
  refine tk 33 ?_
  simp only [Act.put, lt0', lt1', lt2']
  refine tk 34 ?_
  simp only [Act.put, lt0', lt1', lt2']
  refine tk 35 ?_
  simp only [Act.put, lt0', lt1', lt2']
  refine tk 36 ?_
  simp only [Act.put, lt0', lt1', lt2']
  refine tk 39 ?_
  simp only [Act.put, lt0', lt1', lt2']
  refine tk 40 ?_
  simp only [Act.put, lt0', lt1', lt2']
  refine tk 41 ?_
  simp only [Act.put, lt0', lt1', lt2']
  refine tk 42 ?_
  simp only [Act.put, lt0', lt1', lt2']
  refine tk 43 ?_
  simp only [Act.put, lt0', lt1', lt2']
  refine tk 46 ?_
  simp only [Act.put, lt0', lt1', lt2']
  refine tk 47 ?_
  simp only [Act.put, lt0', lt1', lt2']
  refine tk 48 ?_
  simp only [Act.put, lt0', lt1', lt2']
  refine tk 49 ?_
  simp only [Act.put, lt0', lt1', lt2']
  refine tk 50 ?_
  simp only [Act.put, lt0', lt1', lt2']
  refine tk 51 ?_
  simp only [Act.put, lt0', lt1', lt2']
  refine tk 58 ?_
  simp only [Act.put, lt0', lt1', lt2']
  refine tk 59 ?_
  simp only [Act.put, lt0', lt1', lt2']
  refine tk 60 ?_
  simp only [Act.put, lt0', lt1', lt2']
  refine tk 61 ?_
  simp only [Act.put, lt0', lt1', lt2']
  refine tk 62 ?_
  simp only [Act.put, lt0', lt1', lt2']
  refine tk 63 ?_
  simp only [Act.put, lt0', lt1', lt2']
  refine tk 64 ?_
  simp only [Act.put, lt0', lt1', lt2']
  refine tk 65 ?_
  simp only [Act.put, lt0', lt1', lt2']
  refine tk 66 ?_
  simp only [Act.put, lt0', lt1', lt2']
  refine tk 67 ?_
  simp only [Act.put, lt0', lt1', lt2']
  refine tk 68 ?_
  simp only [Act.put, lt0', lt1', lt2']
  refine tk 69 ?_
  simp only [Act.put, lt0', lt1', lt2']
  refine tk 70 ?_
  simp only [Act.put, lt0', lt1', lt2']
  refine tk 71 ?_
  simp only [Act.put, lt0', lt1', lt2']
  refine tk 72 ?_
  simp only [Act.put, lt0', lt1', lt2']
  refine tk 73 ?_
  simp only [Act.put, lt0', lt1', lt2']
  refine wpAnyH_ready (rs := [30]) (by kernel_rfl) (by simp) ?_
  refine AllReadyH.cons (by simp only [lg0, lg1, lg2]; rfl) (fun K hK => ?_) AllReadyH.nil
  go_simp
  (go_at_call 51; refine (eSmall _ _ hB.1 hB.2).mono ?_; rintro r w' ⟨rfl, rfl⟩)
  refine hK.out _ _ ?_ (fun hHeld2 => ?_)
  · assumption
  clear hK K
  try simp only [Act.put, lt0', lt1', lt2']
  refine tk 31 ?_
  simp only [Act.put, lt0', lt1', lt2']
  refine wpAnyH_ready (rs := [37]) (by kernel_rfl) (by simp) ?_
  refine AllReadyH.cons (by simp only [lg0, lg1, lg2]; rfl) (fun K hK => ?_) AllReadyH.nil
  go_simp
  (go_at_call 51; refine (eSmall _ _ hM.1 hM.2).mono ?_; rintro r w' ⟨rfl, rfl⟩)
  refine hK.out _ _ ?_ (fun hHeld2 => ?_)
  · assumption
  clear hK K
  try simp only [Act.put, lt0', lt1', lt2']
  refine tk 38 ?_
  simp only [Act.put, lt0', lt1', lt2']
  refine wpAnyH_ready (rs := [44]) (by kernel_rfl) (by simp) ?_
  refine AllReadyH.cons (by simp only [lg0, lg1, lg2]; rfl) (fun K hK => ?_) AllReadyH.nil
  go_simp
  (go_at_call 52; refine (eNode _ _).mono ?_; rintro r w' ⟨rfl, rfl⟩)
  refine hK.out _ _ ?_ (fun hHeld2 => ?_)
  · assumption
  clear hK K
  try simp only [Act.put, lt0', lt1', lt2']
  refine tk 45 ?_
  simp only [Act.put, lt0', lt1', lt2']
  refine tk 52 ?_
  simp only [Act.put, lt0', lt1', lt2']
  refine tk2 53 ?_
  simp only [Act.put, lt0', lt1', lt2']
  refine tk2 54 ?_
  simp only [Act.put, lt0', lt1', lt2']
  refine tk2 55 ?_
  simp only [Act.put, lt0', lt1', lt2']
  refine tk 56 ?_
  simp only [Act.put, lt0', lt1', lt2']
  refine tk 57 ?_
  simp only [Act.put, lt0', lt1', lt2']
  refine wpAnyH_ready (rs := [74]) (by kernel_rfl) (by simp) ?_
  refine AllReadyH.cons (by simp only [lg0, lg1, lg2]; rfl) (fun K hK => ?_) AllReadyH.nil
  go_simp
  skip
  refine hK.out _ _ ?_ (fun hHeld2 => ?_)
  · go_keep
  clear hK K
  try simp only [Act.put, lt0', lt1', lt2']
  refine wpAnyH_ready (rs := [75]) (by kernel_rfl) (by simp) ?_
  refine AllReadyH.cons (by simp only [lg0, lg1, lg2]; rfl) (fun K hK => ?_) AllReadyH.nil
  go_simp
  (go_at_call 50; refine (eFit may w2.heap.size 0 7 [⟨99, decide (0 < e.seq), false⟩, ⟨98, decide (0 < e.block), smallB e.block⟩, ⟨109, decide (0 < e.many), smallB e.many⟩, ⟨110, e.node != 0, nodeB e.node⟩, ⟨108, e.level != 0, true⟩, ⟨100, !e.data.toList.isEmpty, decide ((e.data.size : Int) ≤ 64)⟩, ⟨111, !e.old.toList.isEmpty, decide ((e.old.size : Int) ≤ 64)⟩] _ ((Flds.new w2 [⟨99, decide (0 < e.seq), false⟩, ⟨98, decide (0 < e.block), smallB e.block⟩, ⟨109, decide (0 < e.many), smallB e.many⟩, ⟨110, e.node != 0, nodeB e.node⟩, ⟨108, e.level != 0, true⟩, ⟨100, !e.data.toList.isEmpty, decide ((e.data.size : Int) ≤ 64)⟩, ⟨111, !e.old.toList.isEmpty, decide ((e.old.size : Int) ≤ 64)⟩] 90).fr0 (Fr.refl _ _).drew) (show 7 ≤ maxLen by decide)).mono ?_; rintro r w3 ⟨rfl, g3⟩)
  refine hK.out _ _ ?_ (fun hHeld2 => ?_)
  · exact entS ((SB.out.alloc _).drew.fr0 g3)
  clear hK K
  try simp only [Act.put, lt0', lt1', lt2']
  refine tk 76 ?_
  simp only [Act.put, lt0', lt1', lt2']
  refine tk 77 ?_
  simp only [Act.put, lt0', lt1', lt2']
  refine wpAnyH_done (by kernel_rfl) ?_ _
  go_wp2_with fail
  go_ret
  have HF3 : Fr [] w w3 := ((HF0.out.alloc _).drew).trans0 g3
  refine ⟨?_, HF3⟩
  simp only [Ent.flds, hc2, hl2, Bool.false_or, decide_eq_true h2, decide_eq_true h3, Bool.true_and]; rfl
end Go.Proofs.YtnnpjjehecbljaaGreatDoor
