/-
  Texts of this seat, joined: FMr2 FMr3.
-/
import Derived.Test.YthfaaoeecajkeaaDoorW11
import Derived.StillTailTactics
import Derived.Test.YthfaaoeecajkeaaDoorWtk
set_option linter.unusedSimpArgs false
set_option linter.unusedVariables false
namespace Go.Proofs.YthfaaoeecajkeaaDoor
open List renaming getElem?_toArray → lg0, getElem?_cons_succ → lg1, getElem?_cons_zero → lg2, setIfInBounds_toArray → lt0', set_cons_zero → lt1', set_cons_succ → lt2'
open Go.RowKit

set_option maxRecDepth 100000 in
set_option maxHeartbeats 8000000 in
theorem eMr2 (m : Msg) (v : Value) (w : World) (hf : m.Fits) (hv : Ents w v m.ents) (hok : (msgMay m.kind).2 = true) (h2 : nodeB m.sent = true) (h3 : nodeB m.goal = true) (h4 : ¬ m.ents.length ≤ 64) :
    Calls Tryd.prog 43 #[.agg (m.cells v)] w fun r w' => r = .returned (.bool m.ok) ∧ Fr [] w w' := by
  have HF := Lib.hid (eMsgFields m.kind)
  have HA := Lib.hid (fun w1 (hv : Ents w1 v m.ents) => eAnyBad m v w1 hf hv)
  have HV := Lib.hid hv
  obtain ⟨ad, cp, rfl⟩ := hv.shape
  have hN1 := eNode m.sent
  have hN2 := eNode m.goal
  rw [h2] at hN1
  rw [h3] at hN2
  have HN1 := Lib.hid hN1
  have HN2 := Lib.hid hN2
  have Hok : Hid (m.ok = fitB (msgMay m.kind).1 m.flds) := by unfold Msg.ok; rw [hok, h2, h3]; rfl
  rw [Hok.out]
  have HfB := Lib.hid (fun w bx t (h : Blk w bx (m.cells (.slice ad m.ents.length cp)) t) => msgS h)
  obtain ⟨hT, hI, hP, hC, hK, hE, hM, hS⟩ := hf
  unfold U64 at *
  unfold Msg.flds
  have h4d : decide (m.ents.length ≤ 64) = false := by simpa using h4
  rw [h4d, Bool.false_and]
  have h4b : decide ((m.ents.length : Int) ≤ 64) = false := by simp; omega
  clear Hok hN1 hN2 h2 h3 hv h4d hE
  generalize msgMay m.kind = xx at *
  obtain ⟨may, kok⟩ := xx
  obtain rfl : kok = true := hok
  have HMC : Hid (∀ w : World, Blk (w.alloc (.cells (m.cells (.slice ad m.ents.length cp)) 47)) w.heap.size (m.cells (.slice ad m.ents.length cp)) 47) := fun w => Blk.new _ _ _
  have SBw := HMC.out w
  have hc := SBw.cellAt (i := 0) rfl
  unfold Msg.cells at HMC HfB SBw ⊢
  generalize m.ents.any (fun e => !e.ok) = bad at *
  generalize m.ents.length = n at *
  go_enter Tryd.func43, Tryd.ntmps43
  go_wp2_with (first | (go_at_call 69; refine (HF.out _).mono ?_; rintro r w2 ⟨rfl, g2⟩))
  have SB := Lib.hid (SBw.fr0 g2)
  have HF0 : Hid (Fr [] w w2) := ((Fr.refl _ _).alloc _).trans0 g2
  have HV2 := Lib.hid (HV.out.fr0 HF0.out)
  clear g2 HF SBw hc
  generalize w.heap.size = bx at *
  obtain ⟨c1, c2, c4, c5, c6, c7, c8, c9, c10⟩ := HfB.out _ _ _ SB.out
  refine wp_region_held_drew (S := (fun w' => w'.cell? ⟨bx, 1, none⟩ = some (.int .i64 m.sent) ∧ w'.cell? ⟨bx, 2, none⟩ = some (.int .i64 m.goal) ∧ w'.cell? ⟨bx, 4, none⟩ = some (.int .u64 m.index) ∧ w'.cell? ⟨bx, 5, none⟩ = some (.int .u64 m.prev) ∧ w'.cell? ⟨bx, 6, none⟩ = some (.int .u64 m.commit) ∧ w'.cell? ⟨bx, 7, none⟩ = some (.int .u64 m.mark) ∧ w'.cell? ⟨bx, 8, none⟩ = some (.bool m.yes) ∧ w'.cell? ⟨bx, 9, none⟩ = some (.slice ad n cp) ∧ w'.cell? ⟨bx, 10, none⟩ = some (.string m.snap))) (by kernel_rfl) ?_ (fun hHeld => ?_)
  · go_keep
  refine tk 0 ?_
  simp only [Act.put, lt0', lt1', lt2']
  refine tk 1 ?_
  simp only [Act.put, lt0', lt1', lt2']
  refine tk 2 ?_
  simp only [Act.put, lt0', lt1', lt2']
  refine tk 3 ?_
  simp only [Act.put, lt0', lt1', lt2']
  refine wpAnyH_ready (rs := [4]) (by kernel_rfl) (by simp) ?_
  refine AllReadyH.cons (by simp only [lg0, lg1, lg2]; rfl) (fun K hK => ?_) AllReadyH.nil
  go_simp
  (go_at_call 53; refine (HN1.out _).mono ?_; rintro r w' ⟨rfl, rfl⟩)
  refine hK.out _ _ ?_ (fun hHeld2 => ?_)
  · assumption
  clear hK K
  try simp only [Act.put, lt0', lt1', lt2']
  refine tk 5 ?_
  simp only [Act.put, lt0', lt1', lt2']
  refine tk 6 ?_
  simp only [Act.put, lt0', lt1', lt2']
  refine tk 7 ?_
  simp only [Act.put, lt0', lt1', lt2']
  refine tk 8 ?_
  simp only [Act.put, lt0', lt1', lt2']
  refine wpAnyH_ready (rs := [9]) (by kernel_rfl) (by simp) ?_
  refine AllReadyH.cons (by simp only [lg0, lg1, lg2]; rfl) (fun K hK => ?_) AllReadyH.nil
  go_simp
  (go_at_call 53; refine (HN2.out _).mono ?_; rintro r w' ⟨rfl, rfl⟩)
  refine hK.out _ _ ?_ (fun hHeld2 => ?_)
  · assumption
  clear hK K
  try simp only [Act.put, lt0', lt1', lt2']
  refine tk 10 ?_
  simp only [Act.put, lt0', lt1', lt2']
  refine tk 11 ?_
  simp only [Act.put, lt0', lt1', lt2']
  refine tk 12 ?_
  simp only [Act.put, lt0', lt1', lt2']
  refine tk 13 ?_
  simp only [Act.put, lt0', lt1', lt2']
  refine tk 14 ?_
  simp only [Act.put, lt0', lt1', lt2']
  refine tk 15 ?_
  simp only [Act.put, lt0', lt1', lt2']
  refine tk 16 ?_
  simp only [Act.put, lt0', lt1', lt2']
  refine tk 17 ?_
  simp only [Act.put, lt0', lt1', lt2']
  refine tk 18 ?_
  simp only [Act.put, lt0', lt1', lt2']
  refine tk 19 ?_
  simp only [Act.put, lt0', lt1', lt2']
  refine tk 20 ?_
  simp only [Act.put, lt0', lt1', lt2']
  refine tk 21 ?_
  simp only [Act.put, lt0', lt1', lt2']
  refine tk 22 ?_
  simp only [Act.put, lt0', lt1', lt2']
  refine tk 23 ?_
  simp only [Act.put, lt0', lt1', lt2']
  refine tk 24 ?_
  simp only [Act.put, lt0', lt1', lt2']
  refine tk 25 ?_
  simp only [Act.put, lt0', lt1', lt2']
  refine tk 26 ?_
  simp only [Act.put, lt0', lt1', lt2']
  refine tk 27 ?_
  simp only [Act.put, lt0', lt1', lt2']
  refine tk 28 ?_
  simp only [Act.put, lt0', lt1', lt2']
  refine tk 29 ?_
  simp only [Act.put, lt0', lt1', lt2']
  refine tk 30 ?_
  simp only [Act.put, lt0', lt1', lt2']
  refine tk 31 ?_
  simp only [Act.put, lt0', lt1', lt2']
  refine tk 32 ?_
  simp only [Act.put, lt0', lt1', lt2']
  refine tk 33 ?_
  simp only [Act.put, lt0', lt1', lt2']
  refine tk 34 ?_
  simp only [Act.put, lt0', lt1', lt2']
  refine tk 35 ?_
  simp only [Act.put, lt0', lt1', lt2']
  refine tk 36 ?_
  simp only [Act.put, lt0', lt1', lt2']
  refine tk 37 ?_
  simp only [Act.put, lt0', lt1', lt2']
  refine tk 38 ?_
  simp only [Act.put, lt0', lt1', lt2']
  refine tk 39 ?_
  simp only [Act.put, lt0', lt1', lt2']
  refine tk 40 ?_
  simp only [Act.put, lt0', lt1', lt2']
  refine tk2 41 ?_
  simp only [Act.put, lt0', lt1', lt2']
  refine tk2 42 ?_
  simp only [Act.put, lt0', lt1', lt2']
  refine tk2 43 ?_
  simp only [Act.put, lt0', lt1', lt2']
  refine tk2 44 ?_
  simp only [Act.put, lt0', lt1', lt2']
  refine tk 45 ?_
  simp only [Act.put, lt0', lt1', lt2']
  refine tk 46 ?_
  simp only [Act.put, lt0', lt1', lt2']
  refine tk 47 ?_
  simp only [Act.put, lt0', lt1', lt2']
  refine tk 48 ?_
  simp only [Act.put, lt0', lt1', lt2']
  refine tk 49 ?_
  simp only [Act.put, lt0', lt1', lt2']
  refine tk 50 ?_
  simp only [Act.put, lt0', lt1', lt2']
  refine tk 51 ?_
  simp only [Act.put, lt0', lt1', lt2']
  refine tk 52 ?_
  simp only [Act.put, lt0', lt1', lt2']
  refine tk 53 ?_
  simp only [Act.put, lt0', lt1', lt2']
  refine tk 54 ?_
  simp only [Act.put, lt0', lt1', lt2']
  refine wpAnyH_ready (rs := [55]) (by kernel_rfl) (by simp) ?_
  refine AllReadyH.cons (by simp only [lg0, lg1, lg2]; rfl) (fun K hK => ?_) AllReadyH.nil
  go_simp
  skip
  refine hK.out _ _ ?_ (fun hHeld2 => ?_)
  · go_keep
  clear hK K
  try simp only [Act.put, lt0', lt1', lt2']
  refine wpAnyH_ready (rs := [56]) (by kernel_rfl) (by simp) ?_
  refine AllReadyH.cons (by simp only [lg0, lg1, lg2]; rfl) (fun K hK => ?_) AllReadyH.nil
  go_simp
  (go_at_call 51; refine (eFitM may _ _ _ _ _ _ _ _ _ w2.drew).mono ?_; rintro r w4 ⟨rfl, g4⟩; have SB3 := Lib.hid (Blk.fr0 (Blk.drew (Blk.alloc SB.out _)) g4))
  refine hK.out _ _ ?_ (fun hHeld2 => ?_)
  · exact HfB.out _ _ _ SB3.out
  clear hK K
  try simp only [Act.put, lt0', lt1', lt2']
  refine tk 57 ?_
  simp only [Act.put, lt0', lt1', lt2']
  refine tk 58 ?_
  simp only [Act.put, lt0', lt1', lt2']
  refine wpAnyH_done (by kernel_rfl) ?_ _
  go_wp2_with fail
  go_ret
  exact ⟨rfl, ((HF0.out.alloc _).drew).trans0 g4⟩
end Go.Proofs.YthfaaoeecajkeaaDoor

namespace Go.Proofs.YthfaaoeecajkeaaDoor
open List renaming getElem?_toArray → lg0, getElem?_cons_succ → lg1, getElem?_cons_zero → lg2, setIfInBounds_toArray → lt0', set_cons_zero → lt1', set_cons_succ → lt2'
open Go.RowKit

set_option maxRecDepth 100000 in
set_option maxHeartbeats 8000000 in
theorem eMr3 (m : Msg) (v : Value) (w : World) (hf : m.Fits) (hv : Ents w v m.ents) (hok : (msgMay m.kind).2 = false) :
    Calls Tryd.prog 43 #[.agg (m.cells v)] w fun r w' => r = .returned (.bool m.ok) ∧ Fr [] w w' := by
  have HF := Lib.hid (eMsgFields m.kind)
  have HA := Lib.hid (fun w1 (hv : Ents w1 v m.ents) => eAnyBad m v w1 hf hv)
  have HV := Lib.hid hv
  obtain ⟨ad, cp, rfl⟩ := hv.shape
  have Hok : Hid (m.ok = false) := by unfold Msg.ok; rw [hok]; rfl
  rw [Hok.out]
  have HfB := Lib.hid (fun w bx t (h : Blk w bx (m.cells (.slice ad m.ents.length cp)) t) => msgS h)
  obtain ⟨hT, hI, hP, hC, hK, hE, hM, hS⟩ := hf
  unfold U64 at *
  clear Hok hv hE
  generalize msgMay m.kind = xx at *
  obtain ⟨may, kok⟩ := xx
  obtain rfl : kok = false := hok
  have HMC : Hid (∀ w : World, Blk (w.alloc (.cells (m.cells (.slice ad m.ents.length cp)) 47)) w.heap.size (m.cells (.slice ad m.ents.length cp)) 47) := fun w => Blk.new _ _ _
  have SBw := HMC.out w
  have hc := SBw.cellAt (i := 0) rfl
  unfold Msg.cells at HMC HfB SBw ⊢
  clear HA
  generalize m.ents.length = n at *
  go_enter Tryd.func43, Tryd.ntmps43
  go_wp2_with (first | (go_at_call 69; refine (HF.out _).mono ?_; rintro r w2 ⟨rfl, g2⟩))
  have SB := Lib.hid (SBw.fr0 g2)
  have HF0 : Hid (Fr [] w w2) := ((Fr.refl _ _).alloc _).trans0 g2
  have HV2 := Lib.hid (HV.out.fr0 HF0.out)
  clear g2 HF SBw hc
  generalize w.heap.size = bx at *
  obtain ⟨c1, c2, c4, c5, c6, c7, c8, c9, c10⟩ := HfB.out _ _ _ SB.out
  refine wp_region_held_drew (S := (fun w' => w'.cell? ⟨bx, 1, none⟩ = some (.int .i64 m.sent) ∧ w'.cell? ⟨bx, 2, none⟩ = some (.int .i64 m.goal) ∧ w'.cell? ⟨bx, 4, none⟩ = some (.int .u64 m.index) ∧ w'.cell? ⟨bx, 5, none⟩ = some (.int .u64 m.prev) ∧ w'.cell? ⟨bx, 6, none⟩ = some (.int .u64 m.commit) ∧ w'.cell? ⟨bx, 7, none⟩ = some (.int .u64 m.mark) ∧ w'.cell? ⟨bx, 8, none⟩ = some (.bool m.yes) ∧ w'.cell? ⟨bx, 9, none⟩ = some (.slice ad n cp) ∧ w'.cell? ⟨bx, 10, none⟩ = some (.string m.snap))) (by kernel_rfl) ?_ (fun hHeld => ?_)
  · go_keep
  refine tk 0 ?_
  simp only [Act.put, lt0', lt1', lt2']
  refine tk 1 ?_
  simp only [Act.put, lt0', lt1', lt2']
  refine tk2 2 ?_
  simp only [Act.put, lt0', lt1', lt2']
  refine tk2 3 ?_
  simp only [Act.put, lt0', lt1', lt2']
  refine tk2 4 ?_
  simp only [Act.put, lt0', lt1', lt2']
  refine tk 5 ?_
  simp only [Act.put, lt0', lt1', lt2']
  refine tk 6 ?_
  simp only [Act.put, lt0', lt1', lt2']
  refine tk2 7 ?_
  simp only [Act.put, lt0', lt1', lt2']
  refine tk2 8 ?_
  simp only [Act.put, lt0', lt1', lt2']
  refine tk2 9 ?_
  simp only [Act.put, lt0', lt1', lt2']
  refine tk 10 ?_
  simp only [Act.put, lt0', lt1', lt2']
  refine tk 11 ?_
  simp only [Act.put, lt0', lt1', lt2']
  refine tk2 12 ?_
  simp only [Act.put, lt0', lt1', lt2']
  refine tk2 13 ?_
  simp only [Act.put, lt0', lt1', lt2']
  refine tk2 14 ?_
  simp only [Act.put, lt0', lt1', lt2']
  refine tk2 15 ?_
  simp only [Act.put, lt0', lt1', lt2']
  refine tk2 16 ?_
  simp only [Act.put, lt0', lt1', lt2']
  refine tk2 17 ?_
  simp only [Act.put, lt0', lt1', lt2']
  refine tk2 18 ?_
  simp only [Act.put, lt0', lt1', lt2']
  refine tk2 19 ?_
  simp only [Act.put, lt0', lt1', lt2']
  refine tk2 20 ?_
  simp only [Act.put, lt0', lt1', lt2']
  refine tk2 21 ?_
  simp only [Act.put, lt0', lt1', lt2']
  refine tk2 22 ?_
  simp only [Act.put, lt0', lt1', lt2']
  refine tk2 23 ?_
  simp only [Act.put, lt0', lt1', lt2']
  refine tk2 24 ?_
  simp only [Act.put, lt0', lt1', lt2']
  refine tk2 25 ?_
  simp only [Act.put, lt0', lt1', lt2']
  refine tk2 26 ?_
  simp only [Act.put, lt0', lt1', lt2']
  refine tk2 27 ?_
  simp only [Act.put, lt0', lt1', lt2']
  refine tk2 28 ?_
  simp only [Act.put, lt0', lt1', lt2']
  refine tk2 29 ?_
  simp only [Act.put, lt0', lt1', lt2']
  refine tk2 30 ?_
  simp only [Act.put, lt0', lt1', lt2']
  refine tk2 31 ?_
  simp only [Act.put, lt0', lt1', lt2']
  refine tk2 32 ?_
  simp only [Act.put, lt0', lt1', lt2']
  refine tk2 33 ?_
  simp only [Act.put, lt0', lt1', lt2']
  refine tk2 34 ?_
  simp only [Act.put, lt0', lt1', lt2']
  refine tk2 35 ?_
  simp only [Act.put, lt0', lt1', lt2']
  refine tk2 36 ?_
  simp only [Act.put, lt0', lt1', lt2']
  refine tk2 37 ?_
  simp only [Act.put, lt0', lt1', lt2']
  refine tk2 38 ?_
  simp only [Act.put, lt0', lt1', lt2']
  refine tk2 39 ?_
  simp only [Act.put, lt0', lt1', lt2']
  refine tk2 40 ?_
  simp only [Act.put, lt0', lt1', lt2']
  refine tk2 41 ?_
  simp only [Act.put, lt0', lt1', lt2']
  refine tk2 42 ?_
  simp only [Act.put, lt0', lt1', lt2']
  refine tk2 43 ?_
  simp only [Act.put, lt0', lt1', lt2']
  refine tk2 44 ?_
  simp only [Act.put, lt0', lt1', lt2']
  refine tk2 45 ?_
  simp only [Act.put, lt0', lt1', lt2']
  refine tk2 46 ?_
  simp only [Act.put, lt0', lt1', lt2']
  refine tk2 47 ?_
  simp only [Act.put, lt0', lt1', lt2']
  refine tk2 48 ?_
  simp only [Act.put, lt0', lt1', lt2']
  refine tk2 49 ?_
  simp only [Act.put, lt0', lt1', lt2']
  refine tk2 50 ?_
  simp only [Act.put, lt0', lt1', lt2']
  refine tk2 51 ?_
  simp only [Act.put, lt0', lt1', lt2']
  refine tk2 52 ?_
  simp only [Act.put, lt0', lt1', lt2']
  refine tk2 53 ?_
  simp only [Act.put, lt0', lt1', lt2']
  refine tk2 54 ?_
  simp only [Act.put, lt0', lt1', lt2']
  refine tk2 55 ?_
  simp only [Act.put, lt0', lt1', lt2']
  refine tk2 56 ?_
  simp only [Act.put, lt0', lt1', lt2']
  refine tk 57 ?_
  simp only [Act.put, lt0', lt1', lt2']
  refine tk 58 ?_
  simp only [Act.put, lt0', lt1', lt2']
  refine wpAnyH_done (by kernel_rfl) ?_ _
  go_wp2_with fail
  go_ret
  exact ⟨rfl, HF0.out.drew⟩
end Go.Proofs.YthfaaoeecajkeaaDoor
