/-
  Texts of this seat, joined: FMr1 FMr2 FMr3.
-/
import Derived.Test.YtacdbglocpaeaaaZFRi
import Derived.StillTailTactics
set_option linter.unusedSimpArgs false
set_option linter.unusedVariables false
namespace Go.Proofs.Ytacdbglocpaeaaa
open Go.RowKit

set_option maxRecDepth 100000 in
set_option maxHeartbeats 8000000 in
theorem eMr1 (m : Msg) (v : Value) (w : World) (hf : m.Fits) (hv : Ents w v m.ents) (hok : (msgMay m.kind).2 = true) (h2 : nodeB m.sent = true) (h3 : nodeB m.goal = true) (h4 : m.ents.length ≤ 64) :
    Calls Try.prog 38 #[.agg (m.cells v)] w fun r w' => r = .returned (.bool m.ok) ∧ Fr [] w w' := by
  have HF := Lib.hid (eMsgFields m.kind)
  have HA := Lib.hid (fun w1 (hv : Ents w1 v m.ents) => eAnyBad m v w1 hf hv)
  have HV := Lib.hid hv
  obtain ⟨ad, cp, rfl⟩ := hv.shape
  have hN1 := eNode m.sent
  have hN2 := eNode m.goal
  rw [h2] at hN1
  rw [h3] at hN2
  have HN1 := Lib.hid hN1
  have HN2 := Lib.hid hN2
  have Hok : Hid (m.ok = fitB (msgMay m.kind).1 m.flds) := by unfold Msg.ok; rw [hok, h2, h3]; rfl
  rw [Hok.out]
  have HfB := Lib.hid (fun w bx t (h : Blk w bx (m.cells (.slice ad m.ents.length cp)) t) => msgS h)
  obtain ⟨hT, hI, hP, hC, hK, hE, hM, hS⟩ := hf
  unfold U64 at *
  unfold Msg.flds
  have h4d : decide (m.ents.length ≤ 64) = true := by simpa using h4
  rw [h4d]
  have h4b : decide ((m.ents.length : Int) ≤ 64) = true := by simp; omega
  clear Hok hN1 hN2 h2 h3 hv h4d hE
  generalize msgMay m.kind = xx at *
  obtain ⟨may, kok⟩ := xx
  obtain rfl : kok = true := hok
  have HMC : Hid (∀ w : World, Blk (w.alloc (.cells (m.cells (.slice ad m.ents.length cp)) 35)) w.heap.size (m.cells (.slice ad m.ents.length cp)) 35) := fun w => Blk.new _ _ _
  have SBw := HMC.out w
  have hc := SBw.cellAt (i := 0) rfl
  unfold Msg.cells at HMC HfB SBw ⊢
  generalize m.ents.any (fun e => !e.ok) = bad at *
  generalize m.ents.length = n at *
  go_enter Try.func38, Try.ntmps38
  go_wp2_with (first | (go_at_call 49; refine (HF.out _).mono ?_; rintro r w2 ⟨rfl, g2⟩))
  have SB := Lib.hid (SBw.fr0 g2)
  have HF0 : Hid (Fr [] w w2) := ((Fr.refl _ _).alloc _).trans0 g2
  have HV2 := Lib.hid (HV.out.fr0 HF0.out)
  clear g2 HF SBw hc
  generalize w.heap.size = bx at *
  obtain ⟨c1, c2, c4, c5, c6, c7, c8, c9, c10⟩ := HfB.out _ _ _ SB.out
  go_outline
  go_region_held3 (fun w' => w'.cell? ⟨bx, 1, none⟩ = some (.int .i64 m.sent) ∧ w'.cell? ⟨bx, 2, none⟩ = some (.int .i64 m.goal) ∧ w'.cell? ⟨bx, 4, none⟩ = some (.int .u64 m.index) ∧ w'.cell? ⟨bx, 5, none⟩ = some (.int .u64 m.prev) ∧ w'.cell? ⟨bx, 6, none⟩ = some (.int .u64 m.commit) ∧ w'.cell? ⟨bx, 7, none⟩ = some (.int .u64 m.mark) ∧ w'.cell? ⟨bx, 8, none⟩ = some (.bool m.yes) ∧ w'.cell? ⟨bx, 9, none⟩ = some (.slice ad n cp) ∧ w'.cell? ⟨bx, 10, none⟩ = some (.string m.snap))
    (first | go_keep | exact HfB.out _ _ _ SB3.out)
    (first | (go_at_call 50; refine (HN1.out _).mono ?_; rintro r w' ⟨rfl, rfl⟩) | (go_at_call 50; refine (HN2.out _).mono ?_; rintro r w' ⟨rfl, rfl⟩) | (go_at_call 52; refine (HA.out _ (HV2.out.fr0 ((Fr.refl _ _).drew))).mono ?_; rintro r w3 ⟨rfl, g3⟩; have SB3 := Lib.hid (Blk.fr0 SB.out.drew g3)) | (go_at_call 51; refine (eFitM may _ _ _ _ _ _ _ _ _ _).mono ?_; rintro r w4 ⟨rfl, g4⟩; have SB3 := Lib.hid (Blk.fr0 (Blk.alloc SB3.out _) g4)))
  have HF4 : Hid (Fr [] w w4) := ((HF0.out.drew.trans0 g3).alloc _).trans0 g4
  clear HF0 g3 g4 SB SB3
  go_wp2_with fail
  go_ret
  exact ⟨rfl, HF4.out⟩
end Go.Proofs.Ytacdbglocpaeaaa

namespace Go.Proofs.Ytacdbglocpaeaaa
open List renaming getElem?_toArray → lg0, getElem?_cons_succ → lg1, getElem?_cons_zero → lg2, setIfInBounds_toArray → lt0', set_cons_zero → lt1', set_cons_succ → lt2'
open Go.RowKit

set_option maxRecDepth 100000 in
set_option maxHeartbeats 8000000 in
theorem eMr2 (m : Msg) (v : Value) (w : World) (hf : m.Fits) (hv : Ents w v m.ents) (hok : (msgMay m.kind).2 = true) (h2 : nodeB m.sent = true) (h3 : nodeB m.goal = true) (h4 : ¬ m.ents.length ≤ 64) :
    Calls Try.prog 38 #[.agg (m.cells v)] w fun r w' => r = .returned (.bool m.ok) ∧ Fr [] w w' := by
  have HF := Lib.hid (eMsgFields m.kind)
  have HA := Lib.hid (fun w1 (hv : Ents w1 v m.ents) => eAnyBad m v w1 hf hv)
  have HV := Lib.hid hv
  obtain ⟨ad, cp, rfl⟩ := hv.shape
  have hN1 := eNode m.sent
  have hN2 := eNode m.goal
  rw [h2] at hN1
  rw [h3] at hN2
  have HN1 := Lib.hid hN1
  have HN2 := Lib.hid hN2
  have Hok : Hid (m.ok = fitB (msgMay m.kind).1 m.flds) := by unfold Msg.ok; rw [hok, h2, h3]; rfl
  rw [Hok.out]
  have HfB := Lib.hid (fun w bx t (h : Blk w bx (m.cells (.slice ad m.ents.length cp)) t) => msgS h)
  obtain ⟨hT, hI, hP, hC, hK, hE, hM, hS⟩ := hf
  unfold U64 at *
  unfold Msg.flds
  have h4d : decide (m.ents.length ≤ 64) = false := by simpa using h4
  rw [h4d, Bool.false_and]
  have h4b : decide ((m.ents.length : Int) ≤ 64) = false := by simp; omega
  clear Hok hN1 hN2 h2 h3 hv h4d hE
  generalize msgMay m.kind = xx at *
  obtain ⟨may, kok⟩ := xx
  obtain rfl : kok = true := hok
  have HMC : Hid (∀ w : World, Blk (w.alloc (.cells (m.cells (.slice ad m.ents.length cp)) 35)) w.heap.size (m.cells (.slice ad m.ents.length cp)) 35) := fun w => Blk.new _ _ _
  have SBw := HMC.out w
  have hc := SBw.cellAt (i := 0) rfl
  unfold Msg.cells at HMC HfB SBw ⊢
  generalize m.ents.any (fun e => !e.ok) = bad at *
  generalize m.ents.length = n at *
  go_enter Try.func38, Try.ntmps38
  go_wp2_with (first | (go_at_call 49; refine (HF.out _).mono ?_; rintro r w2 ⟨rfl, g2⟩))
  have SB := Lib.hid (SBw.fr0 g2)
  have HF0 : Hid (Fr [] w w2) := ((Fr.refl _ _).alloc _).trans0 g2
  have HV2 := Lib.hid (HV.out.fr0 HF0.out)
  clear g2 HF SBw hc
  generalize w.heap.size = bx at *
  obtain ⟨c1, c2, c4, c5, c6, c7, c8, c9, c10⟩ := HfB.out _ _ _ SB.out
  refine wp_region_held_drew (S := (fun w' => w'.cell? ⟨bx, 1, none⟩ = some (.int .i64 m.sent) ∧ w'.cell? ⟨bx, 2, none⟩ = some (.int .i64 m.goal) ∧ w'.cell? ⟨bx, 4, none⟩ = some (.int .u64 m.index) ∧ w'.cell? ⟨bx, 5, none⟩ = some (.int .u64 m.prev) ∧ w'.cell? ⟨bx, 6, none⟩ = some (.int .u64 m.commit) ∧ w'.cell? ⟨bx, 7, none⟩ = some (.int .u64 m.mark) ∧ w'.cell? ⟨bx, 8, none⟩ = some (.bool m.yes) ∧ w'.cell? ⟨bx, 9, none⟩ = some (.slice ad n cp) ∧ w'.cell? ⟨bx, 10, none⟩ = some (.string m.snap))) (by kernel_rfl) ?_ (fun hHeld => ?_)
  · go_keep
  refine' wpAnyH_take (i := 0) ?_ ?_ ?_ ?_ ?_ ?_ ?_ ?_
  rotate_left 2
  · (simp only [lg0, lg1, lg2]; rfl)
  · kernel_rfl
  · decide +kernel
  · decide +kernel
  · exact fun _ _ _ h => h
  · (refine Or.inl ⟨by kernel_rfl, ?_⟩; intro w hSw; (try dsimp only at hSw); go_simp; first | done | with_reducible rfl)
  · assumption
  simp only [Act.put, lt0', lt1', lt2']
  refine' wpAnyH_take (i := 1) ?_ ?_ ?_ ?_ ?_ ?_ ?_ ?_
  rotate_left 2
  · (simp only [lg0, lg1, lg2]; rfl)
  · kernel_rfl
  · decide +kernel
  · decide +kernel
  · exact fun _ _ _ h => h
  · (refine Or.inl ⟨by kernel_rfl, ?_⟩; intro w hSw; (try dsimp only at hSw); go_simp; first | done | with_reducible rfl)
  · assumption
  simp only [Act.put, lt0', lt1', lt2']
  refine' wpAnyH_take (i := 2) ?_ ?_ ?_ ?_ ?_ ?_ ?_ ?_
  rotate_left 2
  · (simp only [lg0, lg1, lg2]; rfl)
  · kernel_rfl
  · decide +kernel
  · decide +kernel
  · exact fun _ _ _ h => h
  · (refine Or.inl ⟨by kernel_rfl, ?_⟩; intro w hSw; (try dsimp only at hSw); go_simp; first | done | with_reducible rfl)
  · assumption
  simp only [Act.put, lt0', lt1', lt2']
  refine' wpAnyH_take (i := 3) ?_ ?_ ?_ ?_ ?_ ?_ ?_ ?_
  rotate_left 2
  · (simp only [lg0, lg1, lg2]; rfl)
  · kernel_rfl
  · decide +kernel
  · decide +kernel
  · exact fun _ _ _ h => h
  · (refine Or.inl ⟨by kernel_rfl, ?_⟩; intro w hSw; (try dsimp only at hSw); go_simp; first | done | with_reducible rfl)
  · assumption
  simp only [Act.put, lt0', lt1', lt2']
  refine wpAnyH_ready (rs := [4]) (by kernel_rfl) (by simp) ?_
  refine AllReadyH.cons (by simp only [lg0, lg1, lg2]; rfl) (fun K hK => ?_) AllReadyH.nil
  go_simp
  (go_at_call 50; refine (HN1.out _).mono ?_; rintro r w' ⟨rfl, rfl⟩)
  refine hK.out _ _ ?_ (fun hHeld2 => ?_)
  · assumption
  clear hK K
  try simp only [Act.put, lt0', lt1', lt2']
  refine' wpAnyH_take (i := 5) ?_ ?_ ?_ ?_ ?_ ?_ ?_ ?_
  rotate_left 2
  · (simp only [lg0, lg1, lg2]; rfl)
  · kernel_rfl
  · decide +kernel
  · decide +kernel
  · exact fun _ _ _ h => h
  · (refine Or.inl ⟨by kernel_rfl, ?_⟩; intro w hSw; (try dsimp only at hSw); go_simp; first | done | with_reducible rfl)
  · assumption
  simp only [Act.put, lt0', lt1', lt2']
  refine' wpAnyH_take (i := 6) ?_ ?_ ?_ ?_ ?_ ?_ ?_ ?_
  rotate_left 2
  · (simp only [lg0, lg1, lg2]; rfl)
  · kernel_rfl
  · decide +kernel
  · decide +kernel
  · exact fun _ _ _ h => h
  · (refine Or.inl ⟨by kernel_rfl, ?_⟩; intro w hSw; (try dsimp only at hSw); go_simp; first | done | with_reducible rfl)
  · assumption
  simp only [Act.put, lt0', lt1', lt2']
  refine' wpAnyH_take (i := 7) ?_ ?_ ?_ ?_ ?_ ?_ ?_ ?_
  rotate_left 2
  · (simp only [lg0, lg1, lg2]; rfl)
  · kernel_rfl
  · decide +kernel
  · decide +kernel
  · exact fun _ _ _ h => h
  · (refine Or.inl ⟨by kernel_rfl, ?_⟩; intro w hSw; (try dsimp only at hSw); go_simp; first | done | with_reducible rfl)
  · assumption
  simp only [Act.put, lt0', lt1', lt2']
  refine' wpAnyH_take (i := 8) ?_ ?_ ?_ ?_ ?_ ?_ ?_ ?_
  rotate_left 2
  · (simp only [lg0, lg1, lg2]; rfl)
  · kernel_rfl
  · decide +kernel
  · decide +kernel
  · exact fun _ _ _ h => h
  · (refine Or.inl ⟨by kernel_rfl, ?_⟩; intro w hSw; (try dsimp only at hSw); go_simp; first | done | with_reducible rfl)
  · assumption
  simp only [Act.put, lt0', lt1', lt2']
  refine wpAnyH_ready (rs := [9]) (by kernel_rfl) (by simp) ?_
  refine AllReadyH.cons (by simp only [lg0, lg1, lg2]; rfl) (fun K hK => ?_) AllReadyH.nil
  go_simp
  (go_at_call 50; refine (HN2.out _).mono ?_; rintro r w' ⟨rfl, rfl⟩)
  refine hK.out _ _ ?_ (fun hHeld2 => ?_)
  · assumption
  clear hK K
  try simp only [Act.put, lt0', lt1', lt2']
  refine' wpAnyH_take (i := 10) ?_ ?_ ?_ ?_ ?_ ?_ ?_ ?_
  rotate_left 2
  · (simp only [lg0, lg1, lg2]; rfl)
  · kernel_rfl
  · decide +kernel
  · decide +kernel
  · exact fun _ _ _ h => h
  · (refine Or.inl ⟨by kernel_rfl, ?_⟩; intro w hSw; (try dsimp only at hSw); go_simp; first | done | with_reducible rfl)
  · assumption
  simp only [Act.put, lt0', lt1', lt2']
  refine' wpAnyH_take (i := 11) ?_ ?_ ?_ ?_ ?_ ?_ ?_ ?_
  rotate_left 2
  · (simp only [lg0, lg1, lg2]; rfl)
  · kernel_rfl
  · decide +kernel
  · decide +kernel
  · exact fun _ _ _ h => h
  · (refine Or.inl ⟨by kernel_rfl, ?_⟩; intro w hSw; (try dsimp only at hSw); go_simp; first | done | with_reducible rfl)
  · assumption
  simp only [Act.put, lt0', lt1', lt2']
  refine' wpAnyH_take (i := 12) ?_ ?_ ?_ ?_ ?_ ?_ ?_ ?_
  rotate_left 2
  · (simp only [lg0, lg1, lg2]; rfl)
  · kernel_rfl
  · decide +kernel
  · decide +kernel
  · exact fun _ _ _ h => h
  · (refine Or.inl ⟨by kernel_rfl, ?_⟩; intro w hSw; (try dsimp only at hSw); go_simp; first | done | with_reducible rfl)
  · assumption
  simp only [Act.put, lt0', lt1', lt2']
  refine' wpAnyH_take (i := 13) ?_ ?_ ?_ ?_ ?_ ?_ ?_ ?_
  rotate_left 2
  · (simp only [lg0, lg1, lg2]; rfl)
  · kernel_rfl
  · decide +kernel
  · decide +kernel
  · exact fun _ _ _ h => h
  · (refine Or.inl ⟨by kernel_rfl, ?_⟩; intro w hSw; (try dsimp only at hSw); go_simp; first | done | with_reducible rfl)
  · assumption
  simp only [Act.put, lt0', lt1', lt2']
  refine' wpAnyH_take (i := 14) ?_ ?_ ?_ ?_ ?_ ?_ ?_ ?_
  rotate_left 2
  · (simp only [lg0, lg1, lg2]; rfl)
  · kernel_rfl
  · decide +kernel
  · decide +kernel
  · exact fun _ _ _ h => h
  · (refine Or.inl ⟨by kernel_rfl, ?_⟩; intro w hSw; (try dsimp only at hSw); go_simp; first | done | with_reducible rfl)
  · assumption
  simp only [Act.put, lt0', lt1', lt2']
  refine' wpAnyH_take (i := 15) ?_ ?_ ?_ ?_ ?_ ?_ ?_ ?_
  rotate_left 2
  · (simp only [lg0, lg1, lg2]; rfl)
  · kernel_rfl
  · decide +kernel
  · decide +kernel
  · exact fun _ _ _ h => h
  · (refine Or.inl ⟨by kernel_rfl, ?_⟩; intro w hSw; (try dsimp only at hSw); go_simp; first | done | with_reducible rfl)
  · assumption
  simp only [Act.put, lt0', lt1', lt2']
  refine' wpAnyH_take (i := 16) ?_ ?_ ?_ ?_ ?_ ?_ ?_ ?_
  rotate_left 2
  · (simp only [lg0, lg1, lg2]; rfl)
  · kernel_rfl
  · decide +kernel
  · decide +kernel
  · exact fun _ _ _ h => h
  · (refine Or.inl ⟨by kernel_rfl, ?_⟩; intro w hSw; (try dsimp only at hSw); go_simp; first | done | with_reducible rfl)
  · assumption
  simp only [Act.put, lt0', lt1', lt2']
  refine' wpAnyH_take (i := 17) ?_ ?_ ?_ ?_ ?_ ?_ ?_ ?_
  rotate_left 2
  · (simp only [lg0, lg1, lg2]; rfl)
  · kernel_rfl
  · decide +kernel
  · decide +kernel
  · exact fun _ _ _ h => h
  · (refine Or.inl ⟨by kernel_rfl, ?_⟩; intro w hSw; (try dsimp only at hSw); go_simp; first | done | with_reducible rfl)
  · assumption
  simp only [Act.put, lt0', lt1', lt2']
  refine' wpAnyH_take (i := 18) ?_ ?_ ?_ ?_ ?_ ?_ ?_ ?_
  rotate_left 2
  · (simp only [lg0, lg1, lg2]; rfl)
  · kernel_rfl
  · decide +kernel
  · decide +kernel
  · exact fun _ _ _ h => h
  · (refine Or.inl ⟨by kernel_rfl, ?_⟩; intro w hSw; (try dsimp only at hSw); go_simp; first | done | with_reducible rfl)
  · assumption
  simp only [Act.put, lt0', lt1', lt2']
  refine' wpAnyH_take (i := 19) ?_ ?_ ?_ ?_ ?_ ?_ ?_ ?_
  rotate_left 2
  · (simp only [lg0, lg1, lg2]; rfl)
  · kernel_rfl
  · decide +kernel
  · decide +kernel
  · exact fun _ _ _ h => h
  · (refine Or.inl ⟨by kernel_rfl, ?_⟩; intro w hSw; (try dsimp only at hSw); go_simp; first | done | with_reducible rfl)
  · assumption
  simp only [Act.put, lt0', lt1', lt2']
  refine' wpAnyH_take (i := 20) ?_ ?_ ?_ ?_ ?_ ?_ ?_ ?_
  rotate_left 2
  · (simp only [lg0, lg1, lg2]; rfl)
  · kernel_rfl
  · decide +kernel
  · decide +kernel
  · exact fun _ _ _ h => h
  · (refine Or.inl ⟨by kernel_rfl, ?_⟩; intro w hSw; (try dsimp only at hSw); go_simp; first | done | with_reducible rfl)
  · assumption
  simp only [Act.put, lt0', lt1', lt2']
  refine' wpAnyH_take (i := 21) ?_ ?_ ?_ ?_ ?_ ?_ ?_ ?_
  rotate_left 2
  · (simp only [lg0, lg1, lg2]; rfl)
  · kernel_rfl
  · decide +kernel
  · decide +kernel
  · exact fun _ _ _ h => h
  · (refine Or.inl ⟨by kernel_rfl, ?_⟩; intro w hSw; (try dsimp only at hSw); go_simp; first | done | with_reducible rfl)
  · assumption
  simp only [Act.put, lt0', lt1', lt2']
  refine' wpAnyH_take (i := 22) ?_ ?_ ?_ ?_ ?_ ?_ ?_ ?_
  rotate_left 2
  · (simp only [lg0, lg1, lg2]; rfl)
  · kernel_rfl
  · decide +kernel
  · decide +kernel
  · exact fun _ _ _ h => h
  · (refine Or.inl ⟨by kernel_rfl, ?_⟩; intro w hSw; (try dsimp only at hSw); go_simp; first | done | with_reducible rfl)
  · assumption
  simp only [Act.put, lt0', lt1', lt2']
  refine' wpAnyH_take (i := 23) ?_ ?_ ?_ ?_ ?_ ?_ ?_ ?_
  rotate_left 2
  · (simp only [lg0, lg1, lg2]; rfl)
  · kernel_rfl
  · decide +kernel
  · decide +kernel
  · exact fun _ _ _ h => h
  · (refine Or.inl ⟨by kernel_rfl, ?_⟩; intro w hSw; (try dsimp only at hSw); go_simp; first | done | with_reducible rfl)
  · assumption
  simp only [Act.put, lt0', lt1', lt2']
  refine' wpAnyH_take (i := 24) ?_ ?_ ?_ ?_ ?_ ?_ ?_ ?_
  rotate_left 2
  · (simp only [lg0, lg1, lg2]; rfl)
  · kernel_rfl
  · decide +kernel
  · decide +kernel
  · exact fun _ _ _ h => h
  · (refine Or.inl ⟨by kernel_rfl, ?_⟩; intro w hSw; (try dsimp only at hSw); go_simp; first | done | with_reducible rfl)
  · assumption
  simp only [Act.put, lt0', lt1', lt2']
  refine' wpAnyH_take (i := 25) ?_ ?_ ?_ ?_ ?_ ?_ ?_ ?_
  rotate_left 2
  · (simp only [lg0, lg1, lg2]; rfl)
  · kernel_rfl
  · decide +kernel
  · decide +kernel
  · exact fun _ _ _ h => h
  · (refine Or.inl ⟨by kernel_rfl, ?_⟩; intro w hSw; (try dsimp only at hSw); go_simp; first | done | with_reducible rfl)
  · assumption
  simp only [Act.put, lt0', lt1', lt2']
  refine' wpAnyH_take (i := 26) ?_ ?_ ?_ ?_ ?_ ?_ ?_ ?_
  rotate_left 2
  · (simp only [lg0, lg1, lg2]; rfl)
  · kernel_rfl
  · decide +kernel
  · decide +kernel
  · exact fun _ _ _ h => h
  · (refine Or.inl ⟨by kernel_rfl, ?_⟩; intro w hSw; (try dsimp only at hSw); go_simp; first | done | with_reducible rfl)
  · assumption
  simp only [Act.put, lt0', lt1', lt2']
  refine' wpAnyH_take (i := 27) ?_ ?_ ?_ ?_ ?_ ?_ ?_ ?_
  rotate_left 2
  · (simp only [lg0, lg1, lg2]; rfl)
  · kernel_rfl
  · decide +kernel
  · decide +kernel
  · exact fun _ _ _ h => h
  · (refine Or.inl ⟨by kernel_rfl, ?_⟩; intro w hSw; (try dsimp only at hSw); go_simp; first | done | with_reducible rfl)
  · assumption
  simp only [Act.put, lt0', lt1', lt2']
  refine' wpAnyH_take (i := 28) ?_ ?_ ?_ ?_ ?_ ?_ ?_ ?_
  rotate_left 2
  · (simp only [lg0, lg1, lg2]; rfl)
  · kernel_rfl
  · decide +kernel
  · decide +kernel
  · exact fun _ _ _ h => h
  · (refine Or.inl ⟨by kernel_rfl, ?_⟩; intro w hSw; (try dsimp only at hSw); go_simp; first | done | with_reducible rfl)
  · assumption
  simp only [Act.put, lt0', lt1', lt2']
  refine' wpAnyH_take (i := 29) ?_ ?_ ?_ ?_ ?_ ?_ ?_ ?_
  rotate_left 2
  · (simp only [lg0, lg1, lg2]; rfl)
  · kernel_rfl
  · decide +kernel
  · decide +kernel
  · exact fun _ _ _ h => h
  · (refine Or.inl ⟨by kernel_rfl, ?_⟩; intro w hSw; (try dsimp only at hSw); go_simp; first | done | with_reducible rfl)
  · assumption
  simp only [Act.put, lt0', lt1', lt2']
  refine' wpAnyH_take (i := 30) ?_ ?_ ?_ ?_ ?_ ?_ ?_ ?_
  rotate_left 2
  · (simp only [lg0, lg1, lg2]; rfl)
  · kernel_rfl
  · decide +kernel
  · decide +kernel
  · exact fun _ _ _ h => h
  · (refine Or.inl ⟨by kernel_rfl, ?_⟩; intro w hSw; (try dsimp only at hSw); go_simp; first | done | with_reducible rfl)
  · assumption
  simp only [Act.put, lt0', lt1', lt2']
  refine' wpAnyH_take (i := 31) ?_ ?_ ?_ ?_ ?_ ?_ ?_ ?_
  rotate_left 2
  · (simp only [lg0, lg1, lg2]; rfl)
  · kernel_rfl
  · decide +kernel
  · decide +kernel
  · exact fun _ _ _ h => h
  · (refine Or.inl ⟨by kernel_rfl, ?_⟩; intro w hSw; (try dsimp only at hSw); go_simp; first | done | with_reducible rfl)
  · assumption
  simp only [Act.put, lt0', lt1', lt2']
  refine' wpAnyH_take (i := 32) ?_ ?_ ?_ ?_ ?_ ?_ ?_ ?_
  rotate_left 2
  · (simp only [lg0, lg1, lg2]; rfl)
  · kernel_rfl
  · decide +kernel
  · decide +kernel
  · exact fun _ _ _ h => h
  · (refine Or.inl ⟨by kernel_rfl, ?_⟩; intro w hSw; (try dsimp only at hSw); go_simp; first | done | with_reducible rfl)
  · assumption
  simp only [Act.put, lt0', lt1', lt2']
  refine' wpAnyH_take (i := 33) ?_ ?_ ?_ ?_ ?_ ?_ ?_ ?_
  rotate_left 2
  · (simp only [lg0, lg1, lg2]; rfl)
  · kernel_rfl
  · decide +kernel
  · decide +kernel
  · exact fun _ _ _ h => h
  · (refine Or.inl ⟨by kernel_rfl, ?_⟩; intro w hSw; (try dsimp only at hSw); go_simp; first | done | with_reducible rfl)
  · assumption
  simp only [Act.put, lt0', lt1', lt2']
  refine' wpAnyH_take (i := 34) ?_ ?_ ?_ ?_ ?_ ?_ ?_ ?_
  rotate_left 2
  · (simp only [lg0, lg1, lg2]; rfl)
  · kernel_rfl
  · decide +kernel
  · decide +kernel
  · exact fun _ _ _ h => h
  · (refine Or.inl ⟨by kernel_rfl, ?_⟩; intro w hSw; (try dsimp only at hSw); go_simp; first | done | with_reducible rfl)
  · assumption
  simp only [Act.put, lt0', lt1', lt2']
  refine' wpAnyH_take (i := 35) ?_ ?_ ?_ ?_ ?_ ?_ ?_ ?_
  rotate_left 2
  · (simp only [lg0, lg1, lg2]; rfl)
  · kernel_rfl
  · decide +kernel
  · decide +kernel
  · exact fun _ _ _ h => h
  · (refine Or.inl ⟨by kernel_rfl, ?_⟩; intro w hSw; (try dsimp only at hSw); go_simp; first | done | with_reducible rfl)
  · assumption
  simp only [Act.put, lt0', lt1', lt2']
  refine' wpAnyH_take (i := 36) ?_ ?_ ?_ ?_ ?_ ?_ ?_ ?_
  rotate_left 2
  · (simp only [lg0, lg1, lg2]; rfl)
  · kernel_rfl
  · decide +kernel
  · decide +kernel
  · exact fun _ _ _ h => h
  · (refine Or.inl ⟨by kernel_rfl, ?_⟩; intro w hSw; (try dsimp only at hSw); go_simp; first | done | with_reducible rfl)
  · assumption
  simp only [Act.put, lt0', lt1', lt2']
  refine' wpAnyH_take (i := 37) ?_ ?_ ?_ ?_ ?_ ?_ ?_ ?_
  rotate_left 2
  · (simp only [lg0, lg1, lg2]; rfl)
  · kernel_rfl
  · decide +kernel
  · decide +kernel
  · exact fun _ _ _ h => h
  · (refine Or.inl ⟨by kernel_rfl, ?_⟩; intro w hSw; (try dsimp only at hSw); go_simp; first | done | with_reducible rfl)
  · assumption
  simp only [Act.put, lt0', lt1', lt2']
  refine' wpAnyH_take (i := 38) ?_ ?_ ?_ ?_ ?_ ?_ ?_ ?_
  rotate_left 2
  · (simp only [lg0, lg1, lg2]; rfl)
  · kernel_rfl
  · decide +kernel
  · decide +kernel
  · exact fun _ _ _ h => h
  · (refine Or.inl ⟨by kernel_rfl, ?_⟩; intro w hSw; (try dsimp only at hSw); go_simp; first | done | with_reducible rfl)
  · assumption
  simp only [Act.put, lt0', lt1', lt2']
  refine' wpAnyH_take (i := 39) ?_ ?_ ?_ ?_ ?_ ?_ ?_ ?_
  rotate_left 2
  · (simp only [lg0, lg1, lg2]; rfl)
  · kernel_rfl
  · decide +kernel
  · decide +kernel
  · exact fun _ _ _ h => h
  · (refine Or.inl ⟨by kernel_rfl, ?_⟩; intro w hSw; (try dsimp only at hSw); go_simp; first | done | with_reducible rfl)
  · assumption
  simp only [Act.put, lt0', lt1', lt2']
  refine' wpAnyH_take (i := 40) ?_ ?_ ?_ ?_ ?_ ?_ ?_ ?_
  rotate_left 2
  · (simp only [lg0, lg1, lg2]; rfl)
  · kernel_rfl
  · decide +kernel
  · decide +kernel
  · exact fun _ _ _ h => h
  · (refine Or.inl ⟨by kernel_rfl, ?_⟩; intro w hSw; (try dsimp only at hSw); go_simp; first | done | with_reducible rfl)
  · assumption
  simp only [Act.put, lt0', lt1', lt2']
  refine' wpAnyH_take (i := 41) ?_ ?_ ?_ ?_ ?_ ?_ ?_ ?_
  rotate_left 2
  · (simp only [lg0, lg1, lg2]; rfl)
  · kernel_rfl
  · decide +kernel
  · decide +kernel
  · exact fun _ _ _ h => h
  · exact Or.inr ⟨by kernel_rfl, rfl⟩
  · assumption
  simp only [Act.put, lt0', lt1', lt2']
  refine' wpAnyH_take (i := 42) ?_ ?_ ?_ ?_ ?_ ?_ ?_ ?_
  rotate_left 2
  · (simp only [lg0, lg1, lg2]; rfl)
  · kernel_rfl
  · decide +kernel
  · decide +kernel
  · exact fun _ _ _ h => h
  · exact Or.inr ⟨by kernel_rfl, rfl⟩
  · assumption
  simp only [Act.put, lt0', lt1', lt2']
  refine' wpAnyH_take (i := 43) ?_ ?_ ?_ ?_ ?_ ?_ ?_ ?_
  rotate_left 2
  · (simp only [lg0, lg1, lg2]; rfl)
  · kernel_rfl
  · decide +kernel
  · decide +kernel
  · exact fun _ _ _ h => h
  · exact Or.inr ⟨by kernel_rfl, rfl⟩
  · assumption
  simp only [Act.put, lt0', lt1', lt2']
  refine' wpAnyH_take (i := 44) ?_ ?_ ?_ ?_ ?_ ?_ ?_ ?_
  rotate_left 2
  · (simp only [lg0, lg1, lg2]; rfl)
  · kernel_rfl
  · decide +kernel
  · decide +kernel
  · exact fun _ _ _ h => h
  · exact Or.inr ⟨by kernel_rfl, rfl⟩
  · assumption
  simp only [Act.put, lt0', lt1', lt2']
  refine' wpAnyH_take (i := 45) ?_ ?_ ?_ ?_ ?_ ?_ ?_ ?_
  rotate_left 2
  · (simp only [lg0, lg1, lg2]; rfl)
  · kernel_rfl
  · decide +kernel
  · decide +kernel
  · exact fun _ _ _ h => h
  · (refine Or.inl ⟨by kernel_rfl, ?_⟩; intro w hSw; (try dsimp only at hSw); go_simp; first | done | with_reducible rfl)
  · assumption
  simp only [Act.put, lt0', lt1', lt2']
  refine' wpAnyH_take (i := 46) ?_ ?_ ?_ ?_ ?_ ?_ ?_ ?_
  rotate_left 2
  · (simp only [lg0, lg1, lg2]; rfl)
  · kernel_rfl
  · decide +kernel
  · decide +kernel
  · exact fun _ _ _ h => h
  · (refine Or.inl ⟨by kernel_rfl, ?_⟩; intro w hSw; (try dsimp only at hSw); go_simp; first | done | with_reducible rfl)
  · assumption
  simp only [Act.put, lt0', lt1', lt2']
  refine' wpAnyH_take (i := 47) ?_ ?_ ?_ ?_ ?_ ?_ ?_ ?_
  rotate_left 2
  · (simp only [lg0, lg1, lg2]; rfl)
  · kernel_rfl
  · decide +kernel
  · decide +kernel
  · exact fun _ _ _ h => h
  · (refine Or.inl ⟨by kernel_rfl, ?_⟩; intro w hSw; (try dsimp only at hSw); go_simp; first | done | with_reducible rfl)
  · assumption
  simp only [Act.put, lt0', lt1', lt2']
  refine' wpAnyH_take (i := 48) ?_ ?_ ?_ ?_ ?_ ?_ ?_ ?_
  rotate_left 2
  · (simp only [lg0, lg1, lg2]; rfl)
  · kernel_rfl
  · decide +kernel
  · decide +kernel
  · exact fun _ _ _ h => h
  · (refine Or.inl ⟨by kernel_rfl, ?_⟩; intro w hSw; (try dsimp only at hSw); go_simp; first | done | with_reducible rfl)
  · assumption
  simp only [Act.put, lt0', lt1', lt2']
  refine' wpAnyH_take (i := 49) ?_ ?_ ?_ ?_ ?_ ?_ ?_ ?_
  rotate_left 2
  · (simp only [lg0, lg1, lg2]; rfl)
  · kernel_rfl
  · decide +kernel
  · decide +kernel
  · exact fun _ _ _ h => h
  · (refine Or.inl ⟨by kernel_rfl, ?_⟩; intro w hSw; (try dsimp only at hSw); go_simp; first | done | with_reducible rfl)
  · assumption
  simp only [Act.put, lt0', lt1', lt2']
  refine' wpAnyH_take (i := 50) ?_ ?_ ?_ ?_ ?_ ?_ ?_ ?_
  rotate_left 2
  · (simp only [lg0, lg1, lg2]; rfl)
  · kernel_rfl
  · decide +kernel
  · decide +kernel
  · exact fun _ _ _ h => h
  · (refine Or.inl ⟨by kernel_rfl, ?_⟩; intro w hSw; (try dsimp only at hSw); go_simp; first | done | with_reducible rfl)
  · assumption
  simp only [Act.put, lt0', lt1', lt2']
  refine' wpAnyH_take (i := 51) ?_ ?_ ?_ ?_ ?_ ?_ ?_ ?_
  rotate_left 2
  · (simp only [lg0, lg1, lg2]; rfl)
  · kernel_rfl
  · decide +kernel
  · decide +kernel
  · exact fun _ _ _ h => h
  · (refine Or.inl ⟨by kernel_rfl, ?_⟩; intro w hSw; (try dsimp only at hSw); go_simp; first | done | with_reducible rfl)
  · assumption
  simp only [Act.put, lt0', lt1', lt2']
  refine' wpAnyH_take (i := 52) ?_ ?_ ?_ ?_ ?_ ?_ ?_ ?_
  rotate_left 2
  · (simp only [lg0, lg1, lg2]; rfl)
  · kernel_rfl
  · decide +kernel
  · decide +kernel
  · exact fun _ _ _ h => h
  · (refine Or.inl ⟨by kernel_rfl, ?_⟩; intro w hSw; (try dsimp only at hSw); go_simp; first | done | with_reducible rfl)
  · assumption
  simp only [Act.put, lt0', lt1', lt2']
  refine' wpAnyH_take (i := 53) ?_ ?_ ?_ ?_ ?_ ?_ ?_ ?_
  rotate_left 2
  · (simp only [lg0, lg1, lg2]; rfl)
  · kernel_rfl
  · decide +kernel
  · decide +kernel
  · exact fun _ _ _ h => h
  · (refine Or.inl ⟨by kernel_rfl, ?_⟩; intro w hSw; (try dsimp only at hSw); go_simp; first | done | with_reducible rfl)
  · assumption
  simp only [Act.put, lt0', lt1', lt2']
  refine' wpAnyH_take (i := 54) ?_ ?_ ?_ ?_ ?_ ?_ ?_ ?_
  rotate_left 2
  · (simp only [lg0, lg1, lg2]; rfl)
  · kernel_rfl
  · decide +kernel
  · decide +kernel
  · exact fun _ _ _ h => h
  · (refine Or.inl ⟨by kernel_rfl, ?_⟩; intro w hSw; (try dsimp only at hSw); go_simp; first | done | with_reducible rfl)
  · assumption
  simp only [Act.put, lt0', lt1', lt2']
  refine wpAnyH_ready (rs := [55]) (by kernel_rfl) (by simp) ?_
  refine AllReadyH.cons (by simp only [lg0, lg1, lg2]; rfl) (fun K hK => ?_) AllReadyH.nil
  go_simp
  skip
  refine hK.out _ _ ?_ (fun hHeld2 => ?_)
  · go_keep
  clear hK K
  try simp only [Act.put, lt0', lt1', lt2']
  refine wpAnyH_ready (rs := [56]) (by kernel_rfl) (by simp) ?_
  refine AllReadyH.cons (by simp only [lg0, lg1, lg2]; rfl) (fun K hK => ?_) AllReadyH.nil
  go_simp
  (go_at_call 51; refine (eFitM may _ _ _ _ _ _ _ _ _ w2.drew).mono ?_; rintro r w4 ⟨rfl, g4⟩; have SB3 := Lib.hid (Blk.fr0 (Blk.drew (Blk.alloc SB.out _)) g4))
  refine hK.out _ _ ?_ (fun hHeld2 => ?_)
  · exact HfB.out _ _ _ SB3.out
  clear hK K
  try simp only [Act.put, lt0', lt1', lt2']
  refine' wpAnyH_take (i := 57) ?_ ?_ ?_ ?_ ?_ ?_ ?_ ?_
  rotate_left 2
  · (simp only [lg0, lg1, lg2]; rfl)
  · kernel_rfl
  · decide +kernel
  · decide +kernel
  · exact fun _ _ _ h => h
  · (refine Or.inl ⟨by kernel_rfl, ?_⟩; intro w hSw; (try dsimp only at hSw); go_simp; first | done | with_reducible rfl)
  · assumption
  simp only [Act.put, lt0', lt1', lt2']
  refine' wpAnyH_take (i := 58) ?_ ?_ ?_ ?_ ?_ ?_ ?_ ?_
  rotate_left 2
  · (simp only [lg0, lg1, lg2]; rfl)
  · kernel_rfl
  · decide +kernel
  · decide +kernel
  · exact fun _ _ _ h => h
  · (refine Or.inl ⟨by kernel_rfl, ?_⟩; intro w hSw; (try dsimp only at hSw); go_simp; first | done | with_reducible rfl)
  · assumption
  simp only [Act.put, lt0', lt1', lt2']
  refine wpAnyH_done (by kernel_rfl) ?_ _
  go_wp2_with fail
  go_ret
  exact ⟨rfl, ((HF0.out.alloc _).drew).trans0 g4⟩
end Go.Proofs.Ytacdbglocpaeaaa

namespace Go.Proofs.Ytacdbglocpaeaaa
open List renaming getElem?_toArray → lg0, getElem?_cons_succ → lg1, getElem?_cons_zero → lg2, setIfInBounds_toArray → lt0', set_cons_zero → lt1', set_cons_succ → lt2'
open Go.RowKit

set_option maxRecDepth 100000 in
set_option maxHeartbeats 8000000 in
theorem eMr3 (m : Msg) (v : Value) (w : World) (hf : m.Fits) (hv : Ents w v m.ents) (hok : (msgMay m.kind).2 = false) :
    Calls Try.prog 38 #[.agg (m.cells v)] w fun r w' => r = .returned (.bool m.ok) ∧ Fr [] w w' := by
  have HF := Lib.hid (eMsgFields m.kind)
  have HA := Lib.hid (fun w1 (hv : Ents w1 v m.ents) => eAnyBad m v w1 hf hv)
  have HV := Lib.hid hv
  obtain ⟨ad, cp, rfl⟩ := hv.shape
  have Hok : Hid (m.ok = false) := by unfold Msg.ok; rw [hok]; rfl
  rw [Hok.out]
  have HfB := Lib.hid (fun w bx t (h : Blk w bx (m.cells (.slice ad m.ents.length cp)) t) => msgS h)
  obtain ⟨hT, hI, hP, hC, hK, hE, hM, hS⟩ := hf
  unfold U64 at *
  clear Hok hv hE
  generalize msgMay m.kind = xx at *
  obtain ⟨may, kok⟩ := xx
  obtain rfl : kok = false := hok
  have HMC : Hid (∀ w : World, Blk (w.alloc (.cells (m.cells (.slice ad m.ents.length cp)) 35)) w.heap.size (m.cells (.slice ad m.ents.length cp)) 35) := fun w => Blk.new _ _ _
  have SBw := HMC.out w
  have hc := SBw.cellAt (i := 0) rfl
  unfold Msg.cells at HMC HfB SBw ⊢
  clear HA
  generalize m.ents.length = n at *
  go_enter Try.func38, Try.ntmps38
  go_wp2_with (first | (go_at_call 49; refine (HF.out _).mono ?_; rintro r w2 ⟨rfl, g2⟩))
  have SB := Lib.hid (SBw.fr0 g2)
  have HF0 : Hid (Fr [] w w2) := ((Fr.refl _ _).alloc _).trans0 g2
  have HV2 := Lib.hid (HV.out.fr0 HF0.out)
  clear g2 HF SBw hc
  generalize w.heap.size = bx at *
  obtain ⟨c1, c2, c4, c5, c6, c7, c8, c9, c10⟩ := HfB.out _ _ _ SB.out
  refine wp_region_held_drew (S := (fun w' => w'.cell? ⟨bx, 1, none⟩ = some (.int .i64 m.sent) ∧ w'.cell? ⟨bx, 2, none⟩ = some (.int .i64 m.goal) ∧ w'.cell? ⟨bx, 4, none⟩ = some (.int .u64 m.index) ∧ w'.cell? ⟨bx, 5, none⟩ = some (.int .u64 m.prev) ∧ w'.cell? ⟨bx, 6, none⟩ = some (.int .u64 m.commit) ∧ w'.cell? ⟨bx, 7, none⟩ = some (.int .u64 m.mark) ∧ w'.cell? ⟨bx, 8, none⟩ = some (.bool m.yes) ∧ w'.cell? ⟨bx, 9, none⟩ = some (.slice ad n cp) ∧ w'.cell? ⟨bx, 10, none⟩ = some (.string m.snap))) (by kernel_rfl) ?_ (fun hHeld => ?_)
  · go_keep
  refine' wpAnyH_take (i := 0) ?_ ?_ ?_ ?_ ?_ ?_ ?_ ?_
  rotate_left 2
  · (simp only [lg0, lg1, lg2]; rfl)
  · kernel_rfl
  · decide +kernel
  · decide +kernel
  · exact fun _ _ _ h => h
  · (refine Or.inl ⟨by kernel_rfl, ?_⟩; intro w hSw; (try dsimp only at hSw); go_simp; first | done | with_reducible rfl)
  · assumption
  simp only [Act.put, lt0', lt1', lt2']
  refine' wpAnyH_take (i := 1) ?_ ?_ ?_ ?_ ?_ ?_ ?_ ?_
  rotate_left 2
  · (simp only [lg0, lg1, lg2]; rfl)
  · kernel_rfl
  · decide +kernel
  · decide +kernel
  · exact fun _ _ _ h => h
  · (refine Or.inl ⟨by kernel_rfl, ?_⟩; intro w hSw; (try dsimp only at hSw); go_simp; first | done | with_reducible rfl)
  · assumption
  simp only [Act.put, lt0', lt1', lt2']
  refine' wpAnyH_take (i := 2) ?_ ?_ ?_ ?_ ?_ ?_ ?_ ?_
  rotate_left 2
  · (simp only [lg0, lg1, lg2]; rfl)
  · kernel_rfl
  · decide +kernel
  · decide +kernel
  · exact fun _ _ _ h => h
  · exact Or.inr ⟨by kernel_rfl, rfl⟩
  · assumption
  simp only [Act.put, lt0', lt1', lt2']
  refine' wpAnyH_take (i := 3) ?_ ?_ ?_ ?_ ?_ ?_ ?_ ?_
  rotate_left 2
  · (simp only [lg0, lg1, lg2]; rfl)
  · kernel_rfl
  · decide +kernel
  · decide +kernel
  · exact fun _ _ _ h => h
  · exact Or.inr ⟨by kernel_rfl, rfl⟩
  · assumption
  simp only [Act.put, lt0', lt1', lt2']
  refine' wpAnyH_take (i := 4) ?_ ?_ ?_ ?_ ?_ ?_ ?_ ?_
  rotate_left 2
  · (simp only [lg0, lg1, lg2]; rfl)
  · kernel_rfl
  · decide +kernel
  · decide +kernel
  · exact fun _ _ _ h => h
  · exact Or.inr ⟨by kernel_rfl, rfl⟩
  · assumption
  simp only [Act.put, lt0', lt1', lt2']
  refine' wpAnyH_take (i := 5) ?_ ?_ ?_ ?_ ?_ ?_ ?_ ?_
  rotate_left 2
  · (simp only [lg0, lg1, lg2]; rfl)
  · kernel_rfl
  · decide +kernel
  · decide +kernel
  · exact fun _ _ _ h => h
  · (refine Or.inl ⟨by kernel_rfl, ?_⟩; intro w hSw; (try dsimp only at hSw); go_simp; first | done | with_reducible rfl)
  · assumption
  simp only [Act.put, lt0', lt1', lt2']
  refine' wpAnyH_take (i := 6) ?_ ?_ ?_ ?_ ?_ ?_ ?_ ?_
  rotate_left 2
  · (simp only [lg0, lg1, lg2]; rfl)
  · kernel_rfl
  · decide +kernel
  · decide +kernel
  · exact fun _ _ _ h => h
  · (refine Or.inl ⟨by kernel_rfl, ?_⟩; intro w hSw; (try dsimp only at hSw); go_simp; first | done | with_reducible rfl)
  · assumption
  simp only [Act.put, lt0', lt1', lt2']
  refine' wpAnyH_take (i := 7) ?_ ?_ ?_ ?_ ?_ ?_ ?_ ?_
  rotate_left 2
  · (simp only [lg0, lg1, lg2]; rfl)
  · kernel_rfl
  · decide +kernel
  · decide +kernel
  · exact fun _ _ _ h => h
  · exact Or.inr ⟨by kernel_rfl, rfl⟩
  · assumption
  simp only [Act.put, lt0', lt1', lt2']
  refine' wpAnyH_take (i := 8) ?_ ?_ ?_ ?_ ?_ ?_ ?_ ?_
  rotate_left 2
  · (simp only [lg0, lg1, lg2]; rfl)
  · kernel_rfl
  · decide +kernel
  · decide +kernel
  · exact fun _ _ _ h => h
  · exact Or.inr ⟨by kernel_rfl, rfl⟩
  · assumption
  simp only [Act.put, lt0', lt1', lt2']
  refine' wpAnyH_take (i := 9) ?_ ?_ ?_ ?_ ?_ ?_ ?_ ?_
  rotate_left 2
  · (simp only [lg0, lg1, lg2]; rfl)
  · kernel_rfl
  · decide +kernel
  · decide +kernel
  · exact fun _ _ _ h => h
  · exact Or.inr ⟨by kernel_rfl, rfl⟩
  · assumption
  simp only [Act.put, lt0', lt1', lt2']
  refine' wpAnyH_take (i := 10) ?_ ?_ ?_ ?_ ?_ ?_ ?_ ?_
  rotate_left 2
  · (simp only [lg0, lg1, lg2]; rfl)
  · kernel_rfl
  · decide +kernel
  · decide +kernel
  · exact fun _ _ _ h => h
  · (refine Or.inl ⟨by kernel_rfl, ?_⟩; intro w hSw; (try dsimp only at hSw); go_simp; first | done | with_reducible rfl)
  · assumption
  simp only [Act.put, lt0', lt1', lt2']
  refine' wpAnyH_take (i := 11) ?_ ?_ ?_ ?_ ?_ ?_ ?_ ?_
  rotate_left 2
  · (simp only [lg0, lg1, lg2]; rfl)
  · kernel_rfl
  · decide +kernel
  · decide +kernel
  · exact fun _ _ _ h => h
  · (refine Or.inl ⟨by kernel_rfl, ?_⟩; intro w hSw; (try dsimp only at hSw); go_simp; first | done | with_reducible rfl)
  · assumption
  simp only [Act.put, lt0', lt1', lt2']
  refine' wpAnyH_take (i := 12) ?_ ?_ ?_ ?_ ?_ ?_ ?_ ?_
  rotate_left 2
  · (simp only [lg0, lg1, lg2]; rfl)
  · kernel_rfl
  · decide +kernel
  · decide +kernel
  · exact fun _ _ _ h => h
  · exact Or.inr ⟨by kernel_rfl, rfl⟩
  · assumption
  simp only [Act.put, lt0', lt1', lt2']
  refine' wpAnyH_take (i := 13) ?_ ?_ ?_ ?_ ?_ ?_ ?_ ?_
  rotate_left 2
  · (simp only [lg0, lg1, lg2]; rfl)
  · kernel_rfl
  · decide +kernel
  · decide +kernel
  · exact fun _ _ _ h => h
  · exact Or.inr ⟨by kernel_rfl, rfl⟩
  · assumption
  simp only [Act.put, lt0', lt1', lt2']
  refine' wpAnyH_take (i := 14) ?_ ?_ ?_ ?_ ?_ ?_ ?_ ?_
  rotate_left 2
  · (simp only [lg0, lg1, lg2]; rfl)
  · kernel_rfl
  · decide +kernel
  · decide +kernel
  · exact fun _ _ _ h => h
  · exact Or.inr ⟨by kernel_rfl, rfl⟩
  · assumption
  simp only [Act.put, lt0', lt1', lt2']
  refine' wpAnyH_take (i := 15) ?_ ?_ ?_ ?_ ?_ ?_ ?_ ?_
  rotate_left 2
  · (simp only [lg0, lg1, lg2]; rfl)
  · kernel_rfl
  · decide +kernel
  · decide +kernel
  · exact fun _ _ _ h => h
  · exact Or.inr ⟨by kernel_rfl, rfl⟩
  · assumption
  simp only [Act.put, lt0', lt1', lt2']
  refine' wpAnyH_take (i := 16) ?_ ?_ ?_ ?_ ?_ ?_ ?_ ?_
  rotate_left 2
  · (simp only [lg0, lg1, lg2]; rfl)
  · kernel_rfl
  · decide +kernel
  · decide +kernel
  · exact fun _ _ _ h => h
  · exact Or.inr ⟨by kernel_rfl, rfl⟩
  · assumption
  simp only [Act.put, lt0', lt1', lt2']
  refine' wpAnyH_take (i := 17) ?_ ?_ ?_ ?_ ?_ ?_ ?_ ?_
  rotate_left 2
  · (simp only [lg0, lg1, lg2]; rfl)
  · kernel_rfl
  · decide +kernel
  · decide +kernel
  · exact fun _ _ _ h => h
  · exact Or.inr ⟨by kernel_rfl, rfl⟩
  · assumption
  simp only [Act.put, lt0', lt1', lt2']
  refine' wpAnyH_take (i := 18) ?_ ?_ ?_ ?_ ?_ ?_ ?_ ?_
  rotate_left 2
  · (simp only [lg0, lg1, lg2]; rfl)
  · kernel_rfl
  · decide +kernel
  · decide +kernel
  · exact fun _ _ _ h => h
  · exact Or.inr ⟨by kernel_rfl, rfl⟩
  · assumption
  simp only [Act.put, lt0', lt1', lt2']
  refine' wpAnyH_take (i := 19) ?_ ?_ ?_ ?_ ?_ ?_ ?_ ?_
  rotate_left 2
  · (simp only [lg0, lg1, lg2]; rfl)
  · kernel_rfl
  · decide +kernel
  · decide +kernel
  · exact fun _ _ _ h => h
  · exact Or.inr ⟨by kernel_rfl, rfl⟩
  · assumption
  simp only [Act.put, lt0', lt1', lt2']
  refine' wpAnyH_take (i := 20) ?_ ?_ ?_ ?_ ?_ ?_ ?_ ?_
  rotate_left 2
  · (simp only [lg0, lg1, lg2]; rfl)
  · kernel_rfl
  · decide +kernel
  · decide +kernel
  · exact fun _ _ _ h => h
  · exact Or.inr ⟨by kernel_rfl, rfl⟩
  · assumption
  simp only [Act.put, lt0', lt1', lt2']
  refine' wpAnyH_take (i := 21) ?_ ?_ ?_ ?_ ?_ ?_ ?_ ?_
  rotate_left 2
  · (simp only [lg0, lg1, lg2]; rfl)
  · kernel_rfl
  · decide +kernel
  · decide +kernel
  · exact fun _ _ _ h => h
  · exact Or.inr ⟨by kernel_rfl, rfl⟩
  · assumption
  simp only [Act.put, lt0', lt1', lt2']
  refine' wpAnyH_take (i := 22) ?_ ?_ ?_ ?_ ?_ ?_ ?_ ?_
  rotate_left 2
  · (simp only [lg0, lg1, lg2]; rfl)
  · kernel_rfl
  · decide +kernel
  · decide +kernel
  · exact fun _ _ _ h => h
  · exact Or.inr ⟨by kernel_rfl, rfl⟩
  · assumption
  simp only [Act.put, lt0', lt1', lt2']
  refine' wpAnyH_take (i := 23) ?_ ?_ ?_ ?_ ?_ ?_ ?_ ?_
  rotate_left 2
  · (simp only [lg0, lg1, lg2]; rfl)
  · kernel_rfl
  · decide +kernel
  · decide +kernel
  · exact fun _ _ _ h => h
  · exact Or.inr ⟨by kernel_rfl, rfl⟩
  · assumption
  simp only [Act.put, lt0', lt1', lt2']
  refine' wpAnyH_take (i := 24) ?_ ?_ ?_ ?_ ?_ ?_ ?_ ?_
  rotate_left 2
  · (simp only [lg0, lg1, lg2]; rfl)
  · kernel_rfl
  · decide +kernel
  · decide +kernel
  · exact fun _ _ _ h => h
  · exact Or.inr ⟨by kernel_rfl, rfl⟩
  · assumption
  simp only [Act.put, lt0', lt1', lt2']
  refine' wpAnyH_take (i := 25) ?_ ?_ ?_ ?_ ?_ ?_ ?_ ?_
  rotate_left 2
  · (simp only [lg0, lg1, lg2]; rfl)
  · kernel_rfl
  · decide +kernel
  · decide +kernel
  · exact fun _ _ _ h => h
  · exact Or.inr ⟨by kernel_rfl, rfl⟩
  · assumption
  simp only [Act.put, lt0', lt1', lt2']
  refine' wpAnyH_take (i := 26) ?_ ?_ ?_ ?_ ?_ ?_ ?_ ?_
  rotate_left 2
  · (simp only [lg0, lg1, lg2]; rfl)
  · kernel_rfl
  · decide +kernel
  · decide +kernel
  · exact fun _ _ _ h => h
  · exact Or.inr ⟨by kernel_rfl, rfl⟩
  · assumption
  simp only [Act.put, lt0', lt1', lt2']
  refine' wpAnyH_take (i := 27) ?_ ?_ ?_ ?_ ?_ ?_ ?_ ?_
  rotate_left 2
  · (simp only [lg0, lg1, lg2]; rfl)
  · kernel_rfl
  · decide +kernel
  · decide +kernel
  · exact fun _ _ _ h => h
  · exact Or.inr ⟨by kernel_rfl, rfl⟩
  · assumption
  simp only [Act.put, lt0', lt1', lt2']
  refine' wpAnyH_take (i := 28) ?_ ?_ ?_ ?_ ?_ ?_ ?_ ?_
  rotate_left 2
  · (simp only [lg0, lg1, lg2]; rfl)
  · kernel_rfl
  · decide +kernel
  · decide +kernel
  · exact fun _ _ _ h => h
  · exact Or.inr ⟨by kernel_rfl, rfl⟩
  · assumption
  simp only [Act.put, lt0', lt1', lt2']
  refine' wpAnyH_take (i := 29) ?_ ?_ ?_ ?_ ?_ ?_ ?_ ?_
  rotate_left 2
  · (simp only [lg0, lg1, lg2]; rfl)
  · kernel_rfl
  · decide +kernel
  · decide +kernel
  · exact fun _ _ _ h => h
  · exact Or.inr ⟨by kernel_rfl, rfl⟩
  · assumption
  simp only [Act.put, lt0', lt1', lt2']
  refine' wpAnyH_take (i := 30) ?_ ?_ ?_ ?_ ?_ ?_ ?_ ?_
  rotate_left 2
  · (simp only [lg0, lg1, lg2]; rfl)
  · kernel_rfl
  · decide +kernel
  · decide +kernel
  · exact fun _ _ _ h => h
  · exact Or.inr ⟨by kernel_rfl, rfl⟩
  · assumption
  simp only [Act.put, lt0', lt1', lt2']
  refine' wpAnyH_take (i := 31) ?_ ?_ ?_ ?_ ?_ ?_ ?_ ?_
  rotate_left 2
  · (simp only [lg0, lg1, lg2]; rfl)
  · kernel_rfl
  · decide +kernel
  · decide +kernel
  · exact fun _ _ _ h => h
  · exact Or.inr ⟨by kernel_rfl, rfl⟩
  · assumption
  simp only [Act.put, lt0', lt1', lt2']
  refine' wpAnyH_take (i := 32) ?_ ?_ ?_ ?_ ?_ ?_ ?_ ?_
  rotate_left 2
  · (simp only [lg0, lg1, lg2]; rfl)
  · kernel_rfl
  · decide +kernel
  · decide +kernel
  · exact fun _ _ _ h => h
  · exact Or.inr ⟨by kernel_rfl, rfl⟩
  · assumption
  simp only [Act.put, lt0', lt1', lt2']
  refine' wpAnyH_take (i := 33) ?_ ?_ ?_ ?_ ?_ ?_ ?_ ?_
  rotate_left 2
  · (simp only [lg0, lg1, lg2]; rfl)
  · kernel_rfl
  · decide +kernel
  · decide +kernel
  · exact fun _ _ _ h => h
  · exact Or.inr ⟨by kernel_rfl, rfl⟩
  · assumption
  simp only [Act.put, lt0', lt1', lt2']
  refine' wpAnyH_take (i := 34) ?_ ?_ ?_ ?_ ?_ ?_ ?_ ?_
  rotate_left 2
  · (simp only [lg0, lg1, lg2]; rfl)
  · kernel_rfl
  · decide +kernel
  · decide +kernel
  · exact fun _ _ _ h => h
  · exact Or.inr ⟨by kernel_rfl, rfl⟩
  · assumption
  simp only [Act.put, lt0', lt1', lt2']
  refine' wpAnyH_take (i := 35) ?_ ?_ ?_ ?_ ?_ ?_ ?_ ?_
  rotate_left 2
  · (simp only [lg0, lg1, lg2]; rfl)
  · kernel_rfl
  · decide +kernel
  · decide +kernel
  · exact fun _ _ _ h => h
  · exact Or.inr ⟨by kernel_rfl, rfl⟩
  · assumption
  simp only [Act.put, lt0', lt1', lt2']
  refine' wpAnyH_take (i := 36) ?_ ?_ ?_ ?_ ?_ ?_ ?_ ?_
  rotate_left 2
  · (simp only [lg0, lg1, lg2]; rfl)
  · kernel_rfl
  · decide +kernel
  · decide +kernel
  · exact fun _ _ _ h => h
  · exact Or.inr ⟨by kernel_rfl, rfl⟩
  · assumption
  simp only [Act.put, lt0', lt1', lt2']
  refine' wpAnyH_take (i := 37) ?_ ?_ ?_ ?_ ?_ ?_ ?_ ?_
  rotate_left 2
  · (simp only [lg0, lg1, lg2]; rfl)
  · kernel_rfl
  · decide +kernel
  · decide +kernel
  · exact fun _ _ _ h => h
  · exact Or.inr ⟨by kernel_rfl, rfl⟩
  · assumption
  simp only [Act.put, lt0', lt1', lt2']
  refine' wpAnyH_take (i := 38) ?_ ?_ ?_ ?_ ?_ ?_ ?_ ?_
  rotate_left 2
  · (simp only [lg0, lg1, lg2]; rfl)
  · kernel_rfl
  · decide +kernel
  · decide +kernel
  · exact fun _ _ _ h => h
  · exact Or.inr ⟨by kernel_rfl, rfl⟩
  · assumption
  simp only [Act.put, lt0', lt1', lt2']
  refine' wpAnyH_take (i := 39) ?_ ?_ ?_ ?_ ?_ ?_ ?_ ?_
  rotate_left 2
  · (simp only [lg0, lg1, lg2]; rfl)
  · kernel_rfl
  · decide +kernel
  · decide +kernel
  · exact fun _ _ _ h => h
  · exact Or.inr ⟨by kernel_rfl, rfl⟩
  · assumption
  simp only [Act.put, lt0', lt1', lt2']
  refine' wpAnyH_take (i := 40) ?_ ?_ ?_ ?_ ?_ ?_ ?_ ?_
  rotate_left 2
  · (simp only [lg0, lg1, lg2]; rfl)
  · kernel_rfl
  · decide +kernel
  · decide +kernel
  · exact fun _ _ _ h => h
  · exact Or.inr ⟨by kernel_rfl, rfl⟩
  · assumption
  simp only [Act.put, lt0', lt1', lt2']
  refine' wpAnyH_take (i := 41) ?_ ?_ ?_ ?_ ?_ ?_ ?_ ?_
  rotate_left 2
  · (simp only [lg0, lg1, lg2]; rfl)
  · kernel_rfl
  · decide +kernel
  · decide +kernel
  · exact fun _ _ _ h => h
  · exact Or.inr ⟨by kernel_rfl, rfl⟩
  · assumption
  simp only [Act.put, lt0', lt1', lt2']
  refine' wpAnyH_take (i := 42) ?_ ?_ ?_ ?_ ?_ ?_ ?_ ?_
  rotate_left 2
  · (simp only [lg0, lg1, lg2]; rfl)
  · kernel_rfl
  · decide +kernel
  · decide +kernel
  · exact fun _ _ _ h => h
  · exact Or.inr ⟨by kernel_rfl, rfl⟩
  · assumption
  simp only [Act.put, lt0', lt1', lt2']
  refine' wpAnyH_take (i := 43) ?_ ?_ ?_ ?_ ?_ ?_ ?_ ?_
  rotate_left 2
  · (simp only [lg0, lg1, lg2]; rfl)
  · kernel_rfl
  · decide +kernel
  · decide +kernel
  · exact fun _ _ _ h => h
  · exact Or.inr ⟨by kernel_rfl, rfl⟩
  · assumption
  simp only [Act.put, lt0', lt1', lt2']
  refine' wpAnyH_take (i := 44) ?_ ?_ ?_ ?_ ?_ ?_ ?_ ?_
  rotate_left 2
  · (simp only [lg0, lg1, lg2]; rfl)
  · kernel_rfl
  · decide +kernel
  · decide +kernel
  · exact fun _ _ _ h => h
  · exact Or.inr ⟨by kernel_rfl, rfl⟩
  · assumption
  simp only [Act.put, lt0', lt1', lt2']
  refine' wpAnyH_take (i := 45) ?_ ?_ ?_ ?_ ?_ ?_ ?_ ?_
  rotate_left 2
  · (simp only [lg0, lg1, lg2]; rfl)
  · kernel_rfl
  · decide +kernel
  · decide +kernel
  · exact fun _ _ _ h => h
  · exact Or.inr ⟨by kernel_rfl, rfl⟩
  · assumption
  simp only [Act.put, lt0', lt1', lt2']
  refine' wpAnyH_take (i := 46) ?_ ?_ ?_ ?_ ?_ ?_ ?_ ?_
  rotate_left 2
  · (simp only [lg0, lg1, lg2]; rfl)
  · kernel_rfl
  · decide +kernel
  · decide +kernel
  · exact fun _ _ _ h => h
  · exact Or.inr ⟨by kernel_rfl, rfl⟩
  · assumption
  simp only [Act.put, lt0', lt1', lt2']
  refine' wpAnyH_take (i := 47) ?_ ?_ ?_ ?_ ?_ ?_ ?_ ?_
  rotate_left 2
  · (simp only [lg0, lg1, lg2]; rfl)
  · kernel_rfl
  · decide +kernel
  · decide +kernel
  · exact fun _ _ _ h => h
  · exact Or.inr ⟨by kernel_rfl, rfl⟩
  · assumption
  simp only [Act.put, lt0', lt1', lt2']
  refine' wpAnyH_take (i := 48) ?_ ?_ ?_ ?_ ?_ ?_ ?_ ?_
  rotate_left 2
  · (simp only [lg0, lg1, lg2]; rfl)
  · kernel_rfl
  · decide +kernel
  · decide +kernel
  · exact fun _ _ _ h => h
  · exact Or.inr ⟨by kernel_rfl, rfl⟩
  · assumption
  simp only [Act.put, lt0', lt1', lt2']
  refine' wpAnyH_take (i := 49) ?_ ?_ ?_ ?_ ?_ ?_ ?_ ?_
  rotate_left 2
  · (simp only [lg0, lg1, lg2]; rfl)
  · kernel_rfl
  · decide +kernel
  · decide +kernel
  · exact fun _ _ _ h => h
  · exact Or.inr ⟨by kernel_rfl, rfl⟩
  · assumption
  simp only [Act.put, lt0', lt1', lt2']
  refine' wpAnyH_take (i := 50) ?_ ?_ ?_ ?_ ?_ ?_ ?_ ?_
  rotate_left 2
  · (simp only [lg0, lg1, lg2]; rfl)
  · kernel_rfl
  · decide +kernel
  · decide +kernel
  · exact fun _ _ _ h => h
  · exact Or.inr ⟨by kernel_rfl, rfl⟩
  · assumption
  simp only [Act.put, lt0', lt1', lt2']
  refine' wpAnyH_take (i := 51) ?_ ?_ ?_ ?_ ?_ ?_ ?_ ?_
  rotate_left 2
  · (simp only [lg0, lg1, lg2]; rfl)
  · kernel_rfl
  · decide +kernel
  · decide +kernel
  · exact fun _ _ _ h => h
  · exact Or.inr ⟨by kernel_rfl, rfl⟩
  · assumption
  simp only [Act.put, lt0', lt1', lt2']
  refine' wpAnyH_take (i := 52) ?_ ?_ ?_ ?_ ?_ ?_ ?_ ?_
  rotate_left 2
  · (simp only [lg0, lg1, lg2]; rfl)
  · kernel_rfl
  · decide +kernel
  · decide +kernel
  · exact fun _ _ _ h => h
  · exact Or.inr ⟨by kernel_rfl, rfl⟩
  · assumption
  simp only [Act.put, lt0', lt1', lt2']
  refine' wpAnyH_take (i := 53) ?_ ?_ ?_ ?_ ?_ ?_ ?_ ?_
  rotate_left 2
  · (simp only [lg0, lg1, lg2]; rfl)
  · kernel_rfl
  · decide +kernel
  · decide +kernel
  · exact fun _ _ _ h => h
  · exact Or.inr ⟨by kernel_rfl, rfl⟩
  · assumption
  simp only [Act.put, lt0', lt1', lt2']
  refine' wpAnyH_take (i := 54) ?_ ?_ ?_ ?_ ?_ ?_ ?_ ?_
  rotate_left 2
  · (simp only [lg0, lg1, lg2]; rfl)
  · kernel_rfl
  · decide +kernel
  · decide +kernel
  · exact fun _ _ _ h => h
  · exact Or.inr ⟨by kernel_rfl, rfl⟩
  · assumption
  simp only [Act.put, lt0', lt1', lt2']
  refine' wpAnyH_take (i := 55) ?_ ?_ ?_ ?_ ?_ ?_ ?_ ?_
  rotate_left 2
  · (simp only [lg0, lg1, lg2]; rfl)
  · kernel_rfl
  · decide +kernel
  · decide +kernel
  · exact fun _ _ _ h => h
  · exact Or.inr ⟨by kernel_rfl, rfl⟩
  · assumption
  simp only [Act.put, lt0', lt1', lt2']
  refine' wpAnyH_take (i := 56) ?_ ?_ ?_ ?_ ?_ ?_ ?_ ?_
  rotate_left 2
  · (simp only [lg0, lg1, lg2]; rfl)
  · kernel_rfl
  · decide +kernel
  · decide +kernel
  · exact fun _ _ _ h => h
  · exact Or.inr ⟨by kernel_rfl, rfl⟩
  · assumption
  simp only [Act.put, lt0', lt1', lt2']
  refine' wpAnyH_take (i := 57) ?_ ?_ ?_ ?_ ?_ ?_ ?_ ?_
  rotate_left 2
  · (simp only [lg0, lg1, lg2]; rfl)
  · kernel_rfl
  · decide +kernel
  · decide +kernel
  · exact fun _ _ _ h => h
  · (refine Or.inl ⟨by kernel_rfl, ?_⟩; intro w hSw; (try dsimp only at hSw); go_simp; first | done | with_reducible rfl)
  · assumption
  simp only [Act.put, lt0', lt1', lt2']
  refine' wpAnyH_take (i := 58) ?_ ?_ ?_ ?_ ?_ ?_ ?_ ?_
  rotate_left 2
  · (simp only [lg0, lg1, lg2]; rfl)
  · kernel_rfl
  · decide +kernel
  · decide +kernel
  · exact fun _ _ _ h => h
  · (refine Or.inl ⟨by kernel_rfl, ?_⟩; intro w hSw; (try dsimp only at hSw); go_simp; first | done | with_reducible rfl)
  · assumption
  simp only [Act.put, lt0', lt1', lt2']
  refine wpAnyH_done (by kernel_rfl) ?_ _
  go_wp2_with fail
  go_ret
  exact ⟨rfl, HF0.out.drew⟩
end Go.Proofs.Ytacdbglocpaeaaa
