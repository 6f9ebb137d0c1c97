/-
  Texts of this seat, joined: FMr1.
-/
import Derived.Test.YthfaaoeecajkeaaDoorW11
set_option linter.unusedSimpArgs false
set_option linter.unusedVariables false
namespace Go.Proofs.YthfaaoeecajkeaaDoor
open Go.RowKit

set_option maxRecDepth 100000 in
set_option maxHeartbeats 8000000 in
theorem eMr1 (m : Msg) (v : Value) (w : World) (hf : m.Fits) (hv : Ents w v m.ents) (hok : (msgMay m.kind).2 = true) (h2 : nodeB m.sent = true) (h3 : nodeB m.goal = true) (h4 : m.ents.length ≤ 64) :
    Calls Tryd.prog 43 #[.agg (m.cells v)] w fun r w' => r = .returned (.bool m.ok) ∧ Fr [] w w' := by
  have HF := Lib.hid (eMsgFields m.kind)
  have HA := Lib.hid (fun w1 (hv : Ents w1 v m.ents) => eAnyBad m v w1 hf hv)
  have HV := Lib.hid hv
  obtain ⟨ad, cp, rfl⟩ := hv.shape
  have hN1 := eNode m.sent
  have hN2 := eNode m.goal
  rw [h2] at hN1
  rw [h3] at hN2
  have HN1 := Lib.hid hN1
  have HN2 := Lib.hid hN2
  have Hok : Hid (m.ok = fitB (msgMay m.kind).1 m.flds) := by unfold Msg.ok; rw [hok, h2, h3]; rfl
  rw [Hok.out]
  have HfB := Lib.hid (fun w bx t (h : Blk w bx (m.cells (.slice ad m.ents.length cp)) t) => msgS h)
  obtain ⟨hT, hI, hP, hC, hK, hE, hM, hS⟩ := hf
  unfold U64 at *
  unfold Msg.flds
  have h4d : decide (m.ents.length ≤ 64) = true := by simpa using h4
  rw [h4d]
  have h4b : decide ((m.ents.length : Int) ≤ 64) = true := by simp; omega
  clear Hok hN1 hN2 h2 h3 hv h4d hE
  generalize msgMay m.kind = xx at *
  obtain ⟨may, kok⟩ := xx
  obtain rfl : kok = true := hok
  have HMC : Hid (∀ w : World, Blk (w.alloc (.cells (m.cells (.slice ad m.ents.length cp)) 47)) w.heap.size (m.cells (.slice ad m.ents.length cp)) 47) := fun w => Blk.new _ _ _
  have SBw := HMC.out w
  have hc := SBw.cellAt (i := 0) rfl
  unfold Msg.cells at HMC HfB SBw ⊢
  generalize m.ents.any (fun e => !e.ok) = bad at *
  generalize m.ents.length = n at *
  go_enter Tryd.func43, Tryd.ntmps43
  go_wp2_with (first | (go_at_call 69; refine (HF.out _).mono ?_; rintro r w2 ⟨rfl, g2⟩))
  have SB := Lib.hid (SBw.fr0 g2)
  have HF0 : Hid (Fr [] w w2) := ((Fr.refl _ _).alloc _).trans0 g2
  have HV2 := Lib.hid (HV.out.fr0 HF0.out)
  clear g2 HF SBw hc
  generalize w.heap.size = bx at *
  obtain ⟨c1, c2, c4, c5, c6, c7, c8, c9, c10⟩ := HfB.out _ _ _ SB.out
  go_outline
  go_region_held3 (fun w' => w'.cell? ⟨bx, 1, none⟩ = some (.int .i64 m.sent) ∧ w'.cell? ⟨bx, 2, none⟩ = some (.int .i64 m.goal) ∧ w'.cell? ⟨bx, 4, none⟩ = some (.int .u64 m.index) ∧ w'.cell? ⟨bx, 5, none⟩ = some (.int .u64 m.prev) ∧ w'.cell? ⟨bx, 6, none⟩ = some (.int .u64 m.commit) ∧ w'.cell? ⟨bx, 7, none⟩ = some (.int .u64 m.mark) ∧ w'.cell? ⟨bx, 8, none⟩ = some (.bool m.yes) ∧ w'.cell? ⟨bx, 9, none⟩ = some (.slice ad n cp) ∧ w'.cell? ⟨bx, 10, none⟩ = some (.string m.snap))
    (first | go_keep | exact HfB.out _ _ _ SB3.out)
    (first | (go_at_call 53; refine (HN1.out _).mono ?_; rintro r w' ⟨rfl, rfl⟩) | (go_at_call 53; refine (HN2.out _).mono ?_; rintro r w' ⟨rfl, rfl⟩) | (go_at_call 48; refine (HA.out _ (HV2.out.fr0 ((Fr.refl _ _).drew))).mono ?_; rintro r w3 ⟨rfl, g3⟩; have SB3 := Lib.hid (Blk.fr0 SB.out.drew g3)) | (go_at_call 51; refine (eFitM may _ _ _ _ _ _ _ _ _ _).mono ?_; rintro r w4 ⟨rfl, g4⟩; have SB3 := Lib.hid (Blk.fr0 (Blk.alloc SB3.out _) g4)))
  have HF4 : Hid (Fr [] w w4) := ((HF0.out.drew.trans0 g3).alloc _).trans0 g4
  clear HF0 g3 g4 SB SB3
  go_wp2_with fail
  go_ret
  exact ⟨rfl, HF4.out⟩
end Go.Proofs.YthfaaoeecajkeaaDoor
