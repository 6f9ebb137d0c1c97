/-
  Texts of this seat, joined: FMr4 FMr5 FMr GPlain2 GRd GSt GBld.
-/
import Derived.Test.YthfaaoeecajkeaaDoorW11
import Derived.StillTailTactics
import Derived.Test.YthfaaoeecajkeaaDoorWtk
import Derived.Test.YthfaaoeecajkeaaDoorW12
import Derived.Test.YthfaaoeecajkeaaDoorW13
import Derived.Test.YthfaaoeecajkeaaDoorW03
import Derived.Test.YthfaaoeecajkeaaDoorW00
import Derived.Deep.RegionHeld3
import Derived.Lib.Builder
import Derived.Lib.AppendStr
import Derived.Lib.UnsafeStr
set_option linter.unusedSimpArgs false
set_option linter.unusedVariables false
namespace Go.Proofs.YthfaaoeecajkeaaDoor
open List renaming getElem?_toArray → lg0, getElem?_cons_succ → lg1, getElem?_cons_zero → lg2, setIfInBounds_toArray → lt0', set_cons_zero → lt1', set_cons_succ → lt2'
open Go.RowKit

set_option maxRecDepth 100000 in
set_option maxHeartbeats 8000000 in
theorem eMr4 (m : Msg) (v : Value) (w : World) (hf : m.Fits) (hv : Ents w v m.ents) (hok : (msgMay m.kind).2 = true) (h2 : nodeB m.sent = false) :
    Calls Tryd.prog 43 #[.agg (m.cells v)] w fun r w' => r = .returned (.bool m.ok) ∧ Fr [] w w' := by
  have HF := Lib.hid (eMsgFields m.kind)
  have HA := Lib.hid (fun w1 (hv : Ents w1 v m.ents) => eAnyBad m v w1 hf hv)
  have HV := Lib.hid hv
  obtain ⟨ad, cp, rfl⟩ := hv.shape
  have hN1 := eNode m.sent
  rw [h2] at hN1
  have HN1 := Lib.hid hN1
  have Hok : Hid (m.ok = false) := by unfold Msg.ok; rw [hok, h2]; rfl
  rw [Hok.out]
  have HfB := Lib.hid (fun w bx t (h : Blk w bx (m.cells (.slice ad m.ents.length cp)) t) => msgS h)
  obtain ⟨hT, hI, hP, hC, hK, hE, hM, hS⟩ := hf
  unfold U64 at *
  clear Hok hN1 h2 hv hE
  generalize msgMay m.kind = xx at *
  obtain ⟨may, kok⟩ := xx
  obtain rfl : kok = true := hok
  have HMC : Hid (∀ w : World, Blk (w.alloc (.cells (m.cells (.slice ad m.ents.length cp)) 47)) w.heap.size (m.cells (.slice ad m.ents.length cp)) 47) := fun w => Blk.new _ _ _
  have SBw := HMC.out w
  have hc := SBw.cellAt (i := 0) rfl
  unfold Msg.cells at HMC HfB SBw ⊢
  clear HA
  generalize m.ents.length = n at *
  go_enter Tryd.func43, Tryd.ntmps43
  go_wp2_with (first | (go_at_call 69; refine (HF.out _).mono ?_; rintro r w2 ⟨rfl, g2⟩))
  have SB := Lib.hid (SBw.fr0 g2)
  have HF0 : Hid (Fr [] w w2) := ((Fr.refl _ _).alloc _).trans0 g2
  have HV2 := Lib.hid (HV.out.fr0 HF0.out)
  clear g2 HF SBw hc
  generalize w.heap.size = bx at *
  obtain ⟨c1, c2, c4, c5, c6, c7, c8, c9, c10⟩ := HfB.out _ _ _ SB.out
  refine wp_region_held_drew (S := (fun w' => w'.cell? ⟨bx, 1, none⟩ = some (.int .i64 m.sent) ∧ w'.cell? ⟨bx, 2, none⟩ = some (.int .i64 m.goal) ∧ w'.cell? ⟨bx, 4, none⟩ = some (.int .u64 m.index) ∧ w'.cell? ⟨bx, 5, none⟩ = some (.int .u64 m.prev) ∧ w'.cell? ⟨bx, 6, none⟩ = some (.int .u64 m.commit) ∧ w'.cell? ⟨bx, 7, none⟩ = some (.int .u64 m.mark) ∧ w'.cell? ⟨bx, 8, none⟩ = some (.bool m.yes) ∧ w'.cell? ⟨bx, 9, none⟩ = some (.slice ad n cp) ∧ w'.cell? ⟨bx, 10, none⟩ = some (.string m.snap))) (by kernel_rfl) ?_ (fun hHeld => ?_)
  · go_keep
  refine tk 0 ?_
  simp only [Act.put, lt0', lt1', lt2']
  refine tk 1 ?_
  simp only [Act.put, lt0', lt1', lt2']
  refine tk 2 ?_
  simp only [Act.put, lt0', lt1', lt2']
  refine tk 3 ?_
  simp only [Act.put, lt0', lt1', lt2']
  refine wpAnyH_ready (rs := [4]) (by kernel_rfl) (by simp) ?_
  refine AllReadyH.cons (by simp only [lg0, lg1, lg2]; rfl) (fun K hK => ?_) AllReadyH.nil
  go_simp
  (go_at_call 53; refine (HN1.out _).mono ?_; rintro r w' ⟨rfl, rfl⟩)
  refine hK.out _ _ ?_ (fun hHeld2 => ?_)
  · assumption
  clear hK K
  try simp only [Act.put, lt0', lt1', lt2']
  refine tk 5 ?_
  simp only [Act.put, lt0', lt1', lt2']
  refine tk 6 ?_
  simp only [Act.put, lt0', lt1', lt2']
  refine tk2 7 ?_
  simp only [Act.put, lt0', lt1', lt2']
  refine tk2 8 ?_
  simp only [Act.put, lt0', lt1', lt2']
  refine tk2 9 ?_
  simp only [Act.put, lt0', lt1', lt2']
  refine tk 10 ?_
  simp only [Act.put, lt0', lt1', lt2']
  refine tk 11 ?_
  simp only [Act.put, lt0', lt1', lt2']
  refine tk2 12 ?_
  simp only [Act.put, lt0', lt1', lt2']
  refine tk2 13 ?_
  simp only [Act.put, lt0', lt1', lt2']
  refine tk2 14 ?_
  simp only [Act.put, lt0', lt1', lt2']
  refine tk2 15 ?_
  simp only [Act.put, lt0', lt1', lt2']
  refine tk2 16 ?_
  simp only [Act.put, lt0', lt1', lt2']
  refine tk2 17 ?_
  simp only [Act.put, lt0', lt1', lt2']
  refine tk2 18 ?_
  simp only [Act.put, lt0', lt1', lt2']
  refine tk2 19 ?_
  simp only [Act.put, lt0', lt1', lt2']
  refine tk2 20 ?_
  simp only [Act.put, lt0', lt1', lt2']
  refine tk2 21 ?_
  simp only [Act.put, lt0', lt1', lt2']
  refine tk2 22 ?_
  simp only [Act.put, lt0', lt1', lt2']
  refine tk2 23 ?_
  simp only [Act.put, lt0', lt1', lt2']
  refine tk2 24 ?_
  simp only [Act.put, lt0', lt1', lt2']
  refine tk2 25 ?_
  simp only [Act.put, lt0', lt1', lt2']
  refine tk2 26 ?_
  simp only [Act.put, lt0', lt1', lt2']
  refine tk2 27 ?_
  simp only [Act.put, lt0', lt1', lt2']
  refine tk2 28 ?_
  simp only [Act.put, lt0', lt1', lt2']
  refine tk2 29 ?_
  simp only [Act.put, lt0', lt1', lt2']
  refine tk2 30 ?_
  simp only [Act.put, lt0', lt1', lt2']
  refine tk2 31 ?_
  simp only [Act.put, lt0', lt1', lt2']
  refine tk2 32 ?_
  simp only [Act.put, lt0', lt1', lt2']
  refine tk2 33 ?_
  simp only [Act.put, lt0', lt1', lt2']
  refine tk2 34 ?_
  simp only [Act.put, lt0', lt1', lt2']
  refine tk2 35 ?_
  simp only [Act.put, lt0', lt1', lt2']
  refine tk2 36 ?_
  simp only [Act.put, lt0', lt1', lt2']
  refine tk2 37 ?_
  simp only [Act.put, lt0', lt1', lt2']
  refine tk2 38 ?_
  simp only [Act.put, lt0', lt1', lt2']
  refine tk2 39 ?_
  simp only [Act.put, lt0', lt1', lt2']
  refine tk2 40 ?_
  simp only [Act.put, lt0', lt1', lt2']
  refine tk2 41 ?_
  simp only [Act.put, lt0', lt1', lt2']
  refine tk2 42 ?_
  simp only [Act.put, lt0', lt1', lt2']
  refine tk2 43 ?_
  simp only [Act.put, lt0', lt1', lt2']
  refine tk2 44 ?_
  simp only [Act.put, lt0', lt1', lt2']
  refine tk2 45 ?_
  simp only [Act.put, lt0', lt1', lt2']
  refine tk2 46 ?_
  simp only [Act.put, lt0', lt1', lt2']
  refine tk2 47 ?_
  simp only [Act.put, lt0', lt1', lt2']
  refine tk2 48 ?_
  simp only [Act.put, lt0', lt1', lt2']
  refine tk2 49 ?_
  simp only [Act.put, lt0', lt1', lt2']
  refine tk2 50 ?_
  simp only [Act.put, lt0', lt1', lt2']
  refine tk2 51 ?_
  simp only [Act.put, lt0', lt1', lt2']
  refine tk2 52 ?_
  simp only [Act.put, lt0', lt1', lt2']
  refine tk2 53 ?_
  simp only [Act.put, lt0', lt1', lt2']
  refine tk2 54 ?_
  simp only [Act.put, lt0', lt1', lt2']
  refine tk2 55 ?_
  simp only [Act.put, lt0', lt1', lt2']
  refine tk2 56 ?_
  simp only [Act.put, lt0', lt1', lt2']
  refine tk 57 ?_
  simp only [Act.put, lt0', lt1', lt2']
  refine tk 58 ?_
  simp only [Act.put, lt0', lt1', lt2']
  refine wpAnyH_done (by kernel_rfl) ?_ _
  go_wp2_with fail
  go_ret
  exact ⟨rfl, HF0.out.drew⟩
end Go.Proofs.YthfaaoeecajkeaaDoor

namespace Go.Proofs.YthfaaoeecajkeaaDoor
open List renaming getElem?_toArray → lg0, getElem?_cons_succ → lg1, getElem?_cons_zero → lg2, setIfInBounds_toArray → lt0', set_cons_zero → lt1', set_cons_succ → lt2'
open Go.RowKit

set_option maxRecDepth 100000 in
set_option maxHeartbeats 8000000 in
theorem eMr5 (m : Msg) (v : Value) (w : World) (hf : m.Fits) (hv : Ents w v m.ents) (hok : (msgMay m.kind).2 = true) (h2 : nodeB m.sent = true) (h3 : nodeB m.goal = false) :
    Calls Tryd.prog 43 #[.agg (m.cells v)] w fun r w' => r = .returned (.bool m.ok) ∧ Fr [] w w' := by
  have HF := Lib.hid (eMsgFields m.kind)
  have HA := Lib.hid (fun w1 (hv : Ents w1 v m.ents) => eAnyBad m v w1 hf hv)
  have HV := Lib.hid hv
  obtain ⟨ad, cp, rfl⟩ := hv.shape
  have hN1 := eNode m.sent
  have hN2 := eNode m.goal
  rw [h2] at hN1
  rw [h3] at hN2
  have HN1 := Lib.hid hN1
  have HN2 := Lib.hid hN2
  have Hok : Hid (m.ok = false) := by unfold Msg.ok; rw [hok, h2, h3]; rfl
  rw [Hok.out]
  have HfB := Lib.hid (fun w bx t (h : Blk w bx (m.cells (.slice ad m.ents.length cp)) t) => msgS h)
  obtain ⟨hT, hI, hP, hC, hK, hE, hM, hS⟩ := hf
  unfold U64 at *
  clear Hok hN1 hN2 h2 h3 hv hE
  generalize msgMay m.kind = xx at *
  obtain ⟨may, kok⟩ := xx
  obtain rfl : kok = true := hok
  have HMC : Hid (∀ w : World, Blk (w.alloc (.cells (m.cells (.slice ad m.ents.length cp)) 47)) w.heap.size (m.cells (.slice ad m.ents.length cp)) 47) := fun w => Blk.new _ _ _
  have SBw := HMC.out w
  have hc := SBw.cellAt (i := 0) rfl
  unfold Msg.cells at HMC HfB SBw ⊢
  clear HA
  generalize m.ents.length = n at *
  go_enter Tryd.func43, Tryd.ntmps43
  go_wp2_with (first | (go_at_call 69; refine (HF.out _).mono ?_; rintro r w2 ⟨rfl, g2⟩))
  have SB := Lib.hid (SBw.fr0 g2)
  have HF0 : Hid (Fr [] w w2) := ((Fr.refl _ _).alloc _).trans0 g2
  have HV2 := Lib.hid (HV.out.fr0 HF0.out)
  clear g2 HF SBw hc
  generalize w.heap.size = bx at *
  obtain ⟨c1, c2, c4, c5, c6, c7, c8, c9, c10⟩ := HfB.out _ _ _ SB.out
  refine wp_region_held_drew (S := (fun w' => w'.cell? ⟨bx, 1, none⟩ = some (.int .i64 m.sent) ∧ w'.cell? ⟨bx, 2, none⟩ = some (.int .i64 m.goal) ∧ w'.cell? ⟨bx, 4, none⟩ = some (.int .u64 m.index) ∧ w'.cell? ⟨bx, 5, none⟩ = some (.int .u64 m.prev) ∧ w'.cell? ⟨bx, 6, none⟩ = some (.int .u64 m.commit) ∧ w'.cell? ⟨bx, 7, none⟩ = some (.int .u64 m.mark) ∧ w'.cell? ⟨bx, 8, none⟩ = some (.bool m.yes) ∧ w'.cell? ⟨bx, 9, none⟩ = some (.slice ad n cp) ∧ w'.cell? ⟨bx, 10, none⟩ = some (.string m.snap))) (by kernel_rfl) ?_ (fun hHeld => ?_)
  · go_keep
  refine tk 0 ?_
  simp only [Act.put, lt0', lt1', lt2']
  refine tk 1 ?_
  simp only [Act.put, lt0', lt1', lt2']
  refine tk 2 ?_
  simp only [Act.put, lt0', lt1', lt2']
  refine tk 3 ?_
  simp only [Act.put, lt0', lt1', lt2']
  refine wpAnyH_ready (rs := [4]) (by kernel_rfl) (by simp) ?_
  refine AllReadyH.cons (by simp only [lg0, lg1, lg2]; rfl) (fun K hK => ?_) AllReadyH.nil
  go_simp
  (go_at_call 53; refine (HN1.out _).mono ?_; rintro r w' ⟨rfl, rfl⟩)
  refine hK.out _ _ ?_ (fun hHeld2 => ?_)
  · assumption
  clear hK K
  try simp only [Act.put, lt0', lt1', lt2']
  refine tk 5 ?_
  simp only [Act.put, lt0', lt1', lt2']
  refine tk 6 ?_
  simp only [Act.put, lt0', lt1', lt2']
  refine tk 7 ?_
  simp only [Act.put, lt0', lt1', lt2']
  refine tk 8 ?_
  simp only [Act.put, lt0', lt1', lt2']
  refine wpAnyH_ready (rs := [9]) (by kernel_rfl) (by simp) ?_
  refine AllReadyH.cons (by simp only [lg0, lg1, lg2]; rfl) (fun K hK => ?_) AllReadyH.nil
  go_simp
  (go_at_call 53; refine (HN2.out _).mono ?_; rintro r w' ⟨rfl, rfl⟩)
  refine hK.out _ _ ?_ (fun hHeld2 => ?_)
  · assumption
  clear hK K
  try simp only [Act.put, lt0', lt1', lt2']
  refine tk 10 ?_
  simp only [Act.put, lt0', lt1', lt2']
  refine tk 11 ?_
  simp only [Act.put, lt0', lt1', lt2']
  refine tk2 12 ?_
  simp only [Act.put, lt0', lt1', lt2']
  refine tk2 13 ?_
  simp only [Act.put, lt0', lt1', lt2']
  refine tk2 14 ?_
  simp only [Act.put, lt0', lt1', lt2']
  refine tk2 15 ?_
  simp only [Act.put, lt0', lt1', lt2']
  refine tk2 16 ?_
  simp only [Act.put, lt0', lt1', lt2']
  refine tk2 17 ?_
  simp only [Act.put, lt0', lt1', lt2']
  refine tk2 18 ?_
  simp only [Act.put, lt0', lt1', lt2']
  refine tk2 19 ?_
  simp only [Act.put, lt0', lt1', lt2']
  refine tk2 20 ?_
  simp only [Act.put, lt0', lt1', lt2']
  refine tk2 21 ?_
  simp only [Act.put, lt0', lt1', lt2']
  refine tk2 22 ?_
  simp only [Act.put, lt0', lt1', lt2']
  refine tk2 23 ?_
  simp only [Act.put, lt0', lt1', lt2']
  refine tk2 24 ?_
  simp only [Act.put, lt0', lt1', lt2']
  refine tk2 25 ?_
  simp only [Act.put, lt0', lt1', lt2']
  refine tk2 26 ?_
  simp only [Act.put, lt0', lt1', lt2']
  refine tk2 27 ?_
  simp only [Act.put, lt0', lt1', lt2']
  refine tk2 28 ?_
  simp only [Act.put, lt0', lt1', lt2']
  refine tk2 29 ?_
  simp only [Act.put, lt0', lt1', lt2']
  refine tk2 30 ?_
  simp only [Act.put, lt0', lt1', lt2']
  refine tk2 31 ?_
  simp only [Act.put, lt0', lt1', lt2']
  refine tk2 32 ?_
  simp only [Act.put, lt0', lt1', lt2']
  refine tk2 33 ?_
  simp only [Act.put, lt0', lt1', lt2']
  refine tk2 34 ?_
  simp only [Act.put, lt0', lt1', lt2']
  refine tk2 35 ?_
  simp only [Act.put, lt0', lt1', lt2']
  refine tk2 36 ?_
  simp only [Act.put, lt0', lt1', lt2']
  refine tk2 37 ?_
  simp only [Act.put, lt0', lt1', lt2']
  refine tk2 38 ?_
  simp only [Act.put, lt0', lt1', lt2']
  refine tk2 39 ?_
  simp only [Act.put, lt0', lt1', lt2']
  refine tk2 40 ?_
  simp only [Act.put, lt0', lt1', lt2']
  refine tk2 41 ?_
  simp only [Act.put, lt0', lt1', lt2']
  refine tk2 42 ?_
  simp only [Act.put, lt0', lt1', lt2']
  refine tk2 43 ?_
  simp only [Act.put, lt0', lt1', lt2']
  refine tk2 44 ?_
  simp only [Act.put, lt0', lt1', lt2']
  refine tk2 45 ?_
  simp only [Act.put, lt0', lt1', lt2']
  refine tk2 46 ?_
  simp only [Act.put, lt0', lt1', lt2']
  refine tk2 47 ?_
  simp only [Act.put, lt0', lt1', lt2']
  refine tk2 48 ?_
  simp only [Act.put, lt0', lt1', lt2']
  refine tk2 49 ?_
  simp only [Act.put, lt0', lt1', lt2']
  refine tk2 50 ?_
  simp only [Act.put, lt0', lt1', lt2']
  refine tk2 51 ?_
  simp only [Act.put, lt0', lt1', lt2']
  refine tk2 52 ?_
  simp only [Act.put, lt0', lt1', lt2']
  refine tk2 53 ?_
  simp only [Act.put, lt0', lt1', lt2']
  refine tk2 54 ?_
  simp only [Act.put, lt0', lt1', lt2']
  refine tk2 55 ?_
  simp only [Act.put, lt0', lt1', lt2']
  refine tk2 56 ?_
  simp only [Act.put, lt0', lt1', lt2']
  refine tk 57 ?_
  simp only [Act.put, lt0', lt1', lt2']
  refine tk 58 ?_
  simp only [Act.put, lt0', lt1', lt2']
  refine wpAnyH_done (by kernel_rfl) ?_ _
  go_wp2_with fail
  go_ret
  exact ⟨rfl, HF0.out.drew⟩
end Go.Proofs.YthfaaoeecajkeaaDoor

namespace Go.Proofs.YthfaaoeecajkeaaDoor
open Go.RowKit

theorem eMsgRight (m : Msg) (v : Value) (w : World) (hf : m.Fits) (hv : Ents w v m.ents) : Calls Tryd.prog 43 #[.agg (m.cells v)] w fun r w' => r = .returned (.bool m.ok) ∧ Fr [] w w' := by
  cases hok : (msgMay m.kind).2 with
  | false => exact eMr3 m v w hf hv hok
  | true =>
    cases h2 : nodeB m.sent with
    | false => exact eMr4 m v w hf hv hok h2
    | true =>
      cases h3 : nodeB m.goal with
      | false => exact eMr5 m v w hf hv hok h2 h3
      | true =>
        by_cases h4 : m.ents.length ≤ 64
        · exact eMr1 m v w hf hv hok h2 h3 h4
        · exact eMr2 m v w hf hv hok h2 h3 h4

def Msg.lvl (m : Msg) : Int := if m.kind = 9 ∨ m.kind = 10 ∨ m.ents.any (fun e => e.lvl == 2) = true then 2 else 1

theorem eAnyTwo (m : Msg) (v : Value) (w : World) (hm : m.Fits) (hv : Ents w v m.ents) :
    Calls Tryd.prog 48 #[v, .func (.func 49) #[] #[]] w fun r w' => r = .returned (.bool (m.ents.any (fun e => e.lvl == 2))) ∧ Fr [] w w' :=
  iContEnt 49 (fun e => e.lvl == 2) m.ents v w goes55 (fun e _ w => eMsgLevel1 e w) hv hm.many

set_option maxHeartbeats 2000000 in
theorem eMsgLevel (m : Msg) (v : Value) (w : World) (hm : m.Fits) (hv : Ents w v m.ents) : Calls Tryd.prog 25 #[.agg (m.cells v)] w fun r w' => r = .returned (.int .i64 m.lvl) ∧ Fr [] w w' := by
  have HA := Lib.hid (fun w1 (hv : Ents w1 v m.ents) => eAnyTwo m v w1 hm hv)
  have HV := Lib.hid (hv.fr0 ((Fr.refl [] w).alloc (.cells (m.cells v) 47)))
  unfold Msg.lvl Msg.cells at *
  clear hv hm
  by_cases h9 : m.kind = 9
  · have e9 : (m.kind == 9) = true := by simpa using h9
    rw [if_pos (.inl h9)]
    clear h9
    go_enter Tryd.func25, Tryd.ntmps25
    go_wp2_with fail
    go_ret
    exact ⟨rfl, (Fr.refl _ _).alloc _⟩
  · have e9 : (m.kind == 9) = false := by simpa using h9
    by_cases h10 : m.kind = 10
    · have e10 : (m.kind == 10) = true := by simpa using h10
      rw [if_pos (.inr (.inl h10))]
      clear h9 h10
      go_enter Tryd.func25, Tryd.ntmps25
      go_wp2_with fail
      go_ret
      exact ⟨rfl, (Fr.refl _ _).alloc _⟩
    · have e10 : (m.kind == 10) = false := by simpa using h10
      cases hb : m.ents.any (fun e => e.lvl == 2) with
      | true =>
        rw [hb] at HA
        rw [if_pos (.inr (.inr rfl))]
        clear h9 h10 hb
        go_enter Tryd.func25, Tryd.ntmps25
        go_wp2_with (go_at_call 48; refine (HA.out _ HV.out).mono ?_; rintro r w2 ⟨rfl, f2⟩)
        go_ret
        exact ⟨rfl, ((Fr.refl _ _).alloc _).trans0 f2⟩
      | false =>
        rw [hb] at HA
        rw [if_neg (by simp [h9, h10])]
        clear h9 h10 hb
        go_enter Tryd.func25, Tryd.ntmps25
        go_wp2_with (go_at_call 48; refine (HA.out _ HV.out).mono ?_; rintro r w2 ⟨rfl, f2⟩)
        go_ret
        exact ⟨rfl, ((Fr.refl _ _).alloc _).trans0 f2⟩
end Go.Proofs.YthfaaoeecajkeaaDoor

namespace Go.Proofs.YthfaaoeecajkeaaDoor
open Go.RowKit

/-! ### a reader of a list at a place -/
def numF (L : List UInt8) (o k : Nat) : Int := if o + k ≤ L.length then num L o k else 0
def strF (L : List UInt8) (o k : Nat) : List UInt8 := if o + k ≤ L.length then seg L o k else []
def stL (L : List UInt8) (o : Nat) : ByteArray × Bool := if o ≤ L.length then (bs (L.drop o), false) else (bs [], true)

theorem rdBytes_at (L : List UInt8) (o k : Nat) : rdBytes (stL L o).1 (stL L o).2 (k : Int) = (bs (strF L o k), (stL L (o + k)).1, (stL L (o + k)).2) := by
  unfold stL strF
  by_cases h : o ≤ L.length
  · rw [if_pos h, rdBytes_bs]
    by_cases h2 : o + k ≤ L.length
    · rw [if_neg (by rw [List.length_drop]; omega), if_pos h2, if_pos h2, List.drop_drop]
      rfl
    · rw [if_pos (by rw [List.length_drop]; omega), if_neg h2, if_neg h2]
  · rw [if_neg h, rdBytes_bad, if_neg (show ¬ o + k ≤ L.length by omega), if_neg (show ¬ o + k ≤ L.length by omega)]
theorem num_str (L : List UInt8) (o k : Nat) : ((beNum 0 (bs (strF L o k)).data.toList : Nat) : Int) = numF L o k := by
  rw [bs_list]
  unfold strF numF
  split
  · rfl
  · rfl
theorem numF_u64 (L : List UInt8) (o k : Nat) : U64 (numF L o k) := by
  unfold numF
  split
  · exact num_u64 L o k
  · unfold U64; omega
theorem numF_byte (L : List UInt8) (o : Nat) : 0 ≤ numF L o 1 ∧ numF L o 1 < 256 := by
  unfold numF
  split
  · exact num_byte L o
  · omega
theorem numF_four (L : List UInt8) (o : Nat) : 0 ≤ numF L o 4 ∧ numF L o 4 < 4294967296 := by
  unfold numF
  split
  · unfold num
    have h : (seg L o 4).length = 4 := seg_length L o 4 ‹_›
    match hs : seg L o 4, h with
    | [a, b, c, d], _ =>
      have := a.toNat_lt; have := b.toNat_lt; have := c.toNat_lt; have := d.toNat_lt
      rw [beNum_four]
      omega
  · omega
theorem num_drop (L : List UInt8) (o p k : Nat) : num (L.drop o) p k = num L (o + p) k := by
  unfold num seg
  rw [List.drop_drop]
theorem fixF1 (L : List UInt8) (o : Nat) (h : o + 1 ≤ L.length) : fixL (numF L o 1) 1 = seg L o 1 := by
  unfold numF num; rw [if_pos h]; exact fix1_beNum _ (seg_length L o 1 h)
theorem fixF4 (L : List UInt8) (o : Nat) (h : o + 4 ≤ L.length) : fixL (numF L o 4) 4 = seg L o 4 := by
  unfold numF num; rw [if_pos h]; exact fix4_beNum _ (seg_length L o 4 h)
theorem fixF8 (L : List UInt8) (o : Nat) (h : o + 8 ≤ L.length) : fixL (numF L o 8) 8 = seg L o 8 := by
  unfold numF num; rw [if_pos h]; exact fix8_beNum _ (seg_length L o 8 h)

/-! ### an entry -/
def good5 (l : List UInt8) : Bool := (ent5 l).ok && decide ((ent5 l).lvl ≤ 1) && (pad5 l).all (· == 0)
def get5 (L : List UInt8) (o : Nat) : Ent × Nat := if o + 110 ≤ L.length ∧ good5 (L.drop o) = true then (ent5 (L.drop o), o + 110) else (ent0, L.length + 1)

theorem put_got (l : List UInt8) (h : 110 ≤ l.length) (hok : (ent5 l).ok = true) : (pad5 l).all (· == 0) = true ↔ put5 (ent5 l) = l.take 110 := by
  have h2 := put5_iff (l.take 110) (by rw [List.length_take]; omega) (by rw [ent5_take]; exact ok_data _ hok)
  rw [ent5_take, pad5_take] at h2
  rw [h2, List.all_eq_true]
  simp only [beq_iff_eq]
theorem good5_put (l : List UInt8) (h : 110 ≤ l.length) : good5 l = ((ent5 l).ok && decide ((ent5 l).lvl ≤ 1) && decide (put5 (ent5 l) = l.take 110)) := by
  unfold good5
  cases hok : (ent5 l).ok with
  | false => rfl
  | true =>
    congr 1
    rw [Bool.eq_iff_iff, decide_eq_true_iff]
    exact put_got l h hok
theorem ent0_fits : ent0.Fits := by
  have hz : U64 0 := by unfold U64; omega
  exact ⟨hz, hz, hz, hz, hz, hz, Nat.zero_le _, Nat.zero_le _⟩
theorem get5_fits (L : List UInt8) (o : Nat) : (get5 L o).1.Fits := by
  unfold get5
  split
  · exact ent5_fits _
  · exact ent0_fits
theorem get5_bad (L : List UInt8) (o : Nat) (h : (get5 L o).2 ≤ L.length) : (get5 L o).2 = o + 110 ∧ o + 110 ≤ L.length ∧ put5 (get5 L o).1 = seg L o 110 := by
  unfold get5 at h ⊢
  split
  · rename_i hg
    obtain ⟨h1, h2⟩ := hg
    refine ⟨rfl, h1, ?_⟩
    rw [good5_put _ (by rw [List.length_drop]; omega)] at h2
    simp only [Bool.and_eq_true, decide_eq_true_eq] at h2
    exact h2.2
  · rename_i hg
    rw [if_neg hg] at h
    simp only at h
    omega

/-! ### entries, one behind the other -/
def getN (L : List UInt8) : Nat → Nat → List Ent × Nat
  | 0, o => ([], o)
  | n + 1, o => if L.length < o then ([], o) else ((get5 L o).1 :: (getN L n (get5 L o).2).1, (getN L n (get5 L o).2).2)

theorem getN_bad (L : List UInt8) (n o : Nat) (h : L.length < o) : getN L n o = ([], o) := by
  cases n with
  | zero => rfl
  | succ n => unfold getN; rw [if_pos h]
theorem getN_mono (L : List UInt8) (n : Nat) : ∀ o, L.length < o → L.length < (getN L n o).2 := fun o h => by rw [getN_bad L n o h]; exact h
theorem getN_ok (L : List UInt8) (n : Nat) : ∀ o, (getN L n o).2 ≤ L.length → (getN L n o).1.length = n ∧ (getN L n o).2 = o + 110 * n ∧ (getN L n o).1.flatMap put5 = seg L o (110 * n) := by
  induction n with
  | zero => intro o _; exact ⟨rfl, rfl, rfl⟩
  | succ n ih =>
    intro o h
    unfold getN at h ⊢
    by_cases hb : L.length < o
    · rw [if_pos hb] at h
      simp only at h
      omega
    · rw [if_neg hb] at h ⊢
      simp only at h ⊢
      have h2 : (get5 L o).2 ≤ L.length := by
        rcases Nat.lt_or_ge L.length (get5 L o).2 with h3 | h3
        · have := getN_mono L n _ h3; omega
        · exact h3
      obtain ⟨e1, e2, e3⟩ := get5_bad L o h2
      obtain ⟨i1, i2, i3⟩ := ih _ h
      refine ⟨by rw [List.length_cons, i1], by rw [i2, e1]; omega, ?_⟩
      rw [List.flatMap_cons, i3, e3, e1]
      unfold seg
      rw [show 110 * (n + 1) = 110 + 110 * n by omega, List.take_add, List.drop_drop]
theorem getN_fits (L : List UInt8) (n : Nat) : ∀ o e, e ∈ (getN L n o).1 → e.Fits := by
  induction n with
  | zero => intro o e h; cases h
  | succ n ih =>
    intro o e h
    unfold getN at h
    split at h
    · cases h
    · rcases List.mem_cons.1 h with h | h
      · rw [h]; exact get5_fits L o
      · exact ih _ _ h
theorem getN_le (L : List UInt8) (n : Nat) : ∀ o, (getN L n o).1.length ≤ n := by
  induction n with
  | zero => intro o; exact Nat.le_refl _
  | succ n ih =>
    intro o
    unfold getN
    split
    · exact Nat.zero_le _
    · rw [List.length_cons]; have := ih (get5 L o).2; omega

/-! ### a message -/
def yesN (y : Bool) : Int := if y = true then 1 else 0
def putM5 (m : Msg) : List UInt8 :=
  fixL m.kind 1 ++ (fixL m.sent 1 ++ (fixL m.goal 1 ++ (fixL m.term 8 ++ (fixL m.index 8 ++ (fixL m.prev 8 ++ (fixL m.commit 8 ++ (fixL m.mark 8 ++ (fixL (yesN m.yes) 1 ++ (fixL (m.ents.length : Nat) 1 ++ (m.ents.flatMap put5 ++ (fixL (m.snap.size : Nat) 4 ++ m.snap.data.toList)))))))))))
def entsN (L : List UInt8) : List Ent × Nat := getN L (numF L 44 1).toNat 45
def snapO (L : List UInt8) : Nat := (entsN L).2 + 4
def snapN (L : List UInt8) : Nat := (numF L (entsN L).2 4).toNat
def msg5 (L : List UInt8) : Msg := ⟨numF L 0 1, numF L 1 1, numF L 2 1, numF L 3 8, numF L 11 8, numF L 19 8, numF L 27 8, numF L 35 8, numF L 43 1 == 1, (entsN L).1, bs (strF L (snapO L) (snapN L))⟩
def endM (L : List UInt8) : Nat := snapO L + snapN L
def goodM (L : List UInt8) : Bool := decide (endM L = L.length) && decide (numF L 43 1 ≤ 1) && (msg5 L).ok && decide ((msg5 L).lvl ≤ 1)

theorem strF_le (L : List UInt8) (o k : Nat) : (strF L o k).length ≤ L.length := by
  unfold strF
  split
  · rw [seg_length L o k ‹_›]; omega
  · exact Nat.zero_le _
theorem msg5_fits (L : List UInt8) (h : L.length ≤ maxLen) : (msg5 L).Fits :=
  ⟨numF_u64 _ _ _, numF_u64 _ _ _, numF_u64 _ _ _, numF_u64 _ _ _, numF_u64 _ _ _, getN_fits L _ 45, by
    show (getN L (numF L 44 1).toNat 45).1.length ≤ maxLen
    have := getN_le L (numF L 44 1).toNat 45
    have := numF_byte L 44
    unfold maxLen; omega, by
    show (bs _).size ≤ maxLen
    rw [bs_size]
    have := strF_le L (snapO L) (snapN L)
    omega⟩

theorem entsN_ge (L : List UInt8) : 45 ≤ (entsN L).2 ∨ L.length < (entsN L).2 := by
  rcases Nat.lt_or_ge L.length (entsN L).2 with h | h
  · exact .inr h
  · have := (getN_ok L (numF L 44 1).toNat 45 h).2.1
    left
    show 45 ≤ (getN L _ 45).2
    omega

theorem goodM_put (L : List UInt8) (h : endM L ≤ L.length) : (endM L = L.length ∧ numF L 43 1 ≤ 1) ↔ putM5 (msg5 L) = L := by
  unfold endM snapO at h
  have hb : (entsN L).2 ≤ L.length := by omega
  obtain ⟨g1, g2, g3⟩ := getN_ok L (numF L 44 1).toNat 45 hb
  have h45 : 45 ≤ L.length := by have : (entsN L).2 = 45 + 110 * (numF L 44 1).toNat := g2; omega
  have hn := numF_byte L 44
  have hy := numF_byte L 43
  have hk := numF_four L (entsN L).2
  have hsn : strF L (snapO L) (snapN L) = seg L (snapO L) (snapN L) := by unfold strF; rw [if_pos (by unfold snapO; omega)]
  have hput : putM5 (msg5 L) = seg L 0 1 ++ (seg L 1 1 ++ (seg L 2 1 ++ (seg L 3 8 ++ (seg L 11 8 ++ (seg L 19 8 ++ (seg L 27 8 ++ (seg L 35 8 ++ (fixL (yesN (numF L 43 1 == 1)) 1 ++ (seg L 44 1 ++ (seg L 45 (110 * (numF L 44 1).toNat) ++ (seg L (entsN L).2 4 ++ seg L (snapO L) (snapN L)))))))))))) := by
    unfold putM5 msg5
    simp only
    have e1 : ((entsN L).1.length : Int) = numF L 44 1 := by
      have : (entsN L).1.length = (numF L 44 1).toNat := g1
      omega
    have e2 : (entsN L).1.flatMap put5 = seg L 45 (110 * (numF L 44 1).toNat) := g3
    have e3 : ((bs (strF L (snapO L) (snapN L))).size : Int) = numF L (entsN L).2 4 := by
      rw [hsn, bs_size, seg_length _ _ _ (by unfold snapO; omega)]
      unfold snapN; omega
    rw [e1, e2, e3, bs_list, hsn, fixF1 L 0 (by omega), fixF1 L 1 (by omega), fixF1 L 2 (by omega), fixF8 L 3 (by omega), fixF8 L 11 (by omega), fixF8 L 19 (by omega), fixF8 L 27 (by omega), fixF8 L 35 (by omega), fixF1 L 44 (by omega), fixF4 L _ (by omega)]
  have hL : L = seg L 0 1 ++ (seg L 1 1 ++ (seg L 2 1 ++ (seg L 3 8 ++ (seg L 11 8 ++ (seg L 19 8 ++ (seg L 27 8 ++ (seg L 35 8 ++ (seg L 43 1 ++ (seg L 44 1 ++ (seg L 45 (110 * (numF L 44 1).toNat) ++ (seg L (entsN L).2 4 ++ (seg L (snapO L) (snapN L) ++ L.drop (endM L))))))))))))) := by
    have e2 : (entsN L).2 = 45 + 110 * (numF L 44 1).toNat := g2
    have s1 : seg L (snapO L) (snapN L) ++ L.drop (endM L) = L.drop (snapO L) := (seg_drop L (snapO L) (snapN L)).symm
    have s2 : seg L (entsN L).2 4 ++ L.drop (snapO L) = L.drop (entsN L).2 := (seg_drop L (entsN L).2 4).symm
    rw [s1, s2, e2, ← seg_drop L 45 _, ← seg_drop L 44 1, ← seg_drop L 43 1, ← seg_drop L 35 8, ← seg_drop L 27 8, ← seg_drop L 19 8, ← seg_drop L 11 8, ← seg_drop L 3 8, ← seg_drop L 2 1, ← seg_drop L 1 1, ← seg_drop L 0 1]
    rfl
  have hfy := fixF1 L 43 (by omega)
  constructor
  · rintro ⟨h1, h2⟩
    have hyy : yesN (numF L 43 1 == 1) = numF L 43 1 := by
      have : numF L 43 1 = 0 ∨ numF L 43 1 = 1 := by omega
      rcases this with e | e <;> rw [e] <;> rfl
    rw [hput, hyy, hfy]
    have hd : L.drop (endM L) = [] := by rw [h1]; exact List.drop_length
    rw [hd, List.append_nil] at hL
    exact hL.symm
  · intro he
    rw [hput] at he
    have he2 := he.trans hL
    simp only [List.append_cancel_left_eq] at he2
    obtain ⟨h1, h2⟩ := List.append_inj he2 (by rw [fixL_length _ 1 (by decide), seg_length L 43 1 (by omega)])
    simp only [List.append_cancel_left_eq] at h2
    have h3 : L.drop (endM L) = [] := by
      have := congrArg List.length h2
      rw [List.length_append] at this
      exact List.eq_nil_of_length_eq_zero (by omega)
    have h4 : L.length ≤ endM L := List.drop_eq_nil_iff.1 h3
    have h5 : endM L = L.length := by unfold endM snapO at h4 ⊢; omega
    refine ⟨h5, ?_⟩
    rw [← hfy] at h1
    by_cases h6 : 1 < numF L 43 1
    · exfalso
      have hq : (numF L 43 1 == 1) = false := by simp; omega
      rw [hq] at h1
      obtain ⟨q, hq2⟩ : ∃ q : Nat, numF L 43 1 = (q : Int) := ⟨(numF L 43 1).toNat, by omega⟩
      rw [hq2, fixL_one q (by omega)] at h1
      have h0 : fixL (yesN false) 1 = [0] := by decide
      rw [h0] at h1
      have := congrArg (fun l => (l.headD 0).toNat) h1
      simp at this
      omega
    · omega
end Go.Proofs.YthfaaoeecajkeaaDoor

namespace Go.Proofs.YthfaaoeecajkeaaDoor
open Go.RowKit

/-- varint's reader in the block r: of the list L, at the place o (failed, if o lies beyond its end). -/
def RdAt (w : World) (r : Nat) (L : List UInt8) (o : Nat) : Prop := Rd w r (stL L o).1 (stL L o).2
theorem RdAt.fr {S : List Nat} {w w' : World} {r o : Nat} {L : List UInt8} (h : RdAt w r L o) (hf : Fr S w w') (hn : r ∉ S) : RdAt w' r L o := Blk.fr h hf hn
theorem RdAt.alloc {w : World} {r o : Nat} {L : List UInt8} (h : RdAt w r L o) (x : Obj) : RdAt (w.alloc x) r L o := Blk.alloc h x
theorem RdAt.lt {w : World} {r o : Nat} {L : List UInt8} (h : RdAt w r L o) : r < w.heap.size := Blk.lt h
theorem RdAt.start {w : World} {r : Nat} {L : List UInt8} (h : Rd w r (bs L) false) : RdAt w r L 0 := by
  unfold RdAt stL
  rw [if_pos (Nat.zero_le _)]
  exact h
theorem stL_bad (L : List UInt8) : stL L (L.length + 1) = (bs [], true) := by
  unfold stL
  rw [if_neg (by omega)]
theorem stL_ok (L : List UInt8) (o : Nat) : (!(stL L o).2) = decide (o ≤ L.length) := by
  unfold stL
  by_cases h : o ≤ L.length
  · rw [if_pos h, decide_eq_true h]; rfl
  · rw [if_neg h, decide_eq_false h]; rfl
theorem stL_size (L : List UInt8) (o : Nat) : (stL L o).1.size = L.length - o := by
  unfold stL
  by_cases h : o ≤ L.length
  · rw [if_pos h]; show (bs _).size = _; rw [bs_size, List.length_drop]
  · rw [if_neg h]; show (bs _).size = _; rw [bs_size]; simp; omega

theorem vFixAt (r : Nat) (L : List UInt8) (o k : Nat) (w : World) (h : RdAt w r L o) (hk : k ≤ 8) :
    Calls Tryd.prog 35 #[.pointer (some ⟨r, 0, none⟩), .int .i64 (k : Nat)] w fun e w' => e = .returned (.int .u64 (numF L o k)) ∧ RdAt w' r L (o + k) ∧ Fr [r] w w' := by
  refine (vFixedR r _ _ (k : Int) w h (by omega)).mono ?_
  rw [rdBytes_at]
  rintro e w' ⟨rfl, h1, h2⟩
  exact ⟨ret_int (num_str L o k), h1, h2⟩
theorem vBytesAt (r : Nat) (L : List UInt8) (o k : Nat) (w : World) (h : RdAt w r L o) :
    Calls Tryd.prog 37 #[.pointer (some ⟨r, 0, none⟩), .int .i64 (k : Nat)] w fun e w' => e = .returned (.string (bs (strF L o k))) ∧ RdAt w' r L (o + k) ∧ Fr [r] w w' := by
  refine (vBytes r _ _ (k : Int) w h).mono ?_
  rw [rdBytes_at]
  rintro e w' ⟨rfl, h1, h2⟩
  exact ⟨rfl, h1, h2⟩
end Go.Proofs.YthfaaoeecajkeaaDoor

namespace Go.Proofs.YthfaaoeecajkeaaDoor
open Go.RowKit

/-- The variable `number`: the reader's Fixed. -/
def NumV (w : World) (c r : Nat) : Prop := w.cell? ⟨c, 0, none⟩ = some (.func (.func 35) #[.pointer (some ⟨r, 0, none⟩)] #[])
theorem NumV.frS {S : List Nat} {w w' : World} {c r : Nat} (h : NumV w c r) (hf : Fr S w w') (hc : c < w.heap.size) (hn : c ∉ S) : NumV w' c r := by
  unfold NumV at *
  rw [← h]
  exact World.cell?_of_block (w := w) (hf.block c hc hn)

/-- The reader r of L at the place o, the result's block bo, the variable's c, what has turned since w0. -/
structure GSt (c r bo : Nat) (L : List UInt8) (Z : Array Value) (T : TypeId) (w0 u : World) (o : Nat) : Prop where
  rd : RdAt u r L o
  bk : Blk u bo Z T
  nm : NumV u c r
  fr : Fr [r] w0 u
  sz : c + 1 ≤ u.heap.size
theorem GSt.num {c r bo : Nat} {L : List UInt8} {Z : Array Value} {T : TypeId} {w0 u : World} {o : Nat} (h : GSt c r bo L Z T w0 u o) : u.cell? ⟨c, 0, none⟩ = some (.func (.func 35) #[.pointer (some ⟨r, 0, none⟩)] #[]) := h.nm
/-- How the blocks lie. -/
def Lies (c r bo : Nat) (w0 : World) : Prop := bo ≠ r ∧ c ≠ r ∧ bo ≤ c ∧ r ≤ c ∧ w0.heap.size ≤ c
theorem GSt.call {c r bo : Nat} {L : List UInt8} {Z : Array Value} {T : TypeId} {w0 u u' : World} {o o' : Nat} (h : GSt c r bo L Z T w0 u o) (hd : Lies c r bo w0) (h1 : RdAt u' r L o') (f1 : Fr [r] u u') : GSt c r bo L Z T w0 u' o' := by
  obtain ⟨d1, d2, _⟩ := hd
  exact ⟨h1, h.bk.fr f1 (by simpa using d1), h.nm.frS f1 (by have := h.sz; omega) (by simpa using d2), h.fr.trans1 f1, Nat.le_trans h.sz f1.size⟩
theorem GSt.new {c r bo : Nat} {L : List UInt8} {Z : Array Value} {T : TypeId} {w0 u : World} {o : Nat} (h : GSt c r bo L Z T w0 u o) (x : Obj) : GSt c r bo L Z T w0 (u.alloc x) o :=
  ⟨h.rd.alloc x, h.bk.alloc x, h.nm.frS ((Fr.refl [] u).alloc x) (by have := h.sz; omega) (by simp), h.fr.alloc x, Nat.le_trans h.sz (by simp)⟩
theorem GSt.lt {c r bo : Nat} {L : List UInt8} {Z : Array Value} {T : TypeId} {w0 u : World} {o : Nat} (h : GSt c r bo L Z T w0 u o) : c < u.heap.size := h.sz
/-- A new block: whatever is laid into it. -/
theorem GSt.set {c r bo b : Nat} {L : List UInt8} {Z : Array Value} {T : TypeId} {w0 u u' : World} {o : Nat} (h : GSt c r bo L Z T w0 u o) (hd : Lies c r bo w0) (hb : c < b) (f : Fr [b] u u') : GSt c r bo L Z T w0 u' o := by
  obtain ⟨d1, d2, d3, d4, d5⟩ := hd
  refine ⟨h.rd.fr f (by simp; omega), h.bk.fr f (by simp; omega), h.nm.frS f (by have := h.sz; omega) (by simp; omega), h.fr.trans f (fun x hx => by simp at hx; subst hx; right; omega), Nat.le_trans h.sz f.size⟩
/-- A block made since is none of the reader's. -/
theorem Lies.ne {c r bo b : Nat} {w0 : World} (hd : Lies c r bo w0) (hb : c < b) : b ∉ [r] := by
  obtain ⟨d1, d2, d3, d4, d5⟩ := hd
  simp; omega
end Go.Proofs.YthfaaoeecajkeaaDoor

namespace Go.Proofs.YthfaaoeecajkeaaDoor
open Go.RowKit

/-- Of what there was in w nothing has turned in w' but the block b and rows of bytes that lie from B on. -/
structure Wk (B b : Nat) (w w' : World) : Prop where
  os : w'.os = w.os
  tape : w'.tape = w.tape
  output : w'.output = w.output
  size : w.heap.size ≤ w'.heap.size
  block : ∀ k, k < w.heap.size → k ≠ b → (k < B ∨ ∀ cs fr, w.heap[k]? ≠ some (.cells cs 5 fr)) → w'.heap[k]? = w.heap[k]?

theorem Wk.refl (B b : Nat) (w : World) : Wk B b w w := ⟨rfl, rfl, rfl, Nat.le_refl _, fun _ _ _ _ => rfl⟩
theorem Wk.trans {B b : Nat} {w1 w2 w3 : World} (h : Wk B b w1 w2) (k : Wk B b w2 w3) : Wk B b w1 w3 :=
  ⟨k.os.trans h.os, k.tape.trans h.tape, k.output.trans h.output, Nat.le_trans h.size k.size, fun i hi hn ho => by
    have h1 := h.block i hi hn ho
    rw [k.block i (Nat.lt_of_lt_of_le hi h.size) hn (by rw [h1]; exact ho), h1]⟩
theorem Wk.ofFr {B b : Nat} {w w' : World} (h : Fr [] w w') : Wk B b w w' := ⟨h.os, h.tape, h.output, h.size, fun k hk _ _ => h.block k hk (by simp)⟩
theorem Wk.alloc {B b : Nat} {w w' : World} (h : Wk B b w w') (o : Obj) : Wk B b w (w'.alloc o) := h.trans (Wk.ofFr ((Fr.refl [] _).alloc o))
/-- What a call owes for its writer. -/
theorem Fr.wk {B b : Nat} {w0 w w' : World} (h : Fr [] w0 w) (k : Wk B b w w') (hB : w0.heap.size ≤ B) (hb : w0.heap.size ≤ b) : Fr [] w0 w' :=
  ⟨k.os.trans h.os, k.tape.trans h.tape, k.output.trans h.output, Nat.le_trans h.size k.size, fun i hi hn =>
    (k.block i (Nat.lt_of_lt_of_le hi h.size) (by omega) (.inl (by omega))).trans (h.block i hi hn)⟩
theorem Blk.wk {B b k : Nat} {w w' : World} {cs : Array Value} {t : TypeId} (h : Blk w k cs t) (hw : Wk B b w w') (hn : k ≠ b) (ht : t ≠ 5) : Blk w' k cs t := by
  unfold Blk at *
  rw [hw.block k (blk_lt h) hn (.inr (fun cs' fr e => by rw [h] at e; simp at e; exact ht e.2.1)), h]

/-- A writer in the block b that holds the bytes l. -/
def WrtP (w : World) (B b : Nat) (p : Value) (l : List UInt8) : Prop :=
  ∃ v, w.heap[b]? = some (.cells #[p, v] 64 (0, 0)) ∧ w.ownsRow B 5 1 v l.length (Lib.byteCells l)
def Wrt (w : World) (B b : Nat) (l : List UInt8) : Prop := WrtP w B b (.pointer none) l ∨ WrtP w B b (.pointer (some ⟨b, 0, none⟩)) l

theorem Wrt.new (B : Nat) (w : World) : Wrt (w.alloc (.cells #[.pointer none, .slice none 0 0] 64)) B w.heap.size [] :=
  .inl ⟨_, Blk.new w _ _, World.ownsRow_nil _ _ _ _⟩
theorem WrtP.fr0 {w w' : World} {B b : Nat} {p : Value} {l : List UInt8} (h : WrtP w B b p l) (hf : Fr [] w w') : WrtP w' B b p l := by
  obtain ⟨v, h1, h2⟩ := h
  exact ⟨v, hf.obj h1 (by simp), ownsRow_fr h2 hf (by simp)⟩
theorem Wrt.fr0 {w w' : World} {B b : Nat} {l : List UInt8} (h : Wrt w B b l) (hf : Fr [] w w') : Wrt w' B b l := by
  rcases h with h | h
  · exact .inl (h.fr0 hf)
  · exact .inr (h.fr0 hf)
theorem WrtP.lt {w : World} {B b : Nat} {p : Value} {l : List UInt8} (h : WrtP w B b p l) : b < w.heap.size := by
  obtain ⟨v, h1, _⟩ := h
  exact blk_lt h1

theorem wk_grown {w w' : World} {B b n : Nat} {v : Value} {xs : List Value} (hown : w.ownsRow B 5 1 v n xs) (hg : w.grownBy w' v.ownBlock) : Wk B b w w' := by
  have hf := Fr.ofGrown hg
  refine ⟨hf.os, hf.tape, hf.output, hf.size, fun k hk _ ho => hf.block k hk ?_⟩
  intro hm
  have hm' : v.ownBlock = some k := by simpa using hm
  have hB := (hown.lt k hm').1
  rcases ho with ho | ho
  · omega
  · rcases hown.2 with ⟨rfl, _⟩ | ⟨g, cap, cur, rfl, _, hh, _⟩
    · simp [Value.ownBlock] at hm'
    · simp [Value.ownBlock] at hm'
      subst hm'
      exact ho _ _ hh

set_option maxHeartbeats 1000000 in
set_option maxRecDepth 100000 in
theorem bCopy (w : World) (B b : Nat) (l : List UInt8) (h : Wrt w B b l) :
    Calls Tryd.prog 55 #[.pointer (some ⟨b, 0, none⟩)] w fun e w' => e = .returned (.tuple #[]) ∧ WrtP w' B b (.pointer (some ⟨b, 0, none⟩)) l ∧ Wk B b w w' := by
  obtain ⟨j, hj, hjs⟩ := Option.map_eq_some_iff.1 (show (Tryd.prog.info? 62).map (·.size) = some 2 by kernel_rfl)
  rcases h with h | h
  · obtain ⟨v, hb, hown⟩ := h
    have hB : Blk w b #[.pointer none, v] 64 := hb
    have c0 := hB.cellAt (i := 0) rfl
    have f0 := hB.froz 0
    have hsh : w.shape? b = some (64, 2) := by simp [World.shape?, hb]
    go_enter Tryd.func55, Tryd.ntmps55
    go_wp2
    rw [Lib.run_to_unsafe w ⟨b, 0, none⟩ Tryd.underlying60 Tryd.underlying110 hj (by rw [hjs]; decide) hsh (Nat.zero_lt_succ 1)]
    simp only [Result.andThen]
    rw [Oper.upon_value]
    go_wp2
    rw [run_callFunc_extern Tryd.func75 (by kernel_rfl) (by kernel_rfl) (by kernel_rfl) (e := Extern.AbiNoEscape.same) (by kernel_rfl)]
    rw [Lib.run_noEscape]
    simp only [Result.andThen]
    rw [Oper.upon_value]
    go_wp2
    rw [Lib.run_from_unsafe w ⟨b, 0, none⟩ Tryd.underlying110 Tryd.underlying60 hj hsh (by kernel_rfl)]
    simp only [Result.andThen]
    rw [Oper.upon_value]
    go_wp2
    go_end0
    have hf : Fr [b] w (w.setCell ⟨b, 0, none⟩ (.pointer (some ⟨b, 0, none⟩))) := (Fr.refl _ _).setCell (.inl (by simp)) _
    refine ⟨rfl, ⟨v, ?_, ?_⟩, ?_⟩
    · exact hB.set 0 _
    · refine ownsRow_fr hown hf (fun x hx e => ?_)
      simp at e hx
      subst e
      rcases hown.2 with ⟨rfl, _⟩ | ⟨g, cap, cur, rfl, _, hh, _⟩
      · simp [Value.ownBlock] at hx
      · simp [Value.ownBlock] at hx
        subst hx
        rw [hb] at hh
        simp at hh
    · exact ⟨hf.os, hf.tape, hf.output, hf.size, fun k hk hn _ => hf.block k hk (by simpa using hn)⟩
  · obtain ⟨v, hb, hown⟩ := h
    have hB : Blk w b #[.pointer (some ⟨b, 0, none⟩), v] 64 := hb
    have c0 := hB.cellAt (i := 0) rfl
    go_enter Tryd.func55, Tryd.ntmps55
    go_wp2
    rw [Lib.run_neq_ptr_same w _ Tryd.underlying60 hj]
    go_wp2
    go_end0
    exact ⟨rfl, ⟨v, hb, hown⟩, Wk.refl _ _ _⟩

set_option maxHeartbeats 2000000 in
set_option maxRecDepth 100000 in
theorem bWrite (w : World) (B b : Nat) (l s : List UInt8) (h : Wrt w B b l) (hlen : l.length + s.length ≤ 140737488355328) (hBw : B ≤ w.heap.size) :
    Calls Tryd.prog 28 #[.pointer (some ⟨b, 0, none⟩), .string (bs s)] w fun e w' => e = .returned (.tuple #[.int .i64 (s.length : Nat), .nilIface]) ∧ Wrt w' B b (l ++ s) ∧ Wk B b w w' := by
  obtain ⟨i0, hi, hz0, hz1, hz2⟩ := info_parts (show (Tryd.prog.info? 5).map (fun i => (i.zero, i.size, i.bytes)) = some (some (.int .u8 0), 1, 1) by kernel_rfl)
  have hs := bs_size s
  generalize hS : bs s = S at *
  have HS := Lib.hid hS
  clear hS
  go_enter Tryd.func28, Tryd.ntmps28
  go_wp2_with fail
  refine (bCopy w B b l h).mono ?_
  rintro e w1 ⟨rfl, ⟨v, hb, hown⟩, K1⟩
  have hB : Blk w1 b #[.pointer (some ⟨b, 0, none⟩), v] 64 := hb
  have c1 := hB.cellAt (i := 1) rfl
  have hown0 := Lib.hid hown
  have hx3 : l.length + S.size ≤ maxLen := by unfold maxLen; omega
  have hx4 : l.length + S.size ≤ 140737488355328 := by omega
  have hx5 : B ≤ w1.heap.size := by have := K1.size; omega
  go_wp2_with (at_builtin; refine Lib.wpList_append_own_string _ rfl _ _ 43 9 rfl B 5 i0 Tryd.underlying43 Tryd.underlying9 hi hz0 hz1 hz2 _ _ _ rfl hown0.out S rfl hx3 hx4 hx5 ?_)
  intro v' w2 hown' hgrow hnil
  have hlt : b < w1.heap.size := hB.lt
  have hne : b ∉ v.ownBlock.toList := by
    intro hx
    simp at hx
    rcases hown0.out.2 with ⟨rfl, _⟩ | ⟨g, cap, cur, rfl, _, hh, _⟩
    · simp [Value.ownBlock] at hx
    · simp [Value.ownBlock] at hx
      subst hx
      rw [hb] at hh
      simp at hh
  have hB2 : Blk w2 b #[.pointer (some ⟨b, 0, none⟩), v] 64 := hB.fr (Fr.ofGrown hgrow) hne
  have f1 := hB2.froz 1
  obtain ⟨ao, n', cap, rfl⟩ : ∃ ao n' cap, v' = .slice ao n' cap := by
    rcases hown'.2 with ⟨hv, _⟩ | ⟨g, cap, cur, hv, _⟩
    · exact ⟨_, _, _, hv⟩
    · exact ⟨_, _, _, hv⟩
  have d1 := hB2.cellAt (i := 1) rfl
  have HG := Lib.hid hgrow
  have HO := Lib.hid hown'
  clear hgrow hown' hnil hown hB hb
  go_wp2_with fail
  go_ret2
  have hf : Fr [b] w2 (w2.setCell ⟨b, 1, none⟩ (.slice ao n' cap)) := (Fr.refl _ _).setCell (.inl (by simp)) _
  refine ⟨rfl, .inr ⟨_, hB2.set 1 _, ?_⟩, K1.trans ((wk_grown hown0.out HG.out).trans ⟨hf.os, hf.tape, hf.output, hf.size, fun k hk hn _ => hf.block k hk (by simpa using hn)⟩)⟩
  have e1 : Lib.byteCells (l ++ s) = Lib.byteCells l ++ Lib.strCells S := by rw [Lib.byteCells_append, ← HS.out]; simp [bs, Lib.strCells, Lib.byteCells]
  have e2 : (l ++ s).length = l.length + s.length := List.length_append
  rw [e1, e2]
  refine ownsRow_fr HO.out hf (fun x hx e => ?_)
  simp at e hx
  subst e
  rcases HO.out.2 with ⟨hv, _⟩ | ⟨g, cap, cur, hv, _, hh, _⟩
  · rw [hv] at hx; simp [Value.ownBlock] at hx
  · rw [hv] at hx
    simp [Value.ownBlock] at hx
    subst hx
    rw [hB2] at hh
    simp at hh

set_option maxHeartbeats 1000000 in
set_option maxRecDepth 100000 in
theorem bString (w : World) (B b : Nat) (l : List UInt8) (h : Wrt w B b l) (h0 : l ≠ []) :
    Calls Tryd.prog 30 #[.pointer (some ⟨b, 0, none⟩)] w fun e w' => e = .returned (.string (bs l)) ∧ Wk B b w w' := by
  obtain ⟨p, v, hbk, hown⟩ : ∃ p, WrtP w B b p l := by
    rcases h with h | h
    · exact ⟨_, h⟩
    · exact ⟨_, h⟩
  have hl0 : l.length ≠ 0 := by simpa using h0
  obtain ⟨g, cap, cur, rfl, hbg, hg, hnc, hcm, hcs, htake⟩ : ∃ g cap cur, v = .slice (some ⟨g, 0, none⟩) l.length cap ∧ B ≤ g ∧ w.heap[g]? = some (.cells cur 5 (0, 0)) ∧ l.length ≤ cap ∧ cap ≤ maxLen ∧ cur.size = cap * 1 ∧ cur.toList.take (l.length * 1) = Lib.byteCells l := by
    rcases hown.2 with ⟨_, hz⟩ | ⟨g, cap, cur, hv, r⟩
    · exact absurd hz hl0
    · exact ⟨g, cap, cur, hv, r⟩
  have c1 : w.drew.cell? ⟨b, 1, none⟩ = some (.slice (some ⟨g, 0, none⟩) l.length cap) := by
    have : Blk w.drew b #[p, .slice (some ⟨g, 0, none⟩) l.length cap] 64 := hbk
    exact this.cellAt (i := 1) rfl
  have hSD : (Builtin.unsafeSliceData_ #[43] 94 #[.slice (some ⟨g, 0, none⟩) l.length cap]).run Tryd.prog w.drew = .ok (.pointer (some ⟨g, 0, none⟩)) w.drew :=
    Lib.run_unsafeSliceData_row _ _ _ _ _ _ (by omega)
  have hUS : (Builtin.unsafeString_ #[94, 3] 9 #[.pointer (some ⟨g, 0, none⟩), .int .i64 l.length]).run Tryd.prog w.drew = .ok (.string ⟨l.toArray⟩) (w.drew.freeze ⟨g, 0, none⟩ l.length) := by
    refine Lib.run_unsafeString_row w.drew 94 3 9 5 Tryd.underlying94 (by kernel_rfl) g cur.size (by have hg' : w.drew.heap[g]? = some (.cells cur 5 (0, 0)) := hg; simp [World.shape?, hg']) l h0 (by omega) (by unfold maxLen at hcm; omega) ?_
    intro j x hx
    exact hown.cells (g := g) rfl j (.int .u8 x.toNat) (by simp [Lib.byteCells, hx])
  have hbelow : Wk B b w (w.drew.freeze ⟨g, 0, none⟩ l.length) := by
    unfold World.freeze
    split
    · exact ⟨rfl, rfl, rfl, Nat.le_refl _, fun _ _ _ _ => rfl⟩
    · refine ⟨rfl, rfl, rfl, by simp, fun k hk hn ho => ?_⟩
      have : k ≠ g := by
        rintro rfl
        rcases ho with ho | ho
        · omega
        · exact ho _ _ hg
      simp [Array.getElem?_modify, this.symm]
      rfl
  go_enter Tryd.func30, Tryd.ntmps30
  go_wp2
  go_region
  all_goals (go_wp2; go_ret; exact ⟨rfl, hbelow⟩)
end Go.Proofs.YthfaaoeecajkeaaDoor
