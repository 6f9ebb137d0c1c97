/-
  Texts of this seat, joined: LEx LRises FVar FVar2 LRd LGet LGetC FPut FFix FRef2 FRef2b BBld LPut FMrB.
-/
import Derived.Test.YtnnpjjehecbljaaGreatDoorV12
import Derived.Test.YtnnpjjehecbljaaGreatDoorV03
import Derived.Test.YtnnpjjehecbljaaGreatDoorRows
import Derived.KernelRfl
import Derived.Deep.QuietTactic
import Derived.BigQuiet
import Derived.Deep.RegionHeld3
import Derived.IntWalk
import Derived.Lib.Strings
import Derived.Lib.Builder
import Derived.Lib.AppendStr
import Derived.Lib.UnsafeStr
set_option linter.unusedSimpArgs false
set_option linter.unusedVariables false
namespace Go.Proofs.YtnnpjjehecbljaaGreatDoor
open List renaming getElem?_toArray → lg0, getElem?_cons_succ → lg1, getElem?_cons_zero → lg2, setIfInBounds_toArray → lt0', set_cons_zero → lt1', set_cons_succ → lt2'
open Go.RowKit

set_option linter.unusedSimpArgs false
def exC : Cfg := ⟨[1, 2], [1, 1], 1, false⟩
def exE : Ent := ⟨1, 1, 8, 0, 0, 0, 0, 0, 0, ⟨#[]⟩, ⟨#[]⟩⟩
theorem exC_new : newC [2, 1, 2] = exC := Cfg.eqB_eq (by decide +kernel)
theorem exC_ok : exC.ok = true := by decide +kernel
theorem exE_ok : exE.ok = true := by decide +kernel
theorem exE_fits : exE.Fits := by constructor <;> simp [exE, U64, maxLen] <;> decide
theorem exA : tellC exC exE = (exC, 8) := by unfold tellC; rw [exE_ok]; unfold applyOf exE upgradeOf; simp [exC_ok]; simp [exC]
theorem exT : textC exC = ⟨#[49, 58, 49, 32, 50, 58, 49, 32, 108, 101, 118, 101, 108, 32, 49]⟩ := by decide +kernel

set_option maxRecDepth 100000 in
set_option maxHeartbeats 4000000 in
theorem lExamples (w : World) : Calls Tryz.prog 6 #[] w fun e w' => e = .returned (.bool true) ∧ Fr [] w w' := by
  have hS := ((Sat.refl [] w).new _ rfl #[.int .i64 2, .int .i64 1, .int .i64 2] 3).asRow (by unfold maxLen; simp)
  go_enter Tryz.func6, Tryz.ntmps6
  go_upto_region 2 with (go_at_call 7; refine cNew hS (L := [2, 1, 2]) (hS.mem 0 rfl) (by simp) (by simp) (by rw [exC_new]; exact exC_ok) exC_new rfl ?_; rintro ⟨g1, c1, g2, c2⟩ w1 hS; dsimp only at hS; simp only [cfC, ivV, exC, List.length_cons, List.length_nil, Nat.zero_add, Nat.reduceAdd])
  have hS := hS.new _ rfl #[.slice (some ⟨g1, 0, none⟩) 2 c1, .slice (some ⟨g2, 0, none⟩) 2 c2, .int .i64 1, .bool false] 30
  generalize w1.heap.size = x1 at *
  generalize w1.alloc (.cells #[.slice (some ⟨g1, 0, none⟩) 2 c1, .slice (some ⟨g2, 0, none⟩) 2 c2, .int .i64 1, .bool false] 30) = w2 at *
  go_upto_region 3 with (go_at_call 7; refine Sat.callF hS (lNew0 w2) (fun w3 hS => ?_))
  have hS := hS.new _ rfl #[.slice none 0 0, .slice none 0 0, .int .i64 0, .bool false] 30
  generalize w3.heap.size = x3 at *
  generalize w3.alloc (.cells #[.slice none 0 0, .slice none 0 0, .int .i64 0, .bool false] 30) = w4 at *
  have fs := hS.says
  simp only [says, Ck.say] at fs
  go_upto_region 4 with (go_at_call 11; refine cApply hS (gm := g1) (cm := c1) (gh := g2) (ch := c2) (c := exC) (e := exE) (hS.cf 2 3 rfl rfl (by decide)) exC_ok exE_fits exA ?_; rintro ⟨g3, c3, g4, c4⟩ w5 hS; dsimp only at hS; simp only [cfC, ivV, exC, List.length_cons, List.length_nil, Nat.zero_add, Nat.reduceAdd])
  have hS := hS.new _ rfl #[.slice (some ⟨g3, 0, none⟩) 2 c3, .slice (some ⟨g4, 0, none⟩) 2 c4, .int .i64 1, .bool false] 30
  generalize w5.heap.size = x5 at *
  generalize w5.alloc (.cells #[.slice (some ⟨g3, 0, none⟩) 2 c3, .slice (some ⟨g4, 0, none⟩) 2 c4, .int .i64 1, .bool false] 30) = w6 at *
  clear fs
  have fs := hS.says
  simp only [says, Ck.say] at fs

  refine GoL.begin [(none, fun w => ∀ i, w.cell? ⟨x1, i, none⟩ = #[.slice (some ⟨g1, 0, none⟩) 2 c1, .slice (some ⟨g2, 0, none⟩) 2 c2, .int .i64 1, .bool false][i]?), (none, fun w => ∀ i, w.cell? ⟨x5, i, none⟩ = #[.slice (some ⟨g3, 0, none⟩) 2 c3, .slice (some ⟨g4, 0, none⟩) 2 c4, .int .i64 1, .bool false][i]?)] (by kernel_rfl) ?_ ?_
  · exact (Facts.cons_at (.inr (by simp [fs])) (Facts.cons_at (.inr (by simp [fs])) Facts.nil_at))
  have hS := hS.drew
  clear fs
  have fs := hS.says
  simp only [says, Ck.say] at fs
  generalize w6.drew = w7 at *
  refine' GoL.take 0 [] ?_ ?_ ?_ ?_ ?_
  rotate_left 3
  · (simp only [lg0, lg1, lg2]; rfl)
  · exact fun _ _ _ h => h
  · (refine Or.inl ⟨by first | kernel_rfl | (simp [Region.wanted, yielded]), ?_⟩; intro w hSw; clear hSw; go_simp; first | done | with_reducible rfl)
  rotate_left 1
  · kernel_rfl
  simp only [Act.put, lt0', lt1', lt2']
  refine' GoL.take 1 [] ?_ ?_ ?_ ?_ ?_
  rotate_left 3
  · (simp only [lg0, lg1, lg2]; rfl)
  · exact fun _ _ _ h => h
  · (refine Or.inl ⟨by first | kernel_rfl | (simp [Region.wanted, yielded]), ?_⟩; intro w hSw; clear hSw; go_simp; first | done | with_reducible rfl)
  rotate_left 1
  · kernel_rfl
  simp only [Act.put, lt0', lt1', lt2']
  refine' GoL.take 2 [] ?_ ?_ ?_ ?_ ?_
  rotate_left 3
  · (simp only [lg0, lg1, lg2]; rfl)
  · exact fun _ _ _ h => h
  · (refine Or.inl ⟨by first | kernel_rfl | (simp [Region.wanted, yielded]), ?_⟩; intro w hSw; have f0 := Facts.get hSw 0 rfl (by decide); (try dsimp only at f0); clear hSw; go_simp; first | done | with_reducible rfl)
  rotate_left 1
  · kernel_rfl
  simp only [Act.put, lt0', lt1', lt2']
  refine GoL.ready [3] (by kernel_rfl) (by simp) ?_
  refine GoL.one (by (simp only [lg0, lg1, lg2]; rfl)) (fun K hK => ?_) ?_
  · go_simp
    refine Sat.callF hS (lText g1 c1 g2 c2 exC _ (hS.cf 5 6 rfl rfl (by decide)) exC_ok) (fun w hS => ?_)
    rw [exT]
    clear fs
    have fs := hS.says
    simp only [says, Ck.say] at fs
    refine hK.out _ _ ?_ ?_
    · exact (Facts.cons_at (.inr (by simp [fs])) (Facts.cons_at (.inr (by simp [fs])) Facts.nil_at))
    clear hK K
    try simp only [Act.put, lt0', lt1', lt2']
    refine' GoL.take 4 [] ?_ ?_ ?_ ?_ ?_
    rotate_left 3
    · (simp only [lg0, lg1, lg2]; rfl)
    · exact fun _ _ _ h => h
    · (refine Or.inl ⟨by first | kernel_rfl | (simp [Region.wanted, yielded]), ?_⟩; intro w hSw; clear hSw; go_simp; first | done | with_reducible rfl)
    rotate_left 1
    · kernel_rfl
    simp only [Act.put, lt0', lt1', lt2']
    refine' GoL.take 5 [] ?_ ?_ ?_ ?_ ?_
    rotate_left 3
    · (simp only [lg0, lg1, lg2]; rfl)
    · exact fun _ _ _ h => h
    · (refine Or.inl ⟨by first | kernel_rfl | (simp [Region.wanted, yielded]), ?_⟩; intro w hSw; clear hSw; go_simp; first | done | with_reducible rfl)
    rotate_left 1
    · kernel_rfl
    simp only [Act.put, lt0', lt1', lt2']
    refine' GoL.take 6 [] ?_ ?_ ?_ ?_ ?_
    rotate_left 3
    · (simp only [lg0, lg1, lg2]; rfl)
    · exact fun _ _ _ h => h
    · (refine Or.inl ⟨by first | kernel_rfl | (simp [Region.wanted, yielded]), ?_⟩; intro w hSw; clear hSw; go_simp; first | done | with_reducible rfl)
    rotate_left 1
    · kernel_rfl
    simp only [Act.put, lt0', lt1', lt2']
    refine' GoL.take 7 [] ?_ ?_ ?_ ?_ ?_
    rotate_left 3
    · (simp only [lg0, lg1, lg2]; rfl)
    · exact fun _ _ _ h => h
    · (refine Or.inl ⟨by first | kernel_rfl | (simp [Region.wanted, yielded]), ?_⟩; intro w hSw; clear hSw; go_simp; first | done | with_reducible rfl)
    rotate_left 1
    · kernel_rfl
    simp only [Act.put, lt0', lt1', lt2']
    refine' GoL.take 8 [] ?_ ?_ ?_ ?_ ?_
    rotate_left 3
    · (simp only [lg0, lg1, lg2]; rfl)
    · exact fun _ _ _ h => h
    · (refine Or.inl ⟨by first | kernel_rfl | (simp [Region.wanted, yielded]), ?_⟩; intro w hSw; clear hSw; go_simp; first | done | with_reducible rfl)
    rotate_left 1
    · kernel_rfl
    simp only [Act.put, lt0', lt1', lt2']
    refine' GoL.take 9 [] ?_ ?_ ?_ ?_ ?_
    rotate_left 3
    · (simp only [lg0, lg1, lg2]; rfl)
    · exact fun _ _ _ h => h
    · (refine Or.inl ⟨by first | kernel_rfl | (simp [Region.wanted, yielded]), ?_⟩; intro w hSw; clear hSw; go_simp; first | done | with_reducible rfl)
    rotate_left 1
    · kernel_rfl
    simp only [Act.put, lt0', lt1', lt2']
    refine' GoL.take 10 [] ?_ ?_ ?_ ?_ ?_
    rotate_left 3
    · (simp only [lg0, lg1, lg2]; rfl)
    · exact fun _ _ _ h => h
    · (refine Or.inl ⟨by first | kernel_rfl | (simp [Region.wanted, yielded]), ?_⟩; intro w hSw; clear hSw; go_simp; first | done | with_reducible rfl)
    rotate_left 1
    · kernel_rfl
    simp only [Act.put, lt0', lt1', lt2']
    refine' GoL.take 11 [] ?_ ?_ ?_ ?_ ?_
    rotate_left 3
    · (simp only [lg0, lg1, lg2]; rfl)
    · exact fun _ _ _ h => h
    · (refine Or.inl ⟨by first | kernel_rfl | (simp [Region.wanted, yielded]), ?_⟩; intro w hSw; clear hSw; go_simp; first | done | with_reducible rfl)
    rotate_left 1
    · kernel_rfl
    simp only [Act.put, lt0', lt1', lt2']
    refine' GoL.take 12 [] ?_ ?_ ?_ ?_ ?_
    rotate_left 3
    · (simp only [lg0, lg1, lg2]; rfl)
    · exact fun _ _ _ h => h
    · (refine Or.inl ⟨by first | kernel_rfl | (simp [Region.wanted, yielded]), ?_⟩; intro w hSw; clear hSw; go_simp; first | done | with_reducible rfl)
    rotate_left 1
    · kernel_rfl
    simp only [Act.put, lt0', lt1', lt2']
    refine' GoL.take 13 [] ?_ ?_ ?_ ?_ ?_
    rotate_left 3
    · (simp only [lg0, lg1, lg2]; rfl)
    · exact fun _ _ _ h => h
    · (refine Or.inl ⟨by first | kernel_rfl | (simp [Region.wanted, yielded]), ?_⟩; intro w hSw; clear hSw; go_simp; first | done | with_reducible rfl)
    rotate_left 1
    · kernel_rfl
    simp only [Act.put, lt0', lt1', lt2']
    refine' GoL.take 14 [] ?_ ?_ ?_ ?_ ?_
    rotate_left 3
    · (simp only [lg0, lg1, lg2]; rfl)
    · exact fun _ _ _ h => h
    · (refine Or.inl ⟨by first | kernel_rfl | (simp [Region.wanted, yielded]), ?_⟩; intro w hSw; clear hSw; go_simp; first | done | with_reducible rfl)
    rotate_left 1
    · kernel_rfl
    simp only [Act.put, lt0', lt1', lt2']
    refine' GoL.take 15 [] ?_ ?_ ?_ ?_ ?_
    rotate_left 3
    · (simp only [lg0, lg1, lg2]; rfl)
    · exact fun _ _ _ h => h
    · (refine Or.inl ⟨by first | kernel_rfl | (simp [Region.wanted, yielded]), ?_⟩; intro w hSw; have f1 := Facts.get hSw 1 rfl (by decide); (try dsimp only at f1); clear hSw; go_simp; first | done | with_reducible rfl)
    rotate_left 1
    · kernel_rfl
    simp only [Act.put, lt0', lt1', lt2']
    refine' GoL.take 17 [] ?_ ?_ ?_ ?_ ?_
    rotate_left 3
    · (simp only [lg0, lg1, lg2]; rfl)
    · exact fun _ _ _ h => h
    · (refine Or.inl ⟨by first | kernel_rfl | (simp [Region.wanted, yielded]), ?_⟩; intro w hSw; have f0 := Facts.get hSw 0 rfl (by decide); (try dsimp only at f0); clear hSw; go_simp; first | done | with_reducible rfl)
    rotate_left 1
    · kernel_rfl
    simp only [Act.put, lt0', lt1', lt2']
    refine GoL.ready [16] (by kernel_rfl) (by simp) ?_
    refine GoL.one (by (simp only [lg0, lg1, lg2]; rfl)) (fun K hK => ?_) ?_
    · go_simp
      refine Sat.callF hS (lText g3 c3 g4 c4 exC _ (hS.cf 1 2 rfl rfl (by decide)) exC_ok) (fun w hS => ?_)
      rw [exT]
      clear fs
      have fs := hS.says
      simp only [says, Ck.say] at fs
      refine hK.out _ _ ?_ ?_
      · exact (Facts.cons_at (.inr (by simp [fs])) (Facts.cons_at (.inr (by simp [fs])) Facts.nil_at))
      clear hK K
      try simp only [Act.put, lt0', lt1', lt2']
      refine GoL.ready [18] (by kernel_rfl) (by simp) ?_
      refine GoL.one (by (simp only [lg0, lg1, lg2]; rfl)) (fun K hK => ?_) ?_
      · go_simp
        refine Sat.callF hS (lText g1 c1 g2 c2 exC _ (hS.cf 5 6 rfl rfl (by decide)) exC_ok) (fun w hS => ?_)
        rw [exT]
        clear fs
        have fs := hS.says
        simp only [says, Ck.say] at fs
        refine hK.out _ _ ?_ ?_
        · exact (Facts.cons_at (.inr (by simp [fs])) (Facts.cons_at (.inr (by simp [fs])) Facts.nil_at))
        clear hK K
        try simp only [Act.put, lt0', lt1', lt2']
        refine' GoL.take 19 [] ?_ ?_ ?_ ?_ ?_
        rotate_left 3
        · (simp only [lg0, lg1, lg2]; rfl)
        · exact fun _ _ _ h => h
        · (refine Or.inl ⟨by first | kernel_rfl | (simp [Region.wanted, yielded]), ?_⟩; intro w hSw; clear hSw; go_simp; first | done | with_reducible rfl)
        rotate_left 1
        · kernel_rfl
        simp only [Act.put, lt0', lt1', lt2']
        refine' GoL.take 20 [] ?_ ?_ ?_ ?_ ?_
        rotate_left 3
        · (simp only [lg0, lg1, lg2]; rfl)
        · exact fun _ _ _ h => h
        · (refine Or.inl ⟨by first | kernel_rfl | (simp [Region.wanted, yielded]), ?_⟩; intro w hSw; clear hSw; go_simp; first | done | with_reducible rfl)
        rotate_left 1
        · kernel_rfl
        simp only [Act.put, lt0', lt1', lt2']
        refine' GoL.take 21 [] ?_ ?_ ?_ ?_ ?_
        rotate_left 3
        · (simp only [lg0, lg1, lg2]; rfl)
        · exact fun _ _ _ h => h
        · (refine Or.inl ⟨by first | kernel_rfl | (simp [Region.wanted, yielded]), ?_⟩; intro w hSw; clear hSw; go_simp; first | done | with_reducible rfl)
        rotate_left 1
        · kernel_rfl
        simp only [Act.put, lt0', lt1', lt2']
        refine' GoL.take 22 [] ?_ ?_ ?_ ?_ ?_
        rotate_left 3
        · (simp only [lg0, lg1, lg2]; rfl)
        · exact fun _ _ _ h => h
        · (refine Or.inl ⟨by first | kernel_rfl | (simp [Region.wanted, yielded]), ?_⟩; intro w hSw; have f0 := Facts.get hSw 0 rfl (by decide); (try dsimp only at f0); clear hSw; go_simp; first | done | with_reducible rfl)
        rotate_left 1
        · kernel_rfl
        simp only [Act.put, lt0', lt1', lt2']
        refine GoL.ready [23] (by kernel_rfl) (by simp) ?_
        refine GoL.one (by (simp only [lg0, lg1, lg2]; rfl)) (fun K hK => ?_) ?_
        · go_simp
          refine Sat.callF hS (lHas g1 c1 g2 c2 exC 2 _ (hS.cf 5 6 rfl rfl (by decide)) (by decide)) (fun w hS => ?_)
          rw [show exC.M.contains 2 = true by decide]
          clear fs
          have fs := hS.says
          simp only [says, Ck.say] at fs
          refine hK.out _ _ ?_ ?_
          · exact (Facts.cons_at (.inr (by simp [fs])) (Facts.cons_at (.inr (by simp [fs])) Facts.nil_at))
          clear hK K
          try simp only [Act.put, lt0', lt1', lt2']
          refine' GoL.take 24 [] ?_ ?_ ?_ ?_ ?_
          rotate_left 3
          · (simp only [lg0, lg1, lg2]; rfl)
          · exact fun _ _ _ h => h
          · (refine Or.inl ⟨by first | kernel_rfl | (simp [Region.wanted, yielded]), ?_⟩; intro w hSw; clear hSw; go_simp; first | done | with_reducible rfl)
          rotate_left 1
          · kernel_rfl
          simp only [Act.put, lt0', lt1', lt2']
          refine' GoL.take 25 [] ?_ ?_ ?_ ?_ ?_
          rotate_left 3
          · (simp only [lg0, lg1, lg2]; rfl)
          · exact fun _ _ _ h => h
          · (refine Or.inl ⟨by first | kernel_rfl | (simp [Region.wanted, yielded]), ?_⟩; intro w hSw; clear hSw; go_simp; first | done | with_reducible rfl)
          rotate_left 1
          · kernel_rfl
          simp only [Act.put, lt0', lt1', lt2']
          refine' GoL.take 26 [] ?_ ?_ ?_ ?_ ?_
          rotate_left 3
          · (simp only [lg0, lg1, lg2]; rfl)
          · exact fun _ _ _ h => h
          · (refine Or.inl ⟨by first | kernel_rfl | (simp [Region.wanted, yielded]), ?_⟩; intro w hSw; have f0 := Facts.get hSw 0 rfl (by decide); (try dsimp only at f0); clear hSw; go_simp; first | done | with_reducible rfl)
          rotate_left 1
          · kernel_rfl
          simp only [Act.put, lt0', lt1', lt2']
          refine GoL.ready [27] (by kernel_rfl) (by simp) ?_
          refine GoL.one (by (simp only [lg0, lg1, lg2]; rfl)) (fun K hK => ?_) ?_
          · go_simp
            refine Sat.callF hS (lQuorum g1 c1 g2 c2 exC _ (by decide)) (fun w hS => ?_)
            rw [show ((exC.M.length : Nat) : Int) / 2 + 1 = 2 by decide]
            clear fs
            have fs := hS.says
            simp only [says, Ck.say] at fs
            refine hK.out _ _ ?_ ?_
            · exact (Facts.cons_at (.inr (by simp [fs])) (Facts.cons_at (.inr (by simp [fs])) Facts.nil_at))
            clear hK K
            try simp only [Act.put, lt0', lt1', lt2']
            refine' GoL.take 28 [] ?_ ?_ ?_ ?_ ?_
            rotate_left 3
            · (simp only [lg0, lg1, lg2]; rfl)
            · exact fun _ _ _ h => h
            · (refine Or.inl ⟨by first | kernel_rfl | (simp [Region.wanted, yielded]), ?_⟩; intro w hSw; clear hSw; go_simp; first | done | with_reducible rfl)
            rotate_left 1
            · kernel_rfl
            simp only [Act.put, lt0', lt1', lt2']
            refine' GoL.take 29 [] ?_ ?_ ?_ ?_ ?_
            rotate_left 3
            · (simp only [lg0, lg1, lg2]; rfl)
            · exact fun _ _ _ h => h
            · (refine Or.inl ⟨by first | kernel_rfl | (simp [Region.wanted, yielded]), ?_⟩; intro w hSw; clear hSw; go_simp; first | done | with_reducible rfl)
            rotate_left 1
            · kernel_rfl
            simp only [Act.put, lt0', lt1', lt2']
            refine' GoL.take 30 [] ?_ ?_ ?_ ?_ ?_
            rotate_left 3
            · (simp only [lg0, lg1, lg2]; rfl)
            · exact fun _ _ _ h => h
            · (refine Or.inl ⟨by first | kernel_rfl | (simp [Region.wanted, yielded]), ?_⟩; intro w hSw; clear hSw; go_simp; first | done | with_reducible rfl)
            rotate_left 1
            · kernel_rfl
            simp only [Act.put, lt0', lt1', lt2']
            refine' GoL.take 31 [] ?_ ?_ ?_ ?_ ?_
            rotate_left 3
            · (simp only [lg0, lg1, lg2]; rfl)
            · exact fun _ _ _ h => h
            · (refine Or.inl ⟨by first | kernel_rfl | (simp [Region.wanted, yielded]), ?_⟩; intro w hSw; have f0 := Facts.get hSw 0 rfl (by decide); (try dsimp only at f0); clear hSw; go_simp; first | done | with_reducible rfl)
            rotate_left 1
            · kernel_rfl
            simp only [Act.put, lt0', lt1', lt2']
            refine GoL.ready [32] (by kernel_rfl) (by simp) ?_
            refine GoL.one (by (simp only [lg0, lg1, lg2]; rfl)) (fun K hK => ?_) ?_
            · go_simp
              refine Sat.callF hS (lMay g1 c1 g2 c2 exC 1 _ (by decide) (by decide)) (fun w hS => ?_)
              clear fs
              have fs := hS.says
              simp only [says, Ck.say] at fs
              refine hK.out _ _ ?_ ?_
              · exact (Facts.cons_at (.inr (by simp [fs])) (Facts.cons_at (.inr (by simp [fs])) Facts.nil_at))
              clear hK K
              try simp only [Act.put, lt0', lt1', lt2']
              refine' GoL.take 33 [] ?_ ?_ ?_ ?_ ?_
              rotate_left 3
              · (simp only [lg0, lg1, lg2]; rfl)
              · exact fun _ _ _ h => h
              · (refine Or.inl ⟨by first | kernel_rfl | (simp [Region.wanted, yielded]), ?_⟩; intro w hSw; clear hSw; go_simp; first | done | with_reducible rfl)
              rotate_left 1
              · kernel_rfl
              simp only [Act.put, lt0', lt1', lt2']
              refine' GoL.take 34 [] ?_ ?_ ?_ ?_ ?_
              rotate_left 3
              · (simp only [lg0, lg1, lg2]; rfl)
              · exact fun _ _ _ h => h
              · (refine Or.inl ⟨by first | kernel_rfl | (simp [Region.wanted, yielded]), ?_⟩; intro w hSw; clear hSw; go_simp; first | done | with_reducible rfl)
              rotate_left 1
              · kernel_rfl
              simp only [Act.put, lt0', lt1', lt2']
              refine' GoL.take 35 [] ?_ ?_ ?_ ?_ ?_
              rotate_left 3
              · (simp only [lg0, lg1, lg2]; rfl)
              · exact fun _ _ _ h => h
              · (refine Or.inl ⟨by first | kernel_rfl | (simp [Region.wanted, yielded]), ?_⟩; intro w hSw; have f0 := Facts.get hSw 0 rfl (by decide); (try dsimp only at f0); clear hSw; go_simp; first | done | with_reducible rfl)
              rotate_left 1
              · kernel_rfl
              simp only [Act.put, lt0', lt1', lt2']
              refine GoL.ready [36] (by kernel_rfl) (by simp) ?_
              refine GoL.one (by (simp only [lg0, lg1, lg2]; rfl)) (fun K hK => ?_) ?_
              · go_simp
                refine Sat.callF hS (lMayNo g1 c1 g2 c2 exC 2 _ (by decide) (by decide)) (fun w hS => ?_)
                clear fs
                have fs := hS.says
                simp only [says, Ck.say] at fs
                refine hK.out _ _ ?_ ?_
                · exact (Facts.cons_at (.inr (by simp [fs])) (Facts.cons_at (.inr (by simp [fs])) Facts.nil_at))
                clear hK K
                try simp only [Act.put, lt0', lt1', lt2']
                refine' GoL.take 37 [] ?_ ?_ ?_ ?_ ?_
                rotate_left 3
                · (simp only [lg0, lg1, lg2]; rfl)
                · exact fun _ _ _ h => h
                · (refine Or.inl ⟨by first | kernel_rfl | (simp [Region.wanted, yielded]), ?_⟩; intro w hSw; clear hSw; go_simp; first | done | with_reducible rfl)
                rotate_left 1
                · kernel_rfl
                simp only [Act.put, lt0', lt1', lt2']
                refine' GoL.take 38 [] ?_ ?_ ?_ ?_ ?_
                rotate_left 3
                · (simp only [lg0, lg1, lg2]; rfl)
                · exact fun _ _ _ h => h
                · (refine Or.inl ⟨by first | kernel_rfl | (simp [Region.wanted, yielded]), ?_⟩; intro w hSw; clear hSw; go_simp; first | done | with_reducible rfl)
                rotate_left 1
                · kernel_rfl
                simp only [Act.put, lt0', lt1', lt2']
                refine' GoL.take 39 [] ?_ ?_ ?_ ?_ ?_
                rotate_left 3
                · (simp only [lg0, lg1, lg2]; rfl)
                · exact fun _ _ _ h => h
                · (refine Or.inl ⟨by first | kernel_rfl | (simp [Region.wanted, yielded]), ?_⟩; intro w hSw; clear hSw; go_simp; first | done | with_reducible rfl)
                rotate_left 1
                · kernel_rfl
                simp only [Act.put, lt0', lt1', lt2']
                refine GoL.done (by kernel_rfl) ?_
                go_wp2_with fail
                go_ret
                exact ⟨rfl, hS.fr⟩
              exact AllL.nil
            exact AllL.nil
          exact AllL.nil
        exact AllL.nil
      exact AllL.nil
    exact AllL.nil
  exact AllL.nil
end Go.Proofs.YtnnpjjehecbljaaGreatDoor

namespace Go.Proofs.YtnnpjjehecbljaaGreatDoor
open Go.RowKit
set_option linter.unusedSimpArgs false

theorem someL_len (b : Nat) : (someL b).length ≤ 8 := someP_len b 7
theorem someL_ne (b : Nat) : someL b ≠ [] := by unfold someL; simp
theorem some_ok {b : Nat} (hb : b < 256) : (newC (someL b)).ok = true := some_new ⟨b, hb⟩
def exReg (m : Int) : Ent := ⟨1, 1, 7, 0, 0, 0, 0, m, 2, ⟨#[]⟩, ⟨#[]⟩⟩
def exFin : Ent := ⟨1, 1, 10, 0, 0, 0, 0, 0, 0, ⟨#[]⟩, ⟨#[]⟩⟩
def exLow : Ent := ⟨1, 1, 9, 0, 0, 0, 0, 0, 0, ⟨#[]⟩, ⟨#[]⟩⟩
theorem exFin_ok : exFin.ok = true := by decide +kernel
theorem exLow_ok : exLow.ok = true := by decide +kernel
theorem exReg_ok {m : Int} (h0 : 1 ≤ m) (h1 : m ≤ 7) : (exReg m).ok = true := by
  have h : ∀ k : Fin 7, (exReg (k.val + 1)).ok = true := by decide +kernel
  have := h ⟨m.toNat - 1, by omega⟩
  rwa [show (((m.toNat - 1 : Nat) : Int) + 1) = m by omega] at this
theorem exReg_fits (m : Int) : (exReg m).Fits := by constructor <;> simp [exReg, U64, maxLen] <;> decide
theorem exFin_fits : exFin.Fits := by constructor <;> simp [exFin, U64, maxLen] <;> decide
theorem exLow_fits : exLow.Fits := by constructor <;> simp [exLow, U64, maxLen] <;> decide
theorem rise_M (M : List Int) (k : Nat) : (riseC M k).M = M := rfl
theorem rise_lvl (M : List Int) (k : Nat) : (riseC M k).lvl = 1 := rfl
theorem rise_fin (M : List Int) (k : Nat) : (riseC M k).fin = false := rfl
theorem rise_len {M : List Int} {k : Nat} (h : k ≤ M.length) : (riseC M k).G.length = M.length := by
  show (List.replicate k (2 : Int) ++ List.replicate (M.length - k) 1).length = _
  rw [List.length_append, List.length_replicate, List.length_replicate]
  omega
theorem some_okR : ∀ b : Fin 256, ((List.range ((memL (someL b.val)).length + 1)).all (fun i => (riseC (memL (someL b.val)) i).ok) && Cfg.ok ⟨memL (someL b.val), List.replicate (memL (someL b.val)).length 2, 2, false⟩ && Cfg.ok ⟨memL (someL b.val), List.replicate (memL (someL b.val)).length 2, 2, true⟩) = true := by decide +kernel
/-- What the walk asks of the members. -/
structure RiseOK (M : List Int) : Prop where
  ok : ∀ k, k ≤ M.length → (riseC M k).ok = true
  ok2 : Cfg.ok ⟨M, List.replicate M.length 2, 2, false⟩ = true
  ok3 : Cfg.ok ⟨M, List.replicate M.length 2, 2, true⟩ = true
  up : ∀ k, k < M.length → tellC (riseC M k) exE = (riseC M k, 8)
  reg : ∀ k, k < M.length → tellC (riseC M k) (exReg (M.getD k 0)) = (riseC M (k + 1), 0)
  last : tellC (riseC M M.length) exE = (⟨M, List.replicate M.length 2, 2, false⟩, 0)
  fin : tellC ⟨M, List.replicate M.length 2, 2, false⟩ exFin = (⟨M, List.replicate M.length 2, 2, true⟩, 0)
  low3 : tellC ⟨M, List.replicate M.length 2, 2, true⟩ exLow = (⟨M, List.replicate M.length 2, 2, true⟩, 8)
  low2 : tellC ⟨M, List.replicate M.length 2, 2, false⟩ exLow = (⟨M, List.replicate M.length 2, 1, false⟩, 0)
theorem pair_of {a : Cfg × Int} {c : Cfg} {k : Int} (h1 : (a.2 == k) = true) (h2 : a.1 = c) : a = (c, k) := by
  obtain ⟨x, y⟩ := a
  have : y = k := by simpa using h1
  subst this
  have h2' : x = c := h2
  rw [h2']
theorem riseOK {b : Nat} (hb : b < 256) : RiseOK (memL (someL b)) := by
  have h := some_rises ⟨b, hb⟩
  have h2 := some_okR ⟨b, hb⟩
  simp only at h h2
  generalize memL (someL b) = M at *
  unfold riseB at h
  simp only [Bool.and_eq_true, List.all_eq_true, List.mem_range] at h h2
  obtain ⟨⟨⟨⟨⟨⟨⟨⟨hall, a1⟩, a2⟩, a3⟩, a4⟩, a5⟩, a6⟩, a7⟩, a8⟩ := h
  obtain ⟨⟨r, o2⟩, o3⟩ := h2
  have hmem : ∀ k, k < M.length → 1 ≤ M.getD k 0 ∧ M.getD k 0 ≤ 7 := fun k hk => by
    obtain ⟨h1, h2, h3, h4, h5, h6, h7⟩ := (Cfg.ok_iff _).1 (r 0 (by omega))
    have hm : M.getD k 0 ∈ M := by rw [List.getD_eq_getElem?_getD, List.getElem?_eq_getElem hk]; exact List.getElem_mem hk
    have h8 := rightL_mem h3 h7 _ hm
    have h9 := (rightL_small (by omega) (by decide) h3 h7).1 _ hm
    omega
  refine ⟨fun k hk => r k (by omega), o2, o3, fun k hk => ?_, fun k hk => ?_, ?_, ?_, ?_, ?_⟩
  · obtain ⟨⟨q1, q2⟩, q3⟩ := hall k hk
    have e : tellC (riseC M k) exE = applyOf (riseC M k) true 8 0 0 := by unfold tellC; rw [exE_ok]; rfl
    rw [e]
    refine pair_of q1 (apply_err _ _ _ _ _ ?_)
    have : (applyOf (riseC M k) true 8 0 0).2 = 8 := by simpa using q1
    rw [this]
    decide
  · obtain ⟨⟨q1, q2⟩, q3⟩ := hall k hk
    have e : tellC (riseC M k) (exReg (M.getD k 0)) = applyOf (riseC M k) true 7 (M.getD k 0) 2 := by unfold tellC; rw [exReg_ok (hmem k hk).1 (hmem k hk).2]; rfl
    rw [e]
    exact pair_of q2 (Cfg.eqB_eq q3)
  · have e : tellC (riseC M M.length) exE = applyOf (riseC M M.length) true 8 0 0 := by unfold tellC; rw [exE_ok]; rfl
    rw [e]
    exact pair_of a1 (Cfg.eqB_eq a2)
  · have e : tellC ⟨M, List.replicate M.length 2, 2, false⟩ exFin = applyOf ⟨M, List.replicate M.length 2, 2, false⟩ true 10 0 0 := by unfold tellC; rw [exFin_ok]; rfl
    rw [e]
    exact pair_of a3 (Cfg.eqB_eq a4)
  · have e : tellC ⟨M, List.replicate M.length 2, 2, true⟩ exLow = applyOf ⟨M, List.replicate M.length 2, 2, true⟩ true 9 0 0 := by unfold tellC; rw [exLow_ok]; rfl
    rw [e]
    exact pair_of a5 (Cfg.eqB_eq a6)
  · have e : tellC ⟨M, List.replicate M.length 2, 2, false⟩ exLow = applyOf ⟨M, List.replicate M.length 2, 2, false⟩ true 9 0 0 := by unfold tellC; rw [exLow_ok]; rfl
    rw [e]
    exact pair_of a7 (Cfg.eqB_eq a8)


end Go.Proofs.YtnnpjjehecbljaaGreatDoor

namespace Go.Proofs.YtnnpjjehecbljaaGreatDoor
open Go.RowKit

/-- A reader at block r. -/
def Rd (w : World) (r : Nat) (s : ByteArray) (b : Bool) : Prop := Blk w r #[.string s, .bool b] 99

set_option maxHeartbeats 400000 in
theorem vNew (s : ByteArray) (w : World) :
    Calls Tryz.prog 38 #[.string s] w fun e w' => e = .returned (.pointer (some ⟨w.heap.size, 0, none⟩)) ∧ Rd w' w.heap.size s false ∧ Fr [] w w' := by
  go_enter Tryz.func38, Tryz.ntmps38
  go_wp2
  go_ret
  exact ⟨by simp, Blk.new _ _ _, (Fr.refl _ _).alloc _⟩

set_option maxHeartbeats 400000 in
theorem vFail (r : Nat) (s : ByteArray) (b : Bool) (w : World) (h : Rd w r s b) :
    Calls Tryz.prog 41 #[.pointer (some ⟨r, 0, none⟩)] w fun e w' => e = .returned (.tuple #[]) ∧ Rd w' r ⟨#[]⟩ true ∧ Fr [r] w w' := by
  have c0 := h.cellAt (i := 0) rfl
  have c1 := h.cellAt (i := 1) rfl
  have f0 := h.froz 0
  have f1 := h.froz 1
  go_enter Tryz.func41, Tryz.ntmps41
  go_wp2
  go_end0
  exact ⟨rfl, (Blk.set h 0 _).set 1 _, ((Fr.refl _ _).setCell (by simp) _).setCell (by simp) _⟩

set_option maxHeartbeats 400000 in
theorem vLeft (r : Nat) (s : ByteArray) (b : Bool) (w : World) (h : Rd w r s b) :
    Calls Tryz.prog 43 #[.pointer (some ⟨r, 0, none⟩)] w fun e w' => e = .returned (.int .i64 s.size) ∧ w = w' := by
  have c0 := h.cellAt (i := 0) rfl
  go_enter Tryz.func43, Tryz.ntmps43
  go_wp2
  go_ret
  exact ⟨by simp, rfl⟩

set_option maxHeartbeats 400000 in
theorem vOK (r : Nat) (s : ByteArray) (b : Bool) (w : World) (h : Rd w r s b) :
    Calls Tryz.prog 42 #[.pointer (some ⟨r, 0, none⟩)] w fun e w' => e = .returned (.bool (!b)) ∧ w = w' := by
  have c1 := h.cellAt (i := 1) rfl
  go_enter Tryz.func42, Tryz.ntmps42
  go_wp2
  go_ret
  exact ⟨by simp, rfl⟩

/-- Bytes: what is read, what is left, whether it is bad. -/
def rdBytes (s : ByteArray) (b : Bool) (n : Int) : ByteArray × ByteArray × Bool :=
  if b = true ∨ n < 0 ∨ (s.size : Int) < n then (⟨#[]⟩, ⟨#[]⟩, true) else (s.extract 0 n.toNat, s.extract n.toNat s.size, b)

theorem rdBytes_size (s : ByteArray) (b : Bool) (n : Int) (N : Nat) (hn : n ≤ N) : (rdBytes s b n).1.size ≤ N := by
  unfold rdBytes
  split
  · exact Nat.zero_le _
  · rw [ByteArray.size_extract]; omega

end Go.Proofs.YtnnpjjehecbljaaGreatDoor

namespace Go.Proofs.YtnnpjjehecbljaaGreatDoor
open Go.RowKit

/-- Var: what is read, what is left, whether it is bad. -/
def rdVar (s : ByteArray) (b : Bool) : Int × ByteArray × Bool :=
  match varGo s.data.toList 0 0 with
  | some (n, k) => ((n : Int), s.extract k s.size, b)
  | none => (0, ⟨#[]⟩, true)

theorem drop_cons (s : ByteArray) (k : Nat) (h : k < s.size) : s.data.toList.drop k = s[k] :: s.data.toList.drop (k + 1) := by
  have h' : k < s.data.toList.length := h
  rw [List.drop_eq_getElem_cons h']
  rfl

theorem varGo_more {s : ByteArray} {k : Nat} (h : k < s.size) {n : Nat} (h10 : k < 10) (hc : 128 ≤ s[k].toNat) :
    varGo (s.data.toList.drop k) k n = varGo (s.data.toList.drop (k + 1)) (k + 1) (vS n s[k].toNat k) := by
  rw [drop_cons s k h, varGo, if_neg (by omega), if_pos hc]

theorem varGo_end {s : ByteArray} {k : Nat} {n : Nat} (h : 10 ≤ k ∨ s.size ≤ k) : varGo (s.data.toList.drop k) k n = none := by
  rcases h with h | h
  · cases hl : s.data.toList.drop k with
    | nil => rfl
    | cons c r => rw [varGo, if_pos h]
  · rw [List.drop_eq_nil_of_le (by exact h)]; rfl

theorem rdVar_bad {s : ByteArray} {b : Bool} {k : Nat} {n : Nat} (H : Hid (varGo s.data.toList 0 0 = varGo (s.data.toList.drop k) k n)) (h : k < s.size) (hc : s[k].toNat < 128)
    (hbad : (0 < k ∧ s[k].toNat = 0) ∨ (k = 9 ∧ 1 < s[k].toNat)) : rdVar s b = (0, ⟨#[]⟩, true) := by
  rw [rdVar, H.out, drop_cons s k h, varGo]
  by_cases h10 : 10 ≤ k
  · rw [if_pos h10]
  · rw [if_neg h10, if_neg (by omega), if_pos hbad]

theorem rdVar_ok {s : ByteArray} {b : Bool} {k : Nat} {n : Nat} (H : Hid (varGo s.data.toList 0 0 = varGo (s.data.toList.drop k) k n)) (h : k < s.size) (h10 : k < 10) (hc : s[k].toNat < 128)
    (hok : ¬ ((0 < k ∧ s[k].toNat = 0) ∨ (k = 9 ∧ 1 < s[k].toNat))) : rdVar s b = (((vS n s[k].toNat k : Nat) : Int), s.extract (k + 1) s.size, b) := by
  rw [rdVar, H.out, drop_cons s k h, varGo, if_neg (by omega), if_neg (by omega), if_neg hok]

theorem rdVar_end {s : ByteArray} {b : Bool} {k : Nat} {n : Nat} (H : Hid (varGo s.data.toList 0 0 = varGo (s.data.toList.drop k) k n)) (h : 10 ≤ k ∨ s.size ≤ k) : rdVar s b = (0, ⟨#[]⟩, true) := by
  rw [rdVar, H.out, varGo_end h]

theorem bne_false {a : Nat} (h : ((a : Int) == 0) = false) : a ≠ 0 := by simpa using h

set_option maxRecDepth 100000 in
set_option maxHeartbeats 1000000 in
theorem vVar (r : Nat) (s : ByteArray) (b : Bool) (w : World) (h : Rd w r s b) (hs : s.size ≤ maxLen) :
    Calls Tryz.prog 40 #[.pointer (some ⟨r, 0, none⟩)] w fun e w' =>
      e = .returned (.int .u64 (rdVar s b).1) ∧ Rd w' r (rdVar s b).2.1 (rdVar s b).2.2 ∧ Fr [r] w w' := by
  unfold maxLen at hs
  have c0 := h.cellAt (i := 0) rfl
  have f0 := h.froz 0
  go_enter Tryz.func40, Tryz.ntmps40
  go_wp2_with fail
  have hm := mnI_le 10 s.size
  have hm0 : 0 ≤ mnI 10 s.size := by omega
  generalize mnI 10 s.size = m at *
  go_loop [2, 11] (fun v i => ∃ (k n : Nat) (q : Int), k ≤ m ∧ i = .int .i64 k ∧ v = .int .u64 q ∧ Hid (q = (n : Int) ∧ n < 18446744073709551616) ∧ Hid (varGo s.data.toList 0 0 = varGo (s.data.toList.drop k) k n)) (fun _ i => s.size - (intOf i).toNat)
  case atStart => exact ⟨0, 0, 0, by omega, rfl, rfl, ⟨rfl, by decide⟩, rfl⟩
  case round =>
    obtain ⟨k, n, q, hk, rfl, rfl, HQ, HV⟩ := hrel
    by_cases hlt : k < m
    · have h1 : k < 10 := by omega
      have h2 : k < s.size := by omega
      have HN := Lib.hid (vS_bits (k := k) HQ.out.1 HQ.out.2 s[k].toNat_lt)
      go_wp2_with (go_at_call 41; refine (vFail _ _ _ _ h).mono ?_; rintro e w' ⟨rfl, h3, h4⟩)
      · go_round
        case rel => exact ⟨k + 1, _, _, by omega, by go_num, rfl, ⟨HN.out, vS_lt HQ.out.2⟩, HV.out.trans (varGo_more h2 h1 (by omega))⟩
        case measure => simp [intOf]; omega
      · go_ret
        rw [rdVar_bad HV h2 (by omega) (by omega)]
        exact ⟨by simp, h3, h4⟩
      · go_ret
        rw [rdVar_bad HV h2 (by omega) (by rename_i h5 _; rcases h5 with h5 | h5; (simp at h5; omega); omega)]
        exact ⟨by simp, h3, h4⟩
      · go_ret
        obtain rfl : k = 9 := by omega
        rw [rdVar_ok HV h2 h1 (by omega) (by rename_i h5; have := bne_false h5.1; omega)]
        exact ⟨ret_int HN.out, Blk.set h 0 _, (Fr.refl _ _).setCell (by simp) _⟩
      · go_ret
        rw [rdVar_ok HV h2 h1 (by omega) (by omega)]
        exact ⟨ret_int HN.out, Blk.set h 0 _, (Fr.refl _ _).setCell (by simp) _⟩
      · go_ret
        rw [rdVar_ok HV h2 h1 (by omega) (by omega)]
        exact ⟨ret_int HN.out, Blk.set h 0 _, (Fr.refl _ _).setCell (by simp) _⟩
    · go_wp2_with (go_at_call 41; refine (vFail _ _ _ _ h).mono ?_; rintro e w' ⟨rfl, h3, h4⟩)
      go_ret
      rw [rdVar_end HV (by omega)]
      exact ⟨by simp, h3, h4⟩
end Go.Proofs.YtnnpjjehecbljaaGreatDoor

namespace Go.Proofs.YtnnpjjehecbljaaGreatDoor
open Go.RowKit

theorem bs_ext (l : List UInt8) (a b : Nat) : (bs l).extract a b = bs ((l.take b).drop a) := by
  apply ByteArray.ext
  apply Array.toList_inj.1
  have h := Lib.extract_data (bs l) a b
  rw [bs_list] at h
  rw [h, bs_list, List.drop_take]
theorem rdVar_varL (l : List UInt8) (b : Bool) : rdVar (bs l) b = ((varL (l, b)).1, bs (varL (l, b)).2.1, (varL (l, b)).2.2) := by
  unfold rdVar varL
  show (match varGo (bs l).data.toList 0 0 with | some (n, k) => ((n : Int), (bs l).extract k (bs l).size, b) | none => (0, ⟨#[]⟩, true)) = _
  rw [bs_list]
  cases hv : varGo l 0 0 with
  | none => rfl
  | some p =>
    obtain ⟨n, k⟩ := p
    show ((n : Int), (bs l).extract k (bs l).size, b) = ((n : Int), bs (l.drop k), b)
    rw [bs_ext, bs_size, List.take_of_length_le (Nat.le_refl _)]
theorem varL_left (st : List UInt8 × Bool) : (varL st).2.1.length ≤ st.1.length := by
  unfold varL
  cases varGo st.1 0 0 with
  | none => exact Nat.zero_le _
  | some p => show (st.1.drop p.2).length ≤ _; rw [List.length_drop]; omega
theorem varGo_lt' (l : List UInt8) : ∀ i n, n < 18446744073709551616 → ∀ m k, varGo l i n = some (m, k) → m < 18446744073709551616 := by
  induction l with
  | nil => intro i n _ m k h; simp [varGo] at h
  | cons c l ih =>
    intro i n hn m k h
    rw [varGo] at h
    split at h
    · cases h
    · split at h
      · exact ih _ _ (vS_lt hn) _ _ h
      · split at h
        · cases h
        · cases h; exact vS_lt hn
theorem varL_pos (st : List UInt8 × Bool) : 0 ≤ (varL st).1 ∧ (varL st).1 < 18446744073709551616 := by
  unfold varL
  cases h : varGo st.1 0 0 with
  | none => exact ⟨Int.le_refl 0, by show (0 : Int) < 18446744073709551616; decide⟩
  | some p =>
    have := varGo_lt' _ _ _ (by decide) p.1 p.2 h
    show 0 ≤ (p.1 : Int) ∧ (p.1 : Int) < _
    omega

set_option maxHeartbeats 4000000 in
/-- level.Get's small. -/
theorem lSmall (rp r : Nat) (st : List UInt8 × Bool) (w : World) (hp : Blk w rp #[.pointer (some ⟨r, 0, none⟩)] 79) (h : Rd w r (bs st.1) st.2) (hne : rp ≠ r) (hs : st.1.length ≤ maxLen) :
    Calls Tryz.prog 39 #[.pointer (some ⟨rp, 0, none⟩)] w fun e w' => (∃ v, e = .returned (.int .i64 v) ∧ ((smL st).1 ≤ 7 → v = (smL st).1)) ∧ Rd w' r (bs (smL st).2.1) (smL st).2.2 ∧ Fr [r] w w' := by
  have hv := vVar r (bs st.1) st.2 w h (by rw [bs_size]; exact hs)
  rw [rdVar_varL] at hv
  have hb := varL_pos st
  unfold smL
  generalize hq : varL st = q at *
  obtain ⟨n, l, b⟩ := q
  have HV := Lib.hid hv
  clear hv hq
  dsimp only at *
  have c0 := hp.cellAt (i := 0) rfl
  go_enter Tryz.func39, Tryz.ntmps39
  by_cases h7 : n ≤ 7
  · rw [if_pos h7]
    go_wp2_with (go_at_call 40; refine HV.out.mono ?_; rintro e w1 ⟨rfl, h1, f1⟩)
    go_ret
    exact ⟨by first | exact ⟨n, rfl, fun _ => rfl⟩ | rfl | simp, h1, f1⟩
  · rw [if_neg h7]
    go_wp2_with (first
      | (go_at_call 40; refine HV.out.mono ?_; rintro e w1 ⟨rfl, h1, f1⟩; have c1 := (hp.fr f1 (by simp [hne])).cellAt (i := 0) rfl)
      | (go_at_call 41; refine (vFail r _ _ _ h1).mono ?_; rintro e w2 ⟨rfl, h2, f2⟩))
    go_ret
    exact ⟨⟨_, rfl, fun h => absurd h (by omega)⟩, h2, f1.trans f2 (fun x hx => .inl hx)⟩
end Go.Proofs.YtnnpjjehecbljaaGreatDoor

namespace Go.Proofs.YtnnpjjehecbljaaGreatDoor
open List renaming getElem?_toArray → lg0, getElem?_cons_succ → lg1, getElem?_cons_zero → lg2, setIfInBounds_toArray → lt0', set_cons_zero → lt1', set_cons_succ → lt2'
open Go.RowKit
set_option linter.unusedSimpArgs false

theorem Sat.sm {F : List Nat} {w0 w : World} {H : List Ck} {Q : Ending → World → Prop} (hS : Sat F w0 H w) (n m : Nat) {rp r : Nat} {st : List UInt8 × Bool} (hn : H[n]? = some (rp, .cel #[.pointer (some ⟨r, 0, none⟩)] 79)) (hm : H[m]? = some (r, .cel #[.string (bs st.1), .bool st.2] 99)) (hnm : n ≠ m) (hs : st.1.length ≤ maxLen)
    (k : ∀ v w', ((smL st).1 ≤ 7 → v = (smL st).1) → Sat F w0 (H.set m (r, .cel #[.string (bs (smL st).2.1), .bool (smL st).2.2] 99)) w' → Q (.returned (.int .i64 v)) w') :
    Calls Tryz.prog 39 #[.pointer (some ⟨rp, 0, none⟩)] w Q := by
  refine (lSmall rp r st w (Ck.cel_in.1 (hS.mem n hn)) (Ck.cel_in.1 (hS.mem m hm)) (hS.ne n m hn hm hnm) hs).mono ?_
  rintro e w' ⟨⟨v, rfl, hv⟩, h1, f1⟩
  exact k v w' hv (hS.put m hm f1 (Ck.cel_in.2 h1))
theorem smL_left (st : List UInt8 × Bool) : (smL st).2.1.length ≤ st.1.length := by
  unfold smL
  split
  · exact varL_left st
  · exact Nat.zero_le _
theorem smL_big {st : List UInt8 × Bool} (h : ¬ (smL st).1 ≤ 7) : (smL st).2.2 = true := by
  unfold smL at h ⊢
  split
  · rename_i h7
    rw [if_pos h7] at h
    exact absurd h7 h
  · rfl

theorem smL_pos (st : List UInt8 × Bool) : 0 ≤ (smL st).1 := by
  unfold smL
  split
  · exact (varL_pos st).1
  · exact (varL_pos st).1
theorem smL_fine {st : List UInt8 × Bool} (h : (smL st).2.2 = false) : (smL st).1 ≤ 7 ∧ st.2 = false := by
  have h7 : (smL st).1 ≤ 7 := by
    by_cases h7 : (smL st).1 ≤ 7
    · exact h7
    · rw [smL_big h7] at h; cases h
  refine ⟨h7, ?_⟩
  unfold smL at h h7
  split at h
  · unfold varL at h
    split at h
    · exact h
    · cases h
  · cases h
theorem map_snoc (M : List Int) (v : Int) : M.map (Value.int .i64) ++ [.int .i64 v] = (M ++ [v]).map (Value.int .i64) := by simp
theorem memsL_of_bad {n : Nat} {st : List UInt8 × Bool} (h : st.2 = true) : memsL n st = ([], [], st) := by
  cases n with
  | zero => rfl
  | succ n => rw [memsL, if_pos h]

set_option maxRecDepth 100000 in
set_option maxHeartbeats 16000000 in
theorem lGet (l : List UInt8) (w : World) (hl : l.length ≤ maxLen) (hq : (rawC l).2.1.2 = true ∨ 0 < (rawC l).2.1.1.length ∨ 1 < (rawC l).2.2 ∨ (rawC l).1.ok = true) :
    Calls Tryz.prog 15 #[.string (bs l)] w fun e w' =>
      ((getC l).2 = false ∧ e = .returned (.tuple #[.agg #[.slice none 0 0, .slice none 0 0, .int .i64 0, .bool false], .bool false]) ∧ Fr [] w w') ∨
      ((getC l).2 = true ∧ ∃ gm cm gh ch, e = .returned (.tuple #[.agg (cfC gm cm gh ch (getC l).1), .bool true]) ∧ Sat [] w [(gm, ivCh 3 cm (getC l).1.M), (gh, ivCh 3 ch (getC l).1.G)] w') := by
  have hS := Sat.refl [] w
  have HQ := Lib.hid hq
  clear hq
  go_enter Tryz.func15, Tryz.ntmps15
  go_upto_region 1 with fail
  have hS := hS.new _ rfl #[.slice none 0 0, .slice none 0 0, .int .i64 0, .bool false] 30
  generalize w.heap.size = ret at *
  generalize w.alloc (.cells #[.slice none 0 0, .slice none 0 0, .int .i64 0, .bool false] 30) = w1 at *
  go_upto_region 2 with (go_at_call 38; refine (vNew (bs l) _).mono ?_; rintro e w2 ⟨rfl, h1, f1⟩; have hS := hS.trans0 (Sat.one (c := (_, .cel #[.string (bs l), .bool false] 99)) f1 (Ck.cel_in.2 h1) (.inr (Nat.le_refl _))); dsimp only [List.cons_append, List.nil_append] at hS)
  clear h1 f1
  generalize w1.heap.size = r at *
  have hS := hS.new _ rfl #[.pointer (some ⟨r, 0, none⟩)] 79
  generalize w2.heap.size = rp at *
  generalize w2.alloc (.cells #[.pointer (some ⟨r, 0, none⟩)] 79) = w3 at *
  go_upto_region 4 with fail
  have hS := hS.new _ rfl #[.slice none 0 0, .slice none 0 0, .int .i64 0, .bool false] 30
  generalize w3.heap.size = cx at *
  generalize w3.alloc (.cells #[.slice none 0 0, .slice none 0 0, .int .i64 0, .bool false] 30) = w4 at *
  have fs := hS.says
  simp only [says, Ck.say] at fs
  go_upto_region 5 with (go_at_call 39; refine hS.sm 1 2 rfl rfl (by decide) (st := (l, false)) hl ?_; intro v w5 hv hS; dsimp only [List.set_cons_succ, List.set_cons_zero] at hS; clear fs; have fs := hS.says; simp only [says, Ck.say] at fs)
  have hst1 : (smL (l, false)).2.1.length ≤ maxLen := Nat.le_trans (smL_left _) hl
  have HR : Hid (rawC l = (⟨(memsL (smL (l, false)).1.toNat (smL (l, false)).2).1, (memsL (smL (l, false)).1.toNat (smL (l, false)).2).2.1, (smL (memsL (smL (l, false)).1.toNat (smL (l, false)).2).2.2).1, (smL (smL (memsL (smL (l, false)).1.toNat (smL (l, false)).2).2.2).2).1 == 1⟩, (smL (smL (memsL (smL (l, false)).1.toNat (smL (l, false)).2).2.2).2).2, (smL (smL (memsL (smL (l, false)).1.toNat (smL (l, false)).2).2.2).2).1)) := rfl
  have hbad1 : ¬ (smL (l, false)).1 ≤ 7 → (smL (l, false)).2.2 = true := smL_big
  have hpos1 : 0 ≤ (smL (l, false)).1 := smL_pos _
  generalize (smL (l, false)).1 = n1 at *
  generalize (smL (l, false)).2 = st1 at *
  generalize hmm : memsL n1.toNat st1 = mm at *
  obtain ⟨FM, FG, FS⟩ := mm
  dsimp only at HR
  have HMM := Lib.hid hmm
  clear hmm fs
  go_loopw [13] (fun i wr => ∃ (k : Nat) (M G : List Int) (oM oG : Option (Nat × Nat)) (st : List UInt8 × Bool), k ≤ 7 ∧ i = .int .i64 k ∧ Hid (M.length = k ∧ G.length = k ∧ st.1.length ≤ maxLen ∧ (oM = none → M = []) ∧ (oG = none → G = [])) ∧ Hid (Sat [] w ((cx, .cel #[slV oM k, slV oG k, .int .i64 0, .bool false] 30) :: (rp, .cel #[.pointer (some ⟨r, 0, none⟩)] 79) :: (r, .cel #[.string (bs st.1), .bool st.2] 99) :: (ret, .cel #[.slice none 0 0, .slice none 0 0, .int .i64 0, .bool false] 30) :: (slH 3 oM (M.map (Value.int .i64)) ++ slH 3 oG (G.map (Value.int .i64)))) wr) ∧ Hid ((st.2 = true ∧ FS = st) ∨ (st.2 = false ∧ v = n1 ∧ k ≤ n1.toNat ∧ n1.toNat ≤ 7 ∧ (memsL (n1.toNat - k) st).2.2 = FS ∧ (FS.2 = false → M ++ (memsL (n1.toNat - k) st).1 = FM ∧ G ++ (memsL (n1.toNat - k) st).2.1 = FG)))) (fun i _ => 8 - (intOf i).toNat)
  case atStart =>
    refine ⟨0, [], [], none, none, st1, by omega, rfl, ⟨rfl, rfl, hst1, fun _ => rfl, fun _ => rfl⟩, hS, ?_⟩
    show _ ∨ _
    by_cases hb : st1.2 = true
    · left
      refine ⟨hb, ?_⟩
      have := HMM.out
      rw [memsL_of_bad hb] at this
      exact (congrArg (fun x => x.2.2) this).symm
    · right
      have h7 : n1 ≤ 7 := by
        by_cases h : n1 ≤ 7
        · exact h
        · exact absurd (hbad1 h) hb
      refine ⟨by simpa using hb, hv h7, Nat.zero_le _, by omega, ?_, fun _ => ?_⟩
      · rw [Nat.sub_zero, HMM.out]
      · rw [Nat.sub_zero, HMM.out]; exact ⟨rfl, rfl⟩
  case round =>
    clear hS
    obtain ⟨k, M, G, oM, oG, st, hk7, rfl, HL, hS, HI⟩ := hrel
    have hS := hS.out
    have fs := hS.says
    simp only [says, Ck.say, List.cons_append, List.nil_append] at fs
    by_cases hlt : (k : Int) < v
    · obtain ⟨sl, sb⟩ := st
      dsimp only at *
      cases sb with
      | true =>
        have HE : Hid (FS = (sl, true) ∧ (true = false → M = FM ∧ G = FG)) := by
          rcases HI.out with ⟨-, h⟩ | ⟨h, -⟩
          · exact ⟨h, fun h => by cases h⟩
          · cases h
        go_upto_region 10 with (first | (go_at_call 42; refine (vOK r (bs sl) true _ (Ck.cel_in.1 (hS.mem 2 rfl))).mono ?_; rintro e w' ⟨rfl, rfl⟩) | (go_at_call 39; refine hS.sm 1 2 rfl rfl (by decide) (st := (sl, true)) HL.out.2.2.1 ?_; intro va wa hva hS; dsimp only [List.set_cons_succ, List.set_cons_zero] at hS; clear fs; have fs := hS.says; simp only [says, Ck.say] at fs))
        have hS := hS.set 0 rfl 2 (.int .i64 va)
        simp only [List.set_cons_zero, List.setIfInBounds_toArray, List.set_cons_succ] at hS
        generalize (wa.setCell ⟨cx, 2, none⟩ (.int .i64 va)) = wb at *
        clear fs; have fs := hS.says; simp only [says, Ck.say] at fs
        go_upto_region 11 with (go_at_call 39; refine hS.sm 1 2 rfl rfl (by decide) (st := (smL (sl, true)).2) (Nat.le_trans (smL_left _) HL.out.2.2.1) ?_; intro vb wc hvb hS; dsimp only [List.set_cons_succ, List.set_cons_zero] at hS; clear fs; have fs := hS.says; simp only [says, Ck.say] at fs)
        go_upto_region 12 with fail
        have hS := hS.set 0 rfl 3 (.bool (vb == 1))
        simp only [List.set_cons_zero, List.setIfInBounds_toArray, List.set_cons_succ] at hS
        generalize (wc.setCell ⟨cx, 3, none⟩ (.bool (vb == 1))) = wd at *
        clear fs; have fs := hS.says; simp only [says, Ck.say] at fs
        have hRaw : rawC l = (⟨FM, FG, (smL (sl, true)).1, (smL (smL (sl, true)).2).1 == 1⟩, (smL (smL (sl, true)).2).2, (smL (smL (sl, true)).2).1) := by rw [HR.out, HE.out.1]
        have hq := HQ.out
        rw [hRaw] at hq
        have hgo : (smL (smL (sl, true)).2).2.2 = false → (smL (sl, true)).1 ≤ 7 ∧ (smL (smL (sl, true)).2).1 ≤ 7 ∧ true = false := fun h => ⟨(smL_fine (smL_fine h).2).1, (smL_fine h).1, (smL_fine (smL_fine h).2).2⟩
        generalize (smL (smL (sl, true)).2).1 = b1 at *
        generalize (smL (smL (sl, true)).2).2 = rr at *
        generalize (smL (sl, true)).1 = a1 at *
        obtain ⟨rl, rb⟩ := rr
        dsimp only at *
        have HF : Hid (rb = true ∨ 0 < rl.length ∨ 1 < b1 → (getC l).2 = false) := by
          intro h
          unfold getC
          rw [hRaw, if_pos (by rcases h with h | h | h <;> simp [h])]
        cases rb with
        | true =>
          have f3 := (hS.mem 3 rfl).says
          simp only [Ck.say] at f3
          go_wp2_with (first | (go_at_call 42; refine (vOK r (bs rl) true _ (Ck.cel_in.1 (hS.mem 2 rfl))).mono ?_; rintro e w' ⟨rfl, rfl⟩) | (go_at_call 43; refine (vLeft r (bs rl) true _ (Ck.cel_in.1 (hS.mem 2 rfl))).mono ?_; rintro e w' ⟨rfl, rfl⟩))
          have hS := (((hS.set 3 rfl 0 (.slice none 0 0)).set 3 rfl 1 (.slice none 0 0)).set 3 rfl 2 (.int .i64 0)).set 3 rfl 3 (.bool false)
          simp only [List.set_cons_zero, List.setIfInBounds_toArray, List.set_cons_succ] at hS
          generalize ((((wd.setCell ⟨ret, 0, none⟩ (.slice none 0 0)).setCell ⟨ret, 1, none⟩ (.slice none 0 0)).setCell ⟨ret, 2, none⟩ (.int .i64 0)).setCell ⟨ret, 3, none⟩ (.bool false)) = we at *
          clear fs f3
          have f3 := (hS.mem 3 rfl).says
          simp only [Ck.say] at f3
          refine bodyPost_ret (v := .tuple #[.agg #[.slice none 0 0, .slice none 0 0, .int .i64 0, .bool false], .bool false]) (by simp [results, Tryz.results15, go_sem, f3]) rfl ?_
          exact .inl ⟨HF.out (by simp), rfl, hS.fr⟩
        | false =>
          obtain ⟨h71, h72, hsb⟩ := hgo rfl
          exact absurd hsb (by decide)
      | false =>
        have HN : Hid (k + 1 ≤ 7 ∧ ∀ va vb, ((smL (sl, false)).1 ≤ 7 → va = (smL (sl, false)).1) → ((smL (smL (sl, false)).2).1 ≤ 7 → vb = (smL (smL (sl, false)).2).1) → Hid (((smL (smL (sl, false)).2).2.2 = true ∧ FS = (smL (smL (sl, false)).2).2) ∨ ((smL (smL (sl, false)).2).2.2 = false ∧ v = n1 ∧ k + 1 ≤ n1.toNat ∧ n1.toNat ≤ 7 ∧ (memsL (n1.toNat - (k + 1)) (smL (smL (sl, false)).2).2).2.2 = FS ∧ (FS.2 = false → (M ++ [va]) ++ (memsL (n1.toNat - (k + 1)) (smL (smL (sl, false)).2).2).1 = FM ∧ (G ++ [vb]) ++ (memsL (n1.toNat - (k + 1)) (smL (smL (sl, false)).2).2).2.1 = FG)))) := by
          rcases HI.out with ⟨h, -⟩ | ⟨-, h2, h3, h4, h5, h6⟩
          · cases h
          · have e : n1.toNat - k = (n1.toNat - (k + 1)) + 1 := by omega
            rw [e, memsL, if_neg Bool.false_ne_true] at h5 h6
            refine ⟨by omega, fun va vb ha hb => ?_⟩
            show _ ∨ _
            by_cases hB : (smL (smL (sl, false)).2).2.2 = true
            · left
              rw [memsL_of_bad hB] at h5
              exact ⟨hB, h5.symm⟩
            · right
              have a7 : (smL (sl, false)).1 ≤ 7 := by
                by_cases h : (smL (sl, false)).1 ≤ 7
                · exact h
                · have h9 : (smL (sl, false)).2 = ([], true) := by
                    unfold smL at h ⊢
                    split
                    · rename_i h7; rw [if_pos h7] at h; exact absurd h7 h
                    · rfl
                  rw [h9] at hB
                  exact absurd rfl hB
              have b7 : (smL (smL (sl, false)).2).1 ≤ 7 := by
                by_cases h : (smL (smL (sl, false)).2).1 ≤ 7
                · exact h
                · exact absurd (smL_big h) hB
              refine ⟨by simpa using hB, h2, by omega, h4, h5, fun hf => ?_⟩
              have := h6 hf
              rw [ha a7, hb b7]
              simpa using this
        go_upto_region 7 with (go_at_call 42; refine (vOK r (bs sl) false _ (Ck.cel_in.1 (hS.mem 2 rfl))).mono ?_; rintro e w' ⟨rfl, rfl⟩)
        refine GoL.begin [(some 13, fun w => w.cell? ⟨cx, 0, none⟩ = some (slV oM k)), (some 13, fun w => w.cell? ⟨cx, 1, none⟩ = some (slV oG k))] (by kernel_rfl) ?_ ?_
        · exact (Facts.cons_at (.inr (by simp [fs])) (Facts.cons_at (.inr (by simp [fs])) Facts.nil_at))
        have hS := hS.drew
        clear fs
        have fs := hS.says
        simp only [says, Ck.say] at fs
        generalize wr.drew = w6 at *
        refine' GoL.take 0 [] ?_ ?_ ?_ ?_ ?_
        rotate_left 3
        · (simp only [lg0, lg1, lg2]; rfl)
        · exact fun _ _ _ h => h
        · (refine Or.inl ⟨by first | kernel_rfl | (simp [Region.wanted, yielded]), ?_⟩; intro w hSw; clear hSw; go_simp; first | done | with_reducible rfl)
        rotate_left 1
        · kernel_rfl
        simp only [Act.put, lt0', lt1', lt2']
        refine' GoL.take 1 [13] ?_ ?_ ?_ ?_ ?_
        rotate_left 3
        · (simp only [lg0, lg1, lg2]; rfl)
        · exact fun _ _ _ h => h
        · (refine Or.inl ⟨by first | kernel_rfl | (simp [Region.wanted, yielded]), ?_⟩; intro w hSw; have f0 := Facts.get hSw 0 rfl (by decide); (try dsimp only at f0); clear hSw; go_simp; first | done | with_reducible rfl)
        rotate_left 1
        · kernel_rfl
        simp only [Act.put, lt0', lt1', lt2']
        refine' GoL.take 2 [] ?_ ?_ ?_ ?_ ?_
        rotate_left 3
        · (simp only [lg0, lg1, lg2]; rfl)
        · exact fun _ _ _ h => h
        · (refine Or.inl ⟨by first | kernel_rfl | (simp [Region.wanted, yielded]), ?_⟩; intro w hSw; clear hSw; go_simp; first | done | with_reducible rfl)
        rotate_left 1
        · kernel_rfl
        simp only [Act.put, lt0', lt1', lt2']
        refine' GoL.take 6 [] ?_ ?_ ?_ ?_ ?_
        rotate_left 3
        · (simp only [lg0, lg1, lg2]; rfl)
        · exact fun _ _ _ h => h
        · (refine Or.inl ⟨by first | kernel_rfl | (simp [Region.wanted, yielded]), ?_⟩; intro w hSw; clear hSw; go_simp; first | done | with_reducible rfl)
        rotate_left 1
        · kernel_rfl
        simp only [Act.put, lt0', lt1', lt2']
        refine' GoL.take 7 [13] ?_ ?_ ?_ ?_ ?_
        rotate_left 3
        · (simp only [lg0, lg1, lg2]; rfl)
        · exact fun _ _ _ h => h
        · (refine Or.inl ⟨by first | kernel_rfl | (simp [Region.wanted, yielded]), ?_⟩; intro w hSw; have f1 := Facts.get hSw 1 rfl (by decide); (try dsimp only at f1); clear hSw; go_simp; first | done | with_reducible rfl)
        rotate_left 1
        · kernel_rfl
        simp only [Act.put, lt0', lt1', lt2']
        refine' GoL.take 8 [] ?_ ?_ ?_ ?_ ?_
        rotate_left 3
        · (simp only [lg0, lg1, lg2]; rfl)
        · exact fun _ _ _ h => h
        · (refine Or.inl ⟨by first | kernel_rfl | (simp [Region.wanted, yielded]), ?_⟩; intro w hSw; clear hSw; go_simp; first | done | with_reducible rfl)
        rotate_left 1
        · kernel_rfl
        simp only [Act.put, lt0', lt1', lt2']
        refine GoL.ready [3] (by kernel_rfl) (by simp) ?_
        refine GoL.one (by (simp only [lg0, lg1, lg2]; rfl)) (fun K hK => ?_) ?_
        · go_simp
          refine hS.sm 1 2 rfl rfl (by decide) (st := (sl, false)) HL.out.2.2.1 ?_
          intro va wa hva hS
          dsimp only [List.set_cons_succ, List.set_cons_zero] at hS
          clear fs
          have fs := hS.says
          simp only [says, Ck.say] at fs
          refine hK.out _ _ ?_ ?_
          · exact (Facts.cons_at (.inr (by simp [fs])) (Facts.cons_at (.inr (by simp [fs])) Facts.nil_at))
          clear hK K
          try simp only [Act.put, lt0', lt1', lt2']
          refine GoL.ready [4] (by kernel_rfl) (by simp) ?_
          refine GoL.one (by (simp only [lg0, lg1, lg2]; rfl)) (fun K hK => ?_) ?_
          · go_simp
            have hS := hS.new _ rfl #[.int .i64 va] 3
            generalize wa.heap.size = ba at *
            generalize wa.alloc (.cells #[.int .i64 va] 3) = wb at *
            clear fs
            have fs := hS.says
            simp only [says, Ck.say] at fs
            refine hK.out _ _ ?_ ?_
            · exact (Facts.cons_at (.inr (by simp [fs])) (Facts.cons_at (.inr (by simp [fs])) Facts.nil_at))
            clear hK K
            try simp only [Act.put, lt0', lt1', lt2']
            refine GoL.ready [5] (by kernel_rfl) (by simp) ?_
            refine GoL.one (by (simp only [lg0, lg1, lg2]; rfl)) (fun K hK => ?_) ?_
            · refine step_apS rfl (.tmp 19) (.tmp 22) 28 rfl Tryz.elI oM (l := M.map (Value.int .i64)) (u := .int .i64 va) (vb := ba) (hS.perm (List.perm_append_comm_assoc [_, _, _, _, _] _ _)) ?_ ?_ rfl (Ck.cel_in.1 (hS.mem 0 rfl)) rfl ?_ ?_ ?_
              · intro h0; rw [HL.out.2.2.2.1 h0]; rfl
              · rw [List.length_map, HL.out.1]; rfl
              · rw [List.length_map, HL.out.1]; unfold maxLen; omega
              · rw [List.length_map, HL.out.1]; omega
              intro gM cM wc hS
              try dsimp only [List.cons_append, List.nil_append] at hS
              rw [List.length_map, HL.out.1]
              rw [map_snoc] at hS
              clear fs
              have fs := hS.says
              simp only [says, Ck.say] at fs
              refine hK.out _ _ ?_ ?_
              · exact (Facts.cons_at (.inr (by simp [fs])) (Facts.cons_at (.inr (by simp [fs])) Facts.nil_at))
              clear hK K
              try simp only [Act.put, lt0', lt1', lt2']
              refine' GoL.take 12 [] ?_ ?_ ?_ ?_ ?_
              rotate_left 3
              · (simp only [lg0, lg1, lg2]; rfl)
              · exact fun _ _ _ h => h
              · (refine Or.inl ⟨by first | kernel_rfl | (simp [Region.wanted, yielded]), ?_⟩; intro w hSw; clear hSw; go_simp; first | done | with_reducible rfl)
              rotate_left 1
              · kernel_rfl
              simp only [Act.put, lt0', lt1', lt2']
              refine GoL.ready [9] (by kernel_rfl) (by simp) ?_
              refine GoL.one (by (simp only [lg0, lg1, lg2]; rfl)) (fun K hK => ?_) ?_
              · go_simp
                refine hS.sm 3 4 rfl rfl (by decide) (st := (smL (sl, false)).2) (Nat.le_trans (smL_left _) HL.out.2.2.1) ?_
                intro vb wd hvb hS
                dsimp only [List.set_cons_succ, List.set_cons_zero] at hS
                clear fs
                have fs := hS.says
                simp only [says, Ck.say] at fs
                refine hK.out _ _ ?_ ?_
                · exact (Facts.cons_at (.inr (by simp [fs])) (Facts.cons_at (.inr (by simp [fs])) Facts.nil_at))
                clear hK K
                try simp only [Act.put, lt0', lt1', lt2']
                refine GoL.ready [10] (by kernel_rfl) (by simp) ?_
                refine GoL.one (by (simp only [lg0, lg1, lg2]; rfl)) (fun K hK => ?_) ?_
                · go_simp
                  have hS := hS.new _ rfl #[.int .i64 vb] 3
                  generalize wd.heap.size = bb at *
                  generalize wd.alloc (.cells #[.int .i64 vb] 3) = we at *
                  clear fs
                  have fs := hS.says
                  simp only [says, Ck.say] at fs
                  refine hK.out _ _ ?_ ?_
                  · exact (Facts.cons_at (.inr (by simp [fs])) (Facts.cons_at (.inr (by simp [fs])) Facts.nil_at))
                  clear hK K
                  try simp only [Act.put, lt0', lt1', lt2']
                  refine GoL.ready [11] (by kernel_rfl) (by simp) ?_
                  refine GoL.one (by (simp only [lg0, lg1, lg2]; rfl)) (fun K hK => ?_) ?_
                  · refine step_apS rfl (.tmp 25) (.tmp 28) 28 rfl Tryz.elI oG (l := G.map (Value.int .i64)) (u := .int .i64 vb) (vb := bb) (hS.perm (List.perm_append_comm (l₁ := [_, _, _, _, _, _, _]))) ?_ ?_ rfl (Ck.cel_in.1 (hS.mem 0 rfl)) rfl ?_ ?_ ?_
                    · intro h0; rw [HL.out.2.2.2.2 h0]; rfl
                    · rw [List.length_map, HL.out.2.1]; rfl
                    · rw [List.length_map, HL.out.2.1]; unfold maxLen; omega
                    · rw [List.length_map, HL.out.2.1]; omega
                    intro gG cG wf hS
                    try dsimp only [List.cons_append, List.nil_append] at hS
                    rw [List.length_map, HL.out.2.1]
                    rw [map_snoc] at hS
                    clear fs
                    have fs := hS.says
                    simp only [says, Ck.say] at fs
                    refine hK.out _ _ ?_ ?_
                    · exact (Facts.cons_at (.inr (by simp [fs])) (Facts.cons_at (.inr (by simp [fs])) Facts.nil_at))
                    clear hK K
                    try simp only [Act.put, lt0', lt1', lt2']
                    refine GoL.ready [13] (by kernel_rfl) (by simp) ?_
                    refine GoL.one (by (simp only [lg0, lg1, lg2]; rfl)) (fun K hK => ?_) ?_
                    · go_simp
                      have hS := hS.set 4 rfl 0 (.slice (some ⟨gM, 0, none⟩) (k + 1) cM)
                      simp only [List.set_cons_zero, List.setIfInBounds_toArray, List.set_cons_succ] at hS
                      generalize (wf.setCell ⟨cx, 0, none⟩ (.slice (some ⟨gM, 0, none⟩) (k + 1) cM)) = wg at *
                      clear fs
                      have fs := hS.says
                      simp only [says, Ck.say] at fs
                      refine hK.out _ _ ?_ ?_
                      · exact (Facts.cons_at (.inl (by kernel_rfl)) (Facts.cons_at (.inl (by kernel_rfl)) Facts.nil_at))
                      clear hK K
                      try simp only [Act.put, lt0', lt1', lt2']
                      refine' GoL.take 14 [] ?_ ?_ ?_ ?_ ?_
                      rotate_left 3
                      · (simp only [lg0, lg1, lg2]; rfl)
                      · exact fun _ _ _ h => h
                      · (refine Or.inl ⟨by first | kernel_rfl | (simp [Region.wanted, yielded]), ?_⟩; intro w hSw; clear hSw; go_simp; first | done | with_reducible rfl)
                      rotate_left 1
                      · kernel_rfl
                      simp only [Act.put, lt0', lt1', lt2']
                      refine GoL.ready [15] (by kernel_rfl) (by simp) ?_
                      refine GoL.one (by (simp only [lg0, lg1, lg2]; rfl)) (fun K hK => ?_) ?_
                      · go_simp
                        have hS := hS.set 4 rfl 1 (.slice (some ⟨gG, 0, none⟩) (k + 1) cG)
                        simp only [List.set_cons_zero, List.setIfInBounds_toArray, List.set_cons_succ] at hS
                        generalize (wg.setCell ⟨cx, 1, none⟩ (.slice (some ⟨gG, 0, none⟩) (k + 1) cG)) = wh at *
                        clear fs
                        have fs := hS.says
                        simp only [says, Ck.say] at fs
                        refine hK.out _ _ ?_ ?_
                        · exact (Facts.cons_at (.inl (by kernel_rfl)) (Facts.cons_at (.inl (by kernel_rfl)) Facts.nil_at))
                        clear hK K
                        try simp only [Act.put, lt0', lt1', lt2']
                        refine GoL.done (by kernel_rfl) ?_
                        go_wp2_with fail
                        go_roundw
                        case rel => exact ⟨k + 1, M ++ [va], G ++ [vb], some (gM, cM), some (gG, cG), (smL (smL (sl, false)).2).2, HN.out.1, by first | rfl | go_num, ⟨by rw [List.length_append, HL.out.1]; rfl, by rw [List.length_append, HL.out.2.1]; rfl, Nat.le_trans (smL_left _) (Nat.le_trans (smL_left _) HL.out.2.2.1), (fun h => by cases h), (fun h => by cases h)⟩, hS.pick [4, 5, 6, 7, 2, 0] (by decide) rfl, HN.out.2 va vb hva hvb⟩
                        case measure => simp [intOf]; omega
                      exact AllL.nil
                    exact AllL.nil
                  exact AllL.nil
                exact AllL.nil
              exact AllL.nil
            exact AllL.nil
          exact AllL.nil
        exact AllL.nil
    · obtain ⟨sl, sb⟩ := st
      dsimp only at *
      have HE : Hid (FS = (sl, sb) ∧ (sb = false → M = FM ∧ G = FG)) := by
        rcases HI.out with ⟨h, h'⟩ | ⟨h, h2, h3, h4, h5, h6⟩
        · refine ⟨h', fun hb => ?_⟩
          rw [hb] at h
          cases h
        · have e : n1.toNat - k = 0 := by omega
          rw [e] at h5 h6
          have h7 : FS = (sl, sb) := h5.symm
          refine ⟨h7, fun hb => ?_⟩
          have := h6 (by rw [h7]; exact hb)
          simpa [memsL] using this
      go_upto_region 10 with (first | fail | (go_at_call 39; refine hS.sm 1 2 rfl rfl (by decide) (st := (sl, sb)) HL.out.2.2.1 ?_; intro va wa hva hS; dsimp only [List.set_cons_succ, List.set_cons_zero] at hS; clear fs; have fs := hS.says; simp only [says, Ck.say] at fs))
      have hS := hS.set 0 rfl 2 (.int .i64 va)
      simp only [List.set_cons_zero, List.setIfInBounds_toArray, List.set_cons_succ] at hS
      generalize (wa.setCell ⟨cx, 2, none⟩ (.int .i64 va)) = wb at *
      clear fs; have fs := hS.says; simp only [says, Ck.say] at fs
      go_upto_region 11 with (go_at_call 39; refine hS.sm 1 2 rfl rfl (by decide) (st := (smL (sl, sb)).2) (Nat.le_trans (smL_left _) HL.out.2.2.1) ?_; intro vb wc hvb hS; dsimp only [List.set_cons_succ, List.set_cons_zero] at hS; clear fs; have fs := hS.says; simp only [says, Ck.say] at fs)
      go_upto_region 12 with fail
      have hS := hS.set 0 rfl 3 (.bool (vb == 1))
      simp only [List.set_cons_zero, List.setIfInBounds_toArray, List.set_cons_succ] at hS
      generalize (wc.setCell ⟨cx, 3, none⟩ (.bool (vb == 1))) = wd at *
      clear fs; have fs := hS.says; simp only [says, Ck.say] at fs
      have hRaw : rawC l = (⟨FM, FG, (smL (sl, sb)).1, (smL (smL (sl, sb)).2).1 == 1⟩, (smL (smL (sl, sb)).2).2, (smL (smL (sl, sb)).2).1) := by rw [HR.out, HE.out.1]
      have hq := HQ.out
      rw [hRaw] at hq
      have hgo : (smL (smL (sl, sb)).2).2.2 = false → (smL (sl, sb)).1 ≤ 7 ∧ (smL (smL (sl, sb)).2).1 ≤ 7 ∧ sb = false := fun h => ⟨(smL_fine (smL_fine h).2).1, (smL_fine h).1, (smL_fine (smL_fine h).2).2⟩
      generalize (smL (smL (sl, sb)).2).1 = b1 at *
      generalize (smL (smL (sl, sb)).2).2 = rr at *
      generalize (smL (sl, sb)).1 = a1 at *
      obtain ⟨rl, rb⟩ := rr
      dsimp only at *
      have HF : Hid (rb = true ∨ 0 < rl.length ∨ 1 < b1 → (getC l).2 = false) := by
        intro h
        unfold getC
        rw [hRaw, if_pos (by rcases h with h | h | h <;> simp [h])]
      cases rb with
      | true =>
        have f3 := (hS.mem 3 rfl).says
        simp only [Ck.say] at f3
        go_wp2_with (first | (go_at_call 42; refine (vOK r (bs rl) true _ (Ck.cel_in.1 (hS.mem 2 rfl))).mono ?_; rintro e w' ⟨rfl, rfl⟩) | (go_at_call 43; refine (vLeft r (bs rl) true _ (Ck.cel_in.1 (hS.mem 2 rfl))).mono ?_; rintro e w' ⟨rfl, rfl⟩))
        have hS := (((hS.set 3 rfl 0 (.slice none 0 0)).set 3 rfl 1 (.slice none 0 0)).set 3 rfl 2 (.int .i64 0)).set 3 rfl 3 (.bool false)
        simp only [List.set_cons_zero, List.setIfInBounds_toArray, List.set_cons_succ] at hS
        generalize ((((wd.setCell ⟨ret, 0, none⟩ (.slice none 0 0)).setCell ⟨ret, 1, none⟩ (.slice none 0 0)).setCell ⟨ret, 2, none⟩ (.int .i64 0)).setCell ⟨ret, 3, none⟩ (.bool false)) = we at *
        clear fs f3
        have f3 := (hS.mem 3 rfl).says
        simp only [Ck.say] at f3
        refine bodyPost_ret (v := .tuple #[.agg #[.slice none 0 0, .slice none 0 0, .int .i64 0, .bool false], .bool false]) (by simp [results, Tryz.results15, go_sem, f3]) rfl ?_
        exact .inl ⟨HF.out (by simp), rfl, hS.fr⟩
      | false =>
        obtain ⟨h71, h72, hsb⟩ := hgo rfl
        obtain rfl := hvb h72
        obtain rfl := hva h71
        by_cases hrl : 0 < rl.length
        · have hz : (0 : Int) < ((bs rl).size : Int) := by rw [bs_size]; omega
          have hz1 : 0 < (bs rl).size := by rw [bs_size]; exact hrl
          have hz2 : decide (0 < (bs rl).size) = true := decide_eq_true hz1
          have hz3 : decide ((0 : Int) < ((bs rl).size : Int)) = true := decide_eq_true hz
          have f3 := (hS.mem 3 rfl).says
          simp only [Ck.say] at f3
          go_wp2_with (first | (go_at_call 42; refine (vOK r (bs rl) false _ (Ck.cel_in.1 (hS.mem 2 rfl))).mono ?_; rintro e w' ⟨rfl, rfl⟩) | (go_at_call 43; refine (vLeft r (bs rl) false _ (Ck.cel_in.1 (hS.mem 2 rfl))).mono ?_; rintro e w' ⟨rfl, rfl⟩))
          have hS := (((hS.set 3 rfl 0 (.slice none 0 0)).set 3 rfl 1 (.slice none 0 0)).set 3 rfl 2 (.int .i64 0)).set 3 rfl 3 (.bool false)
          simp only [List.set_cons_zero, List.setIfInBounds_toArray, List.set_cons_succ] at hS
          generalize ((((wd.setCell ⟨ret, 0, none⟩ (.slice none 0 0)).setCell ⟨ret, 1, none⟩ (.slice none 0 0)).setCell ⟨ret, 2, none⟩ (.int .i64 0)).setCell ⟨ret, 3, none⟩ (.bool false)) = we at *
          clear fs f3
          have f3 := (hS.mem 3 rfl).says
          simp only [Ck.say] at f3
          refine bodyPost_ret (v := .tuple #[.agg #[.slice none 0 0, .slice none 0 0, .int .i64 0, .bool false], .bool false]) (by simp [results, Tryz.results15, go_sem, f3]) rfl ?_
          exact .inl ⟨HF.out (by simp [hrl]), rfl, hS.fr⟩
        · have hz : ((bs rl).size : Int) = 0 := by rw [bs_size]; omega
          by_cases h1 : 1 < vb
          · skip
            have f3 := (hS.mem 3 rfl).says
            simp only [Ck.say] at f3
            go_wp2_with (first | (go_at_call 42; refine (vOK r (bs rl) false _ (Ck.cel_in.1 (hS.mem 2 rfl))).mono ?_; rintro e w' ⟨rfl, rfl⟩) | (go_at_call 43; refine (vLeft r (bs rl) false _ (Ck.cel_in.1 (hS.mem 2 rfl))).mono ?_; rintro e w' ⟨rfl, rfl⟩))
            have hS := (((hS.set 3 rfl 0 (.slice none 0 0)).set 3 rfl 1 (.slice none 0 0)).set 3 rfl 2 (.int .i64 0)).set 3 rfl 3 (.bool false)
            simp only [List.set_cons_zero, List.setIfInBounds_toArray, List.set_cons_succ] at hS
            generalize ((((wd.setCell ⟨ret, 0, none⟩ (.slice none 0 0)).setCell ⟨ret, 1, none⟩ (.slice none 0 0)).setCell ⟨ret, 2, none⟩ (.int .i64 0)).setCell ⟨ret, 3, none⟩ (.bool false)) = we at *
            clear fs f3
            have f3 := (hS.mem 3 rfl).says
            simp only [Ck.say] at f3
            refine bodyPost_ret (v := .tuple #[.agg #[.slice none 0 0, .slice none 0 0, .int .i64 0, .bool false], .bool false]) (by simp [results, Tryz.results15, go_sem, f3]) rfl ?_
            exact .inl ⟨HF.out (by simp [h1]), rfl, hS.fr⟩
          · obtain ⟨hMF, hGF⟩ := HE.out.2 hsb
            subst hMF
            subst hGF
            have hok : (Cfg.ok ⟨M, G, va, vb == 1⟩) = true := by
              rcases hq with h | h | h | h
              · cases h
              · exact absurd h hrl
              · exact absurd h h1
              · exact h
            have HOK := Lib.hid hok
            have HG : Hid (getC l = (⟨M, G, va, vb == 1⟩, true)) := by
              show _ = _
              unfold getC
              rw [hRaw, if_neg]
              rintro (h | h | h | h)
              · cases h
              · exact hrl h
              · exact h1 h
              · rw [hok] at h; cases h
            have hM1 : 1 ≤ M.length := ((Cfg.ok_iff _).1 hok).1
            obtain ⟨⟨gM, cM⟩, rfl⟩ : ∃ x, oM = some x := by
              cases oM with
              | none => rw [HL.out.2.2.2.1 rfl] at hM1; exact absurd hM1 (by decide)
              | some x => exact ⟨x, rfl⟩
            obtain ⟨⟨gG, cG⟩, rfl⟩ : ∃ x, oG = some x := by
              cases oG with
              | none => have h9 := HL.out.2.1; rw [HL.out.2.2.2.2 rfl] at h9; rw [HL.out.1, ← h9] at hM1; exact absurd hM1 (by decide)
              | some x => exact ⟨x, rfl⟩
            have EC : Hid ((#[slV (some (gM, cM)) k, slV (some (gG, cG)) k, .int .i64 va, .bool (vb == 1)] : Array Value) = cfC gM cM gG cG ⟨M, G, va, vb == 1⟩) := by show _ = _; unfold cfC ivV slV; rw [HL.out.1, HL.out.2.1]
            clear hM1 hok hq hRaw hgo hva hvb h71 h72 hsb hrl fs
            dsimp only [slH, List.cons_append, List.nil_append] at hS
            dsimp only [slV] at hS EC
            have fs := hS.says
            simp only [says, Ck.say] at fs
            have f3 := (hS.mem 3 rfl).says
            simp only [Ck.say] at f3
            go_upto_region 14 with (first | (go_at_call 42; refine (vOK r (bs rl) false _ (Ck.cel_in.1 (hS.mem 2 rfl))).mono ?_; rintro e w' ⟨rfl, rfl⟩) | (go_at_call 43; refine (vLeft r (bs rl) false _ (Ck.cel_in.1 (hS.mem 2 rfl))).mono ?_; rintro e w' ⟨rfl, rfl⟩) | (go_at_call 12; rw [EC.out]; refine Sat.callF hS (lRight gM cM gG cG ⟨M, G, va, vb == 1⟩ _ (hS.cf 4 5 rfl rfl (by decide)) HOK.out) (fun we hS => ?_); clear fs f3; have fs := hS.says; simp only [says, Ck.say] at fs))
            have f3 := (hS.mem 3 rfl).says
            simp only [Ck.say] at f3
            go_wp2_with fail
            have hS := ((((hS.set 3 rfl 0 (.slice (some ⟨gM, 0, none⟩) k cM)).set 3 rfl 1 (.slice (some ⟨gG, 0, none⟩) k cG)).set 3 rfl 2 (.int .i64 va)).set 3 rfl 3 (.bool (vb == 1)))
            simp only [List.set_cons_zero, List.setIfInBounds_toArray, List.set_cons_succ] at hS
            generalize ((((we.setCell ⟨ret, 0, none⟩ (.slice (some ⟨gM, 0, none⟩) k cM)).setCell ⟨ret, 1, none⟩ (.slice (some ⟨gG, 0, none⟩) k cG)).setCell ⟨ret, 2, none⟩ (.int .i64 va)).setCell ⟨ret, 3, none⟩ (.bool (vb == 1))) = wf at *
            clear fs f3
            have f3 := (hS.mem 3 rfl).says
            simp only [Ck.say] at f3
            refine bodyPost_ret (v := .tuple #[.agg #[.slice (some ⟨gM, 0, none⟩) k cM, .slice (some ⟨gG, 0, none⟩) k cG, .int .i64 va, .bool (vb == 1)], .bool true]) (by simp [results, Tryz.results15, go_sem, f3]) rfl ?_
            refine .inr ⟨by rw [HG.out], gM, cM, gG, cG, ?_, ?_⟩
            · rw [HG.out, EC.out]
            · rw [HG.out]; exact hS.pick [4, 5] (by decide) rfl
end Go.Proofs.YtnnpjjehecbljaaGreatDoor

namespace Go.Proofs.YtnnpjjehecbljaaGreatDoor
open Go.RowKit
set_option linter.unusedSimpArgs false

theorem cGetYes {F : List Nat} {w0 w : World} {H : List Ck} {Q : Ending → World → Prop} (hS : Sat F w0 H w) (c : Cfg) (hok : c.ok = true) {l : List UInt8} (hl : l = putC c)
    (k : ∀ (x : Nat × Nat × Nat × Nat) w', Sat F w0 ((x.1, ivCh 3 x.2.1 c.M) :: (x.2.2.1, ivCh 3 x.2.2.2 c.G) :: H) w' → Q (.returned (.tuple #[.agg (cfC x.1 x.2.1 x.2.2.1 x.2.2.2 c), .bool true])) w') :
    Calls Tryz.prog 15 #[.string (bs l)] w Q := by
  subst hl
  have e := rawC_put c hok []
  rw [List.append_nil] at e
  have hlen := putC_length c hok
  refine (lGet (putC c) w (by have := ((Cfg.ok_iff c).1 hok).2.1; unfold maxLen; omega) (.inr (.inr (.inr (by rw [e]; exact hok))))).mono ?_
  rintro r w' (⟨h, -, -⟩ | ⟨-, gm, cm, gh, ch, rfl, h⟩)
  · rw [getC_put c hok] at h; cases h
  · rw [getC_put c hok] at h ⊢
    exact k (gm, cm, gh, ch) w' (hS.trans0 h)
theorem cGetNo {F : List Nat} {w0 w : World} {H : List Ck} {Q : Ending → World → Prop} (hS : Sat F w0 H w) {l : List UInt8} (hl : l.length ≤ maxLen) (hq : (rawC l).2.1.2 = true ∨ 0 < (rawC l).2.1.1.length)
    (k : ∀ w', Sat F w0 H w' → Q (.returned (.tuple #[.agg #[.slice none 0 0, .slice none 0 0, .int .i64 0, .bool false], .bool false])) w') :
    Calls Tryz.prog 15 #[.string (bs l)] w Q := by
  have hn : (getC l).2 = false := by
    unfold getC
    rw [if_pos (by rcases hq with h | h; exact .inl h; exact .inr (.inl h))]
  refine (lGet l w hl (by rcases hq with h | h; exact .inl h; exact .inr (.inl h))).mono ?_
  rintro r w' (⟨-, rfl, f⟩ | ⟨h, -⟩)
  · exact k w' (hS.fr0 f)
  · rw [hn] at h; cases h
end Go.Proofs.YtnnpjjehecbljaaGreatDoor

namespace Go.Proofs.YtnnpjjehecbljaaGreatDoor
open Go.RowKit

theorem Tryz.elB : ElT Tryz.prog 47 5 (.int .u8 0) 1 1 := ElT.mk' Tryz.underlying47 (by kernel_rfl) rfl (by decide)

def cellsB (l : List UInt8) : List Value := l.map (fun b => Value.int .u8 (b.toNat : Int))

theorem or128 : ∀ r : Fin 256, bits BinOp.or IntKind.u8 (r.val : Int) 128 = (r.val : Int) % 128 + 128 := by decide +kernel

theorem or128_int (q : Int) (_h : 0 ≤ q) : bits BinOp.or IntKind.u8 (q % 256) 128 = ((UInt8.ofNat (q.toNat % 128 + 128)).toNat : Int) := by
  have h1 := or128 ⟨(q % 256).toNat, by omega⟩
  have h2 : (((q % 256).toNat : Nat) : Int) = q % 256 := by omega
  simp only [h2] at h1
  rw [h1]
  simp
  omega

theorem putF_more {f : Nat} {q : Int} (_h : 0 ≤ q) (hq : 128 ≤ q) : putF (f + 1) q.toNat = UInt8.ofNat (q.toNat % 128 + 128) :: putF f (q / 128).toNat := by
  rw [putF, if_neg (by omega)]
  congr 2
  omega

theorem putF_last {f : Nat} {q : Int} (hq : q < 128) : putF (f + 1) q.toNat = [UInt8.ofNat q.toNat] := by
  rw [putF, if_pos (by omega)]

theorem cellsB_snoc (l : List UInt8) (b : UInt8) : cellsB l ++ [.int .u8 (b.toNat : Int)] = cellsB (l ++ [b]) := by simp [cellsB]

theorem ofNat_toNat {q : Int} (h0 : 0 ≤ q) (h : q < 256) : ((UInt8.ofNat q.toNat).toNat : Int) = q := by simp; omega

set_option maxRecDepth 100000 in
set_option maxHeartbeats 1000000 in
theorem vPut (n : Int) (w : World) (hn0 : 0 ≤ n) (hn : n < 18446744073709551616):
    Calls Tryz.prog 36 #[.int .u64 n] w fun e w' =>
      e = .returned (.string (bs (putL n.toNat))) ∧ Fr [] w w' := by
  have Hn : Hid (n.toNat < 128 ^ 10) := show n.toNat < 128 ^ 10 from Nat.lt_of_lt_of_le (m := 18446744073709551616) (by omega) (by decide)
  go_enter Tryz.func36, Tryz.ntmps36
  go_wp2_with (refine wpList_make0 Tryz.elB _ _ 10 _ _ rfl rfl w.heap.size (Nat.le_refl _) (by decide) (by decide) ?_; intro v0 w0 hO0 hF0)
  go_loopw [0, 3] (fun x v wr => ∃ q f l, x = .int .u64 q ∧ 0 ≤ q ∧ q < 18446744073709551616 ∧ l.length + f = 9 ∧ Hid (q.toNat < 128 ^ (f + 1)) ∧ Hid (putL n.toNat = l ++ putF (f + 1) q.toNat) ∧ Hid (wr.ownsRow w.heap.size 5 1 v l.length (cellsB l)) ∧ Hid (Fr [] w wr)) (fun x _ _ => (intOf x).toNat)
  case atStart => exact ⟨n, 9, [], rfl, hn0, hn, rfl, Hn, rfl, hO0, hF0⟩
  case round =>
    obtain ⟨q, f, l, rfl, hq0, hq, hlf, Hk, Hp, Ho, HF⟩ := hrel
    have hl9 : l.length + 1 ≤ maxLen := by unfold maxLen; omega
    have hsz := HF.out.size
    by_cases hlt : q < 128
    · go_wp2_with (refine wpList_app Tryz.elB (.tmp 15) (.tmp 18) w.heap.size _ l.length (cellsB l) rfl (Ho.out.alloc _) ⟨wr.heap.size, 0, none⟩ 1 1 [.int .u8 q] rfl rfl (cell_one_new _ _ _) (by simp [Value.oneCell']) hl9 (by omega) (by show _ ≤ (wr.heap.push _).size; rw [Array.size_push]; omega) ?_; intro v1 w1 Ho1 HF1; have hcv := run_string_own (P := Tryz.prog) (l := l ++ [UInt8.ofNat q.toNat]) Tryz.underlying47 Tryz.underlying5 Tryz.underlying9 (by rw [← cellsB, ← cellsB_snoc, ofNat_toNat hq0 (by omega)]; exact Ho1.out))
      go_ret
      exact ⟨ret_str (by rw [Hp.out, putF_last hlt]; rfl), ((HF.out.alloc _).trans HF1.out (fun x hx => .inr (ownsRow_below Ho.out x hx)))⟩
    · obtain ⟨f, rfl⟩ : ∃ m, f = m + 1 := by
        cases f with
        | zero => have := Hk.out; omega
        | succ m => exact ⟨m, rfl⟩
      go_wp2_with (refine wpList_app Tryz.elB (.tmp 9) (.tmp 13) w.heap.size _ l.length (cellsB l) rfl (Ho.out.alloc _) ⟨wr.heap.size, 0, none⟩ 1 1 [.int .u8 (bits BinOp.or IntKind.u8 (q % 256) 128)] rfl rfl (cell_one_new _ _ _) (by simp [Value.oneCell']) hl9 (by omega) (by show _ ≤ (wr.heap.push _).size; rw [Array.size_push]; omega) ?_; intro v1 w1 Ho1 HF1)
      refine ⟨⟨q / 128, f, l ++ [UInt8.ofNat (q.toNat % 128 + 128)], rfl, by omega, by omega, by simp only [List.length_append, List.length_cons, List.length_nil]; omega, ?_, ?_, ?_, ?_⟩, by simp only [intOf]; omega⟩
      · have h := Hk.out
        rw [Nat.pow_succ] at h
        show (q / 128).toNat < 128 ^ (f + 1)
        omega
      · show putL n.toNat = _
        rw [Hp.out, putF_more hq0 (by omega)]; simp
      · show World.ownsRow _ _ _ _ _ _ _
        rw [← cellsB_snoc, ← or128_int q hq0]
        simpa using Ho1.out
      · exact ((HF.out.alloc _).trans HF1.out (fun x hx => .inr (ownsRow_below Ho.out x hx)))
end Go.Proofs.YtnnpjjehecbljaaGreatDoor

namespace Go.Proofs.YtnnpjjehecbljaaGreatDoor
open Go.RowKit

def fixB (n : Int) (i : Nat) : Int := n / 2 ^ (8 * (7 - i)) % 256
def fixArr (n : Int) (k : Nat) : Array Value := ((List.range 8).map (fun i => Value.int .u8 (if i < k then fixB n i else 0))).toArray
/-- A number's lowest bytes. -/
def fixL (n : Int) (size : Nat) : List UInt8 := ((List.range 8).drop (8 - size)).map (fun i => UInt8.ofNat (fixB n i).toNat)

theorem fixArr_set (n : Int) (k : Nat) (h : k < 8) : (fixArr n k).setIfInBounds k (.int .u8 (n / 2 ^ (8 * (7 - k)) % 256)) = fixArr n (k + 1) := by
  match k, h with
  | 0, _ => rfl | 1, _ => rfl | 2, _ => rfl | 3, _ => rfl | 4, _ => rfl | 5, _ => rfl | 6, _ => rfl | 7, _ => rfl

theorem fixArr_get (n : Int) (k i : Nat) (h : i < 8) : (fixArr n k)[i]? = some (.int .u8 (if i < k then fixB n i else 0)) := by
  simp [fixArr, h]

theorem fixB_bd (n : Int) (i : Nat) : 0 ≤ fixB n i ∧ fixB n i < 256 := by
  unfold fixB; omega

theorem fixL_length (n : Int) (size : Nat) (h : size ≤ 8) : (fixL n size).length = size := by
  simp [fixL]; omega

theorem fixL_get (n : Int) (size j : Nat) (hj : j < (fixL n size).length) (hs : size ≤ 8) : ((fixL n size)[j].toNat : Int) = fixB n (8 - size + j) := by
  have h1 : j < size := by rw [fixL_length n size hs] at hj; exact hj
  have hb := fixB_bd n (8 - size + j)
  simp [fixL]
  omega



end Go.Proofs.YtnnpjjehecbljaaGreatDoor

namespace Go.Proofs.YtnnpjjehecbljaaGreatDoor
open Go.RowKit




theorem beStep_mul {q : Int} {a : Nat} (hq : q = (a : Int)) (b : UInt8) :
    IntKind.u64.wrap (IntKind.u64.wrap (q * 256) + IntKind.u64.wrap (b.toNat : Int)) = ((beStep a b : Nat) : Int) := by
  subst hq
  have := b.toNat_lt
  simp only [IntKind.wrap_u64]
  unfold beStep
  omega

theorem getD_get (s : ByteArray) (k : Nat) (h : k < s.size) : s.data.toList.getD k 0 = s[k] := by
  have h' : k < s.data.toList.length := h
  rw [List.getD_eq_getElem?_getD, List.getElem?_eq_getElem h']; rfl

/-! ### Put -/
theorem ofByte128 {q : Int} (h : 0 ≤ q) : (q % 128 + 128) = ((UInt8.ofNat (q.toNat % 128 + 128)).toNat : Int) := by
  simp; omega

end Go.Proofs.YtnnpjjehecbljaaGreatDoor

namespace Go.Proofs.YtnnpjjehecbljaaGreatDoor
open Go.RowKit

def refArr (n : Int) (size j : Nat) : Array Value := ((List.range size).map (fun i => Value.int .u8 (if j ≤ i then n / 256 ^ (size - 1 - i) % 256 else 0))).toArray

theorem refArr_set (n : Int) (size j : Nat) (_h : j < size) : (refArr n size (j + 1)).setIfInBounds j (.int .u8 (n / 256 ^ (size - 1 - j) % 256)) = refArr n size j := by
  apply Array.ext
  · simp [refArr]
  · intro i h1 h2
    simp only [refArr, Array.size_setIfInBounds, List.size_toArray, List.length_map, List.length_range] at h1 h2
    rw [Array.getElem_setIfInBounds (by simpa [refArr] using h1)]
    simp only [refArr, List.getElem_toArray, List.getElem_map, List.getElem_range]
    by_cases e : j = i
    · subst e; simp
    · rw [if_neg e]
      congr 1
      by_cases h3 : j ≤ i
      · rw [if_pos (by omega), if_pos h3]
      · rw [if_neg (by omega), if_neg h3]

theorem refArr_get (n : Int) (size j i : Nat) (h : i < size) : (refArr n size j)[i]? = some (.int .u8 (if j ≤ i then n / 256 ^ (size - 1 - i) % 256 else 0)) := by
  simp [refArr, h]

theorem refArr_zero (n : Int) (size : Nat) : refArr n size size = Array.replicate size (.int .u8 0) := by
  apply Array.ext
  · simp [refArr]
  · intro i h1 h2
    simp only [refArr, List.size_toArray, List.length_map, List.length_range] at h1
    simp [refArr]
    omega

theorem pow256 (k : Nat) : (2 : Int) ^ (8 * k) = 256 ^ k := by rw [Int.pow_mul]; rfl

theorem fixB_ref (n : Int) (size i : Nat) (hs : size ≤ 8) (hi : i < size) : fixB n (8 - size + i) = n / 256 ^ (size - 1 - i) % 256 := by
  unfold fixB
  rw [pow256, show 7 - (8 - size + i) = size - 1 - i from by omega]

theorem div256 (n : Int) (k : Nat) : n / 256 ^ k / 256 = n / 256 ^ (k + 1) := by
  rw [Int.ediv_ediv_of_nonneg (by exact Int.pow_nonneg (by decide)), Int.pow_succ]


/-! ### Var -/
theorem rstep_bits {q : Int} {n c k : Nat} (hq : q = (n : Int)) (hn : n < 18446744073709551616) :
    bits BinOp.or IntKind.u64 q (IntKind.u64.wrap ((c : Int) % 128 * 2 ^ (7 * k))) = ((vS n c k : Nat) : Int) := by
  subst hq
  have h1 : ((c : Int) % 128) = ((c % 128 : Nat) : Int) := by omega
  rw [h1, IntKind.wrap_u64]
  have h2 : ((c % 128 : Nat) : Int) * 2 ^ (7 * k) % 18446744073709551616 = ((c % 128 * 2 ^ (7 * k) % 18446744073709551616 : Nat) : Int) := by simp
  rw [h2, bits_or_u64_nat _ _ hn (Nat.mod_lt _ (by decide))]
  rfl

theorem take_snoc (s : ByteArray) (k : Nat) (h : k < s.size) : s.data.toList.take (k + 1) = s.data.toList.take k ++ [s[k]] := by
  rw [List.take_succ_eq_append_getElem (by simpa using h)]; rfl

theorem extract_take (s : ByteArray) (k : Nat) : (s.extract 0 k).toList = s.data.toList.take k := by
  rw [Lib.extract_toList]; simp

/-- What has been read by k rounds: numbers of 128 and more. -/
def VarIn (s : ByteArray) (k n : Nat) : Prop := n = vval (s.data.toList.take k) % 18446744073709551616 ∧ ∀ b ∈ s.data.toList.take k, 128 ≤ b.toNat

theorem VarIn.len {s : ByteArray} {k : Nat} (h : k < s.size) : (s.data.toList.take k).length = k := by
  have : k < s.data.toList.length := h
  rw [List.length_take]; exact Nat.min_eq_left (Nat.le_of_lt this)

theorem VarIn.num {s : ByteArray} {k n : Nat} (h : VarIn s k n) (hk : k < s.size) (h9 : k ≤ 9) : n = vval (s.data.toList.take k) := by
  have h1 := vval_lt (s.data.toList.take k)
  rw [VarIn.len hk] at h1
  have h2 : (128 : Nat) ^ k ≤ 128 ^ 9 := Nat.pow_le_pow_right (by decide) h9
  have h3 : (128 : Nat) ^ 9 = 9223372036854775808 := by decide
  rw [h.1, Nat.mod_eq_of_lt (by omega)]

theorem VarIn.next {s : ByteArray} {k n : Nat} (h : VarIn s k n) (hk : k < s.size) (h9 : k ≤ 9) (hc : 128 ≤ s[k].toNat) : VarIn s (k + 1) (vS n s[k].toNat k) := by
  have e := h.num hk h9
  have hl := VarIn.len hk
  refine ⟨?_, ?_⟩
  · have := vS_val (l := s.data.toList.take k) (c := s[k]) (by omega)
    rw [hl, ← e] at this
    rw [this, take_snoc s k hk]
  · intro b hb
    rw [take_snoc s k hk] at hb
    rcases List.mem_append.1 hb with h1 | h1
    · exact h.2 b h1
    · simp at h1; subst h1; exact hc

theorem VarIn.test {s : ByteArray} {k n : Nat} (h : VarIn s k n) (hk : k < s.size) (h9 : k ≤ 9) (hc : s[k].toNat < 128) {q : Int} (hq : q = ((vS n s[k].toNat k : Nat) : Int)) :
    ((bs (putL q.toNat)).toList == (s.extract 0 (k + 1)).toList) = true ↔ ¬ ((0 < k ∧ s[k].toNat = 0) ∨ (k = 9 ∧ 1 < s[k].toNat)) := by
  have hl := VarIn.len hk
  have := put_test (l := s.data.toList.take k) (c := s[k]) (by omega) h.2 hc
  rw [hl, ← h.num hk h9] at this
  rw [← this, beq_iff_eq, Lib.toList_data, bs_list, extract_take, take_snoc s k hk, hq, Int.toNat_natCast]

end Go.Proofs.YtnnpjjehecbljaaGreatDoor

namespace Go.Proofs.YtnnpjjehecbljaaGreatDoor
open Go.RowKit

/-- Of what there was in w nothing has turned in w' but the block b and rows of bytes that lie from B on. -/
structure Wk (B b : Nat) (w w' : World) : Prop where
  os : w'.os = w.os
  tape : w'.tape = w.tape
  output : w'.output = w.output
  size : w.heap.size ≤ w'.heap.size
  block : ∀ k, k < w.heap.size → k ≠ b → (k < B ∨ ∀ cs fr, w.heap[k]? ≠ some (.cells cs 5 fr)) → w'.heap[k]? = w.heap[k]?

theorem Wk.refl (B b : Nat) (w : World) : Wk B b w w := ⟨rfl, rfl, rfl, Nat.le_refl _, fun _ _ _ _ => rfl⟩
theorem Wk.trans {B b : Nat} {w1 w2 w3 : World} (h : Wk B b w1 w2) (k : Wk B b w2 w3) : Wk B b w1 w3 :=
  ⟨k.os.trans h.os, k.tape.trans h.tape, k.output.trans h.output, Nat.le_trans h.size k.size, fun i hi hn ho => by
    have h1 := h.block i hi hn ho
    rw [k.block i (Nat.lt_of_lt_of_le hi h.size) hn (by rw [h1]; exact ho), h1]⟩
theorem Wk.ofFr {B b : Nat} {w w' : World} (h : Fr [] w w') : Wk B b w w' := ⟨h.os, h.tape, h.output, h.size, fun k hk _ _ => h.block k hk (by simp)⟩
theorem Wk.alloc {B b : Nat} {w w' : World} (h : Wk B b w w') (o : Obj) : Wk B b w (w'.alloc o) := h.trans (Wk.ofFr ((Fr.refl [] _).alloc o))
/-- What a call owes for its writer. -/
theorem Fr.wk {B b : Nat} {w0 w w' : World} (h : Fr [] w0 w) (k : Wk B b w w') (hB : w0.heap.size ≤ B) (hb : w0.heap.size ≤ b) : Fr [] w0 w' :=
  ⟨k.os.trans h.os, k.tape.trans h.tape, k.output.trans h.output, Nat.le_trans h.size k.size, fun i hi hn =>
    (k.block i (Nat.lt_of_lt_of_le hi h.size) (by omega) (.inl (by omega))).trans (h.block i hi hn)⟩
theorem Blk.wk {B b k : Nat} {w w' : World} {cs : Array Value} {t : TypeId} (h : Blk w k cs t) (hw : Wk B b w w') (hn : k ≠ b) (ht : t ≠ 5) : Blk w' k cs t := by
  unfold Blk at *
  rw [hw.block k (blk_lt h) hn (.inr (fun cs' fr e => by rw [h] at e; simp at e; exact ht e.2.1)), h]

/-- A writer in the block b that holds the bytes l. -/
def WrtP (w : World) (B b : Nat) (p : Value) (l : List UInt8) : Prop :=
  ∃ v, w.heap[b]? = some (.cells #[p, v] 72 (0, 0)) ∧ w.ownsRow B 5 1 v l.length (Lib.byteCells l)
def Wrt (w : World) (B b : Nat) (l : List UInt8) : Prop := WrtP w B b (.pointer none) l ∨ WrtP w B b (.pointer (some ⟨b, 0, none⟩)) l

theorem Wrt.new (B : Nat) (w : World) : Wrt (w.alloc (.cells #[.pointer none, .slice none 0 0] 72)) B w.heap.size [] :=
  .inl ⟨_, Blk.new w _ _, World.ownsRow_nil _ _ _ _⟩
theorem WrtP.fr0 {w w' : World} {B b : Nat} {p : Value} {l : List UInt8} (h : WrtP w B b p l) (hf : Fr [] w w') : WrtP w' B b p l := by
  obtain ⟨v, h1, h2⟩ := h
  exact ⟨v, hf.obj h1 (by simp), ownsRow_fr h2 hf (by simp)⟩
theorem Wrt.fr0 {w w' : World} {B b : Nat} {l : List UInt8} (h : Wrt w B b l) (hf : Fr [] w w') : Wrt w' B b l := by
  rcases h with h | h
  · exact .inl (h.fr0 hf)
  · exact .inr (h.fr0 hf)
theorem WrtP.lt {w : World} {B b : Nat} {p : Value} {l : List UInt8} (h : WrtP w B b p l) : b < w.heap.size := by
  obtain ⟨v, h1, _⟩ := h
  exact blk_lt h1

theorem wk_grown {w w' : World} {B b n : Nat} {v : Value} {xs : List Value} (hown : w.ownsRow B 5 1 v n xs) (hg : w.grownBy w' v.ownBlock) : Wk B b w w' := by
  have hf := Fr.ofGrown hg
  refine ⟨hf.os, hf.tape, hf.output, hf.size, fun k hk _ ho => hf.block k hk ?_⟩
  intro hm
  have hm' : v.ownBlock = some k := by simpa using hm
  have hB := (hown.lt k hm').1
  rcases ho with ho | ho
  · omega
  · rcases hown.2 with ⟨rfl, _⟩ | ⟨g, cap, cur, rfl, _, hh, _⟩
    · simp [Value.ownBlock] at hm'
    · simp [Value.ownBlock] at hm'
      subst hm'
      exact ho _ _ hh

set_option maxHeartbeats 1000000 in
set_option maxRecDepth 100000 in
theorem bCopy (w : World) (B b : Nat) (l : List UInt8) (h : Wrt w B b l) :
    Calls Tryz.prog 59 #[.pointer (some ⟨b, 0, none⟩)] w fun e w' => e = .returned (.tuple #[]) ∧ WrtP w' B b (.pointer (some ⟨b, 0, none⟩)) l ∧ Wk B b w w' := by
  obtain ⟨j, hj, hjs⟩ := Option.map_eq_some_iff.1 (show (Tryz.prog.info? 72).map (·.size) = some 2 by kernel_rfl)
  rcases h with h | h
  · obtain ⟨v, hb, hown⟩ := h
    have hB : Blk w b #[.pointer none, v] 72 := hb
    have c0 := hB.cellAt (i := 0) rfl
    have f0 := hB.froz 0
    have hsh : w.shape? b = some (72, 2) := by simp [World.shape?, hb]
    go_enter Tryz.func59, Tryz.ntmps59
    go_wp2
    rw [Lib.run_to_unsafe w ⟨b, 0, none⟩ Tryz.underlying70 Tryz.underlying117 hj (by rw [hjs]; decide) hsh (Nat.zero_lt_succ 1)]
    simp only [Result.andThen]
    rw [Oper.upon_value]
    go_wp2
    rw [run_callFunc_extern Tryz.func74 (by kernel_rfl) (by kernel_rfl) (by kernel_rfl) (e := Extern.AbiNoEscape.same) (by kernel_rfl)]
    rw [Lib.run_noEscape]
    simp only [Result.andThen]
    rw [Oper.upon_value]
    go_wp2
    rw [Lib.run_from_unsafe w ⟨b, 0, none⟩ Tryz.underlying117 Tryz.underlying70 hj hsh (by kernel_rfl)]
    simp only [Result.andThen]
    rw [Oper.upon_value]
    go_wp2
    go_end0
    have hf : Fr [b] w (w.setCell ⟨b, 0, none⟩ (.pointer (some ⟨b, 0, none⟩))) := (Fr.refl _ _).setCell (.inl (by simp)) _
    refine ⟨rfl, ⟨v, ?_, ?_⟩, ?_⟩
    · exact hB.set 0 _
    · refine ownsRow_fr hown hf (fun x hx e => ?_)
      simp at e hx
      subst e
      rcases hown.2 with ⟨rfl, _⟩ | ⟨g, cap, cur, rfl, _, hh, _⟩
      · simp [Value.ownBlock] at hx
      · simp [Value.ownBlock] at hx
        subst hx
        rw [hb] at hh
        simp at hh
    · exact ⟨hf.os, hf.tape, hf.output, hf.size, fun k hk hn _ => hf.block k hk (by simpa using hn)⟩
  · obtain ⟨v, hb, hown⟩ := h
    have hB : Blk w b #[.pointer (some ⟨b, 0, none⟩), v] 72 := hb
    have c0 := hB.cellAt (i := 0) rfl
    go_enter Tryz.func59, Tryz.ntmps59
    go_wp2
    rw [Lib.run_neq_ptr_same w _ Tryz.underlying70 hj]
    go_wp2
    go_end0
    exact ⟨rfl, ⟨v, hb, hown⟩, Wk.refl _ _ _⟩

set_option maxHeartbeats 2000000 in
set_option maxRecDepth 100000 in
theorem bWrite (w : World) (B b : Nat) (l s : List UInt8) (h : Wrt w B b l) (hlen : l.length + s.length ≤ 140737488355328) (hBw : B ≤ w.heap.size) :
    Calls Tryz.prog 35 #[.pointer (some ⟨b, 0, none⟩), .string (bs s)] w fun e w' => e = .returned (.tuple #[.int .i64 (s.length : Nat), .nilIface]) ∧ Wrt w' B b (l ++ s) ∧ Wk B b w w' := by
  obtain ⟨i0, hi, hz0, hz1, hz2⟩ := info_parts (show (Tryz.prog.info? 5).map (fun i => (i.zero, i.size, i.bytes)) = some (some (.int .u8 0), 1, 1) by kernel_rfl)
  have hs := bs_size s
  generalize hS : bs s = S at *
  have HS := Lib.hid hS
  clear hS
  go_enter Tryz.func35, Tryz.ntmps35
  go_wp2_with fail
  refine (bCopy w B b l h).mono ?_
  rintro e w1 ⟨rfl, ⟨v, hb, hown⟩, K1⟩
  have hB : Blk w1 b #[.pointer (some ⟨b, 0, none⟩), v] 72 := hb
  have c1 := hB.cellAt (i := 1) rfl
  have hown0 := Lib.hid hown
  have hx3 : l.length + S.size ≤ maxLen := by unfold maxLen; omega
  have hx4 : l.length + S.size ≤ 140737488355328 := by omega
  have hx5 : B ≤ w1.heap.size := by have := K1.size; omega
  go_wp2_with (at_builtin; refine Lib.wpList_append_own_string _ rfl _ _ 47 9 rfl B 5 i0 Tryz.underlying47 Tryz.underlying9 hi hz0 hz1 hz2 _ _ _ rfl hown0.out S rfl hx3 hx4 hx5 ?_)
  intro v' w2 hown' hgrow hnil
  have hlt : b < w1.heap.size := hB.lt
  have hne : b ∉ v.ownBlock.toList := by
    intro hx
    simp at hx
    rcases hown0.out.2 with ⟨rfl, _⟩ | ⟨g, cap, cur, rfl, _, hh, _⟩
    · simp [Value.ownBlock] at hx
    · simp [Value.ownBlock] at hx
      subst hx
      rw [hb] at hh
      simp at hh
  have hB2 : Blk w2 b #[.pointer (some ⟨b, 0, none⟩), v] 72 := hB.fr (Fr.ofGrown hgrow) hne
  have f1 := hB2.froz 1
  obtain ⟨ao, n', cap, rfl⟩ : ∃ ao n' cap, v' = .slice ao n' cap := by
    rcases hown'.2 with ⟨hv, _⟩ | ⟨g, cap, cur, hv, _⟩
    · exact ⟨_, _, _, hv⟩
    · exact ⟨_, _, _, hv⟩
  have d1 := hB2.cellAt (i := 1) rfl
  have HG := Lib.hid hgrow
  have HO := Lib.hid hown'
  clear hgrow hown' hnil hown hB hb
  go_wp2_with fail
  go_ret2
  have hf : Fr [b] w2 (w2.setCell ⟨b, 1, none⟩ (.slice ao n' cap)) := (Fr.refl _ _).setCell (.inl (by simp)) _
  refine ⟨rfl, .inr ⟨_, hB2.set 1 _, ?_⟩, K1.trans ((wk_grown hown0.out HG.out).trans ⟨hf.os, hf.tape, hf.output, hf.size, fun k hk hn _ => hf.block k hk (by simpa using hn)⟩)⟩
  have e1 : Lib.byteCells (l ++ s) = Lib.byteCells l ++ Lib.strCells S := by rw [Lib.byteCells_append, ← HS.out]; simp [bs, Lib.strCells, Lib.byteCells]
  have e2 : (l ++ s).length = l.length + s.length := List.length_append
  rw [e1, e2]
  refine ownsRow_fr HO.out hf (fun x hx e => ?_)
  simp at e hx
  subst e
  rcases HO.out.2 with ⟨hv, _⟩ | ⟨g, cap, cur, hv, _, hh, _⟩
  · rw [hv] at hx; simp [Value.ownBlock] at hx
  · rw [hv] at hx
    simp [Value.ownBlock] at hx
    subst hx
    rw [hB2] at hh
    simp at hh

set_option maxHeartbeats 1000000 in
set_option maxRecDepth 100000 in
theorem bString (w : World) (B b : Nat) (l : List UInt8) (h : Wrt w B b l) (h0 : l ≠ []) :
    Calls Tryz.prog 37 #[.pointer (some ⟨b, 0, none⟩)] w fun e w' => e = .returned (.string (bs l)) ∧ Wk B b w w' := by
  obtain ⟨p, v, hbk, hown⟩ : ∃ p, WrtP w B b p l := by
    rcases h with h | h
    · exact ⟨_, h⟩
    · exact ⟨_, h⟩
  have hl0 : l.length ≠ 0 := by simpa using h0
  obtain ⟨g, cap, cur, rfl, hbg, hg, hnc, hcm, hcs, htake⟩ : ∃ g cap cur, v = .slice (some ⟨g, 0, none⟩) l.length cap ∧ B ≤ g ∧ w.heap[g]? = some (.cells cur 5 (0, 0)) ∧ l.length ≤ cap ∧ cap ≤ maxLen ∧ cur.size = cap * 1 ∧ cur.toList.take (l.length * 1) = Lib.byteCells l := by
    rcases hown.2 with ⟨_, hz⟩ | ⟨g, cap, cur, hv, r⟩
    · exact absurd hz hl0
    · exact ⟨g, cap, cur, hv, r⟩
  have c1 : w.drew.cell? ⟨b, 1, none⟩ = some (.slice (some ⟨g, 0, none⟩) l.length cap) := by
    have : Blk w.drew b #[p, .slice (some ⟨g, 0, none⟩) l.length cap] 72 := hbk
    exact this.cellAt (i := 1) rfl
  have hSD : (Builtin.unsafeSliceData_ #[47] 97 #[.slice (some ⟨g, 0, none⟩) l.length cap]).run Tryz.prog w.drew = .ok (.pointer (some ⟨g, 0, none⟩)) w.drew :=
    Lib.run_unsafeSliceData_row _ _ _ _ _ _ (by omega)
  have hUS : (Builtin.unsafeString_ #[97, 3] 9 #[.pointer (some ⟨g, 0, none⟩), .int .i64 l.length]).run Tryz.prog w.drew = .ok (.string ⟨l.toArray⟩) (w.drew.freeze ⟨g, 0, none⟩ l.length) := by
    refine Lib.run_unsafeString_row w.drew 97 3 9 5 Tryz.underlying97 (by kernel_rfl) g cur.size (by have hg' : w.drew.heap[g]? = some (.cells cur 5 (0, 0)) := hg; simp [World.shape?, hg']) l h0 (by omega) (by unfold maxLen at hcm; omega) ?_
    intro j x hx
    exact hown.cells (g := g) rfl j (.int .u8 x.toNat) (by simp [Lib.byteCells, hx])
  have hbelow : Wk B b w (w.drew.freeze ⟨g, 0, none⟩ l.length) := by
    unfold World.freeze
    split
    · exact ⟨rfl, rfl, rfl, Nat.le_refl _, fun _ _ _ _ => rfl⟩
    · refine ⟨rfl, rfl, rfl, by simp, fun k hk hn ho => ?_⟩
      have : k ≠ g := by
        rintro rfl
        rcases ho with ho | ho
        · omega
        · exact ho _ _ hg
      simp [Array.getElem?_modify, this.symm]
      rfl
  go_enter Tryz.func37, Tryz.ntmps37
  go_wp2
  go_region
  all_goals (go_wp2; go_ret; exact ⟨rfl, hbelow⟩)
end Go.Proofs.YtnnpjjehecbljaaGreatDoor

namespace Go.Proofs.YtnnpjjehecbljaaGreatDoor
open List renaming getElem?_toArray → lg0, getElem?_cons_succ → lg1, getElem?_cons_zero → lg2, setIfInBounds_toArray → lt0', set_cons_zero → lt1', set_cons_succ → lt2'
open Go.RowKit
set_option linter.unusedSimpArgs false

def Ch.notB : Ch → Bool
  | .cel _ t => t != 5
  | .row e _ _ => e != 5
  | .obj _ => false
/-- What is no builder's stays where a builder is written. -/
theorem Sat.wk {w0 w w' : World} {H : List Ck} {B b : Nat} (hS : Sat [] w0 H w) (k : Wk B b w w') (hB : w0.heap.size ≤ B) (hb : w0.heap.size ≤ b) (hH : H.all (fun c => c.2.notB) = true) (hn : b ∉ H.map (·.1)) : Sat [] w0 H w' := by
  refine ⟨hS.fr.wk k hB hb, hS.nd, fun c hc => ?_, hS.own⟩
  obtain ⟨o, h1, h2⟩ := hS.all c hc
  have h3 : c.2.notB = true := List.all_eq_true.1 hH c hc
  refine ⟨o, ?_, h2⟩
  rw [k.block c.1 (blk_lt h1) (fun e => hn (e ▸ List.mem_map.2 ⟨c, hc, rfl⟩)) (.inr (fun cs fr he => ?_)), h1]
  rw [h1] at he
  obtain ⟨g, d⟩ := c
  cases d with
  | cel cs' t =>
    have h4 : o = .cells cs' t (0, 0) := h2
    subst h4
    simp only [Option.some.injEq, Obj.cells.injEq] at he
    have h5 : (t != 5) = true := h3
    rw [he.2.1] at h5
    simp at h5
  | row e cap l =>
    obtain ⟨cur, h4, -⟩ := h2
    subst h4
    simp only [Option.some.injEq, Obj.cells.injEq] at he
    have h5 : (e != 5) = true := h3
    rw [he.2.1] at h5
    simp at h5
  | obj o' => cases h3
theorem vPutS (n : Int) (w : World) (h0 : 0 ≤ n) (h1 : n ≤ 7) : Calls Tryz.prog 36 #[.int .u64 n] w fun e w' => e = .returned (.string (bs [byteI n])) ∧ Fr [] w w' := by
  have h := vPut n w h0 (by omega)
  have h2 : ∀ k : Fin 8, putL k.val = [UInt8.ofNat k.val] := by decide +kernel
  have := h2 ⟨n.toNat, by omega⟩
  simp only at this
  rw [this] at h
  exact h
theorem pairsL_snoc : ∀ {M G : List Int} {k : Nat}, k < M.length → G.length = M.length → pairsL (M.take k) (G.take k) ++ [byteI (M.getD k 0), byteI (G.getD k 0)] = pairsL (M.take (k + 1)) (G.take (k + 1))
  | m :: M, g :: G, 0, _, _ => by simp [pairsL]
  | m :: M, g :: G, k + 1, h, hl => by
    have := pairsL_snoc (M := M) (G := G) (k := k) (by simpa using h) (by simpa using hl)
    show byteI m :: byteI g :: (pairsL (M.take k) (G.take k) ++ _) = _
    simp only [List.getD_cons_succ] at *
    rw [this]
    rfl
theorem Wrt.drewW {w : World} {B b : Nat} {l : List UInt8} (h : Wrt w B b l) : Wrt w.drew B b l := h.fr0 (Fr.refl [] w).drew
theorem bs_two (a b : UInt8) : bs [a] ++ bs [b] = bs [a, b] := by unfold bs; rfl

set_option maxHeartbeats 8000000 in
set_option maxRecDepth 100000 in
theorem lPut (gm cm gh ch : Nat) (c : Cfg) (w : World) (h : Cf w gm cm gh ch c) (hok : c.ok = true) :
    Calls Tryz.prog 14 #[.agg (cfC gm cm gh ch c)] w fun e w' => e = .returned (.tuple #[.string (bs (putC c)), .bool true]) ∧ Fr [] w w' := by
  obtain ⟨h1, h2, h3, h4, h5, h6, h7⟩ := (Cfg.ok_iff c).1 hok
  obtain ⟨s1, s2⟩ := rightL_small (by omega) (by decide) h3 h7
  have HR := Lib.hid (fun (w1 : World) (f : Fr [] w w1) => lRight gm cm gh ch c w1 (h.fr f (by simp) (by simp)) hok)
  unfold cfC ivV putC at *
  obtain ⟨M, G, lv, fin⟩ := c
  simp only at *
  have HI := Lib.hid (fun (w1 : World) (f : Fr [] w w1) => h.fr f (by simp) (by simp))
  have HG := Lib.hid h3
  have s1' : ∀ k, k < M.length → 0 ≤ M.getD k 0 ∧ M.getD k 0 ≤ 7 := fun k hk => s1 (M.getD k 0) (by simp [List.getD, List.getElem?_eq_getElem hk])
  have s2' : ∀ k, k < G.length → 0 ≤ G.getD k 0 ∧ G.getD k 0 ≤ 7 := fun k hk => s2 (G.getD k 0) (by simp [List.getD, List.getElem?_eq_getElem hk])
  have HS1 := Lib.hid s1'
  have HS2 := Lib.hid s2'
  clear h h6 h7 s1 s2 s1' s2' hok
  rw [h3] at HR ⊢
  generalize hn : M.length = n at *
  have HN := Lib.hid hn
  clear hn h3
  have HE : Hid (bs (byteI (n : Nat) :: (pairsL M G ++ [byteI lv, byteI (if fin = true then 1 else 0)])) = bs ((byteI (n : Nat) :: pairsL (M.take n) (G.take n)) ++ [byteI lv, byteI (if fin = true then 1 else 0)])) := by
    rw [List.take_of_length_le (by rw [HN.out]; exact Nat.le_refl _), List.take_of_length_le (by rw [HG.out]; exact Nat.le_refl _)]
    rfl
  rw [HE.out]
  clear HE
  obtain ⟨cx, hcx⟩ : ∃ cx, w.heap.size = cx := ⟨_, rfl⟩
  have hS := (Sat.refl [] w).new cx hcx #[.slice (some ⟨gm, 0, none⟩) n cm, .slice (some ⟨gh, 0, none⟩) n ch, .int .i64 lv, .bool fin] 30
  go_enter Tryz.func14, Tryz.ntmps14
  go_upto_region 1 with fail
  generalize w.alloc (.cells #[.slice (some ⟨gm, 0, none⟩) n cm, .slice (some ⟨gh, 0, none⟩) n ch, .int .i64 lv, .bool fin] 30) = w1 at *
  have HX := Lib.hid hcx
  clear hcx
  have fs := hS.says
  simp only [says, Ck.say] at fs
  go_upto_region 4 with (go_at_call 12; refine Sat.callF hS (HR.out _ hS.fr) (fun w2 hS => ?_); clear fs; have fs := hS.says; simp only [says, Ck.say] at fs)
  have hW := Wrt.new cx w2
  have hcb : cx < w2.heap.size := hS.lt (cx, _) List.mem_cons_self
  have hS := hS.fr0 ((Fr.refl [] w2).alloc (.cells #[.pointer none, .slice none 0 0] 72))
  generalize w2.heap.size = bx at *
  generalize w2.alloc (.cells #[.pointer none, .slice none 0 0] 72) = w3 at *
  have HB := Lib.hid hcb
  clear hcb fs
  have fs := hS.says
  simp only [says, Ck.say] at fs
  have z0 : IntKind.u64.wrap (n : Int) = (n : Int) := by rw [IntKind.wrap_u64]; omega
  go_upto_region 5 with (first | (go_at_call 36; refine (vPutS (n) _ (by omega) (by omega)).mono ?_; rintro e w4 ⟨rfl, fP⟩; have hW := hW.fr0 fP; have hS := hS.fr0 fP; clear fP; clear fs; have fs := hS.says; simp only [says, Ck.say] at fs) | (go_at_call 35; refine (bWrite _ cx bx ([]) [byteI (n : Nat)] hW (by simp <;> omega) (by have := hS.fr.size; have := HX.out; omega)).mono ?_; rintro e w5 ⟨rfl, hW, kW⟩; have hS := hS.wk kW (Nat.le_of_eq HX.out) (by have := HX.out; have := HB.out; omega) rfl (by have := HB.out; simp <;> omega); clear kW; clear fs; have fs := hS.says; simp only [says, Ck.say] at fs))
  simp only [List.nil_append] at hW
  clear z0
  go_wp2_with fail
  clear fs
  go_loopw [20] (fun i wr => ∃ k : Nat, k ≤ n ∧ i = .int .i64 k ∧ Hid (Sat [] w [(cx, .cel #[.slice (some ⟨gm, 0, none⟩) n cm, .slice (some ⟨gh, 0, none⟩) n ch, .int .i64 lv, .bool fin] 30)] wr) ∧ Hid (Wrt wr cx bx (byteI (n : Nat) :: pairsL (M.take k) (G.take k)))) (fun i _ => n - (intOf i).toNat)
  case atStart => exact ⟨0, Nat.zero_le _, rfl, hS, by show Wrt _ _ _ _; simpa [pairsL] using hW⟩
  case round =>
    clear hS hW
    obtain ⟨k, hk, rfl, hS, hW⟩ := hrel
    have hS := hS.out
    have hW := hW.out
    have fs := hS.says
    simp only [says, Ck.say] at fs
    by_cases hlt : k < n
    · have i1 := HI.out _ hS.fr
      have e1 : wr.cell? ⟨gm, k, none⟩ = some (.int .i64 (M.getD k 0)) := i1.1.at_ (by rw [HN.out]; exact hlt)
      have e2 : wr.cell? ⟨gh, k, none⟩ = some (.int .i64 (G.getD k 0)) := i1.2.1.at_ (by rw [HG.out]; exact hlt)
      have b1 := HS1.out k (by first | exact hlt | (rw [HN.out]; exact hlt))
      have b2 := HS2.out k (by rw [HG.out]; exact hlt)
      have HSn := Lib.hid (pairsL_snoc (M := M) (G := G) (k := k) (by rw [HN.out]; exact hlt) (HG.out.trans HN.out.symm))
      clear i1
      have e2of : ∀ w1, Fr [] w w1 → w1.cell? ⟨gh, k, none⟩ = some (.int .i64 (G.getD k 0)) := fun w1 f => (HI.out _ f).2.1.at_ (by rw [HG.out]; exact hlt)
      have e2of := Lib.hid e2of
      generalize M.getD k 0 = m at *
      generalize G.getD k 0 = g at *
      have z1 : IntKind.u64.wrap m = m := by rw [IntKind.wrap_u64]; omega
      have z2 : IntKind.u64.wrap g = g := by rw [IntKind.wrap_u64]; omega
      have c1 : ¬ 9223372036854775807 < (bs [byteI m]).size + (bs [byteI g]).size := by rw [bs_size, bs_size]; simp
      have HLn : Hid ((pairsL (M.take k) (G.take k)).length ≤ 100) := by
        show _ ≤ _
        rw [pairsL_length (by rw [List.length_take, List.length_take, HN.out, HG.out]), List.length_take]
        omega
      go_upto_region 8 with fail
      refine GoL.begin [(some 9, fun w => w.cell? ⟨cx, 1, none⟩ = some (.slice (some ⟨gh, 0, none⟩) n ch)), (some 9, fun w => w.cell? ⟨gh, k, none⟩ = some (.int .i64 g))] (by kernel_rfl) ?_ ?_
      · exact (Facts.cons_at (.inr (by first | exact e2 | simp [fs])) (Facts.cons_at (.inr (by first | exact e2 | simp [fs])) Facts.nil_at))
      have hS := hS.drew
      have hW := hW.drewW
      clear fs
      have fs := hS.says
      simp only [says, Ck.say] at fs
      have e2 : wr.drew.cell? ⟨gh, k, none⟩ = some (.int .i64 g) := e2
      generalize wr.drew = wr2 at *
      refine' GoL.take 0 [] ?_ ?_ ?_ ?_ ?_
      rotate_left 3
      · (simp only [lg0, lg1, lg2]; rfl)
      · exact fun _ _ _ h => h
      · (refine Or.inl ⟨by first | kernel_rfl | (simp [Region.wanted, yielded]), ?_⟩; intro w hSw; clear hSw; go_simp; first | done | with_reducible rfl)
      rotate_left 1
      · kernel_rfl
      simp only [Act.put, lt0', lt1', lt2']
      refine' GoL.take 1 [] ?_ ?_ ?_ ?_ ?_
      rotate_left 3
      · (simp only [lg0, lg1, lg2]; rfl)
      · exact fun _ _ _ h => h
      · (refine Or.inl ⟨by first | kernel_rfl | (simp [Region.wanted, yielded]), ?_⟩; intro w hSw; clear hSw; go_simp; first | done | with_reducible rfl)
      rotate_left 1
      · kernel_rfl
      simp only [Act.put, lt0', lt1', lt2']
      refine' GoL.take 3 [] ?_ ?_ ?_ ?_ ?_
      rotate_left 3
      · (simp only [lg0, lg1, lg2]; rfl)
      · exact fun _ _ _ h => h
      · (refine Or.inl ⟨by first | kernel_rfl | (simp [Region.wanted, yielded]), ?_⟩; intro w hSw; clear hSw; go_simp; first | done | with_reducible rfl)
      rotate_left 1
      · kernel_rfl
      simp only [Act.put, lt0', lt1', lt2']
      refine' GoL.take 4 [6, 7, 8, 9] ?_ ?_ ?_ ?_ ?_
      rotate_left 3
      · (simp only [lg0, lg1, lg2]; rfl)
      · exact fun _ _ _ h => h
      · (refine Or.inl ⟨by first | kernel_rfl | (simp [Region.wanted, yielded]), ?_⟩; intro w hSw; have f0 := Facts.get hSw 0 rfl (by decide); (try dsimp only at f0); clear hSw; go_simp; first | done | with_reducible rfl)
      rotate_left 1
      · kernel_rfl
      simp only [Act.put, lt0', lt1', lt2']
      refine' GoL.take 5 [] ?_ ?_ ?_ ?_ ?_
      rotate_left 3
      · (simp only [lg0, lg1, lg2]; rfl)
      · exact fun _ _ _ h => h
      · (refine Or.inl ⟨by first | kernel_rfl | (simp [Region.wanted, yielded]), ?_⟩; intro w hSw; clear hSw; go_simp; first | done | with_reducible rfl)
      rotate_left 1
      · kernel_rfl
      simp only [Act.put, lt0', lt1', lt2']
      refine' GoL.take 6 [] ?_ ?_ ?_ ?_ ?_
      rotate_left 3
      · (simp only [lg0, lg1, lg2]; rfl)
      · exact fun _ _ _ h => h
      · (refine Or.inl ⟨by first | kernel_rfl | (simp [Region.wanted, yielded]), ?_⟩; intro w hSw; clear hSw; go_simp; first | done | with_reducible rfl)
      rotate_left 1
      · kernel_rfl
      simp only [Act.put, lt0', lt1', lt2']
      refine' GoL.take 7 [8, 9] ?_ ?_ ?_ ?_ ?_
      rotate_left 3
      · (simp only [lg0, lg1, lg2]; rfl)
      · exact fun _ _ _ h => h
      · (refine Or.inl ⟨by first | kernel_rfl | (simp [Region.wanted, yielded]), ?_⟩; intro w hSw; have f1 := Facts.get hSw 1 rfl (by decide); (try dsimp only at f1); clear hSw; go_simp; first | done | with_reducible rfl)
      rotate_left 1
      · kernel_rfl
      simp only [Act.put, lt0', lt1', lt2']
      refine' GoL.take 8 [] ?_ ?_ ?_ ?_ ?_
      rotate_left 3
      · (simp only [lg0, lg1, lg2]; rfl)
      · exact fun _ _ _ h => h
      · (refine Or.inl ⟨by first | kernel_rfl | (simp [Region.wanted, yielded]), ?_⟩; intro w hSw; clear hSw; go_simp; first | done | with_reducible rfl)
      rotate_left 1
      · kernel_rfl
      simp only [Act.put, lt0', lt1', lt2']
      refine GoL.ready [2] (by kernel_rfl) (by simp) ?_
      refine GoL.one (by (simp only [lg0, lg1, lg2]; rfl)) (fun K hK => ?_) ?_
      · go_simp
        refine (vPutS m _ (by omega) (by omega)).mono ?_
        rintro e w4 ⟨rfl, fP⟩
        have hW := hW.fr0 fP
        have hS := hS.fr0 fP
        clear fs
        have fs := hS.says
        simp only [says, Ck.say] at fs
        have e2 : w4.cell? ⟨gh, k, none⟩ = some (.int .i64 g) := e2of.out _ hS.fr
        refine hK.out _ _ ?_ ?_
        · exact (Facts.cons_at (.inr (by first | exact e2 | simp [fs])) (Facts.cons_at (.inr (by first | exact e2 | simp [fs])) Facts.nil_at))
        clear hK K
        try simp only [Act.put, lt0', lt1', lt2']
        refine GoL.ready [9] (by kernel_rfl) (by simp) ?_
        refine GoL.one (by (simp only [lg0, lg1, lg2]; rfl)) (fun K hK => ?_) ?_
        · go_simp
          refine (vPutS g _ (by omega) (by omega)).mono ?_
          rintro e w5 ⟨rfl, fP⟩
          have hW := hW.fr0 fP
          have hS := hS.fr0 fP
          clear fs
          have fs := hS.says
          simp only [says, Ck.say] at fs
          refine hK.out _ _ ?_ ?_
          · exact (Facts.cons_at (.inl (by kernel_rfl)) (Facts.cons_at (.inl (by kernel_rfl)) Facts.nil_at))
          clear hK K
          try simp only [Act.put, lt0', lt1', lt2']
          refine' GoL.take 10 [] ?_ ?_ ?_ ?_ ?_
          rotate_left 3
          · (simp only [lg0, lg1, lg2]; rfl)
          · exact fun _ _ _ h => h
          · (refine Or.inl ⟨by first | kernel_rfl | (simp [Region.wanted, yielded]), ?_⟩; intro w hSw; clear hSw; go_simp; first | done | with_reducible rfl)
          rotate_left 1
          · kernel_rfl
          simp only [Act.put, lt0', lt1', lt2']
          refine GoL.ready [11] (by kernel_rfl) (by simp) ?_
          refine GoL.one (by (simp only [lg0, lg1, lg2]; rfl)) (fun K hK => ?_) ?_
          · go_simp
            rw [bs_two]
            refine (bWrite _ cx bx (byteI (n : Nat) :: pairsL (M.take k) (G.take k)) [byteI m, byteI g] hW (by have := HLn.out; simp <;> omega) (by have := hS.fr.size; have := HX.out; omega)).mono ?_
            rintro e w6 ⟨rfl, hW, kW⟩
            have hS := hS.wk kW (Nat.le_of_eq HX.out) (by have := HX.out; have := HB.out; omega) rfl (by have := HB.out; simp <;> omega)
            refine hK.out _ _ ?_ ?_
            · exact (Facts.cons_at (.inl (by kernel_rfl)) (Facts.cons_at (.inl (by kernel_rfl)) Facts.nil_at))
            clear hK K
            try simp only [Act.put, lt0', lt1', lt2']
            refine GoL.done (by kernel_rfl) ?_
            go_wp2_with fail
            go_roundw
            case rel => exact ⟨k + 1, by omega, by first | rfl | go_num, hS, by rw [← HSn.out]; exact hW⟩
            case measure => simp [intOf]; omega
          exact AllL.nil
        exact AllL.nil
      exact AllL.nil
    · obtain rfl : k = n := by omega
      have HLn : Hid ((pairsL (M.take k) (G.take k)).length ≤ 100) := by
        show _ ≤ _
        rw [pairsL_length (by rw [List.length_take, List.length_take, HN.out, HG.out]), List.length_take]
        omega
      have z1 : IntKind.u64.wrap lv = lv := by rw [IntKind.wrap_u64]; omega
      have c1 : ∀ x, ¬ 9223372036854775807 < (bs [byteI lv]).size + (bs [byteI x]).size := fun x => by rw [bs_size, bs_size]; simp
      have hne : ∀ a : UInt8, (byteI (k : Nat) :: pairsL (M.take k) (G.take k)) ++ [byteI lv, a] ≠ [] := fun a => by simp
      cases fin with
      | false =>
        go_wp2_with (first
          | (go_at_call 36; refine (vPutS _ _ (by omega) (by omega)).mono ?_; rintro e w8 ⟨rfl, fP⟩; have hW := hW.fr0 fP; have hS := hS.fr0 fP; clear fP)
          | (go_at_call 35; rw [bs_two]; refine (bWrite _ cx bx (byteI (k : Nat) :: pairsL (M.take k) (G.take k)) [byteI lv, byteI 0] hW (by have := HLn.out; simp <;> omega) (by have := hS.fr.size; have := HX.out; omega)).mono ?_; rintro e wa ⟨rfl, hW, kW⟩; have hS := hS.wk kW (Nat.le_of_eq HX.out) (by have := HX.out; have := HB.out; omega) rfl (by have := HB.out; simp <;> omega); clear kW; clear fs; have fs := hS.says; simp only [says, Ck.say] at fs)
          | (go_at_call 37; refine (bString _ cx bx _ hW (hne _)).mono ?_; rintro e wb ⟨rfl, kW⟩; have hS := hS.wk kW (Nat.le_of_eq HX.out) (by have := HX.out; have := HB.out; omega) rfl (by have := HB.out; simp <;> omega)))
        go_ret2
        exact ⟨rfl, hS.fr⟩
      | true =>
        go_wp2_with (first
          | (go_at_call 36; refine (vPutS _ _ (by omega) (by omega)).mono ?_; rintro e w8 ⟨rfl, fP⟩; have hW := hW.fr0 fP; have hS := hS.fr0 fP; clear fP)
          | (go_at_call 35; rw [bs_two]; refine (bWrite _ cx bx (byteI (k : Nat) :: pairsL (M.take k) (G.take k)) [byteI lv, byteI 1] hW (by have := HLn.out; simp <;> omega) (by have := hS.fr.size; have := HX.out; omega)).mono ?_; rintro e wa ⟨rfl, hW, kW⟩; have hS := hS.wk kW (Nat.le_of_eq HX.out) (by have := HX.out; have := HB.out; omega) rfl (by have := HB.out; simp <;> omega); clear kW; clear fs; have fs := hS.says; simp only [says, Ck.say] at fs)
          | (go_at_call 37; refine (bString _ cx bx _ hW (hne _)).mono ?_; rintro e wb ⟨rfl, kW⟩; have hS := hS.wk kW (Nat.le_of_eq HX.out) (by have := HX.out; have := HB.out; omega) rfl (by have := HB.out; simp <;> omega)))
        go_ret2
        exact ⟨rfl, hS.fr⟩
end Go.Proofs.YtnnpjjehecbljaaGreatDoor

namespace Go.Proofs.YtnnpjjehecbljaaGreatDoor
open Go.RowKit

/-- A message but for its entries. -/
structure Msg where
  kind : Int
  sent : Int
  goal : Int
  term : Int
  index : Int
  prev : Int
  commit : Int
  mark : Int
  yes : Bool
  ents : List Ent
  snap : ByteArray

def Msg.cells (m : Msg) (v : Value) : Array Value := #[.int .i64 m.kind, .int .i64 m.sent, .int .i64 m.goal, .int .u64 m.term, .int .u64 m.index, .int .u64 m.prev, .int .u64 m.commit, .int .u64 m.mark, .bool m.yes, v, .string m.snap]

structure Msg.Fits (m : Msg) : Prop where
  term : U64 m.term
  index : U64 m.index
  prev : U64 m.prev
  commit : U64 m.commit
  mark : U64 m.mark
  ents : ∀ e, e ∈ m.ents → e.Fits
  many : m.ents.length ≤ maxLen
  snap : m.snap.size ≤ maxLen

def Msg.flds (m : Msg) : List Fld := [⟨105, decide (0 < m.index), true⟩, ⟨112, decide (0 < m.prev), true⟩, ⟨116, decide (0 < m.commit), true⟩, ⟨107, decide (0 < m.mark), true⟩, ⟨121, m.yes, true⟩,
  ⟨101, decide (0 < m.ents.length), decide (m.ents.length ≤ 64) && !(m.ents.any (fun e => !e.ok))⟩, ⟨115, !m.snap.toList.isEmpty, decide ((m.snap.size : Int) ≤ 16384)⟩]
def Msg.ok (m : Msg) : Bool := (msgMay m.kind).2 && nodeB m.sent && nodeB m.goal && fitB (msgMay m.kind).1 m.flds

theorem Ents.shape {w : World} {v : Value} {l : List Ent} (h : Ents w v l) : ∃ a c, v = .slice a l.length c := by
  rcases h with ⟨rfl, a, c, rfl⟩ | ⟨b, o, c, rfl, _⟩
  · exact ⟨a, c, rfl⟩
  · exact ⟨_, c, rfl⟩



theorem msgS {w : World} {bx : Nat} {m : Msg} {v : Value} {t : TypeId} (h : Blk w bx (m.cells v) t) :
    w.cell? ⟨bx, 1, none⟩ = some (.int .i64 m.sent) ∧ w.cell? ⟨bx, 2, none⟩ = some (.int .i64 m.goal) ∧ w.cell? ⟨bx, 4, none⟩ = some (.int .u64 m.index) ∧ w.cell? ⟨bx, 5, none⟩ = some (.int .u64 m.prev) ∧ w.cell? ⟨bx, 6, none⟩ = some (.int .u64 m.commit) ∧ w.cell? ⟨bx, 7, none⟩ = some (.int .u64 m.mark) ∧ w.cell? ⟨bx, 8, none⟩ = some (.bool m.yes) ∧ w.cell? ⟨bx, 9, none⟩ = some v ∧ w.cell? ⟨bx, 10, none⟩ = some (.string m.snap) :=
  ⟨h.cellAt (i := 1) rfl, h.cellAt (i := 2) rfl, h.cellAt (i := 4) rfl, h.cellAt (i := 5) rfl, h.cellAt (i := 6) rfl, h.cellAt (i := 7) rfl, h.cellAt (i := 8) rfl, h.cellAt (i := 9) rfl, h.cellAt (i := 10) rfl⟩

/-- fit at a message's seven fields, as they were just laid. -/
theorem eFitM (may : ByteArray) (i p t k y n r s z : Bool) (w : World) :
    Calls Tryz.prog 50 #[.string may, .slice (some ⟨w.heap.size, 0, none⟩) 7 7] (w.alloc (.cells #[.string ⟨#[105]⟩, .bool i, .bool true, .string ⟨#[112]⟩, .bool p, .bool true, .string ⟨#[116]⟩, .bool t, .bool true, .string ⟨#[107]⟩, .bool k, .bool true, .string ⟨#[121]⟩, .bool y, .bool true, .string ⟨#[101]⟩, .bool n, .bool r, .string ⟨#[115]⟩, .bool s, .bool z] 90))
    fun e w' => e = .returned (.bool (fitB may [⟨105, i, true⟩, ⟨112, p, true⟩, ⟨116, t, true⟩, ⟨107, k, true⟩, ⟨121, y, true⟩, ⟨101, n, r⟩, ⟨115, s, z⟩])) ∧ Fr [] (w.alloc (.cells #[.string ⟨#[105]⟩, .bool i, .bool true, .string ⟨#[112]⟩, .bool p, .bool true, .string ⟨#[116]⟩, .bool t, .bool true, .string ⟨#[107]⟩, .bool k, .bool true, .string ⟨#[121]⟩, .bool y, .bool true, .string ⟨#[101]⟩, .bool n, .bool r, .string ⟨#[115]⟩, .bool s, .bool z] 90)) w' :=
  eFit may w.heap.size 0 7 [⟨105, i, true⟩, ⟨112, p, true⟩, ⟨116, t, true⟩, ⟨107, k, true⟩, ⟨121, y, true⟩, ⟨101, n, r⟩, ⟨115, s, z⟩] _ (Flds.new w [⟨105, i, true⟩, ⟨112, p, true⟩, ⟨116, t, true⟩, ⟨107, k, true⟩, ⟨121, y, true⟩, ⟨101, n, r⟩, ⟨115, s, z⟩] 90) (show 7 ≤ maxLen by decide)
end Go.Proofs.YtnnpjjehecbljaaGreatDoor
