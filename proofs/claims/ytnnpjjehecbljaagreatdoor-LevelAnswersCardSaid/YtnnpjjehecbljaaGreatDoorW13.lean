/-
  Texts of this seat, joined: LEx LRises FMrB.
-/
import Derived.Test.YtnnpjjehecbljaaGreatDoorW12
import Derived.Test.YtnnpjjehecbljaaGreatDoorW03
set_option linter.unusedSimpArgs false
set_option linter.unusedVariables false
namespace Go.Proofs.YtnnpjjehecbljaaGreatDoor
open List renaming getElem?_toArray → lg0, getElem?_cons_succ → lg1, getElem?_cons_zero → lg2, setIfInBounds_toArray → lt0', set_cons_zero → lt1', set_cons_succ → lt2'
open Go.RowKit

set_option linter.unusedSimpArgs false
def exC : Cfg := ⟨[1, 2], [1, 1], 1, false⟩
def exE : Ent := ⟨1, 1, 8, 0, 0, 0, 0, 0, 0, ⟨#[]⟩, ⟨#[]⟩⟩
theorem exC_new : newC [2, 1, 2] = exC := Cfg.eqB_eq (by decide +kernel)
theorem exC_ok : exC.ok = true := by decide +kernel
theorem exE_ok : exE.ok = true := by decide +kernel
theorem exE_fits : exE.Fits := by constructor <;> simp [exE, U64, maxLen] <;> decide
theorem exA : tellC exC exE = (exC, 8) := by unfold tellC; rw [exE_ok]; unfold applyOf exE upgradeOf; simp [exC_ok]; simp [exC]
theorem exT : textC exC = ⟨#[49, 58, 49, 32, 50, 58, 49, 32, 108, 101, 118, 101, 108, 32, 49]⟩ := by decide +kernel

set_option maxRecDepth 100000 in
set_option maxHeartbeats 4000000 in
theorem lExamples (w : World) : Calls Tryz.prog 6 #[] w fun e w' => e = .returned (.bool true) ∧ Fr [] w w' := by
  have hS := ((Sat.refl [] w).new _ rfl #[.int .i64 2, .int .i64 1, .int .i64 2] 3).asRow (by unfold maxLen; simp)
  go_enter Tryz.func6, Tryz.ntmps6
  go_upto_region 2 with (go_at_call 7; refine cNew hS (L := [2, 1, 2]) (hS.mem 0 rfl) (by simp) (by simp) (by rw [exC_new]; exact exC_ok) exC_new rfl ?_; rintro ⟨g1, c1, g2, c2⟩ w1 hS; dsimp only at hS; simp only [cfC, ivV, exC, List.length_cons, List.length_nil, Nat.zero_add, Nat.reduceAdd])
  have hS := hS.new _ rfl #[.slice (some ⟨g1, 0, none⟩) 2 c1, .slice (some ⟨g2, 0, none⟩) 2 c2, .int .i64 1, .bool false] 30
  generalize w1.heap.size = x1 at *
  generalize w1.alloc (.cells #[.slice (some ⟨g1, 0, none⟩) 2 c1, .slice (some ⟨g2, 0, none⟩) 2 c2, .int .i64 1, .bool false] 30) = w2 at *
  go_upto_region 3 with (go_at_call 7; refine Sat.callF hS (lNew0 w2) (fun w3 hS => ?_))
  have hS := hS.new _ rfl #[.slice none 0 0, .slice none 0 0, .int .i64 0, .bool false] 30
  generalize w3.heap.size = x3 at *
  generalize w3.alloc (.cells #[.slice none 0 0, .slice none 0 0, .int .i64 0, .bool false] 30) = w4 at *
  have fs := hS.says
  simp only [says, Ck.say] at fs
  go_upto_region 4 with (go_at_call 11; refine cApply hS (gm := g1) (cm := c1) (gh := g2) (ch := c2) (c := exC) (e := exE) (hS.cf 2 3 rfl rfl (by decide)) exC_ok exE_fits exA ?_; rintro ⟨g3, c3, g4, c4⟩ w5 hS; dsimp only at hS; simp only [cfC, ivV, exC, List.length_cons, List.length_nil, Nat.zero_add, Nat.reduceAdd])
  have hS := hS.new _ rfl #[.slice (some ⟨g3, 0, none⟩) 2 c3, .slice (some ⟨g4, 0, none⟩) 2 c4, .int .i64 1, .bool false] 30
  generalize w5.heap.size = x5 at *
  generalize w5.alloc (.cells #[.slice (some ⟨g3, 0, none⟩) 2 c3, .slice (some ⟨g4, 0, none⟩) 2 c4, .int .i64 1, .bool false] 30) = w6 at *
  clear fs
  have fs := hS.says
  simp only [says, Ck.say] at fs

  refine GoL.begin [(none, fun w => ∀ i, w.cell? ⟨x1, i, none⟩ = #[.slice (some ⟨g1, 0, none⟩) 2 c1, .slice (some ⟨g2, 0, none⟩) 2 c2, .int .i64 1, .bool false][i]?), (none, fun w => ∀ i, w.cell? ⟨x5, i, none⟩ = #[.slice (some ⟨g3, 0, none⟩) 2 c3, .slice (some ⟨g4, 0, none⟩) 2 c4, .int .i64 1, .bool false][i]?)] (by kernel_rfl) ?_ ?_
  · exact (Facts.cons_at (.inr (by simp [fs])) (Facts.cons_at (.inr (by simp [fs])) Facts.nil_at))
  have hS := hS.drew
  clear fs
  have fs := hS.says
  simp only [says, Ck.say] at fs
  generalize w6.drew = w7 at *
  refine' GoL.take 0 [] ?_ ?_ ?_ ?_ ?_
  rotate_left 3
  · (simp only [lg0, lg1, lg2]; rfl)
  · exact fun _ _ _ h => h
  · (refine Or.inl ⟨by first | kernel_rfl | (simp [Region.wanted, yielded]), ?_⟩; intro w hSw; clear hSw; go_simp; first | done | with_reducible rfl)
  rotate_left 1
  · kernel_rfl
  simp only [Act.put, lt0', lt1', lt2']
  refine' GoL.take 1 [] ?_ ?_ ?_ ?_ ?_
  rotate_left 3
  · (simp only [lg0, lg1, lg2]; rfl)
  · exact fun _ _ _ h => h
  · (refine Or.inl ⟨by first | kernel_rfl | (simp [Region.wanted, yielded]), ?_⟩; intro w hSw; clear hSw; go_simp; first | done | with_reducible rfl)
  rotate_left 1
  · kernel_rfl
  simp only [Act.put, lt0', lt1', lt2']
  refine' GoL.take 2 [] ?_ ?_ ?_ ?_ ?_
  rotate_left 3
  · (simp only [lg0, lg1, lg2]; rfl)
  · exact fun _ _ _ h => h
  · (refine Or.inl ⟨by first | kernel_rfl | (simp [Region.wanted, yielded]), ?_⟩; intro w hSw; have f0 := Facts.get hSw 0 rfl (by decide); (try dsimp only at f0); clear hSw; go_simp; first | done | with_reducible rfl)
  rotate_left 1
  · kernel_rfl
  simp only [Act.put, lt0', lt1', lt2']
  refine GoL.ready [3] (by kernel_rfl) (by simp) ?_
  refine GoL.one (by (simp only [lg0, lg1, lg2]; rfl)) (fun K hK => ?_) ?_
  · go_simp
    refine Sat.callF hS (lText g1 c1 g2 c2 exC _ (hS.cf 5 6 rfl rfl (by decide)) exC_ok) (fun w hS => ?_)
    rw [exT]
    clear fs
    have fs := hS.says
    simp only [says, Ck.say] at fs
    refine hK.out _ _ ?_ ?_
    · exact (Facts.cons_at (.inr (by simp [fs])) (Facts.cons_at (.inr (by simp [fs])) Facts.nil_at))
    clear hK K
    try simp only [Act.put, lt0', lt1', lt2']
    refine' GoL.take 4 [] ?_ ?_ ?_ ?_ ?_
    rotate_left 3
    · (simp only [lg0, lg1, lg2]; rfl)
    · exact fun _ _ _ h => h
    · (refine Or.inl ⟨by first | kernel_rfl | (simp [Region.wanted, yielded]), ?_⟩; intro w hSw; clear hSw; go_simp; first | done | with_reducible rfl)
    rotate_left 1
    · kernel_rfl
    simp only [Act.put, lt0', lt1', lt2']
    refine' GoL.take 5 [] ?_ ?_ ?_ ?_ ?_
    rotate_left 3
    · (simp only [lg0, lg1, lg2]; rfl)
    · exact fun _ _ _ h => h
    · (refine Or.inl ⟨by first | kernel_rfl | (simp [Region.wanted, yielded]), ?_⟩; intro w hSw; clear hSw; go_simp; first | done | with_reducible rfl)
    rotate_left 1
    · kernel_rfl
    simp only [Act.put, lt0', lt1', lt2']
    refine' GoL.take 6 [] ?_ ?_ ?_ ?_ ?_
    rotate_left 3
    · (simp only [lg0, lg1, lg2]; rfl)
    · exact fun _ _ _ h => h
    · (refine Or.inl ⟨by first | kernel_rfl | (simp [Region.wanted, yielded]), ?_⟩; intro w hSw; clear hSw; go_simp; first | done | with_reducible rfl)
    rotate_left 1
    · kernel_rfl
    simp only [Act.put, lt0', lt1', lt2']
    refine' GoL.take 7 [] ?_ ?_ ?_ ?_ ?_
    rotate_left 3
    · (simp only [lg0, lg1, lg2]; rfl)
    · exact fun _ _ _ h => h
    · (refine Or.inl ⟨by first | kernel_rfl | (simp [Region.wanted, yielded]), ?_⟩; intro w hSw; clear hSw; go_simp; first | done | with_reducible rfl)
    rotate_left 1
    · kernel_rfl
    simp only [Act.put, lt0', lt1', lt2']
    refine' GoL.take 8 [] ?_ ?_ ?_ ?_ ?_
    rotate_left 3
    · (simp only [lg0, lg1, lg2]; rfl)
    · exact fun _ _ _ h => h
    · (refine Or.inl ⟨by first | kernel_rfl | (simp [Region.wanted, yielded]), ?_⟩; intro w hSw; clear hSw; go_simp; first | done | with_reducible rfl)
    rotate_left 1
    · kernel_rfl
    simp only [Act.put, lt0', lt1', lt2']
    refine' GoL.take 9 [] ?_ ?_ ?_ ?_ ?_
    rotate_left 3
    · (simp only [lg0, lg1, lg2]; rfl)
    · exact fun _ _ _ h => h
    · (refine Or.inl ⟨by first | kernel_rfl | (simp [Region.wanted, yielded]), ?_⟩; intro w hSw; clear hSw; go_simp; first | done | with_reducible rfl)
    rotate_left 1
    · kernel_rfl
    simp only [Act.put, lt0', lt1', lt2']
    refine' GoL.take 10 [] ?_ ?_ ?_ ?_ ?_
    rotate_left 3
    · (simp only [lg0, lg1, lg2]; rfl)
    · exact fun _ _ _ h => h
    · (refine Or.inl ⟨by first | kernel_rfl | (simp [Region.wanted, yielded]), ?_⟩; intro w hSw; clear hSw; go_simp; first | done | with_reducible rfl)
    rotate_left 1
    · kernel_rfl
    simp only [Act.put, lt0', lt1', lt2']
    refine' GoL.take 11 [] ?_ ?_ ?_ ?_ ?_
    rotate_left 3
    · (simp only [lg0, lg1, lg2]; rfl)
    · exact fun _ _ _ h => h
    · (refine Or.inl ⟨by first | kernel_rfl | (simp [Region.wanted, yielded]), ?_⟩; intro w hSw; clear hSw; go_simp; first | done | with_reducible rfl)
    rotate_left 1
    · kernel_rfl
    simp only [Act.put, lt0', lt1', lt2']
    refine' GoL.take 12 [] ?_ ?_ ?_ ?_ ?_
    rotate_left 3
    · (simp only [lg0, lg1, lg2]; rfl)
    · exact fun _ _ _ h => h
    · (refine Or.inl ⟨by first | kernel_rfl | (simp [Region.wanted, yielded]), ?_⟩; intro w hSw; clear hSw; go_simp; first | done | with_reducible rfl)
    rotate_left 1
    · kernel_rfl
    simp only [Act.put, lt0', lt1', lt2']
    refine' GoL.take 13 [] ?_ ?_ ?_ ?_ ?_
    rotate_left 3
    · (simp only [lg0, lg1, lg2]; rfl)
    · exact fun _ _ _ h => h
    · (refine Or.inl ⟨by first | kernel_rfl | (simp [Region.wanted, yielded]), ?_⟩; intro w hSw; clear hSw; go_simp; first | done | with_reducible rfl)
    rotate_left 1
    · kernel_rfl
    simp only [Act.put, lt0', lt1', lt2']
    refine' GoL.take 14 [] ?_ ?_ ?_ ?_ ?_
    rotate_left 3
    · (simp only [lg0, lg1, lg2]; rfl)
    · exact fun _ _ _ h => h
    · (refine Or.inl ⟨by first | kernel_rfl | (simp [Region.wanted, yielded]), ?_⟩; intro w hSw; clear hSw; go_simp; first | done | with_reducible rfl)
    rotate_left 1
    · kernel_rfl
    simp only [Act.put, lt0', lt1', lt2']
    refine' GoL.take 15 [] ?_ ?_ ?_ ?_ ?_
    rotate_left 3
    · (simp only [lg0, lg1, lg2]; rfl)
    · exact fun _ _ _ h => h
    · (refine Or.inl ⟨by first | kernel_rfl | (simp [Region.wanted, yielded]), ?_⟩; intro w hSw; have f1 := Facts.get hSw 1 rfl (by decide); (try dsimp only at f1); clear hSw; go_simp; first | done | with_reducible rfl)
    rotate_left 1
    · kernel_rfl
    simp only [Act.put, lt0', lt1', lt2']
    refine' GoL.take 17 [] ?_ ?_ ?_ ?_ ?_
    rotate_left 3
    · (simp only [lg0, lg1, lg2]; rfl)
    · exact fun _ _ _ h => h
    · (refine Or.inl ⟨by first | kernel_rfl | (simp [Region.wanted, yielded]), ?_⟩; intro w hSw; have f0 := Facts.get hSw 0 rfl (by decide); (try dsimp only at f0); clear hSw; go_simp; first | done | with_reducible rfl)
    rotate_left 1
    · kernel_rfl
    simp only [Act.put, lt0', lt1', lt2']
    refine GoL.ready [16] (by kernel_rfl) (by simp) ?_
    refine GoL.one (by (simp only [lg0, lg1, lg2]; rfl)) (fun K hK => ?_) ?_
    · go_simp
      refine Sat.callF hS (lText g3 c3 g4 c4 exC _ (hS.cf 1 2 rfl rfl (by decide)) exC_ok) (fun w hS => ?_)
      rw [exT]
      clear fs
      have fs := hS.says
      simp only [says, Ck.say] at fs
      refine hK.out _ _ ?_ ?_
      · exact (Facts.cons_at (.inr (by simp [fs])) (Facts.cons_at (.inr (by simp [fs])) Facts.nil_at))
      clear hK K
      try simp only [Act.put, lt0', lt1', lt2']
      refine GoL.ready [18] (by kernel_rfl) (by simp) ?_
      refine GoL.one (by (simp only [lg0, lg1, lg2]; rfl)) (fun K hK => ?_) ?_
      · go_simp
        refine Sat.callF hS (lText g1 c1 g2 c2 exC _ (hS.cf 5 6 rfl rfl (by decide)) exC_ok) (fun w hS => ?_)
        rw [exT]
        clear fs
        have fs := hS.says
        simp only [says, Ck.say] at fs
        refine hK.out _ _ ?_ ?_
        · exact (Facts.cons_at (.inr (by simp [fs])) (Facts.cons_at (.inr (by simp [fs])) Facts.nil_at))
        clear hK K
        try simp only [Act.put, lt0', lt1', lt2']
        refine' GoL.take 19 [] ?_ ?_ ?_ ?_ ?_
        rotate_left 3
        · (simp only [lg0, lg1, lg2]; rfl)
        · exact fun _ _ _ h => h
        · (refine Or.inl ⟨by first | kernel_rfl | (simp [Region.wanted, yielded]), ?_⟩; intro w hSw; clear hSw; go_simp; first | done | with_reducible rfl)
        rotate_left 1
        · kernel_rfl
        simp only [Act.put, lt0', lt1', lt2']
        refine' GoL.take 20 [] ?_ ?_ ?_ ?_ ?_
        rotate_left 3
        · (simp only [lg0, lg1, lg2]; rfl)
        · exact fun _ _ _ h => h
        · (refine Or.inl ⟨by first | kernel_rfl | (simp [Region.wanted, yielded]), ?_⟩; intro w hSw; clear hSw; go_simp; first | done | with_reducible rfl)
        rotate_left 1
        · kernel_rfl
        simp only [Act.put, lt0', lt1', lt2']
        refine' GoL.take 21 [] ?_ ?_ ?_ ?_ ?_
        rotate_left 3
        · (simp only [lg0, lg1, lg2]; rfl)
        · exact fun _ _ _ h => h
        · (refine Or.inl ⟨by first | kernel_rfl | (simp [Region.wanted, yielded]), ?_⟩; intro w hSw; clear hSw; go_simp; first | done | with_reducible rfl)
        rotate_left 1
        · kernel_rfl
        simp only [Act.put, lt0', lt1', lt2']
        refine' GoL.take 22 [] ?_ ?_ ?_ ?_ ?_
        rotate_left 3
        · (simp only [lg0, lg1, lg2]; rfl)
        · exact fun _ _ _ h => h
        · (refine Or.inl ⟨by first | kernel_rfl | (simp [Region.wanted, yielded]), ?_⟩; intro w hSw; have f0 := Facts.get hSw 0 rfl (by decide); (try dsimp only at f0); clear hSw; go_simp; first | done | with_reducible rfl)
        rotate_left 1
        · kernel_rfl
        simp only [Act.put, lt0', lt1', lt2']
        refine GoL.ready [23] (by kernel_rfl) (by simp) ?_
        refine GoL.one (by (simp only [lg0, lg1, lg2]; rfl)) (fun K hK => ?_) ?_
        · go_simp
          refine Sat.callF hS (lHas g1 c1 g2 c2 exC 2 _ (hS.cf 5 6 rfl rfl (by decide)) (by decide)) (fun w hS => ?_)
          rw [show exC.M.contains 2 = true by decide]
          clear fs
          have fs := hS.says
          simp only [says, Ck.say] at fs
          refine hK.out _ _ ?_ ?_
          · exact (Facts.cons_at (.inr (by simp [fs])) (Facts.cons_at (.inr (by simp [fs])) Facts.nil_at))
          clear hK K
          try simp only [Act.put, lt0', lt1', lt2']
          refine' GoL.take 24 [] ?_ ?_ ?_ ?_ ?_
          rotate_left 3
          · (simp only [lg0, lg1, lg2]; rfl)
          · exact fun _ _ _ h => h
          · (refine Or.inl ⟨by first | kernel_rfl | (simp [Region.wanted, yielded]), ?_⟩; intro w hSw; clear hSw; go_simp; first | done | with_reducible rfl)
          rotate_left 1
          · kernel_rfl
          simp only [Act.put, lt0', lt1', lt2']
          refine' GoL.take 25 [] ?_ ?_ ?_ ?_ ?_
          rotate_left 3
          · (simp only [lg0, lg1, lg2]; rfl)
          · exact fun _ _ _ h => h
          · (refine Or.inl ⟨by first | kernel_rfl | (simp [Region.wanted, yielded]), ?_⟩; intro w hSw; clear hSw; go_simp; first | done | with_reducible rfl)
          rotate_left 1
          · kernel_rfl
          simp only [Act.put, lt0', lt1', lt2']
          refine' GoL.take 26 [] ?_ ?_ ?_ ?_ ?_
          rotate_left 3
          · (simp only [lg0, lg1, lg2]; rfl)
          · exact fun _ _ _ h => h
          · (refine Or.inl ⟨by first | kernel_rfl | (simp [Region.wanted, yielded]), ?_⟩; intro w hSw; have f0 := Facts.get hSw 0 rfl (by decide); (try dsimp only at f0); clear hSw; go_simp; first | done | with_reducible rfl)
          rotate_left 1
          · kernel_rfl
          simp only [Act.put, lt0', lt1', lt2']
          refine GoL.ready [27] (by kernel_rfl) (by simp) ?_
          refine GoL.one (by (simp only [lg0, lg1, lg2]; rfl)) (fun K hK => ?_) ?_
          · go_simp
            refine Sat.callF hS (lQuorum g1 c1 g2 c2 exC _ (by decide)) (fun w hS => ?_)
            rw [show ((exC.M.length : Nat) : Int) / 2 + 1 = 2 by decide]
            clear fs
            have fs := hS.says
            simp only [says, Ck.say] at fs
            refine hK.out _ _ ?_ ?_
            · exact (Facts.cons_at (.inr (by simp [fs])) (Facts.cons_at (.inr (by simp [fs])) Facts.nil_at))
            clear hK K
            try simp only [Act.put, lt0', lt1', lt2']
            refine' GoL.take 28 [] ?_ ?_ ?_ ?_ ?_
            rotate_left 3
            · (simp only [lg0, lg1, lg2]; rfl)
            · exact fun _ _ _ h => h
            · (refine Or.inl ⟨by first | kernel_rfl | (simp [Region.wanted, yielded]), ?_⟩; intro w hSw; clear hSw; go_simp; first | done | with_reducible rfl)
            rotate_left 1
            · kernel_rfl
            simp only [Act.put, lt0', lt1', lt2']
            refine' GoL.take 29 [] ?_ ?_ ?_ ?_ ?_
            rotate_left 3
            · (simp only [lg0, lg1, lg2]; rfl)
            · exact fun _ _ _ h => h
            · (refine Or.inl ⟨by first | kernel_rfl | (simp [Region.wanted, yielded]), ?_⟩; intro w hSw; clear hSw; go_simp; first | done | with_reducible rfl)
            rotate_left 1
            · kernel_rfl
            simp only [Act.put, lt0', lt1', lt2']
            refine' GoL.take 30 [] ?_ ?_ ?_ ?_ ?_
            rotate_left 3
            · (simp only [lg0, lg1, lg2]; rfl)
            · exact fun _ _ _ h => h
            · (refine Or.inl ⟨by first | kernel_rfl | (simp [Region.wanted, yielded]), ?_⟩; intro w hSw; clear hSw; go_simp; first | done | with_reducible rfl)
            rotate_left 1
            · kernel_rfl
            simp only [Act.put, lt0', lt1', lt2']
            refine' GoL.take 31 [] ?_ ?_ ?_ ?_ ?_
            rotate_left 3
            · (simp only [lg0, lg1, lg2]; rfl)
            · exact fun _ _ _ h => h
            · (refine Or.inl ⟨by first | kernel_rfl | (simp [Region.wanted, yielded]), ?_⟩; intro w hSw; have f0 := Facts.get hSw 0 rfl (by decide); (try dsimp only at f0); clear hSw; go_simp; first | done | with_reducible rfl)
            rotate_left 1
            · kernel_rfl
            simp only [Act.put, lt0', lt1', lt2']
            refine GoL.ready [32] (by kernel_rfl) (by simp) ?_
            refine GoL.one (by (simp only [lg0, lg1, lg2]; rfl)) (fun K hK => ?_) ?_
            · go_simp
              refine Sat.callF hS (lMay g1 c1 g2 c2 exC 1 _ (by decide) (by decide)) (fun w hS => ?_)
              clear fs
              have fs := hS.says
              simp only [says, Ck.say] at fs
              refine hK.out _ _ ?_ ?_
              · exact (Facts.cons_at (.inr (by simp [fs])) (Facts.cons_at (.inr (by simp [fs])) Facts.nil_at))
              clear hK K
              try simp only [Act.put, lt0', lt1', lt2']
              refine' GoL.take 33 [] ?_ ?_ ?_ ?_ ?_
              rotate_left 3
              · (simp only [lg0, lg1, lg2]; rfl)
              · exact fun _ _ _ h => h
              · (refine Or.inl ⟨by first | kernel_rfl | (simp [Region.wanted, yielded]), ?_⟩; intro w hSw; clear hSw; go_simp; first | done | with_reducible rfl)
              rotate_left 1
              · kernel_rfl
              simp only [Act.put, lt0', lt1', lt2']
              refine' GoL.take 34 [] ?_ ?_ ?_ ?_ ?_
              rotate_left 3
              · (simp only [lg0, lg1, lg2]; rfl)
              · exact fun _ _ _ h => h
              · (refine Or.inl ⟨by first | kernel_rfl | (simp [Region.wanted, yielded]), ?_⟩; intro w hSw; clear hSw; go_simp; first | done | with_reducible rfl)
              rotate_left 1
              · kernel_rfl
              simp only [Act.put, lt0', lt1', lt2']
              refine' GoL.take 35 [] ?_ ?_ ?_ ?_ ?_
              rotate_left 3
              · (simp only [lg0, lg1, lg2]; rfl)
              · exact fun _ _ _ h => h
              · (refine Or.inl ⟨by first | kernel_rfl | (simp [Region.wanted, yielded]), ?_⟩; intro w hSw; have f0 := Facts.get hSw 0 rfl (by decide); (try dsimp only at f0); clear hSw; go_simp; first | done | with_reducible rfl)
              rotate_left 1
              · kernel_rfl
              simp only [Act.put, lt0', lt1', lt2']
              refine GoL.ready [36] (by kernel_rfl) (by simp) ?_
              refine GoL.one (by (simp only [lg0, lg1, lg2]; rfl)) (fun K hK => ?_) ?_
              · go_simp
                refine Sat.callF hS (lMayNo g1 c1 g2 c2 exC 2 _ (by decide) (by decide)) (fun w hS => ?_)
                clear fs
                have fs := hS.says
                simp only [says, Ck.say] at fs
                refine hK.out _ _ ?_ ?_
                · exact (Facts.cons_at (.inr (by simp [fs])) (Facts.cons_at (.inr (by simp [fs])) Facts.nil_at))
                clear hK K
                try simp only [Act.put, lt0', lt1', lt2']
                refine' GoL.take 37 [] ?_ ?_ ?_ ?_ ?_
                rotate_left 3
                · (simp only [lg0, lg1, lg2]; rfl)
                · exact fun _ _ _ h => h
                · (refine Or.inl ⟨by first | kernel_rfl | (simp [Region.wanted, yielded]), ?_⟩; intro w hSw; clear hSw; go_simp; first | done | with_reducible rfl)
                rotate_left 1
                · kernel_rfl
                simp only [Act.put, lt0', lt1', lt2']
                refine' GoL.take 38 [] ?_ ?_ ?_ ?_ ?_
                rotate_left 3
                · (simp only [lg0, lg1, lg2]; rfl)
                · exact fun _ _ _ h => h
                · (refine Or.inl ⟨by first | kernel_rfl | (simp [Region.wanted, yielded]), ?_⟩; intro w hSw; clear hSw; go_simp; first | done | with_reducible rfl)
                rotate_left 1
                · kernel_rfl
                simp only [Act.put, lt0', lt1', lt2']
                refine' GoL.take 39 [] ?_ ?_ ?_ ?_ ?_
                rotate_left 3
                · (simp only [lg0, lg1, lg2]; rfl)
                · exact fun _ _ _ h => h
                · (refine Or.inl ⟨by first | kernel_rfl | (simp [Region.wanted, yielded]), ?_⟩; intro w hSw; clear hSw; go_simp; first | done | with_reducible rfl)
                rotate_left 1
                · kernel_rfl
                simp only [Act.put, lt0', lt1', lt2']
                refine GoL.done (by kernel_rfl) ?_
                go_wp2_with fail
                go_ret
                exact ⟨rfl, hS.fr⟩
              exact AllL.nil
            exact AllL.nil
          exact AllL.nil
        exact AllL.nil
      exact AllL.nil
    exact AllL.nil
  exact AllL.nil
end Go.Proofs.YtnnpjjehecbljaaGreatDoor

namespace Go.Proofs.YtnnpjjehecbljaaGreatDoor
open Go.RowKit
set_option linter.unusedSimpArgs false

theorem someL_len (b : Nat) : (someL b).length ≤ 8 := someP_len b 7
theorem someL_ne (b : Nat) : someL b ≠ [] := by unfold someL; simp
theorem some_ok {b : Nat} (hb : b < 256) : (newC (someL b)).ok = true := some_new ⟨b, hb⟩
def exReg (m : Int) : Ent := ⟨1, 1, 7, 0, 0, 0, 0, m, 2, ⟨#[]⟩, ⟨#[]⟩⟩
def exFin : Ent := ⟨1, 1, 10, 0, 0, 0, 0, 0, 0, ⟨#[]⟩, ⟨#[]⟩⟩
def exLow : Ent := ⟨1, 1, 9, 0, 0, 0, 0, 0, 0, ⟨#[]⟩, ⟨#[]⟩⟩
theorem exFin_ok : exFin.ok = true := by decide +kernel
theorem exLow_ok : exLow.ok = true := by decide +kernel
theorem exReg_ok {m : Int} (h0 : 1 ≤ m) (h1 : m ≤ 7) : (exReg m).ok = true := by
  have h : ∀ k : Fin 7, (exReg (k.val + 1)).ok = true := by decide +kernel
  have := h ⟨m.toNat - 1, by omega⟩
  rwa [show (((m.toNat - 1 : Nat) : Int) + 1) = m by omega] at this
theorem exReg_fits (m : Int) : (exReg m).Fits := by constructor <;> simp [exReg, U64, maxLen] <;> decide
theorem exFin_fits : exFin.Fits := by constructor <;> simp [exFin, U64, maxLen] <;> decide
theorem exLow_fits : exLow.Fits := by constructor <;> simp [exLow, U64, maxLen] <;> decide
theorem rise_M (M : List Int) (k : Nat) : (riseC M k).M = M := rfl
theorem rise_lvl (M : List Int) (k : Nat) : (riseC M k).lvl = 1 := rfl
theorem rise_fin (M : List Int) (k : Nat) : (riseC M k).fin = false := rfl
theorem rise_len {M : List Int} {k : Nat} (h : k ≤ M.length) : (riseC M k).G.length = M.length := by
  show (List.replicate k (2 : Int) ++ List.replicate (M.length - k) 1).length = _
  rw [List.length_append, List.length_replicate, List.length_replicate]
  omega
theorem some_okR : ∀ b : Fin 256, ((List.range ((memL (someL b.val)).length + 1)).all (fun i => (riseC (memL (someL b.val)) i).ok) && Cfg.ok ⟨memL (someL b.val), List.replicate (memL (someL b.val)).length 2, 2, false⟩ && Cfg.ok ⟨memL (someL b.val), List.replicate (memL (someL b.val)).length 2, 2, true⟩) = true := by decide +kernel
/-- What the walk asks of the members. -/
structure RiseOK (M : List Int) : Prop where
  ok : ∀ k, k ≤ M.length → (riseC M k).ok = true
  ok2 : Cfg.ok ⟨M, List.replicate M.length 2, 2, false⟩ = true
  ok3 : Cfg.ok ⟨M, List.replicate M.length 2, 2, true⟩ = true
  up : ∀ k, k < M.length → tellC (riseC M k) exE = (riseC M k, 8)
  reg : ∀ k, k < M.length → tellC (riseC M k) (exReg (M.getD k 0)) = (riseC M (k + 1), 0)
  last : tellC (riseC M M.length) exE = (⟨M, List.replicate M.length 2, 2, false⟩, 0)
  fin : tellC ⟨M, List.replicate M.length 2, 2, false⟩ exFin = (⟨M, List.replicate M.length 2, 2, true⟩, 0)
  low3 : tellC ⟨M, List.replicate M.length 2, 2, true⟩ exLow = (⟨M, List.replicate M.length 2, 2, true⟩, 8)
  low2 : tellC ⟨M, List.replicate M.length 2, 2, false⟩ exLow = (⟨M, List.replicate M.length 2, 1, false⟩, 0)
theorem pair_of {a : Cfg × Int} {c : Cfg} {k : Int} (h1 : (a.2 == k) = true) (h2 : a.1 = c) : a = (c, k) := by
  obtain ⟨x, y⟩ := a
  have : y = k := by simpa using h1
  subst this
  have h2' : x = c := h2
  rw [h2']
theorem riseOK {b : Nat} (hb : b < 256) : RiseOK (memL (someL b)) := by
  have h := some_rises ⟨b, hb⟩
  have h2 := some_okR ⟨b, hb⟩
  simp only at h h2
  generalize memL (someL b) = M at *
  unfold riseB at h
  simp only [Bool.and_eq_true, List.all_eq_true, List.mem_range] at h h2
  obtain ⟨⟨⟨⟨⟨⟨⟨⟨hall, a1⟩, a2⟩, a3⟩, a4⟩, a5⟩, a6⟩, a7⟩, a8⟩ := h
  obtain ⟨⟨r, o2⟩, o3⟩ := h2
  have hmem : ∀ k, k < M.length → 1 ≤ M.getD k 0 ∧ M.getD k 0 ≤ 7 := fun k hk => by
    obtain ⟨h1, h2, h3, h4, h5, h6, h7⟩ := (Cfg.ok_iff _).1 (r 0 (by omega))
    have hm : M.getD k 0 ∈ M := by rw [List.getD_eq_getElem?_getD, List.getElem?_eq_getElem hk]; exact List.getElem_mem hk
    have h8 := rightL_mem h3 h7 _ hm
    have h9 := (rightL_small (by omega) (by decide) h3 h7).1 _ hm
    omega
  refine ⟨fun k hk => r k (by omega), o2, o3, fun k hk => ?_, fun k hk => ?_, ?_, ?_, ?_, ?_⟩
  · obtain ⟨⟨q1, q2⟩, q3⟩ := hall k hk
    have e : tellC (riseC M k) exE = applyOf (riseC M k) true 8 0 0 := by unfold tellC; rw [exE_ok]; rfl
    rw [e]
    refine pair_of q1 (apply_err _ _ _ _ _ ?_)
    have : (applyOf (riseC M k) true 8 0 0).2 = 8 := by simpa using q1
    rw [this]
    decide
  · obtain ⟨⟨q1, q2⟩, q3⟩ := hall k hk
    have e : tellC (riseC M k) (exReg (M.getD k 0)) = applyOf (riseC M k) true 7 (M.getD k 0) 2 := by unfold tellC; rw [exReg_ok (hmem k hk).1 (hmem k hk).2]; rfl
    rw [e]
    exact pair_of q2 (Cfg.eqB_eq q3)
  · have e : tellC (riseC M M.length) exE = applyOf (riseC M M.length) true 8 0 0 := by unfold tellC; rw [exE_ok]; rfl
    rw [e]
    exact pair_of a1 (Cfg.eqB_eq a2)
  · have e : tellC ⟨M, List.replicate M.length 2, 2, false⟩ exFin = applyOf ⟨M, List.replicate M.length 2, 2, false⟩ true 10 0 0 := by unfold tellC; rw [exFin_ok]; rfl
    rw [e]
    exact pair_of a3 (Cfg.eqB_eq a4)
  · have e : tellC ⟨M, List.replicate M.length 2, 2, true⟩ exLow = applyOf ⟨M, List.replicate M.length 2, 2, true⟩ true 9 0 0 := by unfold tellC; rw [exLow_ok]; rfl
    rw [e]
    exact pair_of a5 (Cfg.eqB_eq a6)
  · have e : tellC ⟨M, List.replicate M.length 2, 2, false⟩ exLow = applyOf ⟨M, List.replicate M.length 2, 2, false⟩ true 9 0 0 := by unfold tellC; rw [exLow_ok]; rfl
    rw [e]
    exact pair_of a7 (Cfg.eqB_eq a8)


end Go.Proofs.YtnnpjjehecbljaaGreatDoor

namespace Go.Proofs.YtnnpjjehecbljaaGreatDoor
open Go.RowKit

/-- A message but for its entries. -/
structure Msg where
  kind : Int
  sent : Int
  goal : Int
  term : Int
  index : Int
  prev : Int
  commit : Int
  mark : Int
  yes : Bool
  ents : List Ent
  snap : ByteArray

def Msg.cells (m : Msg) (v : Value) : Array Value := #[.int .i64 m.kind, .int .i64 m.sent, .int .i64 m.goal, .int .u64 m.term, .int .u64 m.index, .int .u64 m.prev, .int .u64 m.commit, .int .u64 m.mark, .bool m.yes, v, .string m.snap]

structure Msg.Fits (m : Msg) : Prop where
  term : U64 m.term
  index : U64 m.index
  prev : U64 m.prev
  commit : U64 m.commit
  mark : U64 m.mark
  ents : ∀ e, e ∈ m.ents → e.Fits
  many : m.ents.length ≤ maxLen
  snap : m.snap.size ≤ maxLen

def Msg.flds (m : Msg) : List Fld := [⟨105, decide (0 < m.index), true⟩, ⟨112, decide (0 < m.prev), true⟩, ⟨116, decide (0 < m.commit), true⟩, ⟨107, decide (0 < m.mark), true⟩, ⟨121, m.yes, true⟩,
  ⟨101, decide (0 < m.ents.length), decide (m.ents.length ≤ 64) && !(m.ents.any (fun e => !e.ok))⟩, ⟨115, !m.snap.toList.isEmpty, decide ((m.snap.size : Int) ≤ 16384)⟩]
def Msg.ok (m : Msg) : Bool := (msgMay m.kind).2 && nodeB m.sent && nodeB m.goal && fitB (msgMay m.kind).1 m.flds

theorem Ents.shape {w : World} {v : Value} {l : List Ent} (h : Ents w v l) : ∃ a c, v = .slice a l.length c := by
  rcases h with ⟨rfl, a, c, rfl⟩ | ⟨b, o, c, rfl, _⟩
  · exact ⟨a, c, rfl⟩
  · exact ⟨_, c, rfl⟩



theorem msgS {w : World} {bx : Nat} {m : Msg} {v : Value} {t : TypeId} (h : Blk w bx (m.cells v) t) :
    w.cell? ⟨bx, 1, none⟩ = some (.int .i64 m.sent) ∧ w.cell? ⟨bx, 2, none⟩ = some (.int .i64 m.goal) ∧ w.cell? ⟨bx, 4, none⟩ = some (.int .u64 m.index) ∧ w.cell? ⟨bx, 5, none⟩ = some (.int .u64 m.prev) ∧ w.cell? ⟨bx, 6, none⟩ = some (.int .u64 m.commit) ∧ w.cell? ⟨bx, 7, none⟩ = some (.int .u64 m.mark) ∧ w.cell? ⟨bx, 8, none⟩ = some (.bool m.yes) ∧ w.cell? ⟨bx, 9, none⟩ = some v ∧ w.cell? ⟨bx, 10, none⟩ = some (.string m.snap) :=
  ⟨h.cellAt (i := 1) rfl, h.cellAt (i := 2) rfl, h.cellAt (i := 4) rfl, h.cellAt (i := 5) rfl, h.cellAt (i := 6) rfl, h.cellAt (i := 7) rfl, h.cellAt (i := 8) rfl, h.cellAt (i := 9) rfl, h.cellAt (i := 10) rfl⟩

/-- fit at a message's seven fields, as they were just laid. -/
theorem eFitM (may : ByteArray) (i p t k y n r s z : Bool) (w : World) :
    Calls Tryz.prog 50 #[.string may, .slice (some ⟨w.heap.size, 0, none⟩) 7 7] (w.alloc (.cells #[.string ⟨#[105]⟩, .bool i, .bool true, .string ⟨#[112]⟩, .bool p, .bool true, .string ⟨#[116]⟩, .bool t, .bool true, .string ⟨#[107]⟩, .bool k, .bool true, .string ⟨#[121]⟩, .bool y, .bool true, .string ⟨#[101]⟩, .bool n, .bool r, .string ⟨#[115]⟩, .bool s, .bool z] 90))
    fun e w' => e = .returned (.bool (fitB may [⟨105, i, true⟩, ⟨112, p, true⟩, ⟨116, t, true⟩, ⟨107, k, true⟩, ⟨121, y, true⟩, ⟨101, n, r⟩, ⟨115, s, z⟩])) ∧ Fr [] (w.alloc (.cells #[.string ⟨#[105]⟩, .bool i, .bool true, .string ⟨#[112]⟩, .bool p, .bool true, .string ⟨#[116]⟩, .bool t, .bool true, .string ⟨#[107]⟩, .bool k, .bool true, .string ⟨#[121]⟩, .bool y, .bool true, .string ⟨#[101]⟩, .bool n, .bool r, .string ⟨#[115]⟩, .bool s, .bool z] 90)) w' :=
  eFit may w.heap.size 0 7 [⟨105, i, true⟩, ⟨112, p, true⟩, ⟨116, t, true⟩, ⟨107, k, true⟩, ⟨121, y, true⟩, ⟨101, n, r⟩, ⟨115, s, z⟩] _ (Flds.new w [⟨105, i, true⟩, ⟨112, p, true⟩, ⟨116, t, true⟩, ⟨107, k, true⟩, ⟨121, y, true⟩, ⟨101, n, r⟩, ⟨115, s, z⟩] 90) (show 7 ≤ maxLen by decide)
end Go.Proofs.YtnnpjjehecbljaaGreatDoor
