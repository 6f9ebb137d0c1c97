/-
  The examples ahead of each statement are so.
-/
import Derived.Test.YtnnpjjehecbljaaDoorLSome
import Derived.Test.YtnnpjjehecbljaaDoorLText
import Derived.Test.YtnnpjjehecbljaaDoorOrdL
namespace Go.Proofs.YtnnpjjehecbljaaDoor
open Go.RowKit

set_option linter.unusedSimpArgs false
def exC : Cfg := ⟨[1, 2], [1, 1], 1, false⟩
def exE : Ent := ⟨1, 1, 8, 0, 0, 0, 0, 0, 0, ⟨#[]⟩, ⟨#[]⟩⟩
theorem exC_new : newC [2, 1, 2] = exC := Cfg.eqB_eq (by decide +kernel)
theorem exC_ok : exC.ok = true := by decide +kernel
theorem exE_ok : exE.ok = true := by decide +kernel
theorem exE_fits : exE.Fits := by constructor <;> simp [exE, U64, maxLen] <;> decide
theorem exA : tellC exC exE = (exC, 8) := by unfold tellC; rw [exE_ok]; unfold applyOf exE upgradeOf; simp [exC_ok]; simp [exC]
theorem exT : textC exC = ⟨#[49, 58, 49, 32, 50, 58, 49, 32, 108, 101, 118, 101, 108, 32, 49]⟩ := by decide +kernel

set_option maxRecDepth 100000 in
set_option maxHeartbeats 4000000 in
theorem lExamples (w : World) : Calls Tryd.prog 5 #[] w fun e w' => e = .returned (.bool true) ∧ Fr [] w w' := by
  have hS := ((Sat.refl [] w).new _ rfl #[.int .i64 2, .int .i64 1, .int .i64 2] 3).asRow (by unfold maxLen; simp)
  go_enter Tryd.func5, Tryd.ntmps5
  go_upto_region 2 with (go_at_call 6; refine cNew hS (L := [2, 1, 2]) (hS.mem 0 rfl) (by simp) (by simp) (by rw [exC_new]; exact exC_ok) exC_new rfl ?_; rintro ⟨g1, c1, g2, c2⟩ w1 hS; dsimp only at hS; simp only [cfC, ivV, exC, List.length_cons, List.length_nil, Nat.zero_add, Nat.reduceAdd])
  have hS := hS.new _ rfl #[.slice (some ⟨g1, 0, none⟩) 2 c1, .slice (some ⟨g2, 0, none⟩) 2 c2, .int .i64 1, .bool false] 25
  generalize w1.heap.size = x1 at *
  generalize w1.alloc (.cells #[.slice (some ⟨g1, 0, none⟩) 2 c1, .slice (some ⟨g2, 0, none⟩) 2 c2, .int .i64 1, .bool false] 25) = w2 at *
  go_upto_region 3 with (go_at_call 6; refine Sat.callF hS (lNew0 w2) (fun w3 hS => ?_))
  have hS := hS.new _ rfl #[.slice none 0 0, .slice none 0 0, .int .i64 0, .bool false] 25
  generalize w3.heap.size = x3 at *
  generalize w3.alloc (.cells #[.slice none 0 0, .slice none 0 0, .int .i64 0, .bool false] 25) = w4 at *
  have fs := hS.says
  simp only [says, Ck.say] at fs
  go_upto_region 4 with (go_at_call 8; refine cApply hS (gm := g1) (cm := c1) (gh := g2) (ch := c2) (c := exC) (e := exE) (hS.cf 2 3 rfl rfl (by decide)) exC_ok exE_fits exA ?_; rintro ⟨g3, c3, g4, c4⟩ w5 hS; dsimp only at hS; simp only [cfC, ivV, exC, List.length_cons, List.length_nil, Nat.zero_add, Nat.reduceAdd])
  have hS := hS.new _ rfl #[.slice (some ⟨g3, 0, none⟩) 2 c3, .slice (some ⟨g4, 0, none⟩) 2 c4, .int .i64 1, .bool false] 25
  generalize w5.heap.size = x5 at *
  generalize w5.alloc (.cells #[.slice (some ⟨g3, 0, none⟩) 2 c3, .slice (some ⟨g4, 0, none⟩) 2 c4, .int .i64 1, .bool false] 25) = w6 at *
  clear fs
  have fs := hS.says
  simp only [says, Ck.say] at fs

  refine GoL.begin [(none, fun w => ∀ i, w.cell? ⟨x1, i, none⟩ = #[.slice (some ⟨g1, 0, none⟩) 2 c1, .slice (some ⟨g2, 0, none⟩) 2 c2, .int .i64 1, .bool false][i]?), (none, fun w => ∀ i, w.cell? ⟨x5, i, none⟩ = #[.slice (some ⟨g3, 0, none⟩) 2 c3, .slice (some ⟨g4, 0, none⟩) 2 c4, .int .i64 1, .bool false][i]?)] (by kernel_rfl) ?_ ?_
  · exact (Facts.cons_at (.inr (by simp [fs])) (Facts.cons_at (.inr (by simp [fs])) Facts.nil_at))
  have hS := hS.drew
  clear fs
  have fs := hS.says
  simp only [says, Ck.say] at fs
  generalize w6.drew = w7 at *
  refine' GoL.take 0 [] ?_ ?_ ?_ ?_ ?_
  rotate_left 3
  · (simp only [List.getElem?_toArray, List.getElem?_cons_succ, List.getElem?_cons_zero]; rfl)
  · exact fun _ _ _ h => h
  · (refine Or.inl ⟨by first | kernel_rfl | (simp [Region.wanted, yielded]), ?_⟩; intro w hSw; clear hSw; go_simp; first | done | with_reducible rfl)
  rotate_left 1
  · kernel_rfl
  simp only [Act.put, List.setIfInBounds_toArray, List.set_cons_zero, List.set_cons_succ]
  refine' GoL.take 1 [] ?_ ?_ ?_ ?_ ?_
  rotate_left 3
  · (simp only [List.getElem?_toArray, List.getElem?_cons_succ, List.getElem?_cons_zero]; rfl)
  · exact fun _ _ _ h => h
  · (refine Or.inl ⟨by first | kernel_rfl | (simp [Region.wanted, yielded]), ?_⟩; intro w hSw; clear hSw; go_simp; first | done | with_reducible rfl)
  rotate_left 1
  · kernel_rfl
  simp only [Act.put, List.setIfInBounds_toArray, List.set_cons_zero, List.set_cons_succ]
  refine' GoL.take 2 [] ?_ ?_ ?_ ?_ ?_
  rotate_left 3
  · (simp only [List.getElem?_toArray, List.getElem?_cons_succ, List.getElem?_cons_zero]; rfl)
  · exact fun _ _ _ h => h
  · (refine Or.inl ⟨by first | kernel_rfl | (simp [Region.wanted, yielded]), ?_⟩; intro w hSw; have f0 := Facts.get hSw 0 rfl (by decide); (try dsimp only at f0); clear hSw; go_simp; first | done | with_reducible rfl)
  rotate_left 1
  · kernel_rfl
  simp only [Act.put, List.setIfInBounds_toArray, List.set_cons_zero, List.set_cons_succ]
  refine GoL.ready [3] (by kernel_rfl) (by simp) ?_
  refine GoL.one (by (simp only [List.getElem?_toArray, List.getElem?_cons_succ, List.getElem?_cons_zero]; rfl)) (fun K hK => ?_) ?_
  · go_simp
    refine Sat.callF hS (lText g1 c1 g2 c2 exC _ (hS.cf 5 6 rfl rfl (by decide)) exC_ok) (fun w hS => ?_)
    rw [exT]
    clear fs
    have fs := hS.says
    simp only [says, Ck.say] at fs
    refine hK.out _ _ ?_ ?_
    · exact (Facts.cons_at (.inr (by simp [fs])) (Facts.cons_at (.inr (by simp [fs])) Facts.nil_at))
    clear hK K
    try simp only [Act.put, List.setIfInBounds_toArray, List.set_cons_zero, List.set_cons_succ]
    refine' GoL.take 4 [] ?_ ?_ ?_ ?_ ?_
    rotate_left 3
    · (simp only [List.getElem?_toArray, List.getElem?_cons_succ, List.getElem?_cons_zero]; rfl)
    · exact fun _ _ _ h => h
    · (refine Or.inl ⟨by first | kernel_rfl | (simp [Region.wanted, yielded]), ?_⟩; intro w hSw; clear hSw; go_simp; first | done | with_reducible rfl)
    rotate_left 1
    · kernel_rfl
    simp only [Act.put, List.setIfInBounds_toArray, List.set_cons_zero, List.set_cons_succ]
    refine' GoL.take 5 [] ?_ ?_ ?_ ?_ ?_
    rotate_left 3
    · (simp only [List.getElem?_toArray, List.getElem?_cons_succ, List.getElem?_cons_zero]; rfl)
    · exact fun _ _ _ h => h
    · (refine Or.inl ⟨by first | kernel_rfl | (simp [Region.wanted, yielded]), ?_⟩; intro w hSw; clear hSw; go_simp; first | done | with_reducible rfl)
    rotate_left 1
    · kernel_rfl
    simp only [Act.put, List.setIfInBounds_toArray, List.set_cons_zero, List.set_cons_succ]
    refine' GoL.take 6 [] ?_ ?_ ?_ ?_ ?_
    rotate_left 3
    · (simp only [List.getElem?_toArray, List.getElem?_cons_succ, List.getElem?_cons_zero]; rfl)
    · exact fun _ _ _ h => h
    · (refine Or.inl ⟨by first | kernel_rfl | (simp [Region.wanted, yielded]), ?_⟩; intro w hSw; clear hSw; go_simp; first | done | with_reducible rfl)
    rotate_left 1
    · kernel_rfl
    simp only [Act.put, List.setIfInBounds_toArray, List.set_cons_zero, List.set_cons_succ]
    refine' GoL.take 7 [] ?_ ?_ ?_ ?_ ?_
    rotate_left 3
    · (simp only [List.getElem?_toArray, List.getElem?_cons_succ, List.getElem?_cons_zero]; rfl)
    · exact fun _ _ _ h => h
    · (refine Or.inl ⟨by first | kernel_rfl | (simp [Region.wanted, yielded]), ?_⟩; intro w hSw; clear hSw; go_simp; first | done | with_reducible rfl)
    rotate_left 1
    · kernel_rfl
    simp only [Act.put, List.setIfInBounds_toArray, List.set_cons_zero, List.set_cons_succ]
    refine' GoL.take 8 [] ?_ ?_ ?_ ?_ ?_
    rotate_left 3
    · (simp only [List.getElem?_toArray, List.getElem?_cons_succ, List.getElem?_cons_zero]; rfl)
    · exact fun _ _ _ h => h
    · (refine Or.inl ⟨by first | kernel_rfl | (simp [Region.wanted, yielded]), ?_⟩; intro w hSw; clear hSw; go_simp; first | done | with_reducible rfl)
    rotate_left 1
    · kernel_rfl
    simp only [Act.put, List.setIfInBounds_toArray, List.set_cons_zero, List.set_cons_succ]
    refine' GoL.take 9 [] ?_ ?_ ?_ ?_ ?_
    rotate_left 3
    · (simp only [List.getElem?_toArray, List.getElem?_cons_succ, List.getElem?_cons_zero]; rfl)
    · exact fun _ _ _ h => h
    · (refine Or.inl ⟨by first | kernel_rfl | (simp [Region.wanted, yielded]), ?_⟩; intro w hSw; clear hSw; go_simp; first | done | with_reducible rfl)
    rotate_left 1
    · kernel_rfl
    simp only [Act.put, List.setIfInBounds_toArray, List.set_cons_zero, List.set_cons_succ]
    refine' GoL.take 10 [] ?_ ?_ ?_ ?_ ?_
    rotate_left 3
    · (simp only [List.getElem?_toArray, List.getElem?_cons_succ, List.getElem?_cons_zero]; rfl)
    · exact fun _ _ _ h => h
    · (refine Or.inl ⟨by first | kernel_rfl | (simp [Region.wanted, yielded]), ?_⟩; intro w hSw; clear hSw; go_simp; first | done | with_reducible rfl)
    rotate_left 1
    · kernel_rfl
    simp only [Act.put, List.setIfInBounds_toArray, List.set_cons_zero, List.set_cons_succ]
    refine' GoL.take 11 [] ?_ ?_ ?_ ?_ ?_
    rotate_left 3
    · (simp only [List.getElem?_toArray, List.getElem?_cons_succ, List.getElem?_cons_zero]; rfl)
    · exact fun _ _ _ h => h
    · (refine Or.inl ⟨by first | kernel_rfl | (simp [Region.wanted, yielded]), ?_⟩; intro w hSw; clear hSw; go_simp; first | done | with_reducible rfl)
    rotate_left 1
    · kernel_rfl
    simp only [Act.put, List.setIfInBounds_toArray, List.set_cons_zero, List.set_cons_succ]
    refine' GoL.take 12 [] ?_ ?_ ?_ ?_ ?_
    rotate_left 3
    · (simp only [List.getElem?_toArray, List.getElem?_cons_succ, List.getElem?_cons_zero]; rfl)
    · exact fun _ _ _ h => h
    · (refine Or.inl ⟨by first | kernel_rfl | (simp [Region.wanted, yielded]), ?_⟩; intro w hSw; clear hSw; go_simp; first | done | with_reducible rfl)
    rotate_left 1
    · kernel_rfl
    simp only [Act.put, List.setIfInBounds_toArray, List.set_cons_zero, List.set_cons_succ]
    refine' GoL.take 13 [] ?_ ?_ ?_ ?_ ?_
    rotate_left 3
    · (simp only [List.getElem?_toArray, List.getElem?_cons_succ, List.getElem?_cons_zero]; rfl)
    · exact fun _ _ _ h => h
    · (refine Or.inl ⟨by first | kernel_rfl | (simp [Region.wanted, yielded]), ?_⟩; intro w hSw; clear hSw; go_simp; first | done | with_reducible rfl)
    rotate_left 1
    · kernel_rfl
    simp only [Act.put, List.setIfInBounds_toArray, List.set_cons_zero, List.set_cons_succ]
    refine' GoL.take 14 [] ?_ ?_ ?_ ?_ ?_
    rotate_left 3
    · (simp only [List.getElem?_toArray, List.getElem?_cons_succ, List.getElem?_cons_zero]; rfl)
    · exact fun _ _ _ h => h
    · (refine Or.inl ⟨by first | kernel_rfl | (simp [Region.wanted, yielded]), ?_⟩; intro w hSw; clear hSw; go_simp; first | done | with_reducible rfl)
    rotate_left 1
    · kernel_rfl
    simp only [Act.put, List.setIfInBounds_toArray, List.set_cons_zero, List.set_cons_succ]
    refine' GoL.take 15 [] ?_ ?_ ?_ ?_ ?_
    rotate_left 3
    · (simp only [List.getElem?_toArray, List.getElem?_cons_succ, List.getElem?_cons_zero]; rfl)
    · exact fun _ _ _ h => h
    · (refine Or.inl ⟨by first | kernel_rfl | (simp [Region.wanted, yielded]), ?_⟩; intro w hSw; have f1 := Facts.get hSw 1 rfl (by decide); (try dsimp only at f1); clear hSw; go_simp; first | done | with_reducible rfl)
    rotate_left 1
    · kernel_rfl
    simp only [Act.put, List.setIfInBounds_toArray, List.set_cons_zero, List.set_cons_succ]
    refine' GoL.take 17 [] ?_ ?_ ?_ ?_ ?_
    rotate_left 3
    · (simp only [List.getElem?_toArray, List.getElem?_cons_succ, List.getElem?_cons_zero]; rfl)
    · exact fun _ _ _ h => h
    · (refine Or.inl ⟨by first | kernel_rfl | (simp [Region.wanted, yielded]), ?_⟩; intro w hSw; have f0 := Facts.get hSw 0 rfl (by decide); (try dsimp only at f0); clear hSw; go_simp; first | done | with_reducible rfl)
    rotate_left 1
    · kernel_rfl
    simp only [Act.put, List.setIfInBounds_toArray, List.set_cons_zero, List.set_cons_succ]
    refine GoL.ready [16] (by kernel_rfl) (by simp) ?_
    refine GoL.one (by (simp only [List.getElem?_toArray, List.getElem?_cons_succ, List.getElem?_cons_zero]; rfl)) (fun K hK => ?_) ?_
    · go_simp
      refine Sat.callF hS (lText g3 c3 g4 c4 exC _ (hS.cf 1 2 rfl rfl (by decide)) exC_ok) (fun w hS => ?_)
      rw [exT]
      clear fs
      have fs := hS.says
      simp only [says, Ck.say] at fs
      refine hK.out _ _ ?_ ?_
      · exact (Facts.cons_at (.inr (by simp [fs])) (Facts.cons_at (.inr (by simp [fs])) Facts.nil_at))
      clear hK K
      try simp only [Act.put, List.setIfInBounds_toArray, List.set_cons_zero, List.set_cons_succ]
      refine GoL.ready [18] (by kernel_rfl) (by simp) ?_
      refine GoL.one (by (simp only [List.getElem?_toArray, List.getElem?_cons_succ, List.getElem?_cons_zero]; rfl)) (fun K hK => ?_) ?_
      · go_simp
        refine Sat.callF hS (lText g1 c1 g2 c2 exC _ (hS.cf 5 6 rfl rfl (by decide)) exC_ok) (fun w hS => ?_)
        rw [exT]
        clear fs
        have fs := hS.says
        simp only [says, Ck.say] at fs
        refine hK.out _ _ ?_ ?_
        · exact (Facts.cons_at (.inr (by simp [fs])) (Facts.cons_at (.inr (by simp [fs])) Facts.nil_at))
        clear hK K
        try simp only [Act.put, List.setIfInBounds_toArray, List.set_cons_zero, List.set_cons_succ]
        refine' GoL.take 19 [] ?_ ?_ ?_ ?_ ?_
        rotate_left 3
        · (simp only [List.getElem?_toArray, List.getElem?_cons_succ, List.getElem?_cons_zero]; rfl)
        · exact fun _ _ _ h => h
        · (refine Or.inl ⟨by first | kernel_rfl | (simp [Region.wanted, yielded]), ?_⟩; intro w hSw; clear hSw; go_simp; first | done | with_reducible rfl)
        rotate_left 1
        · kernel_rfl
        simp only [Act.put, List.setIfInBounds_toArray, List.set_cons_zero, List.set_cons_succ]
        refine' GoL.take 20 [] ?_ ?_ ?_ ?_ ?_
        rotate_left 3
        · (simp only [List.getElem?_toArray, List.getElem?_cons_succ, List.getElem?_cons_zero]; rfl)
        · exact fun _ _ _ h => h
        · (refine Or.inl ⟨by first | kernel_rfl | (simp [Region.wanted, yielded]), ?_⟩; intro w hSw; clear hSw; go_simp; first | done | with_reducible rfl)
        rotate_left 1
        · kernel_rfl
        simp only [Act.put, List.setIfInBounds_toArray, List.set_cons_zero, List.set_cons_succ]
        refine' GoL.take 21 [] ?_ ?_ ?_ ?_ ?_
        rotate_left 3
        · (simp only [List.getElem?_toArray, List.getElem?_cons_succ, List.getElem?_cons_zero]; rfl)
        · exact fun _ _ _ h => h
        · (refine Or.inl ⟨by first | kernel_rfl | (simp [Region.wanted, yielded]), ?_⟩; intro w hSw; clear hSw; go_simp; first | done | with_reducible rfl)
        rotate_left 1
        · kernel_rfl
        simp only [Act.put, List.setIfInBounds_toArray, List.set_cons_zero, List.set_cons_succ]
        refine' GoL.take 22 [] ?_ ?_ ?_ ?_ ?_
        rotate_left 3
        · (simp only [List.getElem?_toArray, List.getElem?_cons_succ, List.getElem?_cons_zero]; rfl)
        · exact fun _ _ _ h => h
        · (refine Or.inl ⟨by first | kernel_rfl | (simp [Region.wanted, yielded]), ?_⟩; intro w hSw; have f0 := Facts.get hSw 0 rfl (by decide); (try dsimp only at f0); clear hSw; go_simp; first | done | with_reducible rfl)
        rotate_left 1
        · kernel_rfl
        simp only [Act.put, List.setIfInBounds_toArray, List.set_cons_zero, List.set_cons_succ]
        refine GoL.ready [23] (by kernel_rfl) (by simp) ?_
        refine GoL.one (by (simp only [List.getElem?_toArray, List.getElem?_cons_succ, List.getElem?_cons_zero]; rfl)) (fun K hK => ?_) ?_
        · go_simp
          refine Sat.callF hS (lHas g1 c1 g2 c2 exC 2 _ (hS.cf 5 6 rfl rfl (by decide)) (by decide)) (fun w hS => ?_)
          rw [show exC.M.contains 2 = true by decide]
          clear fs
          have fs := hS.says
          simp only [says, Ck.say] at fs
          refine hK.out _ _ ?_ ?_
          · exact (Facts.cons_at (.inr (by simp [fs])) (Facts.cons_at (.inr (by simp [fs])) Facts.nil_at))
          clear hK K
          try simp only [Act.put, List.setIfInBounds_toArray, List.set_cons_zero, List.set_cons_succ]
          refine' GoL.take 24 [] ?_ ?_ ?_ ?_ ?_
          rotate_left 3
          · (simp only [List.getElem?_toArray, List.getElem?_cons_succ, List.getElem?_cons_zero]; rfl)
          · exact fun _ _ _ h => h
          · (refine Or.inl ⟨by first | kernel_rfl | (simp [Region.wanted, yielded]), ?_⟩; intro w hSw; clear hSw; go_simp; first | done | with_reducible rfl)
          rotate_left 1
          · kernel_rfl
          simp only [Act.put, List.setIfInBounds_toArray, List.set_cons_zero, List.set_cons_succ]
          refine' GoL.take 25 [] ?_ ?_ ?_ ?_ ?_
          rotate_left 3
          · (simp only [List.getElem?_toArray, List.getElem?_cons_succ, List.getElem?_cons_zero]; rfl)
          · exact fun _ _ _ h => h
          · (refine Or.inl ⟨by first | kernel_rfl | (simp [Region.wanted, yielded]), ?_⟩; intro w hSw; clear hSw; go_simp; first | done | with_reducible rfl)
          rotate_left 1
          · kernel_rfl
          simp only [Act.put, List.setIfInBounds_toArray, List.set_cons_zero, List.set_cons_succ]
          refine' GoL.take 26 [] ?_ ?_ ?_ ?_ ?_
          rotate_left 3
          · (simp only [List.getElem?_toArray, List.getElem?_cons_succ, List.getElem?_cons_zero]; rfl)
          · exact fun _ _ _ h => h
          · (refine Or.inl ⟨by first | kernel_rfl | (simp [Region.wanted, yielded]), ?_⟩; intro w hSw; have f0 := Facts.get hSw 0 rfl (by decide); (try dsimp only at f0); clear hSw; go_simp; first | done | with_reducible rfl)
          rotate_left 1
          · kernel_rfl
          simp only [Act.put, List.setIfInBounds_toArray, List.set_cons_zero, List.set_cons_succ]
          refine GoL.ready [27] (by kernel_rfl) (by simp) ?_
          refine GoL.one (by (simp only [List.getElem?_toArray, List.getElem?_cons_succ, List.getElem?_cons_zero]; rfl)) (fun K hK => ?_) ?_
          · go_simp
            refine Sat.callF hS (lQuorum g1 c1 g2 c2 exC _ (by decide)) (fun w hS => ?_)
            rw [show ((exC.M.length : Nat) : Int) / 2 + 1 = 2 by decide]
            clear fs
            have fs := hS.says
            simp only [says, Ck.say] at fs
            refine hK.out _ _ ?_ ?_
            · exact (Facts.cons_at (.inr (by simp [fs])) (Facts.cons_at (.inr (by simp [fs])) Facts.nil_at))
            clear hK K
            try simp only [Act.put, List.setIfInBounds_toArray, List.set_cons_zero, List.set_cons_succ]
            refine' GoL.take 28 [] ?_ ?_ ?_ ?_ ?_
            rotate_left 3
            · (simp only [List.getElem?_toArray, List.getElem?_cons_succ, List.getElem?_cons_zero]; rfl)
            · exact fun _ _ _ h => h
            · (refine Or.inl ⟨by first | kernel_rfl | (simp [Region.wanted, yielded]), ?_⟩; intro w hSw; clear hSw; go_simp; first | done | with_reducible rfl)
            rotate_left 1
            · kernel_rfl
            simp only [Act.put, List.setIfInBounds_toArray, List.set_cons_zero, List.set_cons_succ]
            refine' GoL.take 29 [] ?_ ?_ ?_ ?_ ?_
            rotate_left 3
            · (simp only [List.getElem?_toArray, List.getElem?_cons_succ, List.getElem?_cons_zero]; rfl)
            · exact fun _ _ _ h => h
            · (refine Or.inl ⟨by first | kernel_rfl | (simp [Region.wanted, yielded]), ?_⟩; intro w hSw; clear hSw; go_simp; first | done | with_reducible rfl)
            rotate_left 1
            · kernel_rfl
            simp only [Act.put, List.setIfInBounds_toArray, List.set_cons_zero, List.set_cons_succ]
            refine' GoL.take 30 [] ?_ ?_ ?_ ?_ ?_
            rotate_left 3
            · (simp only [List.getElem?_toArray, List.getElem?_cons_succ, List.getElem?_cons_zero]; rfl)
            · exact fun _ _ _ h => h
            · (refine Or.inl ⟨by first | kernel_rfl | (simp [Region.wanted, yielded]), ?_⟩; intro w hSw; clear hSw; go_simp; first | done | with_reducible rfl)
            rotate_left 1
            · kernel_rfl
            simp only [Act.put, List.setIfInBounds_toArray, List.set_cons_zero, List.set_cons_succ]
            refine' GoL.take 31 [] ?_ ?_ ?_ ?_ ?_
            rotate_left 3
            · (simp only [List.getElem?_toArray, List.getElem?_cons_succ, List.getElem?_cons_zero]; rfl)
            · exact fun _ _ _ h => h
            · (refine Or.inl ⟨by first | kernel_rfl | (simp [Region.wanted, yielded]), ?_⟩; intro w hSw; have f0 := Facts.get hSw 0 rfl (by decide); (try dsimp only at f0); clear hSw; go_simp; first | done | with_reducible rfl)
            rotate_left 1
            · kernel_rfl
            simp only [Act.put, List.setIfInBounds_toArray, List.set_cons_zero, List.set_cons_succ]
            refine GoL.ready [32] (by kernel_rfl) (by simp) ?_
            refine GoL.one (by (simp only [List.getElem?_toArray, List.getElem?_cons_succ, List.getElem?_cons_zero]; rfl)) (fun K hK => ?_) ?_
            · go_simp
              refine Sat.callF hS (lMay g1 c1 g2 c2 exC 1 _ (by decide) (by decide)) (fun w hS => ?_)
              clear fs
              have fs := hS.says
              simp only [says, Ck.say] at fs
              refine hK.out _ _ ?_ ?_
              · exact (Facts.cons_at (.inr (by simp [fs])) (Facts.cons_at (.inr (by simp [fs])) Facts.nil_at))
              clear hK K
              try simp only [Act.put, List.setIfInBounds_toArray, List.set_cons_zero, List.set_cons_succ]
              refine' GoL.take 33 [] ?_ ?_ ?_ ?_ ?_
              rotate_left 3
              · (simp only [List.getElem?_toArray, List.getElem?_cons_succ, List.getElem?_cons_zero]; rfl)
              · exact fun _ _ _ h => h
              · (refine Or.inl ⟨by first | kernel_rfl | (simp [Region.wanted, yielded]), ?_⟩; intro w hSw; clear hSw; go_simp; first | done | with_reducible rfl)
              rotate_left 1
              · kernel_rfl
              simp only [Act.put, List.setIfInBounds_toArray, List.set_cons_zero, List.set_cons_succ]
              refine' GoL.take 34 [] ?_ ?_ ?_ ?_ ?_
              rotate_left 3
              · (simp only [List.getElem?_toArray, List.getElem?_cons_succ, List.getElem?_cons_zero]; rfl)
              · exact fun _ _ _ h => h
              · (refine Or.inl ⟨by first | kernel_rfl | (simp [Region.wanted, yielded]), ?_⟩; intro w hSw; clear hSw; go_simp; first | done | with_reducible rfl)
              rotate_left 1
              · kernel_rfl
              simp only [Act.put, List.setIfInBounds_toArray, List.set_cons_zero, List.set_cons_succ]
              refine' GoL.take 35 [] ?_ ?_ ?_ ?_ ?_
              rotate_left 3
              · (simp only [List.getElem?_toArray, List.getElem?_cons_succ, List.getElem?_cons_zero]; rfl)
              · exact fun _ _ _ h => h
              · (refine Or.inl ⟨by first | kernel_rfl | (simp [Region.wanted, yielded]), ?_⟩; intro w hSw; have f0 := Facts.get hSw 0 rfl (by decide); (try dsimp only at f0); clear hSw; go_simp; first | done | with_reducible rfl)
              rotate_left 1
              · kernel_rfl
              simp only [Act.put, List.setIfInBounds_toArray, List.set_cons_zero, List.set_cons_succ]
              refine GoL.ready [36] (by kernel_rfl) (by simp) ?_
              refine GoL.one (by (simp only [List.getElem?_toArray, List.getElem?_cons_succ, List.getElem?_cons_zero]; rfl)) (fun K hK => ?_) ?_
              · go_simp
                refine Sat.callF hS (lMayNo g1 c1 g2 c2 exC 2 _ (by decide) (by decide)) (fun w hS => ?_)
                clear fs
                have fs := hS.says
                simp only [says, Ck.say] at fs
                refine hK.out _ _ ?_ ?_
                · exact (Facts.cons_at (.inr (by simp [fs])) (Facts.cons_at (.inr (by simp [fs])) Facts.nil_at))
                clear hK K
                try simp only [Act.put, List.setIfInBounds_toArray, List.set_cons_zero, List.set_cons_succ]
                refine' GoL.take 37 [] ?_ ?_ ?_ ?_ ?_
                rotate_left 3
                · (simp only [List.getElem?_toArray, List.getElem?_cons_succ, List.getElem?_cons_zero]; rfl)
                · exact fun _ _ _ h => h
                · (refine Or.inl ⟨by first | kernel_rfl | (simp [Region.wanted, yielded]), ?_⟩; intro w hSw; clear hSw; go_simp; first | done | with_reducible rfl)
                rotate_left 1
                · kernel_rfl
                simp only [Act.put, List.setIfInBounds_toArray, List.set_cons_zero, List.set_cons_succ]
                refine' GoL.take 38 [] ?_ ?_ ?_ ?_ ?_
                rotate_left 3
                · (simp only [List.getElem?_toArray, List.getElem?_cons_succ, List.getElem?_cons_zero]; rfl)
                · exact fun _ _ _ h => h
                · (refine Or.inl ⟨by first | kernel_rfl | (simp [Region.wanted, yielded]), ?_⟩; intro w hSw; clear hSw; go_simp; first | done | with_reducible rfl)
                rotate_left 1
                · kernel_rfl
                simp only [Act.put, List.setIfInBounds_toArray, List.set_cons_zero, List.set_cons_succ]
                refine' GoL.take 39 [] ?_ ?_ ?_ ?_ ?_
                rotate_left 3
                · (simp only [List.getElem?_toArray, List.getElem?_cons_succ, List.getElem?_cons_zero]; rfl)
                · exact fun _ _ _ h => h
                · (refine Or.inl ⟨by first | kernel_rfl | (simp [Region.wanted, yielded]), ?_⟩; intro w hSw; clear hSw; go_simp; first | done | with_reducible rfl)
                rotate_left 1
                · kernel_rfl
                simp only [Act.put, List.setIfInBounds_toArray, List.set_cons_zero, List.set_cons_succ]
                refine GoL.done (by kernel_rfl) ?_
                go_wp2_with fail
                go_ret
                exact ⟨rfl, hS.fr⟩
              exact AllL.nil
            exact AllL.nil
          exact AllL.nil
        exact AllL.nil
      exact AllL.nil
    exact AllL.nil
  exact AllL.nil
end Go.Proofs.YtnnpjjehecbljaaDoor
