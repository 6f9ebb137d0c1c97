/-
  entry.Right, case 2 of 3 in which an entry's fields are not looked at.
-/
import Derived.Test.YtnnpjjehecbljaaDoorFRiB
import Derived.StillTailTactics
namespace Go.Proofs.YtnnpjjehecbljaaDoor
open Go.RowKit

set_option maxRecDepth 100000 in
set_option maxHeartbeats 2000000 in
theorem eRight6 (e : Ent) (w : World) (he : e.Fits) (hok : (entMay e.kind).2 = true) (h2 : ¬ 0 < e.term) : Calls Tryd.prog 18 #[.agg e.cells] w fun r w' => r = .returned (.bool e.ok) ∧ Fr [] w w' := by
  obtain ⟨hT, hI, hC, hS, hB, hM, hD, hO⟩ := he
  unfold U64 at *
  have HF := Lib.hid (eFields e.kind)
  unfold Ent.ok
  have Hf := Lib.hid (fun l => eFit (entMay e.kind).1 l)
  generalize entMay e.kind = x at *
  obtain ⟨may, kok⟩ := x
  dsimp only at Hf hok ⊢
  unfold Ent.cells
  obtain rfl : kok = true := hok
  have hc2 : decide (0 < e.term) = false := by simpa using h2
  go_enter Tryd.func18, Tryd.ntmps18
  go_wp2_with (first | (go_at_call 34; refine (HF.out _).mono ?_; rintro r w2 ⟨rfl, g2⟩) | (go_at_call 36; refine (eSmall _ _ hB.1 hB.2).mono ?_; rintro r w' ⟨rfl, rfl⟩) | (go_at_call 36; refine (eSmall _ _ hM.1 hM.2).mono ?_; rintro r w' ⟨rfl, rfl⟩) | (go_at_call 37; refine (eNode _ _).mono ?_; rintro r w' ⟨rfl, rfl⟩))
  have SB := Lib.hid ((Blk.new w #[.int .u64 e.term, .int .u64 e.index, .int .i64 e.kind, .int .u64 e.client, .int .u64 e.seq, .int .u64 e.block, .int .u64 e.many, .int .i64 e.node, .int .i64 e.level, .string e.data, .string e.old] 31).fr0 g2)
  have HF0 : Hid (Fr [] w w2) := ((Fr.refl _ _).alloc _).trans0 g2
  generalize w.heap.size = bx at *
  clear g2 HF
  have f0 := SB.out.cellAt (i := 0) rfl
  have f1 := SB.out.cellAt (i := 1) rfl
  have f2 := SB.out.cellAt (i := 2) rfl
  have f3 := SB.out.cellAt (i := 3) rfl
  have f4 := SB.out.cellAt (i := 4) rfl
  have f5 := SB.out.cellAt (i := 5) rfl
  have f6 := SB.out.cellAt (i := 6) rfl
  have f7 := SB.out.cellAt (i := 7) rfl
  have f8 := SB.out.cellAt (i := 8) rfl
  have f9 := SB.out.cellAt (i := 9) rfl
  have f10 := SB.out.cellAt (i := 10) rfl
  simp only [List.append_eq, List.cons_append, List.nil_append]
  refine wp_region_held_drew (S := (fun w' => w'.cell? ⟨bx, 0, none⟩ = some (.int .u64 e.term) ∧ w'.cell? ⟨bx, 1, none⟩ = some (.int .u64 e.index) ∧ w'.cell? ⟨bx, 3, none⟩ = some (.int .u64 e.client) ∧ w'.cell? ⟨bx, 4, none⟩ = some (.int .u64 e.seq) ∧ w'.cell? ⟨bx, 5, none⟩ = some (.int .u64 e.block) ∧ w'.cell? ⟨bx, 6, none⟩ = some (.int .u64 e.many) ∧ w'.cell? ⟨bx, 7, none⟩ = some (.int .i64 e.node) ∧ w'.cell? ⟨bx, 8, none⟩ = some (.int .i64 e.level) ∧ w'.cell? ⟨bx, 9, none⟩ = some (.string e.data) ∧ w'.cell? ⟨bx, 10, none⟩ = some (.string e.old))) (by kernel_rfl) ?_ (fun hHeld => ?_)
  · go_keep
  refine' wpAnyH_take (i := 0) ?_ ?_ ?_ ?_ ?_ ?_ ?_ ?_
  rotate_left 2
  · (simp only [List.getElem?_toArray, List.getElem?_cons_succ, List.getElem?_cons_zero]; rfl)
  · kernel_rfl
  · decide +kernel
  · decide +kernel
  · exact fun _ _ _ h => h
  · (refine Or.inl ⟨by kernel_rfl, ?_⟩; intro w hSw; (try dsimp only at hSw); go_simp; first | done | with_reducible rfl)
  · assumption
  simp only [Act.put, List.setIfInBounds_toArray, List.set_cons_zero, List.set_cons_succ]
  refine' wpAnyH_take (i := 1) ?_ ?_ ?_ ?_ ?_ ?_ ?_ ?_
  rotate_left 2
  · (simp only [List.getElem?_toArray, List.getElem?_cons_succ, List.getElem?_cons_zero]; rfl)
  · kernel_rfl
  · decide +kernel
  · decide +kernel
  · exact fun _ _ _ h => h
  · (refine Or.inl ⟨by kernel_rfl, ?_⟩; intro w hSw; (try dsimp only at hSw); go_simp; first | done | with_reducible rfl)
  · assumption
  simp only [Act.put, List.setIfInBounds_toArray, List.set_cons_zero, List.set_cons_succ]
  refine' wpAnyH_take (i := 2) ?_ ?_ ?_ ?_ ?_ ?_ ?_ ?_
  rotate_left 2
  · (simp only [List.getElem?_toArray, List.getElem?_cons_succ, List.getElem?_cons_zero]; rfl)
  · kernel_rfl
  · decide +kernel
  · decide +kernel
  · exact fun _ _ _ h => h
  · (refine Or.inl ⟨by kernel_rfl, ?_⟩; intro w hSw; (try dsimp only at hSw); go_simp; first | done | with_reducible rfl)
  · assumption
  simp only [Act.put, List.setIfInBounds_toArray, List.set_cons_zero, List.set_cons_succ]
  refine' wpAnyH_take (i := 3) ?_ ?_ ?_ ?_ ?_ ?_ ?_ ?_
  rotate_left 2
  · (simp only [List.getElem?_toArray, List.getElem?_cons_succ, List.getElem?_cons_zero]; rfl)
  · kernel_rfl
  · decide +kernel
  · decide +kernel
  · exact fun _ _ _ h => h
  · (refine Or.inl ⟨by kernel_rfl, ?_⟩; intro w hSw; (try dsimp only at hSw); go_simp; first | done | with_reducible rfl)
  · assumption
  simp only [Act.put, List.setIfInBounds_toArray, List.set_cons_zero, List.set_cons_succ]
  refine' wpAnyH_take (i := 4) ?_ ?_ ?_ ?_ ?_ ?_ ?_ ?_
  rotate_left 2
  · (simp only [List.getElem?_toArray, List.getElem?_cons_succ, List.getElem?_cons_zero]; rfl)
  · kernel_rfl
  · decide +kernel
  · decide +kernel
  · exact fun _ _ _ h => h
  · (refine Or.inl ⟨by kernel_rfl, ?_⟩; intro w hSw; (try dsimp only at hSw); go_simp; first | done | with_reducible rfl)
  · assumption
  simp only [Act.put, List.setIfInBounds_toArray, List.set_cons_zero, List.set_cons_succ]
  refine' wpAnyH_take (i := 5) ?_ ?_ ?_ ?_ ?_ ?_ ?_ ?_
  rotate_left 2
  · (simp only [List.getElem?_toArray, List.getElem?_cons_succ, List.getElem?_cons_zero]; rfl)
  · kernel_rfl
  · decide +kernel
  · decide +kernel
  · exact fun _ _ _ h => h
  · (refine Or.inl ⟨by kernel_rfl, ?_⟩; intro w hSw; (try dsimp only at hSw); go_simp; first | done | with_reducible rfl)
  · assumption
  simp only [Act.put, List.setIfInBounds_toArray, List.set_cons_zero, List.set_cons_succ]
  refine' wpAnyH_take (i := 6) ?_ ?_ ?_ ?_ ?_ ?_ ?_ ?_
  rotate_left 2
  · (simp only [List.getElem?_toArray, List.getElem?_cons_succ, List.getElem?_cons_zero]; rfl)
  · kernel_rfl
  · decide +kernel
  · decide +kernel
  · exact fun _ _ _ h => h
  · (refine Or.inl ⟨by kernel_rfl, ?_⟩; intro w hSw; (try dsimp only at hSw); go_simp; first | done | with_reducible rfl)
  · assumption
  simp only [Act.put, List.setIfInBounds_toArray, List.set_cons_zero, List.set_cons_succ]
  refine' wpAnyH_take (i := 7) ?_ ?_ ?_ ?_ ?_ ?_ ?_ ?_
  rotate_left 2
  · (simp only [List.getElem?_toArray, List.getElem?_cons_succ, List.getElem?_cons_zero]; rfl)
  · kernel_rfl
  · decide +kernel
  · decide +kernel
  · exact fun _ _ _ h => h
  · exact Or.inr ⟨by kernel_rfl, rfl⟩
  · assumption
  simp only [Act.put, List.setIfInBounds_toArray, List.set_cons_zero, List.set_cons_succ]
  refine' wpAnyH_take (i := 8) ?_ ?_ ?_ ?_ ?_ ?_ ?_ ?_
  rotate_left 2
  · (simp only [List.getElem?_toArray, List.getElem?_cons_succ, List.getElem?_cons_zero]; rfl)
  · kernel_rfl
  · decide +kernel
  · decide +kernel
  · exact fun _ _ _ h => h
  · exact Or.inr ⟨by kernel_rfl, rfl⟩
  · assumption
  simp only [Act.put, List.setIfInBounds_toArray, List.set_cons_zero, List.set_cons_succ]
  refine' wpAnyH_take (i := 9) ?_ ?_ ?_ ?_ ?_ ?_ ?_ ?_
  rotate_left 2
  · (simp only [List.getElem?_toArray, List.getElem?_cons_succ, List.getElem?_cons_zero]; rfl)
  · kernel_rfl
  · decide +kernel
  · decide +kernel
  · exact fun _ _ _ h => h
  · exact Or.inr ⟨by kernel_rfl, rfl⟩
  · assumption
  simp only [Act.put, List.setIfInBounds_toArray, List.set_cons_zero, List.set_cons_succ]
  refine' wpAnyH_take (i := 10) ?_ ?_ ?_ ?_ ?_ ?_ ?_ ?_
  rotate_left 2
  · (simp only [List.getElem?_toArray, List.getElem?_cons_succ, List.getElem?_cons_zero]; rfl)
  · kernel_rfl
  · decide +kernel
  · decide +kernel
  · exact fun _ _ _ h => h
  · (refine Or.inl ⟨by kernel_rfl, ?_⟩; intro w hSw; (try dsimp only at hSw); go_simp; first | done | with_reducible rfl)
  · assumption
  simp only [Act.put, List.setIfInBounds_toArray, List.set_cons_zero, List.set_cons_succ]
  refine' wpAnyH_take (i := 11) ?_ ?_ ?_ ?_ ?_ ?_ ?_ ?_
  rotate_left 2
  · (simp only [List.getElem?_toArray, List.getElem?_cons_succ, List.getElem?_cons_zero]; rfl)
  · kernel_rfl
  · decide +kernel
  · decide +kernel
  · exact fun _ _ _ h => h
  · (refine Or.inl ⟨by kernel_rfl, ?_⟩; intro w hSw; (try dsimp only at hSw); go_simp; first | done | with_reducible rfl)
  · assumption
  simp only [Act.put, List.setIfInBounds_toArray, List.set_cons_zero, List.set_cons_succ]
  refine' wpAnyH_take (i := 12) ?_ ?_ ?_ ?_ ?_ ?_ ?_ ?_
  rotate_left 2
  · (simp only [List.getElem?_toArray, List.getElem?_cons_succ, List.getElem?_cons_zero]; rfl)
  · kernel_rfl
  · decide +kernel
  · decide +kernel
  · exact fun _ _ _ h => h
  · exact Or.inr ⟨by kernel_rfl, rfl⟩
  · assumption
  simp only [Act.put, List.setIfInBounds_toArray, List.set_cons_zero, List.set_cons_succ]
  refine' wpAnyH_take (i := 13) ?_ ?_ ?_ ?_ ?_ ?_ ?_ ?_
  rotate_left 2
  · (simp only [List.getElem?_toArray, List.getElem?_cons_succ, List.getElem?_cons_zero]; rfl)
  · kernel_rfl
  · decide +kernel
  · decide +kernel
  · exact fun _ _ _ h => h
  · exact Or.inr ⟨by kernel_rfl, rfl⟩
  · assumption
  simp only [Act.put, List.setIfInBounds_toArray, List.set_cons_zero, List.set_cons_succ]
  refine' wpAnyH_take (i := 14) ?_ ?_ ?_ ?_ ?_ ?_ ?_ ?_
  rotate_left 2
  · (simp only [List.getElem?_toArray, List.getElem?_cons_succ, List.getElem?_cons_zero]; rfl)
  · kernel_rfl
  · decide +kernel
  · decide +kernel
  · exact fun _ _ _ h => h
  · exact Or.inr ⟨by kernel_rfl, rfl⟩
  · assumption
  simp only [Act.put, List.setIfInBounds_toArray, List.set_cons_zero, List.set_cons_succ]
  refine' wpAnyH_take (i := 15) ?_ ?_ ?_ ?_ ?_ ?_ ?_ ?_
  rotate_left 2
  · (simp only [List.getElem?_toArray, List.getElem?_cons_succ, List.getElem?_cons_zero]; rfl)
  · kernel_rfl
  · decide +kernel
  · decide +kernel
  · exact fun _ _ _ h => h
  · exact Or.inr ⟨by kernel_rfl, rfl⟩
  · assumption
  simp only [Act.put, List.setIfInBounds_toArray, List.set_cons_zero, List.set_cons_succ]
  refine' wpAnyH_take (i := 16) ?_ ?_ ?_ ?_ ?_ ?_ ?_ ?_
  rotate_left 2
  · (simp only [List.getElem?_toArray, List.getElem?_cons_succ, List.getElem?_cons_zero]; rfl)
  · kernel_rfl
  · decide +kernel
  · decide +kernel
  · exact fun _ _ _ h => h
  · exact Or.inr ⟨by kernel_rfl, rfl⟩
  · assumption
  simp only [Act.put, List.setIfInBounds_toArray, List.set_cons_zero, List.set_cons_succ]
  refine' wpAnyH_take (i := 17) ?_ ?_ ?_ ?_ ?_ ?_ ?_ ?_
  rotate_left 2
  · (simp only [List.getElem?_toArray, List.getElem?_cons_succ, List.getElem?_cons_zero]; rfl)
  · kernel_rfl
  · decide +kernel
  · decide +kernel
  · exact fun _ _ _ h => h
  · exact Or.inr ⟨by kernel_rfl, rfl⟩
  · assumption
  simp only [Act.put, List.setIfInBounds_toArray, List.set_cons_zero, List.set_cons_succ]
  refine' wpAnyH_take (i := 18) ?_ ?_ ?_ ?_ ?_ ?_ ?_ ?_
  rotate_left 2
  · (simp only [List.getElem?_toArray, List.getElem?_cons_succ, List.getElem?_cons_zero]; rfl)
  · kernel_rfl
  · decide +kernel
  · decide +kernel
  · exact fun _ _ _ h => h
  · exact Or.inr ⟨by kernel_rfl, rfl⟩
  · assumption
  simp only [Act.put, List.setIfInBounds_toArray, List.set_cons_zero, List.set_cons_succ]
  refine' wpAnyH_take (i := 19) ?_ ?_ ?_ ?_ ?_ ?_ ?_ ?_
  rotate_left 2
  · (simp only [List.getElem?_toArray, List.getElem?_cons_succ, List.getElem?_cons_zero]; rfl)
  · kernel_rfl
  · decide +kernel
  · decide +kernel
  · exact fun _ _ _ h => h
  · exact Or.inr ⟨by kernel_rfl, rfl⟩
  · assumption
  simp only [Act.put, List.setIfInBounds_toArray, List.set_cons_zero, List.set_cons_succ]
  refine' wpAnyH_take (i := 20) ?_ ?_ ?_ ?_ ?_ ?_ ?_ ?_
  rotate_left 2
  · (simp only [List.getElem?_toArray, List.getElem?_cons_succ, List.getElem?_cons_zero]; rfl)
  · kernel_rfl
  · decide +kernel
  · decide +kernel
  · exact fun _ _ _ h => h
  · exact Or.inr ⟨by kernel_rfl, rfl⟩
  · assumption
  simp only [Act.put, List.setIfInBounds_toArray, List.set_cons_zero, List.set_cons_succ]
  refine' wpAnyH_take (i := 21) ?_ ?_ ?_ ?_ ?_ ?_ ?_ ?_
  rotate_left 2
  · (simp only [List.getElem?_toArray, List.getElem?_cons_succ, List.getElem?_cons_zero]; rfl)
  · kernel_rfl
  · decide +kernel
  · decide +kernel
  · exact fun _ _ _ h => h
  · exact Or.inr ⟨by kernel_rfl, rfl⟩
  · assumption
  simp only [Act.put, List.setIfInBounds_toArray, List.set_cons_zero, List.set_cons_succ]
  refine' wpAnyH_take (i := 22) ?_ ?_ ?_ ?_ ?_ ?_ ?_ ?_
  rotate_left 2
  · (simp only [List.getElem?_toArray, List.getElem?_cons_succ, List.getElem?_cons_zero]; rfl)
  · kernel_rfl
  · decide +kernel
  · decide +kernel
  · exact fun _ _ _ h => h
  · exact Or.inr ⟨by kernel_rfl, rfl⟩
  · assumption
  simp only [Act.put, List.setIfInBounds_toArray, List.set_cons_zero, List.set_cons_succ]
  refine' wpAnyH_take (i := 23) ?_ ?_ ?_ ?_ ?_ ?_ ?_ ?_
  rotate_left 2
  · (simp only [List.getElem?_toArray, List.getElem?_cons_succ, List.getElem?_cons_zero]; rfl)
  · kernel_rfl
  · decide +kernel
  · decide +kernel
  · exact fun _ _ _ h => h
  · exact Or.inr ⟨by kernel_rfl, rfl⟩
  · assumption
  simp only [Act.put, List.setIfInBounds_toArray, List.set_cons_zero, List.set_cons_succ]
  refine' wpAnyH_take (i := 24) ?_ ?_ ?_ ?_ ?_ ?_ ?_ ?_
  rotate_left 2
  · (simp only [List.getElem?_toArray, List.getElem?_cons_succ, List.getElem?_cons_zero]; rfl)
  · kernel_rfl
  · decide +kernel
  · decide +kernel
  · exact fun _ _ _ h => h
  · exact Or.inr ⟨by kernel_rfl, rfl⟩
  · assumption
  simp only [Act.put, List.setIfInBounds_toArray, List.set_cons_zero, List.set_cons_succ]
  refine' wpAnyH_take (i := 25) ?_ ?_ ?_ ?_ ?_ ?_ ?_ ?_
  rotate_left 2
  · (simp only [List.getElem?_toArray, List.getElem?_cons_succ, List.getElem?_cons_zero]; rfl)
  · kernel_rfl
  · decide +kernel
  · decide +kernel
  · exact fun _ _ _ h => h
  · exact Or.inr ⟨by kernel_rfl, rfl⟩
  · assumption
  simp only [Act.put, List.setIfInBounds_toArray, List.set_cons_zero, List.set_cons_succ]
  refine' wpAnyH_take (i := 26) ?_ ?_ ?_ ?_ ?_ ?_ ?_ ?_
  rotate_left 2
  · (simp only [List.getElem?_toArray, List.getElem?_cons_succ, List.getElem?_cons_zero]; rfl)
  · kernel_rfl
  · decide +kernel
  · decide +kernel
  · exact fun _ _ _ h => h
  · exact Or.inr ⟨by kernel_rfl, rfl⟩
  · assumption
  simp only [Act.put, List.setIfInBounds_toArray, List.set_cons_zero, List.set_cons_succ]
  refine' wpAnyH_take (i := 27) ?_ ?_ ?_ ?_ ?_ ?_ ?_ ?_
  rotate_left 2
  · (simp only [List.getElem?_toArray, List.getElem?_cons_succ, List.getElem?_cons_zero]; rfl)
  · kernel_rfl
  · decide +kernel
  · decide +kernel
  · exact fun _ _ _ h => h
  · exact Or.inr ⟨by kernel_rfl, rfl⟩
  · assumption
  simp only [Act.put, List.setIfInBounds_toArray, List.set_cons_zero, List.set_cons_succ]
  refine' wpAnyH_take (i := 28) ?_ ?_ ?_ ?_ ?_ ?_ ?_ ?_
  rotate_left 2
  · (simp only [List.getElem?_toArray, List.getElem?_cons_succ, List.getElem?_cons_zero]; rfl)
  · kernel_rfl
  · decide +kernel
  · decide +kernel
  · exact fun _ _ _ h => h
  · exact Or.inr ⟨by kernel_rfl, rfl⟩
  · assumption
  simp only [Act.put, List.setIfInBounds_toArray, List.set_cons_zero, List.set_cons_succ]
  refine' wpAnyH_take (i := 29) ?_ ?_ ?_ ?_ ?_ ?_ ?_ ?_
  rotate_left 2
  · (simp only [List.getElem?_toArray, List.getElem?_cons_succ, List.getElem?_cons_zero]; rfl)
  · kernel_rfl
  · decide +kernel
  · decide +kernel
  · exact fun _ _ _ h => h
  · exact Or.inr ⟨by kernel_rfl, rfl⟩
  · assumption
  simp only [Act.put, List.setIfInBounds_toArray, List.set_cons_zero, List.set_cons_succ]
  refine' wpAnyH_take (i := 30) ?_ ?_ ?_ ?_ ?_ ?_ ?_ ?_
  rotate_left 2
  · (simp only [List.getElem?_toArray, List.getElem?_cons_succ, List.getElem?_cons_zero]; rfl)
  · kernel_rfl
  · decide +kernel
  · decide +kernel
  · exact fun _ _ _ h => h
  · exact Or.inr ⟨by kernel_rfl, rfl⟩
  · assumption
  simp only [Act.put, List.setIfInBounds_toArray, List.set_cons_zero, List.set_cons_succ]
  refine' wpAnyH_take (i := 31) ?_ ?_ ?_ ?_ ?_ ?_ ?_ ?_
  rotate_left 2
  · (simp only [List.getElem?_toArray, List.getElem?_cons_succ, List.getElem?_cons_zero]; rfl)
  · kernel_rfl
  · decide +kernel
  · decide +kernel
  · exact fun _ _ _ h => h
  · exact Or.inr ⟨by kernel_rfl, rfl⟩
  · assumption
  simp only [Act.put, List.setIfInBounds_toArray, List.set_cons_zero, List.set_cons_succ]
  refine' wpAnyH_take (i := 32) ?_ ?_ ?_ ?_ ?_ ?_ ?_ ?_
  rotate_left 2
  · (simp only [List.getElem?_toArray, List.getElem?_cons_succ, List.getElem?_cons_zero]; rfl)
  · kernel_rfl
  · decide +kernel
  · decide +kernel
  · exact fun _ _ _ h => h
  · exact Or.inr ⟨by kernel_rfl, rfl⟩
  · assumption
  simp only [Act.put, List.setIfInBounds_toArray, List.set_cons_zero, List.set_cons_succ]
  refine' wpAnyH_take (i := 33) ?_ ?_ ?_ ?_ ?_ ?_ ?_ ?_
  rotate_left 2
  · (simp only [List.getElem?_toArray, List.getElem?_cons_succ, List.getElem?_cons_zero]; rfl)
  · kernel_rfl
  · decide +kernel
  · decide +kernel
  · exact fun _ _ _ h => h
  · exact Or.inr ⟨by kernel_rfl, rfl⟩
  · assumption
  simp only [Act.put, List.setIfInBounds_toArray, List.set_cons_zero, List.set_cons_succ]
  refine' wpAnyH_take (i := 34) ?_ ?_ ?_ ?_ ?_ ?_ ?_ ?_
  rotate_left 2
  · (simp only [List.getElem?_toArray, List.getElem?_cons_succ, List.getElem?_cons_zero]; rfl)
  · kernel_rfl
  · decide +kernel
  · decide +kernel
  · exact fun _ _ _ h => h
  · exact Or.inr ⟨by kernel_rfl, rfl⟩
  · assumption
  simp only [Act.put, List.setIfInBounds_toArray, List.set_cons_zero, List.set_cons_succ]
  refine' wpAnyH_take (i := 35) ?_ ?_ ?_ ?_ ?_ ?_ ?_ ?_
  rotate_left 2
  · (simp only [List.getElem?_toArray, List.getElem?_cons_succ, List.getElem?_cons_zero]; rfl)
  · kernel_rfl
  · decide +kernel
  · decide +kernel
  · exact fun _ _ _ h => h
  · exact Or.inr ⟨by kernel_rfl, rfl⟩
  · assumption
  simp only [Act.put, List.setIfInBounds_toArray, List.set_cons_zero, List.set_cons_succ]
  refine' wpAnyH_take (i := 36) ?_ ?_ ?_ ?_ ?_ ?_ ?_ ?_
  rotate_left 2
  · (simp only [List.getElem?_toArray, List.getElem?_cons_succ, List.getElem?_cons_zero]; rfl)
  · kernel_rfl
  · decide +kernel
  · decide +kernel
  · exact fun _ _ _ h => h
  · exact Or.inr ⟨by kernel_rfl, rfl⟩
  · assumption
  simp only [Act.put, List.setIfInBounds_toArray, List.set_cons_zero, List.set_cons_succ]
  refine' wpAnyH_take (i := 37) ?_ ?_ ?_ ?_ ?_ ?_ ?_ ?_
  rotate_left 2
  · (simp only [List.getElem?_toArray, List.getElem?_cons_succ, List.getElem?_cons_zero]; rfl)
  · kernel_rfl
  · decide +kernel
  · decide +kernel
  · exact fun _ _ _ h => h
  · exact Or.inr ⟨by kernel_rfl, rfl⟩
  · assumption
  simp only [Act.put, List.setIfInBounds_toArray, List.set_cons_zero, List.set_cons_succ]
  refine' wpAnyH_take (i := 38) ?_ ?_ ?_ ?_ ?_ ?_ ?_ ?_
  rotate_left 2
  · (simp only [List.getElem?_toArray, List.getElem?_cons_succ, List.getElem?_cons_zero]; rfl)
  · kernel_rfl
  · decide +kernel
  · decide +kernel
  · exact fun _ _ _ h => h
  · exact Or.inr ⟨by kernel_rfl, rfl⟩
  · assumption
  simp only [Act.put, List.setIfInBounds_toArray, List.set_cons_zero, List.set_cons_succ]
  refine' wpAnyH_take (i := 39) ?_ ?_ ?_ ?_ ?_ ?_ ?_ ?_
  rotate_left 2
  · (simp only [List.getElem?_toArray, List.getElem?_cons_succ, List.getElem?_cons_zero]; rfl)
  · kernel_rfl
  · decide +kernel
  · decide +kernel
  · exact fun _ _ _ h => h
  · exact Or.inr ⟨by kernel_rfl, rfl⟩
  · assumption
  simp only [Act.put, List.setIfInBounds_toArray, List.set_cons_zero, List.set_cons_succ]
  refine' wpAnyH_take (i := 40) ?_ ?_ ?_ ?_ ?_ ?_ ?_ ?_
  rotate_left 2
  · (simp only [List.getElem?_toArray, List.getElem?_cons_succ, List.getElem?_cons_zero]; rfl)
  · kernel_rfl
  · decide +kernel
  · decide +kernel
  · exact fun _ _ _ h => h
  · exact Or.inr ⟨by kernel_rfl, rfl⟩
  · assumption
  simp only [Act.put, List.setIfInBounds_toArray, List.set_cons_zero, List.set_cons_succ]
  refine' wpAnyH_take (i := 41) ?_ ?_ ?_ ?_ ?_ ?_ ?_ ?_
  rotate_left 2
  · (simp only [List.getElem?_toArray, List.getElem?_cons_succ, List.getElem?_cons_zero]; rfl)
  · kernel_rfl
  · decide +kernel
  · decide +kernel
  · exact fun _ _ _ h => h
  · exact Or.inr ⟨by kernel_rfl, rfl⟩
  · assumption
  simp only [Act.put, List.setIfInBounds_toArray, List.set_cons_zero, List.set_cons_succ]
  refine' wpAnyH_take (i := 42) ?_ ?_ ?_ ?_ ?_ ?_ ?_ ?_
  rotate_left 2
  · (simp only [List.getElem?_toArray, List.getElem?_cons_succ, List.getElem?_cons_zero]; rfl)
  · kernel_rfl
  · decide +kernel
  · decide +kernel
  · exact fun _ _ _ h => h
  · exact Or.inr ⟨by kernel_rfl, rfl⟩
  · assumption
  simp only [Act.put, List.setIfInBounds_toArray, List.set_cons_zero, List.set_cons_succ]
  refine' wpAnyH_take (i := 43) ?_ ?_ ?_ ?_ ?_ ?_ ?_ ?_
  rotate_left 2
  · (simp only [List.getElem?_toArray, List.getElem?_cons_succ, List.getElem?_cons_zero]; rfl)
  · kernel_rfl
  · decide +kernel
  · decide +kernel
  · exact fun _ _ _ h => h
  · exact Or.inr ⟨by kernel_rfl, rfl⟩
  · assumption
  simp only [Act.put, List.setIfInBounds_toArray, List.set_cons_zero, List.set_cons_succ]
  refine' wpAnyH_take (i := 44) ?_ ?_ ?_ ?_ ?_ ?_ ?_ ?_
  rotate_left 2
  · (simp only [List.getElem?_toArray, List.getElem?_cons_succ, List.getElem?_cons_zero]; rfl)
  · kernel_rfl
  · decide +kernel
  · decide +kernel
  · exact fun _ _ _ h => h
  · exact Or.inr ⟨by kernel_rfl, rfl⟩
  · assumption
  simp only [Act.put, List.setIfInBounds_toArray, List.set_cons_zero, List.set_cons_succ]
  refine' wpAnyH_take (i := 45) ?_ ?_ ?_ ?_ ?_ ?_ ?_ ?_
  rotate_left 2
  · (simp only [List.getElem?_toArray, List.getElem?_cons_succ, List.getElem?_cons_zero]; rfl)
  · kernel_rfl
  · decide +kernel
  · decide +kernel
  · exact fun _ _ _ h => h
  · exact Or.inr ⟨by kernel_rfl, rfl⟩
  · assumption
  simp only [Act.put, List.setIfInBounds_toArray, List.set_cons_zero, List.set_cons_succ]
  refine' wpAnyH_take (i := 46) ?_ ?_ ?_ ?_ ?_ ?_ ?_ ?_
  rotate_left 2
  · (simp only [List.getElem?_toArray, List.getElem?_cons_succ, List.getElem?_cons_zero]; rfl)
  · kernel_rfl
  · decide +kernel
  · decide +kernel
  · exact fun _ _ _ h => h
  · exact Or.inr ⟨by kernel_rfl, rfl⟩
  · assumption
  simp only [Act.put, List.setIfInBounds_toArray, List.set_cons_zero, List.set_cons_succ]
  refine' wpAnyH_take (i := 47) ?_ ?_ ?_ ?_ ?_ ?_ ?_ ?_
  rotate_left 2
  · (simp only [List.getElem?_toArray, List.getElem?_cons_succ, List.getElem?_cons_zero]; rfl)
  · kernel_rfl
  · decide +kernel
  · decide +kernel
  · exact fun _ _ _ h => h
  · exact Or.inr ⟨by kernel_rfl, rfl⟩
  · assumption
  simp only [Act.put, List.setIfInBounds_toArray, List.set_cons_zero, List.set_cons_succ]
  refine' wpAnyH_take (i := 48) ?_ ?_ ?_ ?_ ?_ ?_ ?_ ?_
  rotate_left 2
  · (simp only [List.getElem?_toArray, List.getElem?_cons_succ, List.getElem?_cons_zero]; rfl)
  · kernel_rfl
  · decide +kernel
  · decide +kernel
  · exact fun _ _ _ h => h
  · exact Or.inr ⟨by kernel_rfl, rfl⟩
  · assumption
  simp only [Act.put, List.setIfInBounds_toArray, List.set_cons_zero, List.set_cons_succ]
  refine' wpAnyH_take (i := 49) ?_ ?_ ?_ ?_ ?_ ?_ ?_ ?_
  rotate_left 2
  · (simp only [List.getElem?_toArray, List.getElem?_cons_succ, List.getElem?_cons_zero]; rfl)
  · kernel_rfl
  · decide +kernel
  · decide +kernel
  · exact fun _ _ _ h => h
  · exact Or.inr ⟨by kernel_rfl, rfl⟩
  · assumption
  simp only [Act.put, List.setIfInBounds_toArray, List.set_cons_zero, List.set_cons_succ]
  refine' wpAnyH_take (i := 50) ?_ ?_ ?_ ?_ ?_ ?_ ?_ ?_
  rotate_left 2
  · (simp only [List.getElem?_toArray, List.getElem?_cons_succ, List.getElem?_cons_zero]; rfl)
  · kernel_rfl
  · decide +kernel
  · decide +kernel
  · exact fun _ _ _ h => h
  · exact Or.inr ⟨by kernel_rfl, rfl⟩
  · assumption
  simp only [Act.put, List.setIfInBounds_toArray, List.set_cons_zero, List.set_cons_succ]
  refine' wpAnyH_take (i := 51) ?_ ?_ ?_ ?_ ?_ ?_ ?_ ?_
  rotate_left 2
  · (simp only [List.getElem?_toArray, List.getElem?_cons_succ, List.getElem?_cons_zero]; rfl)
  · kernel_rfl
  · decide +kernel
  · decide +kernel
  · exact fun _ _ _ h => h
  · exact Or.inr ⟨by kernel_rfl, rfl⟩
  · assumption
  simp only [Act.put, List.setIfInBounds_toArray, List.set_cons_zero, List.set_cons_succ]
  refine' wpAnyH_take (i := 52) ?_ ?_ ?_ ?_ ?_ ?_ ?_ ?_
  rotate_left 2
  · (simp only [List.getElem?_toArray, List.getElem?_cons_succ, List.getElem?_cons_zero]; rfl)
  · kernel_rfl
  · decide +kernel
  · decide +kernel
  · exact fun _ _ _ h => h
  · exact Or.inr ⟨by kernel_rfl, rfl⟩
  · assumption
  simp only [Act.put, List.setIfInBounds_toArray, List.set_cons_zero, List.set_cons_succ]
  refine' wpAnyH_take (i := 53) ?_ ?_ ?_ ?_ ?_ ?_ ?_ ?_
  rotate_left 2
  · (simp only [List.getElem?_toArray, List.getElem?_cons_succ, List.getElem?_cons_zero]; rfl)
  · kernel_rfl
  · decide +kernel
  · decide +kernel
  · exact fun _ _ _ h => h
  · exact Or.inr ⟨by kernel_rfl, rfl⟩
  · assumption
  simp only [Act.put, List.setIfInBounds_toArray, List.set_cons_zero, List.set_cons_succ]
  refine' wpAnyH_take (i := 54) ?_ ?_ ?_ ?_ ?_ ?_ ?_ ?_
  rotate_left 2
  · (simp only [List.getElem?_toArray, List.getElem?_cons_succ, List.getElem?_cons_zero]; rfl)
  · kernel_rfl
  · decide +kernel
  · decide +kernel
  · exact fun _ _ _ h => h
  · exact Or.inr ⟨by kernel_rfl, rfl⟩
  · assumption
  simp only [Act.put, List.setIfInBounds_toArray, List.set_cons_zero, List.set_cons_succ]
  refine' wpAnyH_take (i := 55) ?_ ?_ ?_ ?_ ?_ ?_ ?_ ?_
  rotate_left 2
  · (simp only [List.getElem?_toArray, List.getElem?_cons_succ, List.getElem?_cons_zero]; rfl)
  · kernel_rfl
  · decide +kernel
  · decide +kernel
  · exact fun _ _ _ h => h
  · exact Or.inr ⟨by kernel_rfl, rfl⟩
  · assumption
  simp only [Act.put, List.setIfInBounds_toArray, List.set_cons_zero, List.set_cons_succ]
  refine' wpAnyH_take (i := 56) ?_ ?_ ?_ ?_ ?_ ?_ ?_ ?_
  rotate_left 2
  · (simp only [List.getElem?_toArray, List.getElem?_cons_succ, List.getElem?_cons_zero]; rfl)
  · kernel_rfl
  · decide +kernel
  · decide +kernel
  · exact fun _ _ _ h => h
  · exact Or.inr ⟨by kernel_rfl, rfl⟩
  · assumption
  simp only [Act.put, List.setIfInBounds_toArray, List.set_cons_zero, List.set_cons_succ]
  refine' wpAnyH_take (i := 57) ?_ ?_ ?_ ?_ ?_ ?_ ?_ ?_
  rotate_left 2
  · (simp only [List.getElem?_toArray, List.getElem?_cons_succ, List.getElem?_cons_zero]; rfl)
  · kernel_rfl
  · decide +kernel
  · decide +kernel
  · exact fun _ _ _ h => h
  · exact Or.inr ⟨by kernel_rfl, rfl⟩
  · assumption
  simp only [Act.put, List.setIfInBounds_toArray, List.set_cons_zero, List.set_cons_succ]
  refine' wpAnyH_take (i := 58) ?_ ?_ ?_ ?_ ?_ ?_ ?_ ?_
  rotate_left 2
  · (simp only [List.getElem?_toArray, List.getElem?_cons_succ, List.getElem?_cons_zero]; rfl)
  · kernel_rfl
  · decide +kernel
  · decide +kernel
  · exact fun _ _ _ h => h
  · exact Or.inr ⟨by kernel_rfl, rfl⟩
  · assumption
  simp only [Act.put, List.setIfInBounds_toArray, List.set_cons_zero, List.set_cons_succ]
  refine' wpAnyH_take (i := 59) ?_ ?_ ?_ ?_ ?_ ?_ ?_ ?_
  rotate_left 2
  · (simp only [List.getElem?_toArray, List.getElem?_cons_succ, List.getElem?_cons_zero]; rfl)
  · kernel_rfl
  · decide +kernel
  · decide +kernel
  · exact fun _ _ _ h => h
  · exact Or.inr ⟨by kernel_rfl, rfl⟩
  · assumption
  simp only [Act.put, List.setIfInBounds_toArray, List.set_cons_zero, List.set_cons_succ]
  refine' wpAnyH_take (i := 60) ?_ ?_ ?_ ?_ ?_ ?_ ?_ ?_
  rotate_left 2
  · (simp only [List.getElem?_toArray, List.getElem?_cons_succ, List.getElem?_cons_zero]; rfl)
  · kernel_rfl
  · decide +kernel
  · decide +kernel
  · exact fun _ _ _ h => h
  · exact Or.inr ⟨by kernel_rfl, rfl⟩
  · assumption
  simp only [Act.put, List.setIfInBounds_toArray, List.set_cons_zero, List.set_cons_succ]
  refine' wpAnyH_take (i := 61) ?_ ?_ ?_ ?_ ?_ ?_ ?_ ?_
  rotate_left 2
  · (simp only [List.getElem?_toArray, List.getElem?_cons_succ, List.getElem?_cons_zero]; rfl)
  · kernel_rfl
  · decide +kernel
  · decide +kernel
  · exact fun _ _ _ h => h
  · exact Or.inr ⟨by kernel_rfl, rfl⟩
  · assumption
  simp only [Act.put, List.setIfInBounds_toArray, List.set_cons_zero, List.set_cons_succ]
  refine' wpAnyH_take (i := 62) ?_ ?_ ?_ ?_ ?_ ?_ ?_ ?_
  rotate_left 2
  · (simp only [List.getElem?_toArray, List.getElem?_cons_succ, List.getElem?_cons_zero]; rfl)
  · kernel_rfl
  · decide +kernel
  · decide +kernel
  · exact fun _ _ _ h => h
  · exact Or.inr ⟨by kernel_rfl, rfl⟩
  · assumption
  simp only [Act.put, List.setIfInBounds_toArray, List.set_cons_zero, List.set_cons_succ]
  refine' wpAnyH_take (i := 63) ?_ ?_ ?_ ?_ ?_ ?_ ?_ ?_
  rotate_left 2
  · (simp only [List.getElem?_toArray, List.getElem?_cons_succ, List.getElem?_cons_zero]; rfl)
  · kernel_rfl
  · decide +kernel
  · decide +kernel
  · exact fun _ _ _ h => h
  · exact Or.inr ⟨by kernel_rfl, rfl⟩
  · assumption
  simp only [Act.put, List.setIfInBounds_toArray, List.set_cons_zero, List.set_cons_succ]
  refine' wpAnyH_take (i := 64) ?_ ?_ ?_ ?_ ?_ ?_ ?_ ?_
  rotate_left 2
  · (simp only [List.getElem?_toArray, List.getElem?_cons_succ, List.getElem?_cons_zero]; rfl)
  · kernel_rfl
  · decide +kernel
  · decide +kernel
  · exact fun _ _ _ h => h
  · exact Or.inr ⟨by kernel_rfl, rfl⟩
  · assumption
  simp only [Act.put, List.setIfInBounds_toArray, List.set_cons_zero, List.set_cons_succ]
  refine' wpAnyH_take (i := 65) ?_ ?_ ?_ ?_ ?_ ?_ ?_ ?_
  rotate_left 2
  · (simp only [List.getElem?_toArray, List.getElem?_cons_succ, List.getElem?_cons_zero]; rfl)
  · kernel_rfl
  · decide +kernel
  · decide +kernel
  · exact fun _ _ _ h => h
  · exact Or.inr ⟨by kernel_rfl, rfl⟩
  · assumption
  simp only [Act.put, List.setIfInBounds_toArray, List.set_cons_zero, List.set_cons_succ]
  refine' wpAnyH_take (i := 66) ?_ ?_ ?_ ?_ ?_ ?_ ?_ ?_
  rotate_left 2
  · (simp only [List.getElem?_toArray, List.getElem?_cons_succ, List.getElem?_cons_zero]; rfl)
  · kernel_rfl
  · decide +kernel
  · decide +kernel
  · exact fun _ _ _ h => h
  · exact Or.inr ⟨by kernel_rfl, rfl⟩
  · assumption
  simp only [Act.put, List.setIfInBounds_toArray, List.set_cons_zero, List.set_cons_succ]
  refine' wpAnyH_take (i := 67) ?_ ?_ ?_ ?_ ?_ ?_ ?_ ?_
  rotate_left 2
  · (simp only [List.getElem?_toArray, List.getElem?_cons_succ, List.getElem?_cons_zero]; rfl)
  · kernel_rfl
  · decide +kernel
  · decide +kernel
  · exact fun _ _ _ h => h
  · exact Or.inr ⟨by kernel_rfl, rfl⟩
  · assumption
  simp only [Act.put, List.setIfInBounds_toArray, List.set_cons_zero, List.set_cons_succ]
  refine' wpAnyH_take (i := 68) ?_ ?_ ?_ ?_ ?_ ?_ ?_ ?_
  rotate_left 2
  · (simp only [List.getElem?_toArray, List.getElem?_cons_succ, List.getElem?_cons_zero]; rfl)
  · kernel_rfl
  · decide +kernel
  · decide +kernel
  · exact fun _ _ _ h => h
  · exact Or.inr ⟨by kernel_rfl, rfl⟩
  · assumption
  simp only [Act.put, List.setIfInBounds_toArray, List.set_cons_zero, List.set_cons_succ]
  refine' wpAnyH_take (i := 69) ?_ ?_ ?_ ?_ ?_ ?_ ?_ ?_
  rotate_left 2
  · (simp only [List.getElem?_toArray, List.getElem?_cons_succ, List.getElem?_cons_zero]; rfl)
  · kernel_rfl
  · decide +kernel
  · decide +kernel
  · exact fun _ _ _ h => h
  · exact Or.inr ⟨by kernel_rfl, rfl⟩
  · assumption
  simp only [Act.put, List.setIfInBounds_toArray, List.set_cons_zero, List.set_cons_succ]
  refine' wpAnyH_take (i := 70) ?_ ?_ ?_ ?_ ?_ ?_ ?_ ?_
  rotate_left 2
  · (simp only [List.getElem?_toArray, List.getElem?_cons_succ, List.getElem?_cons_zero]; rfl)
  · kernel_rfl
  · decide +kernel
  · decide +kernel
  · exact fun _ _ _ h => h
  · exact Or.inr ⟨by kernel_rfl, rfl⟩
  · assumption
  simp only [Act.put, List.setIfInBounds_toArray, List.set_cons_zero, List.set_cons_succ]
  refine' wpAnyH_take (i := 71) ?_ ?_ ?_ ?_ ?_ ?_ ?_ ?_
  rotate_left 2
  · (simp only [List.getElem?_toArray, List.getElem?_cons_succ, List.getElem?_cons_zero]; rfl)
  · kernel_rfl
  · decide +kernel
  · decide +kernel
  · exact fun _ _ _ h => h
  · exact Or.inr ⟨by kernel_rfl, rfl⟩
  · assumption
  simp only [Act.put, List.setIfInBounds_toArray, List.set_cons_zero, List.set_cons_succ]
  refine' wpAnyH_take (i := 72) ?_ ?_ ?_ ?_ ?_ ?_ ?_ ?_
  rotate_left 2
  · (simp only [List.getElem?_toArray, List.getElem?_cons_succ, List.getElem?_cons_zero]; rfl)
  · kernel_rfl
  · decide +kernel
  · decide +kernel
  · exact fun _ _ _ h => h
  · exact Or.inr ⟨by kernel_rfl, rfl⟩
  · assumption
  simp only [Act.put, List.setIfInBounds_toArray, List.set_cons_zero, List.set_cons_succ]
  refine' wpAnyH_take (i := 73) ?_ ?_ ?_ ?_ ?_ ?_ ?_ ?_
  rotate_left 2
  · (simp only [List.getElem?_toArray, List.getElem?_cons_succ, List.getElem?_cons_zero]; rfl)
  · kernel_rfl
  · decide +kernel
  · decide +kernel
  · exact fun _ _ _ h => h
  · exact Or.inr ⟨by kernel_rfl, rfl⟩
  · assumption
  simp only [Act.put, List.setIfInBounds_toArray, List.set_cons_zero, List.set_cons_succ]
  refine' wpAnyH_take (i := 74) ?_ ?_ ?_ ?_ ?_ ?_ ?_ ?_
  rotate_left 2
  · (simp only [List.getElem?_toArray, List.getElem?_cons_succ, List.getElem?_cons_zero]; rfl)
  · kernel_rfl
  · decide +kernel
  · decide +kernel
  · exact fun _ _ _ h => h
  · exact Or.inr ⟨by kernel_rfl, rfl⟩
  · assumption
  simp only [Act.put, List.setIfInBounds_toArray, List.set_cons_zero, List.set_cons_succ]
  refine' wpAnyH_take (i := 75) ?_ ?_ ?_ ?_ ?_ ?_ ?_ ?_
  rotate_left 2
  · (simp only [List.getElem?_toArray, List.getElem?_cons_succ, List.getElem?_cons_zero]; rfl)
  · kernel_rfl
  · decide +kernel
  · decide +kernel
  · exact fun _ _ _ h => h
  · exact Or.inr ⟨by kernel_rfl, rfl⟩
  · assumption
  simp only [Act.put, List.setIfInBounds_toArray, List.set_cons_zero, List.set_cons_succ]
  refine' wpAnyH_take (i := 76) ?_ ?_ ?_ ?_ ?_ ?_ ?_ ?_
  rotate_left 2
  · (simp only [List.getElem?_toArray, List.getElem?_cons_succ, List.getElem?_cons_zero]; rfl)
  · kernel_rfl
  · decide +kernel
  · decide +kernel
  · exact fun _ _ _ h => h
  · (refine Or.inl ⟨by kernel_rfl, ?_⟩; intro w hSw; (try dsimp only at hSw); go_simp; first | done | with_reducible rfl)
  · assumption
  simp only [Act.put, List.setIfInBounds_toArray, List.set_cons_zero, List.set_cons_succ]
  refine' wpAnyH_take (i := 77) ?_ ?_ ?_ ?_ ?_ ?_ ?_ ?_
  rotate_left 2
  · (simp only [List.getElem?_toArray, List.getElem?_cons_succ, List.getElem?_cons_zero]; rfl)
  · kernel_rfl
  · decide +kernel
  · decide +kernel
  · exact fun _ _ _ h => h
  · (refine Or.inl ⟨by kernel_rfl, ?_⟩; intro w hSw; (try dsimp only at hSw); go_simp; first | done | with_reducible rfl)
  · assumption
  simp only [Act.put, List.setIfInBounds_toArray, List.set_cons_zero, List.set_cons_succ]
  refine wpAnyH_done (by kernel_rfl) ?_ _
  go_wp2_with fail
  go_ret
  refine ⟨?_, HF0.out.drew⟩
  simp only [hc2, Bool.true_and, Bool.false_and]; rfl
end Go.Proofs.YtnnpjjehecbljaaDoor
