/-
  level: add: the contract.
-/
import Derived.Test.YtnnpjjehecbljaaDoorLOp2
import Derived.Test.YtnnpjjehecbljaaDoorLIns
import Derived.Test.YtnnpjjehecbljaaDoorOrdL
namespace Go.Proofs.YtnnpjjehecbljaaDoor
open Go.RowKit

/-- A config of its own, behind a pointer. -/
def cfH (dx gm cm gh ch : Nat) (c : Cfg) : List Ck := [(dx, .cel (cfC gm cm gh ch c) 25), (gm, ivCh 3 cm c.M), (gh, ivCh 3 ch c.G)]
/-- What a change of a config answers. -/
def Told4 (dx gm gh : Nat) (w : World) (a : Cfg × Int) (r : Ending) (w' : World) : Prop :=
  ∃ gm' cm' gh' ch', r = .returned (.int .i64 a.2) ∧ Sat [dx, gm, gh] w (cfH dx gm' cm' gh' ch' a.1) w'

set_option maxHeartbeats 4000000 in
set_option maxRecDepth 100000 in
theorem lAdd (dx gm cm gh ch : Nat) (c : Cfg) (e : Ent) (w : World) (h : Sat [dx, gm, gh] w (cfH dx gm cm gh ch c) w) (hs : c.M.Pairwise (· ≤ ·)) (hlen : c.G.length = c.M.length) (h4 : c.M.length ≤ 4096) :
    Calls Tryd.prog 20 #[.pointer (some ⟨dx, 0, none⟩), .agg e.cells] w fun r w' => Told4 dx gm gh w (addOf c e.node) r w' := by
  have hS := h.alloc (o := .cells e.cells 31) (c := .cel e.cells 31) rfl
  have HH := Lib.hid h
  clear h
  have HP : posL c.M e.node ≤ c.M.length := List.countP_le_length
  have HB := Lib.hid (fun (g cap : Nat) (w : World) (h : Ck.in (g, ivCh 3 cap c.M) w) => sBin g cap c.M e.node w (Iv.ck.2 h) hs h4 _ rfl)
  unfold Ent.cells at *
  unfold cfH cfC ivV at *
  unfold addOf
  obtain ⟨M, G, lv, fin⟩ := c
  simp only at *
  generalize hp : posL M e.node = p at *
  generalize hcn : M.contains e.node = cn at *
  clear hp hcn hs
  generalize hw1 : w.alloc (.cells #[.int .u64 e.term, .int .u64 e.index, .int .i64 e.kind, .int .u64 e.client, .int .u64 e.seq, .int .u64 e.block, .int .u64 e.many, .int .i64 e.node, .int .i64 e.level, .string e.data, .string e.old] 31) = w1 at *
  have HW1 := Lib.hid hw1
  clear hw1
  generalize hex : w.heap.size = ex at *
  have HEX := Lib.hid hex
  clear hex
  have HLen := Lib.hid hlen
  clear hlen
  have fs := hS.says
  simp only [says, Ck.say] at fs
  go_enter Tryd.func20, Tryd.ntmps20
  go_upto_region 1 with fail
  rw [HW1.out, HEX.out]
  go_region_with (go_at_call 39; refine Sat.callF hS.drew (HB.out _ _ _ (hS.drew.mem 2 rfl)) (fun w2 hS => ?_); clear fs; have fs := hS.says; simp only [says, Ck.say] at fs)
  all_goals
    cases cn with
    | true =>
      go_wp2_with fail
      go_ret
      exact ⟨gm, cm, gh, ch, rfl, hS.sub (List.sublist_cons_self _ _)⟩
    | false =>
      by_cases h1 : lv = 2
      · subst h1
        go_wp2_with fail
        go_ret
        exact ⟨gm, cm, gh, ch, rfl, hS.sub (List.sublist_cons_self _ _)⟩
      · go_upto_region 6 with fail
        rw [HLen.out] at hS
        clear fs
        have fs := hS.says
        simp only [says, Ck.say] at fs
        refine GoL.begin [(some 10, fun w => w.cell? ⟨dx, 0, none⟩ = some (.slice (some ⟨gm, 0, none⟩) M.length cm)), (some 9, fun w => w.cell? ⟨ex, 7, none⟩ = some (.int .i64 e.node)), (some 17, fun w => w.cell? ⟨dx, 1, none⟩ = some (.slice (some ⟨gh, 0, none⟩) M.length ch))] (by kernel_rfl) ?_ ?_
        · exact (Facts.cons_at (.inr (by simp [fs])) (Facts.cons_at (.inr (by simp [fs])) (Facts.cons_at (.inr (by simp [fs])) Facts.nil_at)))
        have hS := hS.drew
        generalize w2.drew = w3 at *
        clear fs
        have fs := hS.says; simp only [says, Ck.say] at fs
        refine' GoL.take 0 [] ?_ ?_ ?_ ?_ ?_
        rotate_left 3
        · (simp only [List.getElem?_toArray, List.getElem?_cons_succ, List.getElem?_cons_zero]; rfl)
        · exact fun _ _ _ h => h
        · (refine Or.inl ⟨by first | kernel_rfl | (simp [Region.wanted, yielded]), ?_⟩; intro w hSw; clear hSw; go_simp; first | done | with_reducible rfl)
        rotate_left 1
        · kernel_rfl
        simp only [Act.put, List.setIfInBounds_toArray, List.set_cons_zero, List.set_cons_succ]
        refine' GoL.take 1 [] ?_ ?_ ?_ ?_ ?_
        rotate_left 3
        · (simp only [List.getElem?_toArray, List.getElem?_cons_succ, List.getElem?_cons_zero]; rfl)
        · exact fun _ _ _ h => h
        · (refine Or.inl ⟨by first | kernel_rfl | (simp [Region.wanted, yielded]), ?_⟩; intro w hSw; clear hSw; go_simp; first | done | with_reducible rfl)
        rotate_left 1
        · kernel_rfl
        simp only [Act.put, List.setIfInBounds_toArray, List.set_cons_zero, List.set_cons_succ]
        refine' GoL.take 2 [] ?_ ?_ ?_ ?_ ?_
        rotate_left 3
        · (simp only [List.getElem?_toArray, List.getElem?_cons_succ, List.getElem?_cons_zero]; rfl)
        · exact fun _ _ _ h => h
        · (refine Or.inl ⟨by first | kernel_rfl | (simp [Region.wanted, yielded]), ?_⟩; intro w hSw; clear hSw; go_simp; first | done | with_reducible rfl)
        rotate_left 1
        · kernel_rfl
        simp only [Act.put, List.setIfInBounds_toArray, List.set_cons_zero, List.set_cons_succ]
        refine' GoL.take 3 [] ?_ ?_ ?_ ?_ ?_
        rotate_left 3
        · (simp only [List.getElem?_toArray, List.getElem?_cons_succ, List.getElem?_cons_zero]; rfl)
        · exact fun _ _ _ h => h
        · (refine Or.inl ⟨by first | kernel_rfl | (simp [Region.wanted, yielded]), ?_⟩; intro w hSw; clear hSw; go_simp; first | done | with_reducible rfl)
        rotate_left 1
        · kernel_rfl
        simp only [Act.put, List.setIfInBounds_toArray, List.set_cons_zero, List.set_cons_succ]
        refine' GoL.take 4 [] ?_ ?_ ?_ ?_ ?_
        rotate_left 3
        · (simp only [List.getElem?_toArray, List.getElem?_cons_succ, List.getElem?_cons_zero]; rfl)
        · exact fun _ _ _ h => h
        · (refine Or.inl ⟨by first | kernel_rfl | (simp [Region.wanted, yielded]), ?_⟩; intro w hSw; clear hSw; go_simp; first | done | with_reducible rfl)
        rotate_left 1
        · kernel_rfl
        simp only [Act.put, List.setIfInBounds_toArray, List.set_cons_zero, List.set_cons_succ]
        refine' GoL.take 5 [10] ?_ ?_ ?_ ?_ ?_
        rotate_left 3
        · (simp only [List.getElem?_toArray, List.getElem?_cons_succ, List.getElem?_cons_zero]; rfl)
        · exact fun _ _ _ h => h
        · (refine Or.inl ⟨by first | kernel_rfl | (simp [Region.wanted, yielded]), ?_⟩; intro w hSw; have f0 := Facts.get hSw 0 rfl (by decide); (try dsimp only at f0); clear hSw; go_simp; first | done | with_reducible rfl)
        rotate_left 1
        · kernel_rfl
        simp only [Act.put, List.setIfInBounds_toArray, List.set_cons_zero, List.set_cons_succ]
        refine' GoL.take 6 [] ?_ ?_ ?_ ?_ ?_
        rotate_left 3
        · (simp only [List.getElem?_toArray, List.getElem?_cons_succ, List.getElem?_cons_zero]; rfl)
        · exact fun _ _ _ h => h
        · (refine Or.inl ⟨by first | kernel_rfl | (simp [Region.wanted, yielded]), ?_⟩; intro w hSw; clear hSw; go_simp; first | done | with_reducible rfl)
        rotate_left 1
        · kernel_rfl
        simp only [Act.put, List.setIfInBounds_toArray, List.set_cons_zero, List.set_cons_succ]
        refine' GoL.take 7 [] ?_ ?_ ?_ ?_ ?_
        rotate_left 3
        · (simp only [List.getElem?_toArray, List.getElem?_cons_succ, List.getElem?_cons_zero]; rfl)
        · exact fun _ _ _ h => h
        · (refine Or.inl ⟨by first | kernel_rfl | (simp [Region.wanted, yielded]), ?_⟩; intro w hSw; clear hSw; go_simp; first | done | with_reducible rfl)
        rotate_left 1
        · kernel_rfl
        simp only [Act.put, List.setIfInBounds_toArray, List.set_cons_zero, List.set_cons_succ]
        refine' GoL.take 8 [9] ?_ ?_ ?_ ?_ ?_
        rotate_left 3
        · (simp only [List.getElem?_toArray, List.getElem?_cons_succ, List.getElem?_cons_zero]; rfl)
        · exact fun _ _ _ h => h
        · (refine Or.inl ⟨by first | kernel_rfl | (simp [Region.wanted, yielded]), ?_⟩; intro w hSw; have f1 := Facts.get hSw 1 rfl (by decide); (try dsimp only at f1); clear hSw; go_simp; first | done | with_reducible rfl)
        rotate_left 1
        · kernel_rfl
        simp only [Act.put, List.setIfInBounds_toArray, List.set_cons_zero, List.set_cons_succ]
        refine' GoL.take 11 [] ?_ ?_ ?_ ?_ ?_
        rotate_left 3
        · (simp only [List.getElem?_toArray, List.getElem?_cons_succ, List.getElem?_cons_zero]; rfl)
        · exact fun _ _ _ h => h
        · (refine Or.inl ⟨by first | kernel_rfl | (simp [Region.wanted, yielded]), ?_⟩; intro w hSw; clear hSw; go_simp; first | done | with_reducible rfl)
        rotate_left 1
        · kernel_rfl
        simp only [Act.put, List.setIfInBounds_toArray, List.set_cons_zero, List.set_cons_succ]
        refine' GoL.take 12 [] ?_ ?_ ?_ ?_ ?_
        rotate_left 3
        · (simp only [List.getElem?_toArray, List.getElem?_cons_succ, List.getElem?_cons_zero]; rfl)
        · exact fun _ _ _ h => h
        · (refine Or.inl ⟨by first | kernel_rfl | (simp [Region.wanted, yielded]), ?_⟩; intro w hSw; clear hSw; go_simp; first | done | with_reducible rfl)
        rotate_left 1
        · kernel_rfl
        simp only [Act.put, List.setIfInBounds_toArray, List.set_cons_zero, List.set_cons_succ]
        refine' GoL.take 13 [] ?_ ?_ ?_ ?_ ?_
        rotate_left 3
        · (simp only [List.getElem?_toArray, List.getElem?_cons_succ, List.getElem?_cons_zero]; rfl)
        · exact fun _ _ _ h => h
        · (refine Or.inl ⟨by first | kernel_rfl | (simp [Region.wanted, yielded]), ?_⟩; intro w hSw; clear hSw; go_simp; first | done | with_reducible rfl)
        rotate_left 1
        · kernel_rfl
        simp only [Act.put, List.setIfInBounds_toArray, List.set_cons_zero, List.set_cons_succ]
        refine' GoL.take 14 [17] ?_ ?_ ?_ ?_ ?_
        rotate_left 3
        · (simp only [List.getElem?_toArray, List.getElem?_cons_succ, List.getElem?_cons_zero]; rfl)
        · exact fun _ _ _ h => h
        · (refine Or.inl ⟨by first | kernel_rfl | (simp [Region.wanted, yielded]), ?_⟩; intro w hSw; have f2 := Facts.get hSw 2 rfl (by decide); (try dsimp only at f2); clear hSw; go_simp; first | done | with_reducible rfl)
        rotate_left 1
        · kernel_rfl
        simp only [Act.put, List.setIfInBounds_toArray, List.set_cons_zero, List.set_cons_succ]
        refine' GoL.take 15 [] ?_ ?_ ?_ ?_ ?_
        rotate_left 3
        · (simp only [List.getElem?_toArray, List.getElem?_cons_succ, List.getElem?_cons_zero]; rfl)
        · exact fun _ _ _ h => h
        · (refine Or.inl ⟨by first | kernel_rfl | (simp [Region.wanted, yielded]), ?_⟩; intro w hSw; clear hSw; go_simp; first | done | with_reducible rfl)
        rotate_left 1
        · kernel_rfl
        simp only [Act.put, List.setIfInBounds_toArray, List.set_cons_zero, List.set_cons_succ]
        refine GoL.ready [9, 16] (by kernel_rfl) (by simp) ?_
        refine GoL.one (by (simp only [List.getElem?_toArray, List.getElem?_cons_succ, List.getElem?_cons_zero]; rfl)) (fun K hK => ?_) ?_
        · go_simp
          have hS := hS.alloc (o := (.cells #[.int .i64 e.node] 3)) (c := .cel #[.int .i64 e.node] 3) rfl
          generalize w3.alloc (.cells #[.int .i64 e.node] 3) = wu at *
          generalize w3.heap.size = vu at *
          clear fs
          have fs := hS.says; simp only [says, Ck.say] at fs
          refine hK.out _ _ ?_ ?_
          · exact (Facts.cons_at (.inr (by simp [fs])) (Facts.cons_at (.inl (by kernel_rfl)) (Facts.cons_at (.inr (by simp [fs])) Facts.nil_at)))
          clear hK K
          try simp only [Act.put, List.setIfInBounds_toArray, List.set_cons_zero, List.set_cons_succ]
          refine GoL.ready [10, 16] (by kernel_rfl) (by simp) ?_
          refine GoL.one (by (simp only [List.getElem?_toArray, List.getElem?_cons_succ, List.getElem?_cons_zero]; rfl)) (fun K hK => ?_) ?_
          · go_simp
            refine cInsert hS _ _ (l := M) (by first | exact at0 | exact at1 | exact at2 | exact at3 | exact at4 | exact at5 | exact at6 | exact at7 | exact at8) (by first | exact at0 | exact at1 | exact at2 | exact at3 | exact at4 | exact at5 | exact at6 | exact at7 | exact at8) (by decide) (by have := HLen.out; omega) (by have := HLen.out; omega) (by first | rfl | exact HLen.out.symm) ?_
            rintro ⟨ga, ca⟩ wa hS
            clear fs
            dsimp only [List.eraseIdx] at hS
            have fs := hS.says; simp only [says, Ck.say] at fs
            refine hK.out _ _ ?_ ?_
            · exact (Facts.cons_at (.inl (by kernel_rfl)) (Facts.cons_at (.inl (by kernel_rfl)) (Facts.cons_at (.inr (by simp [fs])) Facts.nil_at)))
            clear hK K
            try simp only [Act.put, List.setIfInBounds_toArray, List.set_cons_zero, List.set_cons_succ]
            refine GoL.ready [16] (by kernel_rfl) (by simp) ?_
            refine GoL.one (by (simp only [List.getElem?_toArray, List.getElem?_cons_succ, List.getElem?_cons_zero]; rfl)) (fun K hK => ?_) ?_
            · go_simp
              have hS := hS.alloc (o := (.cells #[.int .i64 1] 3)) (c := .cel #[.int .i64 1] 3) rfl
              generalize wa.alloc (.cells #[.int .i64 1] 3) = wv at *
              generalize wa.heap.size = vv at *
              clear fs
              have fs := hS.says; simp only [says, Ck.say] at fs
              refine hK.out _ _ ?_ ?_
              · exact (Facts.cons_at (.inl (by kernel_rfl)) (Facts.cons_at (.inl (by kernel_rfl)) (Facts.cons_at (.inr (by simp [fs])) Facts.nil_at)))
              clear hK K
              try simp only [Act.put, List.setIfInBounds_toArray, List.set_cons_zero, List.set_cons_succ]
              refine GoL.ready [17] (by kernel_rfl) (by simp) ?_
              refine GoL.one (by (simp only [List.getElem?_toArray, List.getElem?_cons_succ, List.getElem?_cons_zero]; rfl)) (fun K hK => ?_) ?_
              · go_simp
                refine cInsert hS _ _ (l := G) (by first | exact at0 | exact at1 | exact at2 | exact at3 | exact at4 | exact at5 | exact at6 | exact at7 | exact at8) (by first | exact at0 | exact at1 | exact at2 | exact at3 | exact at4 | exact at5 | exact at6 | exact at7 | exact at8) (by decide) (by have := HLen.out; omega) (by have := HLen.out; omega) (by first | rfl | exact HLen.out.symm) ?_
                rintro ⟨gb, cb⟩ wb hS
                clear fs
                dsimp only [List.eraseIdx] at hS
                have fs := hS.says; simp only [says, Ck.say] at fs
                refine hK.out _ _ ?_ ?_
                · exact (Facts.cons_at (.inl (by kernel_rfl)) (Facts.cons_at (.inl (by kernel_rfl)) (Facts.cons_at (.inl (by kernel_rfl)) Facts.nil_at)))
                clear hK K
                try simp only [Act.put, List.setIfInBounds_toArray, List.set_cons_zero, List.set_cons_succ]
                refine' GoL.take 18 [] ?_ ?_ ?_ ?_ ?_
                rotate_left 3
                · (simp only [List.getElem?_toArray, List.getElem?_cons_succ, List.getElem?_cons_zero]; rfl)
                · exact fun _ _ _ h => h
                · (refine Or.inl ⟨by first | kernel_rfl | (simp [Region.wanted, yielded]), ?_⟩; intro w hSw; clear hSw; go_simp; first | done | with_reducible rfl)
                rotate_left 1
                · kernel_rfl
                simp only [Act.put, List.setIfInBounds_toArray, List.set_cons_zero, List.set_cons_succ]
                refine' GoL.take 19 [] ?_ ?_ ?_ ?_ ?_
                rotate_left 3
                · (simp only [List.getElem?_toArray, List.getElem?_cons_succ, List.getElem?_cons_zero]; rfl)
                · exact fun _ _ _ h => h
                · (refine Or.inl ⟨by first | kernel_rfl | (simp [Region.wanted, yielded]), ?_⟩; intro w hSw; clear hSw; go_simp; first | done | with_reducible rfl)
                rotate_left 1
                · kernel_rfl
                simp only [Act.put, List.setIfInBounds_toArray, List.set_cons_zero, List.set_cons_succ]
                refine GoL.ready [20] (by kernel_rfl) (by simp) ?_
                refine GoL.one (by (simp only [List.getElem?_toArray, List.getElem?_cons_succ, List.getElem?_cons_zero]; rfl)) (fun K hK => ?_) ?_
                · go_simp
                  have hS := hS.set _ (b := dx) (by first | exact at0 | exact at1 | exact at2 | exact at3 | exact at4 | exact at5 | exact at6 | exact at7 | exact at8) 0 (.slice (some ⟨ga, 0, none⟩) (M.length + 1) ca)
                  simp only [List.set_cons_zero, List.set_cons_succ, List.setIfInBounds_toArray] at hS
                  generalize wb.setCell ⟨dx, 0, none⟩ (.slice (some ⟨ga, 0, none⟩) (M.length + 1) ca) = x0 at *
                  clear fs
                  have fs := hS.says; simp only [says, Ck.say] at fs
                  refine hK.out _ _ ?_ ?_
                  · exact (Facts.cons_at (.inl (by kernel_rfl)) (Facts.cons_at (.inl (by kernel_rfl)) (Facts.cons_at (.inl (by kernel_rfl)) Facts.nil_at)))
                  clear hK K
                  try simp only [Act.put, List.setIfInBounds_toArray, List.set_cons_zero, List.set_cons_succ]
                  refine' GoL.take 21 [] ?_ ?_ ?_ ?_ ?_
                  rotate_left 3
                  · (simp only [List.getElem?_toArray, List.getElem?_cons_succ, List.getElem?_cons_zero]; rfl)
                  · exact fun _ _ _ h => h
                  · (refine Or.inl ⟨by first | kernel_rfl | (simp [Region.wanted, yielded]), ?_⟩; intro w hSw; clear hSw; go_simp; first | done | with_reducible rfl)
                  rotate_left 1
                  · kernel_rfl
                  simp only [Act.put, List.setIfInBounds_toArray, List.set_cons_zero, List.set_cons_succ]
                  refine' GoL.take 22 [] ?_ ?_ ?_ ?_ ?_
                  rotate_left 3
                  · (simp only [List.getElem?_toArray, List.getElem?_cons_succ, List.getElem?_cons_zero]; rfl)
                  · exact fun _ _ _ h => h
                  · (refine Or.inl ⟨by first | kernel_rfl | (simp [Region.wanted, yielded]), ?_⟩; intro w hSw; clear hSw; go_simp; first | done | with_reducible rfl)
                  rotate_left 1
                  · kernel_rfl
                  simp only [Act.put, List.setIfInBounds_toArray, List.set_cons_zero, List.set_cons_succ]
                  refine GoL.ready [23] (by kernel_rfl) (by simp) ?_
                  refine GoL.one (by (simp only [List.getElem?_toArray, List.getElem?_cons_succ, List.getElem?_cons_zero]; rfl)) (fun K hK => ?_) ?_
                  · go_simp
                    have hS := hS.set _ (b := dx) (by first | exact at0 | exact at1 | exact at2 | exact at3 | exact at4 | exact at5 | exact at6 | exact at7 | exact at8) 1 (.slice (some ⟨gb, 0, none⟩) (G.length + 1) cb)
                    simp only [List.set_cons_zero, List.set_cons_succ, List.setIfInBounds_toArray] at hS
                    generalize x0.setCell ⟨dx, 1, none⟩ (.slice (some ⟨gb, 0, none⟩) (G.length + 1) cb) = x1 at *
                    clear fs
                    have fs := hS.says; simp only [says, Ck.say] at fs
                    refine hK.out _ _ ?_ ?_
                    · exact (Facts.cons_at (.inl (by kernel_rfl)) (Facts.cons_at (.inl (by kernel_rfl)) (Facts.cons_at (.inl (by kernel_rfl)) Facts.nil_at)))
                    clear hK K
                    try simp only [Act.put, List.setIfInBounds_toArray, List.set_cons_zero, List.set_cons_succ]
                    refine GoL.done (by kernel_rfl) ?_
                    go_wp2_with fail
                    go_ret
                    refine ⟨ga, ca, gb, cb, rfl, ?_⟩
                    have h1 := hS.pull _ (c := (gb, ivCh 3 cb (insL G p 1))) (by first | exact at0 | exact at1 | exact at2 | exact at3 | exact at4 | exact at5 | exact at6 | exact at7 | exact at8)
                    dsimp only [List.eraseIdx] at h1
                    have h2 := h1.pull _ (c := (ga, ivCh 3 ca (insL M p e.node))) (by first | exact at0 | exact at1 | exact at2 | exact at3 | exact at4 | exact at5 | exact at6 | exact at7 | exact at8)
                    dsimp only [List.eraseIdx] at h2
                    have hC : cfC ga ca gb cb ⟨insL M p e.node, insL G p 1, lv, fin⟩ = #[.slice (some ⟨ga, 0, none⟩) (M.length + 1) ca, .slice (some ⟨gb, 0, none⟩) (G.length + 1) cb, .int .i64 lv, .bool fin] := by unfold cfC ivV; simp [insL_length]
                    have h3 := h2.pull _ (c := (dx, .cel #[.slice (some ⟨ga, 0, none⟩) (M.length + 1) ca, .slice (some ⟨gb, 0, none⟩) (G.length + 1) cb, .int .i64 lv, .bool fin] 25)) (by first | exact at0 | exact at1 | exact at2 | exact at3 | exact at4 | exact at5 | exact at6 | exact at7 | exact at8)
                    dsimp only [List.eraseIdx] at h3
                    show Sat _ _ [(dx, .cel (cfC ga ca gb cb ⟨insL M p e.node, insL G p 1, lv, fin⟩) 25), _, _] _
                    rw [hC]
                    exact h3.sub (.cons_cons _ (.cons_cons _ (.cons_cons _ (List.nil_sublist _))))
                  exact AllL.nil
                exact AllL.nil
              exact AllL.nil
            exact AllL.nil
          refine GoL.one (by (simp only [List.getElem?_toArray, List.getElem?_cons_succ, List.getElem?_cons_zero]; rfl)) (fun K hK => ?_) ?_
          · go_simp
            have hS := hS.alloc (o := (.cells #[.int .i64 1] 3)) (c := .cel #[.int .i64 1] 3) rfl
            generalize wu.alloc (.cells #[.int .i64 1] 3) = wv at *
            generalize wu.heap.size = vv at *
            clear fs
            have fs := hS.says; simp only [says, Ck.say] at fs
            refine hK.out _ _ ?_ ?_
            · exact (Facts.cons_at (.inr (by simp [fs])) (Facts.cons_at (.inl (by kernel_rfl)) (Facts.cons_at (.inr (by simp [fs])) Facts.nil_at)))
            clear hK K
            try simp only [Act.put, List.setIfInBounds_toArray, List.set_cons_zero, List.set_cons_succ]
            refine GoL.ready [10] (by kernel_rfl) (by simp) ?_
            refine GoL.one (by (simp only [List.getElem?_toArray, List.getElem?_cons_succ, List.getElem?_cons_zero]; rfl)) (fun K hK => ?_) ?_
            · go_simp
              refine cInsert hS _ _ (l := M) (by first | exact at0 | exact at1 | exact at2 | exact at3 | exact at4 | exact at5 | exact at6 | exact at7 | exact at8) (by first | exact at0 | exact at1 | exact at2 | exact at3 | exact at4 | exact at5 | exact at6 | exact at7 | exact at8) (by decide) (by have := HLen.out; omega) (by have := HLen.out; omega) (by first | rfl | exact HLen.out.symm) ?_
              rintro ⟨ga, ca⟩ wa hS
              clear fs
              dsimp only [List.eraseIdx] at hS
              have fs := hS.says; simp only [says, Ck.say] at fs
              refine hK.out _ _ ?_ ?_
              · exact (Facts.cons_at (.inl (by kernel_rfl)) (Facts.cons_at (.inl (by kernel_rfl)) (Facts.cons_at (.inr (by simp [fs])) Facts.nil_at)))
              clear hK K
              try simp only [Act.put, List.setIfInBounds_toArray, List.set_cons_zero, List.set_cons_succ]
              refine GoL.ready [17] (by kernel_rfl) (by simp) ?_
              refine GoL.one (by (simp only [List.getElem?_toArray, List.getElem?_cons_succ, List.getElem?_cons_zero]; rfl)) (fun K hK => ?_) ?_
              · go_simp
                refine cInsert hS _ _ (l := G) (by first | exact at0 | exact at1 | exact at2 | exact at3 | exact at4 | exact at5 | exact at6 | exact at7 | exact at8) (by first | exact at0 | exact at1 | exact at2 | exact at3 | exact at4 | exact at5 | exact at6 | exact at7 | exact at8) (by decide) (by have := HLen.out; omega) (by have := HLen.out; omega) (by first | rfl | exact HLen.out.symm) ?_
                rintro ⟨gb, cb⟩ wb hS
                clear fs
                dsimp only [List.eraseIdx] at hS
                have fs := hS.says; simp only [says, Ck.say] at fs
                refine hK.out _ _ ?_ ?_
                · exact (Facts.cons_at (.inl (by kernel_rfl)) (Facts.cons_at (.inl (by kernel_rfl)) (Facts.cons_at (.inl (by kernel_rfl)) Facts.nil_at)))
                clear hK K
                try simp only [Act.put, List.setIfInBounds_toArray, List.set_cons_zero, List.set_cons_succ]
                refine' GoL.take 18 [] ?_ ?_ ?_ ?_ ?_
                rotate_left 3
                · (simp only [List.getElem?_toArray, List.getElem?_cons_succ, List.getElem?_cons_zero]; rfl)
                · exact fun _ _ _ h => h
                · (refine Or.inl ⟨by first | kernel_rfl | (simp [Region.wanted, yielded]), ?_⟩; intro w hSw; clear hSw; go_simp; first | done | with_reducible rfl)
                rotate_left 1
                · kernel_rfl
                simp only [Act.put, List.setIfInBounds_toArray, List.set_cons_zero, List.set_cons_succ]
                refine' GoL.take 19 [] ?_ ?_ ?_ ?_ ?_
                rotate_left 3
                · (simp only [List.getElem?_toArray, List.getElem?_cons_succ, List.getElem?_cons_zero]; rfl)
                · exact fun _ _ _ h => h
                · (refine Or.inl ⟨by first | kernel_rfl | (simp [Region.wanted, yielded]), ?_⟩; intro w hSw; clear hSw; go_simp; first | done | with_reducible rfl)
                rotate_left 1
                · kernel_rfl
                simp only [Act.put, List.setIfInBounds_toArray, List.set_cons_zero, List.set_cons_succ]
                refine GoL.ready [20] (by kernel_rfl) (by simp) ?_
                refine GoL.one (by (simp only [List.getElem?_toArray, List.getElem?_cons_succ, List.getElem?_cons_zero]; rfl)) (fun K hK => ?_) ?_
                · go_simp
                  have hS := hS.set _ (b := dx) (by first | exact at0 | exact at1 | exact at2 | exact at3 | exact at4 | exact at5 | exact at6 | exact at7 | exact at8) 0 (.slice (some ⟨ga, 0, none⟩) (M.length + 1) ca)
                  simp only [List.set_cons_zero, List.set_cons_succ, List.setIfInBounds_toArray] at hS
                  generalize wb.setCell ⟨dx, 0, none⟩ (.slice (some ⟨ga, 0, none⟩) (M.length + 1) ca) = x0 at *
                  clear fs
                  have fs := hS.says; simp only [says, Ck.say] at fs
                  refine hK.out _ _ ?_ ?_
                  · exact (Facts.cons_at (.inl (by kernel_rfl)) (Facts.cons_at (.inl (by kernel_rfl)) (Facts.cons_at (.inl (by kernel_rfl)) Facts.nil_at)))
                  clear hK K
                  try simp only [Act.put, List.setIfInBounds_toArray, List.set_cons_zero, List.set_cons_succ]
                  refine' GoL.take 21 [] ?_ ?_ ?_ ?_ ?_
                  rotate_left 3
                  · (simp only [List.getElem?_toArray, List.getElem?_cons_succ, List.getElem?_cons_zero]; rfl)
                  · exact fun _ _ _ h => h
                  · (refine Or.inl ⟨by first | kernel_rfl | (simp [Region.wanted, yielded]), ?_⟩; intro w hSw; clear hSw; go_simp; first | done | with_reducible rfl)
                  rotate_left 1
                  · kernel_rfl
                  simp only [Act.put, List.setIfInBounds_toArray, List.set_cons_zero, List.set_cons_succ]
                  refine' GoL.take 22 [] ?_ ?_ ?_ ?_ ?_
                  rotate_left 3
                  · (simp only [List.getElem?_toArray, List.getElem?_cons_succ, List.getElem?_cons_zero]; rfl)
                  · exact fun _ _ _ h => h
                  · (refine Or.inl ⟨by first | kernel_rfl | (simp [Region.wanted, yielded]), ?_⟩; intro w hSw; clear hSw; go_simp; first | done | with_reducible rfl)
                  rotate_left 1
                  · kernel_rfl
                  simp only [Act.put, List.setIfInBounds_toArray, List.set_cons_zero, List.set_cons_succ]
                  refine GoL.ready [23] (by kernel_rfl) (by simp) ?_
                  refine GoL.one (by (simp only [List.getElem?_toArray, List.getElem?_cons_succ, List.getElem?_cons_zero]; rfl)) (fun K hK => ?_) ?_
                  · go_simp
                    have hS := hS.set _ (b := dx) (by first | exact at0 | exact at1 | exact at2 | exact at3 | exact at4 | exact at5 | exact at6 | exact at7 | exact at8) 1 (.slice (some ⟨gb, 0, none⟩) (G.length + 1) cb)
                    simp only [List.set_cons_zero, List.set_cons_succ, List.setIfInBounds_toArray] at hS
                    generalize x0.setCell ⟨dx, 1, none⟩ (.slice (some ⟨gb, 0, none⟩) (G.length + 1) cb) = x1 at *
                    clear fs
                    have fs := hS.says; simp only [says, Ck.say] at fs
                    refine hK.out _ _ ?_ ?_
                    · exact (Facts.cons_at (.inl (by kernel_rfl)) (Facts.cons_at (.inl (by kernel_rfl)) (Facts.cons_at (.inl (by kernel_rfl)) Facts.nil_at)))
                    clear hK K
                    try simp only [Act.put, List.setIfInBounds_toArray, List.set_cons_zero, List.set_cons_succ]
                    refine GoL.done (by kernel_rfl) ?_
                    go_wp2_with fail
                    go_ret
                    refine ⟨ga, ca, gb, cb, rfl, ?_⟩
                    have h1 := hS.pull _ (c := (gb, ivCh 3 cb (insL G p 1))) (by first | exact at0 | exact at1 | exact at2 | exact at3 | exact at4 | exact at5 | exact at6 | exact at7 | exact at8)
                    dsimp only [List.eraseIdx] at h1
                    have h2 := h1.pull _ (c := (ga, ivCh 3 ca (insL M p e.node))) (by first | exact at0 | exact at1 | exact at2 | exact at3 | exact at4 | exact at5 | exact at6 | exact at7 | exact at8)
                    dsimp only [List.eraseIdx] at h2
                    have hC : cfC ga ca gb cb ⟨insL M p e.node, insL G p 1, lv, fin⟩ = #[.slice (some ⟨ga, 0, none⟩) (M.length + 1) ca, .slice (some ⟨gb, 0, none⟩) (G.length + 1) cb, .int .i64 lv, .bool fin] := by unfold cfC ivV; simp [insL_length]
                    have h3 := h2.pull _ (c := (dx, .cel #[.slice (some ⟨ga, 0, none⟩) (M.length + 1) ca, .slice (some ⟨gb, 0, none⟩) (G.length + 1) cb, .int .i64 lv, .bool fin] 25)) (by first | exact at0 | exact at1 | exact at2 | exact at3 | exact at4 | exact at5 | exact at6 | exact at7 | exact at8)
                    dsimp only [List.eraseIdx] at h3
                    show Sat _ _ [(dx, .cel (cfC ga ca gb cb ⟨insL M p e.node, insL G p 1, lv, fin⟩) 25), _, _] _
                    rw [hC]
                    exact h3.sub (.cons_cons _ (.cons_cons _ (.cons_cons _ (List.nil_sublist _))))
                  exact AllL.nil
                exact AllL.nil
              exact AllL.nil
            exact AllL.nil
          exact AllL.nil
        refine GoL.one (by (simp only [List.getElem?_toArray, List.getElem?_cons_succ, List.getElem?_cons_zero]; rfl)) (fun K hK => ?_) ?_
        · go_simp
          have hS := hS.alloc (o := (.cells #[.int .i64 1] 3)) (c := .cel #[.int .i64 1] 3) rfl
          generalize w3.alloc (.cells #[.int .i64 1] 3) = wv at *
          generalize w3.heap.size = vv at *
          clear fs
          have fs := hS.says; simp only [says, Ck.say] at fs
          refine hK.out _ _ ?_ ?_
          · exact (Facts.cons_at (.inr (by simp [fs])) (Facts.cons_at (.inr (by simp [fs])) (Facts.cons_at (.inr (by simp [fs])) Facts.nil_at)))
          clear hK K
          try simp only [Act.put, List.setIfInBounds_toArray, List.set_cons_zero, List.set_cons_succ]
          refine GoL.ready [9] (by kernel_rfl) (by simp) ?_
          refine GoL.one (by (simp only [List.getElem?_toArray, List.getElem?_cons_succ, List.getElem?_cons_zero]; rfl)) (fun K hK => ?_) ?_
          · go_simp
            have hS := hS.alloc (o := (.cells #[.int .i64 e.node] 3)) (c := .cel #[.int .i64 e.node] 3) rfl
            generalize wv.alloc (.cells #[.int .i64 e.node] 3) = wu at *
            generalize wv.heap.size = vu at *
            clear fs
            have fs := hS.says; simp only [says, Ck.say] at fs
            refine hK.out _ _ ?_ ?_
            · exact (Facts.cons_at (.inr (by simp [fs])) (Facts.cons_at (.inl (by kernel_rfl)) (Facts.cons_at (.inr (by simp [fs])) Facts.nil_at)))
            clear hK K
            try simp only [Act.put, List.setIfInBounds_toArray, List.set_cons_zero, List.set_cons_succ]
            refine GoL.ready [10] (by kernel_rfl) (by simp) ?_
            refine GoL.one (by (simp only [List.getElem?_toArray, List.getElem?_cons_succ, List.getElem?_cons_zero]; rfl)) (fun K hK => ?_) ?_
            · go_simp
              refine cInsert hS _ _ (l := M) (by first | exact at0 | exact at1 | exact at2 | exact at3 | exact at4 | exact at5 | exact at6 | exact at7 | exact at8) (by first | exact at0 | exact at1 | exact at2 | exact at3 | exact at4 | exact at5 | exact at6 | exact at7 | exact at8) (by decide) (by have := HLen.out; omega) (by have := HLen.out; omega) (by first | rfl | exact HLen.out.symm) ?_
              rintro ⟨ga, ca⟩ wa hS
              clear fs
              dsimp only [List.eraseIdx] at hS
              have fs := hS.says; simp only [says, Ck.say] at fs
              refine hK.out _ _ ?_ ?_
              · exact (Facts.cons_at (.inl (by kernel_rfl)) (Facts.cons_at (.inl (by kernel_rfl)) (Facts.cons_at (.inr (by simp [fs])) Facts.nil_at)))
              clear hK K
              try simp only [Act.put, List.setIfInBounds_toArray, List.set_cons_zero, List.set_cons_succ]
              refine GoL.ready [17] (by kernel_rfl) (by simp) ?_
              refine GoL.one (by (simp only [List.getElem?_toArray, List.getElem?_cons_succ, List.getElem?_cons_zero]; rfl)) (fun K hK => ?_) ?_
              · go_simp
                refine cInsert hS _ _ (l := G) (by first | exact at0 | exact at1 | exact at2 | exact at3 | exact at4 | exact at5 | exact at6 | exact at7 | exact at8) (by first | exact at0 | exact at1 | exact at2 | exact at3 | exact at4 | exact at5 | exact at6 | exact at7 | exact at8) (by decide) (by have := HLen.out; omega) (by have := HLen.out; omega) (by first | rfl | exact HLen.out.symm) ?_
                rintro ⟨gb, cb⟩ wb hS
                clear fs
                dsimp only [List.eraseIdx] at hS
                have fs := hS.says; simp only [says, Ck.say] at fs
                refine hK.out _ _ ?_ ?_
                · exact (Facts.cons_at (.inl (by kernel_rfl)) (Facts.cons_at (.inl (by kernel_rfl)) (Facts.cons_at (.inl (by kernel_rfl)) Facts.nil_at)))
                clear hK K
                try simp only [Act.put, List.setIfInBounds_toArray, List.set_cons_zero, List.set_cons_succ]
                refine' GoL.take 18 [] ?_ ?_ ?_ ?_ ?_
                rotate_left 3
                · (simp only [List.getElem?_toArray, List.getElem?_cons_succ, List.getElem?_cons_zero]; rfl)
                · exact fun _ _ _ h => h
                · (refine Or.inl ⟨by first | kernel_rfl | (simp [Region.wanted, yielded]), ?_⟩; intro w hSw; clear hSw; go_simp; first | done | with_reducible rfl)
                rotate_left 1
                · kernel_rfl
                simp only [Act.put, List.setIfInBounds_toArray, List.set_cons_zero, List.set_cons_succ]
                refine' GoL.take 19 [] ?_ ?_ ?_ ?_ ?_
                rotate_left 3
                · (simp only [List.getElem?_toArray, List.getElem?_cons_succ, List.getElem?_cons_zero]; rfl)
                · exact fun _ _ _ h => h
                · (refine Or.inl ⟨by first | kernel_rfl | (simp [Region.wanted, yielded]), ?_⟩; intro w hSw; clear hSw; go_simp; first | done | with_reducible rfl)
                rotate_left 1
                · kernel_rfl
                simp only [Act.put, List.setIfInBounds_toArray, List.set_cons_zero, List.set_cons_succ]
                refine GoL.ready [20] (by kernel_rfl) (by simp) ?_
                refine GoL.one (by (simp only [List.getElem?_toArray, List.getElem?_cons_succ, List.getElem?_cons_zero]; rfl)) (fun K hK => ?_) ?_
                · go_simp
                  have hS := hS.set _ (b := dx) (by first | exact at0 | exact at1 | exact at2 | exact at3 | exact at4 | exact at5 | exact at6 | exact at7 | exact at8) 0 (.slice (some ⟨ga, 0, none⟩) (M.length + 1) ca)
                  simp only [List.set_cons_zero, List.set_cons_succ, List.setIfInBounds_toArray] at hS
                  generalize wb.setCell ⟨dx, 0, none⟩ (.slice (some ⟨ga, 0, none⟩) (M.length + 1) ca) = x0 at *
                  clear fs
                  have fs := hS.says; simp only [says, Ck.say] at fs
                  refine hK.out _ _ ?_ ?_
                  · exact (Facts.cons_at (.inl (by kernel_rfl)) (Facts.cons_at (.inl (by kernel_rfl)) (Facts.cons_at (.inl (by kernel_rfl)) Facts.nil_at)))
                  clear hK K
                  try simp only [Act.put, List.setIfInBounds_toArray, List.set_cons_zero, List.set_cons_succ]
                  refine' GoL.take 21 [] ?_ ?_ ?_ ?_ ?_
                  rotate_left 3
                  · (simp only [List.getElem?_toArray, List.getElem?_cons_succ, List.getElem?_cons_zero]; rfl)
                  · exact fun _ _ _ h => h
                  · (refine Or.inl ⟨by first | kernel_rfl | (simp [Region.wanted, yielded]), ?_⟩; intro w hSw; clear hSw; go_simp; first | done | with_reducible rfl)
                  rotate_left 1
                  · kernel_rfl
                  simp only [Act.put, List.setIfInBounds_toArray, List.set_cons_zero, List.set_cons_succ]
                  refine' GoL.take 22 [] ?_ ?_ ?_ ?_ ?_
                  rotate_left 3
                  · (simp only [List.getElem?_toArray, List.getElem?_cons_succ, List.getElem?_cons_zero]; rfl)
                  · exact fun _ _ _ h => h
                  · (refine Or.inl ⟨by first | kernel_rfl | (simp [Region.wanted, yielded]), ?_⟩; intro w hSw; clear hSw; go_simp; first | done | with_reducible rfl)
                  rotate_left 1
                  · kernel_rfl
                  simp only [Act.put, List.setIfInBounds_toArray, List.set_cons_zero, List.set_cons_succ]
                  refine GoL.ready [23] (by kernel_rfl) (by simp) ?_
                  refine GoL.one (by (simp only [List.getElem?_toArray, List.getElem?_cons_succ, List.getElem?_cons_zero]; rfl)) (fun K hK => ?_) ?_
                  · go_simp
                    have hS := hS.set _ (b := dx) (by first | exact at0 | exact at1 | exact at2 | exact at3 | exact at4 | exact at5 | exact at6 | exact at7 | exact at8) 1 (.slice (some ⟨gb, 0, none⟩) (G.length + 1) cb)
                    simp only [List.set_cons_zero, List.set_cons_succ, List.setIfInBounds_toArray] at hS
                    generalize x0.setCell ⟨dx, 1, none⟩ (.slice (some ⟨gb, 0, none⟩) (G.length + 1) cb) = x1 at *
                    clear fs
                    have fs := hS.says; simp only [says, Ck.say] at fs
                    refine hK.out _ _ ?_ ?_
                    · exact (Facts.cons_at (.inl (by kernel_rfl)) (Facts.cons_at (.inl (by kernel_rfl)) (Facts.cons_at (.inl (by kernel_rfl)) Facts.nil_at)))
                    clear hK K
                    try simp only [Act.put, List.setIfInBounds_toArray, List.set_cons_zero, List.set_cons_succ]
                    refine GoL.done (by kernel_rfl) ?_
                    go_wp2_with fail
                    go_ret
                    refine ⟨ga, ca, gb, cb, rfl, ?_⟩
                    have h1 := hS.pull _ (c := (gb, ivCh 3 cb (insL G p 1))) (by first | exact at0 | exact at1 | exact at2 | exact at3 | exact at4 | exact at5 | exact at6 | exact at7 | exact at8)
                    dsimp only [List.eraseIdx] at h1
                    have h2 := h1.pull _ (c := (ga, ivCh 3 ca (insL M p e.node))) (by first | exact at0 | exact at1 | exact at2 | exact at3 | exact at4 | exact at5 | exact at6 | exact at7 | exact at8)
                    dsimp only [List.eraseIdx] at h2
                    have hC : cfC ga ca gb cb ⟨insL M p e.node, insL G p 1, lv, fin⟩ = #[.slice (some ⟨ga, 0, none⟩) (M.length + 1) ca, .slice (some ⟨gb, 0, none⟩) (G.length + 1) cb, .int .i64 lv, .bool fin] := by unfold cfC ivV; simp [insL_length]
                    have h3 := h2.pull _ (c := (dx, .cel #[.slice (some ⟨ga, 0, none⟩) (M.length + 1) ca, .slice (some ⟨gb, 0, none⟩) (G.length + 1) cb, .int .i64 lv, .bool fin] 25)) (by first | exact at0 | exact at1 | exact at2 | exact at3 | exact at4 | exact at5 | exact at6 | exact at7 | exact at8)
                    dsimp only [List.eraseIdx] at h3
                    show Sat _ _ [(dx, .cel (cfC ga ca gb cb ⟨insL M p e.node, insL G p 1, lv, fin⟩) 25), _, _] _
                    rw [hC]
                    exact h3.sub (.cons_cons _ (.cons_cons _ (.cons_cons _ (List.nil_sublist _))))
                  exact AllL.nil
                exact AllL.nil
              exact AllL.nil
            exact AllL.nil
          exact AllL.nil
        exact AllL.nil
end Go.Proofs.YtnnpjjehecbljaaDoor
