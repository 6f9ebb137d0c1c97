/-
  Texts of this seat, joined: LAdd LSeq LSort LSrt LOp3 LHas.
-/
import Derived.Test.YtnnpjjehecbljaaGreatDoorV03
import Derived.RangeFuncNested
import Derived.RangeFuncBound
import Derived.RangeFuncCalls
import Derived.RangeFuncLeaves
import Derived.RangeFuncBox
import Derived.Shelf.Abstract
import Derived.Shelf.RegionOpen
import Derived.WalkKit
import Derived.OwnWalkIn
import Derived.TacticsInMore
import Derived.LoopNIn
import Derived.LoopIn
import Derived.Maps.AppendAt
import Derived.KernelRfl
import Derived.Lib.SlicesCompact
import Derived.Test.YtnnpjjehecbljaaGreatDoorV01
import Derived.Lib.SlKeysI
set_option linter.unusedSimpArgs false
set_option linter.unusedVariables false
namespace Go.Proofs.YtnnpjjehecbljaaGreatDoor
open List renaming getElem?_toArray → lg0, getElem?_cons_succ → lg1, getElem?_cons_zero → lg2, setIfInBounds_toArray → lt0', set_cons_zero → lt1', set_cons_succ → lt2'
open Go.RowKit

/-- A config of its own, behind a pointer. -/
def cfH (dx gm cm gh ch : Nat) (c : Cfg) : List Ck := [(dx, .cel (cfC gm cm gh ch c) 30), (gm, ivCh 3 cm c.M), (gh, ivCh 3 ch c.G)]
/-- What a change of a config answers. -/
def Told4 (dx gm gh : Nat) (w : World) (a : Cfg × Int) (r : Ending) (w' : World) : Prop :=
  ∃ gm' cm' gh' ch', r = .returned (.int .i64 a.2) ∧ Sat [dx, gm, gh] w (cfH dx gm' cm' gh' ch' a.1) w'

set_option maxHeartbeats 4000000 in
set_option maxRecDepth 100000 in
theorem lAdd (dx gm cm gh ch : Nat) (c : Cfg) (e : Ent) (w : World) (h : Sat [dx, gm, gh] w (cfH dx gm cm gh ch c) w) (hs : c.M.Pairwise (· ≤ ·)) (hlen : c.G.length = c.M.length) (h4 : c.M.length ≤ 4096) :
    Calls Tryz.prog 26 #[.pointer (some ⟨dx, 0, none⟩), .agg e.cells] w fun r w' => Told4 dx gm gh w (addOf c e.node) r w' := by
  have hS := h.alloc (o := .cells e.cells 24) (c := .cel e.cells 24) rfl
  have HH := Lib.hid h
  clear h
  have HP : posL c.M e.node ≤ c.M.length := List.countP_le_length
  have HB := Lib.hid (fun (g cap : Nat) (w : World) (h : Ck.in (g, ivCh 3 cap c.M) w) => sBin g cap c.M e.node w (Iv.ck.2 h) hs h4 _ rfl)
  unfold Ent.cells at *
  unfold cfH cfC ivV at *
  unfold addOf
  obtain ⟨M, G, lv, fin⟩ := c
  simp only at *
  generalize hp : posL M e.node = p at *
  generalize hcn : M.contains e.node = cn at *
  clear hp hcn hs
  generalize hw1 : w.alloc (.cells #[.int .u64 e.term, .int .u64 e.index, .int .i64 e.kind, .int .u64 e.client, .int .u64 e.seq, .int .u64 e.block, .int .u64 e.many, .int .i64 e.node, .int .i64 e.level, .string e.data, .string e.old] 24) = w1 at *
  have HW1 := Lib.hid hw1
  clear hw1
  generalize hex : w.heap.size = ex at *
  have HEX := Lib.hid hex
  clear hex
  have HLen := Lib.hid hlen
  clear hlen
  have fs := hS.says
  simp only [says, Ck.say] at fs
  go_enter Tryz.func26, Tryz.ntmps26
  go_upto_region 1 with fail
  rw [HW1.out, HEX.out]
  go_region_with (go_at_call 54; refine Sat.callF hS.drew (HB.out _ _ _ (hS.drew.mem 2 rfl)) (fun w2 hS => ?_); clear fs; have fs := hS.says; simp only [says, Ck.say] at fs)
  all_goals
    cases cn with
    | true =>
      go_wp2_with fail
      go_ret
      exact ⟨gm, cm, gh, ch, rfl, hS.sub (List.sublist_cons_self _ _)⟩
    | false =>
      by_cases h1 : lv = 2
      · subst h1
        go_wp2_with fail
        go_ret
        exact ⟨gm, cm, gh, ch, rfl, hS.sub (List.sublist_cons_self _ _)⟩
      · go_upto_region 6 with fail
        rw [HLen.out] at hS
        clear fs
        have fs := hS.says
        simp only [says, Ck.say] at fs
        refine GoL.begin [(some 10, fun w => w.cell? ⟨dx, 0, none⟩ = some (.slice (some ⟨gm, 0, none⟩) M.length cm)), (some 9, fun w => w.cell? ⟨ex, 7, none⟩ = some (.int .i64 e.node)), (some 17, fun w => w.cell? ⟨dx, 1, none⟩ = some (.slice (some ⟨gh, 0, none⟩) M.length ch))] (by kernel_rfl) ?_ ?_
        · exact (Facts.cons_at (.inr (by simp [fs])) (Facts.cons_at (.inr (by simp [fs])) (Facts.cons_at (.inr (by simp [fs])) Facts.nil_at)))
        have hS := hS.drew
        generalize w2.drew = w3 at *
        clear fs
        have fs := hS.says; simp only [says, Ck.say] at fs
        refine' GoL.take 0 [] ?_ ?_ ?_ ?_ ?_
        rotate_left 3
        · (simp only [lg0, lg1, lg2]; rfl)
        · exact fun _ _ _ h => h
        · (refine Or.inl ⟨by first | kernel_rfl | (simp [Region.wanted, yielded]), ?_⟩; intro w hSw; clear hSw; go_simp; first | done | with_reducible rfl)
        rotate_left 1
        · kernel_rfl
        simp only [Act.put, lt0', lt1', lt2']
        refine' GoL.take 1 [] ?_ ?_ ?_ ?_ ?_
        rotate_left 3
        · (simp only [lg0, lg1, lg2]; rfl)
        · exact fun _ _ _ h => h
        · (refine Or.inl ⟨by first | kernel_rfl | (simp [Region.wanted, yielded]), ?_⟩; intro w hSw; clear hSw; go_simp; first | done | with_reducible rfl)
        rotate_left 1
        · kernel_rfl
        simp only [Act.put, lt0', lt1', lt2']
        refine' GoL.take 2 [] ?_ ?_ ?_ ?_ ?_
        rotate_left 3
        · (simp only [lg0, lg1, lg2]; rfl)
        · exact fun _ _ _ h => h
        · (refine Or.inl ⟨by first | kernel_rfl | (simp [Region.wanted, yielded]), ?_⟩; intro w hSw; clear hSw; go_simp; first | done | with_reducible rfl)
        rotate_left 1
        · kernel_rfl
        simp only [Act.put, lt0', lt1', lt2']
        refine' GoL.take 3 [] ?_ ?_ ?_ ?_ ?_
        rotate_left 3
        · (simp only [lg0, lg1, lg2]; rfl)
        · exact fun _ _ _ h => h
        · (refine Or.inl ⟨by first | kernel_rfl | (simp [Region.wanted, yielded]), ?_⟩; intro w hSw; clear hSw; go_simp; first | done | with_reducible rfl)
        rotate_left 1
        · kernel_rfl
        simp only [Act.put, lt0', lt1', lt2']
        refine' GoL.take 4 [] ?_ ?_ ?_ ?_ ?_
        rotate_left 3
        · (simp only [lg0, lg1, lg2]; rfl)
        · exact fun _ _ _ h => h
        · (refine Or.inl ⟨by first | kernel_rfl | (simp [Region.wanted, yielded]), ?_⟩; intro w hSw; clear hSw; go_simp; first | done | with_reducible rfl)
        rotate_left 1
        · kernel_rfl
        simp only [Act.put, lt0', lt1', lt2']
        refine' GoL.take 5 [10] ?_ ?_ ?_ ?_ ?_
        rotate_left 3
        · (simp only [lg0, lg1, lg2]; rfl)
        · exact fun _ _ _ h => h
        · (refine Or.inl ⟨by first | kernel_rfl | (simp [Region.wanted, yielded]), ?_⟩; intro w hSw; have f0 := Facts.get hSw 0 rfl (by decide); (try dsimp only at f0); clear hSw; go_simp; first | done | with_reducible rfl)
        rotate_left 1
        · kernel_rfl
        simp only [Act.put, lt0', lt1', lt2']
        refine' GoL.take 6 [] ?_ ?_ ?_ ?_ ?_
        rotate_left 3
        · (simp only [lg0, lg1, lg2]; rfl)
        · exact fun _ _ _ h => h
        · (refine Or.inl ⟨by first | kernel_rfl | (simp [Region.wanted, yielded]), ?_⟩; intro w hSw; clear hSw; go_simp; first | done | with_reducible rfl)
        rotate_left 1
        · kernel_rfl
        simp only [Act.put, lt0', lt1', lt2']
        refine' GoL.take 7 [] ?_ ?_ ?_ ?_ ?_
        rotate_left 3
        · (simp only [lg0, lg1, lg2]; rfl)
        · exact fun _ _ _ h => h
        · (refine Or.inl ⟨by first | kernel_rfl | (simp [Region.wanted, yielded]), ?_⟩; intro w hSw; clear hSw; go_simp; first | done | with_reducible rfl)
        rotate_left 1
        · kernel_rfl
        simp only [Act.put, lt0', lt1', lt2']
        refine' GoL.take 8 [9] ?_ ?_ ?_ ?_ ?_
        rotate_left 3
        · (simp only [lg0, lg1, lg2]; rfl)
        · exact fun _ _ _ h => h
        · (refine Or.inl ⟨by first | kernel_rfl | (simp [Region.wanted, yielded]), ?_⟩; intro w hSw; have f1 := Facts.get hSw 1 rfl (by decide); (try dsimp only at f1); clear hSw; go_simp; first | done | with_reducible rfl)
        rotate_left 1
        · kernel_rfl
        simp only [Act.put, lt0', lt1', lt2']
        refine' GoL.take 11 [] ?_ ?_ ?_ ?_ ?_
        rotate_left 3
        · (simp only [lg0, lg1, lg2]; rfl)
        · exact fun _ _ _ h => h
        · (refine Or.inl ⟨by first | kernel_rfl | (simp [Region.wanted, yielded]), ?_⟩; intro w hSw; clear hSw; go_simp; first | done | with_reducible rfl)
        rotate_left 1
        · kernel_rfl
        simp only [Act.put, lt0', lt1', lt2']
        refine' GoL.take 12 [] ?_ ?_ ?_ ?_ ?_
        rotate_left 3
        · (simp only [lg0, lg1, lg2]; rfl)
        · exact fun _ _ _ h => h
        · (refine Or.inl ⟨by first | kernel_rfl | (simp [Region.wanted, yielded]), ?_⟩; intro w hSw; clear hSw; go_simp; first | done | with_reducible rfl)
        rotate_left 1
        · kernel_rfl
        simp only [Act.put, lt0', lt1', lt2']
        refine' GoL.take 13 [] ?_ ?_ ?_ ?_ ?_
        rotate_left 3
        · (simp only [lg0, lg1, lg2]; rfl)
        · exact fun _ _ _ h => h
        · (refine Or.inl ⟨by first | kernel_rfl | (simp [Region.wanted, yielded]), ?_⟩; intro w hSw; clear hSw; go_simp; first | done | with_reducible rfl)
        rotate_left 1
        · kernel_rfl
        simp only [Act.put, lt0', lt1', lt2']
        refine' GoL.take 14 [17] ?_ ?_ ?_ ?_ ?_
        rotate_left 3
        · (simp only [lg0, lg1, lg2]; rfl)
        · exact fun _ _ _ h => h
        · (refine Or.inl ⟨by first | kernel_rfl | (simp [Region.wanted, yielded]), ?_⟩; intro w hSw; have f2 := Facts.get hSw 2 rfl (by decide); (try dsimp only at f2); clear hSw; go_simp; first | done | with_reducible rfl)
        rotate_left 1
        · kernel_rfl
        simp only [Act.put, lt0', lt1', lt2']
        refine' GoL.take 15 [] ?_ ?_ ?_ ?_ ?_
        rotate_left 3
        · (simp only [lg0, lg1, lg2]; rfl)
        · exact fun _ _ _ h => h
        · (refine Or.inl ⟨by first | kernel_rfl | (simp [Region.wanted, yielded]), ?_⟩; intro w hSw; clear hSw; go_simp; first | done | with_reducible rfl)
        rotate_left 1
        · kernel_rfl
        simp only [Act.put, lt0', lt1', lt2']
        refine GoL.ready [9, 16] (by kernel_rfl) (by simp) ?_
        refine GoL.one (by (simp only [lg0, lg1, lg2]; rfl)) (fun K hK => ?_) ?_
        · go_simp
          have hS := hS.alloc (o := (.cells #[.int .i64 e.node] 3)) (c := .cel #[.int .i64 e.node] 3) rfl
          generalize w3.alloc (.cells #[.int .i64 e.node] 3) = wu at *
          generalize w3.heap.size = vu at *
          clear fs
          have fs := hS.says; simp only [says, Ck.say] at fs
          refine hK.out _ _ ?_ ?_
          · exact (Facts.cons_at (.inr (by simp [fs])) (Facts.cons_at (.inl (by kernel_rfl)) (Facts.cons_at (.inr (by simp [fs])) Facts.nil_at)))
          clear hK K
          try simp only [Act.put, lt0', lt1', lt2']
          refine GoL.ready [10, 16] (by kernel_rfl) (by simp) ?_
          refine GoL.one (by (simp only [lg0, lg1, lg2]; rfl)) (fun K hK => ?_) ?_
          · go_simp
            refine cInsert hS _ _ (l := M) (by first | exact at0 | exact at1 | exact at2 | exact at3 | exact at4 | exact at5 | exact at6 | exact at7 | exact at8) (by first | exact at0 | exact at1 | exact at2 | exact at3 | exact at4 | exact at5 | exact at6 | exact at7 | exact at8) (by decide) (by have := HLen.out; omega) (by have := HLen.out; omega) (by first | rfl | exact HLen.out.symm) ?_
            rintro ⟨ga, ca⟩ wa hS
            clear fs
            dsimp only [List.eraseIdx] at hS
            have fs := hS.says; simp only [says, Ck.say] at fs
            refine hK.out _ _ ?_ ?_
            · exact (Facts.cons_at (.inl (by kernel_rfl)) (Facts.cons_at (.inl (by kernel_rfl)) (Facts.cons_at (.inr (by simp [fs])) Facts.nil_at)))
            clear hK K
            try simp only [Act.put, lt0', lt1', lt2']
            refine GoL.ready [16] (by kernel_rfl) (by simp) ?_
            refine GoL.one (by (simp only [lg0, lg1, lg2]; rfl)) (fun K hK => ?_) ?_
            · go_simp
              have hS := hS.alloc (o := (.cells #[.int .i64 1] 3)) (c := .cel #[.int .i64 1] 3) rfl
              generalize wa.alloc (.cells #[.int .i64 1] 3) = wv at *
              generalize wa.heap.size = vv at *
              clear fs
              have fs := hS.says; simp only [says, Ck.say] at fs
              refine hK.out _ _ ?_ ?_
              · exact (Facts.cons_at (.inl (by kernel_rfl)) (Facts.cons_at (.inl (by kernel_rfl)) (Facts.cons_at (.inr (by simp [fs])) Facts.nil_at)))
              clear hK K
              try simp only [Act.put, lt0', lt1', lt2']
              refine GoL.ready [17] (by kernel_rfl) (by simp) ?_
              refine GoL.one (by (simp only [lg0, lg1, lg2]; rfl)) (fun K hK => ?_) ?_
              · go_simp
                refine cInsert hS _ _ (l := G) (by first | exact at0 | exact at1 | exact at2 | exact at3 | exact at4 | exact at5 | exact at6 | exact at7 | exact at8) (by first | exact at0 | exact at1 | exact at2 | exact at3 | exact at4 | exact at5 | exact at6 | exact at7 | exact at8) (by decide) (by have := HLen.out; omega) (by have := HLen.out; omega) (by first | rfl | exact HLen.out.symm) ?_
                rintro ⟨gb, cb⟩ wb hS
                clear fs
                dsimp only [List.eraseIdx] at hS
                have fs := hS.says; simp only [says, Ck.say] at fs
                refine hK.out _ _ ?_ ?_
                · exact (Facts.cons_at (.inl (by kernel_rfl)) (Facts.cons_at (.inl (by kernel_rfl)) (Facts.cons_at (.inl (by kernel_rfl)) Facts.nil_at)))
                clear hK K
                try simp only [Act.put, lt0', lt1', lt2']
                refine' GoL.take 18 [] ?_ ?_ ?_ ?_ ?_
                rotate_left 3
                · (simp only [lg0, lg1, lg2]; rfl)
                · exact fun _ _ _ h => h
                · (refine Or.inl ⟨by first | kernel_rfl | (simp [Region.wanted, yielded]), ?_⟩; intro w hSw; clear hSw; go_simp; first | done | with_reducible rfl)
                rotate_left 1
                · kernel_rfl
                simp only [Act.put, lt0', lt1', lt2']
                refine' GoL.take 19 [] ?_ ?_ ?_ ?_ ?_
                rotate_left 3
                · (simp only [lg0, lg1, lg2]; rfl)
                · exact fun _ _ _ h => h
                · (refine Or.inl ⟨by first | kernel_rfl | (simp [Region.wanted, yielded]), ?_⟩; intro w hSw; clear hSw; go_simp; first | done | with_reducible rfl)
                rotate_left 1
                · kernel_rfl
                simp only [Act.put, lt0', lt1', lt2']
                refine GoL.ready [20] (by kernel_rfl) (by simp) ?_
                refine GoL.one (by (simp only [lg0, lg1, lg2]; rfl)) (fun K hK => ?_) ?_
                · go_simp
                  have hS := hS.set _ (b := dx) (by first | exact at0 | exact at1 | exact at2 | exact at3 | exact at4 | exact at5 | exact at6 | exact at7 | exact at8) 0 (.slice (some ⟨ga, 0, none⟩) (M.length + 1) ca)
                  simp only [List.set_cons_zero, List.set_cons_succ, List.setIfInBounds_toArray] at hS
                  generalize wb.setCell ⟨dx, 0, none⟩ (.slice (some ⟨ga, 0, none⟩) (M.length + 1) ca) = x0 at *
                  clear fs
                  have fs := hS.says; simp only [says, Ck.say] at fs
                  refine hK.out _ _ ?_ ?_
                  · exact (Facts.cons_at (.inl (by kernel_rfl)) (Facts.cons_at (.inl (by kernel_rfl)) (Facts.cons_at (.inl (by kernel_rfl)) Facts.nil_at)))
                  clear hK K
                  try simp only [Act.put, lt0', lt1', lt2']
                  refine' GoL.take 21 [] ?_ ?_ ?_ ?_ ?_
                  rotate_left 3
                  · (simp only [lg0, lg1, lg2]; rfl)
                  · exact fun _ _ _ h => h
                  · (refine Or.inl ⟨by first | kernel_rfl | (simp [Region.wanted, yielded]), ?_⟩; intro w hSw; clear hSw; go_simp; first | done | with_reducible rfl)
                  rotate_left 1
                  · kernel_rfl
                  simp only [Act.put, lt0', lt1', lt2']
                  refine' GoL.take 22 [] ?_ ?_ ?_ ?_ ?_
                  rotate_left 3
                  · (simp only [lg0, lg1, lg2]; rfl)
                  · exact fun _ _ _ h => h
                  · (refine Or.inl ⟨by first | kernel_rfl | (simp [Region.wanted, yielded]), ?_⟩; intro w hSw; clear hSw; go_simp; first | done | with_reducible rfl)
                  rotate_left 1
                  · kernel_rfl
                  simp only [Act.put, lt0', lt1', lt2']
                  refine GoL.ready [23] (by kernel_rfl) (by simp) ?_
                  refine GoL.one (by (simp only [lg0, lg1, lg2]; rfl)) (fun K hK => ?_) ?_
                  · go_simp
                    have hS := hS.set _ (b := dx) (by first | exact at0 | exact at1 | exact at2 | exact at3 | exact at4 | exact at5 | exact at6 | exact at7 | exact at8) 1 (.slice (some ⟨gb, 0, none⟩) (G.length + 1) cb)
                    simp only [List.set_cons_zero, List.set_cons_succ, List.setIfInBounds_toArray] at hS
                    generalize x0.setCell ⟨dx, 1, none⟩ (.slice (some ⟨gb, 0, none⟩) (G.length + 1) cb) = x1 at *
                    clear fs
                    have fs := hS.says; simp only [says, Ck.say] at fs
                    refine hK.out _ _ ?_ ?_
                    · exact (Facts.cons_at (.inl (by kernel_rfl)) (Facts.cons_at (.inl (by kernel_rfl)) (Facts.cons_at (.inl (by kernel_rfl)) Facts.nil_at)))
                    clear hK K
                    try simp only [Act.put, lt0', lt1', lt2']
                    refine GoL.done (by kernel_rfl) ?_
                    go_wp2_with fail
                    go_ret
                    refine ⟨ga, ca, gb, cb, rfl, ?_⟩
                    have h1 := hS.pull _ (c := (gb, ivCh 3 cb (insL G p 1))) (by first | exact at0 | exact at1 | exact at2 | exact at3 | exact at4 | exact at5 | exact at6 | exact at7 | exact at8)
                    dsimp only [List.eraseIdx] at h1
                    have h2 := h1.pull _ (c := (ga, ivCh 3 ca (insL M p e.node))) (by first | exact at0 | exact at1 | exact at2 | exact at3 | exact at4 | exact at5 | exact at6 | exact at7 | exact at8)
                    dsimp only [List.eraseIdx] at h2
                    have hC : cfC ga ca gb cb ⟨insL M p e.node, insL G p 1, lv, fin⟩ = #[.slice (some ⟨ga, 0, none⟩) (M.length + 1) ca, .slice (some ⟨gb, 0, none⟩) (G.length + 1) cb, .int .i64 lv, .bool fin] := by unfold cfC ivV; simp [insL_length]
                    have h3 := h2.pull _ (c := (dx, .cel #[.slice (some ⟨ga, 0, none⟩) (M.length + 1) ca, .slice (some ⟨gb, 0, none⟩) (G.length + 1) cb, .int .i64 lv, .bool fin] 30)) (by first | exact at0 | exact at1 | exact at2 | exact at3 | exact at4 | exact at5 | exact at6 | exact at7 | exact at8)
                    dsimp only [List.eraseIdx] at h3
                    show Sat _ _ [(dx, .cel (cfC ga ca gb cb ⟨insL M p e.node, insL G p 1, lv, fin⟩) 30), _, _] _
                    rw [hC]
                    exact h3.sub (.cons_cons _ (.cons_cons _ (.cons_cons _ (List.nil_sublist _))))
                  exact AllL.nil
                exact AllL.nil
              exact AllL.nil
            exact AllL.nil
          refine GoL.one (by (simp only [lg0, lg1, lg2]; rfl)) (fun K hK => ?_) ?_
          · go_simp
            have hS := hS.alloc (o := (.cells #[.int .i64 1] 3)) (c := .cel #[.int .i64 1] 3) rfl
            generalize wu.alloc (.cells #[.int .i64 1] 3) = wv at *
            generalize wu.heap.size = vv at *
            clear fs
            have fs := hS.says; simp only [says, Ck.say] at fs
            refine hK.out _ _ ?_ ?_
            · exact (Facts.cons_at (.inr (by simp [fs])) (Facts.cons_at (.inl (by kernel_rfl)) (Facts.cons_at (.inr (by simp [fs])) Facts.nil_at)))
            clear hK K
            try simp only [Act.put, lt0', lt1', lt2']
            refine GoL.ready [10] (by kernel_rfl) (by simp) ?_
            refine GoL.one (by (simp only [lg0, lg1, lg2]; rfl)) (fun K hK => ?_) ?_
            · go_simp
              refine cInsert hS _ _ (l := M) (by first | exact at0 | exact at1 | exact at2 | exact at3 | exact at4 | exact at5 | exact at6 | exact at7 | exact at8) (by first | exact at0 | exact at1 | exact at2 | exact at3 | exact at4 | exact at5 | exact at6 | exact at7 | exact at8) (by decide) (by have := HLen.out; omega) (by have := HLen.out; omega) (by first | rfl | exact HLen.out.symm) ?_
              rintro ⟨ga, ca⟩ wa hS
              clear fs
              dsimp only [List.eraseIdx] at hS
              have fs := hS.says; simp only [says, Ck.say] at fs
              refine hK.out _ _ ?_ ?_
              · exact (Facts.cons_at (.inl (by kernel_rfl)) (Facts.cons_at (.inl (by kernel_rfl)) (Facts.cons_at (.inr (by simp [fs])) Facts.nil_at)))
              clear hK K
              try simp only [Act.put, lt0', lt1', lt2']
              refine GoL.ready [17] (by kernel_rfl) (by simp) ?_
              refine GoL.one (by (simp only [lg0, lg1, lg2]; rfl)) (fun K hK => ?_) ?_
              · go_simp
                refine cInsert hS _ _ (l := G) (by first | exact at0 | exact at1 | exact at2 | exact at3 | exact at4 | exact at5 | exact at6 | exact at7 | exact at8) (by first | exact at0 | exact at1 | exact at2 | exact at3 | exact at4 | exact at5 | exact at6 | exact at7 | exact at8) (by decide) (by have := HLen.out; omega) (by have := HLen.out; omega) (by first | rfl | exact HLen.out.symm) ?_
                rintro ⟨gb, cb⟩ wb hS
                clear fs
                dsimp only [List.eraseIdx] at hS
                have fs := hS.says; simp only [says, Ck.say] at fs
                refine hK.out _ _ ?_ ?_
                · exact (Facts.cons_at (.inl (by kernel_rfl)) (Facts.cons_at (.inl (by kernel_rfl)) (Facts.cons_at (.inl (by kernel_rfl)) Facts.nil_at)))
                clear hK K
                try simp only [Act.put, lt0', lt1', lt2']
                refine' GoL.take 18 [] ?_ ?_ ?_ ?_ ?_
                rotate_left 3
                · (simp only [lg0, lg1, lg2]; rfl)
                · exact fun _ _ _ h => h
                · (refine Or.inl ⟨by first | kernel_rfl | (simp [Region.wanted, yielded]), ?_⟩; intro w hSw; clear hSw; go_simp; first | done | with_reducible rfl)
                rotate_left 1
                · kernel_rfl
                simp only [Act.put, lt0', lt1', lt2']
                refine' GoL.take 19 [] ?_ ?_ ?_ ?_ ?_
                rotate_left 3
                · (simp only [lg0, lg1, lg2]; rfl)
                · exact fun _ _ _ h => h
                · (refine Or.inl ⟨by first | kernel_rfl | (simp [Region.wanted, yielded]), ?_⟩; intro w hSw; clear hSw; go_simp; first | done | with_reducible rfl)
                rotate_left 1
                · kernel_rfl
                simp only [Act.put, lt0', lt1', lt2']
                refine GoL.ready [20] (by kernel_rfl) (by simp) ?_
                refine GoL.one (by (simp only [lg0, lg1, lg2]; rfl)) (fun K hK => ?_) ?_
                · go_simp
                  have hS := hS.set _ (b := dx) (by first | exact at0 | exact at1 | exact at2 | exact at3 | exact at4 | exact at5 | exact at6 | exact at7 | exact at8) 0 (.slice (some ⟨ga, 0, none⟩) (M.length + 1) ca)
                  simp only [List.set_cons_zero, List.set_cons_succ, List.setIfInBounds_toArray] at hS
                  generalize wb.setCell ⟨dx, 0, none⟩ (.slice (some ⟨ga, 0, none⟩) (M.length + 1) ca) = x0 at *
                  clear fs
                  have fs := hS.says; simp only [says, Ck.say] at fs
                  refine hK.out _ _ ?_ ?_
                  · exact (Facts.cons_at (.inl (by kernel_rfl)) (Facts.cons_at (.inl (by kernel_rfl)) (Facts.cons_at (.inl (by kernel_rfl)) Facts.nil_at)))
                  clear hK K
                  try simp only [Act.put, lt0', lt1', lt2']
                  refine' GoL.take 21 [] ?_ ?_ ?_ ?_ ?_
                  rotate_left 3
                  · (simp only [lg0, lg1, lg2]; rfl)
                  · exact fun _ _ _ h => h
                  · (refine Or.inl ⟨by first | kernel_rfl | (simp [Region.wanted, yielded]), ?_⟩; intro w hSw; clear hSw; go_simp; first | done | with_reducible rfl)
                  rotate_left 1
                  · kernel_rfl
                  simp only [Act.put, lt0', lt1', lt2']
                  refine' GoL.take 22 [] ?_ ?_ ?_ ?_ ?_
                  rotate_left 3
                  · (simp only [lg0, lg1, lg2]; rfl)
                  · exact fun _ _ _ h => h
                  · (refine Or.inl ⟨by first | kernel_rfl | (simp [Region.wanted, yielded]), ?_⟩; intro w hSw; clear hSw; go_simp; first | done | with_reducible rfl)
                  rotate_left 1
                  · kernel_rfl
                  simp only [Act.put, lt0', lt1', lt2']
                  refine GoL.ready [23] (by kernel_rfl) (by simp) ?_
                  refine GoL.one (by (simp only [lg0, lg1, lg2]; rfl)) (fun K hK => ?_) ?_
                  · go_simp
                    have hS := hS.set _ (b := dx) (by first | exact at0 | exact at1 | exact at2 | exact at3 | exact at4 | exact at5 | exact at6 | exact at7 | exact at8) 1 (.slice (some ⟨gb, 0, none⟩) (G.length + 1) cb)
                    simp only [List.set_cons_zero, List.set_cons_succ, List.setIfInBounds_toArray] at hS
                    generalize x0.setCell ⟨dx, 1, none⟩ (.slice (some ⟨gb, 0, none⟩) (G.length + 1) cb) = x1 at *
                    clear fs
                    have fs := hS.says; simp only [says, Ck.say] at fs
                    refine hK.out _ _ ?_ ?_
                    · exact (Facts.cons_at (.inl (by kernel_rfl)) (Facts.cons_at (.inl (by kernel_rfl)) (Facts.cons_at (.inl (by kernel_rfl)) Facts.nil_at)))
                    clear hK K
                    try simp only [Act.put, lt0', lt1', lt2']
                    refine GoL.done (by kernel_rfl) ?_
                    go_wp2_with fail
                    go_ret
                    refine ⟨ga, ca, gb, cb, rfl, ?_⟩
                    have h1 := hS.pull _ (c := (gb, ivCh 3 cb (insL G p 1))) (by first | exact at0 | exact at1 | exact at2 | exact at3 | exact at4 | exact at5 | exact at6 | exact at7 | exact at8)
                    dsimp only [List.eraseIdx] at h1
                    have h2 := h1.pull _ (c := (ga, ivCh 3 ca (insL M p e.node))) (by first | exact at0 | exact at1 | exact at2 | exact at3 | exact at4 | exact at5 | exact at6 | exact at7 | exact at8)
                    dsimp only [List.eraseIdx] at h2
                    have hC : cfC ga ca gb cb ⟨insL M p e.node, insL G p 1, lv, fin⟩ = #[.slice (some ⟨ga, 0, none⟩) (M.length + 1) ca, .slice (some ⟨gb, 0, none⟩) (G.length + 1) cb, .int .i64 lv, .bool fin] := by unfold cfC ivV; simp [insL_length]
                    have h3 := h2.pull _ (c := (dx, .cel #[.slice (some ⟨ga, 0, none⟩) (M.length + 1) ca, .slice (some ⟨gb, 0, none⟩) (G.length + 1) cb, .int .i64 lv, .bool fin] 30)) (by first | exact at0 | exact at1 | exact at2 | exact at3 | exact at4 | exact at5 | exact at6 | exact at7 | exact at8)
                    dsimp only [List.eraseIdx] at h3
                    show Sat _ _ [(dx, .cel (cfC ga ca gb cb ⟨insL M p e.node, insL G p 1, lv, fin⟩) 30), _, _] _
                    rw [hC]
                    exact h3.sub (.cons_cons _ (.cons_cons _ (.cons_cons _ (List.nil_sublist _))))
                  exact AllL.nil
                exact AllL.nil
              exact AllL.nil
            exact AllL.nil
          exact AllL.nil
        refine GoL.one (by (simp only [lg0, lg1, lg2]; rfl)) (fun K hK => ?_) ?_
        · go_simp
          have hS := hS.alloc (o := (.cells #[.int .i64 1] 3)) (c := .cel #[.int .i64 1] 3) rfl
          generalize w3.alloc (.cells #[.int .i64 1] 3) = wv at *
          generalize w3.heap.size = vv at *
          clear fs
          have fs := hS.says; simp only [says, Ck.say] at fs
          refine hK.out _ _ ?_ ?_
          · exact (Facts.cons_at (.inr (by simp [fs])) (Facts.cons_at (.inr (by simp [fs])) (Facts.cons_at (.inr (by simp [fs])) Facts.nil_at)))
          clear hK K
          try simp only [Act.put, lt0', lt1', lt2']
          refine GoL.ready [9] (by kernel_rfl) (by simp) ?_
          refine GoL.one (by (simp only [lg0, lg1, lg2]; rfl)) (fun K hK => ?_) ?_
          · go_simp
            have hS := hS.alloc (o := (.cells #[.int .i64 e.node] 3)) (c := .cel #[.int .i64 e.node] 3) rfl
            generalize wv.alloc (.cells #[.int .i64 e.node] 3) = wu at *
            generalize wv.heap.size = vu at *
            clear fs
            have fs := hS.says; simp only [says, Ck.say] at fs
            refine hK.out _ _ ?_ ?_
            · exact (Facts.cons_at (.inr (by simp [fs])) (Facts.cons_at (.inl (by kernel_rfl)) (Facts.cons_at (.inr (by simp [fs])) Facts.nil_at)))
            clear hK K
            try simp only [Act.put, lt0', lt1', lt2']
            refine GoL.ready [10] (by kernel_rfl) (by simp) ?_
            refine GoL.one (by (simp only [lg0, lg1, lg2]; rfl)) (fun K hK => ?_) ?_
            · go_simp
              refine cInsert hS _ _ (l := M) (by first | exact at0 | exact at1 | exact at2 | exact at3 | exact at4 | exact at5 | exact at6 | exact at7 | exact at8) (by first | exact at0 | exact at1 | exact at2 | exact at3 | exact at4 | exact at5 | exact at6 | exact at7 | exact at8) (by decide) (by have := HLen.out; omega) (by have := HLen.out; omega) (by first | rfl | exact HLen.out.symm) ?_
              rintro ⟨ga, ca⟩ wa hS
              clear fs
              dsimp only [List.eraseIdx] at hS
              have fs := hS.says; simp only [says, Ck.say] at fs
              refine hK.out _ _ ?_ ?_
              · exact (Facts.cons_at (.inl (by kernel_rfl)) (Facts.cons_at (.inl (by kernel_rfl)) (Facts.cons_at (.inr (by simp [fs])) Facts.nil_at)))
              clear hK K
              try simp only [Act.put, lt0', lt1', lt2']
              refine GoL.ready [17] (by kernel_rfl) (by simp) ?_
              refine GoL.one (by (simp only [lg0, lg1, lg2]; rfl)) (fun K hK => ?_) ?_
              · go_simp
                refine cInsert hS _ _ (l := G) (by first | exact at0 | exact at1 | exact at2 | exact at3 | exact at4 | exact at5 | exact at6 | exact at7 | exact at8) (by first | exact at0 | exact at1 | exact at2 | exact at3 | exact at4 | exact at5 | exact at6 | exact at7 | exact at8) (by decide) (by have := HLen.out; omega) (by have := HLen.out; omega) (by first | rfl | exact HLen.out.symm) ?_
                rintro ⟨gb, cb⟩ wb hS
                clear fs
                dsimp only [List.eraseIdx] at hS
                have fs := hS.says; simp only [says, Ck.say] at fs
                refine hK.out _ _ ?_ ?_
                · exact (Facts.cons_at (.inl (by kernel_rfl)) (Facts.cons_at (.inl (by kernel_rfl)) (Facts.cons_at (.inl (by kernel_rfl)) Facts.nil_at)))
                clear hK K
                try simp only [Act.put, lt0', lt1', lt2']
                refine' GoL.take 18 [] ?_ ?_ ?_ ?_ ?_
                rotate_left 3
                · (simp only [lg0, lg1, lg2]; rfl)
                · exact fun _ _ _ h => h
                · (refine Or.inl ⟨by first | kernel_rfl | (simp [Region.wanted, yielded]), ?_⟩; intro w hSw; clear hSw; go_simp; first | done | with_reducible rfl)
                rotate_left 1
                · kernel_rfl
                simp only [Act.put, lt0', lt1', lt2']
                refine' GoL.take 19 [] ?_ ?_ ?_ ?_ ?_
                rotate_left 3
                · (simp only [lg0, lg1, lg2]; rfl)
                · exact fun _ _ _ h => h
                · (refine Or.inl ⟨by first | kernel_rfl | (simp [Region.wanted, yielded]), ?_⟩; intro w hSw; clear hSw; go_simp; first | done | with_reducible rfl)
                rotate_left 1
                · kernel_rfl
                simp only [Act.put, lt0', lt1', lt2']
                refine GoL.ready [20] (by kernel_rfl) (by simp) ?_
                refine GoL.one (by (simp only [lg0, lg1, lg2]; rfl)) (fun K hK => ?_) ?_
                · go_simp
                  have hS := hS.set _ (b := dx) (by first | exact at0 | exact at1 | exact at2 | exact at3 | exact at4 | exact at5 | exact at6 | exact at7 | exact at8) 0 (.slice (some ⟨ga, 0, none⟩) (M.length + 1) ca)
                  simp only [List.set_cons_zero, List.set_cons_succ, List.setIfInBounds_toArray] at hS
                  generalize wb.setCell ⟨dx, 0, none⟩ (.slice (some ⟨ga, 0, none⟩) (M.length + 1) ca) = x0 at *
                  clear fs
                  have fs := hS.says; simp only [says, Ck.say] at fs
                  refine hK.out _ _ ?_ ?_
                  · exact (Facts.cons_at (.inl (by kernel_rfl)) (Facts.cons_at (.inl (by kernel_rfl)) (Facts.cons_at (.inl (by kernel_rfl)) Facts.nil_at)))
                  clear hK K
                  try simp only [Act.put, lt0', lt1', lt2']
                  refine' GoL.take 21 [] ?_ ?_ ?_ ?_ ?_
                  rotate_left 3
                  · (simp only [lg0, lg1, lg2]; rfl)
                  · exact fun _ _ _ h => h
                  · (refine Or.inl ⟨by first | kernel_rfl | (simp [Region.wanted, yielded]), ?_⟩; intro w hSw; clear hSw; go_simp; first | done | with_reducible rfl)
                  rotate_left 1
                  · kernel_rfl
                  simp only [Act.put, lt0', lt1', lt2']
                  refine' GoL.take 22 [] ?_ ?_ ?_ ?_ ?_
                  rotate_left 3
                  · (simp only [lg0, lg1, lg2]; rfl)
                  · exact fun _ _ _ h => h
                  · (refine Or.inl ⟨by first | kernel_rfl | (simp [Region.wanted, yielded]), ?_⟩; intro w hSw; clear hSw; go_simp; first | done | with_reducible rfl)
                  rotate_left 1
                  · kernel_rfl
                  simp only [Act.put, lt0', lt1', lt2']
                  refine GoL.ready [23] (by kernel_rfl) (by simp) ?_
                  refine GoL.one (by (simp only [lg0, lg1, lg2]; rfl)) (fun K hK => ?_) ?_
                  · go_simp
                    have hS := hS.set _ (b := dx) (by first | exact at0 | exact at1 | exact at2 | exact at3 | exact at4 | exact at5 | exact at6 | exact at7 | exact at8) 1 (.slice (some ⟨gb, 0, none⟩) (G.length + 1) cb)
                    simp only [List.set_cons_zero, List.set_cons_succ, List.setIfInBounds_toArray] at hS
                    generalize x0.setCell ⟨dx, 1, none⟩ (.slice (some ⟨gb, 0, none⟩) (G.length + 1) cb) = x1 at *
                    clear fs
                    have fs := hS.says; simp only [says, Ck.say] at fs
                    refine hK.out _ _ ?_ ?_
                    · exact (Facts.cons_at (.inl (by kernel_rfl)) (Facts.cons_at (.inl (by kernel_rfl)) (Facts.cons_at (.inl (by kernel_rfl)) Facts.nil_at)))
                    clear hK K
                    try simp only [Act.put, lt0', lt1', lt2']
                    refine GoL.done (by kernel_rfl) ?_
                    go_wp2_with fail
                    go_ret
                    refine ⟨ga, ca, gb, cb, rfl, ?_⟩
                    have h1 := hS.pull _ (c := (gb, ivCh 3 cb (insL G p 1))) (by first | exact at0 | exact at1 | exact at2 | exact at3 | exact at4 | exact at5 | exact at6 | exact at7 | exact at8)
                    dsimp only [List.eraseIdx] at h1
                    have h2 := h1.pull _ (c := (ga, ivCh 3 ca (insL M p e.node))) (by first | exact at0 | exact at1 | exact at2 | exact at3 | exact at4 | exact at5 | exact at6 | exact at7 | exact at8)
                    dsimp only [List.eraseIdx] at h2
                    have hC : cfC ga ca gb cb ⟨insL M p e.node, insL G p 1, lv, fin⟩ = #[.slice (some ⟨ga, 0, none⟩) (M.length + 1) ca, .slice (some ⟨gb, 0, none⟩) (G.length + 1) cb, .int .i64 lv, .bool fin] := by unfold cfC ivV; simp [insL_length]
                    have h3 := h2.pull _ (c := (dx, .cel #[.slice (some ⟨ga, 0, none⟩) (M.length + 1) ca, .slice (some ⟨gb, 0, none⟩) (G.length + 1) cb, .int .i64 lv, .bool fin] 30)) (by first | exact at0 | exact at1 | exact at2 | exact at3 | exact at4 | exact at5 | exact at6 | exact at7 | exact at8)
                    dsimp only [List.eraseIdx] at h3
                    show Sat _ _ [(dx, .cel (cfC ga ca gb cb ⟨insL M p e.node, insL G p 1, lv, fin⟩) 30), _, _] _
                    rw [hC]
                    exact h3.sub (.cons_cons _ (.cons_cons _ (.cons_cons _ (List.nil_sublist _))))
                  exact AllL.nil
                exact AllL.nil
              exact AllL.nil
            exact AllL.nil
          exact AllL.nil
        exact AllL.nil
end Go.Proofs.YtnnpjjehecbljaaGreatDoor

namespace Go.Proofs.YtnnpjjehecbljaaGreatDoor
open Go.RowKit Go.Shelf

attribute [local go_sem] Oper.semAt_some

theorem takeI {L : List Int} {k : Nat} (hk : k < L.length) : L.take (k + 1) = L.take k ++ [L.getD k 0] := by
  rw [List.take_succ_eq_append_getElem hk]
  simp [List.getD, List.getElem?_eq_getElem hk]

/-- The ints as they lie in memory below a block. -/
def IntsAt (n₀ : Nat) (w : World) (v : Value) (L : List Int) : Prop :=
  (v = .slice none 0 0 ∧ L = []) ∨ ∃ b cap, v = .slice (some ⟨b, 0, none⟩) L.length cap ∧ b < n₀ ∧ ∀ j, j < L.length → w.cell? ⟨b, j, none⟩ = some (.int .i64 (L.getD j 0))
theorem Iv.at {w : World} {g cap : Nat} {l : List Int} (h : Iv w g cap l) : IntsAt w.heap.size w (ivV g l.length cap) l :=
  .inr ⟨g, cap, rfl, h.lt, fun j hj => by have := h.cell j hj; rwa [Nat.zero_add] at this⟩
theorem IntsAt.below {n₀ : Nat} {w w' : World} {v : Value} {L : List Int} (h : IntsAt n₀ w v L) (hb : Below n₀ w w') : IntsAt n₀ w' v L := by
  rcases h with h1 | ⟨b, cap, rfl, hl, hc⟩
  · exact .inl h1
  · exact .inr ⟨b, cap, rfl, hl, fun j hj => (hb.cell (p := ⟨b, _, none⟩) hl).trans (hc j hj)⟩
theorem IntsAt.more {n₀ n₁ : Nat} {w : World} {v : Value} {L : List Int} (h : IntsAt n₀ w v L) (hn : n₀ ≤ n₁) : IntsAt n₁ w v L := by
  rcases h with h1 | ⟨b, cap, rfl, hl, hc⟩
  · exact .inl h1
  · exact .inr ⟨b, cap, rfl, by omega, hc⟩

set_option maxRecDepth 100000 in
set_option maxHeartbeats 4000000 in
theorem sVals1 (F : Fence) (n : Nat) (hF : F.fn 46) (hro : F.round = none) (hn : 1 ≤ n) (l Bs n₀ b len cap : Nat) (L : List Int) (hlen : len = L.length) (h4 : len ≤ 4096) (hb : b < n₀) (J Jx : List Int → World → Prop)
    (W : World) (_hBW : n₀ ≤ W.heap.size)
    (hY : ∀ pre x W, J pre W → pre.length < len → YieldAt F (n - 1) Tryz.prog l #[Value.int .i64 x] W fun e W' =>
      (e = .returned (.bool true) ∧ J (pre ++ [x]) W' ∧ Below n₀ W W') ∨ (e = .returned (.bool false) ∧ Jx (pre ++ [x]) W'))
    (hBs : W.cell? ⟨Bs, 0, none⟩ = some (.slice (some ⟨b, 0, none⟩) len cap)) (hc : ∀ j, j < len → W.cell? ⟨b, j, none⟩ = some (.int .i64 (L.getD j 0))) (h0 : J [] W) :
    CallsIn F n Tryz.prog 46 #[.func (.yield l) #[] #[], .pointer (some ⟨Bs, 0, none⟩)] W fun e W' => (∃ v, e = .returned v) ∧
      ((∃ ys, ys = L ∧ J ys W') ∨ (∃ pre, True ∧ Jx pre W')) := by
  have HC := Lib.hid hc
  have HL := Lib.hid hlen
  clear hc hlen
  refine callsIn_of_wp Tryz.func46 rfl hF ?_ hro
  simp only [Tryz.ntmps46, List.size_toArray, List.length_cons, List.length_nil, Nat.reduceAdd, Nat.reduceSub, Array.replicate_succ, Array.replicate_zero, List.push_toArray, List.append_toArray, List.nil_append, List.cons_append]
  gi_wp2
  gi_loopw [7] (fun i wr => ∃ k : Nat, k ≤ len ∧ i = .int .i64 k ∧ J (L.take k) wr ∧ Below n₀ W wr)
    (fun i _ => len - (intOf i).toNat)
  case atStart => exact ⟨0, Nat.zero_le _, rfl, by simpa using h0, Below.refl _ _⟩
  case round =>
    obtain ⟨k, hk, rfl, hJs, hnx⟩ := hrel
    by_cases hlt : k < len
    · have c0 := HC.out k hlt
      have d0 := (hnx.cell (p := ⟨b, k, none⟩) hb).trans c0
      have HT := Lib.hid (takeI (L := L) (k := k) (by have := HL.out; omega))
      obtain ⟨x, hx⟩ : ∃ x, L.getD k 0 = x := ⟨_, rfl⟩
      rw [hx] at d0 HT
      clear c0 hx
      have hlt2 : (L.take k).length < len := by simp; omega
      obtain ⟨fn, tmps, assign, body, hy, hR⟩ := hY _ x _ hJs hlt2
      gi_wp2
      refine hR.mono ?_
      rintro e W3 (⟨rfl, hJ3, hk3⟩ | ⟨rfl, hJx3⟩)
      · gi_wp2
        go_roundw
        case rel => exact ⟨k + 1, by omega, by simp, by rw [HT.out]; exact hJ3, hnx.trans hk3⟩
        case measure => simp [intOf]; omega
      · gi_wp2
        refine bodyPost_ret (results_none rfl _ _ _) rfl ?_
        exact ⟨⟨_, rfl⟩, .inr ⟨_, trivial, hJx3⟩⟩
    · obtain rfl : k = len := by omega
      gi_wp2
      go_end0
      exact ⟨⟨_, rfl⟩, .inl ⟨_, by rw [HL.out]; exact List.take_length, hJs⟩⟩

set_option maxRecDepth 100000 in
set_option maxHeartbeats 1000000 in
theorem sVals0 (F : Fence) (n : Nat) (hF : F.fn 46) (hro : F.round = none) (l Bs : Nat) (J : List Int → World → Prop) (W : World) (hBs : W.cell? ⟨Bs, 0, none⟩ = some (.slice none 0 0)) (h0 : J [] W) :
    CallsIn F n Tryz.prog 46 #[.func (.yield l) #[] #[], .pointer (some ⟨Bs, 0, none⟩)] W fun e W' => (∃ v, e = .returned v) ∧ J [] W' := by
  refine callsIn_of_wp Tryz.func46 rfl hF ?_ hro
  simp only [Tryz.ntmps46, List.size_toArray, List.length_cons, List.length_nil, Nat.reduceAdd, Nat.reduceSub, Array.replicate_succ, Array.replicate_zero, List.push_toArray, List.append_toArray, List.nil_append, List.cons_append]
  gi_wp2
  gi_loopw [7] (fun i wr => i = .int .i64 0 ∧ J [] wr) (fun _ _ => 0)
  case atStart => exact ⟨rfl, h0⟩
  case round =>
    obtain ⟨rfl, hJs⟩ := hrel
    gi_wp2
    go_end0
    exact ⟨⟨_, rfl⟩, hJs⟩

set_option maxHeartbeats 1000000 in
theorem sValsC (a : Option Addr) (len cap : Nat) (w : World) :
    Calls Tryz.prog 20 #[.slice a len cap] w fun e w' => e = .returned (.func (.func 46) #[] #[.pointer (some ⟨w.heap.size, 0, none⟩)]) ∧ w' = w.alloc (.cells #[.slice a len cap] 28) := by
  go_enter Tryz.func20, Tryz.ntmps20
  go_wp2
  go_ret
  exact ⟨rfl, rfl⟩

theorem sValsStops (F : Fence) (n : Nat) (hF : F.fn 46) (hro : F.round = none) (hn : 1 ≤ n) (Bs n₀ : Nat) (sv : Value) (L : List Int) (h4 : L.length ≤ 4096) (w : World) (hBs : Bs < w.heap.size) (hn₀ : n₀ ≤ w.heap.size)
    (hc : w.cell? ⟨Bs, 0, none⟩ = some sv) (hI : IntsAt n₀ w sv L) :
    SeqStopsK F n Tryz.prog 46 #[.pointer (some ⟨Bs, 0, none⟩)] (fun x : Int => #[Value.int .i64 x]) (Below n₀) (fun ys => ys = L) (fun _ => True) L.length w := fun l J Jx W hW hJ _ hY h0 => by
  have hc' := (hW.cell (p := ⟨Bs, 0, none⟩) hBs).trans hc
  rcases hI.below (hW.mono hn₀) with ⟨rfl, rfl⟩ | ⟨b, cap, rfl, hb, hcs⟩
  · exact (sVals0 F n hF hro l Bs J W hc' h0).mono fun e W' ⟨he, hj⟩ => ⟨he, .inl ⟨_, rfl, hj⟩⟩
  · exact sVals1 F n hF hro hn l Bs n₀ b L.length cap L rfl h4 hb J Jx W (Nat.le_trans hn₀ hW.size) hY hc' hcs h0

/-! ### AppendSeq, Collect -/
theorem intInfo : (Tryz.prog.info? 3).map (fun i => (i.zero, i.size, i.bytes)) = some (some (.int .i64 0), 1, 8) := by kernel_rfl
theorem intNew (w : World) (x : Int) (t : TypeId) (j : Nat) (u : Value) (h : ([.int .i64 x] : List Value)[j]? = some u) : (w.alloc (.cells #[.int .i64 x] t)).cell? ((⟨w.heap.size, 0, none⟩ : Addr).add j) = some u := by
  have hB := (Blk.new w #[.int .i64 x] t).cellAt (i := j) (v := u) (by simpa using h)
  rw [← hB]
  unfold Addr.add
  split
  · rename_i e; subst e; rfl
  · simp
theorem intOne (x : Int) (u : Value) (h : u ∈ ([.int .i64 x] : List Value)) : u.oneCell' = true := by
  simp at h
  rcases h with rfl
  rfl
theorem mapI_snoc (L : List Int) (x : Int) : (L ++ [x]).map (Value.int .i64) = L.map (Value.int .i64) ++ [.int .i64 x] := by simp

set_option maxRecDepth 100000 in
set_option maxHeartbeats 4000000 in
theorem sAppSeq (F : Fence) (n : Nat) (hF : F.fn 60) (hro : F.round = none) (hn : 3 ≤ n) (g : Nat) (lb : Array Value) (hFg : F.fn g) (eg : ∀ args w, (callFunc g args).run Tryz.prog w = .ok (.enter g args) w)
    (L : List Int) (h4 : L.length ≤ 4096) (w0 w : World) (hbw : Below w0.heap.size w0 w) (hseq : SeqStopsK F (n - 1) Tryz.prog g lb (fun x : Int => #[Value.int .i64 x]) (Below w.heap.size) (fun ys => ys = L) (fun _ => True) L.length w0) :
    CallsIn F n Tryz.prog 60 #[.slice none 0 0, .func (.func g) #[] lb] w fun e W' => ∃ v, e = .returned v ∧ W'.ownsRow w.heap.size 3 1 v L.length (L.map (Value.int .i64)) ∧ Below w.heap.size w W' := by
  have h1 : 1 ≤ n := by omega
  obtain ⟨i0, hi, hz0, hz1, hz2⟩ := info_parts intInfo
  refine callsIn_of_wp_marks Tryz.func60 rfl hF ?_ hro
  simp only [Tryz.ntmps60, List.size_toArray, List.length_cons, List.length_nil, Nat.reduceAdd, Nat.reduceSub, Array.replicate_succ, Array.replicate_zero, List.push_toArray, List.append_toArray, List.nil_append, List.cons_append]
  gi_wp2
  have bO := Boxed.new w 28 (.slice none 0 0)
  have hB0 : Below w.heap.size w (w.alloc (.cells #[.slice none 0 0] 28)) := (Below.refl _ w).alloc (Nat.le_refl _) _
  refine wpIn_rangeFunc_ownH hro h1 (gf := g) (lb := lb) rfl hFg eg hseq belowK_t (belowK_b (by simp)) (hbw.trans (hB0.mono hbw.size)) (fun _ => rfl)
    (fun pre W => (∃ v, Boxed W w.heap.size 28 v ∧ W.ownsRow w.heap.size 3 1 v pre.length (pre.map (Value.int .i64)) ∧ True) ∧ Below w.heap.size w W)
    (fun _ _ _ => False)
    (OwnFrom.and (Own.from (holdsRow_own w.heap.size w.heap.size 28 3 1 (fun pre : List Int => pre.length) (fun pre => pre.map (Value.int .i64)) (fun _ _ => True)) _) (ownFrom_below (Nat.le_refl _) (by simp)))
    (fun _ _ _ _ _ hs _ _ => hs)
    ⟨⟨_, bO, World.ownsRow_nil _ _ _ _, trivial⟩, hB0⟩
    (fun x a' W => a' = { tmps := #[.slice none 0 0, .func (.func g) #[] lb, .pointer (some ⟨w.heap.size, 0, none⟩), undef, .slice none 0 0, .int .i64 x, .func (.func g) #[] lb, .int .i64 x, undef, undef, undef, undef, undef], defers := [] })
    (fun x a' _ X Y row hs hg hr => hs)
    ?assign ?body ?done ?stop
  case assign =>
    rintro l pre x W K ⟨⟨v, hv, hrow, -⟩, hB⟩ hK
    gi_wp2
    exact hK _ _ ((KeepsOthers.refl _).from _) (Below.refl _ W) ⟨⟨v, hv, hrow, trivial⟩, hB⟩ rfl
  case body =>
    rintro l pre x a' W hl ⟨r, hr⟩ ⟨⟨v, hv, hrow, -⟩, hB⟩ rfl hlt
    have hc := hv.cell
    gi_wp2_with (gi_at_builtin; refine wpListIn_append_own _ rfl _ _ 28 rfl w.heap.size 3 i0 _ 1 8 Tryz.underlying28 hi hz0 hz1 hz2 rfl (by decide) _ _ _ rfl (hrow.alloc _) ⟨W.heap.size, 0, none⟩ 1 1 [.int .i64 x] rfl rfl (intNew W x _) (intOne x) (by simp [maxLen]; omega) (by omega) (by have := hB.size; simp; omega) ?_; intro v' w1 hown' hgrow _; obtain ⟨g', cap', rfl⟩ := ownsRow_succ hown'; obtain ⟨hv1, hv2, hr2, hk2, hb2⟩ := hv.appended (by decide) hrow hB.size (Nat.le_refl _) hown' hgrow; have hc1 := hv1.cell; have hf1 := hv1.frozen)
    exact ⟨hk2.from _, hb2, ⟨_, hv2, by rw [mapI_snoc, List.length_append]; exact hr2, trivial⟩, hB.trans hb2⟩
  case done =>
    rintro D ys W hD rfl ⟨⟨v, hv, hrow, -⟩, hB⟩ hK
    have hc := hv.cell
    gi_wp2
    refine ⟨by simp, .inl ⟨_, _, rfl, run_takeDeferred hK, ?_⟩⟩
    exact ⟨_, results_tmp rfl _ _ _, v, rfl, ownsRow_putObj hrow _ hK rfl, hB.trans (belowK_b (w := w) (Nat.le_refl _) W D _ _ (by simp at hD; omega) hK rfl rfl)⟩
  case stop =>
    rintro D c pre W _ _ h _
    exact h.elim

set_option maxHeartbeats 1000000 in
theorem sCollect (F : Fence) (n : Nat) (hF : F.fn 44) (hF2 : F.fn 60) (hro : F.round = none) (hn : 4 ≤ n) (g : Nat) (lb : Array Value) (hFg : F.fn g) (eg : ∀ args w, (callFunc g args).run Tryz.prog w = .ok (.enter g args) w)
    (L : List Int) (h4 : L.length ≤ 4096) (w0 w : World) (hbw : Below w0.heap.size w0 w) (hseq : SeqStopsK F (n - 1 - 1) Tryz.prog g lb (fun x : Int => #[Value.int .i64 x]) (Below w.heap.size) (fun ys => ys = L) (fun _ => True) L.length w0) :
    CallsIn F n Tryz.prog 44 #[.func (.func g) #[] lb] w fun e W' => ∃ v, e = .returned v ∧ W'.ownsRow w.heap.size 3 1 v L.length (L.map (Value.int .i64)) ∧ Below w.heap.size w W' := by
  have h1 : 1 ≤ n := by omega
  refine callsIn_of_wp Tryz.func44 rfl hF ?_ hro
  simp only [Tryz.ntmps44, List.size_toArray, List.length_cons, List.length_nil, Nat.reduceAdd, Nat.reduceSub, Array.replicate_succ, Array.replicate_zero, List.push_toArray, List.append_toArray, List.nil_append, List.cons_append]
  gi_wp2_with (gi_at_call 60; refine (sAppSeq F (n - 1) hF2 hro (by omega) g lb hFg eg L h4 w0 _ hbw hseq).mono ?_; rintro e w' ⟨v, rfl, hrow, hb⟩)
  go_ret
  exact ⟨v, rfl, hrow, hb⟩
end Go.Proofs.YtnnpjjehecbljaaGreatDoor

namespace Go.Proofs.YtnnpjjehecbljaaGreatDoor
open Go.RowKit

theorem insS_perm (x : Int) : ∀ l : List Int, (insS x l).Perm (x :: l)
  | [] => List.Perm.refl _
  | y :: l => by
    unfold insS
    split
    · exact List.Perm.refl _
    · exact ((insS_perm x l).cons y).trans (List.Perm.swap x y l)
theorem insS_sorted (x : Int) : ∀ l : List Int, l.Pairwise (· ≤ ·) → (insS x l).Pairwise (· ≤ ·)
  | [], _ => by simp [insS]
  | y :: l, h => by
    unfold insS
    rw [List.pairwise_cons] at h
    split
    · rename_i hxy
      refine List.pairwise_cons.2 ⟨fun z hz => ?_, List.pairwise_cons.2 h⟩
      rcases List.mem_cons.1 hz with rfl | hz
      · exact hxy
      · have := h.1 z hz; omega
    · rename_i hxy
      refine List.pairwise_cons.2 ⟨fun z hz => ?_, insS_sorted x l h.2⟩
      rcases List.mem_cons.1 ((insS_perm x l).mem_iff.1 hz) with rfl | hz
      · omega
      · exact h.1 z hz
theorem isortL_perm : ∀ l : List Int, (isortL l).Perm l
  | [] => List.Perm.refl _
  | x :: l => (insS_perm x _).trans ((isortL_perm l).cons x)
theorem isortL_sorted : ∀ l : List Int, (isortL l).Pairwise (· ≤ ·)
  | [] => List.Pairwise.nil
  | x :: l => insS_sorted x _ (isortL_sorted l)
theorem msort_eq (l : List Int) : l.mergeSort (fun x y => decide (x ≤ y)) = isortL l := by
  have h1 : (l.mergeSort (fun x y => decide (x ≤ y))).Pairwise (fun x y : Int => x ≤ y) := by
    have := List.pairwise_mergeSort (le := fun x y : Int => decide (x ≤ y)) (fun a b c h1 h2 => by simp at *; omega) (fun a b => by simp; omega) l
    exact this.imp (fun h => by simpa using h)
  have h2 := (List.mergeSort_perm l (fun x y : Int => decide (x ≤ y))).trans (isortL_perm l).symm
  exact h2.eq_of_pairwise (fun a b _ _ h1 h2 => by omega) h1 (isortL_sorted l)
end Go.Proofs.YtnnpjjehecbljaaGreatDoor

namespace Go.Proofs.YtnnpjjehecbljaaGreatDoor
open Go.RowKit Go.Shelf Go.Sort Go.Maps

theorem Iv.holds {w : World} {g cap : Nat} {l : List Int} (h : Iv w g cap l) : Holds (Value.int .i64) w g 0 l.toArray := by
  obtain ⟨cur, h1, h2, h3, h4, h5⟩ := h
  exact holds_of_block_i h1 h5
theorem Iv.putG {w : World} {g cap n : Nat} {os : Array Obj} {l ts : List Int} (h : Iv w g cap l) (hl : ts.length = l.length) :
    Iv (grow (putRow (Value.int .i64) (Sort.ahead w n) g 0 ts.toArray) os) g cap ts ∧ Fr [g] w (grow (putRow (Value.int .i64) (Sort.ahead w n) g 0 ts.toArray) os) := by
  obtain ⟨cur, h1, h2, h3, h4, h5⟩ := h
  refine ⟨⟨_, heap_sorted_i _ h1, by omega, h3, by simp [putCells, h4], take_putCells_i cur ts (by omega)⟩, ?_⟩
  have := Fr.ofGrown (grownBy_sorted_i (w := w) (g := g) (n := n) (os := os) ts.toArray)
  exact this
theorem Iv.put {w : World} {g cap n : Nat} {l ts : List Int} (h : Iv w g cap l) (hl : ts.length = l.length) :
    Iv (putRow (Value.int .i64) (Sort.ahead w n) g 0 ts.toArray) g cap ts ∧ Fr [g] w (putRow (Value.int .i64) (Sort.ahead w n) g 0 ts.toArray) := by
  have := h.putG (n := n) (os := #[]) hl
  rwa [grow_empty] at this
theorem isortL_length (l : List Int) : (isortL l).length = l.length := (isortL_perm l).length_eq

/-- Sort: of a slice that is not empty. -/
theorem sSort (g cap : Nat) (l : List Int) (w : World) (h : Iv w g cap l) (hl : l.length ≤ 4096) (n : Nat) (hn : n = l.length) :
    Calls Tryz.prog 45 #[.slice (some ⟨g, 0, none⟩) n cap] w fun e w' => e = .returned (.tuple #[]) ∧ Iv w' g cap (isortL l) ∧ Fr [g] w w' := by
  subst hn
  refine (Tryz.slices_Sort_int g 0 cap l w h.holds h.lt (by omega)).mono ?_
  rintro e w' ⟨rfl, n, os, rfl⟩
  rw [msort_eq]
  have := h.putG (n := n) (os := os) (isortL_length l)
  exact ⟨rfl, this.1, this.2⟩
theorem compact_le (l : List Int) : (Lib.compact l).length ≤ l.length := by
  unfold Lib.compact Lib.compactUpTo
  rw [List.length_map]
  exact Nat.le_trans (List.length_filter_le _ _) (by rw [List.length_range]; exact Nat.le_refl _)
theorem sCompact (g cap : Nat) (l : List Int) (w : World) (h : Iv w g cap l) (hl : l.length ≤ 4096) (n : Nat) (hn : n = l.length) :
    Calls Tryz.prog 18 #[.slice (some ⟨g, 0, none⟩) n cap] w fun e w' => e = .returned (.slice (some ⟨g, 0, none⟩) (Lib.compact l).length cap) ∧ Iv w' g cap (Lib.compact l) ∧ Fr [g] w w' := by
  subst hn
  refine (Tryz.slices_Compact_int g 0 cap l w h.holds (by omega) h.le.1).mono ?_
  rintro e w' ⟨rfl, q, rfl⟩
  have hc := compact_le l
  have := h.put (n := q) (ts := Lib.compact l ++ List.replicate (l.length - (Lib.compact l).length) 0) (by rw [List.length_append, List.length_replicate]; omega)
  refine ⟨rfl, ?_, this.2⟩
  have h2 := this.1.take (Lib.compact l).length
  rwa [List.take_left] at h2
theorem sDelete (g cap : Nat) (l : List Int) (p : Nat) (w : World) (h : Iv w g cap l) (hl : l.length ≤ 4096) (hp : p < l.length) (n : Nat) (hn : n = l.length) (j : Int) (hj : j = (p : Int) + 1) :
    Calls Tryz.prog 56 #[.slice (some ⟨g, 0, none⟩) n cap, .int .i64 (p : Nat), .int .i64 j] w fun e w' => e = .returned (.slice (some ⟨g, 0, none⟩) (delL l p).length cap) ∧ Iv w' g cap (delL l p) ∧ Fr [g] w w' := by
  subst hn
  have hj' : j = ((p + 1 : Nat) : Int) := by omega
  subst hj'
  have hm := h.le.2
  refine (Tryz.slices_Delete_int g 0 cap p (p + 1) l w h.holds h.le.1 (by unfold maxLen at hm; omega) (by omega) (by omega)).mono ?_
  rintro e w' ⟨rfl, q, rfl⟩
  have hd := delL_length l p hp
  have := h.put (n := q) (ts := l.take p ++ l.drop (p + 1) ++ List.replicate (p + 1 - p) 0) (by rw [List.length_append, List.length_replicate]; have : (delL l p).length = (l.take p ++ l.drop (p + 1)).length := rfl; omega)
  refine ⟨by rw [hd]; congr 2; omega, ?_, this.2⟩
  have h2 := this.1.take (delL l p).length
  have e : (l.take p ++ l.drop (p + 1) ++ List.replicate (p + 1 - p) 0).take (delL l p).length = delL l p := by
    show (delL l p ++ List.replicate (p + 1 - p) 0).take (delL l p).length = delL l p
    rw [List.take_left]
  rwa [e] at h2

set_option maxHeartbeats 2000000 in
/-- Sorted, of the values of a slice of ints that has elements. -/
theorem sSorted (L : List Int) (hne : L ≠ []) (h4 : L.length ≤ 4096) (Bs : Nat) (w : World) (hseq : SeqStopsK Fence.wide 4 Tryz.prog 46 #[.pointer (some ⟨Bs, 0, none⟩)] (fun x : Int => #[Value.int .i64 x]) (Below w.heap.size) (fun ys => ys = L) (fun _ => True) L.length w) :
    Calls Tryz.prog 19 #[.func (.func 46) #[] #[.pointer (some ⟨Bs, 0, none⟩)]] w fun e w' => ∃ g cap, e = .returned (.slice (some ⟨g, 0, none⟩) L.length cap) ∧ w.heap.size ≤ g ∧ Iv w' g cap (isortL L) ∧ Fr [] w w' := by
  refine (callsIn_wide (n := 7)).1 ?_
  have hC := sCollect Fence.wide 6 trivial trivial rfl (by omega) 46 #[.pointer (some ⟨Bs, 0, none⟩)] trivial (enters_of Tryz.func46 (by kernel_rfl) rfl) L h4 w w (Below.refl _ _) hseq
  have t1 : Fence.wide.fn 44 := trivial
  have t2 : Fence.wide.fn 45 := trivial
  refine callsIn_of_wp Tryz.func19 rfl trivial ?_ rfl
  simp only [Tryz.ntmps19, List.size_toArray, List.length_cons, List.length_nil, Nat.reduceAdd, Nat.reduceSub, Array.replicate_succ, Array.replicate_zero, List.push_toArray, List.append_toArray, List.nil_append, List.cons_append]
  have hn0 : L.length ≠ 0 := fun h => hne (List.eq_nil_of_length_eq_zero h)
  gi_wp2_with (first
    | (gi_at_call 44; refine hC.mono ?_; rintro e w1 ⟨v, rfl, hrow, hb⟩; obtain ⟨g, cap, rfl, hg, -, hI⟩ := Iv.of_owns hrow (by rintro rfl; rcases hrow.2 with h | ⟨g, cap, cur, h, -⟩; exact hn0 h.2; cases h); have HB := Lib.hid (Fr.ofBelow hb); have HG := Lib.hid hg; have HS := Lib.hid (callsIn_wide (n := 6).2 (sSort g cap L w1 hI h4 _ rfl)); clear hb hrow hI)
    | (gi_at_call 45; refine HS.out.mono ?_; rintro e w2 ⟨rfl, hI2, hF2⟩))
  go_ret
  exact ⟨g, cap, rfl, HG.out, hI2, HB.out.trans hF2 (fun x hx => by simp at hx; subst hx; right; exact HG.out)⟩
end Go.Proofs.YtnnpjjehecbljaaGreatDoor

namespace Go.Proofs.YtnnpjjehecbljaaGreatDoor
open Go.RowKit

set_option maxHeartbeats 4000000 in
set_option maxRecDepth 100000 in
theorem lRemove (B dx : Nat) (c : Cfg) (e : Ent) (w : World) (h : LM B w dx c) (hs : c.M.Pairwise (· ≤ ·)) (hlen : c.G.length = c.M.length) (h4 : c.M.length ≤ 4096) :
    Calls Tryz.prog 27 #[.pointer (some ⟨dx, 0, none⟩), .agg e.cells] w fun r w' => Told B dx w (removeOf c e.node) r w' := by
  obtain ⟨gm, cm, gh, ch, hB, hM, hG, hne, b1, b2, n1, n2, b3⟩ := h
  have hF := (Fr.refl [dx] w).alloc (.cells e.cells 24)
  have hlt := hB.lt
  have hE := Blk.new w e.cells 24
  have HA := Lib.hid (And.intro (hM.alloc (.cells e.cells 24)) (And.intro (hG.alloc (.cells e.cells 24)) (And.intro (hB.alloc (.cells e.cells 24)) hE)))
  have HFw := Lib.hid ((Fr.refl [] w).alloc (.cells e.cells 24))
  have HC := Lib.hid (sBin gm cm c.M e.node (w.alloc (.cells e.cells 24)).drew (hM.alloc (.cells e.cells 24)).drew hs h4 _ rfl)
  clear hF hM hG hE
  unfold Ent.cells at *
  unfold cfC ivV at *
  have HP := Lib.hid (posL_lt (M := c.M) (x := e.node))
  unfold removeOf
  obtain ⟨M, G, lv, fin⟩ := c
  simp only at *
  generalize hp : posL M e.node = p at *
  generalize hcn : M.contains e.node = cn at *
  have HCN := Lib.hid hcn
  clear hp hcn hs hB
  generalize hw1 : w.alloc (.cells #[.int .u64 e.term, .int .u64 e.index, .int .i64 e.kind, .int .u64 e.client, .int .u64 e.seq, .int .u64 e.block, .int .u64 e.many, .int .i64 e.node, .int .i64 e.level, .string e.data, .string e.old] 24) = w1 at *
  have HW1 := Lib.hid hw1
  clear hw1
  have c0 : w1.cell? ⟨dx, 0, none⟩ = some (.slice (some ⟨gm, 0, none⟩) M.length cm) := HA.out.2.2.1.cellAt (i := 0) rfl
  have e7 : w1.cell? ⟨w.heap.size, 7, none⟩ = some (.int .i64 e.node) := HA.out.2.2.2.cellAt (i := 7) rfl
  go_enter Tryz.func27, Tryz.ntmps27
  go_upto_region 1 with fail
  rw [HW1.out]
  have HSZ := Lib.hid (show w.heap.size < w1.heap.size from HA.out.2.2.2.lt)
  generalize hex : w.heap.size = ex at *
  have HEX := Lib.hid hex
  clear hex
  go_region_with (go_at_call 54; refine HC.out.mono ?_; rintro r w2 ⟨rfl, f2⟩; have F2 := Lib.hid ((Fr.refl [] w1).drew.trans0 f2); clear f2)
  all_goals
    have B2 := Lib.hid (HA.out.2.2.1.fr0 F2.out)
    have E2 := Lib.hid (HA.out.2.2.2.fr0 F2.out)
    have M2 := Lib.hid (HA.out.1.fr F2.out (by simp))
    have G2 := Lib.hid (HA.out.2.1.fr F2.out (by simp))
    have FW := Lib.hid (HFw.out.trans0 F2.out)
    have d0 : w2.cell? ⟨dx, 0, none⟩ = some (.slice (some ⟨gm, 0, none⟩) M.length cm) := B2.out.cellAt (i := 0) rfl
    have d1 : w2.cell? ⟨dx, 1, none⟩ = some (.slice (some ⟨gh, 0, none⟩) G.length ch) := B2.out.cellAt (i := 1) rfl
    clear c0 e7
    cases cn with
    | false =>
      go_wp2_with fail
      go_ret
      exact ⟨rfl, fun h => Told.no h (by decide), FW.out.toBelow (by rw [HEX.out]; omega) (by simp)⟩
    | true =>
      by_cases h1 : M.length = 1
      · go_wp2_with fail
        go_ret
        exact ⟨rfl, fun h => Told.no h (by decide), FW.out.toBelow (by rw [HEX.out]; omega) (by simp)⟩
      · have hp : p < M.length := HP.out (by simpa using HCN.out)
        have hp2 : p < G.length := by omega
        have hw : IntKind.i64.wrap ((p : Int) + 1) = (p : Int) + 1 := by rw [IntKind.wrap_i64]; omega
        have hz := B2.out.froz
        go_upto_region 6 with fail
        go_region_with (first
          | (go_at_call 56; with_reducible refine (sDelete gm cm M p _ (by first | exact M2.out.drew | exact M2.out.drew.fr FB.out (by first | (simp; omega) | (intro hq; simp at hq; omega))) h4 hp _ rfl _ (by first | rfl | exact hw)).mono ?_; rintro r wa ⟨rfl, ia, fa⟩; have IA := Lib.hid ia; have FA := Lib.hid (show Fr [gm, gh] w2 wa from by first | exact (Fr.refl [gm, gh] w2).drew.trans fa (fun x hx => by simp at hx; simp [hx]) | exact FBB.out.trans fa (fun x hx => by simp at hx; simp [hx])); have FA1 := Lib.hid fa; have ba := B2.out.fr FA.out (by first | (simp; omega) | (intro hq; simp at hq; omega)); have a0 := ba.cellAt (i := 0) (v := .slice (some ⟨gm, 0, none⟩) M.length cm) rfl; have a1 := ba.cellAt (i := 1) (v := .slice (some ⟨gh, 0, none⟩) G.length ch) rfl; have az := ba.froz; have BA := Lib.hid ba; clear ia fa ba)
          | (go_at_call 56; with_reducible refine (sDelete gh ch G p _ (by first | exact G2.out.drew | exact G2.out.drew.fr FA1.out (by first | (simp; omega) | (intro hq; simp at hq; omega))) (by omega) hp2 M.length hlen.symm _ (by first | rfl | exact hw)).mono ?_; rintro r wb ⟨rfl, ib, fb⟩; have IB := Lib.hid ib; have FB := Lib.hid fb; have FBB := Lib.hid (show Fr [gm, gh] w2 wb from by first | exact (Fr.refl [gm, gh] w2).drew.trans fb (fun x hx => by simp at hx; simp [hx]) | exact FA.out.trans fb (fun x hx => by simp at hx; simp [hx])); have bb := B2.out.fr FBB.out (by first | (simp; omega) | (intro hq; simp at hq; omega)); have b0 := bb.cellAt (i := 0) (v := .slice (some ⟨gm, 0, none⟩) M.length cm) rfl; have b1' := bb.cellAt (i := 1) (v := .slice (some ⟨gh, 0, none⟩) G.length ch) rfl; have bz := bb.froz; have BB := Lib.hid bb; clear ib fb bb))
        all_goals
          go_wp2_with fail
          go_ret
          refine ⟨rfl, fun _ => ⟨gm, cm, gh, ch, (BB.out.set 0 _).set 1 _, ?_, ?_, hne, b1, b2, n1, n2, b3⟩, ?_⟩
          · exact ((IA.out.fr FB.out (by intro hq; simp at hq; omega)).far (p := ⟨dx, 0, none⟩) n1 _).far (p := ⟨dx, 1, none⟩) n1 _
          · exact (IB.out.far (p := ⟨dx, 0, none⟩) n2 _).far (p := ⟨dx, 1, none⟩) n2 _
          · have hq : Fr [gm, gh, dx] w wb := FW.out.wide0.trans FBB.out (fun x hx => Or.inl (by simp at hx ⊢; omega))
            have hq2 := (hq.setCell (p := ⟨dx, 0, none⟩) (Or.inl (by simp)) (.slice (some ⟨gm, 0, none⟩) (delL M p).length cm)).setCell (p := ⟨dx, 1, none⟩) (Or.inl (by simp)) (.slice (some ⟨gh, 0, none⟩) (delL G p).length ch)
            exact hq2.toBelow (by rw [HEX.out]; omega) (by intro x hx; simp at hx; omega)
end Go.Proofs.YtnnpjjehecbljaaGreatDoor

namespace Go.Proofs.YtnnpjjehecbljaaGreatDoor
open Go.RowKit

set_option maxHeartbeats 1000000 in
theorem lHas (gm cm gh ch : Nat) (c : Cfg) (x : Int) (w : World) (h : Cf w gm cm gh ch c) (h4 : c.M.length ≤ 4096) :
    Calls Tryz.prog 10 #[.agg (cfC gm cm gh ch c), .int .i64 x] w fun e w' => e = .returned (.bool (c.M.contains x)) ∧ Fr [] w w' := by
  have HC := Lib.hid (fun o => sContains gm cm c.M x (w.alloc o) (h.1.alloc o) h4 _ rfl)
  unfold cfC ivV
  clear h
  generalize c.M.contains x = b at *
  have HF := Lib.hid (fun o => (Fr.refl [] w).alloc o)
  go_enter Tryz.func10, Tryz.ntmps10
  go_wp2_with (go_at_call 23; refine (HC.out _).mono ?_; rintro r w1 ⟨rfl, rfl⟩)
  go_ret
  exact ⟨rfl, HF.out _⟩
set_option maxHeartbeats 1000000 in
theorem lQuorum (gm cm gh ch : Nat) (c : Cfg) (w : World) (h4 : c.M.length ≤ 4096) :
    Calls Tryz.prog 16 #[.agg (cfC gm cm gh ch c)] w fun e w' => e = .returned (.int .i64 ((c.M.length : Int) / 2 + 1)) ∧ Fr [] w w' := by
  unfold cfC ivV
  have HF := Lib.hid (fun o => (Fr.refl [] w).alloc o)
  generalize c.M.length = n at *
  have hw1 : IntKind.i64.wrap ((n : Int).tdiv 2 + 1) = (n : Int) / 2 + 1 := by rw [IntKind.wrap_i64, Int.tdiv_eq_ediv_of_nonneg (by omega)]; omega
  go_enter Tryz.func16, Tryz.ntmps16
  go_wp2_with fail
  go_ret
  exact ⟨rfl, HF.out _⟩
set_option maxHeartbeats 1000000 in
theorem lMay (gm cm gh ch : Nat) (c : Cfg) (v : Int) (w : World) (h1 : 1 ≤ v) (h2 : v ≤ c.lvl) :
    Calls Tryz.prog 17 #[.agg (cfC gm cm gh ch c), .int .i64 v] w fun e w' => e = .returned (.bool true) ∧ Fr [] w w' := by
  unfold cfC ivV
  have HF := Lib.hid (fun o => (Fr.refl [] w).alloc o)
  generalize c.lvl = lv at *
  go_enter Tryz.func17, Tryz.ntmps17
  go_wp2_with (go_at_call 32; refine (lIn _ _ _ h1 h2 _).mono ?_; rintro r w1 ⟨rfl, rfl⟩)
  go_ret
  exact ⟨rfl, HF.out _⟩
theorem lInOver (n lo hi : Int) (h1 : lo ≤ n) (h2 : hi < n) (w : World) : Calls Tryz.prog 32 #[.int .i64 n, .int .i64 lo, .int .i64 hi] w fun e w' => e = .returned (.bool false) ∧ w' = w := by
  have h3 : ¬ n ≤ hi := by omega
  go_enter Tryz.func32, Tryz.ntmps32
  go_wp2_with fail
  go_ret
  exact ⟨rfl, rfl⟩
set_option maxHeartbeats 1000000 in
theorem lMayNo (gm cm gh ch : Nat) (c : Cfg) (v : Int) (w : World) (h1 : 1 ≤ v) (h2 : c.lvl < v) :
    Calls Tryz.prog 17 #[.agg (cfC gm cm gh ch c), .int .i64 v] w fun e w' => e = .returned (.bool false) ∧ Fr [] w w' := by
  unfold cfC ivV
  have HF := Lib.hid (fun o => (Fr.refl [] w).alloc o)
  generalize c.lvl = lv at *
  go_enter Tryz.func17, Tryz.ntmps17
  go_wp2_with (go_at_call 32; refine (lInOver _ _ _ h1 h2 _).mono ?_; rintro r w1 ⟨rfl, rfl⟩)
  go_ret
  exact ⟨rfl, HF.out _⟩
end Go.Proofs.YtnnpjjehecbljaaGreatDoor
