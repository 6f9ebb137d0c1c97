/-
  level: remove: the contract.
-/
import Derived.Test.YtnnpjjehecbljaaDoorLOp2
import Derived.Test.YtnnpjjehecbljaaDoorLSrt
namespace Go.Proofs.YtnnpjjehecbljaaDoor
open Go.RowKit

set_option maxHeartbeats 4000000 in
set_option maxRecDepth 100000 in
theorem lRemove (B dx : Nat) (c : Cfg) (e : Ent) (w : World) (h : LM B w dx c) (hs : c.M.Pairwise (· ≤ ·)) (hlen : c.G.length = c.M.length) (h4 : c.M.length ≤ 4096) :
    Calls Tryd.prog 21 #[.pointer (some ⟨dx, 0, none⟩), .agg e.cells] w fun r w' => Told B dx w (removeOf c e.node) r w' := by
  obtain ⟨gm, cm, gh, ch, hB, hM, hG, hne, b1, b2, n1, n2, b3⟩ := h
  have hF := (Fr.refl [dx] w).alloc (.cells e.cells 31)
  have hlt := hB.lt
  have hE := Blk.new w e.cells 31
  have HA := Lib.hid (And.intro (hM.alloc (.cells e.cells 31)) (And.intro (hG.alloc (.cells e.cells 31)) (And.intro (hB.alloc (.cells e.cells 31)) hE)))
  have HFw := Lib.hid ((Fr.refl [] w).alloc (.cells e.cells 31))
  have HC := Lib.hid (sBin gm cm c.M e.node (w.alloc (.cells e.cells 31)).drew (hM.alloc (.cells e.cells 31)).drew hs h4 _ rfl)
  clear hF hM hG hE
  unfold Ent.cells at *
  unfold cfC ivV at *
  have HP := Lib.hid (posL_lt (M := c.M) (x := e.node))
  unfold removeOf
  obtain ⟨M, G, lv, fin⟩ := c
  simp only at *
  generalize hp : posL M e.node = p at *
  generalize hcn : M.contains e.node = cn at *
  have HCN := Lib.hid hcn
  clear hp hcn hs hB
  generalize hw1 : w.alloc (.cells #[.int .u64 e.term, .int .u64 e.index, .int .i64 e.kind, .int .u64 e.client, .int .u64 e.seq, .int .u64 e.block, .int .u64 e.many, .int .i64 e.node, .int .i64 e.level, .string e.data, .string e.old] 31) = w1 at *
  have HW1 := Lib.hid hw1
  clear hw1
  have c0 : w1.cell? ⟨dx, 0, none⟩ = some (.slice (some ⟨gm, 0, none⟩) M.length cm) := HA.out.2.2.1.cellAt (i := 0) rfl
  have e7 : w1.cell? ⟨w.heap.size, 7, none⟩ = some (.int .i64 e.node) := HA.out.2.2.2.cellAt (i := 7) rfl
  go_enter Tryd.func21, Tryd.ntmps21
  go_upto_region 1 with fail
  rw [HW1.out]
  have HSZ := Lib.hid (show w.heap.size < w1.heap.size from HA.out.2.2.2.lt)
  generalize hex : w.heap.size = ex at *
  have HEX := Lib.hid hex
  clear hex
  go_region_with (go_at_call 39; refine HC.out.mono ?_; rintro r w2 ⟨rfl, f2⟩; have F2 := Lib.hid ((Fr.refl [] w1).drew.trans0 f2); clear f2)
  all_goals
    have B2 := Lib.hid (HA.out.2.2.1.fr0 F2.out)
    have E2 := Lib.hid (HA.out.2.2.2.fr0 F2.out)
    have M2 := Lib.hid (HA.out.1.fr F2.out (by simp))
    have G2 := Lib.hid (HA.out.2.1.fr F2.out (by simp))
    have FW := Lib.hid (HFw.out.trans0 F2.out)
    have d0 : w2.cell? ⟨dx, 0, none⟩ = some (.slice (some ⟨gm, 0, none⟩) M.length cm) := B2.out.cellAt (i := 0) rfl
    have d1 : w2.cell? ⟨dx, 1, none⟩ = some (.slice (some ⟨gh, 0, none⟩) G.length ch) := B2.out.cellAt (i := 1) rfl
    clear c0 e7
    cases cn with
    | false =>
      go_wp2_with fail
      go_ret
      exact ⟨rfl, fun h => Told.no h (by decide), FW.out.toBelow (by rw [HEX.out]; omega) (by simp)⟩
    | true =>
      by_cases h1 : M.length = 1
      · go_wp2_with fail
        go_ret
        exact ⟨rfl, fun h => Told.no h (by decide), FW.out.toBelow (by rw [HEX.out]; omega) (by simp)⟩
      · have hp : p < M.length := HP.out (by simpa using HCN.out)
        have hp2 : p < G.length := by omega
        have hw : IntKind.i64.wrap ((p : Int) + 1) = (p : Int) + 1 := by rw [IntKind.wrap_i64]; omega
        have hz := B2.out.froz
        go_upto_region 6 with fail
        go_region_with (first
          | (go_at_call 41; with_reducible refine (sDelete gm cm M p _ (by first | exact M2.out.drew | exact M2.out.drew.fr FB.out (by first | (simp; omega) | (intro hq; simp at hq; omega))) h4 hp _ rfl _ (by first | rfl | exact hw)).mono ?_; rintro r wa ⟨rfl, ia, fa⟩; have IA := Lib.hid ia; have FA := Lib.hid (show Fr [gm, gh] w2 wa from by first | exact (Fr.refl [gm, gh] w2).drew.trans fa (fun x hx => by simp at hx; simp [hx]) | exact FBB.out.trans fa (fun x hx => by simp at hx; simp [hx])); have FA1 := Lib.hid fa; have ba := B2.out.fr FA.out (by first | (simp; omega) | (intro hq; simp at hq; omega)); have a0 := ba.cellAt (i := 0) (v := .slice (some ⟨gm, 0, none⟩) M.length cm) rfl; have a1 := ba.cellAt (i := 1) (v := .slice (some ⟨gh, 0, none⟩) G.length ch) rfl; have az := ba.froz; have BA := Lib.hid ba; clear ia fa ba)
          | (go_at_call 41; with_reducible refine (sDelete gh ch G p _ (by first | exact G2.out.drew | exact G2.out.drew.fr FA1.out (by first | (simp; omega) | (intro hq; simp at hq; omega))) (by omega) hp2 M.length hlen.symm _ (by first | rfl | exact hw)).mono ?_; rintro r wb ⟨rfl, ib, fb⟩; have IB := Lib.hid ib; have FB := Lib.hid fb; have FBB := Lib.hid (show Fr [gm, gh] w2 wb from by first | exact (Fr.refl [gm, gh] w2).drew.trans fb (fun x hx => by simp at hx; simp [hx]) | exact FA.out.trans fb (fun x hx => by simp at hx; simp [hx])); have bb := B2.out.fr FBB.out (by first | (simp; omega) | (intro hq; simp at hq; omega)); have b0 := bb.cellAt (i := 0) (v := .slice (some ⟨gm, 0, none⟩) M.length cm) rfl; have b1' := bb.cellAt (i := 1) (v := .slice (some ⟨gh, 0, none⟩) G.length ch) rfl; have bz := bb.froz; have BB := Lib.hid bb; clear ib fb bb))
        all_goals
          go_wp2_with fail
          go_ret
          refine ⟨rfl, fun _ => ⟨gm, cm, gh, ch, (BB.out.set 0 _).set 1 _, ?_, ?_, hne, b1, b2, n1, n2, b3⟩, ?_⟩
          · exact ((IA.out.fr FB.out (by intro hq; simp at hq; omega)).far (p := ⟨dx, 0, none⟩) n1 _).far (p := ⟨dx, 1, none⟩) n1 _
          · exact (IB.out.far (p := ⟨dx, 0, none⟩) n2 _).far (p := ⟨dx, 1, none⟩) n2 _
          · have hq : Fr [gm, gh, dx] w wb := FW.out.wide0.trans FBB.out (fun x hx => Or.inl (by simp at hx ⊢; omega))
            have hq2 := (hq.setCell (p := ⟨dx, 0, none⟩) (Or.inl (by simp)) (.slice (some ⟨gm, 0, none⟩) (delL M p).length cm)).setCell (p := ⟨dx, 1, none⟩) (Or.inl (by simp)) (.slice (some ⟨gh, 0, none⟩) (delL G p).length ch)
            exact hq2.toBelow (by rw [HEX.out]; omega) (by intro x hx; simp at hx; omega)
end Go.Proofs.YtnnpjjehecbljaaDoor
