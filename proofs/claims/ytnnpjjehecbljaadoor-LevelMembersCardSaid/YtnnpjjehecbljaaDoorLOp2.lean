/-
  level: register: the contract.
-/
import Derived.Test.YtnnpjjehecbljaaDoorLOp1
import Derived.Test.YtnnpjjehecbljaaDoorLRt
import Derived.Deep.RegionWith
namespace Go.Proofs.YtnnpjjehecbljaaDoor
open Go.RowKit

theorem sBin (g cap : Nat) (l : List Int) (x : Int) (w : World) (h : Iv w g cap l) (hs : l.Pairwise (· ≤ ·)) (hl : l.length ≤ 4096) (n : Nat) (hn : n = l.length) :
    Calls Tryd.prog 39 #[.slice (some ⟨g, 0, none⟩) n cap, .int .i64 x] w fun e w' => e = .returned (.tuple #[.int .i64 (posL l x : Nat), .bool (l.contains x)]) ∧ Fr [] w w' := by
  subst hn
  refine (Tryd.slices_BinarySearch_int g 0 l.length cap l x w (Nat.le_refl _) (by omega) h.cell (by rw [List.take_length]; exact hs)).mono ?_
  rw [List.take_length]
  rintro e w' ⟨rfl, q, rfl⟩
  exact ⟨rfl, (Fr.refl [] w).drewN q⟩
theorem rightL_sorted {lvl : Int} : ∀ {M G : List Int} {last : Int}, G.length = M.length → rightL M G lvl last = true → M.Pairwise (· ≤ ·)
  | [], [], _, _, _ => List.Pairwise.nil
  | m :: M, g :: G, last, h, hr => by
    have hr2 := hr
    rw [rightL_cons] at hr
    have h' : G.length = M.length := by simpa using h
    exact List.pairwise_cons.2 ⟨fun y hy => by have := rightL_mem h' hr.2 y hy; omega, rightL_sorted h' hr.2⟩

set_option maxHeartbeats 4000000 in
set_option maxRecDepth 100000 in
theorem lRegister (B dx : Nat) (c : Cfg) (e : Ent) (w : World) (h : LM B w dx c) (hs : c.M.Pairwise (· ≤ ·)) (hlen : c.G.length = c.M.length) (h4 : c.M.length ≤ 4096) :
    Calls Tryd.prog 22 #[.pointer (some ⟨dx, 0, none⟩), .agg e.cells] w fun r w' => Told B dx w (registerOf c e.node e.level) r w' := by
  obtain ⟨gm, cm, gh, ch, hB, hM, hG, hne, b1, b2, n1, n2, b3⟩ := h
  have hF := (Fr.refl [dx] w).alloc (.cells e.cells 31)
  have hlt := hB.lt
  have hE := Blk.new w e.cells 31
  have HA := Lib.hid (And.intro (hM.alloc (.cells e.cells 31)) (And.intro (hG.alloc (.cells e.cells 31)) (And.intro (hB.alloc (.cells e.cells 31)) hE)))
  have HFw := Lib.hid ((Fr.refl [] w).alloc (.cells e.cells 31))
  have HC := Lib.hid (sBin gm cm c.M e.node (w.alloc (.cells e.cells 31)).drew (hM.alloc (.cells e.cells 31)).drew hs h4 _ rfl)
  clear hF hM hG hE
  unfold Ent.cells at *
  unfold cfC ivV at *
  have HP := Lib.hid (posL_lt (M := c.M) (x := e.node))
  unfold registerOf
  obtain ⟨M, G, lv, fin⟩ := c
  simp only at *
  generalize hp : posL M e.node = p at *
  generalize hcn : M.contains e.node = cn at *
  have HCN := Lib.hid hcn
  clear hp hcn hs hB
  generalize hw1 : w.alloc (.cells #[.int .u64 e.term, .int .u64 e.index, .int .i64 e.kind, .int .u64 e.client, .int .u64 e.seq, .int .u64 e.block, .int .u64 e.many, .int .i64 e.node, .int .i64 e.level, .string e.data, .string e.old] 31) = w1 at *
  have HW1 := Lib.hid hw1
  clear hw1
  have c0 : w1.cell? ⟨dx, 0, none⟩ = some (.slice (some ⟨gm, 0, none⟩) M.length cm) := HA.out.2.2.1.cellAt (i := 0) rfl
  have e7 : w1.cell? ⟨w.heap.size, 7, none⟩ = some (.int .i64 e.node) := HA.out.2.2.2.cellAt (i := 7) rfl
  go_enter Tryd.func22, Tryd.ntmps22
  go_upto_region 1 with fail
  rw [HW1.out]
  have HSZ := Lib.hid (show w.heap.size < w1.heap.size from HA.out.2.2.2.lt)
  generalize hex : w.heap.size = ex at *
  have HEX := Lib.hid hex
  clear hex
  go_region_with (go_at_call 39; refine HC.out.mono ?_; rintro r w2 ⟨rfl, f2⟩; have F2 := Lib.hid ((Fr.refl [] w1).drew.trans0 f2); clear f2)
  all_goals
    have B2 := Lib.hid (HA.out.2.2.1.fr0 F2.out)
    have E2 := Lib.hid (HA.out.2.2.2.fr0 F2.out)
    have M2 := Lib.hid (HA.out.1.fr F2.out (by simp))
    have G2 := Lib.hid (HA.out.2.1.fr F2.out (by simp))
    have FW := Lib.hid (HFw.out.trans0 F2.out)
    have d1 : w2.cell? ⟨dx, 1, none⟩ = some (.slice (some ⟨gh, 0, none⟩) G.length ch) := B2.out.cellAt (i := 1) rfl
    have d2 : w2.cell? ⟨dx, 2, none⟩ = some (.int .i64 lv) := B2.out.cellAt (i := 2) rfl
    have e8 : w2.cell? ⟨ex, 8, none⟩ = some (.int .i64 e.level) := E2.out.cellAt (i := 8) rfl
    clear c0 e7
    cases cn with
    | false =>
      go_wp2_with fail
      go_ret
      exact ⟨rfl, fun h => Told.no h (by decide), FW.out.toBelow (by rw [HEX.out]; omega) (by simp)⟩
    | true =>
      by_cases h1 : e.level < lv
      · go_wp2_with fail
        go_region
        all_goals
          go_wp2_with fail
          go_ret
          exact ⟨rfl, fun h => Told.no h (by decide), FW.out.drew.toBelow (by rw [HEX.out]; omega) (by simp)⟩
      · have hp : p < G.length := by
          have := HP.out (by simpa using HCN.out)
          omega
        have g1 := G2.out.cell p hp
        have gz := G2.out.froz p
        rw [Nat.zero_add] at g1
        go_wp2_with fail
        go_region
        go_wp2_with fail
        go_region
        all_goals go_wp2_with fail
        go_ret
        refine ⟨rfl, fun _ => ⟨gm, cm, gh, ch, ?_, ?_, ?_, hne, b1, b2, n1, n2, b3⟩, ?_⟩
        · unfold cfC ivV
          simp only [List.length_set]
          exact B2.out.far (p := ⟨gh, p, none⟩) n2.symm _
        · exact M2.out.far (p := ⟨gh, p, none⟩) hne _
        · exact G2.out.set p _
        · have hq : Fr [gh] w (w2.setCell ⟨gh, p, none⟩ (.int .i64 e.level)) := (FW.out.wide0 (S := [gh])).setCell (Or.inl List.mem_cons_self) _
          have hb := hq.toBelow (B := B) (by rw [HEX.out]; omega) (by intro x hx; simp at hx; omega)
          exact ⟨hb.os, hb.tape, hb.output, hb.size, hb.block⟩
end Go.Proofs.YtnnpjjehecbljaaDoor
