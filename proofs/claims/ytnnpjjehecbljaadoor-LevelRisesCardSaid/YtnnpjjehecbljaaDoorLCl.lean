/-
  level: clone: the contract.
-/
import Derived.Test.YtnnpjjehecbljaaDoorLMem
import Derived.Test.YtnnpjjehecbljaaDoorFShelf
import Derived.Deep.RegionWith
namespace Go.Proofs.YtnnpjjehecbljaaDoor
open Go.RowKit

theorem sClone (g cap : Nat) (l : List Int) (w : World) (h : Iv w g cap l) (hl : l.length ≤ 4096) (n : Nat) (hn : n = l.length) :
    Calls Tryd.prog 38 #[.slice (some ⟨g, 0, none⟩) n cap] w fun e w' => ∃ g' cap', e = .returned (.slice (some ⟨g', 0, none⟩) n cap') ∧ w.heap.size ≤ g' ∧ Iv w' g' cap' l ∧ Fr [] w w' := by
  subst hn
  refine (Tryd.slices_Clone_int g 0 l.length cap l w (Nat.le_refl _) (by omega) h.cell).mono ?_
  rintro e w' ⟨v', rfl, ho, hn, hb⟩
  rw [List.take_length] at ho
  obtain ⟨g', cap', rfl, h1, h2, h3⟩ := Iv.of_owns ho hn
  exact ⟨g', cap', rfl, h1, h3, Fr.ofBelow hb⟩

theorem clone_end {u : World} {bx : Nat} {va vb vl vf z0 z1 z2 z3 : Value} {t : TypeId} (hR : Blk u (bx + 1) #[z0, z1, z2, z3] t) :
    Blk ((((((u.setCell ⟨bx, 0, none⟩ va).setCell ⟨bx, 1, none⟩ vb).setCell ⟨bx + 1, 0, none⟩ va).setCell ⟨bx + 1, 1, none⟩ vb).setCell ⟨bx + 1, 2, none⟩ vl).setCell ⟨bx + 1, 3, none⟩ vf) (bx + 1) #[va, vb, vl, vf] t ∧
    Fr [bx, bx + 1] u ((((((u.setCell ⟨bx, 0, none⟩ va).setCell ⟨bx, 1, none⟩ vb).setCell ⟨bx + 1, 0, none⟩ va).setCell ⟨bx + 1, 1, none⟩ vb).setCell ⟨bx + 1, 2, none⟩ vl).setCell ⟨bx + 1, 3, none⟩ vf) := by
  constructor
  · exact ((((((hR.far (p := ⟨bx, 0, none⟩) (by simp) va).far (p := ⟨bx, 1, none⟩) (by simp) vb).set 0 va).set 1 vb).set 2 vl).set 3 vf)
  · exact (((((((Fr.refl _ u).setCell (p := ⟨bx, 0, none⟩) (by simp) va).setCell (p := ⟨bx, 1, none⟩) (by simp) vb).setCell (p := ⟨bx + 1, 0, none⟩) (by simp) va).setCell (p := ⟨bx + 1, 1, none⟩) (by simp) vb).setCell (p := ⟨bx + 1, 2, none⟩) (by simp) vl).setCell (p := ⟨bx + 1, 3, none⟩) (by simp) vf)

set_option maxHeartbeats 4000000 in
set_option maxRecDepth 100000 in
theorem lClone (gm cm gh ch : Nat) (c : Cfg) (w : World) (h : Cf w gm cm gh ch c) (h1 : c.M.length ≤ 4096) (h2 : c.G.length ≤ 4096) :
    Calls Tryd.prog 19 #[.agg (cfC gm cm gh ch c)] w fun e w' => ∃ gm' cm' gh' ch', e = .returned (.agg (cfC gm' cm' gh' ch' c)) ∧ Cf w' gm' cm' gh' ch' c ∧ w.heap.size ≤ gm' ∧ w.heap.size ≤ gh' ∧ Fr [] w w' := by
  have HM := Lib.hid h.1
  have HG := Lib.hid h.2.1
  clear h
  unfold cfC ivV Cf
  generalize hn : c.M.length = n at *
  generalize hk : c.G.length = k at *
  have HN := Lib.hid hn
  have HK := Lib.hid hk
  clear hn hk
  generalize c.M = M at *
  generalize c.G = G at *
  generalize c.lvl = lv at *
  generalize c.fin = fin at *
  have B0 := Blk.new w #[.slice (some ⟨gm, 0, none⟩) n cm, .slice (some ⟨gh, 0, none⟩) k ch, .int .i64 lv, .bool fin] 25
  have B1 := Lib.hid (B0.alloc (.cells #[.slice none 0 0, .slice none 0 0, .int .i64 0, .bool false] 25))
  have R1 := Blk.new (w.alloc (.cells #[.slice (some ⟨gm, 0, none⟩) n cm, .slice (some ⟨gh, 0, none⟩) k ch, .int .i64 lv, .bool fin] 25)) #[.slice none 0 0, .slice none 0 0, .int .i64 0, .bool false] 25
  rw [show (w.alloc (.cells #[.slice (some ⟨gm, 0, none⟩) n cm, .slice (some ⟨gh, 0, none⟩) k ch, .int .i64 lv, .bool fin] 25)).heap.size = w.heap.size + 1 by simp] at R1
  have HR1 := Lib.hid R1
  have HF := Lib.hid (((Fr.refl [] w).alloc (.cells #[.slice (some ⟨gm, 0, none⟩) n cm, .slice (some ⟨gh, 0, none⟩) k ch, .int .i64 lv, .bool fin] 25)).alloc (.cells #[.slice none 0 0, .slice none 0 0, .int .i64 0, .bool false] 25))
  have HM1 := Lib.hid ((HM.out.alloc (.cells #[.slice (some ⟨gm, 0, none⟩) n cm, .slice (some ⟨gh, 0, none⟩) k ch, .int .i64 lv, .bool fin] 25)).alloc (.cells #[.slice none 0 0, .slice none 0 0, .int .i64 0, .bool false] 25))
  have HG1 := Lib.hid ((HG.out.alloc (.cells #[.slice (some ⟨gm, 0, none⟩) n cm, .slice (some ⟨gh, 0, none⟩) k ch, .int .i64 lv, .bool fin] 25)).alloc (.cells #[.slice none 0 0, .slice none 0 0, .int .i64 0, .bool false] 25))
  have HL := Lib.hid (show gm < w.heap.size ∧ gh < w.heap.size from ⟨HM.out.lt, HG.out.lt⟩)
  clear B0 R1
  go_enter Tryd.func19, Tryd.ntmps19
  go_upto_region 1 with fail
  generalize hw2 : ((w.alloc (.cells #[.slice (some ⟨gm, 0, none⟩) n cm, .slice (some ⟨gh, 0, none⟩) k ch, .int .i64 lv, .bool fin] 25)).alloc (.cells #[.slice none 0 0, .slice none 0 0, .int .i64 0, .bool false] 25)) = w2 at *
  clear hw2 HM HG
  generalize hbx : w.heap.size = bx at *
  have HBX := Lib.hid hbx
  clear hbx
  have c0 : w2.cell? ⟨bx, 0, none⟩ = some (.slice (some ⟨gm, 0, none⟩) n cm) := B1.out.cellAt (i := 0) rfl
  have c1 : w2.cell? ⟨bx, 1, none⟩ = some (.slice (some ⟨gh, 0, none⟩) k ch) := B1.out.cellAt (i := 1) rfl
  have z0 : ∀ j, w2.frozen? ⟨bx, j, none⟩ = false := B1.out.froz
  go_region_with (first
    | (go_at_call 38; with_reducible refine (sClone gm cm M _ (by first | exact HM1.out.drew | exact HM1.out.fr FB.out (by simp)) (by rw [HN.out]; exact h1) n HN.out.symm).mono ?_; rintro e wa ⟨ga, ca, rfl, hga, ia, fa⟩; have GA := Lib.hid hga; have IA := Lib.hid ia; have FA := Lib.hid (show Fr [] w2 wa from by first | exact (Fr.refl [] w2).drew.trans0 fa | exact FB.out.trans0 fa); have a0 : wa.cell? ⟨bx, 0, none⟩ = some (.slice (some ⟨gm, 0, none⟩) n cm) := (B1.out.fr0 FA.out).cellAt (i := 0) rfl; have a1 : wa.cell? ⟨bx, 1, none⟩ = some (.slice (some ⟨gh, 0, none⟩) k ch) := (B1.out.fr0 FA.out).cellAt (i := 1) rfl; have a2 : wa.cell? ⟨bx, 2, none⟩ = some (.int .i64 lv) := (B1.out.fr0 FA.out).cellAt (i := 2) rfl; have a3 : wa.cell? ⟨bx, 3, none⟩ = some (.bool fin) := (B1.out.fr0 FA.out).cellAt (i := 3) rfl; have ra := HR1.out.fr0 FA.out; have ra0 := ra.cellAt (i := 0) (v := .slice none 0 0) rfl; have ra1 := ra.cellAt (i := 1) (v := .slice none 0 0) rfl; have ra2 := ra.cellAt (i := 2) (v := .int .i64 0) rfl; have ra3 := ra.cellAt (i := 3) (v := .bool false) rfl; have raz := ra.froz; clear ra; have az : ∀ j, wa.frozen? ⟨bx, j, none⟩ = false := (B1.out.fr0 FA.out).froz; clear hga ia fa)
    | (go_at_call 38; with_reducible refine (sClone gh ch G _ (by first | exact HG1.out.drew | exact HG1.out.fr FA.out (by simp)) (by rw [HK.out]; exact h2) k HK.out.symm).mono ?_; rintro e wb ⟨gb, cb, rfl, hgb, ib, fb⟩; have GB := Lib.hid hgb; have IB := Lib.hid ib; have FB := Lib.hid (show Fr [] w2 wb from by first | exact (Fr.refl [] w2).drew.trans0 fb | exact FA.out.trans0 fb); have FC := Lib.hid fb; have b0 : wb.cell? ⟨bx, 0, none⟩ = some (.slice (some ⟨gm, 0, none⟩) n cm) := (B1.out.fr0 FB.out).cellAt (i := 0) rfl; have b1 : wb.cell? ⟨bx, 1, none⟩ = some (.slice (some ⟨gh, 0, none⟩) k ch) := (B1.out.fr0 FB.out).cellAt (i := 1) rfl; have b2 : wb.cell? ⟨bx, 2, none⟩ = some (.int .i64 lv) := (B1.out.fr0 FB.out).cellAt (i := 2) rfl; have b3 : wb.cell? ⟨bx, 3, none⟩ = some (.bool fin) := (B1.out.fr0 FB.out).cellAt (i := 3) rfl; have rb := HR1.out.fr0 FB.out; have rb0 := rb.cellAt (i := 0) (v := .slice none 0 0) rfl; have rb1 := rb.cellAt (i := 1) (v := .slice none 0 0) rfl; have rb2 := rb.cellAt (i := 2) (v := .int .i64 0) rfl; have rb3 := rb.cellAt (i := 3) (v := .bool false) rfl; have rbz := rb.froz; clear rb; have bz : ∀ j, wb.frozen? ⟨bx, j, none⟩ = false := (B1.out.fr0 FB.out).froz; clear hgb ib fb))
  all_goals
    go_wp2_with fail
    obtain ⟨hX, hFX⟩ := clone_end (va := .slice (some ⟨ga, 0, none⟩) n ca) (vb := .slice (some ⟨gb, 0, none⟩) k cb) (vl := .int .i64 lv) (vf := .bool fin) (HR1.out.fr0 FB.out)
    generalize ((((((wb.setCell ⟨bx, 0, none⟩ (.slice (some ⟨ga, 0, none⟩) n ca)).setCell ⟨bx, 1, none⟩ (.slice (some ⟨gb, 0, none⟩) k cb)).setCell ⟨bx + 1, 0, none⟩ (.slice (some ⟨ga, 0, none⟩) n ca)).setCell ⟨bx + 1, 1, none⟩ (.slice (some ⟨gb, 0, none⟩) k cb)).setCell ⟨bx + 1, 2, none⟩ (.int .i64 lv)).setCell ⟨bx + 1, 3, none⟩ (.bool fin)) = X at *
    have y0 := hX.cellAt (i := 0) (v := .slice (some ⟨ga, 0, none⟩) n ca) rfl
    have y1 := hX.cellAt (i := 1) (v := .slice (some ⟨gb, 0, none⟩) k cb) rfl
    have y2 := hX.cellAt (i := 2) (v := .int .i64 lv) rfl
    have y3 := hX.cellAt (i := 3) (v := .bool fin) rfl
    have hr := HR1.out.lt
    have hg1 : w2.heap.size ≤ ga := by have := GA.out; first | exact this | (have h9 := FB.out.size; have h8 : wb.heap.size ≤ ga := this; omega)
    have hg2 : wa.heap.size ≤ gb := GB.out
    have hs1 := FA.out.size
    have hs3 := HF.out.size
    have hi1 := IA.out.lt
    have hi2 := IB.out.lt
    have hb0 := HBX.out
    refine bodyPost_ret (v := .agg #[.slice (some ⟨ga, 0, none⟩) n ca, .slice (some ⟨gb, 0, none⟩) k cb, .int .i64 lv, .bool fin]) (by simp [results, Tryd.results19, go_sem, y0, y1, y2, y3]) rfl ?_
    refine ⟨ga, ca, gb, cb, rfl, ⟨(IA.out.fr FC.out (by simp)).fr hFX (by simp; omega), IB.out.fr hFX (by simp; omega), by omega⟩, by omega, by omega, ?_⟩
    exact (HF.out.trans0 FB.out).trans hFX (fun x hx => by simp at hx; right; omega)
end Go.Proofs.YtnnpjjehecbljaaDoor
