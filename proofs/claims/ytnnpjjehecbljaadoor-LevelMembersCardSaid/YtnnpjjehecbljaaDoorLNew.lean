/-
  level.New: the contract.
-/
import Derived.Test.YtnnpjjehecbljaaDoorLSrt
import Derived.Test.YtnnpjjehecbljaaDoorLRep
import Derived.Test.YtnnpjjehecbljaaDoorLRt
namespace Go.Proofs.YtnnpjjehecbljaaDoor
open Go.RowKit Go.Shelf

/-- The config that New makes. -/
def newC (L : List Int) : Cfg := ⟨memL L, List.replicate (memL L).length 1, 1, false⟩

theorem set4_end {u : World} {r : Nat} {va vb vl vf z0 z1 z2 z3 : Value} {t : TypeId} (hR : Blk u r #[z0, z1, z2, z3] t) :
    Blk ((((u.setCell ⟨r, 0, none⟩ va).setCell ⟨r, 1, none⟩ vb).setCell ⟨r, 2, none⟩ vl).setCell ⟨r, 3, none⟩ vf) r #[va, vb, vl, vf] t ∧
    Fr [r] u ((((u.setCell ⟨r, 0, none⟩ va).setCell ⟨r, 1, none⟩ vb).setCell ⟨r, 2, none⟩ vl).setCell ⟨r, 3, none⟩ vf) := by
  constructor
  · exact (((hR.set 0 va).set 1 vb).set 2 vl).set 3 vf
  · exact (((((Fr.refl _ u).setCell (p := ⟨r, 0, none⟩) (by simp) va).setCell (p := ⟨r, 1, none⟩) (by simp) vb).setCell (p := ⟨r, 2, none⟩) (by simp) vl).setCell (p := ⟨r, 3, none⟩) (by simp) vf)
theorem newC_cells (L : List Int) (gm cm gh ch k : Nat) (hk : (memL L).length = k) : cfC gm cm gh ch (newC L) = #[.slice (some ⟨gm, 0, none⟩) k cm, .slice (some ⟨gh, 0, none⟩) k ch, .int .i64 1, .bool false] := by
  unfold cfC ivV newC
  simp [hk]

set_option maxHeartbeats 4000000 in
set_option maxRecDepth 100000 in
theorem lNew (g cap : Nat) (L : List Int) (w : World) (h : Iv w g cap L) (hne : L ≠ []) (h4 : L.length ≤ 4096) (hok : (newC L).ok = true) :
    Calls Tryd.prog 6 #[.slice (some ⟨g, 0, none⟩) L.length cap] w fun e w' => ∃ gm cm gh ch, e = .returned (.tuple #[.agg (cfC gm cm gh ch (newC L)), .bool true]) ∧ Cf w' gm cm gh ch (newC L) ∧ w.heap.size ≤ gm ∧ w.heap.size ≤ gh ∧ Fr [] w w' := by
  have hn1 : 1 ≤ (memL L).length := ((Cfg.ok_iff _).1 hok).1
  have hn7 : (memL L).length ≤ 7 := ((Cfg.ok_iff _).1 hok).2.1
  have hZ : (memL L).length = (Lib.compact (isortL L)).length := rfl
  obtain ⟨w0, hw0⟩ : ∃ w0, w.alloc (.cells #[.slice none 0 0, .slice none 0 0, .int .i64 0, .bool false] 25) = w0 := ⟨_, rfl⟩
  have F0 : Fr [] w w0 := by rw [← hw0]; exact (Fr.refl [] w).alloc _
  have R0 : Blk w0 w.heap.size #[.slice none 0 0, .slice none 0 0, .int .i64 0, .bool false] 25 := by rw [← hw0]; exact Blk.new _ _ _
  have h0 : Iv w0 g cap L := h.fr F0 (by simp)
  obtain ⟨w1, hw1⟩ : ∃ w1, w0.alloc (.cells #[.slice (some ⟨g, 0, none⟩) L.length cap] 23) = w1 := ⟨_, rfl⟩
  have F1 : Fr [] w0 w1 := by rw [← hw1]; exact (Fr.refl [] w0).alloc _
  have B1 : Blk w1 w0.heap.size #[.slice (some ⟨g, 0, none⟩) L.length cap] 23 := by rw [← hw1]; exact Blk.new _ _ _
  have h1 : Iv w1 g cap L := h0.fr F1 (by simp)
  have HS := Lib.hid (sSorted L hne h4 w0.heap.size w1 (sValsStops Fence.wide 4 trivial rfl (by omega) w0.heap.size w1.heap.size _ L h4 w1 B1.lt (Nat.le_refl _) (B1.cellAt (i := 0) rfl) h1.at))
  have HW0 := Lib.hid hw0
  have HW1 := Lib.hid hw1
  have HF0 := Lib.hid F0
  have HF1 := Lib.hid F1
  have HR0 := Lib.hid R0
  clear hw0 hw1 F0 F1 R0 h0 h1 B1 h
  have hil : (isortL L).length = L.length := isortL_length L
  generalize hl : L.length = n at *
  go_enter Tryd.func6, Tryd.ntmps6
  go_upto_region 1 with fail
  rw [HW0.out]
  have HRL := Lib.hid HR0.out.lt
  generalize hrx : w.heap.size = rx at *
  have HRX := Lib.hid hrx
  clear hrx
  go_upto_region 2 with (first
    | (go_at_call 15; refine (sValsC _ _ _ _).mono ?_; rintro e w' ⟨rfl, rfl⟩; rw [HW1.out])
    | (go_at_call 14; refine HS.out.mono ?_; rintro e w2 ⟨g2, c2, rfl, hg2, i2, f2⟩; have G2 := Lib.hid hg2; have I2 := Lib.hid i2; have F2 := Lib.hid f2; clear hg2 i2 f2)
    | (go_at_call 13; refine (sCompact g2 c2 (isortL L) _ I2.out (by omega) _ (by omega)).mono ?_; rintro e w3 ⟨rfl, i3, f3⟩; have I3 := Lib.hid i3; have F3 := Lib.hid f3; clear i3 f3))
  have hk2 : (memL L).length = (Lib.compact (isortL L)).length := rfl
  have I3' : Hid (Iv w3 g2 c2 (memL L)) := I3
  clear I3 hZ HS
  generalize hk : (Lib.compact (isortL L)).length = k at *
  have hg2 := I3'.out.lt
  have hs0 := HF1.out.size
  have hs1 := F2.out.size
  have hs2 := F3.out.size
  have hs3 := G2.out
  have hr0 := HRL.out
  have R3 := Lib.hid (((HR0.out.fr0 HF1.out).fr0 F2.out).fr F3.out (by simp; omega))
  have FW3 := Lib.hid ((HF0.out.trans0 (HF1.out.trans0 F2.out)).trans F3.out (fun x hx => by simp at hx; subst hx; right; have := HF0.out.size; omega))
  have B4 := Blk.new w3 #[.slice (some ⟨g2, 0, none⟩) k c2, .slice none 0 0, .int .i64 1, .bool false] 25
  have I4 := Lib.hid (I3'.out.alloc (.cells #[.slice (some ⟨g2, 0, none⟩) k c2, .slice none 0 0, .int .i64 1, .bool false] 25))
  have R4 := Lib.hid (R3.out.alloc (.cells #[.slice (some ⟨g2, 0, none⟩) k c2, .slice none 0 0, .int .i64 1, .bool false] 25))
  have FW4 := Lib.hid (FW3.out.alloc (.cells #[.slice (some ⟨g2, 0, none⟩) k c2, .slice none 0 0, .int .i64 1, .bool false] 25))
  have HB4 := Lib.hid B4
  clear B4 R3 FW3 I3' HF0 HF1 HR0 I2 F2 F3
  generalize hw4 : w3.alloc (.cells #[.slice (some ⟨g2, 0, none⟩) k c2, .slice none 0 0, .int .i64 1, .bool false] 25) = w4 at *
  clear hw4
  generalize hdx : w3.heap.size = dx at *
  have d0 := HB4.out.cellAt (i := 0) (v := .slice (some ⟨g2, 0, none⟩) k c2) rfl
  have hd4 := HB4.out.lt
  have HRep := Lib.hid (sRepeat w4.heap.size 1 k (w4.alloc (.cells #[.int .i64 1] 3)) ((Blk.new w4 #[.int .i64 1] 3).cellAt (i := 0) rfl) (by omega) (by omega))
  have HB5 := Lib.hid (HB4.out.alloc (.cells #[.int .i64 1] 3))
  have R5 := Lib.hid (R4.out.alloc (.cells #[.int .i64 1] 3))
  have I5 := Lib.hid (I4.out.alloc (.cells #[.int .i64 1] 3))
  have FW5 := Lib.hid (FW4.out.alloc (.cells #[.int .i64 1] 3))
  go_upto_region 3 with (go_at_call 16; refine HRep.out.mono ?_; rintro e w6 ⟨g6, c6, rfl, hg6, i6, f6⟩; have G6 := Lib.hid hg6; have I6 := Lib.hid i6; have F6 := Lib.hid f6; have B6 := Lib.hid (HB5.out.fr0 f6); have R6 := Lib.hid (R5.out.fr0 f6); have J6 := Lib.hid (I5.out.fr f6 (by simp)); have FW6 := Lib.hid (FW5.out.trans0 f6); have q1 := B6.out.cellAt (i := 1) (v := .slice none 0 0) rfl; have z1 := B6.out.froz 1; clear hg6 i6 f6)
  have hs5 : w4.heap.size < (w4.alloc (.cells #[.int .i64 1] 3)).heap.size := by simp
  have hg6 := G6.out
  have hs6 := F6.out.size
  have hl6 := I6.out.lt
  have hg26 : g2 ≠ g6 := by omega
  have hrd : rx ≠ dx := by omega
  have B7 : Hid (Blk (w6.setCell ⟨dx, 1, none⟩ (.slice (some ⟨g6, 0, none⟩) k c6)) dx #[.slice (some ⟨g2, 0, none⟩) k c2, .slice (some ⟨g6, 0, none⟩) k c6, .int .i64 1, .bool false] 25) := B6.out.set 1 _
  have R7 : Hid (Blk (w6.setCell ⟨dx, 1, none⟩ (.slice (some ⟨g6, 0, none⟩) k c6)) rx #[.slice none 0 0, .slice none 0 0, .int .i64 0, .bool false] 25) := R6.out.far (p := ⟨dx, 1, none⟩) hrd _
  have I7 : Hid (Iv (w6.setCell ⟨dx, 1, none⟩ (.slice (some ⟨g6, 0, none⟩) k c6)) g2 c2 (memL L)) := J6.out.far (p := ⟨dx, 1, none⟩) (by show g2 ≠ dx; omega) _
  have K7 : Hid (Iv (w6.setCell ⟨dx, 1, none⟩ (.slice (some ⟨g6, 0, none⟩) k c6)) g6 c6 (List.replicate k 1)) := I6.out.far (p := ⟨dx, 1, none⟩) (by show g6 ≠ dx; omega) _
  have hw0s : w.heap.size ≤ dx := by have := HRX.out; omega
  have FW7 : Hid (Fr [] w (w6.setCell ⟨dx, 1, none⟩ (.slice (some ⟨g6, 0, none⟩) k c6))) := FW6.out.setCell (p := ⟨dx, 1, none⟩) (Or.inr hw0s) _
  clear FW6 I6 J6 B6 R6 q1 z1 d0 HRep HB5 R5 I5 FW5 HB4 I4 R4 FW4
  generalize w6.setCell ⟨dx, 1, none⟩ (.slice (some ⟨g6, 0, none⟩) k c6) = w7 at *
  have hCf : Cf w7 g2 c2 g6 c6 (newC L) := ⟨I7.out, by show Iv w7 g6 c6 (List.replicate (memL L).length 1); rw [hk2]; exact K7.out, hg26⟩
  have HCf := Lib.hid hCf
  have HRt := Lib.hid (lRight g2 c2 g6 c6 (newC L) w7 hCf hok)
  have HCell := Lib.hid (newC_cells L g2 c2 g6 c6 k hk2)
  rw [HCell.out] at HRt
  clear hCf
  have p0 := B7.out.cellAt (i := 0) (v := .slice (some ⟨g2, 0, none⟩) k c2) rfl
  have p1 := B7.out.cellAt (i := 1) (v := .slice (some ⟨g6, 0, none⟩) k c6) rfl
  have p2 := B7.out.cellAt (i := 2) (v := .int .i64 1) rfl
  have p3 := B7.out.cellAt (i := 3) (v := .bool false) rfl
  go_wp2_with (go_at_call 17; refine HRt.out.mono ?_; rintro e w8 ⟨rfl, f8⟩; have F8 := Lib.hid f8; have B8 := B7.out.fr0 f8; have p0 := B8.cellAt (i := 0) (v := .slice (some ⟨g2, 0, none⟩) k c2) rfl; have p1 := B8.cellAt (i := 1) (v := .slice (some ⟨g6, 0, none⟩) k c6) rfl; have p2 := B8.cellAt (i := 2) (v := .int .i64 1) rfl; have p3 := B8.cellAt (i := 3) (v := .bool false) rfl; have R8 := R7.out.fr0 f8; have r0 := R8.cellAt (i := 0) (v := .slice none 0 0) rfl; have r1 := R8.cellAt (i := 1) (v := .slice none 0 0) rfl; have r2 := R8.cellAt (i := 2) (v := .int .i64 0) rfl; have r3 := R8.cellAt (i := 3) (v := .bool false) rfl; have rz := R8.froz; have HR8 := Lib.hid R8; clear f8 B8 R8)
  obtain ⟨hX, hFX⟩ := set4_end (va := .slice (some ⟨g2, 0, none⟩) k c2) (vb := .slice (some ⟨g6, 0, none⟩) k c6) (vl := .int .i64 1) (vf := .bool false) HR8.out
  generalize (((w8.setCell ⟨rx, 0, none⟩ (.slice (some ⟨g2, 0, none⟩) k c2)).setCell ⟨rx, 1, none⟩ (.slice (some ⟨g6, 0, none⟩) k c6)).setCell ⟨rx, 2, none⟩ (.int .i64 1)).setCell ⟨rx, 3, none⟩ (.bool false) = X at *
  have y0 := hX.cellAt (i := 0) (v := .slice (some ⟨g2, 0, none⟩) k c2) rfl
  have y1 := hX.cellAt (i := 1) (v := .slice (some ⟨g6, 0, none⟩) k c6) rfl
  have y2 := hX.cellAt (i := 2) (v := .int .i64 1) rfl
  have y3 := hX.cellAt (i := 3) (v := .bool false) rfl
  refine bodyPost_ret (v := .tuple #[.agg #[.slice (some ⟨g2, 0, none⟩) k c2, .slice (some ⟨g6, 0, none⟩) k c6, .int .i64 1, .bool false], .bool true]) (by simp [results, Tryd.results6, go_sem, y0, y1, y2, y3]) rfl ?_
  have hrx := HRX.out
  refine ⟨g2, c2, g6, c6, by rw [HCell.out], ((HCf.out.fr F8.out (by simp) (by simp)).fr hFX (by simp; omega) (by simp; omega)), by omega, by omega, ?_⟩
  exact (FW7.out.trans0 F8.out).trans hFX (fun x hx => by simp at hx; right; omega)
end Go.Proofs.YtnnpjjehecbljaaDoor
