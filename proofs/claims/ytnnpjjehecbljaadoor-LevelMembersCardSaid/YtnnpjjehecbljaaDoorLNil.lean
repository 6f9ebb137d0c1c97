/-
  level.New of nil: the contract's parts.
-/
import Derived.Test.YtnnpjjehecbljaaDoorLNew
namespace Go.Proofs.YtnnpjjehecbljaaDoor
open Go.RowKit Go.Shelf

/-- Sorted, of the values of nil. -/
theorem sSorted0 (Bs : Nat) (w : World) (hseq : SeqStopsK Fence.wide 4 Tryd.prog 32 #[.pointer (some ⟨Bs, 0, none⟩)] (fun x : Int => #[Value.int .i64 x]) (Below w.heap.size) (fun ys => ys = []) (fun _ => True) ([] : List Int).length w) :
    Calls Tryd.prog 14 #[.func (.func 32) #[] #[.pointer (some ⟨Bs, 0, none⟩)]] w fun e w' => ∃ a cap, e = .returned (.slice a 0 cap) ∧ Fr [] w w' := by
  refine (callsIn_wide (n := 7)).1 ?_
  have hC := sCollect Fence.wide 6 trivial trivial rfl (by omega) 32 #[.pointer (some ⟨Bs, 0, none⟩)] trivial (enters_of Tryd.func32 (by kernel_rfl) rfl) [] (by decide) w w (Below.refl _ _) hseq
  have t1 : Fence.wide.fn 30 := trivial
  have t2 : Fence.wide.fn 31 := trivial
  refine callsIn_of_wp Tryd.func14 rfl trivial ?_ rfl
  simp only [Tryd.ntmps14, List.size_toArray, List.length_cons, List.length_nil, Nat.reduceAdd, Nat.reduceSub, Array.replicate_succ, Array.replicate_zero, List.push_toArray, List.append_toArray, List.nil_append, List.cons_append]
  have hsl : ∀ {W : World} {B : Nat} {v : Value}, W.ownsRow B 3 1 v 0 [] → ∃ a cap, v = .slice a 0 cap := by
    intro W B v h
    rcases h.2 with h | ⟨g, cap, cur, h, -⟩
    · exact ⟨none, 0, h.1⟩
    · exact ⟨_, cap, h⟩
  gi_wp2_with (first
    | (gi_at_call 30; refine hC.mono ?_; rintro e w1 ⟨v, rfl, hrow, hb⟩; obtain ⟨a, cap, rfl⟩ := hsl hrow; have HB := Lib.hid (Fr.ofBelow hb); have HS := Lib.hid (callsIn_wide (n := 6).2 (Tryd.slices_Sort_int_none a cap w1)); clear hb hrow)
    | (gi_at_call 31; refine HS.out.mono ?_; rintro e w2 ⟨rfl, rfl⟩))
  go_ret
  exact ⟨a, cap, rfl, HB.out⟩

set_option maxHeartbeats 2000000 in
theorem lRightNo (a b : Option Addr) (ca cb : Nat) (w : World) :
    Calls Tryd.prog 17 #[.agg #[.slice a 0 ca, .slice b 0 cb, .int .i64 1, .bool false]] w fun e w' => e = .returned (.bool false) ∧ Fr [] w w' := by
  have HF := Lib.hid (fun o => (Fr.refl [] w).alloc o)
  go_enter Tryd.func17, Tryd.ntmps17
  go_wp2_with (go_at_call 26; refine (lInNo _ _ _ (by omega) _).mono ?_; rintro e w' ⟨rfl, rfl⟩)
  go_ret
  exact ⟨rfl, HF.out _⟩

set_option maxHeartbeats 4000000 in
set_option maxRecDepth 100000 in
theorem sRepeat0 (bx cx : Nat) (w : World) :
    Calls Tryd.prog 16 #[.slice (some ⟨bx, 0, none⟩) 1 cx, .int .i64 0] w fun e w' => ∃ g cap, e = .returned (.slice (some ⟨g, 0, none⟩) 0 cap) ∧ Fr [] w w' := by
  have mixed : Tryd.prog.follows Departure.mixedOrders = true := by kernel_rfl
  have HM := Lib.hid (Tryd.bits_Mul 1 0 (by decide) (by decide) w)
  go_enter Tryd.func16, Tryd.ntmps16
  go_wp2_with (first
    | (go_at_call 33; refine HM.out.mono ?_; rintro e w' ⟨rfl, rfl⟩)
    | (refine wpList_makeN Tryd.elI rfl _ _ 0 _ _ rfl rfl (by decide) (by decide) ?_; intro g w1 HG HB HF; have HC := fun ty => copyOnes w1 ty g 0 0 0 bx 0 1 cx 0 rfl (fun j hj => absurd hj (Nat.not_lt_zero j)) (fun j hj => absurd hj (Nat.not_lt_zero j)) HB.out.froz)
    | (at_builtin; refine wpList_copy_runI _ rfl _ _ 23 23 rfl _ _ rfl rfl (HC _) ?_))
  all_goals
    go_loopw [8] (fun v wr => v = .int .i64 0 ∧ Hid (Fr [] w' wr)) (fun _ _ => 0)
    case atStart => exact ⟨rfl, HF⟩
    case round =>
      obtain ⟨rfl, F⟩ := hrel
      go_wp2_with fail
      go_ret
      exact ⟨g, 0, rfl, F.out⟩

set_option maxHeartbeats 4000000 in
set_option maxRecDepth 100000 in
theorem lNew0 (w : World) :
    Calls Tryd.prog 6 #[.slice none 0 0] w fun e w' => e = .returned (.tuple #[.agg #[.slice none 0 0, .slice none 0 0, .int .i64 0, .bool false], .bool false]) ∧ Fr [] w w' := by
  obtain ⟨w0, hw0⟩ : ∃ w0, w.alloc (.cells #[.slice none 0 0, .slice none 0 0, .int .i64 0, .bool false] 25) = w0 := ⟨_, rfl⟩
  have F0 : Fr [] w w0 := by rw [← hw0]; exact (Fr.refl [] w).alloc _
  have R0 : Blk w0 w.heap.size #[.slice none 0 0, .slice none 0 0, .int .i64 0, .bool false] 25 := by rw [← hw0]; exact Blk.new _ _ _
  obtain ⟨w1, hw1⟩ : ∃ w1, w0.alloc (.cells #[.slice none 0 0] 23) = w1 := ⟨_, rfl⟩
  have F1 : Fr [] w0 w1 := by rw [← hw1]; exact (Fr.refl [] w0).alloc _
  have B1 : Blk w1 w0.heap.size #[.slice none 0 0] 23 := by rw [← hw1]; exact Blk.new _ _ _
  have HS := Lib.hid (sSorted0 w0.heap.size w1 (sValsStops Fence.wide 4 trivial rfl (by omega) w0.heap.size w1.heap.size _ [] (by decide) w1 B1.lt (Nat.le_refl _) (B1.cellAt (i := 0) rfl) (.inl ⟨rfl, rfl⟩)))
  have HW0 := Lib.hid hw0
  have HW1 := Lib.hid hw1
  have HF0 := Lib.hid (F0.trans0 F1)
  have HR0 := Lib.hid (R0.fr0 F1)
  clear hw0 hw1 F0 F1 R0 B1
  go_enter Tryd.func6, Tryd.ntmps6
  go_upto_region 1 with fail
  rw [HW0.out]
  generalize hrx : w.heap.size = rx at *
  have HRX := Lib.hid hrx
  clear hrx
  go_upto_region 2 with (first
    | (go_at_call 15; refine (sValsC _ _ _ _).mono ?_; rintro e w' ⟨rfl, rfl⟩; rw [HW1.out])
    | (go_at_call 14; refine HS.out.mono ?_; rintro e w2 ⟨a, c2, rfl, f2⟩; have F2 := Lib.hid f2; clear f2)
    | (go_at_call 13; refine (Tryd.slices_Compact_int_empty a c2 _).mono ?_; rintro e w3 ⟨rfl, rfl⟩))
  have R3 := HR0.out.fr0 F2.out
  have FW3 := HF0.out.trans0 F2.out
  have HB4 := Lib.hid (Blk.new w3 #[.slice a 0 c2, .slice none 0 0, .int .i64 1, .bool false] 25)
  have R4 := Lib.hid (R3.alloc (.cells #[.slice a 0 c2, .slice none 0 0, .int .i64 1, .bool false] 25))
  have FW4 := Lib.hid (FW3.alloc (.cells #[.slice a 0 c2, .slice none 0 0, .int .i64 1, .bool false] 25))
  have hlt3 := Lib.hid R3.lt
  clear R3 FW3 HR0 HF0 HS
  generalize hw4 : w3.alloc (.cells #[.slice a 0 c2, .slice none 0 0, .int .i64 1, .bool false] 25) = w4 at *
  clear hw4
  have hrd : rx < w3.heap.size := hlt3.out
  generalize w3.heap.size = dx at *
  have d0 := HB4.out.cellAt (i := 0) (v := .slice a 0 c2) rfl
  have hd4 := HB4.out.lt
  have HRep := Lib.hid (sRepeat0 w4.heap.size 1 (w4.alloc (.cells #[.int .i64 1] 3)))
  have HB5 := Lib.hid (HB4.out.alloc (.cells #[.int .i64 1] 3))
  have R5 := Lib.hid (R4.out.alloc (.cells #[.int .i64 1] 3))
  have FW5 := Lib.hid (FW4.out.alloc (.cells #[.int .i64 1] 3))
  go_upto_region 3 with (go_at_call 16; refine HRep.out.mono ?_; rintro e w6 ⟨g6, c6, rfl, f6⟩; have B6 := Lib.hid (HB5.out.fr0 f6); have R6 := Lib.hid (R5.out.fr0 f6); have FW6 := Lib.hid (FW5.out.trans0 f6); have q1 := B6.out.cellAt (i := 1) (v := .slice none 0 0) rfl; have z1 := B6.out.froz 1; clear f6)
  have hne : rx ≠ dx := by omega
  have hwd : w.heap.size ≤ dx := by have := HRX.out; omega
  have B7 : Hid (Blk (w6.setCell ⟨dx, 1, none⟩ (.slice (some ⟨g6, 0, none⟩) 0 c6)) dx #[.slice a 0 c2, .slice (some ⟨g6, 0, none⟩) 0 c6, .int .i64 1, .bool false] 25) := B6.out.set 1 _
  have R7 : Hid (Blk (w6.setCell ⟨dx, 1, none⟩ (.slice (some ⟨g6, 0, none⟩) 0 c6)) rx #[.slice none 0 0, .slice none 0 0, .int .i64 0, .bool false] 25) := R6.out.far (p := ⟨dx, 1, none⟩) hne _
  have FW7 : Hid (Fr [] w (w6.setCell ⟨dx, 1, none⟩ (.slice (some ⟨g6, 0, none⟩) 0 c6))) := FW6.out.setCell (p := ⟨dx, 1, none⟩) (Or.inr hwd) _
  clear FW6 B6 R6 q1 z1 d0 HRep HB5 R5 FW5 HB4 R4 FW4
  generalize w6.setCell ⟨dx, 1, none⟩ (.slice (some ⟨g6, 0, none⟩) 0 c6) = w7 at *
  have p0 := B7.out.cellAt (i := 0) (v := .slice a 0 c2) rfl
  have p1 := B7.out.cellAt (i := 1) (v := .slice (some ⟨g6, 0, none⟩) 0 c6) rfl
  have p2 := B7.out.cellAt (i := 2) (v := .int .i64 1) rfl
  have p3 := B7.out.cellAt (i := 3) (v := .bool false) rfl
  go_wp2_with (go_at_call 17; refine (lRightNo _ _ _ _ _).mono ?_; rintro e w8 ⟨rfl, f8⟩; have F8 := Lib.hid f8; have R8 := R7.out.fr0 f8; have r0 := R8.cellAt (i := 0) (v := .slice none 0 0) rfl; have r1 := R8.cellAt (i := 1) (v := .slice none 0 0) rfl; have r2 := R8.cellAt (i := 2) (v := .int .i64 0) rfl; have r3 := R8.cellAt (i := 3) (v := .bool false) rfl; have rz := R8.froz; have HR8 := Lib.hid R8; clear f8 R8)
  obtain ⟨hX, hFX⟩ := set4_end (va := .slice none 0 0) (vb := .slice none 0 0) (vl := .int .i64 0) (vf := .bool false) HR8.out
  generalize (((w8.setCell ⟨rx, 0, none⟩ (.slice none 0 0)).setCell ⟨rx, 1, none⟩ (.slice none 0 0)).setCell ⟨rx, 2, none⟩ (.int .i64 0)).setCell ⟨rx, 3, none⟩ (.bool false) = X at *
  have y0 := hX.cellAt (i := 0) (v := .slice none 0 0) rfl
  have y1 := hX.cellAt (i := 1) (v := .slice none 0 0) rfl
  have y2 := hX.cellAt (i := 2) (v := .int .i64 0) rfl
  have y3 := hX.cellAt (i := 3) (v := .bool false) rfl
  refine bodyPost_ret (v := .tuple #[.agg #[.slice none 0 0, .slice none 0 0, .int .i64 0, .bool false], .bool false]) (by simp [results, Tryd.results6, go_sem, y0, y1, y2, y3]) rfl ?_
  have hrx := HRX.out
  exact ⟨rfl, (FW7.out.trans0 F8.out).trans hFX (fun x hx => by simp at hx; right; omega)⟩
end Go.Proofs.YtnnpjjehecbljaaDoor
