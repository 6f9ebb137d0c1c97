/-
  queue: slices.SortedFunc over the items, All: contracts.
-/
import Derived.Test.YtbafgheblindmaaQAll
namespace Go.Proofs.Ytbafgheblindmaa
open Go.RowKit Go.Shelf Go.Sort

set_option maxHeartbeats 2000000 in
theorem qSortedF (L S : List Itm) (h4 : L.length ≤ 4096) (hp : L.Perm S) (hs : Sorted S) (Bs : Nat) (w : World) (hseq : SeqStopsK Fence.wide 4 Try.prog 40 #[.pointer (some ⟨Bs, 0, none⟩)] (fun x : Itm => #[Itm.val x]) (Below w.heap.size) (fun ys => ys = L) (fun _ => True) L.length w) :
    Calls Try.prog 28 #[.func (.func 40) #[] #[.pointer (some ⟨Bs, 0, none⟩)], .func (.func 30) #[] #[]] w fun e w' => ∃ v, e = .returned v ∧ w'.ownsRow w.heap.size 31 4 v S.length (flat S) ∧ Below w.heap.size w w' := by
  refine (callsIn_wide (n := 7)).1 ?_
  have hC := qCollect Fence.wide 6 trivial trivial rfl (by omega) 40 #[.pointer (some ⟨Bs, 0, none⟩)] trivial (enters_of Try.func40 (by kernel_rfl) rfl) L h4 w w (Below.refl _ _) hseq
  have t1 : Fence.wide.fn 38 := trivial
  have t2 : Fence.wide.fn 39 := trivial
  refine callsIn_of_wp Try.func28 rfl trivial ?_ rfl
  simp only [Try.ntmps28, List.size_toArray, List.length_cons, List.length_nil, Nat.reduceAdd, Nat.reduceSub, Array.replicate_succ, Array.replicate_zero, List.push_toArray, List.append_toArray, List.nil_append, List.cons_append]
  gi_wp2_with (first
    | (gi_at_call 38; refine hC.mono ?_; rintro e w1 ⟨v, rfl, hrow, hb⟩; have HB := Lib.hid hb; have HR := Lib.hid hrow; have HS := Lib.hid (callsIn_wide (n := 6).2 (qSort v L S w.heap.size w1 h4 hrow hp hs hb.size)); clear hb hrow)
    | (gi_at_call 39; refine HS.out.mono ?_; rintro e w2 ⟨rfl, hrow2, hb2⟩))
  go_ret
  exact ⟨v, rfl, hrow2, HB.out.trans hb2⟩

set_option maxHeartbeats 2000000 in
theorem qAll (q : Nat) (v : Value) (S : List Itm) (last : Int) (w : World) (h : QS w q v S last) :
    Calls Try.prog 15 #[.pointer (some ⟨q, 0, none⟩)] w fun e w' => ∃ v', e = .returned v' ∧ w'.ownsRow w.heap.size 31 4 v' S.length (flat S) ∧ Fr [] w w' := by
  obtain ⟨L, hB, hO⟩ := h
  obtain ⟨a, c, rfl⟩ := hB.slice
  have hq := hB.blk.cellAt (i := 0) rfl
  have h4 := hO.room
  have hBx := Boxed.new w 58 (.slice a L.length c)
  have hA : ItsAt w.heap.size (w.alloc (.cells #[.slice a L.length c] 58)) (.slice a L.length c) L := hB.its.at.below ((Below.refl _ _).alloc (Nat.le_refl _) _)
  have HS := Lib.hid (qSortedF L S h4 hO.perm hO.sorted w.heap.size (w.alloc (.cells #[.slice a L.length c] 58))
    (qValsStops Fence.wide 4 trivial rfl (by omega) w.heap.size _ _ L h4 _ (by simp) (Nat.le_refl _) hBx.cell (hA.more (by simp))))
  clear hB hO hA hBx
  generalize L.length = n at *
  go_enter Try.func15, Try.ntmps15
  go_wp2_with (first
    | (go_at_call 29; refine (qValsC _ _ _ _).mono ?_; rintro e w' ⟨rfl, rfl⟩)
    | (go_at_call 28; refine HS.out.mono ?_; rintro e w' ⟨v2, rfl, hrow, hb⟩))
  go_ret
  exact ⟨v2, rfl, ownsRow_base hrow (by simp), (Fr.ofBelow (((Below.refl w.heap.size w).alloc (Nat.le_refl _) _).trans (hb.mono (by simp))))⟩
end Go.Proofs.Ytbafgheblindmaa
