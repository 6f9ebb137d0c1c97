/-
  slices.Sorted over the values of a slice of ints, slices.Compact, slices.Delete: contracts.
-/
import Derived.Test.YtnnpjjehecbljaaDoorLSeq
import Derived.Test.YtnnpjjehecbljaaDoorLSort
import Derived.Test.YtnnpjjehecbljaaDoorFShelf
import Derived.Lib.SlKeysI
namespace Go.Proofs.YtnnpjjehecbljaaDoor
open Go.RowKit Go.Shelf Go.Sort Go.Maps

theorem Iv.holds {w : World} {g cap : Nat} {l : List Int} (h : Iv w g cap l) : Holds (Value.int .i64) w g 0 l.toArray := by
  obtain ⟨cur, h1, h2, h3, h4, h5⟩ := h
  exact holds_of_block_i h1 h5
theorem Iv.putG {w : World} {g cap n : Nat} {os : Array Obj} {l ts : List Int} (h : Iv w g cap l) (hl : ts.length = l.length) :
    Iv (grow (putRow (Value.int .i64) (Sort.ahead w n) g 0 ts.toArray) os) g cap ts ∧ Fr [g] w (grow (putRow (Value.int .i64) (Sort.ahead w n) g 0 ts.toArray) os) := by
  obtain ⟨cur, h1, h2, h3, h4, h5⟩ := h
  refine ⟨⟨_, heap_sorted_i _ h1, by omega, h3, by simp [putCells, h4], take_putCells_i cur ts (by omega)⟩, ?_⟩
  have := Fr.ofGrown (grownBy_sorted_i (w := w) (g := g) (n := n) (os := os) ts.toArray)
  exact this
theorem Iv.put {w : World} {g cap n : Nat} {l ts : List Int} (h : Iv w g cap l) (hl : ts.length = l.length) :
    Iv (putRow (Value.int .i64) (Sort.ahead w n) g 0 ts.toArray) g cap ts ∧ Fr [g] w (putRow (Value.int .i64) (Sort.ahead w n) g 0 ts.toArray) := by
  have := h.putG (n := n) (os := #[]) hl
  rwa [grow_empty] at this
theorem isortL_length (l : List Int) : (isortL l).length = l.length := (isortL_perm l).length_eq

/-- Sort: of a slice that is not empty. -/
theorem sSort (g cap : Nat) (l : List Int) (w : World) (h : Iv w g cap l) (hl : l.length ≤ 4096) (n : Nat) (hn : n = l.length) :
    Calls Tryd.prog 31 #[.slice (some ⟨g, 0, none⟩) n cap] w fun e w' => e = .returned (.tuple #[]) ∧ Iv w' g cap (isortL l) ∧ Fr [g] w w' := by
  subst hn
  refine (Tryd.slices_Sort_int g 0 cap l w h.holds h.lt (by omega)).mono ?_
  rintro e w' ⟨rfl, n, os, rfl⟩
  rw [msort_eq]
  have := h.putG (n := n) (os := os) (isortL_length l)
  exact ⟨rfl, this.1, this.2⟩
theorem compact_le (l : List Int) : (Lib.compact l).length ≤ l.length := by
  unfold Lib.compact Lib.compactUpTo
  rw [List.length_map]
  exact Nat.le_trans (List.length_filter_le _ _) (by rw [List.length_range]; exact Nat.le_refl _)
theorem sCompact (g cap : Nat) (l : List Int) (w : World) (h : Iv w g cap l) (hl : l.length ≤ 4096) (n : Nat) (hn : n = l.length) :
    Calls Tryd.prog 13 #[.slice (some ⟨g, 0, none⟩) n cap] w fun e w' => e = .returned (.slice (some ⟨g, 0, none⟩) (Lib.compact l).length cap) ∧ Iv w' g cap (Lib.compact l) ∧ Fr [g] w w' := by
  subst hn
  refine (Tryd.slices_Compact_int g 0 cap l w h.holds (by omega) h.le.1).mono ?_
  rintro e w' ⟨rfl, q, rfl⟩
  have hc := compact_le l
  have := h.put (n := q) (ts := Lib.compact l ++ List.replicate (l.length - (Lib.compact l).length) 0) (by rw [List.length_append, List.length_replicate]; omega)
  refine ⟨rfl, ?_, this.2⟩
  have h2 := this.1.take (Lib.compact l).length
  rwa [List.take_left] at h2
theorem sDelete (g cap : Nat) (l : List Int) (p : Nat) (w : World) (h : Iv w g cap l) (hl : l.length ≤ 4096) (hp : p < l.length) (n : Nat) (hn : n = l.length) (j : Int) (hj : j = (p : Int) + 1) :
    Calls Tryd.prog 41 #[.slice (some ⟨g, 0, none⟩) n cap, .int .i64 (p : Nat), .int .i64 j] w fun e w' => e = .returned (.slice (some ⟨g, 0, none⟩) (delL l p).length cap) ∧ Iv w' g cap (delL l p) ∧ Fr [g] w w' := by
  subst hn
  have hj' : j = ((p + 1 : Nat) : Int) := by omega
  subst hj'
  have hm := h.le.2
  refine (Tryd.slices_Delete_int g 0 cap p (p + 1) l w h.holds h.le.1 (by unfold maxLen at hm; omega) (by omega) (by omega)).mono ?_
  rintro e w' ⟨rfl, q, rfl⟩
  have hd := delL_length l p hp
  have := h.put (n := q) (ts := l.take p ++ l.drop (p + 1) ++ List.replicate (p + 1 - p) 0) (by rw [List.length_append, List.length_replicate]; have : (delL l p).length = (l.take p ++ l.drop (p + 1)).length := rfl; omega)
  refine ⟨by rw [hd]; congr 2; omega, ?_, this.2⟩
  have h2 := this.1.take (delL l p).length
  have e : (l.take p ++ l.drop (p + 1) ++ List.replicate (p + 1 - p) 0).take (delL l p).length = delL l p := by
    show (delL l p ++ List.replicate (p + 1 - p) 0).take (delL l p).length = delL l p
    rw [List.take_left]
  rwa [e] at h2

set_option maxHeartbeats 2000000 in
/-- Sorted, of the values of a slice of ints that has elements. -/
theorem sSorted (L : List Int) (hne : L ≠ []) (h4 : L.length ≤ 4096) (Bs : Nat) (w : World) (hseq : SeqStopsK Fence.wide 4 Tryd.prog 32 #[.pointer (some ⟨Bs, 0, none⟩)] (fun x : Int => #[Value.int .i64 x]) (Below w.heap.size) (fun ys => ys = L) (fun _ => True) L.length w) :
    Calls Tryd.prog 14 #[.func (.func 32) #[] #[.pointer (some ⟨Bs, 0, none⟩)]] w fun e w' => ∃ g cap, e = .returned (.slice (some ⟨g, 0, none⟩) L.length cap) ∧ w.heap.size ≤ g ∧ Iv w' g cap (isortL L) ∧ Fr [] w w' := by
  refine (callsIn_wide (n := 7)).1 ?_
  have hC := sCollect Fence.wide 6 trivial trivial rfl (by omega) 32 #[.pointer (some ⟨Bs, 0, none⟩)] trivial (enters_of Tryd.func32 (by kernel_rfl) rfl) L h4 w w (Below.refl _ _) hseq
  have t1 : Fence.wide.fn 30 := trivial
  have t2 : Fence.wide.fn 31 := trivial
  refine callsIn_of_wp Tryd.func14 rfl trivial ?_ rfl
  simp only [Tryd.ntmps14, List.size_toArray, List.length_cons, List.length_nil, Nat.reduceAdd, Nat.reduceSub, Array.replicate_succ, Array.replicate_zero, List.push_toArray, List.append_toArray, List.nil_append, List.cons_append]
  have hn0 : L.length ≠ 0 := fun h => hne (List.eq_nil_of_length_eq_zero h)
  gi_wp2_with (first
    | (gi_at_call 30; refine hC.mono ?_; rintro e w1 ⟨v, rfl, hrow, hb⟩; obtain ⟨g, cap, rfl, hg, -, hI⟩ := Iv.of_owns hrow (by rintro rfl; rcases hrow.2 with h | ⟨g, cap, cur, h, -⟩; exact hn0 h.2; cases h); have HB := Lib.hid (Fr.ofBelow hb); have HG := Lib.hid hg; have HS := Lib.hid (callsIn_wide (n := 6).2 (sSort g cap L w1 hI h4 _ rfl)); clear hb hrow hI)
    | (gi_at_call 31; refine HS.out.mono ?_; rintro e w2 ⟨rfl, hI2, hF2⟩))
  go_ret
  exact ⟨g, cap, rfl, HG.out, hI2, HB.out.trans hF2 (fun x hx => by simp at hx; subst hx; right; exact HG.out)⟩
end Go.Proofs.YtnnpjjehecbljaaDoor
