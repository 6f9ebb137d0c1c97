/-
  queue: slices.SortFunc over the items, slices.SortedFunc, All: contracts.
-/
import Derived.Test.YtbafgheblindmaaQApS
import Derived.Test.YtbafgheblindmaaQShelf
namespace Go.Proofs.Ytbafgheblindmaa
open Go.RowKit Go.Shelf Go.Sort

instance : Inhabited Itm := ⟨it0⟩

set_option maxHeartbeats 2000000 in
theorem qOrderG (a b : Itm) (w : World) : Calls Try.prog 30 #[.agg a.cells.toArray, .agg b.cells.toArray] w fun e w' => e = .returned (.int .i64 (ordI a b)) ∧ ∃ q os, w' = grow (w.drewN q) os := by
  unfold Itm.cells ordI
  have B1 := Blk.alloc (Blk.new w #[.int .u64 a.time, .int .u64 a.order, .int .i64 a.to, .string a.data] 31) (.cells #[.int .u64 b.time, .int .u64 b.order, .int .i64 b.to, .string b.data] 31)
  have B2 := Blk.new (w.alloc (.cells #[.int .u64 a.time, .int .u64 a.order, .int .i64 a.to, .string a.data] 31)) #[.int .u64 b.time, .int .u64 b.order, .int .i64 b.to, .string b.data] 31
  rw [show (w.alloc (.cells #[.int .u64 a.time, .int .u64 a.order, .int .i64 a.to, .string a.data] 31)).heap.size = w.heap.size + 1 by simp] at B2
  have SB1 := Lib.hid B1
  have SB2 := Lib.hid B2
  clear B1 B2
  go_enter Try.func30, Try.ntmps30
  go_wp2
  generalize hw2 : ((w.alloc (.cells #[.int .u64 a.time, .int .u64 a.order, .int .i64 a.to, .string a.data] 31)).alloc (.cells #[.int .u64 b.time, .int .u64 b.order, .int .i64 b.to, .string b.data] 31)) = w2 at *
  have HW := Lib.hid hw2
  clear hw2
  generalize w.heap.size = bx at *
  have f0 := SB1.out.cellAt (i := 0) rfl
  have f1 := SB1.out.cellAt (i := 1) rfl
  have g0 := SB2.out.cellAt (i := 0) rfl
  have g1 := SB2.out.cellAt (i := 1) rfl
  go_region_held3 (fun w' => w'.cell? ⟨bx, 0, none⟩ = some (.int .u64 a.time) ∧ w'.cell? ⟨bx, 1, none⟩ = some (.int .u64 a.order) ∧ w'.cell? ⟨bx + 1, 0, none⟩ = some (.int .u64 b.time) ∧ w'.cell? ⟨bx + 1, 1, none⟩ = some (.int .u64 b.order))
    (go_keep)
    (first | (go_at_call 42; refine (cCompare _ _ _).mono ?_; rintro r w' ⟨rfl, rfl⟩) | (go_at_call 41; refine (cOr _ _ _ _ (by first | exact (Blk.new _ _ _).cellAt (i := 0) rfl | exact (Blk.drew (Blk.new _ _ _)).cellAt (i := 0) rfl) (by first | exact (Blk.new _ _ _).cellAt (i := 1) rfl | exact (Blk.drew (Blk.new _ _ _)).cellAt (i := 1) rfl)).mono ?_; rintro r w' ⟨rfl, rfl⟩))
  go_wp2_with fail
  go_ret
  refine ⟨rfl, 1, #[.cells #[.int .u64 a.time, .int .u64 a.order, .int .i64 a.to, .string a.data] 31, .cells #[.int .u64 b.time, .int .u64 b.order, .int .i64 b.to, .string b.data] 31, .cells #[.int .i64 (cmpI a.time b.time), .int .i64 (cmpI a.order b.order)] 3], ?_⟩
  rw [← HW.out]
  have h3 : ∀ (w : World) (A B C : Obj), (((w.alloc A).alloc B).alloc C).drew = grow (w.drewN 1) #[A, B, C] := fun w A B C => by
    rw [alloc_eq_grow, alloc_eq_grow, alloc_eq_grow, grow_grow, grow_grow]
    rfl
  exact h3 _ _ _ _

theorem qCmpLays (blk off size : Nat) (w : World) : CmpLays Try.prog 30 #[] Itm.cells 4 ordI blk off size w := fun _ _ _ _ x y => qOrderG x y _

theorem qLt (a b : Itm) : ltOf ordI a b = decide (Bef a b) := by rw [← ordI_lt]; rfl
theorem qSWO : SWO (ltOf ordI) where
  irrefl x := by rw [qLt]; simp [Bef]
  trans x y z h1 h2 := by
    rw [qLt, decide_eq_true_eq] at *
    unfold Bef at *
    omega
  ntrans x y z h1 h2 := by
    rw [qLt, decide_eq_false_iff_not] at *
    unfold Bef at *
    omega

theorem flatK_flat (L : List Itm) : flatK Itm.cells 4 L.toArray = (flat L).toArray := by
  refine ext_get! (by simp [flat_length]) fun t ht => ?_
  have ht' : t < L.length * 4 := by simpa using ht
  rw [get_flatK _ _ _ _ (by simpa using ht')]
  have h1 : t / 4 < L.length := by omega
  have h2 : t % 4 < 4 := by omega
  have h3 := flat_get L (t / 4) h1 (t % 4) h2
  rw [show t / 4 * 4 + t % 4 = t by omega] at h3
  have hd : (L.toArray[t / 4]! : Itm) = L[t / 4] := by simp [h1]
  rw [hd]
  generalize L[t / 4] = x at *
  have hl : t < (flat L).toArray.size := by simp [flat_length]; omega
  rw [getElem!_pos (flat L).toArray t hl]
  have h4 : (flat L)[t]? = some ((flat L).toArray[t]) := by simp [List.getElem?_eq_getElem (show t < (flat L).length by rw [flat_length]; omega)]
  rw [h4] at h3
  have h5 : t % 4 < x.cells.length := h2
  rw [getElem!_pos x.cells (t % 4) h5]
  rw [List.getElem?_eq_getElem h5] at h3
  exact (Option.some.inj h3).symm

theorem holds_flat {w : World} {g : Nat} {cur : Array Value} {e : TypeId} {L : List Itm} (hb : w.heap[g]? = some (.cells cur e (0, 0))) (ht : cur.toList.take (L.length * 4) = flat L) : HoldsK Itm.cells 4 w g 0 L.toArray := by
  show Holds id w g 0 (flatK Itm.cells 4 L.toArray)
  rw [flatK_flat]
  intro j hj
  have hj' : j < L.length * 4 := by simpa [flat_length] using hj
  refine ⟨?_, by simp [World.frozen?, hb]⟩
  have h1 : (cur.toList.take (L.length * 4))[j]? = (flat L)[j]? := by rw [ht]
  rw [List.getElem?_take_of_lt hj'] at h1
  simp only [World.cell?, hb, Nat.zero_add]
  simp only [Option.isSome_none, Bool.false_eq_true, if_false]
  rw [← Array.getElem?_toList, h1, List.getElem?_eq_getElem (by rw [flat_length]; omega), getElem!_pos (flat L).toArray j hj]
  rfl

theorem heap_putF {w : World} {g n : Nat} {os : Array Obj} {cur F : Array Value} {e : TypeId} {fr : Nat × Nat} (hb : w.heap[g]? = some (.cells cur e fr)) :
    (grow (putRow id (Sort.ahead w n) g 0 F) os).heap[g]? = some (.cells (putCells id 0 F cur) e fr) := by
  have hg : g < w.heap.size := (Array.getElem?_eq_some_iff.1 hb).1
  rw [heap_grow_old _ _ (by simpa using hg)]
  simp [putRow, mapBlock, Sort.ahead, Array.getElem?_modify, hb, onCells]

theorem grown_putF {w : World} {g n : Nat} {os : Array Obj} (F : Array Value) : w.grownBy (grow (putRow id (Sort.ahead w n) g 0 F) os) (some g) := by
  refine ⟨rfl, rfl, rfl, by simp, fun k hk hne => ?_⟩
  rw [heap_grow_old _ _ (by simpa using hk)]
  have : g ≠ k := fun e => hne (by rw [e])
  simp [putRow, mapBlock, Sort.ahead, Array.getElem?_modify, this]

theorem take_putF (cur : Array Value) (F : List Value) (h : F.length ≤ cur.size) : (putCells id 0 F.toArray cur).toList.take F.length = F := by
  apply List.ext_getElem?
  intro j
  by_cases hj : j < F.length
  · rw [List.getElem?_take_of_lt hj, Array.getElem?_toList]
    simp [putCells, hj, show j < cur.size by omega]
  · rw [List.getElem?_take_eq_none (by omega), List.getElem?_eq_none (by omega)]

theorem sorted_of {S : List Itm} {d' : Array Itm} (hp : d'.toList.Perm S) (hs : Sorted S) (hi : ∀ i j, 0 ≤ i → i < j → j < d'.size → ltOf ordI d'[j]! d'[i]! = false) : d'.toList = S := by
  refine sorted_unique ?_ hs hp
  show d'.toList.Pairwise Bef
  have huq : d'.toList.Pairwise (fun a b => a ≠ b) := by
    have hS : S.Pairwise (fun a b => a ≠ b) := hs.imp (fun h e => by subst e; unfold Bef at h; omega)
    exact (hp.symm.pairwise_iff (R := fun a b : Itm => a ≠ b) (fun h e => h e.symm)).1 hS
  have htot : ∀ a, a ∈ S → ∀ b, b ∈ S → a ≠ b → Bef a b ∨ Bef b a := by
    intro a ha b hb hne
    obtain ⟨i, hi, rfl⟩ := List.getElem_of_mem ha
    obtain ⟨j, hj, rfl⟩ := List.getElem_of_mem hb
    have hs' : S.Pairwise Bef := hs
    rw [List.pairwise_iff_getElem] at hs'
    rcases Nat.lt_trichotomy i j with h | h | h
    · exact .inl (hs' i j hi hj h)
    · subst h; exact absurd rfl hne
    · exact .inr (hs' j i hj hi h)
  rw [List.pairwise_iff_getElem] at huq ⊢
  intro i j hi' hj' hij
  have h1 := hi i j (Nat.zero_le _) hij (by simpa using hj')
  have hi2 : i < d'.size := by simpa using hi'
  have hj2 : j < d'.size := by simpa using hj'
  rw [getElem!_pos d' i hi2, getElem!_pos d' j hj2, qLt] at h1
  have h2 : ¬ Bef d'[j] d'[i] := by simpa using h1
  have h3 := htot d'.toList[i] (hp.mem_iff.1 (List.getElem_mem _)) d'.toList[j] (hp.mem_iff.1 (List.getElem_mem _)) (huq i j hi' hj' hij)
  rcases h3 with h3 | h3
  · exact h3
  · exact absurd (by simpa using h3) h2

theorem qSort (v : Value) (L S : List Itm) (base : Nat) (w : World) (h4 : L.length ≤ 4096) (hr : w.ownsRow base 31 4 v L.length (flat L)) (hp : L.Perm S) (hs : Sorted S) (hb : base ≤ w.heap.size) :
    Calls Try.prog 39 #[v, .func (.func 30) #[] #[]] w fun e w' => e = .returned (.tuple #[]) ∧ w'.ownsRow base 31 4 v S.length (flat S) ∧ Below base w w' := by
  have hl : S.length = L.length := hp.length_eq.symm
  rcases hr.2 with ⟨rfl, h0⟩ | ⟨g, cap, cur, rfl, hbg, hgb, r1, r2, r3, r4⟩
  · have hL : L = [] := List.eq_nil_of_length_eq_zero h0
    subst hL
    have hS : S = [] := List.eq_nil_of_length_eq_zero (by simpa using hl)
    subst hS
    refine (AnyF.slices_SortFunc_none (P := Try.prog) { Try.sortItems with } none 0 (.func (.func 30) #[] #[]) w).mono ?_
    rintro e w' ⟨rfl, rfl⟩
    exact ⟨rfl, hr, Below.refl _ _⟩
  · have hH := holds_flat hgb r4
    have hgl : g < w.heap.size := (Array.getElem?_eq_some_iff.1 hgb).1
    have hcon := AnyQ.slices_SortFunc Try.sortItems 4 Try.isAgg31 Try.sizeOf31 Itm.cells (fun _ => rfl) (fun x v hv => by simp [Itm.cells] at hv; rcases hv with rfl | rfl | rfl | rfl <;> rfl) ordI qSWO 30 #[] g 0 cap L.toArray w (enters_of Try.func30 (by kernel_rfl) rfl) (qCmpLays g 0 L.toArray.size w) hH hgl (by simp; omega)
    refine hcon.mono ?_
    rintro e w' ⟨rfl, d', n, os, ⟨hp1, hp2, hp3⟩, hso, rfl⟩
    have hs1 : d'.size = L.length := by simpa using hp1
    have hd : d'.toList.Perm L := by
      have h7 := hp3
      simp at h7
      rwa [List.take_of_length_le (by simp [hs1])] at h7
    have e1 : d'.toList = S := sorted_of (hd.trans hp) hs (by rw [hp1]; exact hso)
    have e2 : flatK Itm.cells 4 d' = (flat S).toArray := by rw [← e1, ← flatK_flat]
    unfold sortWorldK putRowK
    rw [e2]
    refine ⟨rfl, ⟨by rw [flat_length], .inr ⟨g, cap, _, by rw [hl], hbg, heap_putF hgb, by rw [hl]; exact r1, r2, by simpa [putCells] using r3, ?_⟩⟩, ?_⟩
    · have h5 := take_putF cur (flat S) (by rw [flat_length, hl, r3]; exact Nat.mul_le_mul_right _ r1)
      rwa [flat_length] at h5
    · exact (Below.refl _ _).grown (grown_putF _) hb (fun k e => by cases e; exact hbg)
end Go.Proofs.Ytbafgheblindmaa
