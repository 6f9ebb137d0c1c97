/-
  queue: New, heap, Len, Next, find: contracts.
-/
import Derived.Test.YtbafgheblindmaaQRem
namespace Go.Proofs.Ytbafgheblindmaa
open Go.RowKit

/-- A queue in memory, as its items in their order. -/
def QS (w : World) (q : Nat) (v : Value) (S : List Itm) (last : Int) : Prop := ∃ L, QB w q v L last ∧ QOk L S last
theorem QS.fr {T : List Nat} {w w' : World} {q : Nat} {v : Value} {S : List Itm} {last : Int} (h : QS w q v S last) (hf : Fr T w w') (hq : q ∉ T) (hn : ∀ x, x ∈ v.ownBlock.toList → x ∉ T) : QS w' q v S last := by
  obtain ⟨L, h1, h2⟩ := h
  exact ⟨L, h1.fr hf hq hn, h2⟩
theorem QS.fr0 {w w' : World} {q : Nat} {v : Value} {S : List Itm} {last : Int} (h : QS w q v S last) (hf : Fr [] w w') : QS w' q v S last := h.fr hf (by simp) (fun _ _ => by simp)
theorem QS.room {w : World} {q : Nat} {v : Value} {S : List Itm} {last : Int} (h : QS w q v S last) : S.length ≤ 4096 := by
  obtain ⟨L, h1, h2⟩ := h
  have := h2.room; have := h2.len; omega

set_option maxHeartbeats 400000 in
theorem qNew (w : World) : Calls Try.prog 9 #[] w fun e w' => e = .returned (.pointer (some ⟨w.heap.size, 0, none⟩)) ∧ QS w' w.heap.size (.slice none 0 0) [] 0 ∧ Fr [] w w' := by
  go_enter Try.func9, Try.ntmps9
  go_wp2
  go_ret
  exact ⟨rfl, ⟨[], ⟨Blk.new _ _ _, Its.nil _, by simp [Value.ownBlock]⟩, QOk.nil⟩, (Fr.refl _ _).alloc _⟩

set_option maxHeartbeats 400000 in
theorem qHeap (q : Nat) (w : World) : Calls Try.prog 20 #[.pointer (some ⟨q, 0, none⟩)] w fun e w' => e = .returned (rvQ q) ∧ w = w' := by
  go_enter Try.func20, Try.ntmps20
  go_wp2
  go_ret
  exact ⟨rfl, rfl⟩

set_option maxRecDepth 100000 in
set_option maxHeartbeats 400000 in
theorem qLen (q : Nat) (v : Value) (S : List Itm) (last : Int) (w : World) (h : QS w q v S last) : Calls Try.prog 12 #[.pointer (some ⟨q, 0, none⟩)] w fun e w' => e = .returned (.int .i64 S.length) ∧ w = w' := by
  obtain ⟨L, hB, hO⟩ := h
  obtain ⟨a, c, rfl⟩ := hB.slice
  have hLen := mVal (name := "Len") (F := 79) (by kernel_rfl) q _ _ _ w (hB.blk.cellAt (i := 0) rfl)
  have HL := Lib.hid hO.len
  rw [← HL.out]
  clear hB hO HL
  generalize L.length = n at *
  go_enter Try.func12, Try.ntmps12
  go_wp2_with (first
    | (go_at_call 20; refine (qHeap _ _).mono ?_; rintro e w2 ⟨rfl, rfl⟩)
    | (go_at_call 79; refine (iLen _ _ _ _).mono ?_; rintro e w2 ⟨rfl, rfl⟩))
  go_ret
  exact ⟨rfl, rfl⟩

/-- What next and pop hand back. -/
def Gave (S : List Itm) : Value := match S with
  | [] => .tuple #[.agg #[.int .u64 0, .int .u64 0, .int .i64 0, .string ⟨#[]⟩], .bool false]
  | s :: _ => .tuple #[.agg #[.int .u64 s.time, .int .u64 s.order, .int .i64 s.to, .string s.data], .bool true]

set_option maxHeartbeats 1000000 in
theorem qNext (q : Nat) (v : Value) (S : List Itm) (last : Int) (w : World) (h : QS w q v S last) : Calls Try.prog 18 #[.pointer (some ⟨q, 0, none⟩)] w fun e w' => e = .returned (Gave S) ∧ Fr [] w w' := by
  obtain ⟨L, hB, hO⟩ := h
  cases S with
  | nil =>
    have hl := hO.len
    obtain rfl : L = [] := List.eq_nil_of_length_eq_zero hl
    obtain ⟨a, c, rfl⟩ := hB.slice
    have hq' : ∀ o, (w.alloc o).cell? ⟨q, 0, none⟩ = some (.slice a 0 c) := fun o => (hB.blk.alloc o).cellAt (i := 0) rfl
    clear hB hO hl
    unfold Gave
    dsimp only [List.length_nil]
    go_enter Try.func18, Try.ntmps18
    go_wp2
    refine bodyPost_ret (v := .tuple #[.agg #[.int .u64 0, .int .u64 0, .int .i64 0, .string ⟨#[]⟩], .bool false]) (by simp [results, Try.results18, go_sem]) rfl ⟨rfl, ?_⟩
    exact (Fr.refl _ _).alloc _
  | cons s S =>
    have hl : 0 < L.length := by rw [hO.len]; simp
    have ht := hO.top
    obtain ⟨n, hn⟩ : ∃ n, L.length = n + 1 := ⟨L.length - 1, by omega⟩
    obtain ⟨g, c, rfl⟩ := hB.shape1 hn
    obtain ⟨a0, a1, a2, a3⟩ := hB.its.cells4 rfl (j := 0) hl
    rw [ht] at a0 a1 a2 a3
    have hq' : ∀ o, (w.alloc o).cell? ⟨q, 0, none⟩ = some (.slice (some ⟨g, 0, none⟩) (n + 1) c) := fun o => (hB.blk.alloc o).cellAt (i := 0) rfl
    have hg : g < w.heap.size := by
      rcases hB.its.shape with ⟨h, _⟩ | ⟨g', c', h, h2, _⟩
      · cases h
      · injection h with h3 h4 h5; injection h3 with h3; injection h3 with h3; omega
    have b0 : ∀ o, (w.alloc o).cell? ⟨g, 0, none⟩ = some (.int .u64 s.time) := fun o => (World.cell?_alloc_lt _ _ _ hg).trans a0
    have b1 : ∀ o, (w.alloc o).cell? ⟨g, 1, none⟩ = some (.int .u64 s.order) := fun o => (World.cell?_alloc_lt _ _ _ hg).trans a1
    have b2 : ∀ o, (w.alloc o).cell? ⟨g, 2, none⟩ = some (.int .i64 s.to) := fun o => (World.cell?_alloc_lt _ _ _ hg).trans a2
    have b3 : ∀ o, (w.alloc o).cell? ⟨g, 3, none⟩ = some (.string s.data) := fun o => (World.cell?_alloc_lt _ _ _ hg).trans a3
    clear hB hO ht a0 a1 a2 a3 hn hl
    unfold Gave
    go_enter Try.func18, Try.ntmps18
    go_wp2
    refine bodyPost_ret (v := .tuple #[.agg #[.int .u64 s.time, .int .u64 s.order, .int .i64 s.to, .string s.data], .bool true]) (by simp [results, Try.results18, go_sem]) rfl ⟨rfl, (Fr.refl _ _).alloc _⟩
end Go.Proofs.Ytbafgheblindmaa
