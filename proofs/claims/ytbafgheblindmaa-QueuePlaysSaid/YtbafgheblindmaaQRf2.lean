/-
  pintleref18's Queue: find, Next, Pop, Drop: contracts.
-/
import Derived.Test.YtbafgheblindmaaQRf
import Derived.Test.YtbafgheblindmaaQDr
namespace Go.Proofs.Ytbafgheblindmaa
open Go.RowKit

theorem own_sl {w : World} {base : Nat} {e : TypeId} {size : Nat} {v : Value} {n : Nat} {xs : List Value} (h : w.ownsRow base e size v n xs) : ∃ a c, v = .slice a n c := by
  rcases h.2 with ⟨rfl, h3⟩ | ⟨g, cap, cur, rfl, _⟩
  · exact ⟨none, 0, by rw [h3]⟩
  · exact ⟨_, _, rfl⟩

def Found (S : List Itm) (o r : Int) : Prop := (r = -1 ∧ ∀ j, j < S.length → (at' S j).order ≠ o) ∨ ∃ i : Nat, r = i ∧ i < S.length ∧ (at' S i).order = o

set_option maxHeartbeats 1000000 in
theorem rFind (q : Nat) (v : Value) (S : List Itm) (last o : Int) (w : World) (h : RB w q v S last) (h4 : S.length ≤ 4096) :
    Calls Try.prog 36 #[.pointer (some ⟨q, 0, none⟩), .int .u64 o] w fun e w' => ∃ r : Int, e = .returned (.int .i64 r) ∧ Hid (Found S o r) ∧ w = w' := by
  have hq := h.blk.cellAt (i := 0) rfl
  rcases Nat.eq_zero_or_pos S.length with h0 | h0
  · obtain ⟨a, c, rfl⟩ := h.slice
    have HF : Hid (Found S o (-1)) := .inl ⟨rfl, fun j hj => by omega⟩
    rw [h0] at hq
    clear h h0 h4
    go_enter Try.func36, Try.ntmps36
    go_wp2
    refine wp_loop_rounds 1 ?_
    rw [rounds_succ]
    go_wp2
    go_ret
    exact ⟨-1, rfl, HF, rfl⟩
  · obtain ⟨g, c, rfl⟩ := h.row h0
    have HC : Hid (∀ j, j < S.length → w.cell? ⟨g, j * 4 + 1, none⟩ = some (.int .u64 (at' S j).order)) := fun j hj => (row4 h.its rfl hj).2.1
    obtain ⟨n, hn⟩ : ∃ n, S.length = n := ⟨_, rfl⟩
    have HN := Lib.hid hn
    rw [hn] at hq h4 HC
    clear h h0 hn
    go_enter Try.func36, Try.ntmps36
    go_wp2
    go_loop [4, 5] (fun _ i => ∃ k : Nat, k ≤ n ∧ i = .int .i64 k ∧ Hid (∀ j, j < k → (at' S j).order ≠ o)) (fun _ i => n - (intOf i).toNat)
    case atStart => exact ⟨0, by omega, rfl, fun j hj => by omega⟩
    case round =>
      obtain ⟨k, hk, rfl, HNo⟩ := hrel
      by_cases hlt : k < n
      · have hc := HC.out k hlt
        by_cases ho : (at' S k).order = o
        · have hb : ((at' S k).order == o) = true := by simpa using ho
          have HF : Hid (Found S o k) := .inr ⟨k, rfl, by rw [HN.out]; exact hlt, ho⟩
          generalize (at' S k).order = t at *
          clear ho
          go_wp2
          go_ret
          exact ⟨k, rfl, HF, rfl⟩
        · have hb : ((at' S k).order == o) = false := by simpa using ho
          have HO : Hid (∀ j, j < k + 1 → (at' S j).order ≠ o) := fun j hj => by
            rcases Nat.lt_or_ge j k with h1 | h1
            · exact HNo.out j h1
            · obtain rfl : j = k := by omega
              exact ho
          clear ho
          generalize (at' S k).order = t at *
          go_wp2
          go_round
          case rel => exact ⟨k + 1, by omega, by go_num, HO⟩
          case measure => simp [intOf]; omega
      · obtain rfl : k = n := by omega
        have HF : Hid (Found S o (-1)) := .inl ⟨rfl, fun j hj => HNo.out j (by rw [← HN.out]; exact hj)⟩
        go_wp2
        go_ret
        exact ⟨-1, rfl, HF, rfl⟩

set_option maxHeartbeats 1000000 in
theorem rNext0 (q : Nat) (v : Value) (last : Int) (w : World) (h : RB w q v [] last) :
    Calls Try.prog 26 #[.pointer (some ⟨q, 0, none⟩)] w fun e w' => e = .returned (.tuple #[.agg #[.int .u64 0, .int .u64 0, .int .i64 0, .string ⟨#[]⟩], .bool false]) ∧ Hid (Fr [] w w') := by
  obtain ⟨a, c, rfl⟩ := h.slice
  have hq' : ∀ o, (w.alloc o).cell? ⟨q, 0, none⟩ = some (.slice a 0 c) := fun o => (h.blk.alloc o).cellAt (i := 0) rfl
  clear h
  go_enter Try.func26, Try.ntmps26
  go_wp2
  refine bodyPost_ret (v := .tuple #[.agg #[.int .u64 0, .int .u64 0, .int .i64 0, .string ⟨#[]⟩], .bool false]) (by simp [results, Try.results26, go_sem]) rfl ⟨rfl, ?_⟩
  exact Lib.hid ((Fr.refl _ _).alloc _)

set_option maxHeartbeats 1000000 in
theorem rNext (q : Nat) (v : Value) (t o d : Int) (x : ByteArray) (T : List Itm) (last : Int) (w : World) (h : RB w q v (⟨t, o, d, x⟩ :: T) last) :
    Calls Try.prog 26 #[.pointer (some ⟨q, 0, none⟩)] w fun e w' => e = .returned (.tuple #[.agg #[.int .u64 t, .int .u64 o, .int .i64 d, .string x], .bool true]) ∧ Hid (Fr [] w w') := by
  obtain ⟨g, c, rfl⟩ := h.row (by simp)
  obtain ⟨a0, a1, a2, a3⟩ := row4 h.its rfl (j := 0) (by simp)
  have hq' : ∀ o, (w.alloc o).cell? ⟨q, 0, none⟩ = some (.slice (some ⟨g, 0, none⟩) (T.length + 1) c) := fun o => (h.blk.alloc o).cellAt (i := 0) rfl
  have hg : g < w.heap.size := h.lt (by simp [Value.ownBlock])
  have b0 : ∀ o, (w.alloc o).cell? ⟨g, 0, none⟩ = some (.int .u64 t) := fun o => (World.cell?_alloc_lt _ _ _ hg).trans a0
  have b1 : ∀ o', (w.alloc o').cell? ⟨g, 1, none⟩ = some (.int .u64 o) := fun o => (World.cell?_alloc_lt _ _ _ hg).trans a1
  have b2 : ∀ o, (w.alloc o).cell? ⟨g, 2, none⟩ = some (.int .i64 d) := fun o => (World.cell?_alloc_lt _ _ _ hg).trans a2
  have b3 : ∀ o, (w.alloc o).cell? ⟨g, 3, none⟩ = some (.string x) := fun o => (World.cell?_alloc_lt _ _ _ hg).trans a3
  clear h a0 a1 a2 a3
  generalize T.length = n at *
  go_enter Try.func26, Try.ntmps26
  go_wp2
  refine bodyPost_ret (v := .tuple #[.agg #[.int .u64 t, .int .u64 o, .int .i64 d, .string x], .bool true]) (by simp [results, Try.results26, go_sem]) rfl ⟨rfl, ?_⟩
  exact Lib.hid ((Fr.refl _ _).alloc _)
end Go.Proofs.Ytbafgheblindmaa
