/-
  queue: find: contracts.
-/
import Derived.Test.YtbafgheblindmaaQOps
namespace Go.Proofs.Ytbafgheblindmaa
open Go.RowKit

theorem goesFind : ∀ args w, (callFunc 35 args).run Try.prog w = .ok (.enter 35 args) w := fun _ _ => rfl

set_option maxHeartbeats 400000 in
theorem qFind1 (x : Itm) (b : Nat) (o : Int) (w : World) (hb : w.cell? ⟨b, 0, none⟩ = some (.int .u64 o)) :
    Calls Try.prog 35 #[.agg #[.int .u64 x.time, .int .u64 x.order, .int .i64 x.to, .string x.data], .pointer (some ⟨b, 0, none⟩)] w fun e w' => e = .returned (.bool (x.order == o)) ∧ Fr [] w w' := by
  have hb' : ∀ o', (w.alloc o').cell? ⟨b, 0, none⟩ = some (.int .u64 o) := fun o' => (World.cell?_alloc_lt _ _ _ (World.block_lt_of_cell? w _ hb)).trans hb
  go_enter Try.func35, Try.ntmps35
  go_wp2
  go_ret
  exact ⟨rfl, (Fr.refl _ _).alloc _⟩

/-- Where an order is looked for: it is there first at i, or nowhere. -/
def At (L : List Itm) (o : Int) (r : Int) : Prop := (r = -1 ∧ ∀ k, k < L.length → (at' L k).order ≠ o) ∨ ∃ i : Nat, r = i ∧ i < L.length ∧ (at' L i).order = o

set_option maxRecDepth 100000 in
set_option maxHeartbeats 1000000 in
theorem qIndex (L : List Itm) (v : Value) (b : Nat) (o : Int) (w : World) (hI : Its w v L) (hb : w.cell? ⟨b, 0, none⟩ = some (.int .u64 o)) (hm : L.length ≤ 4096) :
    Calls Try.prog 34 #[v, .func (.func 35) #[] #[.pointer (some ⟨b, 0, none⟩)]] w fun e w' => ∃ r, e = .returned (.int .i64 r) ∧ Hid (At L o r) ∧ Fr [] w w' := by
  have hG := goesFind
  have hbl := World.block_lt_of_cell? w _ hb
  have hG2 : ∀ wr, Fr [] w wr → wr.cell? ⟨b, 0, none⟩ = some (.int .u64 o) := fun wr f => (World.cell?_of_block (w := w) (f.block b hbl (by simp))).trans hb
  have HG2 := Lib.hid hG2
  clear hb hG2
  rcases hI.shape with ⟨rfl, rfl⟩ | ⟨g, c, rfl, hg, hc⟩
  · go_enter Try.func34, Try.ntmps34
    go_wp2_with fail
    refine wp_loop_rounds 1 ?_
    rw [rounds_succ]
    go_wp2_with fail
    go_ret
    exact ⟨_, rfl, .inl ⟨rfl, fun k hk => absurd hk (by simp)⟩, Fr.refl _ _⟩
  · have HI := Lib.hid hI
    clear hI
    generalize hN : L.length = n at *
    have HN := Lib.hid hN
    clear hN
    go_enter Try.func34, Try.ntmps34
    go_wp2_with fail
    go_loopw [5, 8] (fun _ i wr => ∃ k : Nat, k ≤ n ∧ i = .int .i64 k ∧ Hid (∀ j, j < k → (at' L j).order ≠ o) ∧ Hid (Fr [] w wr)) (fun _ i _ => n - (intOf i).toNat)
    case atStart => exact ⟨0, by omega, rfl, fun j hj => absurd hj (by omega), Fr.refl _ _⟩
    case round =>
      obtain ⟨k, hk, rfl, HA, HR⟩ := hrel
      by_cases hlt : k < n
      · obtain ⟨d0, d1, d2, d3⟩ := (HI.out.fr0 HR.out).cells4 rfl (j := k) (by have := HN.out; omega)
        have Hcall := Lib.hid (qFind1 (at' L k) b o wr (HG2.out wr HR.out))
        have HX : ∃ x, Hid (at' L k = x) := ⟨_, rfl⟩
        obtain ⟨x, HX⟩ := HX
        rw [HX.out] at d0 d1 d2 d3 Hcall
        by_cases ho : x.order = o
        · have ho2 : (x.order == o) = true := by simpa using ho
          have HO := Lib.hid ho
          clear ho
          go_wp2_with (refine Hcall.out.mono ?_; rintro e w2 ⟨rfl, f2⟩)
          go_ret
          exact ⟨_, rfl, .inr ⟨k, rfl, by have := HN.out; omega, by rw [HX.out]; exact HO.out⟩, HR.out.trans0 f2⟩
        · have ho2 : (x.order == o) = false := by simpa using ho
          have HO := Lib.hid ho
          clear ho
          go_wp2_with (refine Hcall.out.mono ?_; rintro e w2 ⟨rfl, f2⟩)
          go_roundw
          case rel => exact ⟨k + 1, by omega, by go_num, fun j hj => by
            by_cases e : j = k
            · rw [e, HX.out]; exact HO.out
            · exact HA.out j (by omega), HR.out.trans0 f2⟩
          case measure => simp [intOf]; omega
      · go_wp2_with fail
        go_ret
        exact ⟨_, rfl, .inl ⟨rfl, fun j hj => HA.out j (by have := HN.out; omega)⟩, HR.out⟩

set_option maxRecDepth 100000 in
set_option maxHeartbeats 1000000 in
theorem qFind (L : List Itm) (q : Nat) (v : Value) (last o : Int) (w : World) (hB : QB w q v L last) (hm : L.length ≤ 4096) :
    Calls Try.prog 22 #[.pointer (some ⟨q, 0, none⟩), .int .u64 o] w fun e w' => ∃ r, e = .returned (.tuple #[.int .i64 r, .bool (decide (0 ≤ r))]) ∧ Hid (At L o r) ∧ Fr [] w w' := by
  have hq' : ∀ o, (w.alloc o).cell? ⟨q, 0, none⟩ = some v := fun o => (hB.blk.alloc o).cellAt (i := 0) rfl
  have HC := Lib.hid (qIndex L v w.heap.size o (w.alloc (.cells #[.int .u64 o] 26)) (hB.its.fr0 ((Fr.refl _ _).alloc _)) ((Blk.new _ _ _).cellAt rfl) hm)
  have HF : Hid (Fr [] w (w.alloc (.cells #[.int .u64 o] 26))) := (Fr.refl _ _).alloc _
  clear hB
  go_enter Try.func22, Try.ntmps22
  go_wp2_with (refine HC.out.mono ?_; rintro e w2 ⟨r, rfl, H1, f2⟩)
  go_ret2
  exact ⟨r, rfl, H1, HF.out.trans0 f2⟩
end Go.Proofs.Ytbafgheblindmaa
