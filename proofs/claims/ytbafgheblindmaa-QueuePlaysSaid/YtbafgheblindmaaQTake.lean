/-
  queue: Pop: the contract.
-/
import Derived.Test.YtbafgheblindmaaQAdd
namespace Go.Proofs.Ytbafgheblindmaa
open Go.RowKit

set_option maxHeartbeats 1000000 in
theorem qPop0 (q : Nat) (v : Value) (last : Int) (w : World) (h : QS w q v [] last) : Calls Try.prog 11 #[.pointer (some ⟨q, 0, none⟩)] w fun e w' => e = .returned (Gave []) ∧ Fr [] w w' := by
  obtain ⟨L, hB, hO⟩ := h
  have hl := hO.len
  obtain rfl : L = [] := List.eq_nil_of_length_eq_zero hl
  obtain ⟨a, c, rfl⟩ := hB.slice
  have hq' : ∀ o, (w.alloc o).cell? ⟨q, 0, none⟩ = some (.slice a 0 c) := fun o => (hB.blk.alloc o).cellAt (i := 0) rfl
  clear hB hO hl
  unfold Gave
  dsimp only [List.length_nil]
  go_enter Try.func11, Try.ntmps11
  go_wp2
  refine bodyPost_ret (v := .tuple #[.agg #[.int .u64 0, .int .u64 0, .int .i64 0, .string ⟨#[]⟩], .bool false]) (by simp [results, Try.results11, go_sem]) rfl ⟨rfl, ?_⟩
  exact (Fr.refl _ _).alloc _

theorem Took.open {n q : Nat} {x : Itm} {v : Value} {L : List Itm} {last : Int} {w w' : World} {e : Ending} (h : Took n q x v L last w e w') :
    e = .returned (.iface 31 (.agg #[.int .u64 x.time, .int .u64 x.order, .int .i64 x.to, .string x.data])) ∧ ∃ v' M, Heap n M ∧ M.Perm L ∧ at' M n = x ∧ QB w' q v' (M.take n) last ∧ Kept q v w v' w' := h

theorem zeroItem (w : World) : Blk (w.alloc (.cells #[.int .u64 0, .int .u64 0, .int .i64 0, .string ⟨#[]⟩] 31)) w.heap.size #[.int .u64 0, .int .u64 0, .int .i64 0, .string ⟨#[]⟩] 31 := Blk.new _ _ _

set_option maxRecDepth 100000 in
set_option maxHeartbeats 2000000 in
theorem qPop (q : Nat) (v : Value) (s : Itm) (S : List Itm) (last : Int) (w : World) (h : QS w q v (s :: S) last) : Calls Try.prog 11 #[.pointer (some ⟨q, 0, none⟩)] w fun e w' => e = .returned (Gave (s :: S)) ∧ Left q v w S last w' := by
  obtain ⟨L, hB, hO⟩ := h
  have hl : 0 < L.length := by rw [hO.len]; simp
  have ht := hO.top
  obtain ⟨n, hn⟩ : ∃ n, L.length = n + 1 := ⟨L.length - 1, by omega⟩
  obtain ⟨g, c, rfl⟩ := hB.shape1 hn
  have hq' : ∀ o, (w.alloc o).cell? ⟨q, 0, none⟩ = some (.slice (some ⟨g, 0, none⟩) (n + 1) c) := fun o => (hB.blk.alloc o).cellAt (i := 0) rfl
  have hne : ((n : Int) + 1 == 0) = false := by simp; omega
  have hrm := hO.room
  have HP := Lib.hid (hPop L q n _ last (w.alloc (.cells #[.int .u64 0, .int .u64 0, .int .i64 0, .string ⟨#[]⟩] 31)) (hB.fr0 ((Fr.refl _ _).alloc _)) hn (by have := hO.heap; rwa [hn] at this) (by omega))
  rw [ht] at HP
  have HZ := Lib.hid (zeroItem w)
  have HF : Hid (Fr [] w (w.alloc (.cells #[.int .u64 0, .int .u64 0, .int .i64 0, .string ⟨#[]⟩] 31))) := (Fr.refl _ _).alloc _
  have HO := Lib.hid hO
  have HN := Lib.hid hn
  have hqlt := hB.blk.lt
  have hown : w.heap.size ∉ q :: (Value.slice (some ⟨g, 0, none⟩) (n + 1) c).ownBlock.toList := fun hx => by
    rcases List.mem_cons.1 hx with e | e
    · omega
    · have := (World.ownsRow.lt hB.its w.heap.size (by simpa using e)).2
      omega
  have HOW := Lib.hid hown
  have hT := asrtOk
  clear hB hO hn ht hl hrm hown
  unfold Gave
  go_enter Try.func11, Try.ntmps11
  go_wp2_with (first
    | (go_at_call 20; refine (qHeap _ _).mono ?_; rintro e w2 ⟨rfl, rfl⟩)
    | (go_at_call 21; refine HP.out.mono ?_; intro e w1 hT1; (obtain ⟨rfl, v1, M, hM, hpm, hat, hB1, hk1⟩ := hT1.open); (have HB1 := Lib.hid hB1); (have HM1 := Lib.hid hM); (have HPM := Lib.hid hpm); (have HAT := Lib.hid hat); (have HK1 := Lib.hid hk1); (have BZ := HZ.out.fr HK1.out.1 HOW.out); (have q0 : w1.cell? ⟨w.heap.size, 0, none⟩ = some (.int .u64 0) := BZ.cellAt (i := 0) rfl); (have z0 := BZ.froz 0); (have q1 : w1.cell? ⟨w.heap.size, 1, none⟩ = some (.int .u64 0) := BZ.cellAt (i := 1) rfl); (have z1 := BZ.froz 1); (have q2 : w1.cell? ⟨w.heap.size, 2, none⟩ = some (.int .i64 0) := BZ.cellAt (i := 2) rfl); (have z2 := BZ.froz 2); (have q3 : w1.cell? ⟨w.heap.size, 3, none⟩ = some (.string ⟨#[]⟩) := BZ.cellAt (i := 3) rfl); (have z3 := BZ.froz 3);
        (have y0 : ∀ o, (w1.alloc o).cell? ⟨w.heap.size, 0, none⟩ = some (.int .u64 0) := fun o => (BZ.alloc o).cellAt (i := 0) rfl); (have x0 := fun o => (BZ.alloc o).froz 0); (have y1 : ∀ o, (w1.alloc o).cell? ⟨w.heap.size, 1, none⟩ = some (.int .u64 0) := fun o => (BZ.alloc o).cellAt (i := 1) rfl); (have x1 := fun o => (BZ.alloc o).froz 1); (have y2 : ∀ o, (w1.alloc o).cell? ⟨w.heap.size, 2, none⟩ = some (.int .i64 0) := fun o => (BZ.alloc o).cellAt (i := 2) rfl); (have x2 := fun o => (BZ.alloc o).froz 2); (have y3 : ∀ o, (w1.alloc o).cell? ⟨w.heap.size, 3, none⟩ = some (.string ⟨#[]⟩) := fun o => (BZ.alloc o).cellAt (i := 3) rfl); (have x3 := fun o => (BZ.alloc o).froz 3); (have HBZ := Lib.hid BZ); clear hB1 hM hpm hat hk1 BZ))
  have BF : Hid (Blk (((((w1.alloc (.cells #[.int .u64 s.time, .int .u64 s.order, .int .i64 s.to, .string s.data] 31)).setCell ⟨w.heap.size, 0, none⟩ (.int .u64 s.time)).setCell ⟨w.heap.size, 1, none⟩ (.int .u64 s.order)).setCell ⟨w.heap.size, 2, none⟩ (.int .i64 s.to)).setCell ⟨w.heap.size, 3, none⟩ (.string s.data)) w.heap.size #[.int .u64 s.time, .int .u64 s.order, .int .i64 s.to, .string s.data] 31) := ((((HBZ.out.alloc _).set 0 _).set 1 _).set 2 _).set 3 _
  have FF : Hid (Fr [w.heap.size] w1 (((((w1.alloc (.cells #[.int .u64 s.time, .int .u64 s.order, .int .i64 s.to, .string s.data] 31)).setCell ⟨w.heap.size, 0, none⟩ (.int .u64 s.time)).setCell ⟨w.heap.size, 1, none⟩ (.int .u64 s.order)).setCell ⟨w.heap.size, 2, none⟩ (.int .i64 s.to)).setCell ⟨w.heap.size, 3, none⟩ (.string s.data))) := ((((((Fr.refl [w.heap.size] w1).alloc _).setCell (.inl (by simp)) _).setCell (.inl (by simp)) _).setCell (.inl (by simp)) _).setCell (.inl (by simp)) _)
  clear y0 x0 y1 x1 y2 x2 y3 x3 q0 z0 q1 z1 q2 z2 q3 z3
  generalize (((((w1.alloc (.cells #[.int .u64 s.time, .int .u64 s.order, .int .i64 s.to, .string s.data] 31)).setCell ⟨w.heap.size, 0, none⟩ (.int .u64 s.time)).setCell ⟨w.heap.size, 1, none⟩ (.int .u64 s.order)).setCell ⟨w.heap.size, 2, none⟩ (.int .i64 s.to)).setCell ⟨w.heap.size, 3, none⟩ (.string s.data)) = W at *
  have BF' := BF.out
  have y0 : W.cell? ⟨w.heap.size, 0, none⟩ = some (.int .u64 s.time) := BF'.cellAt (i := 0) rfl
  have y1 : W.cell? ⟨w.heap.size, 1, none⟩ = some (.int .u64 s.order) := BF'.cellAt (i := 1) rfl
  have y2 : W.cell? ⟨w.heap.size, 2, none⟩ = some (.int .i64 s.to) := BF'.cellAt (i := 2) rfl
  have y3 : W.cell? ⟨w.heap.size, 3, none⟩ = some (.string s.data) := BF'.cellAt (i := 3) rfl
  refine bodyPost_ret (v := .tuple #[.agg #[.int .u64 s.time, .int .u64 s.order, .int .i64 s.to, .string s.data], .bool true]) (by simp [results, Try.results11, go_sem, y0, y1, y2, y3]) rfl ⟨rfl, v1, ?_, ?_⟩
  · refine ⟨_, HB1.out.fr FF.out (by simp; omega) (fun x hx e => ?_), HO.out.pop HN.out HM1.out HPM.out (by rw [HAT.out, HO.out.top])⟩
    simp at e
    subst e
    rcases HK1.out.2 _ hx with h | h
    · exact HOW.out (by simp [h])
    · simp at h; omega
  · refine ⟨(((HF.out.wide0).trans1 HK1.out.1).trans FF.out (fun x hx => by simp at hx; subst hx; exact .inr (Nat.le_refl _))), fun x hx => ?_⟩
    rcases HK1.out.2 x hx with h | h
    · exact .inl h
    · simp at h; exact .inr (by omega)
end Go.Proofs.Ytbafgheblindmaa
