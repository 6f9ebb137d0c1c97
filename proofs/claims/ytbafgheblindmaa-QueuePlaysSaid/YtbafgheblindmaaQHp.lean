/-
  container/heap's Push, Pop and Remove over the queue's items: contracts.
-/
import Derived.Test.YtbafgheblindmaaQPop
import Derived.Test.YtbafgheblindmaaQLaw
namespace Go.Proofs.Ytbafgheblindmaa
open Go.RowKit

theorem mPush (q K : Nat) (w : World) : (method (K + 1) 80 (.pointer (some ⟨q, 0, none⟩)) "Push").run Try.prog w = .ok (83, .pointer (some ⟨q, 0, none⟩)) w := by kernel_rfl
theorem mPop (q K : Nat) (w : World) : (method (K + 1) 80 (.pointer (some ⟨q, 0, none⟩)) "Pop").run Try.prog w = .ok (82, .pointer (some ⟨q, 0, none⟩)) w := by kernel_rfl

theorem QB.slice {L : List Itm} {q : Nat} {v : Value} {last : Int} {w : World} (h : QB w q v L last) : ∃ a c, v = .slice a L.length c := own_slice h.its

set_option maxRecDepth 100000 in
set_option maxHeartbeats 1000000 in
theorem hPush (L : List Itm) (q : Nat) (v : Value) (last : Int) (x : Itm) (w : World) (hB : QB w q v L last) (hh : Heap L.length L) (hm : L.length ≤ 4095) :
    Calls Try.prog 19 #[rvQ q, .iface 31 (.agg x.cells.toArray)] w fun e w' => e = .returned (.tuple #[]) ∧ ∃ v' L', QB w' q v' L' last ∧ Heap (L.length + 1) L' ∧ L'.Perm (L ++ [x]) ∧ Kept q v w v' w' := by
  have hp := mPush q
  have HP := Lib.hid (iPush L q v last x w hB hm)
  have HU := Lib.hid (push_up (x := x) hh)
  clear hB hh
  unfold Itm.cells at HP ⊢
  go_enter Try.func19, Try.ntmps19
  go_wp2_with (first
    | (go_at_call 83; refine HP.out.mono ?_; rintro e w1 ⟨rfl, v1, B1, k1⟩; (obtain ⟨a1, c1, rfl⟩ := B1.slice); (have hlen : (L ++ [x]).length = L.length + 1 := by simp); (have HB1 := Lib.hid B1); (have HK1 := Lib.hid k1); rw [hlen] at *; (have hLen := mVal (name := "Len") (F := 79) (by kernel_rfl) q _ _ _ w1 (HB1.out.blk.cellAt (i := 0) rfl)); (clear B1 k1 hlen))
    | (go_at_call 79; refine (iLen _ _ _ _).mono ?_; rintro e w2 ⟨rfl, rfl⟩)
    | (go_at_call 32; refine (hUp (L ++ [x]) q (L.length + 1) L.length _ last _ HB1.out (by simp) (by omega) HU.out (by simp; omega)).mono ?_; rintro e w2 ⟨rfl, M, hM, mv⟩))
  go_end0
  exact ⟨rfl, _, M, mv.2.2.1, hM, mv.1, HK1.out.trans (Kept.fr mv.2.2.2)⟩
end Go.Proofs.Ytbafgheblindmaa
