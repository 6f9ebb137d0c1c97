/-
  Texts of this seat, joined: FVar.
-/
import Derived.Test.YtacdbglocpaeaaaRows
import Derived.Test.YtacdbglocpaeaaaZFPlain
set_option linter.unusedSimpArgs false
set_option linter.unusedVariables false
namespace Go.Proofs.Ytacdbglocpaeaaa
open Go.RowKit

/-- A reader at block r. -/
def Rd (w : World) (r : Nat) (s : ByteArray) (b : Bool) : Prop := Blk w r #[.string s, .bool b] 80

set_option maxHeartbeats 400000 in
theorem vNew (s : ByteArray) (w : World) :
    Calls Try.prog 27 #[.string s] w fun e w' => e = .returned (.pointer (some ⟨w.heap.size, 0, none⟩)) ∧ Rd w' w.heap.size s false ∧ Fr [] w w' := by
  go_enter Try.func27, Try.ntmps27
  go_wp2
  go_ret
  exact ⟨by simp, Blk.new _ _ _, (Fr.refl _ _).alloc _⟩

set_option maxHeartbeats 400000 in
theorem vFail (r : Nat) (s : ByteArray) (b : Bool) (w : World) (h : Rd w r s b) :
    Calls Try.prog 47 #[.pointer (some ⟨r, 0, none⟩)] w fun e w' => e = .returned (.tuple #[]) ∧ Rd w' r ⟨#[]⟩ true ∧ Fr [r] w w' := by
  have c0 := h.cellAt (i := 0) rfl
  have c1 := h.cellAt (i := 1) rfl
  have f0 := h.froz 0
  have f1 := h.froz 1
  go_enter Try.func47, Try.ntmps47
  go_wp2
  go_end0
  exact ⟨rfl, (Blk.set h 0 _).set 1 _, ((Fr.refl _ _).setCell (by simp) _).setCell (by simp) _⟩

set_option maxHeartbeats 400000 in
theorem vLeft (r : Nat) (s : ByteArray) (b : Bool) (w : World) (h : Rd w r s b) :
    Calls Try.prog 31 #[.pointer (some ⟨r, 0, none⟩)] w fun e w' => e = .returned (.int .i64 s.size) ∧ w = w' := by
  have c0 := h.cellAt (i := 0) rfl
  go_enter Try.func31, Try.ntmps31
  go_wp2
  go_ret
  exact ⟨by simp, rfl⟩

set_option maxHeartbeats 400000 in
theorem vOK (r : Nat) (s : ByteArray) (b : Bool) (w : World) (h : Rd w r s b) :
    Calls Try.prog 32 #[.pointer (some ⟨r, 0, none⟩)] w fun e w' => e = .returned (.bool (!b)) ∧ w = w' := by
  have c1 := h.cellAt (i := 1) rfl
  go_enter Try.func32, Try.ntmps32
  go_wp2
  go_ret
  exact ⟨by simp, rfl⟩

/-- Bytes: what is read, what is left, whether it is bad. -/
def rdBytes (s : ByteArray) (b : Bool) (n : Int) : ByteArray × ByteArray × Bool :=
  if b = true ∨ n < 0 ∨ (s.size : Int) < n then (⟨#[]⟩, ⟨#[]⟩, true) else (s.extract 0 n.toNat, s.extract n.toNat s.size, b)

set_option maxHeartbeats 400000 in
theorem vBytes (r : Nat) (s : ByteArray) (b : Bool) (n : Int) (w : World) (h : Rd w r s b) :
    Calls Try.prog 33 #[.pointer (some ⟨r, 0, none⟩), .int .i64 n] w fun e w' =>
      e = .returned (.string (rdBytes s b n).1) ∧ Rd w' r (rdBytes s b n).2.1 (rdBytes s b n).2.2 ∧ Fr [r] w w' := by
  have c0 := h.cellAt (i := 0) rfl
  have c1 := h.cellAt (i := 1) rfl
  have f0 := h.froz 0
  by_cases hb : b = true ∨ n < 0 ∨ (s.size : Int) < n
  · have hr : rdBytes s b n = (⟨#[]⟩, ⟨#[]⟩, true) := by rw [rdBytes, if_pos hb]
    rw [hr]
    go_enter Try.func33, Try.ntmps33
    go_wp2_with (go_at_call 47; refine (vFail _ _ _ _ h).mono ?_; rintro e w' ⟨rfl, h1, h2⟩)
    all_goals first | (go_ret; exact ⟨by simp, h1, h2⟩) | (exfalso; rcases hb with hb | hb | hb <;> first | contradiction | omega)
  · have hr : rdBytes s b n = (s.extract 0 n.toNat, s.extract n.toNat s.size, b) := by rw [rdBytes, if_neg hb]
    rw [hr]
    have h0 : b = false := by simpa using fun h => hb (.inl h)
    have h1 : 0 ≤ n := by omega
    have h2 : n ≤ s.size := by omega
    subst h0
    clear hb hr
    go_enter Try.func33, Try.ntmps33
    go_wp2_with (go_at_call 47; refine (vFail _ _ _ _ h).mono ?_; rintro e w' ⟨rfl, h1, h2⟩)
    go_ret
    exact ⟨by simp, Blk.set h 0 _, (Fr.refl _ _).setCell (by simp) _⟩
theorem rdBytes_size (s : ByteArray) (b : Bool) (n : Int) (N : Nat) (hn : n ≤ N) : (rdBytes s b n).1.size ≤ N := by
  unfold rdBytes
  split
  · exact Nat.zero_le _
  · rw [ByteArray.size_extract]; omega

set_option maxRecDepth 100000 in
set_option maxHeartbeats 1000000 in
theorem vFixedR (r : Nat) (s : ByteArray) (b : Bool) (n : Int) (w : World) (h : Rd w r s b) (hn : n ≤ 8) :
    Calls Try.prog 28 #[.pointer (some ⟨r, 0, none⟩), .int .i64 n] w fun e w' =>
      e = .returned (.int .u64 ((beNum 0 (rdBytes s b n).1.data.toList : Nat) : Int)) ∧ Rd w' r (rdBytes s b n).2.1 (rdBytes s b n).2.2 ∧ Fr [r] w w' := by
  have hn' : ¬ 8 < n := by omega
  have ht := rdBytes_size s b n 8 hn
  generalize hx : rdBytes s b n = x at *
  have Hx := Lib.hid hx
  clear hx
  go_enter Try.func28, Try.ntmps28
  go_wp2_with fail
  refine (vBytes _ _ _ _ _ h).mono ?_
  rw [Hx.out]
  rintro e w1 ⟨rfl, h1, h2⟩
  obtain ⟨t, s1, b1⟩ := x
  dsimp only at ht h1
  go_wp2_with (refine wpList_bytes 9 46 5 _ Try.underlying9 Try.underlying46 Try.underlying5 _ rfl ?_; intro g cap w2 hg hB hF)
  clear hg
  go_loop [4, 16] (fun v i => ∃ (k : Nat) (q : Int), k ≤ t.size ∧ i = .int .i64 k ∧ v = .int .u64 q ∧ Hid (q = ((beNum 0 (t.data.toList.take k) : Nat) : Int))) (fun _ i => t.size - (intOf i).toNat)
  case atStart => exact ⟨0, 0, Nat.zero_le _, rfl, rfl, rfl⟩
  case round =>
    obtain ⟨k, q, hk, rfl, rfl, HQ⟩ := hrel
    by_cases hlt : k < t.size
    · have hc := hB.out.cell hlt
      have HS := Lib.hid (beNum_succ 0 t.data.toList k hlt)
      generalize t.data.toList.getD k 0 = b0 at *
      go_wp2_with fail
      go_round
      case rel => exact ⟨k + 1, _, by omega, by go_num, rfl, by show _ = _; rw [HS.out]; exact beStep_bits HQ.out b0 rfl⟩
      case measure => simp [intOf]; omega
    · go_wp2_with fail
      go_ret
      exact ⟨ret_int (by rw [HQ.out, List.take_of_length_le (show t.data.toList.length ≤ k from Nat.le_of_not_lt hlt)]), h1.fr hF.out (by simp), h2.trans0 hF.out⟩
end Go.Proofs.Ytacdbglocpaeaaa
