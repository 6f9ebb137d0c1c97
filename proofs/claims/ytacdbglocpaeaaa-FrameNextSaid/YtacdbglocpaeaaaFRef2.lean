/-
  pintleref02: contracts of the reference's numbers.
-/
import Derived.Test.YtacdbglocpaeaaaFVar
import Derived.Test.YtacdbglocpaeaaaFVar2
import Derived.Test.YtacdbglocpaeaaaFFix
import Derived.Test.YtacdbglocpaeaaaFPut
import Derived.Deep.QuietTactic
import Derived.BigQuiet
import Derived.Deep.RegionHeld3
namespace Go.Proofs.Ytacdbglocpaeaaa
open Go.RowKit

/-- A reader of the reference at block r. -/
def RRd (w : World) (r : Nat) (s : ByteArray) (b : Bool) : Prop := Blk w r #[.string s, .bool b] 67

set_option maxHeartbeats 400000 in
theorem rvNew (s : ByteArray) (w : World) :
    Calls Try.prog 34 #[.string s] w fun e w' => e = .returned (.pointer (some ⟨w.heap.size, 0, none⟩)) ∧ RRd w' w.heap.size s false ∧ Fr [] w w' := by
  go_enter Try.func34, Try.ntmps34
  go_wp2
  go_ret
  exact ⟨by simp, Blk.new _ _ _, (Fr.refl _ _).alloc _⟩

set_option maxHeartbeats 400000 in
theorem rvFail (r : Nat) (s : ByteArray) (b : Bool) (w : World) (h : RRd w r s b) :
    Calls Try.prog 48 #[.pointer (some ⟨r, 0, none⟩)] w fun e w' => e = .returned (.tuple #[]) ∧ RRd w' r ⟨#[]⟩ true ∧ Fr [r] w w' := by
  have c0 := h.cellAt (i := 0) rfl
  have c1 := h.cellAt (i := 1) rfl
  have f0 := h.froz 0
  have f1 := h.froz 1
  go_enter Try.func48, Try.ntmps48
  go_wp2
  go_end0
  exact ⟨rfl, (Blk.set h 1 _).set 0 _, ((Fr.refl _ _).setCell (by simp) _).setCell (by simp) _⟩

set_option maxHeartbeats 400000 in
theorem rvBytes (r : Nat) (s : ByteArray) (b : Bool) (n : Int) (w : World) (h : RRd w r s b) :
    Calls Try.prog 37 #[.pointer (some ⟨r, 0, none⟩), .int .i64 n] w fun e w' =>
      e = .returned (.string (rdBytes s b n).1) ∧ RRd w' r (rdBytes s b n).2.1 (rdBytes s b n).2.2 ∧ Fr [r] w w' := by
  have c0 := h.cellAt (i := 0) rfl
  have c1 := h.cellAt (i := 1) rfl
  have f0 := h.froz 0
  by_cases hb : b = true ∨ n < 0 ∨ (s.size : Int) < n
  · have hr : rdBytes s b n = (⟨#[]⟩, ⟨#[]⟩, true) := by rw [rdBytes, if_pos hb]
    rw [hr]
    go_enter Try.func37, Try.ntmps37
    go_wp2_with (go_at_call 48; refine (rvFail _ _ _ _ h).mono ?_; rintro e w' ⟨rfl, h1, h2⟩)
    all_goals first | (go_ret; exact ⟨by simp, h1, h2⟩) | (exfalso; rcases hb with hb | hb | hb <;> first | contradiction | omega)
  · have hr : rdBytes s b n = (s.extract 0 n.toNat, s.extract n.toNat s.size, b) := by rw [rdBytes, if_neg hb]
    rw [hr]
    have h0 : b = false := by simpa using fun h => hb (.inl h)
    have h1 : 0 ≤ n := by omega
    have h2 : n ≤ s.size := by omega
    subst h0
    clear hb hr
    go_enter Try.func37, Try.ntmps37
    go_wp2_with (go_at_call 48; refine (rvFail _ _ _ _ h).mono ?_; rintro e w' ⟨rfl, h1, h2⟩)
    go_ret
    exact ⟨by simp, Blk.set h 0 _, (Fr.refl _ _).setCell (by simp) _⟩
theorem beStep_mul {q : Int} {a : Nat} (hq : q = (a : Int)) (b : UInt8) :
    IntKind.u64.wrap (IntKind.u64.wrap (q * 256) + IntKind.u64.wrap (b.toNat : Int)) = ((beStep a b : Nat) : Int) := by
  subst hq
  have := b.toNat_lt
  simp only [IntKind.wrap_u64]
  unfold beStep
  omega

theorem getD_get (s : ByteArray) (k : Nat) (h : k < s.size) : s.data.toList.getD k 0 = s[k] := by
  have h' : k < s.data.toList.length := h
  rw [List.getD_eq_getElem?_getD, List.getElem?_eq_getElem h']; rfl

set_option maxRecDepth 100000 in
set_option maxHeartbeats 1000000 in
theorem rvFixedR (r : Nat) (s : ByteArray) (b : Bool) (n : Int) (w : World) (h : RRd w r s b) (hn0 : 0 ≤ n) (hn : n ≤ 8) :
    Calls Try.prog 35 #[.pointer (some ⟨r, 0, none⟩), .int .i64 n] w fun e w' =>
      e = .returned (.int .u64 ((beNum 0 (rdBytes s b n).1.data.toList : Nat) : Int)) ∧ RRd w' r (rdBytes s b n).2.1 (rdBytes s b n).2.2 ∧ Fr [r] w w' := by
  have hn' : ¬ 8 < n := by omega
  have ht := rdBytes_size s b n 8 hn
  generalize hx : rdBytes s b n = x at *
  have Hx := Lib.hid hx
  clear hx
  go_enter Try.func35, Try.ntmps35
  go_wp2_with fail
  refine (rvBytes _ _ _ _ _ h).mono ?_
  rw [Hx.out]
  rintro e w1 ⟨rfl, h1, h2⟩
  obtain ⟨t, s1, b1⟩ := x
  dsimp only at ht h1
  go_wp2_with fail
  go_loop [6, 7] (fun v i => ∃ (k : Nat) (q : Int), k ≤ t.size ∧ i = .int .i64 k ∧ v = .int .u64 q ∧ Hid (q = ((beNum 0 (t.data.toList.take k) : Nat) : Int))) (fun _ i => t.size - (intOf i).toNat)
  case atStart => exact ⟨0, 0, Nat.zero_le _, rfl, rfl, rfl⟩
  case round =>
    obtain ⟨k, q, hk, rfl, rfl, HQ⟩ := hrel
    by_cases hlt : k < t.size
    · have HS := Lib.hid (beNum_succ 0 t.data.toList k hlt)
      rw [getD_get t k hlt] at HS
      go_wp2_with fail
      go_round
      case rel => exact ⟨k + 1, _, by omega, by go_num, rfl, by show _ = _; rw [HS.out]; exact beStep_mul HQ.out t[k]⟩
      case measure => simp [intOf]; omega
    · go_wp2_with fail
      go_ret
      exact ⟨ret_int (by rw [HQ.out, List.take_of_length_le (show t.data.toList.length ≤ k from Nat.le_of_not_lt hlt)]), h1, h2⟩
/-! ### Put -/
theorem ofByte128 {q : Int} (h : 0 ≤ q) : (q % 128 + 128) = ((UInt8.ofNat (q.toNat % 128 + 128)).toNat : Int) := by
  simp; omega

set_option maxRecDepth 100000 in
set_option maxHeartbeats 1000000 in
theorem rvPut (n : Int) (w : World) (hn0 : 0 ≤ n) (hn : n < 18446744073709551616):
    Calls Try.prog 25 #[.int .u64 n] w fun e w' =>
      e = .returned (.string (bs (putL n.toNat))) ∧ Fr [] w w' := by
  have Hn : Hid (n.toNat < 128 ^ 10) := show n.toNat < 128 ^ 10 from Nat.lt_of_lt_of_le (m := 18446744073709551616) (by omega) (by decide)
  go_enter Try.func25, Try.ntmps25
  go_wp2_with fail
  go_loopw [0, 3] (fun x v wr => ∃ q f l, x = .int .u64 q ∧ 0 ≤ q ∧ q < 18446744073709551616 ∧ l.length + f = 9 ∧ Hid (q.toNat < 128 ^ (f + 1)) ∧ Hid (putL n.toNat = l ++ putF (f + 1) q.toNat) ∧ Hid (wr.ownsRow w.heap.size 5 1 v l.length (cellsB l)) ∧ Hid (Fr [] w wr)) (fun x _ _ => (intOf x).toNat)
  case atStart => exact ⟨n, 9, [], rfl, hn0, hn, rfl, Hn, rfl, World.ownsRow_nil _ _ _ _, Fr.refl _ _⟩
  case round =>
    obtain ⟨q, f, l, rfl, hq0, hq, hlf, Hk, Hp, Ho, HF⟩ := hrel
    have hl9 : l.length + 1 ≤ maxLen := by unfold maxLen; omega
    have hsz := HF.out.size
    by_cases hlt : q < 128
    · go_wp2_with (refine wpList_app Try.elB (.tmp 15) (.tmp 18) w.heap.size _ l.length (cellsB l) rfl (Ho.out.alloc _) ⟨wr.heap.size, 0, none⟩ 1 1 [.int .u8 q] rfl rfl (cell_one_new _ _ _) (by simp [Value.oneCell']) hl9 (by omega) (by show _ ≤ (wr.heap.push _).size; rw [Array.size_push]; omega) ?_; intro v1 w1 Ho1 HF1; have hcv := run_string_own (P := Try.prog) (l := l ++ [UInt8.ofNat q.toNat]) Try.underlying46 Try.underlying5 Try.underlying9 (by rw [← cellsB, ← cellsB_snoc, ofNat_toNat hq0 (by omega)]; exact Ho1.out))
      go_ret
      exact ⟨ret_str (by rw [Hp.out, putF_last hlt]; rfl), ((HF.out.alloc _).trans HF1.out (fun x hx => .inr (ownsRow_below Ho.out x hx)))⟩
    · obtain ⟨f, rfl⟩ : ∃ m, f = m + 1 := by
        cases f with
        | zero => have := Hk.out; omega
        | succ m => exact ⟨m, rfl⟩
      go_wp2_with (refine wpList_app Try.elB (.tmp 6) (.tmp 11) w.heap.size _ l.length (cellsB l) rfl (Ho.out.alloc _) ⟨wr.heap.size, 0, none⟩ 1 1 [.int .u8 (q % 128 + 128)] rfl rfl (cell_one_new _ _ _) (by simp [Value.oneCell']) hl9 (by omega) (by show _ ≤ (wr.heap.push _).size; rw [Array.size_push]; omega) ?_; intro v1 w1 Ho1 HF1)
      refine ⟨⟨q / 128, f, l ++ [UInt8.ofNat (q.toNat % 128 + 128)], rfl, by omega, by omega, by simp only [List.length_append, List.length_cons, List.length_nil]; omega, ?_, ?_, ?_, ?_⟩, by simp only [intOf]; omega⟩
      · have h := Hk.out
        rw [Nat.pow_succ] at h
        show (q / 128).toNat < 128 ^ (f + 1)
        omega
      · show putL n.toNat = _
        rw [Hp.out, putF_more hq0 (by omega)]; simp
      · show World.ownsRow _ _ _ _ _ _ _
        rw [← cellsB_snoc, ← ofByte128 hq0]
        simpa using Ho1.out
      · exact ((HF.out.alloc _).trans HF1.out (fun x hx => .inr (ownsRow_below Ho.out x hx)))
end Go.Proofs.Ytacdbglocpaeaaa
