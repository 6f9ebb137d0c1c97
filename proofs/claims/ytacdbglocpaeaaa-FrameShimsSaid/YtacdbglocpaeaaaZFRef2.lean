/-
  Texts of this seat, joined: FRef2 FRef2b.
-/
import Derived.Test.YtacdbglocpaeaaaZFVar
import Derived.Test.YtacdbglocpaeaaaZFVar2
import Derived.Test.YtacdbglocpaeaaaZFFix
import Derived.Test.YtacdbglocpaeaaaZFPut
import Derived.Deep.QuietTactic
import Derived.BigQuiet
import Derived.Deep.RegionHeld3
import Derived.IntWalk
import Derived.Lib.Strings
set_option linter.unusedSimpArgs false
set_option linter.unusedVariables false
namespace Go.Proofs.Ytacdbglocpaeaaa
open Go.RowKit

/-- A reader of the reference at block r. -/
def RRd (w : World) (r : Nat) (s : ByteArray) (b : Bool) : Prop := Blk w r #[.string s, .bool b] 67

set_option maxHeartbeats 400000 in
theorem rvNew (s : ByteArray) (w : World) :
    Calls Try.prog 34 #[.string s] w fun e w' => e = .returned (.pointer (some ⟨w.heap.size, 0, none⟩)) ∧ RRd w' w.heap.size s false ∧ Fr [] w w' := by
  go_enter Try.func34, Try.ntmps34
  go_wp2
  go_ret
  exact ⟨by simp, Blk.new _ _ _, (Fr.refl _ _).alloc _⟩

set_option maxHeartbeats 400000 in
theorem rvFail (r : Nat) (s : ByteArray) (b : Bool) (w : World) (h : RRd w r s b) :
    Calls Try.prog 48 #[.pointer (some ⟨r, 0, none⟩)] w fun e w' => e = .returned (.tuple #[]) ∧ RRd w' r ⟨#[]⟩ true ∧ Fr [r] w w' := by
  have c0 := h.cellAt (i := 0) rfl
  have c1 := h.cellAt (i := 1) rfl
  have f0 := h.froz 0
  have f1 := h.froz 1
  go_enter Try.func48, Try.ntmps48
  go_wp2
  go_end0
  exact ⟨rfl, (Blk.set h 1 _).set 0 _, ((Fr.refl _ _).setCell (by simp) _).setCell (by simp) _⟩

set_option maxHeartbeats 400000 in
theorem rvBytes (r : Nat) (s : ByteArray) (b : Bool) (n : Int) (w : World) (h : RRd w r s b) :
    Calls Try.prog 37 #[.pointer (some ⟨r, 0, none⟩), .int .i64 n] w fun e w' =>
      e = .returned (.string (rdBytes s b n).1) ∧ RRd w' r (rdBytes s b n).2.1 (rdBytes s b n).2.2 ∧ Fr [r] w w' := by
  have c0 := h.cellAt (i := 0) rfl
  have c1 := h.cellAt (i := 1) rfl
  have f0 := h.froz 0
  by_cases hb : b = true ∨ n < 0 ∨ (s.size : Int) < n
  · have hr : rdBytes s b n = (⟨#[]⟩, ⟨#[]⟩, true) := by rw [rdBytes, if_pos hb]
    rw [hr]
    go_enter Try.func37, Try.ntmps37
    go_wp2_with (go_at_call 48; refine (rvFail _ _ _ _ h).mono ?_; rintro e w' ⟨rfl, h1, h2⟩)
    all_goals first | (go_ret; exact ⟨by simp, h1, h2⟩) | (exfalso; rcases hb with hb | hb | hb <;> first | contradiction | omega)
  · have hr : rdBytes s b n = (s.extract 0 n.toNat, s.extract n.toNat s.size, b) := by rw [rdBytes, if_neg hb]
    rw [hr]
    have h0 : b = false := by simpa using fun h => hb (.inl h)
    have h1 : 0 ≤ n := by omega
    have h2 : n ≤ s.size := by omega
    subst h0
    clear hb hr
    go_enter Try.func37, Try.ntmps37
    go_wp2_with (go_at_call 48; refine (rvFail _ _ _ _ h).mono ?_; rintro e w' ⟨rfl, h1, h2⟩)
    go_ret
    exact ⟨by simp, Blk.set h 0 _, (Fr.refl _ _).setCell (by simp) _⟩
theorem beStep_mul {q : Int} {a : Nat} (hq : q = (a : Int)) (b : UInt8) :
    IntKind.u64.wrap (IntKind.u64.wrap (q * 256) + IntKind.u64.wrap (b.toNat : Int)) = ((beStep a b : Nat) : Int) := by
  subst hq
  have := b.toNat_lt
  simp only [IntKind.wrap_u64]
  unfold beStep
  omega

theorem getD_get (s : ByteArray) (k : Nat) (h : k < s.size) : s.data.toList.getD k 0 = s[k] := by
  have h' : k < s.data.toList.length := h
  rw [List.getD_eq_getElem?_getD, List.getElem?_eq_getElem h']; rfl

set_option maxRecDepth 100000 in
set_option maxHeartbeats 1000000 in
theorem rvFixedR (r : Nat) (s : ByteArray) (b : Bool) (n : Int) (w : World) (h : RRd w r s b) (hn0 : 0 ≤ n) (hn : n ≤ 8) :
    Calls Try.prog 35 #[.pointer (some ⟨r, 0, none⟩), .int .i64 n] w fun e w' =>
      e = .returned (.int .u64 ((beNum 0 (rdBytes s b n).1.data.toList : Nat) : Int)) ∧ RRd w' r (rdBytes s b n).2.1 (rdBytes s b n).2.2 ∧ Fr [r] w w' := by
  have hn' : ¬ 8 < n := by omega
  have ht := rdBytes_size s b n 8 hn
  generalize hx : rdBytes s b n = x at *
  have Hx := Lib.hid hx
  clear hx
  go_enter Try.func35, Try.ntmps35
  go_wp2_with fail
  refine (rvBytes _ _ _ _ _ h).mono ?_
  rw [Hx.out]
  rintro e w1 ⟨rfl, h1, h2⟩
  obtain ⟨t, s1, b1⟩ := x
  dsimp only at ht h1
  go_wp2_with fail
  go_loop [6, 7] (fun v i => ∃ (k : Nat) (q : Int), k ≤ t.size ∧ i = .int .i64 k ∧ v = .int .u64 q ∧ Hid (q = ((beNum 0 (t.data.toList.take k) : Nat) : Int))) (fun _ i => t.size - (intOf i).toNat)
  case atStart => exact ⟨0, 0, Nat.zero_le _, rfl, rfl, rfl⟩
  case round =>
    obtain ⟨k, q, hk, rfl, rfl, HQ⟩ := hrel
    by_cases hlt : k < t.size
    · have HS := Lib.hid (beNum_succ 0 t.data.toList k hlt)
      rw [getD_get t k hlt] at HS
      go_wp2_with fail
      go_round
      case rel => exact ⟨k + 1, _, by omega, by go_num, rfl, by show _ = _; rw [HS.out]; exact beStep_mul HQ.out t[k]⟩
      case measure => simp [intOf]; omega
    · go_wp2_with fail
      go_ret
      exact ⟨ret_int (by rw [HQ.out, List.take_of_length_le (show t.data.toList.length ≤ k from Nat.le_of_not_lt hlt)]), h1, h2⟩
/-! ### Put -/
theorem ofByte128 {q : Int} (h : 0 ≤ q) : (q % 128 + 128) = ((UInt8.ofNat (q.toNat % 128 + 128)).toNat : Int) := by
  simp; omega

set_option maxRecDepth 100000 in
set_option maxHeartbeats 1000000 in
theorem rvPut (n : Int) (w : World) (hn0 : 0 ≤ n) (hn : n < 18446744073709551616):
    Calls Try.prog 25 #[.int .u64 n] w fun e w' =>
      e = .returned (.string (bs (putL n.toNat))) ∧ Fr [] w w' := by
  have Hn : Hid (n.toNat < 128 ^ 10) := show n.toNat < 128 ^ 10 from Nat.lt_of_lt_of_le (m := 18446744073709551616) (by omega) (by decide)
  go_enter Try.func25, Try.ntmps25
  go_wp2_with fail
  go_loopw [0, 3] (fun x v wr => ∃ q f l, x = .int .u64 q ∧ 0 ≤ q ∧ q < 18446744073709551616 ∧ l.length + f = 9 ∧ Hid (q.toNat < 128 ^ (f + 1)) ∧ Hid (putL n.toNat = l ++ putF (f + 1) q.toNat) ∧ Hid (wr.ownsRow w.heap.size 5 1 v l.length (cellsB l)) ∧ Hid (Fr [] w wr)) (fun x _ _ => (intOf x).toNat)
  case atStart => exact ⟨n, 9, [], rfl, hn0, hn, rfl, Hn, rfl, World.ownsRow_nil _ _ _ _, Fr.refl _ _⟩
  case round =>
    obtain ⟨q, f, l, rfl, hq0, hq, hlf, Hk, Hp, Ho, HF⟩ := hrel
    have hl9 : l.length + 1 ≤ maxLen := by unfold maxLen; omega
    have hsz := HF.out.size
    by_cases hlt : q < 128
    · go_wp2_with (refine wpList_app Try.elB (.tmp 15) (.tmp 18) w.heap.size _ l.length (cellsB l) rfl (Ho.out.alloc _) ⟨wr.heap.size, 0, none⟩ 1 1 [.int .u8 q] rfl rfl (cell_one_new _ _ _) (by simp [Value.oneCell']) hl9 (by omega) (by show _ ≤ (wr.heap.push _).size; rw [Array.size_push]; omega) ?_; intro v1 w1 Ho1 HF1; have hcv := run_string_own (P := Try.prog) (l := l ++ [UInt8.ofNat q.toNat]) Try.underlying46 Try.underlying5 Try.underlying9 (by rw [← cellsB, ← cellsB_snoc, ofNat_toNat hq0 (by omega)]; exact Ho1.out))
      go_ret
      exact ⟨ret_str (by rw [Hp.out, putF_last hlt]; rfl), ((HF.out.alloc _).trans HF1.out (fun x hx => .inr (ownsRow_below Ho.out x hx)))⟩
    · obtain ⟨f, rfl⟩ : ∃ m, f = m + 1 := by
        cases f with
        | zero => have := Hk.out; omega
        | succ m => exact ⟨m, rfl⟩
      go_wp2_with (refine wpList_app Try.elB (.tmp 6) (.tmp 11) w.heap.size _ l.length (cellsB l) rfl (Ho.out.alloc _) ⟨wr.heap.size, 0, none⟩ 1 1 [.int .u8 (q % 128 + 128)] rfl rfl (cell_one_new _ _ _) (by simp [Value.oneCell']) hl9 (by omega) (by show _ ≤ (wr.heap.push _).size; rw [Array.size_push]; omega) ?_; intro v1 w1 Ho1 HF1)
      refine ⟨⟨q / 128, f, l ++ [UInt8.ofNat (q.toNat % 128 + 128)], rfl, by omega, by omega, by simp only [List.length_append, List.length_cons, List.length_nil]; omega, ?_, ?_, ?_, ?_⟩, by simp only [intOf]; omega⟩
      · have h := Hk.out
        rw [Nat.pow_succ] at h
        show (q / 128).toNat < 128 ^ (f + 1)
        omega
      · show putL n.toNat = _
        rw [Hp.out, putF_more hq0 (by omega)]; simp
      · show World.ownsRow _ _ _ _ _ _ _
        rw [← cellsB_snoc, ← ofByte128 hq0]
        simpa using Ho1.out
      · exact ((HF.out.alloc _).trans HF1.out (fun x hx => .inr (ownsRow_below Ho.out x hx)))
end Go.Proofs.Ytacdbglocpaeaaa

namespace Go.Proofs.Ytacdbglocpaeaaa
open Go.RowKit

def refArr (n : Int) (size j : Nat) : Array Value := ((List.range size).map (fun i => Value.int .u8 (if j ≤ i then n / 256 ^ (size - 1 - i) % 256 else 0))).toArray

theorem refArr_set (n : Int) (size j : Nat) (_h : j < size) : (refArr n size (j + 1)).setIfInBounds j (.int .u8 (n / 256 ^ (size - 1 - j) % 256)) = refArr n size j := by
  apply Array.ext
  · simp [refArr]
  · intro i h1 h2
    simp only [refArr, Array.size_setIfInBounds, List.size_toArray, List.length_map, List.length_range] at h1 h2
    rw [Array.getElem_setIfInBounds (by simpa [refArr] using h1)]
    simp only [refArr, List.getElem_toArray, List.getElem_map, List.getElem_range]
    by_cases e : j = i
    · subst e; simp
    · rw [if_neg e]
      congr 1
      by_cases h3 : j ≤ i
      · rw [if_pos (by omega), if_pos h3]
      · rw [if_neg (by omega), if_neg h3]

theorem refArr_get (n : Int) (size j i : Nat) (h : i < size) : (refArr n size j)[i]? = some (.int .u8 (if j ≤ i then n / 256 ^ (size - 1 - i) % 256 else 0)) := by
  simp [refArr, h]

theorem refArr_zero (n : Int) (size : Nat) : refArr n size size = Array.replicate size (.int .u8 0) := by
  apply Array.ext
  · simp [refArr]
  · intro i h1 h2
    simp only [refArr, List.size_toArray, List.length_map, List.length_range] at h1
    simp [refArr]
    omega

theorem pow256 (k : Nat) : (2 : Int) ^ (8 * k) = 256 ^ k := by rw [Int.pow_mul]; rfl

theorem fixB_ref (n : Int) (size i : Nat) (hs : size ≤ 8) (hi : i < size) : fixB n (8 - size + i) = n / 256 ^ (size - 1 - i) % 256 := by
  unfold fixB
  rw [pow256, show 7 - (8 - size + i) = size - 1 - i from by omega]

theorem div256 (n : Int) (k : Nat) : n / 256 ^ k / 256 = n / 256 ^ (k + 1) := by
  rw [Int.ediv_ediv_of_nonneg (by exact Int.pow_nonneg (by decide)), Int.pow_succ]

set_option maxRecDepth 100000 in
set_option maxHeartbeats 1000000 in
theorem rvFixed (n : Int) (size : Nat) (w : World) (h : size ≤ 8) (_h1 : 1 ≤ size) (hn0 : 0 ≤ n) (hn : n < 18446744073709551616):
    Calls Try.prog 24 #[.int .u64 n, .int .i64 size] w fun e w' =>
      e = .returned (.string (bs (fixL n size))) ∧ Fr [] w w' := by
  have hmx : size ≤ maxLen := by unfold maxLen; omega
  have hy0 : (0 : Int) ≤ size := by omega
  go_enter Try.func24, Try.ntmps24
  go_wp2_with (refine wpList_makeN Try.elB rfl _ _ size _ _ rfl rfl (by omega) hmx ?_; intro g w1 hg HB HF)
  have HG : Hid (w.heap.size ≤ g) := by have := hg.out; show w.heap.size ≤ g; omega
  clear hg
  go_loopw [0, 6] (fun x i wr => ∃ (j : Nat) (q : Int), j ≤ size ∧ 0 ≤ q ∧ q < 18446744073709551616 ∧ x = .int .u64 q ∧ i = .int .i64 ((j : Int) - 1) ∧ Hid (q = n / 256 ^ (size - j)) ∧ Hid (Blk wr g (refArr n size j) 5) ∧ Hid (Fr [] w wr)) (fun _ i _ => (intOf i + 1).toNat)
  case atStart => exact ⟨size, n, Nat.le_refl _, hn0, hn, rfl, rfl, by show _ = _; simp, by rw [refArr_zero]; exact HB, HF⟩
  case round =>
    obtain ⟨j, q, hj, hq0, hq, rfl, rfl, HQ, HB, HF⟩ := hrel
    by_cases hlt : 1 ≤ j
    · obtain ⟨j, rfl⟩ : ∃ m, j = m + 1 := ⟨j - 1, by omega⟩
      have e1 : ((j + 1 : Nat) : Int) - 1 = (j : Int) := by omega
      rw [e1]
      have hc := HB.out.cellAt (refArr_get n size (j + 1) j (by omega))
      have hf := HB.out.froz j
      have hjl : (j : Int) < size := by omega
      have HS := Lib.hid (refArr_set n size j (by omega))
      clear e1
      go_wp2_with fail
      go_roundw
      case rel =>
        refine ⟨j, _, by omega, by omega, by omega, rfl, rfl, ?_, ?_, HF.out.setCell (.inr HG.out) _⟩
        · show _ = _
          rw [HQ.out, div256, show size - (j + 1) + 1 = size - j from by omega]
        · show Blk _ _ _ _
          rw [← HS.out, HQ.out, show size - (j + 1) = size - 1 - j from by omega]
          exact HB.out.set j _
      case measure => simp [intOf]
    · obtain rfl : j = 0 := by omega
      have hcv := run_convert_bytes_back (P := Try.prog) wr 46 9 5 ⟨g, 0, none⟩ size (fixL n size) Try.underlying46 Try.underlying5 Try.underlying9
        (fun j hj => by
          have h2 : j < size := by rw [fixL_length n size h] at hj; exact hj
          rw [fixL_get n size j hj h]
          have h5 := HB.out.cellAt (refArr_get n size 0 j h2)
          rw [if_pos (by omega), ← fixB_ref n size j h h2] at h5
          rw [← h5]
          unfold Addr.add
          split
          · subst j; rfl
          · simp)
      rw [fixL_length n size h] at hcv
      go_wp2_with fail
      go_ret
      exact ⟨by simp [bs], HF.out⟩

/-! ### Var -/
theorem rstep_bits {q : Int} {n c k : Nat} (hq : q = (n : Int)) (hn : n < 18446744073709551616) :
    bits BinOp.or IntKind.u64 q (IntKind.u64.wrap ((c : Int) % 128 * 2 ^ (7 * k))) = ((vS n c k : Nat) : Int) := by
  subst hq
  have h1 : ((c : Int) % 128) = ((c % 128 : Nat) : Int) := by omega
  rw [h1, IntKind.wrap_u64]
  have h2 : ((c % 128 : Nat) : Int) * 2 ^ (7 * k) % 18446744073709551616 = ((c % 128 * 2 ^ (7 * k) % 18446744073709551616 : Nat) : Int) := by simp
  rw [h2, bits_or_u64_nat _ _ hn (Nat.mod_lt _ (by decide))]
  rfl

theorem take_snoc (s : ByteArray) (k : Nat) (h : k < s.size) : s.data.toList.take (k + 1) = s.data.toList.take k ++ [s[k]] := by
  rw [List.take_succ_eq_append_getElem (by simpa using h)]; rfl

theorem extract_take (s : ByteArray) (k : Nat) : (s.extract 0 k).toList = s.data.toList.take k := by
  rw [Lib.extract_toList]; simp

/-- What has been read by k rounds: numbers of 128 and more. -/
def VarIn (s : ByteArray) (k n : Nat) : Prop := n = vval (s.data.toList.take k) % 18446744073709551616 ∧ ∀ b ∈ s.data.toList.take k, 128 ≤ b.toNat

theorem VarIn.len {s : ByteArray} {k : Nat} (h : k < s.size) : (s.data.toList.take k).length = k := by
  have : k < s.data.toList.length := h
  rw [List.length_take]; exact Nat.min_eq_left (Nat.le_of_lt this)

theorem VarIn.num {s : ByteArray} {k n : Nat} (h : VarIn s k n) (hk : k < s.size) (h9 : k ≤ 9) : n = vval (s.data.toList.take k) := by
  have h1 := vval_lt (s.data.toList.take k)
  rw [VarIn.len hk] at h1
  have h2 : (128 : Nat) ^ k ≤ 128 ^ 9 := Nat.pow_le_pow_right (by decide) h9
  have h3 : (128 : Nat) ^ 9 = 9223372036854775808 := by decide
  rw [h.1, Nat.mod_eq_of_lt (by omega)]

theorem VarIn.next {s : ByteArray} {k n : Nat} (h : VarIn s k n) (hk : k < s.size) (h9 : k ≤ 9) (hc : 128 ≤ s[k].toNat) : VarIn s (k + 1) (vS n s[k].toNat k) := by
  have e := h.num hk h9
  have hl := VarIn.len hk
  refine ⟨?_, ?_⟩
  · have := vS_val (l := s.data.toList.take k) (c := s[k]) (by omega)
    rw [hl, ← e] at this
    rw [this, take_snoc s k hk]
  · intro b hb
    rw [take_snoc s k hk] at hb
    rcases List.mem_append.1 hb with h1 | h1
    · exact h.2 b h1
    · simp at h1; subst h1; exact hc

theorem VarIn.test {s : ByteArray} {k n : Nat} (h : VarIn s k n) (hk : k < s.size) (h9 : k ≤ 9) (hc : s[k].toNat < 128) {q : Int} (hq : q = ((vS n s[k].toNat k : Nat) : Int)) :
    ((bs (putL q.toNat)).toList == (s.extract 0 (k + 1)).toList) = true ↔ ¬ ((0 < k ∧ s[k].toNat = 0) ∨ (k = 9 ∧ 1 < s[k].toNat)) := by
  have hl := VarIn.len hk
  have := put_test (l := s.data.toList.take k) (c := s[k]) (by omega) h.2 hc
  rw [hl, ← h.num hk h9] at this
  rw [← this, beq_iff_eq, Lib.toList_data, bs_list, extract_take, take_snoc s k hk, hq, Int.toNat_natCast]

set_option maxRecDepth 100000 in
set_option maxHeartbeats 2000000 in
theorem rvVar (r : Nat) (s : ByteArray) (b : Bool) (w : World) (h : RRd w r s b) (hs : s.size ≤ maxLen) :
    Calls Try.prog 36 #[.pointer (some ⟨r, 0, none⟩)] w fun e w' =>
      e = .returned (.int .u64 (rdVar s b).1) ∧ RRd w' r (rdVar s b).2.1 (rdVar s b).2.2 ∧ Fr [r] w w' := by
  unfold maxLen at hs
  have c0 := h.cellAt (i := 0) rfl
  have f0 := h.froz 0
  go_enter Try.func36, Try.ntmps36
  go_wp2_with fail
  go_loop [3, 4] (fun v i => ∃ (k n : Nat) (q : Int), k ≤ 10 ∧ k ≤ s.size ∧ i = .int .i64 k ∧ v = .int .u64 q ∧ Hid (q = (n : Int) ∧ n < 18446744073709551616) ∧ Hid (VarIn s k n) ∧ Hid (varGo s.data.toList 0 0 = varGo (s.data.toList.drop k) k n)) (fun _ i => s.size - (intOf i).toNat)
  case atStart => exact ⟨0, 0, 0, by omega, by omega, rfl, rfl, ⟨rfl, by decide⟩, ⟨rfl, by simp⟩, rfl⟩
  case round =>
    obtain ⟨k, n, q, hk, hk2, rfl, rfl, HQ, HI, HV⟩ := hrel
    by_cases hlt : k < 10 ∧ k < s.size
    · obtain ⟨h1, h2⟩ := hlt
      have hb0 : 0 ≤ (s[k].toNat : Int) := by omega
      have hb1 : (s[k].toNat : Int) < 256 := by have := s[k].toNat_lt; omega
      have HN := Lib.hid (rstep_bits (c := s[k].toNat) (k := k) HQ.out.1 HQ.out.2)
      have HL := Lib.hid (vS_lt (c := s[k].toNat) (k := k) HQ.out.2)
      go_wp2_with fail
      · generalize bits BinOp.or IntKind.u64 q (IntKind.u64.wrap ((s[k].toNat : Int) % 128 * 2 ^ (7 * k))) = q2 at *
        have hq0 : 0 ≤ q2 := by have := HN.out; omega
        have hq1 : q2 < 18446744073709551616 := by have := HN.out; have := HL.out; omega
        have hk1 : (k : Int) + 1 ≤ s.size := by omega
        have hk0 : 0 ≤ (k : Int) + 1 := by omega
        have hk2 : ((k : Int) + 1).toNat = k + 1 := by omega
        have hk3 : IntKind.i64.wrap ((k : Int) + 1) = (k : Int) + 1 := IntWalk.i64_in _ (by omega)
        go_region_held3 (fun w' => w'.cell? ⟨r, 0, none⟩ = some (.string s)) (first | exact c0 | exact hcc) (first | (go_at_call 25; refine (rvPut q2 _ hq0 hq1).mono ?_; rintro e w' ⟨rfl, h3⟩; have hcc : w'.cell? ⟨r, 0, none⟩ = some (.string s) := (Blk.fr0 (h.drew) h3).cellAt (i := 0) rfl))
        have HT : Hid (((bs (putL q2.toNat)).toList == (s.extract 0 (k + 1)).toList) = true ↔ ¬ ((0 < k ∧ s[k].toNat = 0) ∨ (k = 9 ∧ 1 < s[k].toNat))) := by
          have : s[k].toNat < 128 := by omega
          exact HI.out.test h2 (by omega) this HN.out
        generalize ((bs (putL q2.toNat)).toList == (s.extract 0 (k + 1)).toList) = T at *
        have hr3 : RRd w' r s b := Blk.fr0 (h.drew) h3
        have H3 := Lib.hid h3
        clear h3
        have f3 := hr3.froz 0
        cases T with
        | true =>
          have hT := Lib.hid (HT.out.1 (by first | rfl | trivial))
          go_wp2_with fail
          go_ret
          rw [rdVar_ok HV h2 h1 (by omega) hT.out]
          exact ⟨ret_int HN.out, Blk.set hr3 0 _, (((Fr.refl [r] w).drew).trans0 H3.out).setCell (by simp) _⟩
        | false =>
          have hT := Lib.hid (Decidable.not_not.1 (fun hn => by have := HT.out.2 hn; simp at this))
          go_wp2_with (go_at_call 48; refine (rvFail _ _ _ _ hr3).mono ?_; rintro e w2 ⟨rfl, h5, h6⟩)
          go_ret
          rw [rdVar_bad HV h2 (by omega) hT.out]
          exact ⟨by simp, h5, (((Fr.refl [r] w).drew).trans0 H3.out).trans1 h6⟩
      · go_round
        case rel => exact ⟨k + 1, _, _, by omega, by omega, by go_num, rfl, ⟨HN.out, vS_lt HQ.out.2⟩, HI.out.next h2 (by omega) (by omega), HV.out.trans (varGo_more h2 h1 (by omega))⟩
        case measure => simp [intOf]; omega
    · by_cases h10 : k < 10
      all_goals
        go_wp2_with (go_at_call 48; refine (rvFail _ _ _ _ h).mono ?_; rintro e w2 ⟨rfl, h5, h6⟩)
        go_ret
        rw [rdVar_end HV (by omega)]
        exact ⟨by simp, h5, h6⟩
end Go.Proofs.Ytacdbglocpaeaaa
