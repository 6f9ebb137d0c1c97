/-
  crc.More, crc.Sum; the reference's More, Sum.
-/
import Derived.Test.YtacdbglocpaeaaaFCrc
namespace Go.Proofs.Ytacdbglocpaeaaa
open Go.RowKit

theorem not_val {q : Int} {a : Nat} (hq : q = (a : Int)) (ha : a < 4294967296) : bits BinOp.xor IntKind.u32 IntKind.u32.max q = ((4294967295 - a : Nat) : Int) := by
  subst hq; exact not_u32 a ha

theorem crcRun_succ (x : Nat) (l : List UInt8) (k : Nat) (h : k < l.length) : crcRun x (l.take (k + 1)) = crcByte (crcRun x (l.take k)) (l.getD k 0) :=
  foldl_take_succ crcByte x l k h

set_option maxRecDepth 100000 in
set_option maxHeartbeats 1000000 in
theorem cMore (a : Nat) (s : ByteArray) (w : World) (ha : a < 4294967296) (hs : s.size ≤ maxLen) :
    Calls Try.prog 22 #[.int .u32 (a : Int), .string s] w fun e w' => e = .returned (.int .u32 ((crcMore a s.data.toList : Nat) : Int)) ∧ Fr [] w w' := by
  unfold maxLen at hs
  generalize hq : (a : Int) = q
  have h0 : 0 ≤ q := by omega
  have h1 : q < 4294967296 := by omega
  have Hv := Lib.hid (not_val hq.symm ha)
  have Hlt := Lib.hid ha
  clear hq ha
  go_enter Try.func22, Try.ntmps22
  have HB0 : Hid (Blk (w.alloc (.cells #[.int .u32 (bits BinOp.xor IntKind.u32 IntKind.u32.max q)] 77)) w.heap.size #[.int .u32 ((crcRun (4294967295 - a) [] : Nat) : Int)] 77) := by
    rw [Hv.out]; exact Blk.new _ _ _
  have HF0 : Hid (Fr [] w (w.alloc (.cells #[.int .u32 (bits BinOp.xor IntKind.u32 IntKind.u32.max q)] 77))) := (Fr.refl _ _).alloc _
  go_wp2_with (refine wpList_bytes 9 46 5 _ Try.underlying9 Try.underlying46 Try.underlying5 _ rfl ?_; intro g cap w2 hg hB hF)
  have hne : Hid (w.heap.size ≠ g) := by
    have h2 : g = w.heap.size + 1 := hg.out.trans (by simp)
    show w.heap.size ≠ g
    omega
  clear hg
  go_loopw [7, 13] (fun _ i wr => ∃ k : Nat, k ≤ s.size ∧ i = .int .i64 k ∧ Hid (Blk wr w.heap.size #[.int .u32 ((crcRun (4294967295 - a) (s.data.toList.take k) : Nat) : Int)] 77) ∧ Hid (Byt wr g s 5) ∧ Hid (Fr [] w wr)) (fun _ i _ => s.size - (intOf i).toNat)
  case atStart => exact ⟨0, by omega, rfl, HB0.out.fr0 hF.out, hB, HF0.out.trans0 hF.out⟩
  case round =>
    obtain ⟨k, hk, rfl, HB, HY, HF⟩ := hrel
    by_cases hlt : k < s.size
    · have hc := HY.out.cell hlt
      have HS := Lib.hid (crcRun_succ (4294967295 - a) s.data.toList k hlt)
      generalize s.data.toList.getD k 0 = b0 at *
      go_wp2_with (go_at_call 45; refine (cTake _ _ _ _ (crcRun_lt _ (by omega)) HB.out).mono ?_; rintro e w' ⟨rfl, h4, h5⟩)
      go_roundw
      case rel => exact ⟨k + 1, by omega, by go_num, by rw [HS.out]; exact h4, HY.out.fr h5 (by simpa using fun h => hne.out h.symm), HF.out.trans h5 (by simp)⟩
      case measure => simp [intOf]; omega
    · have e : s.data.toList.take k = s.data.toList := List.take_of_length_le (show s.data.toList.length ≤ k from Nat.le_of_not_lt hlt)
      have HB2 : Hid (Blk wr w.heap.size #[.int .u32 ((crcRun (4294967295 - a) s.data.toList : Nat) : Int)] 77) := by rw [← e]; exact HB
      clear HB e
      have Hr := Lib.hid (crcRun_lt s.data.toList (x := 4294967295 - a) (by omega))
      have Hn := Lib.hid (not_val rfl Hr.out)
      generalize ((crcRun (4294967295 - a) s.data.toList : Nat) : Int) = y at *
      have hc := HB2.out.cellAt (i := 0) rfl
      go_wp2_with fail
      go_ret
      exact ⟨ret_int Hn.out, HF.out⟩

set_option maxHeartbeats 1000000 in
theorem cSum (s : ByteArray) (w : World) (hs : s.size ≤ maxLen) :
    Calls Try.prog 23 #[.string s] w fun e w' => e = .returned (.int .u32 ((crcMore 0 s.data.toList : Nat) : Int)) ∧ Fr [] w w' := by
  go_enter Try.func23, Try.ntmps23
  go_wp2_with (go_at_call 22; refine (cMore 0 _ _ (by decide) hs).mono ?_; rintro e w' ⟨rfl, h4⟩)
  go_ret
  exact ⟨rfl, h4⟩

theorem ref_test {q d : Int} {a c k : Nat} (hq : q = (a : Int)) (ha : a < 4294967296) (hd : d = (c : Int)) (hc : c < 256) :
    bits BinOp.xor IntKind.u32 q (d / 2 ^ k % 4294967296) = ((a ^^^ (c / 2 ^ k) : Nat) : Int) := by
  subst hq hd
  have h1 : c / 2 ^ k ≤ c := Nat.div_le_self _ _
  have h2 : ((c : Int) / 2 ^ k % 4294967296) = ((c / 2 ^ k : Nat) : Int) := by
    have : ((c : Int) / 2 ^ k) = ((c / 2 ^ k : Nat) : Int) := by simp
    rw [this]
    generalize c / 2 ^ k = z at h1
    omega
  rw [h2, xor_u32 _ _ ha (by omega)]

theorem ref_xor {q : Int} {a : Nat} (hq : q = (a : Int)) (ha : a < 4294967296) : bits BinOp.xor IntKind.u32 (q / 2) 2197175160 = (((a / 2) ^^^ 2197175160 : Nat) : Int) := by
  subst hq
  have h1 : ((a : Int) / 2) = ((a / 2 : Nat) : Int) := by omega
  rw [h1]
  exact xor_u32 _ 2197175160 (by omega) (by decide)

theorem crcRef_lt (c k x : Nat) (hx : x < 4294967296) (hc : c < 256) : crcRef c k x < 4294967296 := by
  have h := crcRef_eq c k x
  have h1 : crcBits k (x ^^^ c) < 2 ^ 32 := by
    have : x ^^^ c < 2 ^ 32 := Nat.xor_lt_two_pow (by simpa using hx) (by simp; omega)
    simpa using crcBits_lt k (by simpa using this)
  have h2 : c / 2 ^ k < 2 ^ 32 := by
    have : c / 2 ^ k ≤ c := Nat.div_le_self _ _
    simp; omega
  have h3 : crcRef c k x = crcBits k (x ^^^ c) ^^^ (c / 2 ^ k) := by
    rw [h, Nat.xor_assoc, Nat.xor_self, Nat.xor_zero]
  rw [h3]
  simpa using Nat.xor_lt_two_pow h1 h2

theorem tmod2 {x : Int} {n : Nat} (h : x = (n : Int)) : (x.tmod 2 == 1) = decide (n % 2 = 1) := by
  subst h
  rw [Int.tmod_eq_emod_of_nonneg (by omega)]
  by_cases h : n % 2 = 1
  · have : ((n : Int) % 2) = 1 := by omega
    simp [h, this]
  · have : ((n : Int) % 2) = 0 := by omega
    simp [h, this]

set_option maxRecDepth 100000 in
set_option maxHeartbeats 2000000 in
theorem rcMore (a : Nat) (s : ByteArray) (w : World) (ha : a < 4294967296) (hs : s.size ≤ maxLen) :
    Calls Try.prog 46 #[.int .u32 (a : Int), .string s] w fun e w' => e = .returned (.int .u32 ((crcMore a s.data.toList : Nat) : Int)) ∧ w = w' := by
  unfold maxLen at hs
  generalize hq : (a : Int) = q
  have h0 : 0 ≤ q := by omega
  have h1 : q < 4294967296 := by omega
  have Hv := Lib.hid (not_val hq.symm ha)
  have Hlt := Lib.hid ha
  clear hq ha
  go_enter Try.func46, Try.ntmps46
  go_wp2_with fail
  go_loop [0, 5] (fun x i => ∃ (k : Nat) (q : Int), k ≤ s.size ∧ 0 ≤ q ∧ q < 4294967296 ∧ x = .int .u32 q ∧ i = .int .i64 k ∧ Hid (q = ((crcRun (4294967295 - a) (s.data.toList.take k) : Nat) : Int))) (fun _ i => s.size - (intOf i).toNat)
  case atStart => exact ⟨0, _, by omega, by rw [Hv.out]; omega, by rw [Hv.out]; omega, rfl, rfl, Hv.out⟩
  case round =>
    obtain ⟨k, q, hk, h0, h1, rfl, rfl, HQ⟩ := hrel
    by_cases hlt : k < s.size
    · have HS := Lib.hid (crcRun_succ (4294967295 - a) s.data.toList k hlt)
      have hX := Lib.hid (crcRun_lt (s.data.toList.take k) (x := 4294967295 - a) (by omega))
      have HC : Hid ((s.data.toList.getD k 0) = s[k]) := by
        show (s.data.toList.getD k 0) = s[k]
        have h' : k < s.data.toList.length := hlt
        rw [List.getD_eq_getElem?_getD, List.getElem?_eq_getElem h']; rfl
      generalize crcRun (4294967295 - a) (s.data.toList.take k) = X at *
      go_wp2_with fail
      go_loop [0, 6] (fun x i => ∃ (j : Nat) (p : Int), j ≤ 8 ∧ 0 ≤ p ∧ p < 4294967296 ∧ x = .int .u32 p ∧ i = .int .i64 j ∧ Hid (p = ((crcRef s[k].toNat j X : Nat) : Int))) (fun _ i => 8 - (intOf i).toNat)
      case atStart => exact ⟨0, _, by omega, h0, h1, rfl, rfl, HQ⟩
      case round =>
        obtain ⟨j, p, hj, h2, h3, rfl, rfl, HP⟩ := hrel
        have hc := s[k].toNat_lt
        have HR := Lib.hid (crcRef_lt s[k].toNat j X hX.out hc)
        have HT := Lib.hid (tmod2 (ref_test (k := j) HP.out HR.out (rfl : (s[k].toNat : Int) = (s[k].toNat : Int)) hc))
        have HX := Lib.hid (ref_xor HP.out HR.out)
        have HD : Hid (p / 2 = ((crcRef s[k].toNat j X / 2 : Nat) : Int)) := by
          have := HP.out
          show _ = _
          omega
        by_cases hlt8 : j < 8
        · go_wp2_with fail
          · rename_i ht
            rw [HT.out] at ht
            go_round
            case rel =>
              refine ⟨j + 1, _, by omega, ?_, ?_, rfl, by go_num, ?_⟩
              · rw [HX.out]; omega
              · rw [HX.out]
                have : crcRef s[k].toNat j X / 2 ^^^ 2197175160 < 2 ^ 32 := Nat.xor_lt_two_pow (by have := HR.out; simp; omega) (by decide)
                simp at this
                omega
              · show _ = _
                rw [HX.out, crcRef, if_pos (by simpa using ht)]
            case measure => simp [intOf]; omega
          · rename_i ht
            rw [HT.out] at ht
            go_round
            case rel => exact ⟨j + 1, _, by omega, by omega, by omega, rfl, by go_num, by show _ = _; rw [HD.out, crcRef, if_neg (by simpa using ht)]; simp⟩
            case measure => simp [intOf]; omega
        · obtain rfl : j = 8 := by omega
          go_wp2_with fail
          go_round
          case rel => exact ⟨k + 1, _, by omega, h2, h3, rfl, by go_num, by show _ = _; rw [HP.out, crcRef_byte, HS.out, HC.out]⟩
          case measure => simp [intOf]; omega
    · have e : s.data.toList.take k = s.data.toList := List.take_of_length_le (show s.data.toList.length ≤ k from Nat.le_of_not_lt hlt)
      have HQ2 : Hid (q = ((crcRun (4294967295 - a) s.data.toList : Nat) : Int)) := by rw [← e]; exact HQ
      clear HQ e
      have Hr := Lib.hid (crcRun_lt s.data.toList (x := 4294967295 - a) (by omega))
      have Hn := Lib.hid (not_val HQ2.out Hr.out)
      go_wp2_with fail
      go_ret
      exact ⟨ret_int Hn.out, rfl⟩

set_option maxHeartbeats 1000000 in
theorem rcSum (s : ByteArray) (w : World) (hs : s.size ≤ maxLen) :
    Calls Try.prog 26 #[.string s] w fun e w' => e = .returned (.int .u32 ((crcMore 0 s.data.toList : Nat) : Int)) ∧ w = w' := by
  go_enter Try.func26, Try.ntmps26
  go_wp2_with (go_at_call 46; refine (rcMore 0 _ _ (by decide) hs).mono ?_; rintro e w' ⟨rfl, rfl⟩)
  go_ret
  exact ⟨rfl, rfl⟩
end Go.Proofs.Ytacdbglocpaeaaa
