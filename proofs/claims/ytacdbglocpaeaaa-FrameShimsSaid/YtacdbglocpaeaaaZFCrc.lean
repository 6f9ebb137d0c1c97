/-
  Texts of this seat, joined: FCrc FCrc2.
-/
import Derived.Test.YtacdbglocpaeaaaZFVar
import Derived.KernelRfl
import Derived.RegionTactic
import Derived.ChangeAlike
set_option linter.unusedSimpArgs false
set_option linter.unusedVariables false
namespace Go.Proofs.Ytacdbglocpaeaaa
open Go.RowKit

theorem xor_u32 (a b : Nat) (ha : a < 4294967296) (hb : b < 4294967296) : bits .xor .u32 (a : Int) (b : Int) = ((a ^^^ b : Nat) : Int) := by
  have ha' : a % 2 ^ 32 = a := Nat.mod_eq_of_lt (by simpa using ha)
  have hb' : b % 2 ^ 32 = b := Nat.mod_eq_of_lt (by simpa using hb)
  have hx : a ^^^ b < 2 ^ 32 := Nat.xor_lt_two_pow (by simpa using ha) (by simpa using hb)
  have hb2 : IntKind.u32.bits = 32 := rfl
  simp only [bits, hb2, BitVec.ofInt_natCast, BitVec.toNat_xor, BitVec.toNat_ofNat, ha', hb']
  simp [IntKind.wrap, IntKind.bits, IntKind.signed]
  omega

theorem and1_u32 (a : Nat) (ha : a < 4294967296) : bits .and .u32 (a : Int) 1 = ((a % 2 : Nat) : Int) := by
  have ha' : a % 2 ^ 32 = a := Nat.mod_eq_of_lt (by simpa using ha)
  have hb2 : IntKind.u32.bits = 32 := rfl
  have e1 : (1 : Int) = ((1 : Nat) : Int) := rfl
  rw [e1]
  simp only [bits, hb2, BitVec.ofInt_natCast, BitVec.toNat_and, BitVec.toNat_ofNat, ha']
  simp [IntKind.wrap, IntKind.bits, IntKind.signed, Nat.and_one_is_mod]
  omega

theorem not_u32 (a : Nat) (ha : a < 4294967296) : bits .xor .u32 IntKind.u32.max (a : Int) = ((4294967295 - a : Nat) : Int) := by
  have e1 : IntKind.u32.max = ((4294967295 : Nat) : Int) := rfl
  rw [e1, xor_u32 _ _ (by omega) ha]
  congr 1
  have h2 : (BitVec.allOnes 32 ^^^ BitVec.ofNat 32 a) = ~~~ (BitVec.ofNat 32 a) := BitVec.allOnes_xor
  have h3 := congrArg BitVec.toNat h2
  simp only [BitVec.toNat_xor, BitVec.toNat_allOnes, BitVec.toNat_ofNat, BitVec.toNat_not] at h3
  rw [Nat.mod_eq_of_lt (by simpa using ha)] at h3
  simpa using h3

/-- One bit. -/
def crcBit (x : Nat) : Nat := (x / 2) ^^^ (if x % 2 = 1 then 2197175160 else 0)
def crcBits : Nat → Nat → Nat
  | 0, x => x
  | k + 1, x => crcBits k (crcBit x)
def crcByte (x : Nat) (c : UInt8) : Nat := crcBits 8 (x ^^^ c.toNat)
def crcRun (x : Nat) (l : List UInt8) : Nat := l.foldl crcByte x
def crcMore (sum : Nat) (l : List UInt8) : Nat := 4294967295 - crcRun (4294967295 - sum) l

theorem crcBit_lt {x : Nat} (h : x < 4294967296) : crcBit x < 4294967296 := by
  have h2 : x / 2 < 2 ^ 32 := by simp; omega
  have h3 : (if x % 2 = 1 then 2197175160 else 0) < 2 ^ 32 := by split <;> decide
  have := Nat.xor_lt_two_pow h2 h3
  simpa [crcBit] using this

theorem crcBits_lt (k : Nat) : ∀ {x : Nat}, x < 4294967296 → crcBits k x < 4294967296 := by
  induction k with
  | zero => exact fun h => h
  | succ k ih => exact fun h => ih (crcBit_lt h)

theorem crcBits_succ (k : Nat) : ∀ x, crcBits (k + 1) x = crcBit (crcBits k x) := by
  induction k with
  | zero => intro x; rfl
  | succ k ih => intro x; rw [crcBits, ih]; rfl

theorem xor_byte_lt {x : Nat} (h : x < 4294967296) (c : UInt8) : x ^^^ c.toNat < 4294967296 := by
  have := Nat.xor_lt_two_pow (n := 32) (x := x) (y := c.toNat) (by simpa using h) (by have := c.toNat_lt; simp; omega)
  simpa using this

theorem crcByte_lt {x : Nat} (h : x < 4294967296) (c : UInt8) : crcByte x c < 4294967296 := crcBits_lt 8 (xor_byte_lt h c)

theorem crcRun_lt (l : List UInt8) : ∀ {x : Nat}, x < 4294967296 → crcRun x l < 4294967296 := by
  induction l with
  | nil => exact fun h => h
  | cons c l ih => exact fun h => ih (crcByte_lt h c)

theorem crcMore_lt (sum : Nat) (l : List UInt8) : crcMore sum l < 4294967296 := by unfold crcMore; omega

/-- The reference's bit: the byte's bits are taken in one by one. -/
def crcRef (c : Nat) : Nat → Nat → Nat
  | 0, x => x
  | k + 1, x => (crcRef c k x / 2) ^^^ (if (crcRef c k x ^^^ (c / 2 ^ k)) % 2 = 1 then 2197175160 else 0)

theorem crcRef_eq (c : Nat) (k : Nat) (x : Nat) : crcBits k (x ^^^ c) = crcRef c k x ^^^ (c / 2 ^ k) := by
  induction k with
  | zero => simp [crcBits, crcRef]
  | succ k ih =>
    rw [crcBits_succ, ih, crcRef, crcBit]
    have h1 : (crcRef c k x ^^^ (c / 2 ^ k)) / 2 = crcRef c k x / 2 ^^^ (c / 2 ^ (k + 1)) := by
      have this : (crcRef c k x ^^^ c / 2 ^ k) >>> 1 = crcRef c k x >>> 1 ^^^ (c / 2 ^ k) >>> 1 := Nat.shiftRight_xor_distrib
      simp only [Nat.shiftRight_eq_div_pow] at this
      rw [Nat.pow_succ, ← Nat.div_div_eq_div_mul]
      simpa using this
    rw [h1, Nat.xor_assoc, Nat.xor_assoc, Nat.xor_comm (c / 2 ^ (k + 1))]

theorem crcRef_byte (x : Nat) (c : UInt8) : crcRef c.toNat 8 x = crcByte x c := by
  have h := crcRef_eq c.toNat 8 x
  have h2 : c.toNat / 2 ^ 8 = 0 := Nat.div_eq_of_lt c.toNat_lt
  rw [h2, Nat.xor_zero] at h
  exact h.symm

theorem step_val {q : Int} {a : Nat} (hq : q = (a : Int)) (ha : a < 4294967296) :
    bits BinOp.xor IntKind.u32 (q / 2) (2197175160 * bits BinOp.and IntKind.u32 q 1 % 4294967296) = ((crcBit a : Nat) : Int) := by
  subst hq
  rw [and1_u32 a ha]
  have h1 : ((a : Int) / 2) = ((a / 2 : Nat) : Int) := by omega
  have h2 : (2197175160 * ((a % 2 : Nat) : Int)) % 4294967296 = (((if a % 2 = 1 then 2197175160 else 0) : Nat) : Int) := by
    split <;> omega
  rw [h1, h2, xor_u32 _ _ (by omega) (by split <;> omega)]
  rfl

set_option maxRecDepth 100000 in
set_option maxHeartbeats 1000000 in
theorem cStep (r : Nat) (a : Nat) (w : World) (ha : a < 4294967296) (h : Blk w r #[.int .u32 (a : Int)] 77) :
    Calls Try.prog 61 #[.pointer (some ⟨r, 0, none⟩)] w fun e w' => e = .returned (.tuple #[]) ∧ Blk w' r #[.int .u32 ((crcBit a : Nat) : Int)] 77 ∧ Fr [r] w w' := by
  generalize hq : (a : Int) = q at h
  have h0 : 0 ≤ q := by omega
  have h1 : q < 4294967296 := by omega
  have hv := step_val hq.symm ha
  have Hv := Lib.hid hv
  clear hv
  have Hq := Lib.hid hq
  clear hq ha
  have c0 := h.cellAt (i := 0) rfl
  have f0 := h.froz 0
  go_enter Try.func61, Try.ntmps61
  go_wp2
  go_region
  go_end0
  rw [Hv.out]
  exact ⟨rfl, Blk.set h 0 _, ((Fr.refl _ _).drew).setCell (by simp) _⟩
theorem take_val {q : Int} {a : Nat} (hq : q = (a : Int)) (ha : a < 4294967296) (c : UInt8) {d : Int} (hd : d = (c.toNat : Int)) :
    bits BinOp.xor IntKind.u32 q d = ((a ^^^ c.toNat : Nat) : Int) := by
  subst hq hd
  exact xor_u32 a _ ha (by have := c.toNat_lt; omega)

set_option maxRecDepth 100000 in
set_option maxHeartbeats 1000000 in
theorem cTake (r : Nat) (a : Nat) (c : UInt8) (w : World) (ha : a < 4294967296) (h : Blk w r #[.int .u32 (a : Int)] 77) :
    Calls Try.prog 45 #[.pointer (some ⟨r, 0, none⟩), .int .u8 (c.toNat : Int)] w fun e w' => e = .returned (.tuple #[]) ∧ Blk w' r #[.int .u32 ((crcByte a c : Nat) : Int)] 77 ∧ Fr [r] w w' := by
  have hmf : ∀ (fn : Fn) (first cap : Array Value) (w : World), (Instr.makeFunc fn first cap).run Try.prog w = .ok (.func fn first cap) w := fun _ _ _ _ => rfl
  generalize hq : (a : Int) = q at h
  generalize hd : (c.toNat : Int) = d
  have h0 : 0 ≤ q := by omega
  have h1 : q < 4294967296 := by omega
  have h2 : 0 ≤ d := by omega
  have h3 : d < 256 := by have := c.toNat_lt; omega
  have hv := take_val hq.symm ha c hd.symm
  have Hv := Lib.hid hv
  clear hv
  have Hlt := Lib.hid (xor_byte_lt ha c)
  clear hq ha hd
  have c0 := h.cellAt (i := 0) rfl
  have f0 := h.froz 0
  go_enter Try.func45, Try.ntmps45
  go_wp2_with fail
  have HB : Hid (Blk (w.setCell ⟨r, 0, none⟩ (.int .u32 (bits BinOp.xor IntKind.u32 q d))) r #[.int .u32 ((a ^^^ c.toNat : Nat) : Int)] 77) := by
    rw [Hv.out]; exact Blk.set h 0 _
  have HF : Hid (Fr [r] w (w.setCell ⟨r, 0, none⟩ (.int .u32 (bits BinOp.xor IntKind.u32 q d)))) := (Fr.refl _ _).setCell (by simp) _
  go_loopw [14] (fun i wr => ∃ k : Nat, k ≤ 8 ∧ i = .int .i64 k ∧ Hid (Blk wr r #[.int .u32 ((crcBits k (a ^^^ c.toNat) : Nat) : Int)] 77) ∧ Hid (Fr [r] w wr)) (fun i _ => 8 - (intOf i).toNat)
  case atStart => exact ⟨0, by omega, rfl, HB, HF⟩
  case round =>
    obtain ⟨k, hk, rfl, HB, HF⟩ := hrel
    by_cases hlt : k < 8
    · go_wp2_with (go_at_call 61; refine (cStep _ _ _ (crcBits_lt k Hlt.out) HB.out).mono ?_; rintro e w' ⟨rfl, h4, h5⟩)
      go_roundw
      case rel => exact ⟨k + 1, by omega, by go_num, by rw [crcBits_succ]; exact h4, HF.out.trans1 h5⟩
      case measure => simp [intOf]; omega
    · obtain rfl : k = 8 := by omega
      go_wp2_with fail
      go_end0
      exact ⟨rfl, HB.out, HF.out⟩
end Go.Proofs.Ytacdbglocpaeaaa

namespace Go.Proofs.Ytacdbglocpaeaaa
open Go.RowKit

theorem not_val {q : Int} {a : Nat} (hq : q = (a : Int)) (ha : a < 4294967296) : bits BinOp.xor IntKind.u32 IntKind.u32.max q = ((4294967295 - a : Nat) : Int) := by
  subst hq; exact not_u32 a ha

theorem crcRun_succ (x : Nat) (l : List UInt8) (k : Nat) (h : k < l.length) : crcRun x (l.take (k + 1)) = crcByte (crcRun x (l.take k)) (l.getD k 0) :=
  foldl_take_succ crcByte x l k h

set_option maxRecDepth 100000 in
set_option maxHeartbeats 1000000 in
theorem cMore (a : Nat) (s : ByteArray) (w : World) (ha : a < 4294967296) (hs : s.size ≤ maxLen) :
    Calls Try.prog 22 #[.int .u32 (a : Int), .string s] w fun e w' => e = .returned (.int .u32 ((crcMore a s.data.toList : Nat) : Int)) ∧ Fr [] w w' := by
  unfold maxLen at hs
  generalize hq : (a : Int) = q
  have h0 : 0 ≤ q := by omega
  have h1 : q < 4294967296 := by omega
  have Hv := Lib.hid (not_val hq.symm ha)
  have Hlt := Lib.hid ha
  clear hq ha
  go_enter Try.func22, Try.ntmps22
  have HB0 : Hid (Blk (w.alloc (.cells #[.int .u32 (bits BinOp.xor IntKind.u32 IntKind.u32.max q)] 77)) w.heap.size #[.int .u32 ((crcRun (4294967295 - a) [] : Nat) : Int)] 77) := by
    rw [Hv.out]; exact Blk.new _ _ _
  have HF0 : Hid (Fr [] w (w.alloc (.cells #[.int .u32 (bits BinOp.xor IntKind.u32 IntKind.u32.max q)] 77))) := (Fr.refl _ _).alloc _
  go_wp2_with (refine wpList_bytes 9 46 5 _ Try.underlying9 Try.underlying46 Try.underlying5 _ rfl ?_; intro g cap w2 hg hB hF)
  have hne : Hid (w.heap.size ≠ g) := by
    have h2 : g = w.heap.size + 1 := hg.out.trans (by simp)
    show w.heap.size ≠ g
    omega
  clear hg
  go_loopw [7, 13] (fun _ i wr => ∃ k : Nat, k ≤ s.size ∧ i = .int .i64 k ∧ Hid (Blk wr w.heap.size #[.int .u32 ((crcRun (4294967295 - a) (s.data.toList.take k) : Nat) : Int)] 77) ∧ Hid (Byt wr g s 5) ∧ Hid (Fr [] w wr)) (fun _ i _ => s.size - (intOf i).toNat)
  case atStart => exact ⟨0, by omega, rfl, HB0.out.fr0 hF.out, hB, HF0.out.trans0 hF.out⟩
  case round =>
    obtain ⟨k, hk, rfl, HB, HY, HF⟩ := hrel
    by_cases hlt : k < s.size
    · have hc := HY.out.cell hlt
      have HS := Lib.hid (crcRun_succ (4294967295 - a) s.data.toList k hlt)
      generalize s.data.toList.getD k 0 = b0 at *
      go_wp2_with (go_at_call 45; refine (cTake _ _ _ _ (crcRun_lt _ (by omega)) HB.out).mono ?_; rintro e w' ⟨rfl, h4, h5⟩)
      go_roundw
      case rel => exact ⟨k + 1, by omega, by go_num, by rw [HS.out]; exact h4, HY.out.fr h5 (by simpa using fun h => hne.out h.symm), HF.out.trans h5 (by simp)⟩
      case measure => simp [intOf]; omega
    · have e : s.data.toList.take k = s.data.toList := List.take_of_length_le (show s.data.toList.length ≤ k from Nat.le_of_not_lt hlt)
      have HB2 : Hid (Blk wr w.heap.size #[.int .u32 ((crcRun (4294967295 - a) s.data.toList : Nat) : Int)] 77) := by rw [← e]; exact HB
      clear HB e
      have Hr := Lib.hid (crcRun_lt s.data.toList (x := 4294967295 - a) (by omega))
      have Hn := Lib.hid (not_val rfl Hr.out)
      generalize ((crcRun (4294967295 - a) s.data.toList : Nat) : Int) = y at *
      have hc := HB2.out.cellAt (i := 0) rfl
      go_wp2_with fail
      go_ret
      exact ⟨ret_int Hn.out, HF.out⟩

set_option maxHeartbeats 1000000 in
theorem cSum (s : ByteArray) (w : World) (hs : s.size ≤ maxLen) :
    Calls Try.prog 23 #[.string s] w fun e w' => e = .returned (.int .u32 ((crcMore 0 s.data.toList : Nat) : Int)) ∧ Fr [] w w' := by
  go_enter Try.func23, Try.ntmps23
  go_wp2_with (go_at_call 22; refine (cMore 0 _ _ (by decide) hs).mono ?_; rintro e w' ⟨rfl, h4⟩)
  go_ret
  exact ⟨rfl, h4⟩

theorem ref_test {q d : Int} {a c k : Nat} (hq : q = (a : Int)) (ha : a < 4294967296) (hd : d = (c : Int)) (hc : c < 256) :
    bits BinOp.xor IntKind.u32 q (d / 2 ^ k % 4294967296) = ((a ^^^ (c / 2 ^ k) : Nat) : Int) := by
  subst hq hd
  have h1 : c / 2 ^ k ≤ c := Nat.div_le_self _ _
  have h2 : ((c : Int) / 2 ^ k % 4294967296) = ((c / 2 ^ k : Nat) : Int) := by
    have : ((c : Int) / 2 ^ k) = ((c / 2 ^ k : Nat) : Int) := by simp
    rw [this]
    generalize c / 2 ^ k = z at h1
    omega
  rw [h2, xor_u32 _ _ ha (by omega)]

theorem ref_xor {q : Int} {a : Nat} (hq : q = (a : Int)) (ha : a < 4294967296) : bits BinOp.xor IntKind.u32 (q / 2) 2197175160 = (((a / 2) ^^^ 2197175160 : Nat) : Int) := by
  subst hq
  have h1 : ((a : Int) / 2) = ((a / 2 : Nat) : Int) := by omega
  rw [h1]
  exact xor_u32 _ 2197175160 (by omega) (by decide)

theorem crcRef_lt (c k x : Nat) (hx : x < 4294967296) (hc : c < 256) : crcRef c k x < 4294967296 := by
  have h := crcRef_eq c k x
  have h1 : crcBits k (x ^^^ c) < 2 ^ 32 := by
    have : x ^^^ c < 2 ^ 32 := Nat.xor_lt_two_pow (by simpa using hx) (by simp; omega)
    simpa using crcBits_lt k (by simpa using this)
  have h2 : c / 2 ^ k < 2 ^ 32 := by
    have : c / 2 ^ k ≤ c := Nat.div_le_self _ _
    simp; omega
  have h3 : crcRef c k x = crcBits k (x ^^^ c) ^^^ (c / 2 ^ k) := by
    rw [h, Nat.xor_assoc, Nat.xor_self, Nat.xor_zero]
  rw [h3]
  simpa using Nat.xor_lt_two_pow h1 h2

theorem tmod2 {x : Int} {n : Nat} (h : x = (n : Int)) : (x.tmod 2 == 1) = decide (n % 2 = 1) := by
  subst h
  rw [Int.tmod_eq_emod_of_nonneg (by omega)]
  by_cases h : n % 2 = 1
  · have : ((n : Int) % 2) = 1 := by omega
    simp [h, this]
  · have : ((n : Int) % 2) = 0 := by omega
    simp [h, this]

set_option maxRecDepth 100000 in
set_option maxHeartbeats 2000000 in
theorem rcMore (a : Nat) (s : ByteArray) (w : World) (ha : a < 4294967296) (hs : s.size ≤ maxLen) :
    Calls Try.prog 46 #[.int .u32 (a : Int), .string s] w fun e w' => e = .returned (.int .u32 ((crcMore a s.data.toList : Nat) : Int)) ∧ w = w' := by
  unfold maxLen at hs
  generalize hq : (a : Int) = q
  have h0 : 0 ≤ q := by omega
  have h1 : q < 4294967296 := by omega
  have Hv := Lib.hid (not_val hq.symm ha)
  have Hlt := Lib.hid ha
  clear hq ha
  go_enter Try.func46, Try.ntmps46
  go_wp2_with fail
  go_loop [0, 5] (fun x i => ∃ (k : Nat) (q : Int), k ≤ s.size ∧ 0 ≤ q ∧ q < 4294967296 ∧ x = .int .u32 q ∧ i = .int .i64 k ∧ Hid (q = ((crcRun (4294967295 - a) (s.data.toList.take k) : Nat) : Int))) (fun _ i => s.size - (intOf i).toNat)
  case atStart => exact ⟨0, _, by omega, by rw [Hv.out]; omega, by rw [Hv.out]; omega, rfl, rfl, Hv.out⟩
  case round =>
    obtain ⟨k, q, hk, h0, h1, rfl, rfl, HQ⟩ := hrel
    by_cases hlt : k < s.size
    · have HS := Lib.hid (crcRun_succ (4294967295 - a) s.data.toList k hlt)
      have hX := Lib.hid (crcRun_lt (s.data.toList.take k) (x := 4294967295 - a) (by omega))
      have HC : Hid ((s.data.toList.getD k 0) = s[k]) := by
        show (s.data.toList.getD k 0) = s[k]
        have h' : k < s.data.toList.length := hlt
        rw [List.getD_eq_getElem?_getD, List.getElem?_eq_getElem h']; rfl
      generalize crcRun (4294967295 - a) (s.data.toList.take k) = X at *
      go_wp2_with fail
      go_loop [0, 6] (fun x i => ∃ (j : Nat) (p : Int), j ≤ 8 ∧ 0 ≤ p ∧ p < 4294967296 ∧ x = .int .u32 p ∧ i = .int .i64 j ∧ Hid (p = ((crcRef s[k].toNat j X : Nat) : Int))) (fun _ i => 8 - (intOf i).toNat)
      case atStart => exact ⟨0, _, by omega, h0, h1, rfl, rfl, HQ⟩
      case round =>
        obtain ⟨j, p, hj, h2, h3, rfl, rfl, HP⟩ := hrel
        have hc := s[k].toNat_lt
        have HR := Lib.hid (crcRef_lt s[k].toNat j X hX.out hc)
        have HT := Lib.hid (tmod2 (ref_test (k := j) HP.out HR.out (rfl : (s[k].toNat : Int) = (s[k].toNat : Int)) hc))
        have HX := Lib.hid (ref_xor HP.out HR.out)
        have HD : Hid (p / 2 = ((crcRef s[k].toNat j X / 2 : Nat) : Int)) := by
          have := HP.out
          show _ = _
          omega
        by_cases hlt8 : j < 8
        · go_wp2_with fail
          · rename_i ht
            rw [HT.out] at ht
            go_round
            case rel =>
              refine ⟨j + 1, _, by omega, ?_, ?_, rfl, by go_num, ?_⟩
              · rw [HX.out]; omega
              · rw [HX.out]
                have : crcRef s[k].toNat j X / 2 ^^^ 2197175160 < 2 ^ 32 := Nat.xor_lt_two_pow (by have := HR.out; simp; omega) (by decide)
                simp at this
                omega
              · show _ = _
                rw [HX.out, crcRef, if_pos (by simpa using ht)]
            case measure => simp [intOf]; omega
          · rename_i ht
            rw [HT.out] at ht
            go_round
            case rel => exact ⟨j + 1, _, by omega, by omega, by omega, rfl, by go_num, by show _ = _; rw [HD.out, crcRef, if_neg (by simpa using ht)]; simp⟩
            case measure => simp [intOf]; omega
        · obtain rfl : j = 8 := by omega
          go_wp2_with fail
          go_round
          case rel => exact ⟨k + 1, _, by omega, h2, h3, rfl, by go_num, by show _ = _; rw [HP.out, crcRef_byte, HS.out, HC.out]⟩
          case measure => simp [intOf]; omega
    · have e : s.data.toList.take k = s.data.toList := List.take_of_length_le (show s.data.toList.length ≤ k from Nat.le_of_not_lt hlt)
      have HQ2 : Hid (q = ((crcRun (4294967295 - a) s.data.toList : Nat) : Int)) := by rw [← e]; exact HQ
      clear HQ e
      have Hr := Lib.hid (crcRun_lt s.data.toList (x := 4294967295 - a) (by omega))
      have Hn := Lib.hid (not_val HQ2.out Hr.out)
      go_wp2_with fail
      go_ret
      exact ⟨ret_int Hn.out, rfl⟩

set_option maxHeartbeats 1000000 in
theorem rcSum (s : ByteArray) (w : World) (hs : s.size ≤ maxLen) :
    Calls Try.prog 26 #[.string s] w fun e w' => e = .returned (.int .u32 ((crcMore 0 s.data.toList : Nat) : Int)) ∧ w = w' := by
  go_enter Try.func26, Try.ntmps26
  go_wp2_with (go_at_call 46; refine (rcMore 0 _ _ (by decide) hs).mono ?_; rintro e w' ⟨rfl, rfl⟩)
  go_ret
  exact ⟨rfl, rfl⟩
end Go.Proofs.Ytacdbglocpaeaaa
