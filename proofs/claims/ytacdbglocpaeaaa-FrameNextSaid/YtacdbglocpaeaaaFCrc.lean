/-
  crc: the contracts of the program's sums and of the reference's: both are crcMore.
-/
import Derived.Test.YtacdbglocpaeaaaFVar
import Derived.KernelRfl
import Derived.RegionTactic
import Derived.ChangeAlike
namespace Go.Proofs.Ytacdbglocpaeaaa
open Go.RowKit

theorem xor_u32 (a b : Nat) (ha : a < 4294967296) (hb : b < 4294967296) : bits .xor .u32 (a : Int) (b : Int) = ((a ^^^ b : Nat) : Int) := by
  have ha' : a % 2 ^ 32 = a := Nat.mod_eq_of_lt (by simpa using ha)
  have hb' : b % 2 ^ 32 = b := Nat.mod_eq_of_lt (by simpa using hb)
  have hx : a ^^^ b < 2 ^ 32 := Nat.xor_lt_two_pow (by simpa using ha) (by simpa using hb)
  have hb2 : IntKind.u32.bits = 32 := rfl
  simp only [bits, hb2, BitVec.ofInt_natCast, BitVec.toNat_xor, BitVec.toNat_ofNat, ha', hb']
  simp [IntKind.wrap, IntKind.bits, IntKind.signed]
  omega

theorem and1_u32 (a : Nat) (ha : a < 4294967296) : bits .and .u32 (a : Int) 1 = ((a % 2 : Nat) : Int) := by
  have ha' : a % 2 ^ 32 = a := Nat.mod_eq_of_lt (by simpa using ha)
  have hb2 : IntKind.u32.bits = 32 := rfl
  have e1 : (1 : Int) = ((1 : Nat) : Int) := rfl
  rw [e1]
  simp only [bits, hb2, BitVec.ofInt_natCast, BitVec.toNat_and, BitVec.toNat_ofNat, ha']
  simp [IntKind.wrap, IntKind.bits, IntKind.signed, Nat.and_one_is_mod]
  omega

theorem not_u32 (a : Nat) (ha : a < 4294967296) : bits .xor .u32 IntKind.u32.max (a : Int) = ((4294967295 - a : Nat) : Int) := by
  have e1 : IntKind.u32.max = ((4294967295 : Nat) : Int) := rfl
  rw [e1, xor_u32 _ _ (by omega) ha]
  congr 1
  have h2 : (BitVec.allOnes 32 ^^^ BitVec.ofNat 32 a) = ~~~ (BitVec.ofNat 32 a) := BitVec.allOnes_xor
  have h3 := congrArg BitVec.toNat h2
  simp only [BitVec.toNat_xor, BitVec.toNat_allOnes, BitVec.toNat_ofNat, BitVec.toNat_not] at h3
  rw [Nat.mod_eq_of_lt (by simpa using ha)] at h3
  simpa using h3

/-- One bit. -/
def crcBit (x : Nat) : Nat := (x / 2) ^^^ (if x % 2 = 1 then 2197175160 else 0)
def crcBits : Nat → Nat → Nat
  | 0, x => x
  | k + 1, x => crcBits k (crcBit x)
def crcByte (x : Nat) (c : UInt8) : Nat := crcBits 8 (x ^^^ c.toNat)
def crcRun (x : Nat) (l : List UInt8) : Nat := l.foldl crcByte x
def crcMore (sum : Nat) (l : List UInt8) : Nat := 4294967295 - crcRun (4294967295 - sum) l

theorem crcBit_lt {x : Nat} (h : x < 4294967296) : crcBit x < 4294967296 := by
  have h2 : x / 2 < 2 ^ 32 := by simp; omega
  have h3 : (if x % 2 = 1 then 2197175160 else 0) < 2 ^ 32 := by split <;> decide
  have := Nat.xor_lt_two_pow h2 h3
  simpa [crcBit] using this

theorem crcBits_lt (k : Nat) : ∀ {x : Nat}, x < 4294967296 → crcBits k x < 4294967296 := by
  induction k with
  | zero => exact fun h => h
  | succ k ih => exact fun h => ih (crcBit_lt h)

theorem crcBits_succ (k : Nat) : ∀ x, crcBits (k + 1) x = crcBit (crcBits k x) := by
  induction k with
  | zero => intro x; rfl
  | succ k ih => intro x; rw [crcBits, ih]; rfl

theorem xor_byte_lt {x : Nat} (h : x < 4294967296) (c : UInt8) : x ^^^ c.toNat < 4294967296 := by
  have := Nat.xor_lt_two_pow (n := 32) (x := x) (y := c.toNat) (by simpa using h) (by have := c.toNat_lt; simp; omega)
  simpa using this

theorem crcByte_lt {x : Nat} (h : x < 4294967296) (c : UInt8) : crcByte x c < 4294967296 := crcBits_lt 8 (xor_byte_lt h c)

theorem crcRun_lt (l : List UInt8) : ∀ {x : Nat}, x < 4294967296 → crcRun x l < 4294967296 := by
  induction l with
  | nil => exact fun h => h
  | cons c l ih => exact fun h => ih (crcByte_lt h c)

theorem crcMore_lt (sum : Nat) (l : List UInt8) : crcMore sum l < 4294967296 := by unfold crcMore; omega

/-- The reference's bit: the byte's bits are taken in one by one. -/
def crcRef (c : Nat) : Nat → Nat → Nat
  | 0, x => x
  | k + 1, x => (crcRef c k x / 2) ^^^ (if (crcRef c k x ^^^ (c / 2 ^ k)) % 2 = 1 then 2197175160 else 0)

theorem crcRef_eq (c : Nat) (k : Nat) (x : Nat) : crcBits k (x ^^^ c) = crcRef c k x ^^^ (c / 2 ^ k) := by
  induction k with
  | zero => simp [crcBits, crcRef]
  | succ k ih =>
    rw [crcBits_succ, ih, crcRef, crcBit]
    have h1 : (crcRef c k x ^^^ (c / 2 ^ k)) / 2 = crcRef c k x / 2 ^^^ (c / 2 ^ (k + 1)) := by
      have this : (crcRef c k x ^^^ c / 2 ^ k) >>> 1 = crcRef c k x >>> 1 ^^^ (c / 2 ^ k) >>> 1 := Nat.shiftRight_xor_distrib
      simp only [Nat.shiftRight_eq_div_pow] at this
      rw [Nat.pow_succ, ← Nat.div_div_eq_div_mul]
      simpa using this
    rw [h1, Nat.xor_assoc, Nat.xor_assoc, Nat.xor_comm (c / 2 ^ (k + 1))]

theorem crcRef_byte (x : Nat) (c : UInt8) : crcRef c.toNat 8 x = crcByte x c := by
  have h := crcRef_eq c.toNat 8 x
  have h2 : c.toNat / 2 ^ 8 = 0 := Nat.div_eq_of_lt c.toNat_lt
  rw [h2, Nat.xor_zero] at h
  exact h.symm

theorem step_val {q : Int} {a : Nat} (hq : q = (a : Int)) (ha : a < 4294967296) :
    bits BinOp.xor IntKind.u32 (q / 2) (2197175160 * bits BinOp.and IntKind.u32 q 1 % 4294967296) = ((crcBit a : Nat) : Int) := by
  subst hq
  rw [and1_u32 a ha]
  have h1 : ((a : Int) / 2) = ((a / 2 : Nat) : Int) := by omega
  have h2 : (2197175160 * ((a % 2 : Nat) : Int)) % 4294967296 = (((if a % 2 = 1 then 2197175160 else 0) : Nat) : Int) := by
    split <;> omega
  rw [h1, h2, xor_u32 _ _ (by omega) (by split <;> omega)]
  rfl

set_option maxRecDepth 100000 in
set_option maxHeartbeats 1000000 in
theorem cStep (r : Nat) (a : Nat) (w : World) (ha : a < 4294967296) (h : Blk w r #[.int .u32 (a : Int)] 77) :
    Calls Try.prog 61 #[.pointer (some ⟨r, 0, none⟩)] w fun e w' => e = .returned (.tuple #[]) ∧ Blk w' r #[.int .u32 ((crcBit a : Nat) : Int)] 77 ∧ Fr [r] w w' := by
  generalize hq : (a : Int) = q at h
  have h0 : 0 ≤ q := by omega
  have h1 : q < 4294967296 := by omega
  have hv := step_val hq.symm ha
  have Hv := Lib.hid hv
  clear hv
  have Hq := Lib.hid hq
  clear hq ha
  have c0 := h.cellAt (i := 0) rfl
  have f0 := h.froz 0
  go_enter Try.func61, Try.ntmps61
  go_wp2
  go_region
  go_end0
  rw [Hv.out]
  exact ⟨rfl, Blk.set h 0 _, ((Fr.refl _ _).drew).setCell (by simp) _⟩
theorem take_val {q : Int} {a : Nat} (hq : q = (a : Int)) (ha : a < 4294967296) (c : UInt8) {d : Int} (hd : d = (c.toNat : Int)) :
    bits BinOp.xor IntKind.u32 q d = ((a ^^^ c.toNat : Nat) : Int) := by
  subst hq hd
  exact xor_u32 a _ ha (by have := c.toNat_lt; omega)

set_option maxRecDepth 100000 in
set_option maxHeartbeats 1000000 in
theorem cTake (r : Nat) (a : Nat) (c : UInt8) (w : World) (ha : a < 4294967296) (h : Blk w r #[.int .u32 (a : Int)] 77) :
    Calls Try.prog 45 #[.pointer (some ⟨r, 0, none⟩), .int .u8 (c.toNat : Int)] w fun e w' => e = .returned (.tuple #[]) ∧ Blk w' r #[.int .u32 ((crcByte a c : Nat) : Int)] 77 ∧ Fr [r] w w' := by
  have hmf : ∀ (fn : Fn) (first cap : Array Value) (w : World), (Instr.makeFunc fn first cap).run Try.prog w = .ok (.func fn first cap) w := fun _ _ _ _ => rfl
  generalize hq : (a : Int) = q at h
  generalize hd : (c.toNat : Int) = d
  have h0 : 0 ≤ q := by omega
  have h1 : q < 4294967296 := by omega
  have h2 : 0 ≤ d := by omega
  have h3 : d < 256 := by have := c.toNat_lt; omega
  have hv := take_val hq.symm ha c hd.symm
  have Hv := Lib.hid hv
  clear hv
  have Hlt := Lib.hid (xor_byte_lt ha c)
  clear hq ha hd
  have c0 := h.cellAt (i := 0) rfl
  have f0 := h.froz 0
  go_enter Try.func45, Try.ntmps45
  go_wp2_with fail
  have HB : Hid (Blk (w.setCell ⟨r, 0, none⟩ (.int .u32 (bits BinOp.xor IntKind.u32 q d))) r #[.int .u32 ((a ^^^ c.toNat : Nat) : Int)] 77) := by
    rw [Hv.out]; exact Blk.set h 0 _
  have HF : Hid (Fr [r] w (w.setCell ⟨r, 0, none⟩ (.int .u32 (bits BinOp.xor IntKind.u32 q d)))) := (Fr.refl _ _).setCell (by simp) _
  go_loopw [14] (fun i wr => ∃ k : Nat, k ≤ 8 ∧ i = .int .i64 k ∧ Hid (Blk wr r #[.int .u32 ((crcBits k (a ^^^ c.toNat) : Nat) : Int)] 77) ∧ Hid (Fr [r] w wr)) (fun i _ => 8 - (intOf i).toNat)
  case atStart => exact ⟨0, by omega, rfl, HB, HF⟩
  case round =>
    obtain ⟨k, hk, rfl, HB, HF⟩ := hrel
    by_cases hlt : k < 8
    · go_wp2_with (go_at_call 61; refine (cStep _ _ _ (crcBits_lt k Hlt.out) HB.out).mono ?_; rintro e w' ⟨rfl, h4, h5⟩)
      go_roundw
      case rel => exact ⟨k + 1, by omega, by go_num, by rw [crcBits_succ]; exact h4, HF.out.trans1 h5⟩
      case measure => simp [intOf]; omega
    · obtain rfl : k = 8 := by omega
      go_wp2_with fail
      go_end0
      exact ⟨rfl, HB.out, HF.out⟩
end Go.Proofs.Ytacdbglocpaeaaa
